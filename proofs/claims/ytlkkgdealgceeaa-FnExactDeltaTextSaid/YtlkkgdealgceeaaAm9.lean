/- Structs and slices built of parts. No condition. -/
import Derived.Test.YtlkkgdealgceeaaAm8
import Derived.Laws.Tables
namespace Am
open Go
set_option linter.unusedSimpArgs false
set_option linter.unusedVariables false

theorem splice_cons {α : Type} (l : List α) (off : Nat) (c : α) (xs : List α) (h : off < l.length) : splice (l.set off c) (off + 1) xs = splice l off (c :: xs) := by
  unfold splice
  have h1 : (l.set off c).take (off + 1) = l.take off ++ [c] := by
    rw [List.take_set, List.take_succ_eq_append_getElem h, List.set_append_right _ _ (by simp; omega)]
    simp [Nat.min_eq_left (Nat.le_of_lt h)]
  have h2 : (l.set off c).drop (off + 1 + xs.length) = l.drop (off + (c :: xs).length) := by
    rw [List.drop_set_of_lt (by omega)]
    congr 1
    simp; omega
  rw [h1, h2]
  simp

theorem fill_splice (off : Nat) : ∀ (l : List Value) (k : Nat) (cells : Array Value), off + k + l.length ≤ cells.size →
    ((l.zipIdx k).foldl (fun cs (x : Value × Nat) => cs.setIfInBounds (off + x.2) x.1) cells).toList = splice cells.toList (off + k) l
  | [], k, cells, _ => by simp [splice]
  | c :: l, k, cells, h => by
    simp only [List.zipIdx_cons, List.foldl_cons]
    rw [fill_splice off l (k + 1) (cells.setIfInBounds (off + k) c) (by simp at h ⊢; omega)]
    rw [Array.toList_setIfInBounds, show off + (k + 1) = off + k + 1 by omega]
    exact splice_cons _ _ _ _ (by simp at h ⊢; omega)

theorem splice_length {α : Type} (l : List α) (off : Nat) (xs : List α) (h : off + xs.length ≤ l.length) : (splice l off xs).length = l.length := by
  simp [splice]; omega

section
variable {P : Program} {T : Ty} {mv : Bool} {C : Ctx} {σ : AEnv} {a : Act} {w w' : World} {ι : Nat → Value} {Fs : Nat → List Nat} {τ : Nat → AObj} {e : Eff}
variable {dst : Option Tmp} {type : TypeId} {pos : String} {after : Array Edge} {guard : Option (Nat × Bool)}

theorem ARs_splice {U : Nat → Prop} {O : Nat → AObj} {as xs : List AV} {vs us : List Value} (h : ARs w U O ι as vs) (hx : ARs w U O ι xs us) (off : Nat) : ARs w U O ι (splice as off xs) (splice vs off us) := by
  unfold splice
  rw [ARs_length _ _ hx]
  exact ARs_append (ARs_append (ARs_take h off) hx) (ARs_drop h _)

/-- The parts, as they are here and in the machine. -/
inductive PartsR (w : World) (U : Nat → Prop) (O : Nat → AObj) (ι : Nat → Value) (place : Nat → Option (Nat × Nat)) : List (Nat × List AV) → List (Nat × Value) → Prop
  | nil : PartsR w U O ι place [] []
  | cons {i off size : Nat} {cs : List AV} {v : Value} {ps : List (Nat × List AV)} {vs : List (Nat × Value)} (hp : place i = some (off, size)) (hs : cs.length = size) (hr : ARs w U O ι cs v.cells.toList)
      (h1 : ∀ y, y ∈ v.cells.toList → y.oneCell' = true) (h : PartsR w U O ι place ps vs) : PartsR w U O ι place ((off, cs) :: ps) ((i, v) :: vs)

theorem fill_run {U : Nat → Prop} {O : Nat → AObj} {place : Nat → Option (Nat × Nat)} {ps : List (Nat × List AV)} {vs : List (Nat × Value)} (h : PartsR w U O ι place ps vs) :
    ∀ {as rs : List AV} {cells : Array Value}, ARs w U O ι as cells.toList → (∀ y, y ∈ cells.toList → y.oneCell' = true) → fillA as ps = some rs →
      ∃ out, Instr.fill place cells vs = some out ∧ ARs w U O ι rs out.toList ∧ (∀ y, y ∈ out.toList → y.oneCell' = true) := by
  induction h with
  | nil => intro as rs cells hr h1 hf; simp only [fillA] at hf; cases hf; exact ⟨cells, rfl, hr, h1⟩
  | @cons i off size cs v ps vs hp hs hr' h1' _ ih =>
    intro as rs cells hr h1 hf
    simp only [fillA] at hf
    split at hf
    · rename_i hle
      have hl1 := ARs_length _ _ hr
      have hl2 := ARs_length _ _ hr'
      have hsz : v.cells.size = size := by rw [← hs, hl2]; simp
      have hfit : ¬ (v.cells.size ≠ size ∨ off + v.cells.size > cells.size) := by
        have : cells.size = as.length := by rw [hl1]; simp
        rintro (h2 | h2)
        · exact h2 hsz
        · rw [hsz, this, ← hs] at h2; omega
      have hsp : (v.cells.zipIdx.foldl (fun cs (x : Value × Nat) => cs.setIfInBounds (off + x.2) x.1) cells).toList = splice cells.toList off v.cells.toList := by
        have h2 := fill_splice off v.cells.toList 0 cells (by
          have : cells.size = as.length := by rw [hl1]; simp
          rw [this, ← hl2]; simpa using hle)
        rw [← Array.foldl_toList, Array.toList_zipIdx]
        simpa using h2
      have hlen2 : v.cells.toList.length = cs.length := hl2.symm
      obtain ⟨out, ho, hor, ho1⟩ := ih (as := splice as off cs) (rs := rs) (cells := v.cells.zipIdx.foldl (fun cs (x : Value × Nat) => cs.setIfInBounds (off + x.2) x.1) cells) (by rw [hsp]; exact ARs_splice hr hr' off)
        (by
          rw [hsp]
          intro y hy
          simp only [splice, List.mem_append] at hy
          rcases hy with (hy | hy) | hy
          · exact h1 y (List.mem_of_mem_take hy)
          · exact h1' y hy
          · exact h1 y (List.mem_of_mem_drop hy)) hf
      refine ⟨out, ?_, hor, ho1⟩
      have hfit' : ¬ ((decide (v.cells.size ≠ size) || decide (off + v.cells.size > cells.size)) = true) := by simpa using hfit
      simp only [Instr.fill, hp]
      rw [if_neg hfit']
      exact ho
    · cases hf

theorem allSome_cons {α : Type} {x : Option α} {r : List (Option α)} {l : List α} (h : allSome (x :: r) = some l) : ∃ y ys, x = some y ∧ allSome r = some ys ∧ l = y :: ys := by
  cases x with
  | none => simp [allSome] at h
  | some y =>
    simp only [allSome] at h
    split at h
    · rename_i ys hy; cases h; exact ⟨y, ys, rfl, hy, rfl⟩
    · cases h

theorem parts1_R (hT : TyOK P T) (h : Sim C σ a w ι Fs) (ha : Agr σ.o τ) {fields : Array Field} {sizes : List (Nat × Nat)}
    (hsz : ∀ (f : Nat) (fl : Field), fields[f]? = some fl → ∀ i, T.lookup fl.type = some i → sizes[f]? = some (fl.offset, i.size)) :
    ∀ (parts : List (Nat × Operand)) (ps : List (Nat × List AV)), allSome (parts.map (part1 T (ev σ) τ (fields.toList.map fun f => (f.offset, f.type)))) = some ps →
      PartsR w (Un C w Fs) σ.o ι (fun i => sizes[i]?) ps (parts.map fun p => (p.1, a.eval p.2))
  | [], ps, hp => by simp [allSome] at hp; subst hp; exact .nil
  | p :: parts, ps, hp => by
    simp only [List.map_cons] at hp
    obtain ⟨y, ys, h1, h2, rfl⟩ := allSome_cons hp
    have ih := parts1_R hT h ha hsz parts ys h2
    unfold part1 at h1
    split at h1
    · rename_i off ft cs hf hc
      split at h1
      · rename_i i hi
        split at h1
        · rename_i hl
          cases h1
          rw [List.getElem?_map] at hf
          cases hq : fields.toList[p.1]? with
          | none => rw [hq] at hf; cases hf
          | some fl =>
            rw [hq] at hf
            simp only [Option.map_some, Option.some.injEq, Prod.mk.injEq] at hf
            obtain ⟨rfl, rfl⟩ := hf
            obtain ⟨g1, g2⟩ := cellsOf_AR (U := Un C w Fs) h ha (ev_AR h p.2) hc
            exact .cons (hsz p.1 fl (by simpa using hq) i hi) hl g1 g2 ih
        · cases h1
      · cases h1
    · cases h1

theorem mapM_places {fs : List Field} (h : ∀ f, f ∈ fs → (P.info? f.type).isSome = true) :
    fs.mapM (fun f => (P.info? f.type).map fun i => (f.offset, i.size)) = some (fs.map fun f => (f.offset, P.cellsOf f.type)) := by
  induction fs with
  | nil => rfl
  | cons f fs ih =>
    obtain ⟨i, hi⟩ := Option.isSome_iff_exists.1 (h f List.mem_cons_self)
    rw [List.mapM_cons, ih (fun g hg => h g (List.mem_cons_of_mem _ hg))]
    simp [hi, Program.cellsOf]

theorem snd_build (hT : TyOK P T) (h : Sim C σ a w ι Fs) (ha : Agr σ.o τ) {t : Nat} {parts : Array (Nat × Operand)} (he : astep T mv (ev σ) τ ⟨dst, .build t parts, type, pos, after, guard⟩ = some e) :
    Snd P C σ a w ⟨dst, .build t parts, type, pos, after, guard⟩ e := by
  simp only [astep] at he
  split at he
  · rename_i fs z1 z2 zero z4 hl
    have hM := hT.m hl
    obtain ⟨fields, ht, hmap⟩ := hM.struct rfl
    obtain ⟨ti, z, hinfo, hsz, _, hz, hzm, _⟩ := hM.info
    split at he
    · rename_i ps hps
      split at he
      · rename_i cs hcs
        cases he
        subst hmap
        have hall := hM.fld fields ht
        have hpl := mapM_places hall
        have hR := parts1_R hT h ha (fields := fields) (sizes := fields.toList.map fun f => (f.offset, P.cellsOf f.type)) (fun f fl hf i hi => by
          have hf' : fields.toList[f]? = some fl := by simpa using hf
          rw [List.getElem?_map, hf']
          obtain ⟨tj, _, hj, hjs, _⟩ := (hT.m hi).info
          simp [Program.cellsOf, hj, hjs]) parts.toList ps hps
        have hzr := zmatches_ARs (w := w) (U := Un C w Fs) (O := σ.o) (ι := ι) (hzm (by simp))
        obtain ⟨out, ho, hor, _⟩ := fill_run hR hzr.1 hzr.2 hcs
        have hb : P.built t (parts.map fun (i, x) => (i, a.eval x)).toList = some out := by
          unfold Program.built
          simp only [hinfo, ht, hz, hpl]
          have e : (fun (x : Nat) => (fields.toList.map fun f => (f.offset, P.cellsOf f.type)).toArray[x]?) = fun i => (fields.toList.map fun f => (f.offset, P.cellsOf f.type))[i]? := by funext x; simp
          rw [e]
          simpa using ho
        refine Snd.pure h (v := .agg out) ?_ ?_
        · simp only [execOp, Sem.run_bind, run_build w t _ out hb, Result.andThen_ok, Sem.run_pure]
        · simp only [AR]; exact ⟨out, rfl, hor⟩
      · cases he
    · cases he
  · cases he

end
end Am
