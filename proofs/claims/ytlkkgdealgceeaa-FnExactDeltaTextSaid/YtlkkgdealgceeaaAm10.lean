/- Slices made: buildSlice, makeSlice. No condition. -/
import Derived.Test.YtlkkgdealgceeaaAm9
namespace Am
open Go
set_option linter.unusedSimpArgs false
set_option linter.unusedVariables false

theorem rep_get {α : Type} (z : List α) (hz : 0 < z.length) : ∀ (n j : Nat), j < n * z.length → ((List.replicate n z).flatten)[j]? = z[j % z.length]?
  | 0, j, h => by simp at h
  | n + 1, j, h => by
    rw [List.replicate_succ, List.flatten_cons]
    by_cases hj : j < z.length
    · rw [List.getElem?_append_left hj, Nat.mod_eq_of_lt hj]
    · have hj' : z.length ≤ j := Nat.le_of_not_lt hj
      rw [List.getElem?_append_right hj', rep_get z hz n (j - z.length) (by rw [Nat.succ_mul] at h; omega), Nat.mod_eq_sub_mod hj']

theorem rep_length {α : Type} (z : List α) (n : Nat) : ((List.replicate n z).flatten).length = n * z.length := by
  induction n with
  | zero => simp
  | succ n ih => rw [List.replicate_succ, List.flatten_cons, List.length_append, ih, Nat.succ_mul, Nat.add_comm]

theorem madeCells_rep (z : Array Value) (n : Nat) (hz : 0 < z.size) : (madeCells z (n * z.size)).toList = (List.replicate n z.toList).flatten := by
  apply List.ext_getElem?
  intro j
  by_cases hj : j < n * z.size
  · have h1 : j % z.size < z.size := Nat.mod_lt _ hz
    rw [rep_get z.toList (by simpa using hz) n j (by simpa using hj)]
    simp [madeCells, hj, h1]
  · rw [List.getElem?_eq_none (by simp [madeCells]; omega), List.getElem?_eq_none (by rw [rep_length]; simpa using hj)]

theorem fillA_length : ∀ {ps : List (Nat × List AV)} {cs rs : List AV}, fillA cs ps = some rs → rs.length = cs.length
  | [], cs, rs, h => by simp only [fillA] at h; cases h; rfl
  | (off, xs) :: ps, cs, rs, h => by
    simp only [fillA] at h
    split at h
    · rename_i hle
      rw [fillA_length h, splice_length _ _ _ hle]
    · cases h

section
variable {P : Program} {T : Ty} {mv : Bool} {C : Ctx} {σ : AEnv} {a : Act} {w w' : World} {ι : Nat → Value} {Fs : Nat → List Nat} {τ : Nat → AObj} {e : Eff}
variable {dst : Option Tmp} {type : TypeId} {pos : String} {after : Array Edge} {guard : Option (Nat × Bool)}

theorem ARs_rep {U : Nat → Prop} {O : Nat → AObj} {as : List AV} {vs : List Value} (h : ARs w U O ι as vs) : ∀ n, ARs w U O ι (List.replicate n as).flatten (List.replicate n vs).flatten
  | 0 => by simp [ARs]
  | n + 1 => by rw [List.replicate_succ, List.replicate_succ, List.flatten_cons, List.flatten_cons]; exact ARs_append h (ARs_rep h n)

theorem toPV_R (h : Sim C σ a w ι Fs) (ha : Agr σ.o τ) {x : AV} {v : Value} {p : PV} {gone : List Nat} (hx : AR w (Un C w Fs) σ.o ι x v) (hp : toPV τ x = some (p, gone)) :
    R w (Un C w Fs) p v (gone.flatMap Fs) ∧ ∀ g, g ∈ gone → σ.o g ≠ .none := by
  unfold toPV at hp
  split at hp
  · split at hp
    · cases hp; exact ⟨AR_c.1 hx, by simp⟩
    · cases hp
  · cases hp
    simp only [AR] at hx
    subst hx
    exact ⟨by simp [R], by simp⟩
  · split at hp
    · rename_i o _ g0 e1 s1 n1 cs hτ
      cases hp
      obtain ⟨ho, hv⟩ := agr_arr ha hx hτ
      have hob := h.ob o
      rw [ho] at hob
      obtain ⟨xs, F', hown, hr, hF⟩ := hob
      subst hv
      refine ⟨?_, by intro g hg; simp at hg; subst hg; rw [ho]; simp⟩
      simp only [R, List.flatMap_cons, List.flatMap_nil, List.append_nil]
      exact ⟨xs, F', hown, hr, hF⟩
    · cases hp
  · cases hp

theorem toPVs_R (h : Sim C σ a w ι Fs) (ha : Agr σ.o τ) : ∀ {xs : List AV} {vs : List Value} {ps : List PV} {gone : List Nat}, ARs w (Un C w Fs) σ.o ι xs vs → toPVs τ xs = some (ps, gone) →
    Rs w (Un C w Fs) ps vs (gone.flatMap Fs) ∧ ∀ g, g ∈ gone → σ.o g ≠ .none
  | [], [], ps, gone, _, hp => by simp [toPVs] at hp; obtain ⟨rfl, rfl⟩ := hp; exact ⟨by simp [Rs], by simp⟩
  | x :: xs, v :: vs, ps, gone, hx, hp => by
    simp only [ARs] at hx
    simp only [toPVs] at hp
    split at hp
    · rename_i p l ps' ls h1 h2
      cases hp
      obtain ⟨g1, g2⟩ := toPV_R h ha hx.1 h1
      obtain ⟨g3, g4⟩ := toPVs_R h ha hx.2 h2
      refine ⟨by simp only [Rs, List.flatMap_append]; exact ⟨_, _, g1, g3, rfl⟩, ?_⟩
      intro g hg
      simp only [List.mem_append] at hg
      rcases hg with hg | hg
      · exact g2 g hg
      · exact g4 g hg
    · cases hp
  | [], _ :: _, _, _, hx, _ => by simp only [ARs] at hx
  | _ :: _, [], _, _, hx, _ => by simp only [ARs] at hx

theorem gone_nodup (h : Sim C σ a w ι Fs) : ∀ {gone : List Nat}, gone.Nodup → (gone.flatMap Fs).Nodup
  | [], _ => by simp
  | g :: gone, hn => by
    rw [List.nodup_cons] at hn
    rw [List.flatMap_cons, List.nodup_append]
    refine ⟨h.nd g, gone_nodup h hn.2, ?_⟩
    intro b hb c hc e
    subst e
    obtain ⟨g', hg', hbg⟩ := List.mem_flatMap.1 hc
    exact h.dis g g' (fun e => hn.1 (e ▸ hg')) b hb hbg

theorem gone_own (h : Sim C σ a w ι Fs) {gone : List Nat} {b : Nat} (hb : b ∈ gone.flatMap Fs) : b < w.heap.size ∧ ∃ g, g ∈ gone ∧ b ∈ Fs g := by
  obtain ⟨g, hg, hbg⟩ := List.mem_flatMap.1 hb
  exact ⟨(h.own g b hbg).1, g, hg, hbg⟩

/-- A new array in a new block, which takes in what was owned. -/
theorem Sim.newArr (h : Sim C σ a w ι Fs) {k : Nat} (hk : σ.o k = .none) {gone : List Nat} (hn : gone.Nodup) (hgone : ∀ g, g ∈ gone → σ.o g ≠ .none) {ety esz n : Nat} {ps : List PV} {xs : List Value}
    (hr : Rs w (Un C w Fs) ps xs (gone.flatMap Fs)) {cap : Nat} (hg : w.grownBy w' none) (hnew : w.heap.size < w'.heap.size)
    (hown : w'.ownsRow 0 ety esz (.slice (some ⟨w.heap.size, 0, none⟩) n cap) n xs) :
    ∃ ι' Fs', Sim C (AEnv.wr ((k, .arr 0 ety esz n ps) :: gone.map (·, .dead)) σ) a w' ι' Fs' ∧
      AR w' (Un C w' Fs') (AEnv.wr ((k, .arr 0 ety esz n ps) :: gone.map (·, .dead)) σ).o ι' (.arr k) (.slice (some ⟨w.heap.size, 0, none⟩) n cap) := by
  have hb : ∀ j, j < w.heap.size → (∀ g, g ∈ gone → j ∉ Fs g) → w'.heap[j]? = w.heap[j]? := fun j hj _ => hg.block j hj (by simp)
  have hF : ∀ b, b ∈ (w.heap.size :: gone.flatMap Fs) → b < w'.heap.size ∧ (w.heap.size ≤ b ∨ ∃ g, g ∈ gone ∧ b ∈ Fs g) := by
    intro b hb
    rcases List.mem_cons.1 hb with rfl | hb
    · exact ⟨hnew, .inl (Nat.le_refl _)⟩
    · obtain ⟨h1, h2⟩ := gone_own h hb
      exact ⟨by omega, .inr h2⟩
  have hL := h.make_later (w' := w') (gone := gone) hk (ob := .arr 0 ety esz n ps) (v := .slice (some ⟨w.heap.size, 0, none⟩) n cap) (F := w.heap.size :: gone.flatMap Fs) hgone hg.size hb hF
  refine ⟨_, _, h.make hk hgone hg.os hg.tape hg.output hg.size hb hF ?_ ⟨xs, gone.flatMap Fs, hown, Rs_mono hL.u hL.heap _ _ _ hr (fun j hj => hg.block j (gone_own h hj).1 (by simp)), rfl⟩, ?_⟩
  · rw [List.nodup_cons]
    refine ⟨fun hm => ?_, gone_nodup h hn⟩
    have := (gone_own h hm).1
    omega
  · simp only [AR, AEnv.wr, AEnv.upd, if_true, fupd_same]

theorem partsS_R (h : Sim C σ a w ι Fs) (ha : Agr σ.o τ) (size : Nat) : ∀ (parts : List (Nat × Operand)) (ps : List (Nat × List AV)), allSome (parts.map (partS (ev σ) τ size)) = some ps →
    PartsR w (Un C w Fs) σ.o ι (fun i => some (i * size, size)) ps (parts.map fun p => (p.1, a.eval p.2))
  | [], ps, hp => by simp [allSome] at hp; subst hp; exact .nil
  | p :: parts, ps, hp => by
    simp only [List.map_cons] at hp
    obtain ⟨y, ys, h1, h2, rfl⟩ := allSome_cons hp
    have ih := partsS_R h ha size parts ys h2
    unfold partS at h1
    split at h1
    · rename_i cs hc
      split at h1
      · rename_i hl
        cases h1
        obtain ⟨g1, g2⟩ := cellsOf_AR (U := Un C w Fs) h ha (ev_AR h p.2) hc
        exact .cons rfl hl g1 g2 ih
      · cases h1
    · cases h1

theorem snd_buildSlice (hT : TyOK P T) (h : Sim C σ a w ι Fs) (ha : Agr σ.o τ) {t len : Nat} {parts : Array (Nat × Operand)} (he : astep T mv (ev σ) τ ⟨dst, .buildSlice t len parts, type, pos, after, guard⟩ = some e) (hs : e.side)
    (hf : ∀ k ob, (k, ob) ∈ e.oe → τ k = .none → σ.o k = .none) : Snd P C σ a w ⟨dst, .buildSlice t len parts, type, pos, after, guard⟩ e := by
  simp only [astep] at he
  split at he
  · rename_i el z1 z2 z3 z4 hl
    have ht := (hT.m hl).slice rfl
    split at he
    · rename_i i d hle
      have hM := hT.m hle
      obtain ⟨ti, z, hinfo, hsz, _, hz, hzm, _⟩ := hM.info
      by_cases hok : ¬ (0 < i.size ∧ i.zero.length = i.size ∧ isOther i.k = false)
      · rw [if_neg hok] at he; cases he
      have hok := Decidable.not_not.1 hok
      rw [if_pos hok] at he
      have hko : i.k ≠ .other := fun hk => by have := hok.2.2; rw [hk] at this; cases this
      split at he
      · rename_i ps hps
        split at he
        · rename_i cs hcs
          split at he
          · rename_i pvs gone hpv
            cases he
            obtain ⟨hs1, hs2, hs3⟩ := hs
            have hk := hf _ _ List.mem_cons_self hs1
            have hzr := zmatches_ARs (w := w) (U := Un C w Fs) (O := σ.o) (ι := ι) (hzm hko)
            have hzl : z.cells.size = i.size := by have := ARs_length _ _ hzr.1; rw [hok.2.1] at this; simpa using this.symm
            have hzpos : 0 < z.cells.size := by rw [hzl]; exact hok.1
            have hpl : len * i.size = len * z.cells.size := by rw [hzl]
            have hmc := madeCells_rep z.cells len hzpos
            have h0 : ARs w (Un C w Fs) σ.o ι (List.replicate len i.zero).flatten (madeCells z.cells (len * i.size)).toList := by
              rw [hpl, hmc]; exact ARs_rep hzr.1 len
            have h1 : ∀ y, y ∈ (madeCells z.cells (len * i.size)).toList → y.oneCell' = true := by
              rw [hpl, hmc]
              intro y hy
              obtain ⟨l, hl, hy⟩ := List.mem_flatten.1 hy
              obtain ⟨_, rfl⟩ := List.mem_replicate.1 hl
              exact hzr.2 y hy
            obtain ⟨out, ho, hor, ho1⟩ := fill_run (partsS_R h ha i.size parts.toList ps hps) h0 h1 hcs
            obtain ⟨hR, hgone⟩ := toPVs_R h ha hor hpv
            have hlen : out.size = len * i.size := by
              have e1 := ARs_length _ _ hor
              rw [fillA_length hcs, rep_length, hok.2.1] at e1
              simpa using e1.symm
            have hmax : len ≤ maxLen := by
              have h1 : len * 1 ≤ len * i.size := Nat.mul_le_mul_left _ hok.1
              unfold maxLen; omega
            obtain ⟨ι', Fs', hS, hA⟩ := h.newArr (w' := w.alloc (.cells out el)) hk hs2 hgone hR (cap := len) (grownBy_alloc_none w _) (by simp)
              ⟨by simpa using hlen, .inr ⟨w.heap.size, len, out, rfl, Nat.zero_le _, heap_alloc_new w _, Nat.le_refl _, hmax, hlen, by rw [← hlen, ← Array.length_toList, List.take_length]⟩⟩
            refine ⟨_, _, ι', Fs', _, ?_, .inl rfl, hS, hA⟩
            have hz0 := hM.run_sizeOf w
            have hpos : ¬ (len * i.size > 16777216) := by omega
            have hfill : Instr.fill (fun i_1 => some (i_1 * i.size, i.size)) (madeCells z.cells (len * i.size)) (parts.toList.map fun p => (p.1, a.eval p.2)) = some out := ho
            have hrun : (Instr.buildSlice t len (parts.map fun (i, x) => (i, a.eval x))).run P w = .ok (.slice (some ⟨w.heap.size, 0, none⟩) len len) (w.alloc (.cells out el)) := by
              by_cases hzero : len * i.size = 0
              · have hl0 : len = 0 := by
                  rcases Nat.mul_eq_zero.1 hzero with h | h
                  · exact h
                  · have := hok.1; omega
                subst hl0
                have hmk : madeCells z.cells (0 * i.size) = #[] := by simp [madeCells]
                rw [hmk] at hfill
                simp [Instr.buildSlice, run_underlying ht, hz0, hfill, newRow, show Array.range 0 = #[] from rfl]
              · simp only [madeCells] at hfill
                simp [Instr.buildSlice, run_underlying ht, hz0, hpos, hzero, zeroValue, typeInfo, hinfo, hz, hfill, newRow]
            simp only [execOp, Sem.run_bind, hrun, Result.andThen_ok, Sem.run_pure]
          · cases he
        · cases he
      · cases he
    · cases he
  · cases he

end
end Am
