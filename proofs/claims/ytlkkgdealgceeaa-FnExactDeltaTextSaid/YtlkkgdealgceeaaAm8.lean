/- What is made: new objects. No condition. -/
import Derived.Test.YtlkkgdealgceeaaAm7
namespace Am
open Go
set_option linter.unusedSimpArgs false
set_option linter.unusedVariables false
section
variable {P : Program} {T : Ty} {mv : Bool} {C : Ctx} {σ : AEnv} {a : Act} {w w' : World} {ι : Nat → Value} {Fs : Nat → List Nat} {τ : Nat → AObj} {e : Eff}
variable {dst : Option Tmp} {type : TypeId} {pos : String} {after : Array Edge} {guard : Option (Nat × Bool)}

theorem wr_dead_t : ∀ (gone : List Nat), (AEnv.wr (gone.map (·, .dead)) σ).t = σ.t
  | [] => rfl
  | g :: gone => by simp only [List.map_cons, AEnv.wr, AEnv.upd]; exact wr_dead_t gone

theorem wr_dead_o : ∀ (gone : List Nat) (x : Nat), (AEnv.wr (gone.map (·, .dead)) σ).o x = if x ∈ gone then .dead else σ.o x
  | [], x => by simp [AEnv.wr]
  | g :: gone, x => by
    simp only [List.map_cons, AEnv.wr, AEnv.upd, List.mem_cons]
    by_cases hx : x = g
    · simp [hx]
    · simp only [hx, if_false, false_or]; exact wr_dead_o gone x

def fupd {α : Type} (f : Nat → α) (k : Nat) (v : α) : Nat → α := fun x => if x = k then v else f x

theorem fupd_same {α : Type} (f : Nat → α) (k : Nat) (v : α) : fupd f k v k = v := by simp [fupd]
theorem fupd_ne {α : Type} (f : Nat → α) {k x : Nat} (h : x ≠ k) (v : α) : fupd f k v x = f x := by simp [fupd, h]

/-- A new object, which may take in what others were. -/
theorem Sim.make (h : Sim C σ a w ι Fs) {k : Nat} (hk : σ.o k = .none) {gone : List Nat} {ob : AObj} {v : Value} {F : List Nat}
    (hgone : ∀ g, g ∈ gone → σ.o g ≠ .none)
    (hos : w'.os = w.os) (htape : w'.tape = w.tape) (hout : w'.output = w.output) (hsize : w.heap.size ≤ w'.heap.size)
    (hblock : ∀ j, j < w.heap.size → (∀ g, g ∈ gone → j ∉ Fs g) → w'.heap[j]? = w.heap[j]?)
    (hF : ∀ b, b ∈ F → b < w'.heap.size ∧ (w.heap.size ≤ b ∨ ∃ g, g ∈ gone ∧ b ∈ Fs g)) (hnd : F.Nodup)
    (hob : ObR w' (Un C w' (fupd (fun x => if x ∈ gone then [] else Fs x) k F)) (AEnv.wr ((k, ob) :: gone.map (·, .dead)) σ).o (fupd ι k v) ob v F) :
    Sim C (AEnv.wr ((k, ob) :: gone.map (·, .dead)) σ) a w' (fupd ι k v) (fupd (fun x => if x ∈ gone then [] else Fs x) k F) := by
  have ho' : ∀ x, (AEnv.wr ((k, ob) :: gone.map (·, .dead)) σ).o x = if x = k then ob else if x ∈ gone then .dead else σ.o x := by
    intro x
    simp only [AEnv.wr, AEnv.upd]
    by_cases hx : x = k
    · simp [hx]
    · simp only [hx, if_false]; exact wr_dead_o gone x
  have ht' : (AEnv.wr ((k, ob) :: gone.map (·, .dead)) σ).t = σ.t := by simp only [AEnv.wr, AEnv.upd]; exact wr_dead_t gone
  have hkg : k ∉ gone := fun hm => hgone k hm hk
  have hne1 : ∀ x, x ∈ gone → x ≠ k := fun x hx (e : x = k) => hkg (e ▸ hx)
  have hnil : ∀ x, x ∈ gone → fupd (fun x => if x ∈ gone then [] else Fs x) k F x = [] := fun x hx => by
    rw [fupd_ne _ (hne1 x hx)]; exact if_pos hx
  have e : AEnv.wr ((k, ob) :: gone.map (·, .dead)) σ = ⟨σ.t, (AEnv.wr ((k, ob) :: gone.map (·, .dead)) σ).o⟩ := by
    generalize AEnv.wr ((k, ob) :: gone.map (·, .dead)) σ = s at ht' ⊢
    cases s
    simp only at ht'
    rw [ht']
  rw [e]
  refine h.move (X := fun o => o = k ∨ o ∈ gone) ⟨hos, htape, hout, hsize, fun j hj hX => hblock j hj (fun g hg => hX g (.inr hg)), fun o hX => ?_, fun o hX => ?_, fun o hX => ?_, fun o hX => ?_, fun o hX b hb => ?_, fun o o' hX hX' hne b hb hb' => ?_⟩
  · have h1 : o ≠ k := fun e => hX (.inl e)
    have h2 : o ∉ gone := fun e => hX (.inr e)
    exact ⟨by rw [ho']; simp [h1, h2], fupd_ne _ h1 _, by rw [fupd_ne _ h1]; simp [h2]⟩
  · rcases hX with rfl | hg
    · exact .inl hk
    · have h1 : o ≠ k := fun e => hkg (e ▸ hg)
      exact .inr (.inl (by rw [ho']; simp [h1, hg]))
  · rcases hX with rfl | hg
    · rw [ho', if_pos rfl, fupd_same, fupd_same]; exact hob
    · have h1 : o ≠ k := hne1 o hg
      rw [ho', if_neg h1, if_pos hg, hnil o hg]
      exact rfl
  · rcases hX with rfl | hg
    · rw [fupd_same]; exact hnd
    · rw [hnil o hg]; exact List.nodup_nil
  · rcases hX with rfl | hg
    · rw [fupd_same] at hb
      obtain ⟨h1, h2⟩ := hF b hb
      refine ⟨h1, ?_⟩
      rcases h2 with h2 | ⟨g, hg, h2⟩
      · exact .inl h2
      · exact .inr ⟨g, .inr hg, h2⟩
    · rw [hnil o hg] at hb
      cases hb
  · rcases hX with rfl | hg
    · rcases hX' with rfl | hg'
      · exact hne rfl
      · rw [hnil o' hg'] at hb'; cases hb'
    · rw [hnil o hg] at hb; cases hb

theorem Sim.make_later (h : Sim C σ a w ι Fs) {k : Nat} (hk : σ.o k = .none) {gone : List Nat} {ob : AObj} {v : Value} {F : List Nat}
    (hgone : ∀ g, g ∈ gone → σ.o g ≠ .none) (hsize : w.heap.size ≤ w'.heap.size)
    (hblock : ∀ j, j < w.heap.size → (∀ g, g ∈ gone → j ∉ Fs g) → w'.heap[j]? = w.heap[j]?)
    (hF : ∀ b, b ∈ F → b < w'.heap.size ∧ (w.heap.size ≤ b ∨ ∃ g, g ∈ gone ∧ b ∈ Fs g)) :
    Later w w' (Un C w Fs) (Un C w' (fupd (fun x => if x ∈ gone then [] else Fs x) k F)) σ.o (AEnv.wr ((k, ob) :: gone.map (·, .dead)) σ).o ι (fupd ι k v) := by
  have ho' : ∀ x, (AEnv.wr ((k, ob) :: gone.map (·, .dead)) σ).o x = if x = k then ob else if x ∈ gone then .dead else σ.o x := by
    intro x
    simp only [AEnv.wr, AEnv.upd]
    by_cases hx : x = k
    · simp [hx]
    · simp only [hx, if_false]; exact wr_dead_o gone x
  refine ⟨fun j hj => ⟨Nat.lt_of_lt_of_le hj.1 hsize, hj.2.1, fun o ho => ?_⟩, fun j hj => hblock j hj.1 (fun g _ => hj.2.2 g), fun o => ?_⟩
  · by_cases e : o = k
    · subst e
      rw [fupd_same] at ho
      rcases (hF j ho).2 with h1 | ⟨g, _, h1⟩
      · have := hj.1; omega
      · exact hj.2.2 g h1
    · rw [fupd_ne _ e] at ho
      split at ho
      · cases ho
      · exact hj.2.2 o ho
  · by_cases e : o = k
    · exact .inl (e ▸ hk)
    · by_cases hg : o ∈ gone
      · exact .inr (.inl (by rw [ho', if_neg e, if_pos hg]))
      · have ho : (AEnv.wr ((k, ob) :: gone.map (·, .dead)) σ).o o = σ.o o := by rw [ho', if_neg e, if_neg hg]
        have hi : fupd ι k v o = ι o := fupd_ne _ e _
        cases hO : σ.o o with
        | none => exact .inl rfl
        | dead => exact .inr (.inl (by rw [ho, hO]))
        | box c => exact .inr (.inr (.inl ⟨c, c, rfl, by rw [ho, hO], hi⟩))
        | mp Q => exact .inr (.inr (.inr (.inr ⟨Q, Q, rfl, by rw [ho, hO], hi⟩)))
        | arr g1 e1 s1 n1 c =>
          refine .inr (.inr (.inr (.inl ⟨g1, e1, s1, n1, c, g1, e1, s1, n1, c, rfl, by rw [ho, hO], hi, Nat.le_refl _, fun _ off hi => ⟨hi, fun b hb => ?_⟩⟩)))
          have hob := h.ob o
          rw [hO] at hob
          obtain ⟨xs, F', _, _, hF'⟩ := hob
          have hbo : b ∈ Fs o := by rw [hF', hb]; simp
          exact World.cell?_of_block (w := w) (w' := w') (a := ⟨b, off, none⟩) (hblock b (h.own o b hbo).1 (fun g hg' hbg => h.dis o g (fun e => hg (e ▸ hg')) b hbo hbg))

theorem Below_heap_alloc (w : World) (o : Obj) (k : Nat) (h : k < w.heap.size) : (w.alloc o).heap[k]? = w.heap[k]? := by
  show (w.heap.push o)[k]? = _
  rw [Array.getElem?_push, if_neg (by omega)]

theorem grownBy_alloc_none (w : World) (o : Obj) : w.grownBy (w.alloc o) none := World.grownBy_alloc w o none

/-- The cells of a value that may be put into a variable. -/
theorem cellsOf_AR {U : Nat → Prop} (h : Sim C σ a w ι Fs) (ha : Agr σ.o τ) {x : AV} {v : Value} {cs : List AV} (hx : AR w (Un C w Fs) σ.o ι x v) (hc : cellsOf τ x = some cs) :
    ARs w (Un C w Fs) σ.o ι cs v.cells.toList ∧ (∀ y, y ∈ v.cells.toList → y.oneCell' = true) := by
  have one : ∀ (x : AV) (v : Value), AR w (Un C w Fs) σ.o ι x v → cellOk τ x = true → v.oneCell' = true ∧ v.cells = #[v] := by
    intro x v hx hc
    cases x with
    | c p => exact R_oneCell (AR_c.1 hx)
    | nil => simp only [AR] at hx; subst hx; exact ⟨rfl, rfl⟩
    | arr o =>
      simp only [cellOk] at hc
      split at hc
      · rename_i e1 s1 n1 c1 hτ
        obtain ⟨ho, hv⟩ := agr_arr ha hx hτ
        have hob := h.ob o
        rw [ho] at hob
        obtain ⟨xs, F', hown, _⟩ := hob
        subst hv
        rcases hown.2 with ⟨hv, _⟩ | ⟨g, cap, cur, hv, _⟩ <;> (rw [hv]; exact ⟨rfl, rfl⟩)
      · cases hc
    | _ => simp [cellOk] at hc
  unfold cellsOf at hc
  split at hc
  · rename_i cs'
    split at hc
    · rename_i hall
      cases hc
      simp only [AR] at hx
      obtain ⟨vs, rfl, hs⟩ := hx
      refine ⟨hs, ?_⟩
      intro y hy
      simp only [Value.cells] at hy
      obtain ⟨i, hi, hyi⟩ := List.getElem_of_mem hy
      have hlen := ARs_length _ _ hs
      have hi' : i < cs.length := by rw [hlen]; exact hi
      obtain ⟨u, hu, hur⟩ := ARs_get hs (List.getElem?_eq_getElem hi')
      have huy : u = y := by
        have := List.getElem?_eq_getElem hi
        rw [hyi] at this
        rw [this] at hu
        cases hu; rfl
      subst huy
      exact (one _ _ hur (List.all_eq_true.1 hall _ (List.getElem_mem hi'))).1
    · cases hc
  · split at hc
    · rename_i hok
      cases hc
      obtain ⟨h1, h2⟩ := one _ _ hx hok
      rw [h2]
      exact ⟨by simp only [ARs]; exact ⟨hx, trivial⟩, by intro y hy; simp at hy; subst hy; exact h1⟩
    · cases hc

theorem snd_alloc (hT : TyOK P T) (h : Sim C σ a w ι Fs) {t : Nat} (he : astep T mv (ev σ) τ ⟨dst, .alloc t, type, pos, after, guard⟩ = some e) (hs : e.side)
    (hf : ∀ k ob, (k, ob) ∈ e.oe → τ k = .none → σ.o k = .none) : Snd P C σ a w ⟨dst, .alloc t, type, pos, after, guard⟩ e := by
  simp only [astep] at he
  split at he
  · rename_i i d hl
    split at he
    · cases he
    rename_i hko
    cases he
    have hi := hT.m hl
    obtain ⟨ti, z, hinfo, hsz, _, hz, hzm, _⟩ := hi.info
    have hk := hf _ _ List.mem_cons_self hs
    have hzr := zmatches_ARs (w := w.alloc (.cells z.cells t)) (U := Un C (w.alloc (.cells z.cells t)) (fupd (fun x => if x ∈ ([] : List Nat) then [] else Fs x) (64 * d) [w.heap.size])) (O := (AEnv.wr ((64 * d, .box i.zero) :: ([] : List Nat).map (·, AObj.dead)) σ).o)
      (ι := fupd ι (64 * d) (.pointer (some ⟨w.heap.size, 0, none⟩))) (hzm hko)
    refine ⟨.value (.pointer (some ⟨w.heap.size, 0, none⟩)), w.alloc (.cells z.cells t), _, _, _, ?_, .inl rfl,
      h.make (gone := []) hk (by simp) rfl rfl rfl (by simp) (fun j hj _ => Below_heap_alloc w _ j hj) (F := [w.heap.size]) (by simp) (by simp)
        ⟨w.heap.size, z.cells, t, rfl, heap_alloc_new w _, hzr.1, hzr.2, rfl⟩, ?_⟩
    · simp [execOp, Instr.alloc, zeroValue, typeInfo, hinfo, hz, newVar, newRow]
    · simp only [AR, AEnv.wr, AEnv.upd, if_true, fupd_same]
      exact ⟨_, rfl, rfl⟩
  · cases he


theorem snd_box (hT : TyOK P T) (h : Sim C σ a w ι Fs) (ha : Agr σ.o τ) {t : Nat} {x : Operand} (he : astep T mv (ev σ) τ ⟨dst, .box t x, type, pos, after, guard⟩ = some e) (hs : e.side)
    (hf : ∀ k ob, (k, ob) ∈ e.oe → τ k = .none → σ.o k = .none) : Snd P C σ a w ⟨dst, .box t x, type, pos, after, guard⟩ e := by
  simp only [astep] at he
  split at he
  · rename_i i d cs hl hc
    cases he
    have hk := hf _ _ List.mem_cons_self hs
    obtain ⟨h1, h2⟩ := cellsOf_AR (U := Un C w Fs) h ha (ev_AR h x) hc
    have hL := h.make_later (w' := w.alloc (.cells (a.eval x).cells t)) (gone := []) hk (ob := .box cs) (v := .pointer (some ⟨w.heap.size, 0, none⟩)) (F := [w.heap.size]) (by simp) (by simp) (fun j hj _ => Below_heap_alloc w _ j hj) (by simp)
    refine ⟨.value (.pointer (some ⟨w.heap.size, 0, none⟩)), w.alloc (.cells (a.eval x).cells t), _, _, _, ?_, .inl rfl,
      h.make (gone := []) hk (by simp) rfl rfl rfl (by simp) (fun j hj _ => Below_heap_alloc w _ j hj) (F := [w.heap.size]) (by simp) (by simp)
        ⟨w.heap.size, (a.eval x).cells, t, rfl, heap_alloc_new w _, ARs_later hL _ _ h1, h2, rfl⟩, ?_⟩
    · simp [execOp, Instr.box, newVar, newRow]
    · simp only [AR, AEnv.wr, AEnv.upd, if_true, fupd_same]
      exact ⟨_, rfl, rfl⟩
  · cases he

end
end Am
