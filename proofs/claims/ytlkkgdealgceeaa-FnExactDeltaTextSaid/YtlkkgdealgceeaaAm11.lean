/- makeSlice, append, cuts of what is owned. No condition. -/
import Derived.Test.YtlkkgdealgceeaaAm10
import Derived.Laws.AppendOwnNone
namespace Am
open Go
set_option linter.unusedSimpArgs false
set_option linter.unusedVariables false
section
variable {P : Program} {T : Ty} {mv : Bool} {C : Ctx} {σ : AEnv} {a : Act} {w w' : World} {ι : Nat → Value} {Fs : Nat → List Nat} {τ : Nat → AObj} {e : Eff}
variable {dst : Option Tmp} {type : TypeId} {pos : String} {after : Array Edge} {guard : Option (Nat × Bool)}

theorem Rs_rep {U : Nat → Prop} {ps : List PV} {vs : List Value} (h : Rs w U ps vs []) : ∀ n, Rs w U (List.replicate n ps).flatten (List.replicate n vs).flatten []
  | 0 => by simp [Rs]
  | n + 1 => by rw [List.replicate_succ, List.replicate_succ, List.flatten_cons, List.flatten_cons]; exact Rs_append _ _ _ _ [] [] h (Rs_rep h n)

theorem snd_makeSlice (hT : TyOK P T) (h : Sim C σ a w ι Fs) {t : Nat} {l c : Operand} (he : astep T mv (ev σ) τ ⟨dst, .makeSlice t l c, type, pos, after, guard⟩ = some e) (hs : e.side)
    (hf : ∀ k ob, (k, ob) ∈ e.oe → τ k = .none → σ.o k = .none) : Snd P C σ a w ⟨dst, .makeSlice t l c, type, pos, after, guard⟩ e := by
  simp only [astep] at he
  split at he
  · rename_i el z1 z2 z3 z4 d k1 n k2 m hl hl1 hl2
    have ht := (hT.m hl).slice rfl
    split at he
    · rename_i i hle
      have hM := hT.m hle
      obtain ⟨ti, z, hinfo, hsz, hby, hz, hzm, _⟩ := hM.info
      split at he
      · rename_i zs hzs
        by_cases hok : ¬ (0 < i.size ∧ i.zero.length = i.size ∧ isOther i.k = false)
        · rw [if_neg hok] at he; cases he
        have hok := Decidable.not_not.1 hok
        rw [if_pos hok] at he
        have hko : i.k ≠ .other := fun hk => by have := hok.2.2; rw [hk] at this; cases this
        cases he
        obtain ⟨hs1, rfl, h0, hb, hm⟩ := hs
        have hk := hf _ _ List.mem_cons_self hs1
        have hv1 := ev_AR h l
        rw [hl1] at hv1
        have hv1 := AR_int hv1
        have hv2 := ev_AR h c
        rw [hl2] at hv2
        have hv2 := AR_int hv2
        have hzr := zmatches_ARs (w := w) (U := Un C w Fs) (O := σ.o) (ι := ι) (hzm hko)
        have hzl : z.cells.size = i.size := by have := ARs_length _ _ hzr.1; rw [hok.2.1] at this; simpa using this.symm
        have hzpos : 0 < z.cells.size := by rw [hzl]; exact hok.1
        have hR := (toPVs_R (τ := fun _ => .none) h (fun k _ hk => absurd rfl hk) hzr.1 hzs).1
        obtain ⟨N, rfl⟩ : ∃ N : Nat, n = N := ⟨n.toNat, by omega⟩
        simp only [Int.toNat_natCast] at hb hm ⊢
        have hcap : capMax = 1099511627776 := rfl
        have hmax : N ≤ maxLen := by unfold maxLen; omega
        obtain ⟨w', hrun, hown, hg⟩ := run_make_full (P := P) w 0 t el ti z i.size ht hinfo hz hsz k1 k2 N (by rw [hby, Nat.mul_comm]; omega) hmax (Nat.zero_le _)
        have hnew : w.heap.size < w'.heap.size := by
          rcases hown.2 with ⟨hv, _⟩ | ⟨g, cap, cur, hv, _, hg, _⟩
          · simp at hv
          · simp only [Value.slice.injEq, Option.some.injEq, Addr.mk.injEq] at hv
            obtain ⟨⟨rfl, _⟩, _⟩ := hv
            exact (Array.getElem?_eq_some_iff.1 hg).1
        have hmr : (madeCells z.cells (N * i.size)).toList = (List.replicate N z.cells.toList).flatten := by
          rw [← hzl]; exact madeCells_rep z.cells N hzpos
        rw [hmr] at hown
        obtain ⟨ι', Fs', hS, hA⟩ := h.newArr (w' := w') hk (gone := []) (by simp) (by simp) (Rs_rep hR N) (cap := N) hg hnew hown
        refine ⟨_, w', ι', Fs', _, ?_, .inl rfl, hS, hA⟩
        simp only [execOp, hv1, hv2, Sem.run_bind, hrun, Result.andThen_ok, Sem.run_pure]
      · cases he
    · cases he
  · cases he


/-- An append to what is owned: where it lies then. -/
theorem append_run {t ty el : Nat} {ti : TypeInfo} {z : Value} {size bytes : Nat} (ht : P.underlying t = some (.slice el)) (hi : P.info? el = some ti) (hz : ti.zero = some z)
    (hsize : ti.size = size) (hby : ti.bytes = bytes) (hzs : z.cells.size = size) (hsz : 0 < size)
    {v : Value} {n : Nat} {xs : List Value} (hown : w.ownsRow 0 el size v n xs)
    {u : Value} {m : Nat} {news : List Value} (hu : ∃ ad c, u = .slice ad m c) (hmem : news = [] ∨ ∃ b off c, u = .slice (some ⟨b, off, none⟩) m c ∧ memAt w b off news)
    (hl : news.length = m * size) (h1 : ∀ y, y ∈ news → y.oneCell' = true)
    (h63 : n + m ≤ maxLen) (hbytes : (n + m) * bytes ≤ 140737488355328) :
    ∃ v' w', (Builtin.append_ #[t, t] ty #[v, u]).run P w = .ok v' w' ∧ w'.ownsRow 0 el size v' (n + m) (xs ++ news) ∧ w.grownBy w' v.ownBlock ∧
      (v'.ownBlock = v.ownBlock ∨ (v'.ownBlock = some w.heap.size ∧ w.heap.size < w'.heap.size)) := by
  by_cases hm0 : m = 0
  · subst hm0
    have hn : news = [] := List.eq_nil_of_length_eq_zero (by simpa using hl)
    subst hn
    obtain ⟨ad, c, rfl⟩ := hu
    refine ⟨v, w, ?_, by simpa using hown, ⟨rfl, rfl, rfl, Nat.le_refl _, fun _ _ _ => rfl⟩, .inl rfl⟩
    have hs0 : (Go.sizeOf el).run P w = .ok size w := by simp [Go.sizeOf, typeInfo, hi, hsize]
    have hf : (Builtin.firstCells size 0 (.slice ad 0 c)).run P w = .ok #[] w := by
      cases ad with
      | none => simp [Builtin.firstCells]
      | some ad => simp [Builtin.firstCells, loadCells, loadCellsFrom]
    rcases hown.2 with ⟨rfl, rfl⟩ | ⟨g, cap, cur, rfl, _, hg, hnc, _⟩
    · simp [Builtin.append_, run_underlying ht, hs0, Builtin.lenOf, hf]
    · simp [Builtin.append_, run_underlying ht, hs0, Builtin.lenOf, hf, hnc, storeCells]
  · have hne : news ≠ [] := by
      intro hn
      rw [hn] at hl
      simp only [List.length_nil] at hl
      rcases Nat.mul_eq_zero.1 hl.symm with h | h <;> omega
    rcases hmem with hmem | ⟨b, off, c, rfl, hmem⟩
    · exact absurd hmem hne
    have hnews : ∀ j y, news[j]? = some y → w.cell? ((⟨b, off, none⟩ : Addr).add j) = some y := fun j y hy => by rw [addr_add]; exact hmem j y hy
    obtain ⟨v', w', hrun, hown', hg, _⟩ := run_append_own (P := P) w 0 t ty el ti z size bytes ht hi hz hsize hby hzs hsz v n xs hown ⟨b, off, none⟩ m c news hl hnews h1 h63 hbytes (Nat.zero_le _)
    refine ⟨v', w', hrun, hown', hg, ?_⟩
    subst hsize
    subst hby
    have hsmall : n + m ≤ 9223372036854775807 := by simp only [maxLen] at h63; omega
    rcases hown.2 with ⟨rfl, rfl⟩ | ⟨g, cap, cur, rfl, _, hgg, hnc, _, hcs, htake⟩
    · have hr := run_append_nil (P := P) w t ty el ti z ht hi hz ⟨b, off, none⟩ m c news hl hnews (by omega) (by omega) (by have hb := hbytes; simp only [Nat.zero_add] at hb; omega)
      rw [hrun] at hr
      cases hr
      exact .inr ⟨rfl, by simp⟩
    · by_cases hroom : n + m ≤ cap
      · have hfit : n * ti.size + news.length ≤ cur.size := by rw [hl, hcs, ← Nat.add_mul]; exact Nat.mul_le_mul_right _ hroom
        have hr := run_append_room (P := P) w t ty el ti ht hi g n cap cur hgg ⟨b, off, none⟩ m c news hl hnews h1 hroom hfit
        rw [hrun] at hr
        cases hr
        exact .inl rfl
      · have holds : ∀ j y, xs[j]? = some y → w.cell? ((⟨g, 0, none⟩ : Addr).add j) = some y := hown.cells (g := g) rfl
        have hr := run_append_grow (P := P) w t ty el ti z ht hi hz ⟨g, 0, none⟩ n cap xs hown.1 holds ⟨b, off, none⟩ m c news hl hnews (by omega) (by omega) (growslice_fits (by omega) hbytes)
        rw [hrun] at hr
        cases hr
        exact .inr ⟨rfl, by simp⟩

theorem Rs_oneCell {U : Nat → Prop} : ∀ {ps : List PV} {vs : List Value} {F : List Nat}, Rs w U ps vs F → ∀ y, y ∈ vs → y.oneCell' = true
  | [], [], _, _, y, hy => by cases hy
  | p :: ps, v :: vs, F, h, y, hy => by
    simp only [Rs] at h
    obtain ⟨F1, F2, h1, h2, _⟩ := h
    rcases List.mem_cons.1 hy with rfl | hy
    · exact (R_oneCell h1).1
    · exact Rs_oneCell h2 y hy
  | [], _ :: _, _, h, _, _ => by simp only [Rs] at h
  | _ :: _, [], _, h, _, _ => by simp only [Rs] at h

/-- What is read of a slice that is appended: its cells; what goes with them. -/
theorem readA_R (h : Sim C σ a w ι Fs) (ha : Agr σ.o τ) {x : AV} {u : Value} {m : Nat} {cs : List PV} {gone : List Nat} (hx : AR w (Un C w Fs) σ.o ι x u) (hr : readA τ x = some (m, cs, gone)) :
    ∃ news F, (∃ ad c, u = .slice ad m c) ∧ (news = [] ∨ ∃ b off c, u = .slice (some ⟨b, off, none⟩) m c ∧ memAt w b off news) ∧ Rs w (Un C w Fs) cs news F ∧ F.Nodup ∧
      (∀ b, b ∈ F → ∃ g, g ∈ gone ∧ b ∈ Fs g) ∧ (∀ g, g ∈ gone → σ.o g ≠ .none) ∧ gone.Nodup := by
  unfold readA at hr
  split at hr
  · cases hr
    simp only [AR, R] at hx
    obtain ⟨_, ad, cap, rfl, _, hc⟩ := hx
    rcases hc with rfl | ⟨b, off, xs, rfl, _, hm, hr⟩
    · exact ⟨[], [], ⟨_, _, rfl⟩, .inl rfl, by simp [Rs], by simp, by simp, by simp, by simp⟩
    · exact ⟨xs, [], ⟨_, _, rfl⟩, .inr ⟨b, off, cap, rfl, hm⟩, hr, by simp, by simp, by simp, by simp⟩
  · cases hr
    simp only [AR] at hx
    exact ⟨[], [], ⟨_, _, hx⟩, .inl rfl, by simp [Rs], by simp, by simp, by simp, by simp⟩
  · rename_i o
    split at hr
    · rename_i g0 e1 s1 n1 cs1 hτ
      cases hr
      obtain ⟨ho, hv⟩ := agr_arr ha hx hτ
      have hob := h.ob o
      rw [ho] at hob
      obtain ⟨xs, F', hown, hrs, hF⟩ := hob
      have hnd := h.nd o
      rw [hF] at hnd
      have hshape : (∃ ad c, u = .slice ad m c) ∧ (xs = [] ∨ ∃ b off c, u = .slice (some ⟨b, off, none⟩) m c ∧ memAt w b off xs) := by
        subst hv
        rcases hown.2 with ⟨hv, rfl⟩ | ⟨g, cap, cur, hv, _⟩
        · exact ⟨⟨_, _, hv⟩, .inl (List.eq_nil_of_length_eq_zero (by simpa using hown.1))⟩
        · refine ⟨⟨_, _, hv⟩, .inr ⟨g, 0, cap, hv, fun j y hy => ?_⟩⟩
          have := hown.cells (g := g) (by rw [hv]; rfl) j y hy
          rwa [addr_add] at this
      by_cases hfree : cs.all isFree = true
      · have := Rs_free hrs hfree
        subst this
        rw [if_pos hfree]
        exact ⟨xs, [], hshape.1, hshape.2, hrs, by simp, by simp, by simp, by simp⟩
      · rw [if_neg hfree]
        refine ⟨xs, F', hshape.1, hshape.2, hrs, (List.nodup_append.1 hnd).2.1, fun b hb => ⟨o, by simp, by rw [hF]; simp [hb]⟩, fun g hg => ?_, by simp⟩
        simp at hg; subst hg; rw [ho]; simp
    · cases hr
  · cases hr

/-- A new array where an append has laid it. -/
theorem Sim.appended (h : Sim C σ a w ι Fs) {k : Nat} (hk : σ.o k = .none) {gone : List Nat} (hgone : ∀ g, g ∈ gone → σ.o g ≠ .none) {ety esz n : Nat} {ps : List PV} {xs : List Value} {F : List Nat} {v v' : Value}
    (hr : Rs w (Un C w Fs) ps xs F) (hFn : F.Nodup) (hFg : ∀ b, b ∈ F → ∃ g, g ∈ gone ∧ b ∈ Fs g) (hvg : ∀ b, v.ownBlock = some b → (∃ g, g ∈ gone ∧ b ∈ Fs g) ∧ b ∉ F)
    (hg : w.grownBy w' v.ownBlock) (hown : w'.ownsRow 0 ety esz v' n xs) (hv' : v'.ownBlock = v.ownBlock ∨ (v'.ownBlock = some w.heap.size ∧ w.heap.size < w'.heap.size)) :
    ∃ ι' Fs', Sim C (AEnv.wr ((k, .arr 0 ety esz n ps) :: gone.map (·, .dead)) σ) a w' ι' Fs' ∧
      AR w' (Un C w' Fs') (AEnv.wr ((k, .arr 0 ety esz n ps) :: gone.map (·, .dead)) σ).o ι' (.arr k) v' := by
  have hb : ∀ j, j < w.heap.size → (∀ g, g ∈ gone → j ∉ Fs g) → w'.heap[j]? = w.heap[j]? := fun j hj hn => hg.block j hj (fun e => by
    obtain ⟨⟨g, hgg, hjg⟩, _⟩ := hvg j e.symm
    exact hn g hgg hjg)
  have hFlt : ∀ b, b ∈ F → b < w.heap.size := fun b hb => by
    obtain ⟨g, _, hbg⟩ := hFg b hb
    exact (h.own g b hbg).1
  have hF : ∀ b, b ∈ (v'.ownBlock.toList ++ F) → b < w'.heap.size ∧ (w.heap.size ≤ b ∨ ∃ g, g ∈ gone ∧ b ∈ Fs g) := by
    intro b hb
    rcases List.mem_append.1 hb with hb | hb
    · have hb' : v'.ownBlock = some b := by simpa using hb
      rcases hv' with e | ⟨e, hlt⟩
      · rw [e] at hb'
        obtain ⟨⟨g, hgg, hbg⟩, _⟩ := hvg b hb'
        exact ⟨Nat.lt_of_lt_of_le (h.own g b hbg).1 hg.size, .inr ⟨g, hgg, hbg⟩⟩
      · rw [e] at hb'
        cases hb'
        exact ⟨hlt, .inl (Nat.le_refl _)⟩
    · exact ⟨Nat.lt_of_lt_of_le (hFlt b hb) hg.size, .inr (hFg b hb)⟩
  have hL := h.make_later (w' := w') (gone := gone) hk (ob := .arr 0 ety esz n ps) (v := v') (F := v'.ownBlock.toList ++ F) hgone hg.size hb hF
  refine ⟨_, _, h.make hk hgone hg.os hg.tape hg.output hg.size hb hF ?_ ⟨xs, F, hown, Rs_mono hL.u hL.heap _ _ _ hr (fun j hj => hg.block j (hFlt j hj) (fun e => (hvg j e.symm).2 hj)), rfl⟩, ?_⟩
  · rw [List.nodup_append]
    refine ⟨by cases v'.ownBlock <;> simp, hFn, fun b hb c hc e => ?_⟩
    subst e
    have hb' : v'.ownBlock = some b := by simpa using hb
    rcases hv' with e | ⟨e, _⟩
    · rw [e] at hb'; exact (hvg b hb').2 hc
    · rw [e] at hb'; cases hb'; have := hFlt _ hc; omega
  · simp only [AR, AEnv.wr, AEnv.upd, if_true, fupd_same]

end
end Am
