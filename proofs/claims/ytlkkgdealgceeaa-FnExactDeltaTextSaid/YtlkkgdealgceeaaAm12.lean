/- append; cuts of what is owned; stores; bytes made a string. No condition. -/
import Derived.Test.YtlkkgdealgceeaaAm11
namespace Am
open Go
set_option linter.unusedSimpArgs false
set_option linter.unusedVariables false
section
variable {P : Program} {T : Ty} {mv : Bool} {C : Ctx} {σ : AEnv} {a : Act} {w w' : World} {ι : Nat → Value} {Fs : Nat → List Nat} {τ : Nat → AObj} {e : Eff}
variable {dst : Option Tmp} {type : TypeId} {pos : String} {after : Array Edge} {guard : Option (Nat × Bool)}

theorem snd_append (hT : TyOK P T) (h : Sim C σ a w ι Fs) (ha : Agr σ.o τ) {s x : Operand} {t t' : Nat} (he : abuiltin T τ dst .append [ev σ s, ev σ x] [t, t'] = some e) (hs : e.side)
    (hf : ∀ k ob, (k, ob) ∈ e.oe → τ k = .none → σ.o k = .none) : Snd P C σ a w ⟨dst, .call ⟨.builtin .append, #[s, x], #[t, t']⟩, type, pos, after, guard⟩ e := by
  simp only [abuiltin] at he
  by_cases htt : ¬ t = t'
  · rw [if_neg htt] at he; cases he
  have htt := Decidable.not_not.1 htt
  rw [if_pos htt] at he
  subst htt
  split at he
  · rename_i el z1 z2 z3 z4 d hl
    have ht := (hT.m hl).slice rfl
    split at he
    · rename_i i m cs gone hle hrd
      have hM := hT.m hle
      obtain ⟨ti, z, hinfo, hsz, hby, hz, hzm, _⟩ := hM.info
      by_cases hok : ¬ (0 < i.size ∧ i.zero.length = i.size ∧ isOther i.k = false)
      · rw [if_neg hok] at he; cases he
      have hok := Decidable.not_not.1 hok
      rw [if_pos hok] at he
      have hko : i.k ≠ .other := fun hk => by have := hok.2.2; rw [hk] at this; cases this
      have hzr := zmatches_ARs (w := w) (U := Un C w Fs) (O := σ.o) (ι := ι) (hzm hko)
      have hzl : z.cells.size = i.size := by have := ARs_length _ _ hzr.1; rw [hok.2.1] at this; simpa using this.symm
      obtain ⟨news, F, hu, hmem, hR, hFn, hFg, hgone, hgn⟩ := readA_R h ha (ev_AR h x) hrd
      have hlen := Rs_length _ _ _ hR
      have hone := Rs_oneCell hR
      have hcap : capMax = 1099511627776 := rfl
      split at he
      · rename_i hsx
        cases he
        obtain ⟨hs1, hs2, hs3, hs4⟩ := hs
        have hk := hf _ _ List.mem_cons_self hs1
        have hv := ev_AR h s
        rw [hsx] at hv
        simp only [AR] at hv
        obtain ⟨v', w', hrun, hown, hg, hv'⟩ := append_run (P := P) (ty := type) ht hinfo hz hsz hby hzl hok.1 (World.ownsRow_nil w 0 el i.size) hu hmem (by rw [← hlen]; exact hs2) hone (by unfold maxLen; omega) (by rw [Nat.zero_add]; omega)
        simp only [Nat.zero_add, List.nil_append] at hown
        obtain ⟨ι', Fs', hS, hA⟩ := h.appended (v := .slice none 0 0) hk hgone hR hFn hFg (by simp [Value.ownBlock]) hg hown hv'
        refine ⟨_, w', ι', Fs', _, ?_, .inl rfl, hS, hA⟩
        simp [execOp, resolve, invoke, builtin, hv, hrun]
      · rename_i b hsx
        split at he
        · rename_i g0 e1 k1 n ds hτ
          by_cases hek : ¬ (e1 = el ∧ k1 = i.size)
          · rw [if_neg hek] at he; cases he
          have hek := Decidable.not_not.1 hek
          rw [if_pos hek] at he
          obtain ⟨rfl, rfl⟩ := hek
          cases he
          obtain ⟨hs1, hs2, hs3, hs4, hs5⟩ := hs
          have hk := hf _ _ List.mem_cons_self hs1
          have hv := ev_AR h s
          rw [hsx] at hv
          obtain ⟨ho, hv⟩ := agr_arr ha hv hτ
          have hob := h.ob b
          rw [ho] at hob
          obtain ⟨xs, F', hownb, hrs, hFb⟩ := hob
          obtain ⟨v', w', hrun, hown, hg, hv'⟩ := append_run (P := P) (ty := type) ht hinfo hz hsz hby hzl hok.1 hownb hu hmem (by rw [← hlen]; exact hs3) hone (by unfold maxLen; omega) (by omega)
          have hndb := h.nd b
          rw [hFb, List.nodup_append] at hndb
          have hFF : ∀ y, y ∈ F' → y ∉ F := fun y hy hy' => by
            obtain ⟨g, hgg, hyg⟩ := hFg y hy'
            exact h.dis b g (fun e => hs2 (e ▸ hgg)) y (by rw [hFb]; simp [hy]) hyg
          obtain ⟨ι', Fs', hS, hA⟩ := h.appended (gone := b :: gone) (v := ι b) (F := F' ++ F) hk (fun g hg => by
              rcases List.mem_cons.1 hg with rfl | hg
              · rw [ho]; simp
              · exact hgone g hg) (Rs_append _ _ _ _ _ _ hrs hR) (List.nodup_append.2 ⟨hndb.2.1, hFn, fun y hy c hc e => hFF y hy (e ▸ hc)⟩)
            (fun y hy => by
              rcases List.mem_append.1 hy with hy | hy
              · exact ⟨b, by simp, by rw [hFb]; simp [hy]⟩
              · obtain ⟨g, hgg, hyg⟩ := hFg y hy
                exact ⟨g, by simp [hgg], hyg⟩)
            (fun y hy => ⟨⟨b, by simp, by rw [hFb, hy]; simp⟩, fun hm => by
              rcases List.mem_append.1 hm with hm | hm
              · exact hndb.2.2 y (by rw [hy]; simp) y hm rfl
              · obtain ⟨g, hgg, hyg⟩ := hFg y hm
                exact h.dis b g (fun e => hs2 (e ▸ hgg)) y (by rw [hFb, hy]; simp) hyg⟩) hg hown hv'
          refine ⟨_, w', ι', Fs', _, ?_, .inl rfl, hS, hA⟩
          simp [execOp, resolve, invoke, builtin, hv, hrun]
        · cases he
      · cases he
    · cases he
  · cases he


theorem snd_trunc (hT : TyOK P T) (h : Sim C σ a w ι Fs) (ha : Agr σ.o τ) {t el z0 z1 : Nat} {z2 : List AV} {z3 : Bool} {x hh : Operand} {b d : Nat} {sd s2 : Prop} {g1 e1 k1 n : Nat} {cs : List PV} {k2 : IntKind} {m : Int}
    (hl : T.lookup t = some ⟨.slice el, z0, z1, z2, z3⟩) (hx : (ev σ x).ug = (sd, .arr b)) (hτ : τ b = .arr g1 e1 k1 n cs) (hm : (ev σ hh).ug = (s2, .c (.int k2 m)))
    (hs : sd ∧ s2 ∧ 0 ≤ m ∧ m ≤ n ∧ τ (64 * d) = .none ∧ cs.all isFree = true) (hf : τ (64 * d) = .none → σ.o (64 * d) = .none) (hel : ∃ i, T.lookup el = some i) :
    Snd P C σ a w ⟨some d, .slice t x none (some hh) none, type, pos, after, guard⟩ ⟨sd ∧ s2 ∧ 0 ≤ m ∧ m ≤ n ∧ τ (64 * d) = .none ∧ cs.all isFree = true, .arr (64 * d), [(64 * d, .arr 0 e1 k1 m.toNat (cs.take (m.toNat * k1))), (b, .dead)]⟩ := by
  obtain ⟨hs0, hs2, h0, hmn, hk0, hfree⟩ := hs
  have ht := (hT.m hl).slice rfl
  obtain ⟨i, hi⟩ := hel
  have hz := (hT.m hi).run_sizeOf w
  have hk := hf hk0
  obtain ⟨ho, hv⟩ := agr_arr ha (ev_ug h x hx hs0) hτ
  have hv2 := AR_int (ev_ug h hh hm hs2)
  have hob := h.ob b
  rw [ho] at hob
  obtain ⟨xs, F', hown, hrs, hF⟩ := hob
  obtain ⟨F1, F2, hr1, _, hFF⟩ := Rs_split (m.toNat * k1) _ _ _ hrs
  have hF' := Rs_free hrs hfree
  subst hF'
  have hF1 : F1 = [] := (List.append_eq_nil_iff.1 hFF.symm).1
  subst hF1
  have key : ∃ v', (Instr.sliceAt t (ι b) none (some (.int k2 m)) none).run P w = .ok v' w ∧ w.ownsRow 0 e1 k1 v' m.toNat (xs.take (m.toNat * k1)) ∧ v'.ownBlock = (ι b).ownBlock := by
    have hlen : (xs.take (m.toNat * k1)).length = m.toNat * k1 := by
      rw [List.length_take, hown.1]
      exact Nat.min_eq_left (Nat.mul_le_mul_right _ (by omega))
    rcases hown.2 with ⟨hv', rfl⟩ | ⟨g, cap, cur, hv', hb0, hg, hnc, hcm, hcs, htake⟩
    · have hm0 : m = 0 := by omega
      subst hm0
      have hb := sliceBounds_run (P := P) (w := w) true 0 0 (Nat.le_refl _) none (some (.int k2 0)) 0 0 .i64 k2 (.inl ⟨rfl, rfl⟩) (.inr rfl) (by omega) (by omega) (by omega)
      rw [hv']
      refine ⟨.slice none 0 0, by simp [Instr.sliceAt, Instr.slice, run_underlying ht, hb, hz], ⟨hlen, .inl ⟨rfl, rfl⟩⟩, rfl⟩
    · have hb := sliceBounds_run (P := P) (w := w) true n cap hnc none (some (.int k2 m)) 0 m .i64 k2 (.inl ⟨rfl, rfl⟩) (.inr rfl) (by omega) h0 hmn
      rw [hv']
      have ha0 : (⟨g, 0, none⟩ : Addr).add 0 = ⟨g, 0, none⟩ := rfl
      refine ⟨.slice (some ⟨g, 0, none⟩) m.toNat cap, ?_, ⟨hlen, .inr ⟨g, cap, cur, rfl, hb0, hg, by omega, hcm, hcs, ?_⟩⟩, rfl⟩
      · simp [Instr.sliceAt, Instr.slice, run_underlying ht, hb, hz, ha0]
      · rw [← htake, List.take_take]
        congr 1
        exact (Nat.min_eq_left (Nat.mul_le_mul_right _ (by omega))).symm
  obtain ⟨v', hrun, hown', hob'⟩ := key
  obtain ⟨ι', Fs', hS, hA⟩ := h.appended (w' := w) (k := 64 * d) (gone := [b]) (v := ι b) (F := []) hk (by intro g hg; simp at hg; subst hg; rw [ho]; simp) hr1 (by simp) (by simp)
    (fun y hy => ⟨⟨b, by simp, by rw [hF, hy]; simp⟩, by simp⟩) ⟨rfl, rfl, rfl, Nat.le_refl _, fun _ _ _ => rfl⟩ hown' (.inl hob')
  refine ⟨_, w, ι', Fs', _, ?_, .inl rfl, hS, hA⟩
  simp only [execOp, hv, hv2, Option.map_none, Option.map_some, Sem.run_bind, hrun, Result.andThen_ok, Sem.run_pure]

theorem toPVs_free {O : Nat → AObj} : ∀ {xs : List AV} {ps : List PV}, toPVs O xs = some (ps, []) → ps.all isFree = true ∧ ps.length = xs.length
  | [], ps, h => by simp [toPVs] at h; subst h; simp
  | x :: xs, ps, h => by
    simp only [toPVs] at h
    split at h
    · rename_i p l ps' ls h1 h2
      simp only [Option.some.injEq, Prod.mk.injEq, List.append_eq_nil_iff] at h
      obtain ⟨rfl, rfl, rfl⟩ := h
      obtain ⟨g1, g2⟩ := toPVs_free h2
      have : isFree p = true := by
        unfold toPV at h1
        split at h1
        · split at h1
          · rename_i hf; cases h1; exact hf
          · cases h1
        · cases h1; rfl
        · split at h1 <;> cases h1
        · cases h1
      simp [this, g1, g2]
    · cases h

theorem splice_getElem? {α : Type} (l : List α) (off : Nat) (xs : List α) (h : off + xs.length ≤ l.length) (j : Nat) : (splice l off xs)[j]? = if off ≤ j ∧ j < off + xs.length then xs[j - off]? else l[j]? := by
  unfold splice
  have h1 : (l.take off).length = off := by simp; omega
  by_cases hj : j < off
  · rw [List.append_assoc, List.getElem?_append_left (by rw [h1]; exact hj), if_neg (by omega), List.getElem?_take, if_pos hj]
  · by_cases hj2 : j < off + xs.length
    · rw [List.append_assoc, List.getElem?_append_right (by rw [h1]; omega), h1, List.getElem?_append_left (by omega), if_pos ⟨by omega, hj2⟩]
    · rw [List.getElem?_append_right (by rw [List.length_append, h1]; omega), List.length_append, h1, if_neg (by omega), List.getElem?_drop]
      congr 1
      omega

theorem storeAt_run {t : Nat} {i : TyI} (hi : TyM P t i) {g off : Nat} {cur : Array Value} {ty : Nat} {v : Value} (hg : w.heap[g]? = some (.cells cur ty (0, 0))) (hsz : v.cells.size = i.size) (hfit : off + v.cells.size ≤ cur.size)
    (h1 : ∀ y, y ∈ v.cells.toList → y.oneCell' = true) :
    (Instr.storeAt t (.pointer (some ⟨g, off, none⟩)) v).run P w = .ok () (w.setRow g (splice cur.toList off v.cells.toList).toArray) := by
  have hz := hi.run_sizeOf w
  have hst := run_storeCells_at P g off ty v.cells.toList 0 cur w hg (by simpa using hfit) h1
  have hne : ¬ (v.cells.size ≠ i.size) := fun h => h hsz
  simp only [Instr.storeAt, Instr.sureAddr, storeVar, Sem.run_bind, Sem.run_pure, Result.andThen_ok, hz, Sem.run_ite, if_neg hne, hst]
  rfl

theorem Sim.edit_later (h : Sim C σ a w ι Fs) {b : Nat} {ob : AObj} {F : List Nat} (hsize : w.heap.size ≤ w'.heap.size) (hblock : ∀ j, j < w.heap.size → j ∉ Fs b → w'.heap[j]? = w.heap[j]?) (hF : ∀ y, y ∈ F → y ∈ Fs b)
    (hkind : (∃ cs cs', σ.o b = .box cs ∧ ob = .box cs') ∨ (∃ g ety esz n cs g' ety' esz' n' cs', σ.o b = .arr g ety esz n cs ∧ ob = .arr g' ety' esz' n' cs' ∧ g ≤ g' ∧
      (g = g' → ∀ off, isOw cs' off → isOw cs off ∧ ∀ k, (ι b).ownBlock = some k → w'.cell? ⟨k, off, none⟩ = w.cell? ⟨k, off, none⟩)) ∨ (∃ Q Q', σ.o b = .mp Q ∧ ob = .mp Q')) :
    Later w w' (Un C w Fs) (Un C w' (fupd Fs b F)) σ.o (σ.upd b ob).o ι ι := by
  have ho' : ∀ x, (σ.upd b ob).o x = if x = b then ob else σ.o x := fun x => rfl
  refine ⟨fun j hj => ⟨Nat.lt_of_lt_of_le hj.1 hsize, hj.2.1, fun o ho => ?_⟩, fun j hj => hblock j hj.1 (hj.2.2 b), fun o => ?_⟩
  · by_cases e : o = b
    · subst e; rw [fupd_same] at ho; exact hj.2.2 o (hF j ho)
    · rw [fupd_ne _ e] at ho; exact hj.2.2 o ho
  · by_cases e : o = b
    · subst e
      rcases hkind with ⟨cs, cs', h1, rfl⟩ | ⟨g1, e1, s1, n1, cs, g2, e2, s2, n2, cs', h1, rfl, h2⟩ | ⟨Q, Q', h1, rfl⟩
      · exact .inr (.inr (.inl ⟨cs, cs', h1, by rw [ho', if_pos rfl], rfl⟩))
      · exact .inr (.inr (.inr (.inl ⟨g1, e1, s1, n1, cs, g2, e2, s2, n2, cs', h1, by rw [ho', if_pos rfl], rfl, h2⟩)))
      · exact .inr (.inr (.inr (.inr ⟨Q, Q', h1, by rw [ho', if_pos rfl], rfl⟩)))
    · have ho : (σ.upd b ob).o o = σ.o o := by rw [ho', if_neg e]
      cases hO : σ.o o with
      | none => exact .inl rfl
      | dead => exact .inr (.inl (by rw [ho, hO]))
      | box c => exact .inr (.inr (.inl ⟨c, c, rfl, by rw [ho, hO], rfl⟩))
      | mp Q => exact .inr (.inr (.inr (.inr ⟨Q, Q, rfl, by rw [ho, hO], rfl⟩)))
      | arr g1 e1 s1 n1 c =>
        refine .inr (.inr (.inr (.inl ⟨g1, e1, s1, n1, c, g1, e1, s1, n1, c, rfl, by rw [ho, hO], rfl, Nat.le_refl _, fun _ off hi => ⟨hi, fun k hk => ?_⟩⟩)))
        have hob := h.ob o
        rw [hO] at hob
        obtain ⟨xs, F', _, _, hF'⟩ := hob
        have hko : k ∈ Fs o := by rw [hF', hk]; simp
        exact World.cell?_of_block (w := w) (w' := w') (a := ⟨k, off, none⟩) (hblock k (h.own o k hko).1 (fun hkb => h.dis o b e k hko hkb))

theorem Sim.edit (h : Sim C σ a w ι Fs) {b : Nat} {ob : AObj} {F : List Nat} (hos : w'.os = w.os) (htape : w'.tape = w.tape) (hout : w'.output = w.output) (hsize : w.heap.size ≤ w'.heap.size)
    (hblock : ∀ j, j < w.heap.size → j ∉ Fs b → w'.heap[j]? = w.heap[j]?) (hF : ∀ y, y ∈ F → y ∈ Fs b) (hnd : F.Nodup)
    (hkind : (∃ cs cs', σ.o b = .box cs ∧ ob = .box cs') ∨ (∃ g ety esz n cs g' ety' esz' n' cs', σ.o b = .arr g ety esz n cs ∧ ob = .arr g' ety' esz' n' cs' ∧ g ≤ g' ∧
      (g = g' → ∀ off, isOw cs' off → isOw cs off ∧ ∀ k, (ι b).ownBlock = some k → w'.cell? ⟨k, off, none⟩ = w.cell? ⟨k, off, none⟩)) ∨ (∃ Q Q', σ.o b = .mp Q ∧ ob = .mp Q'))
    (hob : ObR w' (Un C w' (fupd Fs b F)) (σ.upd b ob).o ι ob (ι b) F) : Sim C (σ.upd b ob) a w' ι (fupd Fs b F) := by
  have ho' : ∀ x, (σ.upd b ob).o x = if x = b then ob else σ.o x := fun x => rfl
  refine h.move (O' := (σ.upd b ob).o) (X := (· = b)) ⟨hos, htape, hout, hsize, fun j hj hX => hblock j hj (hX b rfl), fun o hX => ⟨by rw [ho', if_neg hX], rfl, fupd_ne _ hX _⟩, fun o hX => ?_, fun o hX => ?_, fun o hX => ?_, fun o hX y hy => ?_, fun o o' hX hX' hne => absurd (hX.trans hX'.symm) hne⟩
  · subst hX
    rcases hkind with ⟨cs, cs', h1, rfl⟩ | ⟨g1, e1, s1, n1, cs, g2, e2, s2, n2, cs', h1, rfl, h2⟩ | ⟨Q, Q', h1, rfl⟩
    · exact .inr (.inr (.inl ⟨cs, cs', h1, by rw [ho', if_pos rfl], rfl⟩))
    · exact .inr (.inr (.inr (.inl ⟨g1, e1, s1, n1, cs, g2, e2, s2, n2, cs', h1, by rw [ho', if_pos rfl], rfl, h2⟩)))
    · exact .inr (.inr (.inr (.inr ⟨Q, Q', h1, by rw [ho', if_pos rfl], rfl⟩)))
  · subst hX; rw [ho', if_pos rfl, fupd_same]; exact hob
  · subst hX; rw [fupd_same]; exact hnd
  · subst hX; rw [fupd_same] at hy; exact ⟨Nat.lt_of_lt_of_le (h.own o y (hF y hy)).1 hsize, .inr ⟨o, rfl, hF y hy⟩⟩

end
end Am
