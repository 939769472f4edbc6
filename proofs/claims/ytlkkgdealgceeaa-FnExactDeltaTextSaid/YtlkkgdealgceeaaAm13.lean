/- Cuts, stores, bytes made a string; all operations. No condition. -/
import Derived.Test.YtlkkgdealgceeaaAm12
import Derived.Laws.BytesString
namespace Am
open Go
set_option linter.unusedSimpArgs false
set_option linter.unusedVariables false
section
variable {P : Program} {T : Ty} {mv : Bool} {C : Ctx} {σ : AEnv} {a : Act} {w w' : World} {ι : Nat → Value} {Fs : Nat → List Nat} {τ : Nat → AObj} {e : Eff}
variable {dst : Option Tmp} {type : TypeId} {pos : String} {after : Array Edge} {guard : Option (Nat × Bool)}

theorem Sim.editm_un (h : Sim C σ a w ι Fs) {b : Nat} {gone : List Nat} {F : List Nat} (hsize : w.heap.size ≤ w'.heap.size) (hF : ∀ y, y ∈ F → y ∈ Fs b ∨ ∃ g, g ∈ gone ∧ y ∈ Fs g) (k : Nat) (hk : Un C w Fs k) :
    Un C w' (fun o => if o = b then F else if o ∈ gone then [] else Fs o) k := by
  refine ⟨Nat.lt_of_lt_of_le hk.1 hsize, hk.2.1, fun o ho => ?_⟩
  by_cases e : o = b
  · simp only [if_pos e] at ho
    rcases hF k ho with h1 | ⟨g, _, h1⟩
    · exact hk.2.2 b h1
    · exact hk.2.2 g h1
  · by_cases e2 : o ∈ gone
    · simp only [if_neg e, if_pos e2] at ho; cases ho
    · simp only [if_neg e, if_neg e2] at ho; exact hk.2.2 o ho

/-- One object written, others gone into it. -/
theorem Sim.editm (h : Sim C σ a w ι Fs) {b : Nat} {gone : List Nat} {ob : AObj} {F : List Nat} (hos : w'.os = w.os) (htape : w'.tape = w.tape) (hout : w'.output = w.output) (hsize : w.heap.size ≤ w'.heap.size)
    (hblock : ∀ j, j < w.heap.size → j ∉ Fs b → w'.heap[j]? = w.heap[j]?) (hF : ∀ y, y ∈ F → y ∈ Fs b ∨ ∃ g, g ∈ gone ∧ y ∈ Fs g) (hnd : F.Nodup) (hbg : b ∉ gone)
    (hkind : (∃ cs cs', σ.o b = .box cs ∧ ob = .box cs') ∨ (∃ g ety esz n cs g' ety' esz' n' cs', σ.o b = .arr g ety esz n cs ∧ ob = .arr g' ety' esz' n' cs' ∧ g ≤ g' ∧
      (g = g' → ∀ off, isOw cs' off → isOw cs off ∧ ∀ k, (ι b).ownBlock = some k → w'.cell? ⟨k, off, none⟩ = w.cell? ⟨k, off, none⟩)) ∨ (∃ Q Q', σ.o b = .mp Q ∧ ob = .mp Q'))
    (hob : ObR w' (Un C w' (fun o => if o = b then F else if o ∈ gone then [] else Fs o)) (AEnv.wr ((b, ob) :: gone.map (·, .dead)) σ).o ι ob (ι b) F) :
    Sim C (AEnv.wr ((b, ob) :: gone.map (·, .dead)) σ) a w' ι (fun o => if o = b then F else if o ∈ gone then [] else Fs o) := by
  have ho' : ∀ x, (AEnv.wr ((b, ob) :: gone.map (·, .dead)) σ).o x = if x = b then ob else if x ∈ gone then .dead else σ.o x := fun x => by
    show (if x = b then ob else (AEnv.wr (gone.map (·, .dead)) σ).o x) = _
    rw [wr_dead_o]
  have hM := h.move (O' := (AEnv.wr ((b, ob) :: gone.map (·, .dead)) σ).o) (w' := w') (ι' := ι) (Fs' := fun o => if o = b then F else if o ∈ gone then [] else Fs o) (X := fun o => o = b ∨ o ∈ gone)
    ⟨hos, htape, hout, hsize, fun j hj hX => hblock j hj (hX b (.inl rfl)), fun o hX => ?_, fun o hX => ?_, fun o hX => ?_, fun o hX => ?_, fun o hX y hy => ?_, fun o o' hX hX' hne y hy hy' => ?_⟩
  · have e1 : AEnv.wr ((b, ob) :: gone.map (·, .dead)) σ = ⟨σ.t, (AEnv.wr ((b, ob) :: gone.map (·, .dead)) σ).o⟩ := AEnv.eqv (wr_t' _ _) rfl
    rw [e1]; exact hM
  · have h1 : o ≠ b := fun e => hX (.inl e)
    have h2 : o ∉ gone := fun e => hX (.inr e)
    exact ⟨by rw [ho', if_neg h1, if_neg h2], rfl, by simp only [if_neg h1, if_neg h2]⟩
  · rcases hX with rfl | hX
    · rcases hkind with ⟨cs, cs', h1, rfl⟩ | ⟨g1, e1, s1, n1, cs, g2, e2, s2, n2, cs', h1, rfl, h2⟩ | ⟨Q, Q', h1, rfl⟩
      · exact .inr (.inr (.inl ⟨cs, cs', h1, by rw [ho', if_pos rfl], rfl⟩))
      · exact .inr (.inr (.inr (.inl ⟨g1, e1, s1, n1, cs, g2, e2, s2, n2, cs', h1, by rw [ho', if_pos rfl], rfl, h2⟩)))
      · exact .inr (.inr (.inr (.inr ⟨Q, Q', h1, by rw [ho', if_pos rfl], rfl⟩)))
    · have h1 : o ≠ b := fun e => hbg (e ▸ hX)
      exact .inr (.inl (by rw [ho', if_neg h1, if_pos hX]))
  · rcases hX with rfl | hX
    · rw [ho', if_pos rfl]; simp only [if_true]; exact hob
    · have h1 : o ≠ b := fun e => hbg (e ▸ hX)
      rw [ho', if_neg h1, if_pos hX]
      simp only [if_neg h1, if_pos hX, ObR]
  · rcases hX with rfl | hX
    · simp only [if_true]; exact hnd
    · have h1 : o ≠ b := fun e => hbg (e ▸ hX)
      simp only [if_neg h1, if_pos hX]; exact List.nodup_nil
  · rcases hX with rfl | hX
    · simp only [if_true] at hy
      rcases hF y hy with h1 | ⟨g, hg, h1⟩
      · exact ⟨Nat.lt_of_lt_of_le (h.own _ y h1).1 hsize, .inr ⟨o, .inl rfl, h1⟩⟩
      · exact ⟨Nat.lt_of_lt_of_le (h.own _ y h1).1 hsize, .inr ⟨g, .inr hg, h1⟩⟩
    · have h1 : o ≠ b := fun e => hbg (e ▸ hX)
      simp only [if_neg h1, if_pos hX] at hy; cases hy
  · rcases hX with rfl | hX
    · rcases hX' with rfl | hX'
      · exact hne rfl
      · have h1 : o' ≠ o := fun e => hbg (e ▸ hX')
        simp only [if_neg h1, if_pos hX'] at hy'; cases hy'
    · have h1 : o ≠ b := fun e => hbg (e ▸ hX)
      simp only [if_neg h1, if_pos hX] at hy; cases hy

theorem snd_slice (hT : TyOK P T) (h : Sim C σ a w ι Fs) (ha : Agr σ.o τ) {t : Nat} {x : Operand} {lo hi mx : Option Operand} (he : astep T mv (ev σ) τ ⟨dst, .slice t x lo hi mx, type, pos, after, guard⟩ = some e) (hs : e.side)
    (hf : ∀ k ob, (k, ob) ∈ e.oe → τ k = .none → σ.o k = .none) :
    Snd P C σ a w ⟨dst, .slice t x lo hi mx, type, pos, after, guard⟩ e := by
  cases mx with
  | some mx => simp [astep] at he
  | none =>
  simp only [astep] at he
  split at he
  · rename_i z0 z1 z2 z3 s b hl hx
    have ht := (hT.m hl).str rfl
    split at he
    · rename_i s1 k1 l s2 k2 hh h1 h2
      cases he
      obtain ⟨hs0, hs1, hs2, h0, h01, h12⟩ := hs
      have hv := AR_str (ev_ug h x hx hs0)
      have hb := sliceBounds_run (P := P) (w := w) false b.size b.size (Nat.le_refl _) (lo.map a.eval) (hi.map a.eval) l hh k1 k2 (bnd_run h h1 hs1) (bnd_run h h2 hs2) h0 h01 h12
      exact Snd.pure h (by simp [execOp, Instr.sliceAt, Instr.slice, run_underlying ht, hv, hb]) AR_mkstr
    · cases he
  · rename_i el z0 z1 z2 z3 s n cs hl hx
    have ht := (hT.m hl).slice rfl
    split at he
    · rename_i i hle
      have hi' := hT.m hle
      split at he
      · rename_i s1 k1 l s2 k2 hh h1 h2
        cases he
        obtain ⟨hs0, hs1, hs2, h0, h01, h12⟩ := hs
        have hv := ev_ug h x hx hs0
        simp only [AR, R] at hv
        obtain ⟨_, ad, cap, hv, hcap, hv2⟩ := hv
        have hb := sliceBounds_run (P := P) (w := w) true n cap hcap (lo.map a.eval) (hi.map a.eval) l hh k1 k2 (bnd_run h h1 hs1) (bnd_run h h2 hs2) h0 h01 h12
        have hz := hi'.run_sizeOf w
        refine Snd.pure h (v := .slice (if cap = l.toNat then ad else ad.map (·.add (l.toNat * i.size))) (hh.toNat - l.toNat) (cap - l.toNat)) ?_ ?_
        · simp [execOp, Instr.sliceAt, Instr.slice, run_underlying ht, hv, hb, hz]
        · simp only [AR, R]
          refine ⟨trivial, _, _, rfl, by omega, ?_⟩
          rcases hv2 with rfl | ⟨b, off, xs, rfl, hU, hm, hr⟩
          · exact .inl (by simp)
          · by_cases hc : cap = l.toNat
            · left
              have : hh.toNat - l.toNat = 0 := by omega
              simp [this]
            · right
              have hadd : (⟨b, off, none⟩ : Addr).add (l.toNat * i.size) = ⟨b, off + l.toNat * i.size, none⟩ := by unfold Addr.add; split <;> simp_all
              exact ⟨b, off + l.toNat * i.size, _, by rw [if_neg hc, Option.map_some, hadd], hU, memAt_take (memAt_drop hm _) _, Rs_take (Rs_drop hr _) _⟩
      · cases he
    · cases he
  · rename_i el z0 z1 z2 z3 s b hl hx
    split at he
    · rename_i e1 k1 n cs d hh hτ hle
      split at he
      · rename_i s2 k2 m hm
        cases he
        exact snd_trunc hT h ha hl hx hτ hm hs (hf _ _ List.mem_cons_self) ⟨_, hle⟩
      · cases he
    · cases he
  · cases he


theorem snd_store (hT : TyOK P T) (h : Sim C σ a w ι Fs) (ha : Agr σ.o τ) {t : Nat} {x y : Operand} (he : astep T mv (ev σ) τ ⟨dst, .store t x y, type, pos, after, guard⟩ = some e) (hs : e.side) :
    Snd P C σ a w ⟨dst, .store t x y, type, pos, after, guard⟩ e := by
  simp only [astep] at he
  split at he
  · rename_i i b off xs hl hx hc
    have hi := hT.m hl
    obtain ⟨hcr, h1⟩ := cellsOf_AR (U := Un C w Fs) h ha (ev_AR h y) hc
    split at he
    · rename_i cs hτ
      by_cases hok : ¬ (xs.length = i.size ∧ off + xs.length ≤ cs.length)
      · rw [if_neg hok] at he; cases he
      have hok := Decidable.not_not.1 hok
      rw [if_pos hok] at he
      cases he
      have hv := ev_AR h x
      rw [hx] at hv
      obtain ⟨ho, k, hk, hv⟩ := agr_box ha hv hτ
      obtain ⟨vals, ty, hh, hm, hr, ho1, hF⟩ := box_mem h ho hk
      have hl1 := ARs_length _ _ hr
      have hl2 := ARs_length _ _ hcr
      simp only [Array.length_toList] at hl1 hl2
      have hrun := storeAt_run (P := P) hi (off := off) (v := a.eval y) hh (by rw [← hl2]; exact hok.1) (by rw [← hl1, ← hl2]; exact hok.2) h1
      have hbl : ∀ j, j < w.heap.size → j ∉ Fs b → (w.setRow k (splice vals.toList off (a.eval y).cells.toList).toArray).heap[j]? = w.heap[j]? := fun j _ hj => setRow_other w k j _ (fun e => hj (by rw [hF, e]; simp))
      have hL := h.edit_later (w' := w.setRow k (splice vals.toList off (a.eval y).cells.toList).toArray) (b := b) (ob := .box (splice cs off xs)) (F := [k]) (by simp) hbl (by intro z hz; rw [hF]; exact hz) (.inl ⟨_, _, ho, rfl⟩)
      refine ⟨.skip, w.setRow k (splice vals.toList off (a.eval y).cells.toList).toArray, ι, _, undef, ?_, .inr ⟨rfl, rfl⟩,
        h.edit (ob := .box (splice cs off xs)) (F := [k]) rfl rfl rfl (by simp) hbl (by intro z hz; rw [hF]; exact hz) (by simp) (.inl ⟨_, _, ho, rfl⟩)
          ⟨k, _, ty, hk, setRow_heap w k vals _ ty _ hh, ?_, ?_, rfl⟩, by simp only [AR]⟩
      · simp only [execOp, hv, Sem.run_bind, hrun, Result.andThen_ok, Sem.run_pure]
      · simpa using ARs_splice (ARs_later hL _ _ hr) (ARs_later hL _ _ hcr) off
      · intro z hz
        simp only [splice, List.mem_append] at hz
        rcases hz with (hz | hz) | hz
        · exact ho1 z (List.mem_of_mem_take hz)
        · exact h1 z hz
        · exact ho1 z (List.mem_of_mem_drop hz)
    · cases he
  · rename_i i b off xs hl hx hc
    have hi := hT.m hl
    obtain ⟨hcr, h1⟩ := cellsOf_AR (U := Un C w Fs) h ha (ev_AR h y) hc
    split at he
    · rename_i g0 el1 s1 n cs hτ
      split at he
      · rename_i ps gone hps
        by_cases hok : ¬ (xs.length = i.size)
        · rw [if_neg hok] at he; cases he
        have hok := Decidable.not_not.1 hok
        rw [if_pos hok] at he
        cases he
        obtain ⟨hfit, hgn, hbg⟩ := hs
        have hv := ev_AR h x
        rw [hx] at hv
        obtain ⟨ho, k, hk, hv⟩ := agr_pa ha hv hτ
        obtain ⟨vs, F', hown, hm, hr, hF⟩ := arr_mem h ho hk
        obtain ⟨hpsr, hgone⟩ := toPVs_R h ha hcr hps
        have hpl : ps.length = xs.length := by rw [Rs_length _ _ _ hpsr, ARs_length _ _ hcr]
        have hl1 := Rs_length _ _ _ hr
        have hl2 := ARs_length _ _ hcr
        simp only [Array.length_toList] at hl2
        have hob : (ι b).ownBlock = some k := hk
        rcases hown.2 with ⟨hv0, _⟩ | ⟨g, cap, cur, hv0, hb0, hg, hnc, hcm, hcs, htake⟩
        · rw [hv0] at hob; cases hob
        rw [hv0] at hob
        cases hob
        have hvl : vs.length = n * s1 := hown.1
        have hcl : n * s1 ≤ cur.size := by rw [hcs]; exact Nat.mul_le_mul_right _ hnc
        have hfit2 : off + (a.eval y).cells.size ≤ cur.size := by omega
        have hus : (a.eval y).cells.toList.length = ps.length := by simp only [Array.length_toList]; omega
        have hrun := storeAt_run (P := P) hi (off := off) (v := a.eval y) hg (by omega) hfit2 h1
        have hWh := setRow_heap w g cur (splice cur.toList off (a.eval y).cells.toList).toArray el1 (0, 0) hg
        have hWo : ∀ j, j ≠ g → (w.setRow g (splice cur.toList off (a.eval y).cells.toList).toArray).heap[j]? = w.heap[j]? := fun j hj => setRow_other w g j _ hj
        have hWs : w.heap.size ≤ (w.setRow g (splice cur.toList off (a.eval y).cells.toList).toArray).heap.size := by simp
        have h1W : (w.setRow g (splice cur.toList off (a.eval y).cells.toList).toArray).os = w.os := rfl
        have h2W : (w.setRow g (splice cur.toList off (a.eval y).cells.toList).toArray).tape = w.tape := rfl
        have h3W : (w.setRow g (splice cur.toList off (a.eval y).cells.toList).toArray).output = w.output := rfl
        generalize w.setRow g (splice cur.toList off (a.eval y).cells.toList).toArray = W at hrun hWh hWo hWs h1W h2W h3W
        obtain ⟨F1, F23, hr1, hr23, rfl⟩ := Rs_split off _ _ _ hr
        obtain ⟨F2, F3, hr2, hr3, rfl⟩ := Rs_split ps.length _ _ _ hr23
        rw [List.drop_drop, List.drop_drop] at hr3
        have hbl : ∀ j, j < w.heap.size → j ∉ Fs b → W.heap[j]? = w.heap[j]? := fun j _ hj => hWo j (fun e => hj (by rw [hF, e]; simp))
        have hold : ∀ z, z ∈ (g :: (F1 ++ F3)) → z ∈ Fs b := by
          intro z hz
          rw [hF]
          simp only [List.mem_cons, List.mem_append] at hz ⊢
          rcases hz with hz | hz | hz
          · exact .inl hz
          · exact .inr (.inl hz)
          · exact .inr (.inr (.inr hz))
        have hgm : ∀ z, z ∈ gone.flatMap Fs → ∃ g, g ∈ gone ∧ z ∈ Fs g := fun z hz => by obtain ⟨g, h2, h3⟩ := List.mem_flatMap.1 hz; exact ⟨g, h2, h3⟩
        have hFs : ∀ z, z ∈ (g :: (F1 ++ (gone.flatMap Fs) ++ F3)) → z ∈ Fs b ∨ ∃ g, g ∈ gone ∧ z ∈ Fs g := by
          intro z hz
          simp only [List.mem_cons, List.mem_append] at hz
          rcases hz with hz | (hz | hz) | hz
          · exact .inl (hold z (by simp [hz]))
          · exact .inl (hold z (by simp [hz]))
          · exact .inr (hgm z hz)
          · exact .inl (hold z (by simp [hz]))
        have hnd0 : (g :: (F1 ++ F3)).Nodup := by
          have := h.nd b
          rw [hF] at this
          exact this.sublist (List.Sublist.cons_cons g (List.Sublist.append (List.Sublist.refl F1) (List.sublist_append_right F2 F3)))
        have hsep : ∀ z, z ∈ gone.flatMap Fs → z ∉ Fs b := fun z hz hzb => by
          obtain ⟨g', h2, h3⟩ := hgm z hz
          exact h.dis b g' (fun e => hbg (e ▸ h2)) z hzb h3
        have hnd : (g :: (F1 ++ gone.flatMap Fs ++ F3)).Nodup := by
          rw [List.nodup_cons] at hnd0 ⊢
          obtain ⟨q1, q2⟩ := hnd0
          rw [List.nodup_append] at q2
          refine ⟨fun hz => ?_, ?_⟩
          · simp only [List.mem_append] at hz q1
            rcases hz with (hz | hz) | hz
            · exact q1 (.inl hz)
            · exact hsep g hz (hold g (by simp))
            · exact q1 (.inr hz)
          · rw [List.nodup_append, List.nodup_append]
            refine ⟨⟨q2.1, gone_nodup h hgn, fun y hy c hc e => hsep c hc (hold c (by rw [← e]; simp [hy]))⟩, q2.2.1, fun y hy c hc e => ?_⟩
            rcases List.mem_append.1 hy with hy | hy
            · exact q2.2.2 y hy c hc e
            · exact hsep y hy (hold y (by rw [e]; simp [hc]))
        have hkind : g0 = (if ps.all isFree then g0 else g0 + 1) → ∀ off', isOw (splice cs off ps) off' → isOw cs off' ∧ ∀ k, (ι b).ownBlock = some k → W.cell? ⟨k, off', none⟩ = w.cell? ⟨k, off', none⟩ := by
          rintro hgg off' ⟨e2, s2, n2, c2, hc2⟩
          have hfree : ps.all isFree = true := by
            cases hfr : ps.all isFree with
            | true => rfl
            | false => rw [hfr] at hgg; simp at hgg
          rw [splice_getElem? cs off ps hfit] at hc2
          by_cases hin : off ≤ off' ∧ off' < off + ps.length
          · rw [if_pos hin] at hc2
            have := List.all_eq_true.1 hfree _ (List.mem_of_getElem? hc2)
            simp [isFree] at this
          · rw [if_neg hin] at hc2
            refine ⟨⟨e2, s2, n2, c2, hc2⟩, fun k2 hk2 => ?_⟩
            rw [hk] at hk2
            cases hk2
            have hh' := hWh
            simp only [World.cell?, hh', hg]
            have := splice_getElem? cur.toList off (a.eval y).cells.toList (by simpa using hfit2) off'
            rw [if_neg (by rw [hus]; exact hin)] at this
            simpa using this
        have hU := h.editm_un (w' := W) (b := b) (gone := gone) (F := g :: (F1 ++ gone.flatMap Fs ++ F3)) hWs hFs
        have hUh : ∀ j, Un C w Fs j → W.heap[j]? = w.heap[j]? := fun j hj => hbl j hj.1 (hj.2.2 b)
        have hmem : ∀ z, z ∈ F1 ++ F3 → z < w.heap.size ∧ z ≠ g := fun z hz => by
          refine ⟨(h.own b z (hold z (List.mem_cons_of_mem _ hz))).1, fun e => ?_⟩
          rw [List.nodup_cons] at hnd0
          exact hnd0.1 (e ▸ hz)
        have hRnew : Rs W (Un C W (fun o => if o = b then g :: (F1 ++ gone.flatMap Fs ++ F3) else if o ∈ gone then [] else Fs o)) (splice cs off ps) (splice vs off (a.eval y).cells.toList) (F1 ++ gone.flatMap Fs ++ F3) := by
          have hsp : splice vs off (a.eval y).cells.toList = vs.take off ++ (a.eval y).cells.toList ++ vs.drop (off + ps.length) := by rw [splice, hus]
          rw [hsp]
          have e1 := Rs_mono hU hUh _ _ _ hr1 (fun z hz => hWo z (hmem z (by simp [hz])).2)
          have e2 := Rs_mono hU hUh _ _ _ hpsr (fun z hz => hWo z (fun e => hsep z hz (hold z (by rw [e]; simp))))
          have e3 := Rs_mono hU hUh _ _ _ hr3 (fun z hz => hWo z (hmem z (by simp [hz])).2)
          exact Rs_append _ _ _ _ _ _ (Rs_append _ _ _ _ _ _ e1 e2) e3
        refine ⟨.skip, W, ι, _, undef, ?_, .inr ⟨rfl, rfl⟩, h.editm (ob := .arr (if ps.all isFree then g0 else g0 + 1) el1 s1 n (splice cs off ps)) (F := g :: (F1 ++ gone.flatMap Fs ++ F3)) h1W h2W h3W hWs hbl hFs hnd hbg
          (.inr (.inl ⟨_, _, _, _, _, _, _, _, _, _, ho, rfl, by split <;> omega, hkind⟩))
          ⟨_, F1 ++ gone.flatMap Fs ++ F3, ⟨?_, .inr ⟨g, cap, _, hv0, hb0, hWh, hnc, hcm, ?_, ?_⟩⟩, hRnew, by rw [hv0]; rfl⟩, by simp only [AR]⟩
        · simp only [execOp, hv, Sem.run_bind, hrun, Result.andThen_ok, Sem.run_pure]
        · rw [splice_length _ _ _ (by rw [hus]; omega), hvl]
        · rw [List.size_toArray, splice_length _ _ _ (by simpa using hfit2)]; simpa using hcs
        · apply List.ext_getElem?
          intro j
          rw [List.getElem?_take, splice_getElem? vs off _ (by rw [hus]; omega)]
          simp only [List.toList_toArray]
          rw [splice_getElem? cur.toList off _ (by simpa using hfit2)]
          by_cases hj : j < n * s1
          · rw [if_pos hj]
            by_cases hin : off ≤ j ∧ j < off + (a.eval y).cells.toList.length
            · rw [if_pos hin, if_pos hin]
            · rw [if_neg hin, if_neg hin, ← htake, List.getElem?_take, if_pos hj]
          · rw [if_neg hj, if_neg (by rw [hus]; omega), List.getElem?_eq_none (by omega)]
      · cases he
    · cases he
  · cases he


theorem Rs_bytes {U : Nat → Prop} : ∀ {cs : List PV} {vs : List Value} {F : List Nat}, Rs w U cs vs F → allBytes cs → ∃ ns : List Int, vs = ns.map (fun n => Value.int .u8 n) ∧ bytesOf cs = ns.map (fun n => UInt8.ofNat n.toNat)
  | [], [], _, _, _ => ⟨[], rfl, rfl⟩
  | p :: cs, v :: vs, F, h, hb => by
    simp only [Rs] at h
    obtain ⟨F1, F2, h1, h2, _⟩ := h
    unfold allBytes at hb
    split at hb
    · rename_i hcs; cases hcs
    · rename_i hcs
      cases hcs
      obtain ⟨ns, rfl, e2⟩ := Rs_bytes h2 hb.2
      simp only [R] at h1
      obtain ⟨rfl, _⟩ := h1
      exact ⟨_ :: ns, rfl, by simp [bytesOf, e2]⟩
    · cases hb
  | [], _ :: _, _, h, _ => by simp only [Rs] at h
  | _ :: _, [], _, h, _ => by simp only [Rs] at h


theorem foldl_push (ns : List Int) : ∀ (s : ByteArray), ns.foldl (fun r n => r.push (UInt8.ofNat n.toNat)) s = ⟨s.data ++ (ns.map (fun n => UInt8.ofNat n.toNat)).toArray⟩ := by
  induction ns with
  | nil => intro s; simp
  | cons n ns ih =>
    intro s
    rw [List.foldl_cons, ih]
    congr 1
    apply Array.ext'
    simp [ByteArray.push]

theorem snd_convert (hT : TyOK P T) (h : Sim C σ a w ι Fs) (ha : Agr σ.o τ) {s t : Nat} {x : Operand} (he : astep T mv (ev σ) τ ⟨dst, .convert s t x, type, pos, after, guard⟩ = some e) (hs : e.side) :
    Snd P C σ a w ⟨dst, .convert s t x, type, pos, after, guard⟩ e := by
  simp only [astep] at he
  split at he
  · rename_i h1 h2 hx
    cases he
    exact snd_convert_int hT h h1 h2 hx hs
  · rename_i el z0 z1 z2 z3 y0 y1 y2 y3 sd v h1 h2 hx
    split at he
    · rename_i q0 q1 q2 q3 m cs gone h3 hrd
      cases he
      obtain ⟨hs0, hb, hlen⟩ := hs
      have e1 := (hT.m h1).slice rfl
      have e2 := (hT.m h2).str rfl
      have e3 := (hT.m h3).int rfl
      obtain ⟨news, F, ⟨ad, cap, hu⟩, hmem, hR, _⟩ := readA_R h ha (ev_ug h x hx hs0) hrd
      obtain ⟨ns, rfl, hby⟩ := Rs_bytes hR hb
      have hl := Rs_length _ _ _ hR
      have hconv : (Conv.bytesToString (.slice ad m cap)).run P w = .ok (.string ⟨(bytesOf cs).toArray⟩) w := by
        cases ad with
        | none =>
          have hm : ns = [] := by
            rcases hmem with hm | ⟨b, off, c, hv, _⟩
            · simpa using hm
            · rw [hu] at hv; cases hv
          subst hm
          simp [Conv.bytesToString, hby]
          rfl
        | some ad =>
          have hld : (loadCells ad m).run P w = .ok (ns.map (Value.int .u8)).toArray w := by
            have hm' : m = (ns.map (fun n => Value.int .u8 n)).length := by rw [← hl]; exact hlen.symm
            rcases hmem with hm | ⟨b, off, c, hv, hm⟩
            · rw [hm] at hm'
              simp only [List.length_nil] at hm'
              subst hm'
              have : ns = [] := by simpa using hm
              subst this
              simp [loadCells, loadCellsFrom]
            · rw [hu] at hv
              cases hv
              have := run_loadCells_list (P := P) w ⟨b, off, none⟩ (ns.map (fun n => Value.int .u8 n)) (fun j v hj => by rw [addr_add]; exact hm j v hj)
              rw [← hm'] at this
              exact this
          rw [run_bytesToString w ad m cap ns hld, foldl_push, hby]
          congr 3
          apply Array.ext'
          simp
      refine Snd.pure h (v := .string ⟨(bytesOf cs).toArray⟩) ?_ AR_mkstr
      simp [execOp, Go.convert, run_underlying e1, run_underlying e2, run_underlying e3, hu, hconv]
    · cases he
  · cases he

theorem evs_raw (h : Sim C σ a w ι Fs) : ∀ xs : List Operand, ARs w (Un C w Fs) σ.o ι (xs.map (ev σ)) (xs.map a.eval)
  | [] => by simp [ARs]
  | x :: xs => by simp only [List.map_cons, ARs]; exact ⟨ev_AR h x, evs_raw h xs⟩

theorem snd_makeFunc (h : Sim C σ a w ι Fs) {fn : Go.Fn} {first caps : Array Operand} (he : astep T mv (ev σ) τ ⟨dst, .makeFunc fn first caps, type, pos, after, guard⟩ = some e) :
    Snd P C σ a w ⟨dst, .makeFunc fn first caps, type, pos, after, guard⟩ e := by
  simp only [astep] at he
  unfold amake at he
  split at he
  · rename_i f hfirst
    cases he
    have hf0 : first = #[] := by cases first; simpa using hfirst
    subst hf0
    refine Snd.pure h (v := .func (.func f) #[] (caps.map a.eval)) (by simp [execOp, Instr.makeFunc]) ?_
    simp only [AR]
    exact ⟨_, rfl, by simpa using evs_raw h caps.toList⟩
  · cases he

theorem step_sound (hT : TyOK P T) (h : Sim C σ a w ι Fs) (ha : Agr σ.o τ) {o : Oper} (he : astep T mv (ev σ) τ o = some e) (hs : e.side) (hf : ∀ k ob, (k, ob) ∈ e.oe → τ k = .none → σ.o k = .none) : Snd P C σ a w o e := by
  obtain ⟨dst, op, type, pos, after, guard⟩ := o
  cases op with
  | move x => exact snd_move h he hs
  | assign x => exact snd_assign h he hs
  | pick c a b => exact snd_pick h he hs
  | alloc t => exact snd_alloc hT h he hs hf
  | box t x => exact snd_box hT h ha he hs hf
  | build t ps => exact snd_build hT h ha he
  | buildSlice t n ps => exact snd_buildSlice hT h ha he hs hf
  | load t x => exact snd_load hT h ha he hs hf
  | makeFunc fn first caps => exact snd_makeFunc h he
  | store t x y => exact snd_store hT h ha he hs
  | nilCheck x => exact snd_nilCheck h he ha
  | binOp op t x y t' => exact snd_binOp hT h he hs
  | unOp op t x => exact snd_unOp h he hs
  | convert s t x => exact snd_convert hT h ha he hs
  | slice t x lo hi mx => exact snd_slice hT h ha he hs hf
  | makeSlice t l c => exact snd_makeSlice hT h he hs hf
  | fieldAddr t x f => exact snd_fieldAddr hT h ha he hs
  | indexAddr t x ix => exact snd_indexAddr hT h ha he hs
  | index t x ix => exact snd_index hT h he hs
  | extract x i => exact snd_extract h he
  | call c =>
    obtain ⟨callee, ⟨args⟩, ⟨tys⟩⟩ := c
    cases callee with
    | value f => simp [astep] at he
    | invoke r m => simp [astep] at he
    | builtin b =>
      simp only [astep] at he
      cases b with
      | len =>
        rcases args with _ | ⟨x, _ | ⟨y, r⟩⟩
        · simp [abuiltin] at he
        · rcases tys with _ | ⟨t, _ | ⟨t', r⟩⟩
          · simp [abuiltin] at he
          · exact snd_len (mv := mv) hT h ha he hs
          · simp [abuiltin] at he
        · simp [abuiltin] at he
      | max =>
        rcases args with _ | ⟨x, _ | ⟨y, _ | ⟨z, r⟩⟩⟩
        · simp [abuiltin] at he
        · simp [abuiltin] at he
        · exact snd_max (mv := mv) (T := T) (τ := τ) h he hs
        · simp [abuiltin] at he
      | min =>
        rcases args with _ | ⟨x, _ | ⟨y, _ | ⟨z, r⟩⟩⟩
        · simp [abuiltin] at he
        · simp [abuiltin] at he
        · exact snd_min (mv := mv) (T := T) (τ := τ) h he hs
        · simp [abuiltin] at he
      | append =>
        rcases args with _ | ⟨x, _ | ⟨y, _ | ⟨z, r⟩⟩⟩
        · simp [abuiltin] at he
        · simp [abuiltin] at he
        · rcases tys with _ | ⟨t, _ | ⟨t', _ | ⟨t'', r⟩⟩⟩
          · simp [abuiltin] at he
          · simp [abuiltin] at he
          · exact snd_append hT h ha he hs hf
          · simp [abuiltin] at he
        · simp [abuiltin] at he
      | _ => simp [abuiltin] at he
  | _ => simp [astep] at he

end
end Am
