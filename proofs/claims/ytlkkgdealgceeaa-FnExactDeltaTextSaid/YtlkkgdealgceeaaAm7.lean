/- Loads; new variables; structs built. No condition. -/
import Derived.Test.YtlkkgdealgceeaaAm6
namespace Am
open Go
set_option linter.unusedSimpArgs false
set_option linter.unusedVariables false
section
variable {P : Program} {T : Ty} {mv : Bool} {C : Ctx} {σ : AEnv} {a : Act} {w : World} {ι : Nat → Value} {Fs : Nat → List Nat} {τ : Nat → AObj} {e : Eff}
variable {dst : Option Tmp} {type : TypeId} {pos : String} {after : Array Edge} {guard : Option (Nat × Bool)}

theorem addr_add (b off n : Nat) : (⟨b, off, none⟩ : Addr).add n = ⟨b, off + n, none⟩ := by unfold Addr.add; split <;> simp_all

theorem loadAt_struct {t : Nat} {i : TyI} (hi : TyM P t i) {fs : List (Nat × Nat)} (hk : i.k = .struct fs) {b off : Nat} {xs : List Value} (hm : memAt w b off xs) (hl : i.size ≤ xs.length) :
    (Instr.loadAt t (.pointer (some ⟨b, off, none⟩))).run P w = .ok (.agg (xs.take i.size).toArray) w := by
  have h1 := hi.run_isAgg w (by rw [hk]; simp)
  rw [hk] at h1
  have hz := hi.run_sizeOf w
  have hlen : (xs.take i.size).length = i.size := by simp [hl]
  have hld := run_loadCells_list (P := P) w ⟨b, off, none⟩ (xs.take i.size) (fun j v hj => by rw [addr_add]; exact memAt_take hm _ j v hj)
  rw [hlen] at hld
  simp [Instr.loadAt, Instr.sureAddr, loadVar, h1, hz, hld]

theorem loadAt_cell {t : Nat} {i : TyI} (hi : TyM P t i) (hk : i.k ≠ .other) (hk' : ∀ fs, i.k ≠ .struct fs) {b off : Nat} {v : Value} (hc : w.cell? ⟨b, off, none⟩ = some v) :
    (Instr.loadAt t (.pointer (some ⟨b, off, none⟩))).run P w = .ok v w := by
  have h1 : (isAgg t).run P w = .ok false w := by
    rw [hi.run_isAgg w hk]
    congr 1
    split
    · rename_i fs hfs; exact absurd hfs (hk' fs)
    · rfl
  simp [Instr.loadAt, Instr.sureAddr, loadVar, h1, hc]

theorem box_mem (h : Sim C σ a w ι Fs) {b : Nat} {cs : List AV} (ho : σ.o b = .box cs) {k : Nat} (hk : ι b = .pointer (some ⟨k, 0, none⟩)) :
    ∃ vals ty, w.heap[k]? = some (.cells vals ty (0, 0)) ∧ memAt w k 0 vals.toList ∧ ARs w (Un C w Fs) σ.o ι cs vals.toList ∧ (∀ x ∈ vals.toList, x.oneCell' = true) ∧ Fs b = [k] := by
  have hob := h.ob b
  rw [ho] at hob
  obtain ⟨k', vals, ty, hv, hh, hr, h1, hF⟩ := hob
  rw [hk] at hv
  cases hv
  refine ⟨vals, ty, hh, fun j u hu => ?_, hr, h1, hF⟩
  rw [Nat.zero_add]
  simp only [World.cell?, hh]
  simpa using hu

theorem arr_mem (h : Sim C σ a w ι Fs) {b : Nat} {g e s n : Nat} {cs : List PV} (ho : σ.o b = .arr g e s n cs) {k : Nat} (hk : (ι b).ownBlock = some k) :
    ∃ xs F', w.ownsRow 0 e s (ι b) n xs ∧ memAt w k 0 xs ∧ Rs w (Un C w Fs) cs xs F' ∧ Fs b = k :: F' := by
  have hob := h.ob b
  rw [ho] at hob
  obtain ⟨xs, F', hown, hr, hF⟩ := hob
  refine ⟨xs, F', hown, fun j u hu => ?_, hr, by rw [hF, hk]; rfl⟩
  have := hown.cells hk j u hu
  rwa [addr_add] at this

theorem R_free {U : Nat → Prop} {p : PV} {v : Value} {F : List Nat} (h : R w U p v F) (hp : isFree p = true) : F = [] := by
  cases p with
  | int k n => simp only [R] at h; exact h.2
  | bool b => simp only [R] at h; exact h.2
  | str s => simp only [R] at h; exact h.2
  | im n cs => simp only [R] at h; exact h.1
  | ow e s n cs => simp [isFree] at hp
  | any => simp only [R] at h; exact h.2
  | tk u => simp only [R] at h; exact h.2.2

theorem Rs_free {U : Nat → Prop} : ∀ {ps : List PV} {vs : List Value} {F : List Nat}, Rs w U ps vs F → ps.all isFree = true → F = []
  | [], [], F, h, _ => by simpa only [Rs] using h
  | p :: ps, v :: vs, F, h, hp => by
    simp only [Rs] at h
    obtain ⟨F1, F2, h1, h2, rfl⟩ := h
    simp only [List.all_cons, Bool.and_eq_true] at hp
    rw [R_free h1 hp.1, Rs_free h2 hp.2]
    rfl
  | [], _ :: _, _, h, _ => by simp only [Rs] at h
  | _ :: _, [], _, h, _ => by simp only [Rs] at h

theorem ofPV_AR {b : Nat} {g e s n : Nat} {cs : List PV} (ho : σ.o b = .arr g e s n cs) {U : Nat → Prop} {k : Nat} (hk : (ι b).ownBlock = some k) {off : Nat} {p : PV} {v : Value} {F : List Nat}
    (hr : R w U p v F) (hc : w.cell? ⟨k, off, none⟩ = some v) : AR w U σ.o ι (ofPV b g off p) v := by
  unfold ofPV
  split
  · simp only [AR, ho]
    exact ⟨Nat.le_refl _, fun _ _ => ⟨k, hk, hc⟩⟩
  · rename_i hp
    have hf : isFree p = true := by
      cases p <;> first | rfl | (exact absurd rfl (hp _ _ _ _))
    have := R_free hr hf
    subst this
    exact AR_c.2 hr

theorem ofPVs_ARs {b : Nat} {g e s n : Nat} {cs : List PV} (ho : σ.o b = .arr g e s n cs) {U : Nat → Prop} {k : Nat} (hk : (ι b).ownBlock = some k) : ∀ {ps : List PV} {vs : List Value} {off : Nat} {F : List Nat},
    Rs w U ps vs F → memAt w k off vs → ARs w U σ.o ι (ofPVs b g off ps) vs
  | [], [], _, _, _, _ => by simp [ofPVs, ARs]
  | p :: ps, v :: vs, off, F, hr, hm => by
    simp only [Rs] at hr
    obtain ⟨F1, F2, h1, h2, _⟩ := hr
    simp only [ofPVs, ARs]
    refine ⟨ofPV_AR ho hk h1 (by simpa using hm 0 v rfl), ofPVs_ARs ho hk h2 (fun j u hu => ?_)⟩
    have := hm (j + 1) u (by simpa using hu)
    rwa [show off + (j + 1) = off + 1 + j by omega] at this
  | [], _ :: _, _, _, h, _ => by simp only [Rs] at h
  | _ :: _, [], _, _, h, _ => by simp only [Rs] at h

theorem map_c_ARs {U : Nat → Prop} {O : Nat → AObj} : ∀ {ps : List PV} {vs : List Value}, Rs w U ps vs [] → ARs w U O ι (ps.map .c) vs
  | [], [], _ => by simp [ARs]
  | p :: ps, v :: vs, h => by
    simp only [Rs] at h
    obtain ⟨F1, F2, h1, h2, hF⟩ := h
    obtain ⟨rfl, rfl⟩ := List.append_eq_nil_iff.1 hF.symm
    simp only [List.map_cons, ARs]
    exact ⟨AR_c.2 h1, map_c_ARs h2⟩
  | [], _ :: _, h => by simp only [Rs] at h
  | _ :: _, [], h => by simp only [Rs] at h

theorem AR_any_of {U : Nat → Prop} {p : PV} {v : Value} {F : List Nat} (h : R w U p v F) : R w U .any v [] := by
  simp only [R]; exact ⟨R_oneCell h, trivial⟩

theorem Rs_U1 {U U' : Nat → Prop} (hU : ∀ k, U k → U' k) {p : PV} {v : Value} {F : List Nat} (h : R w U p v F) : R w U' p v F := R_mono hU (fun _ _ => rfl) p v F h (fun _ _ => rfl)

theorem leftPV_R {U : Nat → Prop} {p : PV} {v : Value} {F : List Nat} (h : R w U p v F) : R w U (leftPV p) v [] := by
  unfold leftPV
  split
  · exact AR_any_of h
  · rename_i hp
    have hf : isFree p = true := by
      cases p <;> first | rfl | (exact absurd rfl (hp _ _ _ _))
    have := R_free h hf
    subst this
    exact h

/-- One cell of an array. -/
theorem Rs_at {U : Nat → Prop} : ∀ {ps : List PV} {vs : List Value} {F : List Nat} {j : Nat} {p : PV}, Rs w U ps vs F → ps[j]? = some p →
    ∃ v F1 F2 F3, vs[j]? = some v ∧ R w U p v F2 ∧ F = F1 ++ F2 ++ F3 ∧ (∀ (w' : World) (U' : Nat → Prop) (q : PV), (∀ (ps' : List PV) (vs' : List Value) (F' : List Nat), Rs w U ps' vs' F' → Rs w' U' ps' vs' F') → R w' U' q v [] → Rs w' U' (ps.set j q) vs (F1 ++ F3))
  | [], _, _, j, p, _, h => by simp at h
  | q :: ps, [], _, _, _, h, _ => by simp only [Rs] at h
  | q :: ps, v :: vs, F, j, p, h, hp => by
    simp only [Rs] at h
    obtain ⟨G1, G2, h1, h2, rfl⟩ := h
    cases j with
    | zero =>
      simp at hp
      subst hp
      refine ⟨v, [], G1, G2, rfl, h1, by simp, fun w' U' r hm hr => ?_⟩
      simp only [List.set_cons_zero, Rs]
      exact ⟨[], G2, hr, hm _ _ _ h2, rfl⟩
    | succ j =>
      obtain ⟨u, F1, F2, F3, e1, e2, rfl, e3⟩ := Rs_at h2 (by simpa using hp)
      refine ⟨u, G1 ++ F1, F2, F3, by simpa using e1, e2, by simp, fun w' U' r hm hr => ?_⟩
      simp only [List.set_cons_succ, Rs]
      have hq := hm [q] [v] G1 (by simp only [Rs]; exact ⟨G1, [], h1, rfl, by simp⟩)
      simp only [Rs] at hq
      obtain ⟨H1, H2, g1, g2, g3⟩ := hq
      subst g2
      rw [List.append_nil] at g3
      subst g3
      exact ⟨G1, F1 ++ F3, g1, e3 w' U' r hm hr, by simp⟩

def nupd {α : Type} (f : Nat → α) (k : Nat) (x : α) : Nat → α := fun i => if i = k then x else f i
theorem nupd_same {α : Type} (f : Nat → α) (k : Nat) (x : α) : nupd f k x k = x := if_pos rfl
theorem nupd_ne {α : Type} (f : Nat → α) {k i : Nat} (h : i ≠ k) (x : α) : nupd f k x i = f i := if_neg h

/-- A cell that owns is taken out of its array. -/
theorem Sim.take1 (h : Sim C σ a w ι Fs) {b g e s n : Nat} {cs : List PV} (ho : σ.o b = .arr g e s n cs) {j k e1 s1 n1 : Nat} {c1 : List PV} (hj : cs[j]? = some (.ow e1 s1 n1 c1)) (hk : σ.o k = .none) :
    ∃ ι' Fs', Sim C ((σ.upd k (.arr 0 e1 s1 n1 c1)).upd b (.arr g e s n (cs.set j .any))) a w ι' Fs' ∧ Later w w (Un C w Fs) (Un C w Fs') σ.o ((σ.upd k (.arr 0 e1 s1 n1 c1)).upd b (.arr g e s n (cs.set j .any))).o ι ι' ∧
      (∀ blk, (ι b).ownBlock = some blk → w.cell? ⟨blk, j, none⟩ = some (ι' k)) ∧ ι' b = ι b := by
  have hkb : k ≠ b := fun hkb => by subst hkb; rw [hk] at ho; cases ho
  have hob := h.ob b
  rw [ho] at hob
  obtain ⟨xs, F', hown, hr, hF⟩ := hob
  obtain ⟨v, F1, F2, F3, hv, hR, rfl, hset⟩ := Rs_at hr hj
  have hnd := h.nd b
  rw [hF] at hnd
  have hFk : Fs k = Fs k := rfl
  let ι' := nupd ι k v
  let Fs' := nupd (nupd Fs b ((ι b).ownBlock.toList ++ (F1 ++ F3))) k F2
  have hFb : Fs' b = (ι b).ownBlock.toList ++ (F1 ++ F3) := by show nupd _ _ _ b = _; rw [nupd_ne _ (Ne.symm hkb), nupd_same]
  have hFk : Fs' k = F2 := nupd_same _ _ _
  have hFo : ∀ o, o ≠ k → o ≠ b → Fs' o = Fs o := fun o h1 h2 => by show nupd _ _ _ o = _; rw [nupd_ne _ h1, nupd_ne _ h2]
  have hsubb : ∀ z, z ∈ Fs' b → z ∈ Fs b := fun z hz => by
    rw [hFb] at hz; rw [hF]
    simp only [List.mem_append] at hz ⊢
    rcases hz with hz | hz | hz
    · exact .inl hz
    · exact .inr (.inl (.inl hz))
    · exact .inr (.inr hz)
  have hsubk : ∀ z, z ∈ F2 → z ∈ Fs b := fun z hz => by rw [hF]; simp [hz]
  have hU : ∀ z, Un C w Fs z → Un C w Fs' z := fun z hz => ⟨hz.1, hz.2.1, fun o hzo => by
    by_cases h1 : o = k
    · subst h1; rw [hFk] at hzo; exact hz.2.2 b (hsubk z hzo)
    · by_cases h2 : o = b
      · subst h2; exact hz.2.2 o (hsubb z hzo)
      · rw [hFo o h1 h2] at hzo; exact hz.2.2 o hzo⟩
  have hO : ∀ x, ((σ.upd k (.arr 0 e1 s1 n1 c1)).upd b (.arr g e s n (cs.set j .any))).o x = if x = b then .arr g e s n (cs.set j .any) else if x = k then .arr 0 e1 s1 n1 c1 else σ.o x := fun x => rfl
  have hnd2 : (F1 ++ F2 ++ F3).Nodup := (List.nodup_append.1 hnd).2.1
  have hnd3 := List.nodup_append.1 hnd2
  have M : Move C σ.o ((σ.upd k (.arr 0 e1 s1 n1 c1)).upd b (.arr g e s n (cs.set j .any))).o w w ι ι' Fs Fs' (fun o => o = k ∨ o = b) := by
    refine ⟨rfl, rfl, rfl, Nat.le_refl _, fun _ _ _ => rfl, fun o hX => ?_, fun o hX => ?_, fun o hX => ?_, fun o hX => ?_, fun o hX z hz => ?_, fun o o' hX hX' hne z hz hz' => ?_⟩
    · have h1 : o ≠ k := fun e => hX (.inl e)
      have h2 : o ≠ b := fun e => hX (.inr e)
      exact ⟨by rw [hO, if_neg h2, if_neg h1], nupd_ne _ h1 _, hFo o h1 h2⟩
    · rcases hX with rfl | rfl
      · exact .inl hk
      · refine .inr (.inr (.inr (.inl ⟨g, e, s, n, cs, g, e, s, n, _, ho, by rw [hO, if_pos rfl], nupd_ne _ (Ne.symm hkb) _, Nat.le_refl _, fun _ off hi => ⟨?_, fun _ _ => rfl⟩⟩)))
        obtain ⟨a1, a2, a3, a4, hi⟩ := hi
        rw [List.getElem?_set] at hi
        split at hi
        · split at hi <;> cases hi
        · exact ⟨a1, a2, a3, a4, hi⟩
    · rcases hX with rfl | rfl
      · rw [hO, if_neg hkb, if_pos rfl, hFk]
        have : ι' o = v := nupd_same _ _ _
        rw [this]
        simp only [R] at hR
        obtain ⟨ys, G, g1, g2, g3⟩ := hR
        exact ⟨ys, G, g1, Rs_mono hU (fun _ _ => rfl) _ _ _ g2 (fun _ _ => rfl), g3⟩
      · rw [hO, if_pos rfl, hFb]
        have : ι' o = ι o := nupd_ne _ (Ne.symm hkb) _
        rw [this]
        exact ⟨xs, F1 ++ F3, hown, hset w _ .any (fun ps' vs' G hG => Rs_mono hU (fun _ _ => rfl) _ _ _ hG (fun _ _ => rfl)) (AR_any_of (Rs_U1 hU hR)), rfl⟩
    · rcases hX with rfl | rfl
      · rw [hFk]; exact (List.nodup_append.1 hnd3.1).2.1
      · rw [hFb]
        exact hnd.sublist (List.Sublist.append (List.Sublist.refl _) (List.Sublist.append (List.sublist_append_left F1 F2) (List.Sublist.refl F3)))
    · rcases hX with rfl | rfl
      · rw [hFk] at hz
        exact ⟨(h.own b z (hsubk z hz)).1, .inr ⟨b, .inr rfl, hsubk z hz⟩⟩
      · exact ⟨(h.own o z (hsubb z hz)).1, .inr ⟨o, .inr rfl, hsubb z hz⟩⟩
    · have key : ∀ z, z ∈ Fs' b → z ∉ F2 := fun z hz hz2 => by
        rw [hFb] at hz
        rcases List.mem_append.1 hz with hz | hz
        · exact (List.nodup_append.1 hnd).2.2 z hz z (by simp [hz2]) rfl
        · rcases List.mem_append.1 hz with hz | hz
          · exact (List.nodup_append.1 hnd3.1).2.2 z hz z hz2 rfl
          · exact hnd3.2.2 z (by simp [hz2]) z hz rfl
      rcases hX with rfl | rfl
      · rcases hX' with rfl | rfl
        · exact hne rfl
        · rw [hFk] at hz; exact key z hz' hz
      · rcases hX' with rfl | rfl
        · rw [hFk] at hz'; exact key z hz hz'
        · exact hne rfl
  refine ⟨ι', Fs', h.move M, h.later M, fun blk hblk => ?_, nupd_ne _ (Ne.symm hkb) _⟩
  have : ι' k = v := nupd_same _ _ _
  rw [this]
  have := hown.cells hblk j v hv
  rwa [addr_add, Nat.zero_add] at this

theorem outPVs_oe : ∀ {ps : List PV} {k : Nat} (x : Nat) (ob : AObj), (x, ob) ∈ (outPVs k ps).2 → k ≤ x ∧ x < k + ps.length
  | [], _, _, _, h => by simp [outPVs] at h
  | p :: ps, k, x, ob, h => by
    simp only [outPVs, List.mem_append] at h
    rcases h with h | h
    · have : x = k := by
        cases p <;> simp [outPV] at h
        exact h.1
      subst this; simp
    · have := outPVs_oe x ob h; simp; omega

theorem wr_o_other' {r : List (Nat × AObj)} {σ : AEnv} {x : Nat} (h : ∀ k ob, (k, ob) ∈ r → x ≠ k) : (AEnv.wr r σ).o x = σ.o x := by
  induction r with
  | nil => rfl
  | cons y r ih =>
    obtain ⟨k, ob⟩ := y
    simp only [AEnv.wr, AEnv.upd]
    rw [if_neg (h k ob List.mem_cons_self)]
    exact ih (fun k' ob' hm => h k' ob' (List.mem_cons_of_mem _ hm))

theorem wr_t' (r : List (Nat × AObj)) (σ : AEnv) : (AEnv.wr r σ).t = σ.t := by
  induction r with
  | nil => rfl
  | cons x r ih => obtain ⟨k, ob⟩ := x; simp only [AEnv.wr, AEnv.upd, ih]

theorem wr_o_in {oe : List (Nat × AObj)} {x : Nat} (h : ∃ ob, (x, ob) ∈ oe) : ∀ (σ σ' : AEnv), (AEnv.wr oe σ).o x = (AEnv.wr oe σ').o x := by
  intro σ σ'
  induction oe with
  | nil => obtain ⟨_, h⟩ := h; cases h
  | cons y r ih =>
    obtain ⟨k, ob'⟩ := y
    simp only [AEnv.wr, AEnv.upd]
    by_cases hx : x = k
    · simp [hx]
    · simp only [hx, if_false]
      obtain ⟨ob, h⟩ := h
      rcases List.mem_cons.1 h with h | h
      · cases h; exact absurd rfl hx
      · exact ih ⟨ob, h⟩

theorem AEnv.eqv {σ σ' : AEnv} (h1 : σ.t = σ'.t) (h2 : σ.o = σ'.o) : σ = σ' := by cases σ; cases σ'; simp only at h1 h2; rw [h1, h2]

theorem freeOE_mem {O : Nat → AObj} : ∀ {r : List (Nat × AObj)}, freeOE O r → ∀ x ob, (x, ob) ∈ r → O x = .none
  | [], _, _, _, h => by cases h
  | (k, ob') :: r, hr, x, ob, h => by
    rcases List.mem_cons.1 h with h | h
    · cases h; exact hr.1
    · exact freeOE_mem hr.2 x ob h

/-- Cells one behind the other are taken out. -/
theorem Sim.takes : ∀ {ps : List PV} {σ : AEnv} {ι : Nat → Value} {Fs : Nat → List Nat} {b g e s n k : Nat} {pre post : List PV}, Sim C σ a w ι Fs → σ.o b = .arr g e s n (pre ++ ps ++ post) →
    (∀ x ob, (x, ob) ∈ (outPVs k ps).2 → σ.o x = .none) → ∀ {vs : List Value} {blk : Nat}, (ι b).ownBlock = some blk → memAt w blk pre.length vs → vs.length = ps.length →
    (∃ F, Rs w (Un C w Fs) ps vs F) →
    ∃ ι' Fs', Sim C (AEnv.wr ((b, .arr g e s n (pre ++ ps.map leftPV ++ post)) :: (outPVs k ps).2) σ) a w ι' Fs' ∧
      Later w w (Un C w Fs) (Un C w Fs') σ.o (AEnv.wr ((b, .arr g e s n (pre ++ ps.map leftPV ++ post)) :: (outPVs k ps).2) σ).o ι ι' ∧
      ARs w (Un C w Fs') (AEnv.wr ((b, .arr g e s n (pre ++ ps.map leftPV ++ post)) :: (outPVs k ps).2) σ).o ι' (outPVs k ps).1 vs
  | [], σ, ι, Fs, b, g, e, s, n, k, pre, post, h, ho, _, vs, blk, hb, hm, hl, hR => by
    have hv : vs = [] := List.eq_nil_of_length_eq_zero (by simpa using hl)
    subst hv
    have e1 : AEnv.wr [(b, .arr g e s n (pre ++ ([] : List PV).map leftPV ++ post))] σ = σ := by
      simp only [AEnv.wr, AEnv.upd]
      have : (fun x => if x = b then AObj.arr g e s n (pre ++ ([] : List PV).map leftPV ++ post) else σ.o x) = σ.o := by
        funext x
        split
        · rename_i hx; rw [hx, ho]; simp
        · rfl
      rw [this]
    simp only [outPVs]
    rw [e1]
    refine ⟨ι, Fs, h, ?_, by simp [ARs]⟩
    exact ⟨fun _ hk => hk, fun _ _ => rfl, fun o => by
      cases hO : σ.o o with
      | none => exact .inl rfl
      | dead => exact .inr (.inl rfl)
      | box c => exact .inr (.inr (.inl ⟨c, c, rfl, rfl, rfl⟩))
      | arr g1 e1 s1 n1 c => exact .inr (.inr (.inr (.inl ⟨g1, e1, s1, n1, c, g1, e1, s1, n1, c, rfl, rfl, rfl, Nat.le_refl _, fun _ off hi => ⟨hi, fun _ _ => rfl⟩⟩)))
      | mp Q => exact .inr (.inr (.inr (.inr ⟨Q, Q, rfl, rfl, rfl⟩)))⟩
  | p :: ps, σ, ι, Fs, b, g, e, s, n, k, pre, post, h, ho, hfr, vs, blk, hb, hm, hl, hR => by
    obtain ⟨v, vs, rfl⟩ : ∃ v r, vs = v :: r := by cases vs with | nil => simp at hl | cons v r => exact ⟨v, r, rfl⟩
    obtain ⟨F, hR⟩ := hR
    simp only [Rs] at hR
    obtain ⟨F1, F2, hR1, hR2, rfl⟩ := hR
    have hl' : vs.length = ps.length := by simpa using hl
    have hv : w.cell? ⟨blk, pre.length, none⟩ = some v := by simpa using hm 0 v rfl
    have hm' : memAt w blk (pre.length + 1) vs := fun j u hu => by
      have := hm (j + 1) u (by simpa using hu)
      rwa [show pre.length + (j + 1) = pre.length + 1 + j by omega] at this
    -- the first one
    have step : ∃ ι1 Fs1, Sim C (AEnv.wr ((b, .arr g e s n (pre ++ leftPV p :: (ps ++ post))) :: (outPV k p).2) σ) a w ι1 Fs1 ∧
        Later w w (Un C w Fs) (Un C w Fs1) σ.o (AEnv.wr ((b, .arr g e s n (pre ++ leftPV p :: (ps ++ post))) :: (outPV k p).2) σ).o ι ι1 ∧
        AR w (Un C w Fs1) (AEnv.wr ((b, .arr g e s n (pre ++ leftPV p :: (ps ++ post))) :: (outPV k p).2) σ).o ι1 (outPV k p).1 v ∧ ι1 b = ι b := by
      by_cases hp : isFree p = true
      · have h1 : outPV k p = (.c p, []) := by cases p <;> first | rfl | simp [isFree] at hp
        have h2 : leftPV p = p := by cases p <;> first | rfl | simp [isFree] at hp
        have := R_free hR1 hp
        subst this
        rw [h1, h2]
        have e1 : AEnv.wr [(b, AObj.arr g e s n (pre ++ p :: (ps ++ post)))] σ = σ := by
          simp only [AEnv.wr, AEnv.upd]
          have : (fun x => if x = b then AObj.arr g e s n (pre ++ p :: (ps ++ post)) else σ.o x) = σ.o := by
            funext x
            split
            · rename_i hx; rw [hx, ho]; simp
            · rfl
          rw [this]
        rw [e1]
        refine ⟨ι, Fs, h, ?_, AR_c.2 hR1, rfl⟩
        exact ⟨fun _ hk => hk, fun _ _ => rfl, fun o => by
          cases hO : σ.o o with
          | none => exact .inl rfl
          | dead => exact .inr (.inl rfl)
          | box c => exact .inr (.inr (.inl ⟨c, c, rfl, rfl, rfl⟩))
          | arr g1 e1 s1 n1 c => exact .inr (.inr (.inr (.inl ⟨g1, e1, s1, n1, c, g1, e1, s1, n1, c, rfl, rfl, rfl, Nat.le_refl _, fun _ off hi => ⟨hi, fun _ _ => rfl⟩⟩)))
          | mp Q => exact .inr (.inr (.inr (.inr ⟨Q, Q, rfl, rfl, rfl⟩)))⟩
      · cases p with
        | ow e1 s1 n1 c1 =>
          have hkn : σ.o k = .none := hfr k (.arr 0 e1 s1 n1 c1) (by simp [outPVs, outPV])
          have hkb : k ≠ b := fun hkb => by subst hkb; rw [hkn] at ho; cases ho
          obtain ⟨ι1, Fs1, g1, g2, g3, g4⟩ := h.take1 ho (j := pre.length) (k := k) (e1 := e1) (s1 := s1) (n1 := n1) (c1 := c1) (by simp) hkn
          have hset : (pre ++ PV.ow e1 s1 n1 c1 :: ps ++ post).set pre.length .any = pre ++ PV.any :: (ps ++ post) := by simp
          rw [hset] at g1 g2
          refine ⟨ι1, Fs1, g1, g2, ?_, g4⟩
          have hc := g3 blk hb
          rw [hv] at hc
          cases hc
          simp only [outPV, AR, AEnv.wr, AEnv.upd, hkb, if_false, if_true]
        | _ => simp [isFree] at hp
    obtain ⟨ι1, Fs1, g1, g2, g3, g4⟩ := step
    have ho1 : (AEnv.wr ((b, .arr g e s n (pre ++ leftPV p :: (ps ++ post))) :: (outPV k p).2) σ).o b = .arr g e s n ((pre ++ [leftPV p]) ++ ps ++ post) := by
      simp [AEnv.wr, AEnv.upd]
    have hbk : ∀ x ob, (x, ob) ∈ (outPVs k (p :: ps)).2 → x ≠ b := fun x ob hx e => by
      subst e; have := hfr _ _ hx; rw [ho] at this; cases this
    have hfr1 : ∀ x ob, (x, ob) ∈ (outPVs (k + 1) ps).2 → (AEnv.wr ((b, .arr g e s n (pre ++ leftPV p :: (ps ++ post))) :: (outPV k p).2) σ).o x = .none := fun x ob hx => by
      have h1 := hfr x ob (by simp only [outPVs]; exact List.mem_append_right _ hx)
      have h2 := (outPVs_oe x ob hx).1
      rw [wr_o_other' (fun k' ob' hk' => ?_), h1]
      rcases List.mem_cons.1 hk' with hk' | hk'
      · cases hk'; exact hbk x ob (by simp only [outPVs]; exact List.mem_append_right _ hx)
      · have : k' = k := by
          cases p <;> simp [outPV] at hk'
          exact hk'.1
        omega
    obtain ⟨ι2, Fs2, q1, q2, q3⟩ := Sim.takes (ps := ps) (k := k + 1) (pre := pre ++ [leftPV p]) (post := post) g1 ho1 hfr1 (vs := vs) (blk := blk) (by rw [g4]; exact hb) (by simpa using hm') hl'
      ⟨F2, Rs_mono g2.u (fun _ _ => rfl) _ _ _ hR2 (fun _ _ => rfl)⟩
    have eE : AEnv.wr ((b, .arr g e s n (pre ++ [leftPV p] ++ ps.map leftPV ++ post)) :: (outPVs (k + 1) ps).2) (AEnv.wr ((b, .arr g e s n (pre ++ leftPV p :: (ps ++ post))) :: (outPV k p).2) σ) =
        AEnv.wr ((b, .arr g e s n (pre ++ (p :: ps).map leftPV ++ post)) :: (outPVs k (p :: ps)).2) σ := by
      have et : (AEnv.wr ((b, .arr g e s n (pre ++ [leftPV p] ++ ps.map leftPV ++ post)) :: (outPVs (k + 1) ps).2) (AEnv.wr ((b, .arr g e s n (pre ++ leftPV p :: (ps ++ post))) :: (outPV k p).2) σ)).t =
          (AEnv.wr ((b, .arr g e s n (pre ++ (p :: ps).map leftPV ++ post)) :: (outPVs k (p :: ps)).2) σ).t := by simp only [wr_t']
      have eo : (AEnv.wr ((b, .arr g e s n (pre ++ [leftPV p] ++ ps.map leftPV ++ post)) :: (outPVs (k + 1) ps).2) (AEnv.wr ((b, .arr g e s n (pre ++ leftPV p :: (ps ++ post))) :: (outPV k p).2) σ)).o =
          (AEnv.wr ((b, .arr g e s n (pre ++ (p :: ps).map leftPV ++ post)) :: (outPVs k (p :: ps)).2) σ).o := by
        funext x
        by_cases hxb : x = b
        · subst hxb; simp [AEnv.wr, AEnv.upd]
        · have hL : ∀ (ob : AObj) (r : List (Nat × AObj)) (σ : AEnv), (AEnv.wr ((b, ob) :: r) σ).o x = (AEnv.wr r σ).o x := fun ob r σ => by simp [AEnv.wr, AEnv.upd, hxb]
          rw [hL, hL]
          by_cases hx2 : ∃ ob, (x, ob) ∈ (outPVs (k + 1) ps).2
          · have hx3 : ∃ ob, (x, ob) ∈ (outPVs k (p :: ps)).2 := by obtain ⟨ob, hx2⟩ := hx2; exact ⟨ob, by simp only [outPVs]; exact List.mem_append_right _ hx2⟩
            rw [wr_o_in hx2 _ σ]
            simp only [outPVs]
            have : ∀ (r1 r2 : List (Nat × AObj)) (σ : AEnv), (∀ k' ob', (k', ob') ∈ r1 → x ≠ k') → (AEnv.wr (r1 ++ r2) σ).o x = (AEnv.wr r2 σ).o x := by
              intro r1 r2 σ hr
              induction r1 with
              | nil => rfl
              | cons y r1 ih =>
                obtain ⟨k', ob'⟩ := y
                simp only [List.cons_append, AEnv.wr, AEnv.upd]
                rw [if_neg (hr k' ob' List.mem_cons_self)]
                exact ih (fun k2 ob2 hm2 => hr k2 ob2 (List.mem_cons_of_mem _ hm2))
            rw [this]
            intro k' ob' hk'
            obtain ⟨ob, hx2⟩ := hx2
            have h2 := (outPVs_oe x ob hx2).1
            have : k' = k := by
              cases p <;> simp [outPV] at hk'
              exact hk'.1
            omega
          · rw [wr_o_other' (r := (outPVs (k + 1) ps).2) (x := x) (fun k' ob' hk' e => hx2 ⟨ob', by rw [e]; exact hk'⟩), hL]
            by_cases hx3 : ∃ ob, (x, ob) ∈ (outPV k p).2
            · simp only [outPVs]
              obtain ⟨ob, hx3⟩ := hx3
              rw [wr_o_in ⟨ob, hx3⟩ σ σ]
              have : ∀ (r1 r2 : List (Nat × AObj)), (∃ ob, (x, ob) ∈ r1) → (AEnv.wr (r1 ++ r2) σ).o x = (AEnv.wr r1 σ).o x := by
                intro r1 r2 hr
                induction r1 with
                | nil => obtain ⟨_, hr⟩ := hr; cases hr
                | cons y r1 ih =>
                  obtain ⟨k', ob'⟩ := y
                  simp only [List.cons_append, AEnv.wr, AEnv.upd]
                  by_cases hxk : x = k'
                  · simp [hxk]
                  · simp only [hxk, if_false]
                    obtain ⟨ob, hr⟩ := hr
                    rcases List.mem_cons.1 hr with hr | hr
                    · cases hr; exact absurd rfl hxk
                    · exact ih ⟨ob, hr⟩
              rw [this _ _ ⟨ob, hx3⟩]
            · rw [wr_o_other' (r := (outPV k p).2) (x := x) (fun k' ob' hk' e => hx3 ⟨ob', by rw [e]; exact hk'⟩), wr_o_other' (r := (outPVs k (p :: ps)).2) (x := x) (fun k' ob' hk' e => ?_)]
              subst e
              simp only [outPVs] at hk'
              rcases List.mem_append.1 hk' with hk' | hk'
              · exact hx3 (Exists.intro ob' hk')
              · exact hx2 (Exists.intro ob' hk')
      exact AEnv.eqv et eo
    rw [← eE]
    refine ⟨ι2, Fs2, q1, ?_, ?_⟩
    · refine ⟨fun z hz => q2.u z (g2.u z hz), fun z hz => rfl, fun o => ?_⟩
      rcases g2.name o with r1 | r1 | ⟨c1, c2, r1, r2, r3⟩ | ⟨ga, ea, sa, na, ca, gb, eb, sb, nb, cb, r1, r2, r3, r4, r5⟩ | ⟨Q1, Q2, r1, r2, r3⟩
      · exact .inl r1
      · refine .inr (.inl ?_)
        rw [wr_o_other' (fun k' ob' hk' e => ?_), r1]
        subst e
        rcases List.mem_cons.1 hk' with hk' | hk'
        · cases hk'; rw [ho1] at r1; cases r1
        · have := hfr1 _ _ hk'; rw [r1] at this; cases this
      · rcases q2.name o with t1 | t1 | ⟨c3, c4, t1, t2, t3⟩ | ⟨gc, ec, sc, nc, cc, gd, ed, sd, nd, cd, t1, t2, t3, t4, t5⟩ | ⟨Q3, Q4, t1, t2, t3⟩
        · rw [r2] at t1; cases t1
        · exact .inr (.inl t1)
        · exact .inr (.inr (.inl ⟨c1, c4, r1, t2, t3.trans r3⟩))
        · rw [r2] at t1; cases t1
        · rw [r2] at t1; cases t1
      · rcases q2.name o with t1 | t1 | ⟨c3, c4, t1, t2, t3⟩ | ⟨gc, ec, sc, nc, cc, gd, ed, sd, nd, cd, t1, t2, t3, t4, t5⟩ | ⟨Q3, Q4, t1, t2, t3⟩
        · rw [r2] at t1; cases t1
        · exact .inr (.inl t1)
        · rw [r2] at t1; cases t1
        · rw [r2] at t1
          cases t1
          refine .inr (.inr (.inr (.inl ⟨ga, ea, sa, na, ca, gd, ed, sd, nd, cd, r1, t2, t3.trans r3, Nat.le_trans r4 t4, fun hg off hi => ?_⟩)))
          have hg1 : ga = gb := Nat.le_antisymm r4 (hg ▸ t4)
          obtain ⟨u1, u2⟩ := t5 (hg1 ▸ hg) off hi
          obtain ⟨u3, u4⟩ := r5 hg1 off u1
          exact ⟨u3, fun b' hb' => rfl⟩
        · rw [r2] at t1; cases t1
      · rcases q2.name o with t1 | t1 | ⟨c3, c4, t1, t2, t3⟩ | ⟨gc, ec, sc, nc, cc, gd, ed, sd, nd, cd, t1, t2, t3, t4, t5⟩ | ⟨Q3, Q4, t1, t2, t3⟩
        · rw [r2] at t1; cases t1
        · exact .inr (.inl t1)
        · rw [r2] at t1; cases t1
        · rw [r2] at t1; cases t1
        · exact .inr (.inr (.inr (.inr ⟨Q1, Q4, r1, t2, t3.trans r3⟩)))
    · simp only [outPVs, ARs]
      exact ⟨AR_later q2 _ _ g3, q3⟩

theorem snd_load (hT : TyOK P T) (h : Sim C σ a w ι Fs) (ha : Agr σ.o τ) {t : Nat} {x : Operand} (he : astep T mv (ev σ) τ ⟨dst, .load t x, type, pos, after, guard⟩ = some e) (hs : e.side)
    (hf : ∀ k ob, (k, ob) ∈ e.oe → τ k = .none → σ.o k = .none) :
    Snd P C σ a w ⟨dst, .load t x, type, pos, after, guard⟩ e := by
  simp only [astep] at he
  split at he
  · rename_i i s b off hl hx
    have hi := hT.m hl
    split at he
    · rename_i cs hτ
      split at he
      · rename_i fs hk
        split at he
        · rename_i hle
          cases he
          obtain ⟨ho, k, hkb, hv⟩ := agr_box ha (ev_ug h x hx hs) hτ
          obtain ⟨vals, ty, hh, hm, hr, _, _⟩ := box_mem h ho hkb
          have hlen := ARs_length _ _ hr
          have hm' := memAt_drop hm off
          rw [Nat.zero_add] at hm'
          refine Snd.pure h (v := .agg ((vals.toList.drop off).take i.size).toArray) ?_ ?_
          · simp only [execOp, hv, Sem.run_bind, loadAt_struct hi hk hm' (by simp only [List.length_drop]; omega), Result.andThen_ok, Sem.run_pure]
          · simp only [AR]; exact ⟨_, rfl, by simpa using ARs_take (ARs_drop hr off) i.size⟩
        · cases he
      · cases he
      · rename_i hk1 hk2
        split at he
        · rename_i y hy
          cases he
          obtain ⟨ho, k, hkb, hv⟩ := agr_box ha (ev_ug h x hx hs) hτ
          obtain ⟨vals, ty, hh, hm, hr, _, _⟩ := box_mem h ho hkb
          obtain ⟨u, hu, hur⟩ := ARs_get hr hy
          have hc := hm off u hu
          rw [Nat.zero_add] at hc
          refine Snd.pure h (v := u) ?_ hur
          simp only [execOp, hv, Sem.run_bind, loadAt_cell hi (fun hk => hk2 hk) (fun fs hk => hk1 fs hk) hc, Result.andThen_ok, Sem.run_pure]
        · cases he
    · cases he
  · rename_i i s b off hl hx
    have hi := hT.m hl
    split at he
    · rename_i g e1 s1 n1 cs hτ
      cases mv with
      | true =>
        simp only at he
        split at he
        · rename_i fs d hk
          cases he
          obtain ⟨hs, hle, hsm, hfr⟩ := hs
          obtain ⟨ho, k, hkb, hv⟩ := agr_pa ha (ev_ug h x hx hs) hτ
          obtain ⟨xs, F', hown, hm, hr, _⟩ := arr_mem h ho hkb
          have hlen := Rs_length _ _ _ hr
          have hm' := memAt_drop hm off
          rw [Nat.zero_add] at hm'
          obtain ⟨F1, F2, _, h2, _⟩ := Rs_split off _ _ _ hr
          obtain ⟨F3, F4, h3, _, _⟩ := Rs_split i.size _ _ _ h2
          have hl1 : ((cs.drop off).take i.size).length = i.size := by simp only [List.length_take, List.length_drop]; omega
          have hpre : (cs.take off).length = off := by simp only [List.length_take]; omega
          have hcs : cs = cs.take off ++ (cs.drop off).take i.size ++ cs.drop (off + i.size) := by
            rw [List.append_assoc, ← List.drop_drop, List.take_append_drop, List.take_append_drop]
          have hsp : splice cs off (((cs.drop off).take i.size).map leftPV) = cs.take off ++ ((cs.drop off).take i.size).map leftPV ++ cs.drop (off + i.size) := by
            unfold splice; rw [List.length_map, hl1]
          obtain ⟨ι', Fs', g1, _, g3⟩ := Sim.takes (ps := (cs.drop off).take i.size) (k := 64 * d) (pre := cs.take off) (post := cs.drop (off + i.size)) h (by rw [← hcs]; exact ho)
            (fun z ob hz => hf z ob (List.mem_cons_of_mem _ hz) (freeOE_mem hfr z ob hz)) (vs := (xs.drop off).take i.size) (blk := k) hkb (by rw [hpre]; exact memAt_take hm' _)
            (by rw [hl1]; simp only [List.length_take, List.length_drop]; omega) ⟨F3, h3⟩
          rw [← hsp] at g1 g3
          refine ⟨.value (.agg ((xs.drop off).take i.size).toArray), w, ι', Fs', .agg ((xs.drop off).take i.size).toArray, ?_, .inl rfl, g1, ?_⟩
          · simp only [execOp, hv, Sem.run_bind, loadAt_struct hi hk hm' (by simp only [List.length_drop]; omega), Result.andThen_ok, Sem.run_pure]
          · simp only [AR]; exact ⟨_, rfl, by simpa using g3⟩
        · cases he
      | false =>
      simp only at he
      split at he
      · rename_i fs hk
        cases he
        obtain ⟨hs, hle⟩ := hs
        obtain ⟨ho, k, hkb, hv⟩ := agr_pa ha (ev_ug h x hx hs) hτ
        obtain ⟨xs, F', hown, hm, hr, _⟩ := arr_mem h ho hkb
        have hlen := Rs_length _ _ _ hr
        have hm' := memAt_drop hm off
        rw [Nat.zero_add] at hm'
        refine Snd.pure h (v := .agg ((xs.drop off).take i.size).toArray) ?_ ?_
        · simp only [execOp, hv, Sem.run_bind, loadAt_struct hi hk hm' (by simp only [List.length_drop]; omega), Result.andThen_ok, Sem.run_pure]
        · simp only [AR]
          obtain ⟨F1, F2, _, h2, _⟩ := Rs_split off _ _ _ hr
          obtain ⟨F3, F4, h3, _, _⟩ := Rs_split i.size _ _ _ h2
          exact ⟨_, rfl, ofPVs_ARs ho hkb h3 (memAt_take hm' _)⟩
      · cases he
      · rename_i hk1 hk2
        split at he
        · rename_i y hy
          cases he
          obtain ⟨ho, k, hkb, hv⟩ := agr_pa ha (ev_ug h x hx hs) hτ
          obtain ⟨xs, F', hown, hm, hr, _⟩ := arr_mem h ho hkb
          obtain ⟨u, F1, hu, hur, _⟩ := Rs_get hr hy
          have hc := hm off u hu
          rw [Nat.zero_add] at hc
          refine Snd.pure h (v := u) ?_ (ofPV_AR ho hkb hur hc)
          simp only [execOp, hv, Sem.run_bind, loadAt_cell hi (fun hk => hk2 hk) (fun fs hk => hk1 fs hk) hc, Result.andThen_ok, Sem.run_pure]
        · cases he
    · cases he
  · rename_i i s cs off hl hx
    have hi := hT.m hl
    split at he
    · rename_i fs hk
      cases he
      obtain ⟨hs, hle⟩ := hs
      have hv := ev_ug h x hx hs
      simp only [AR] at hv
      obtain ⟨b, o0, xs, hv, hU, hm, hr⟩ := hv
      have hlen := Rs_length _ _ _ hr
      have hm' := memAt_drop hm off
      refine Snd.pure h (v := .agg ((xs.drop off).take i.size).toArray) ?_ ?_
      · simp only [execOp, hv, Sem.run_bind, loadAt_struct hi hk hm' (by simp only [List.length_drop]; omega), Result.andThen_ok, Sem.run_pure]
      · simp only [AR]
        exact ⟨_, rfl, map_c_ARs (Rs_take (Rs_drop hr off) i.size)⟩
    · cases he
    · rename_i hk1 hk2
      split at he
      · rename_i y hy
        cases he
        have hv := ev_ug h x hx hs
        simp only [AR] at hv
        obtain ⟨b, o0, xs, hv, hU, hm, hr⟩ := hv
        obtain ⟨u, F1, hu, hur, hF⟩ := Rs_get hr hy
        have hF1 : F1 = [] := by cases F1 with | nil => rfl | cons z F1 => exact absurd (hF z (by simp)) (by simp)
        subst hF1
        refine Snd.pure h (v := u) ?_ (AR_c.2 hur)
        simp only [execOp, hv, Sem.run_bind, loadAt_cell hi (fun hk => hk2 hk) (fun fs hk => hk1 fs hk) (hm off u hu), Result.andThen_ok, Sem.run_pure]
      · cases he
  · cases he

end
end Am
