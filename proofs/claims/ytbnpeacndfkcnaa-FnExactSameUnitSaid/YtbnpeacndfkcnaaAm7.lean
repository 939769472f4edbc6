/- Loads; new variables; structs built. No condition. -/
import Derived.Test.YtbnpeacndfkcnaaAm6
namespace Am
open Go
set_option linter.unusedSimpArgs false
set_option linter.unusedVariables false
section
variable {P : Program} {T : Ty} {C : Ctx} {σ : AEnv} {a : Act} {w : World} {ι : Nat → Value} {Fs : Nat → List Nat} {τ : Nat → AObj} {e : Eff}
variable {dst : Option Tmp} {type : TypeId} {pos : String} {after : Array Edge} {guard : Option (Nat × Bool)}

theorem addr_add (b off n : Nat) : (⟨b, off, none⟩ : Addr).add n = ⟨b, off + n, none⟩ := by unfold Addr.add; split <;> simp_all

theorem loadAt_struct {t : Nat} {i : TyI} (hi : TyM P t i) {fs : List (Nat × Nat)} (hk : i.k = .struct fs) {b off : Nat} {xs : List Value} (hm : memAt w b off xs) (hl : i.size ≤ xs.length) :
    (Instr.loadAt t (.pointer (some ⟨b, off, none⟩))).run P w = .ok (.agg (xs.take i.size).toArray) w := by
  have h1 := hi.run_isAgg w (by rw [hk]; simp)
  rw [hk] at h1
  have hz := hi.run_sizeOf w
  have hlen : (xs.take i.size).length = i.size := by simp [hl]
  have hld := run_loadCells_list (P := P) w ⟨b, off, none⟩ (xs.take i.size) (fun j v hj => by rw [addr_add]; exact memAt_take hm _ j v hj)
  rw [hlen] at hld
  simp [Instr.loadAt, Instr.sureAddr, loadVar, h1, hz, hld]

theorem loadAt_cell {t : Nat} {i : TyI} (hi : TyM P t i) (hk : i.k ≠ .other) (hk' : ∀ fs, i.k ≠ .struct fs) {b off : Nat} {v : Value} (hc : w.cell? ⟨b, off, none⟩ = some v) :
    (Instr.loadAt t (.pointer (some ⟨b, off, none⟩))).run P w = .ok v w := by
  have h1 : (isAgg t).run P w = .ok false w := by
    rw [hi.run_isAgg w hk]
    congr 1
    split
    · rename_i fs hfs; exact absurd hfs (hk' fs)
    · rfl
  simp [Instr.loadAt, Instr.sureAddr, loadVar, h1, hc]

theorem box_mem (h : Sim C σ a w ι Fs) {b : Nat} {cs : List AV} (ho : σ.o b = .box cs) {k : Nat} (hk : ι b = .pointer (some ⟨k, 0, none⟩)) :
    ∃ vals ty, w.heap[k]? = some (.cells vals ty (0, 0)) ∧ memAt w k 0 vals.toList ∧ ARs w (Un C w Fs) σ.o ι cs vals.toList ∧ (∀ x ∈ vals.toList, x.oneCell' = true) ∧ Fs b = [k] := by
  have hob := h.ob b
  rw [ho] at hob
  obtain ⟨k', vals, ty, hv, hh, hr, h1, hF⟩ := hob
  rw [hk] at hv
  cases hv
  refine ⟨vals, ty, hh, fun j u hu => ?_, hr, h1, hF⟩
  rw [Nat.zero_add]
  simp only [World.cell?, hh]
  simpa using hu

theorem arr_mem (h : Sim C σ a w ι Fs) {b : Nat} {e s n : Nat} {cs : List PV} (ho : σ.o b = .arr e s n cs) {k : Nat} (hk : (ι b).ownBlock = some k) :
    ∃ xs F', w.ownsRow 0 e s (ι b) n xs ∧ memAt w k 0 xs ∧ Rs w (Un C w Fs) cs xs F' ∧ Fs b = k :: F' := by
  have hob := h.ob b
  rw [ho] at hob
  obtain ⟨xs, F', hown, hr, hF⟩ := hob
  refine ⟨xs, F', hown, fun j u hu => ?_, hr, by rw [hF, hk]; rfl⟩
  have := hown.cells hk j u hu
  rwa [addr_add] at this

theorem R_free {U : Nat → Prop} {p : PV} {v : Value} {F : List Nat} (h : R w U p v F) (hp : isFree p = true) : F = [] := by
  cases p with
  | int k n => simp only [R] at h; exact h.2
  | bool b => simp only [R] at h; exact h.2
  | str s => simp only [R] at h; exact h.2
  | im n cs => simp only [R] at h; exact h.1
  | ow e s n cs => simp [isFree] at hp

theorem Rs_free {U : Nat → Prop} : ∀ {ps : List PV} {vs : List Value} {F : List Nat}, Rs w U ps vs F → ps.all isFree = true → F = []
  | [], [], F, h, _ => by simpa only [Rs] using h
  | p :: ps, v :: vs, F, h, hp => by
    simp only [Rs] at h
    obtain ⟨F1, F2, h1, h2, rfl⟩ := h
    simp only [List.all_cons, Bool.and_eq_true] at hp
    rw [R_free h1 hp.1, Rs_free h2 hp.2]
    rfl
  | [], _ :: _, _, h, _ => by simp only [Rs] at h
  | _ :: _, [], _, h, _ => by simp only [Rs] at h

theorem ofPV_AR {b : Nat} {e s n : Nat} {cs : List PV} (ho : σ.o b = .arr e s n cs) {U : Nat → Prop} {k : Nat} (hk : (ι b).ownBlock = some k) {off : Nat} {p : PV} {v : Value} {F : List Nat}
    (hr : R w U p v F) (hc : w.cell? ⟨k, off, none⟩ = some v) : AR w U σ.o ι (ofPV b off p) v := by
  unfold ofPV
  split
  · simp only [AR, ho]
    exact fun _ => ⟨k, hk, hc⟩
  · rename_i hp
    have hf : isFree p = true := by
      cases p <;> first | rfl | (exact absurd rfl (hp _ _ _ _))
    have := R_free hr hf
    subst this
    exact AR_c.2 hr

theorem ofPVs_ARs {b : Nat} {e s n : Nat} {cs : List PV} (ho : σ.o b = .arr e s n cs) {U : Nat → Prop} {k : Nat} (hk : (ι b).ownBlock = some k) : ∀ {ps : List PV} {vs : List Value} {off : Nat} {F : List Nat},
    Rs w U ps vs F → memAt w k off vs → ARs w U σ.o ι (ofPVs b off ps) vs
  | [], [], _, _, _, _ => by simp [ofPVs, ARs]
  | p :: ps, v :: vs, off, F, hr, hm => by
    simp only [Rs] at hr
    obtain ⟨F1, F2, h1, h2, _⟩ := hr
    simp only [ofPVs, ARs]
    refine ⟨ofPV_AR ho hk h1 (by simpa using hm 0 v rfl), ofPVs_ARs ho hk h2 (fun j u hu => ?_)⟩
    have := hm (j + 1) u (by simpa using hu)
    rwa [show off + (j + 1) = off + 1 + j by omega] at this
  | [], _ :: _, _, _, h, _ => by simp only [Rs] at h
  | _ :: _, [], _, _, h, _ => by simp only [Rs] at h

theorem map_c_ARs {U : Nat → Prop} {O : Nat → AObj} : ∀ {ps : List PV} {vs : List Value}, Rs w U ps vs [] → ARs w U O ι (ps.map .c) vs
  | [], [], _ => by simp [ARs]
  | p :: ps, v :: vs, h => by
    simp only [Rs] at h
    obtain ⟨F1, F2, h1, h2, hF⟩ := h
    obtain ⟨rfl, rfl⟩ := List.append_eq_nil_iff.1 hF.symm
    simp only [List.map_cons, ARs]
    exact ⟨AR_c.2 h1, map_c_ARs h2⟩
  | [], _ :: _, h => by simp only [Rs] at h
  | _ :: _, [], h => by simp only [Rs] at h

theorem snd_load (hT : TyOK P T) (h : Sim C σ a w ι Fs) (ha : Agr σ.o τ) {t : Nat} {x : Operand} (he : astep T (ev σ) τ ⟨dst, .load t x, type, pos, after, guard⟩ = some e) (hs : e.side) :
    Snd P C σ a w ⟨dst, .load t x, type, pos, after, guard⟩ e := by
  simp only [astep] at he
  split at he
  · rename_i i s b off hl hx
    have hi := hT.m hl
    split at he
    · rename_i cs hτ
      split at he
      · rename_i fs hk
        split at he
        · rename_i hle
          cases he
          obtain ⟨ho, k, hkb, hv⟩ := agr_box ha (ev_ug h x hx hs) hτ
          obtain ⟨vals, ty, hh, hm, hr, _, _⟩ := box_mem h ho hkb
          have hlen := ARs_length _ _ hr
          have hm' := memAt_drop hm off
          rw [Nat.zero_add] at hm'
          refine Snd.pure h (v := .agg ((vals.toList.drop off).take i.size).toArray) ?_ ?_
          · simp only [execOp, hv, Sem.run_bind, loadAt_struct hi hk hm' (by simp only [List.length_drop]; omega), Result.andThen_ok, Sem.run_pure]
          · simp only [AR]; exact ⟨_, rfl, by simpa using ARs_take (ARs_drop hr off) i.size⟩
        · cases he
      · cases he
      · rename_i hk1 hk2
        split at he
        · rename_i y hy
          cases he
          obtain ⟨ho, k, hkb, hv⟩ := agr_box ha (ev_ug h x hx hs) hτ
          obtain ⟨vals, ty, hh, hm, hr, _, _⟩ := box_mem h ho hkb
          obtain ⟨u, hu, hur⟩ := ARs_get hr hy
          have hc := hm off u hu
          rw [Nat.zero_add] at hc
          refine Snd.pure h (v := u) ?_ hur
          simp only [execOp, hv, Sem.run_bind, loadAt_cell hi (fun hk => hk2 hk) (fun fs hk => hk1 fs hk) hc, Result.andThen_ok, Sem.run_pure]
        · cases he
    · cases he
  · rename_i i s b off hl hx
    have hi := hT.m hl
    split at he
    · rename_i e1 s1 n1 cs hτ
      split at he
      · rename_i fs hk
        cases he
        obtain ⟨hs, hle⟩ := hs
        obtain ⟨ho, k, hkb, hv⟩ := agr_pa ha (ev_ug h x hx hs) hτ
        obtain ⟨xs, F', hown, hm, hr, _⟩ := arr_mem h ho hkb
        have hlen := Rs_length _ _ _ hr
        have hm' := memAt_drop hm off
        rw [Nat.zero_add] at hm'
        refine Snd.pure h (v := .agg ((xs.drop off).take i.size).toArray) ?_ ?_
        · simp only [execOp, hv, Sem.run_bind, loadAt_struct hi hk hm' (by simp only [List.length_drop]; omega), Result.andThen_ok, Sem.run_pure]
        · simp only [AR]
          obtain ⟨F1, F2, _, h2, _⟩ := Rs_split off _ _ _ hr
          obtain ⟨F3, F4, h3, _, _⟩ := Rs_split i.size _ _ _ h2
          exact ⟨_, rfl, ofPVs_ARs ho hkb h3 (memAt_take hm' _)⟩
      · cases he
      · rename_i hk1 hk2
        split at he
        · rename_i y hy
          cases he
          obtain ⟨ho, k, hkb, hv⟩ := agr_pa ha (ev_ug h x hx hs) hτ
          obtain ⟨xs, F', hown, hm, hr, _⟩ := arr_mem h ho hkb
          obtain ⟨u, F1, hu, hur, _⟩ := Rs_get hr hy
          have hc := hm off u hu
          rw [Nat.zero_add] at hc
          refine Snd.pure h (v := u) ?_ (ofPV_AR ho hkb hur hc)
          simp only [execOp, hv, Sem.run_bind, loadAt_cell hi (fun hk => hk2 hk) (fun fs hk => hk1 fs hk) hc, Result.andThen_ok, Sem.run_pure]
        · cases he
    · cases he
  · rename_i i s cs off hl hx
    have hi := hT.m hl
    split at he
    · rename_i fs hk
      cases he
      obtain ⟨hs, hle⟩ := hs
      have hv := ev_ug h x hx hs
      simp only [AR] at hv
      obtain ⟨b, o0, xs, hv, hU, hm, hr⟩ := hv
      have hlen := Rs_length _ _ _ hr
      have hm' := memAt_drop hm off
      refine Snd.pure h (v := .agg ((xs.drop off).take i.size).toArray) ?_ ?_
      · simp only [execOp, hv, Sem.run_bind, loadAt_struct hi hk hm' (by simp only [List.length_drop]; omega), Result.andThen_ok, Sem.run_pure]
      · simp only [AR]
        exact ⟨_, rfl, map_c_ARs (Rs_take (Rs_drop hr off) i.size)⟩
    · cases he
    · rename_i hk1 hk2
      split at he
      · rename_i y hy
        cases he
        have hv := ev_ug h x hx hs
        simp only [AR] at hv
        obtain ⟨b, o0, xs, hv, hU, hm, hr⟩ := hv
        obtain ⟨u, F1, hu, hur, hF⟩ := Rs_get hr hy
        have hF1 : F1 = [] := by cases F1 with | nil => rfl | cons z F1 => exact absurd (hF z (by simp)) (by simp)
        subst hF1
        refine Snd.pure h (v := u) ?_ (AR_c.2 hur)
        simp only [execOp, hv, Sem.run_bind, loadAt_cell hi (fun hk => hk2 hk) (fun fs hk => hk1 fs hk) (hm off u hu), Result.andThen_ok, Sem.run_pure]
      · cases he
  · cases he

end
end Am
