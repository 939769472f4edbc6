/- What was sealed, a state and a change read, of both. No condition. -/
import Derived.Test.YtkndgnnfgdfcbaaT
import Derived.Test.YtkndgnnfgdfcbaaD
import Derived.Test.YtkndgnnfgdfcbaaE35
import Derived.Test.YtkndgnnfgdfcbaaAm31
namespace Am
open Go Go.Proofs
open Cel (cells)
set_option maxRecDepth 100000
set_option linter.unusedSimpArgs false
set_option linter.unusedVariables false

@[simp] def h36 : Hts := { merge := fun _ => false, dr := fun id => if id = 2 then [{}, {}, {}, {}, {}, {}, {}, { mb := [20, 21, 22] }, { mb := [20, 21, 22] }, { cr := true, mb := [20, 21, 22] }, { mb := [17] }, { mb := [17] }, { cr := true, mb := [17] }, { cr := true, mb := [17] }, { cr := true, mb := [17] }, {}, {}] else [] }
set_option maxHeartbeats 1000000 in
theorem f36_ok (t : ByteArray) (ht : t.size ≤ 1073741824) : FnR Try.prog 36 [.v (.str t)] (.tup [.v (.str (unS t)), .v (.bool (unOk t))]) := by
  have w : IntKind.i64.wrap ((t.size : Int) - 4) = t.size - 4 := wrap64 (by omega) (by omega)
  refine FnW.of_AW TryT_ok 0 (fn := Try.f36) (by kernel_rfl) rfl (by kernel_rfl) rfl rfl rfl ?_
  refine AW_of h36 TryT_ok (by kernel_rfl) ?_
  rcases Nat.lt_or_ge t.size 4 with h | h
  · have h1 : (t.size : Int) - 4 < 0 := by omega
    simp -dsimp [w, h1]
    have : unOk t = false := by simp [unOk]; omega
    simp [unS, this]
  · have h1 : ¬ (t.size : Int) - 4 < 0 := by omega
    have h1' : 0 ≤ (t.size : Int) - 4 := by omega
    rcases Nat.lt_or_ge 20004 t.size with k | k
    · have k1 : 20000 < (t.size : Int) - 4 := by omega
      simp -dsimp [w, h1, h1', k1]
      have : unOk t = false := by simp [unOk]; omega
      simp [unS, this]
    · have k1 : ¬ 20000 < (t.size : Int) - 4 := by omega
      have e : ((t.size : Int) - 4).toNat = t.size - 4 := by omega
      simp -dsimp [w, h1, h1', k1, e]
      refine ⟨by omega, ?_⟩
      have hz : (t.extract 0 (t.size - 4)).size ≤ 1073741824 := by rw [ByteArray.size_extract]; omega
      refine ACallK_of (f87_ok _ hz) ?_
      simp -dsimp
      refine ACallK_of (f86_ok _ (sumOf_range _).1 (sumOf_range _).2) ?_
      by_cases hx : t.extract (t.size - 4) t.size = fourS (sumOf (t.extract 0 (t.size - 4)))
      · have : unOk t = true := by simp only [unOk, Bool.and_eq_true, decide_eq_true_eq]; exact ⟨h, k, hx⟩
        simp -dsimp [hx, w, h1', e]
        simp [unS, this]
        try omega
      · have : unOk t = false := by simp [unOk, hx]
        simp -dsimp [hx, w, h1', e]
        simp [unS, this]
        try omega

@[simp] def h42 : Hts := { merge := fun _ => false }
set_option maxHeartbeats 1000000 in
theorem f42_ok (t : ByteArray) (ht : t.size ≤ 1073741824) : FnR Try.prog 42 [.v (.str t)] (.tup [.v (.str (unS t)), .v (.bool (unOk t))]) := by
  have w : IntKind.i64.wrap ((t.size : Int) - 4) = t.size - 4 := wrap64 (by omega) (by omega)
  refine FnW.of_AW TryT_ok 0 (fn := Try.f42) (by kernel_rfl) rfl (by kernel_rfl) rfl rfl rfl ?_
  refine AW_of h42 TryT_ok (by kernel_rfl) ?_
  rcases Nat.lt_or_ge t.size 4 with h | h
  · have h1 : (t.size : Int) - 4 < 0 := by omega
    simp -dsimp [w, h1]
    have : unOk t = false := by simp [unOk]; omega
    simp [unS, this]
  · have h1 : ¬ (t.size : Int) - 4 < 0 := by omega
    have h1' : 0 ≤ (t.size : Int) - 4 := by omega
    have e : ((t.size : Int) - 4).toNat = t.size - 4 := by omega
    have hz : (t.extract 0 (t.size - 4)).size ≤ 1073741824 := by rw [ByteArray.size_extract]; omega
    have hz' : (t.extract 0 (t.size - 4)).size = t.size - 4 := by rw [ByteArray.size_extract]; omega
    simp -dsimp [w, h1, h1', e]
    refine ⟨by omega, ?_⟩
    refine ACallK_of (f97_ok _ hz) ?_
    rcases Nat.lt_or_ge 20004 t.size with k | k
    · have k1 : sealOk (t.extract 0 (t.size - 4)) = false := by simp only [sealOk, hz', decide_eq_false_iff_not]; omega
      simp -dsimp [k1]
      have : unOk t = false := by simp [unOk]; omega
      simp [unS, this]
    · have k1 : sealOk (t.extract 0 (t.size - 4)) = true := by simp only [sealOk, hz', decide_eq_true_eq]; omega
      have k2 : sealS (t.extract 0 (t.size - 4)) = t ↔ unOk t = true := by
        rw [sealS, if_pos (by omega)]
        have e1 : t.extract 0 (t.size - 4) ++ t.extract (t.size - 4) t.size = t := by
          rw [ByteArray.extract_append_extract, Nat.min_eq_left (by omega), Nat.max_eq_right (by omega)]
          exact ba_all t
        constructor
        · intro hx
          simp only [unOk, Bool.and_eq_true, decide_eq_true_eq]
          refine ⟨h, k, ?_⟩
          exact ((ByteArray.append_right_inj _).1 (hx.trans e1.symm)).symm
        · intro hx
          simp only [unOk, Bool.and_eq_true, decide_eq_true_eq] at hx
          rw [← hx.2.2]; exact e1
      cases hu : unOk t
      · have k3 : ¬ sealS (t.extract 0 (t.size - 4)) = t := by rw [k2, hu]; simp
        simp -dsimp [k1, k3]
        simp [unS, hu]
      · have k3 : sealS (t.extract 0 (t.size - 4)) = t := by rw [k2, hu]
        simp -dsimp [k1, k3, w, h1', e]
        simp [unS, hu]
        try omega

def GState.empty : GState := ⟨[], [], [], []⟩
theorem stS_Ok (s : GScan) : (stS s).1.Ok := by
  have a1 := kn_len s 3
  have a2 := liS_len (r := talM) (knowM s).2
  have a3 := liS_len (r := liveM boolS) (liS talM (knowM s).2).2
  have a4 := liS_len (r := cellM boolS) (liS (liveM boolS) (liS talM (knowM s).2).2).2
  refine ⟨?_, ?_, lsS_all (fun s => ?_) _ _, ?_, lsS_all (fun s => ?_) _ _, ?_, lsS_all (fun s => ?_) _ _⟩
  · simp only [stS, knowM]; omega
  · simp only [stS]; omega
  · have := shM_size s; simp only [talM, GTally.Ok]; omega
  · simp only [stS]; omega
  · have := shM_size (boolS s).2; have := shM_size (shM (boolS s).2).2; simp only [liveM, GLive.Ok]; omega
  · simp only [stS]; omega
  · have := shM_size s; simp only [cellM, GCell.Ok]; omega
theorem stM_Ok (s : GScan) : (stM s).1.Ok := by
  have a1 := kn_len s 3
  have a2 := liM_len (r := talM) (knowM s).2
  have a3 := liM_len (r := liveM flagM) (liM talM (knowM s).2).2
  have a4 := liM_len (r := cellM flagM) (liM (liveM flagM) (liM talM (knowM s).2).2).2
  refine ⟨?_, ?_, lsM_all (fun s => ?_) _ _, ?_, lsM_all (fun s => ?_) _ _, ?_, lsM_all (fun s => ?_) _ _⟩
  · simp only [stM, knowM]; omega
  · simp only [stM]; omega
  · have := shM_size s; simp only [talM, GTally.Ok]; omega
  · simp only [stM]; omega
  · have := shM_size (flagM s).2; have := shM_size (shM (flagM s).2).2; simp only [liveM, GLive.Ok]; omega
  · simp only [stM]; omega
  · have := shM_size s; simp only [cellM, GCell.Ok]; omega
theorem knowM_t (s : GScan) : (knowM s).2.t = s.t := kn_t s 3
theorem kn_pos {s : GScan} (h : 0 ≤ s.pos) : ∀ i, 0 ≤ (kn s i).2.pos
  | 0 => h
  | i + 1 => by rw [kn]; exact numM_pos (kn_pos h i)
theorem lsS_t {α : Type} {r : GScan → α × GScan} (hr : ∀ s, (r s).2.t = s.t) (s : GScan) : ∀ i, (lsS r s i).2.t = s.t
  | 0 => rfl
  | i + 1 => by
    rw [lsS]
    split
    · exact lsS_t hr s i
    · rw [hr, lsS_t hr s i]
theorem lsS_pos {α : Type} {r : GScan → α × GScan} (hr : ∀ s, 0 ≤ s.pos → 0 ≤ (r s).2.pos) {s : GScan} (h : 0 ≤ s.pos) : ∀ i, 0 ≤ (lsS r s i).2.pos
  | 0 => h
  | i + 1 => by
    rw [lsS]
    split
    · exact lsS_pos hr h i
    · exact hr _ (lsS_pos hr h i)

theorem liM_def {α : Type} [Cel α] (r : GScan → α × GScan) (s : GScan) : liM r s = lsM r (cntM s).2 (cntM s).1.toNat := rfl
theorem liS_def {α : Type} [Cel α] (r : GScan → α × GScan) (s : GScan) : liS r s = lsS r (cntM s).2 (cntM s).1.toNat := rfl
theorem cntM_posT {s : GScan} (h : 0 ≤ s.pos) : 0 ≤ (cntM s).2.pos := cntM_pos h
theorem liM_t {α : Type} [Cel α] {r : GScan → α × GScan} (hr : ∀ s, (r s).2.t = s.t) (s : GScan) : (liM r s).2.t = s.t := by unfold liM; rw [lsM_t hr, cntM_t]
theorem liS_t {α : Type} [Cel α] {r : GScan → α × GScan} (hr : ∀ s, (r s).2.t = s.t) (s : GScan) : (liS r s).2.t = s.t := by unfold liS; rw [lsS_t hr, cntM_t]
theorem liM_pos {α : Type} [Cel α] {r : GScan → α × GScan} (hr : ∀ s, 0 ≤ s.pos → 0 ≤ (r s).2.pos) {s : GScan} (h : 0 ≤ s.pos) : 0 ≤ (liM r s).2.pos := lsM_pos hr (cntM_pos h) _
theorem liS_pos {α : Type} [Cel α] {r : GScan → α × GScan} (hr : ∀ s, 0 ≤ s.pos → 0 ≤ (r s).2.pos) {s : GScan} (h : 0 ≤ s.pos) : 0 ≤ (liS r s).2.pos := lsS_pos hr (cntM_pos h) _
/-- What is told of a text. -/
def resM (x : GState) (f : GScan) (t : ByteArray) : GState × Bool := if f.bad = false ∧ f.pos = (unS t).size ∧ stateOk x = true then (x, true) else (GState.empty, false)
def resS (x : GState) (f : GScan) (t : ByteArray) : GState × Bool := if f.bad = false ∧ (stateOk x = true ∧ sealOk (stateS x) = true) ∧ sealS (stateS x) = t then (x, true) else (GState.empty, false)
def rdStM (t : ByteArray) : GState × Bool := resM (stM (scan0 t)).1 (stM (scan0 t)).2 t
def rdStS (t : ByteArray) : GState × Bool := resS (stS (scan0 t)).1 (stS (scan0 t)).2 t
theorem rdSt_eq (t : ByteArray) : rdStS t = rdStM t := by
  have h := whole_eq (ok := stateOk) stM_rdr st_eq t
  unfold rdStM rdStS resM resS
  by_cases hc : (stS (scan0 t)).2.bad = false ∧ (stateOk (stS (scan0 t)).1 = true ∧ sealOk (stateS (stS (scan0 t)).1) = true) ∧ sealS (stateS (stS (scan0 t)).1) = t
  · rw [if_pos hc, if_pos (h.2 hc), st_eq _ (scan0_fine t) (Or.inr hc.1)]
  · rw [if_neg hc, if_neg fun h' => hc (h.1 h')]

@[simp] def h15 : Hts := { merge := fun _ => false, lend := fun f => if f = 37 ∨ f = 38 ∨ f = 39 ∨ f = 40 then [.box []] else [] }
set_option maxHeartbeats 4000000 in
theorem f15_ok (t : ByteArray) (ht : t.size ≤ 1073741824) : FnR Try.prog 15 [.v (.str t)] (.tup [.agg [.ow 3 1 ((rdStS t).1).know.length (flat ((rdStS t).1).know), .ow 117 3 ((rdStS t).1).tallies.length (flat ((rdStS t).1).tallies), .ow 120 6 ((rdStS t).1).lives.length (flat ((rdStS t).1).lives), .ow 122 8 ((rdStS t).1).cs.length (flat ((rdStS t).1).cs)], .v (.bool ((rdStS t).2))]) := by
  have hu := unS_size t
  have hz : (scan0 t).t.size ≤ 1073741824 := by simp only [scan0]; omega
  have hp : 0 ≤ (scan0 t).pos := by simp [scan0]
  have e1 : ((knowM (scan0 t)).2).t = (scan0 t).t := knowM_t _
  have p1 : 0 ≤ ((knowM (scan0 t)).2).pos := kn_pos hp 3
  have e2 : ((liS talM (knowM (scan0 t)).2).2).t = (scan0 t).t := by rw [liS_t talM_t, e1]
  have p2 : 0 ≤ ((liS talM (knowM (scan0 t)).2).2).pos := liS_pos talM_pos p1
  have e3 : ((liS (liveM boolS) (liS talM (knowM (scan0 t)).2).2).2).t = (scan0 t).t := by rw [liS_t (liveM_t boolS_t), e2]
  have p3 : 0 ≤ ((liS (liveM boolS) (liS talM (knowM (scan0 t)).2).2).2).pos := liS_pos (liveM_pos fun _ => boolS_pos) p2
  have c1 := f37_ok (scan0 t) hz
  have c2 := f38_ok ((knowM (scan0 t)).2) (by rw [e1]; exact hz) p1
  have c3 := f39_ok ((liS talM (knowM (scan0 t)).2).2) (by rw [e2]; exact hz) p2
  have c4 := f40_ok ((liS (liveM boolS) (liS talM (knowM (scan0 t)).2).2).2) (by rw [e3]; exact hz) p3
  simp only [← liS_def] at c2 c3 c4
  have ho := stS_Ok (scan0 t)
  unfold rdStS
  simp only [stS] at ho ⊢
  clear e1 e2 e3 p1 p2 p3 hp hz
  generalize knowM (scan0 t) = K at *
  generalize liS talM K.2 = L at *
  generalize liS (liveM boolS) L.2 = M at *
  generalize liS (cellM boolS) M.2 = N at *
  obtain ⟨l, ⟨nt, np, nb⟩⟩ := N
  simp only at *
  refine FnW.of_AW TryT_ok 0 (fn := Try.f15) (by kernel_rfl) rfl (by kernel_rfl) rfl rfl rfl ?_
  refine AW_of h15 TryT_ok (by kernel_rfl) ?_
  simp -dsimp
  refine ACallK_of (f36_ok _ ht) ?_
  simp -dsimp
  refine ACallW_args (by intro us; simp -dsimp; exact ⟨rfl, rfl, rfl⟩) ?_
  refine ACallC_of (fun us => c1) (by intro us; simp -dsimp; exact ⟨rfl, rfl⟩) ?_
  simp -dsimp
  refine ACallW_args (by intro us; simp -dsimp; exact ⟨rfl, rfl, rfl⟩) ?_
  refine ACallC_of (fun us => c2) (by intro us; simp -dsimp; exact ⟨rfl, rfl⟩) ?_
  simp -dsimp
  refine ACallW_args (by intro us; simp -dsimp; exact ⟨rfl, rfl, rfl⟩) ?_
  refine ACallC_of (fun us => c3) (by intro us; simp -dsimp; exact ⟨rfl, rfl⟩) ?_
  simp -dsimp
  refine ACallW_args (by intro us; simp -dsimp; exact ⟨rfl, rfl, rfl⟩) ?_
  refine ACallC_of (fun us => c4) (by intro us; simp -dsimp; exact ⟨rfl, rfl⟩) ?_
  simp -dsimp
  refine ACallK_of (f41_ok _ ho) ?_
  cases nb
  · cases hr : stateTextOk (⟨K.1, L.1, M.1, l⟩ : GState)
    · have hx : ¬ (stateOk (⟨K.1, L.1, M.1, l⟩ : GState) = true ∧ sealOk (stateS (⟨K.1, L.1, M.1, l⟩ : GState)) = true) := by simpa [stateTextOk] using hr
      simp -dsimp [hr]
      simp [resS, hx, GState.empty]
    · have hx : stateOk (⟨K.1, L.1, M.1, l⟩ : GState) = true ∧ sealOk (stateS (⟨K.1, L.1, M.1, l⟩ : GState)) = true := by simpa [stateTextOk] using hr
      have e : stateText (⟨K.1, L.1, M.1, l⟩ : GState) = sealS (stateS (⟨K.1, L.1, M.1, l⟩ : GState)) := by rw [stateText, if_pos hx.1]
      rw [e]
      by_cases he : sealS (stateS (⟨K.1, L.1, M.1, l⟩ : GState)) = t
      · simp -dsimp [hr, he]
        simp [resS, hx, he]
      · simp -dsimp [hr, he]
        simp [resS, hx, he, GState.empty]
  · simp -dsimp
    simp [resS, GState.empty]

@[simp] def h16 : Hts := { merge := fun _ => false, lend := fun f => if f = 43 ∨ f = 44 ∨ f = 45 ∨ f = 46 then [.box []] else [] }
set_option maxHeartbeats 4000000 in
theorem f16_ok (t : ByteArray) (ht : t.size ≤ 1073741824) : FnR Try.prog 16 [.v (.str t)] (.tup [.agg [.ow 3 1 ((rdStM t).1).know.length (flat ((rdStM t).1).know), .ow 117 3 ((rdStM t).1).tallies.length (flat ((rdStM t).1).tallies), .ow 120 6 ((rdStM t).1).lives.length (flat ((rdStM t).1).lives), .ow 122 8 ((rdStM t).1).cs.length (flat ((rdStM t).1).cs)], .v (.bool ((rdStM t).2))]) := by
  have hu := unS_size t
  have hz : (scan0 t).t.size ≤ 1073741824 := by simp only [scan0]; omega
  have hp : 0 ≤ (scan0 t).pos := by simp [scan0]
  have e1 : ((knowM (scan0 t)).2).t = (scan0 t).t := knowM_t _
  have p1 : 0 ≤ ((knowM (scan0 t)).2).pos := kn_pos hp 3
  have e2 : ((liM talM (knowM (scan0 t)).2).2).t = (scan0 t).t := by rw [liM_t talM_t, e1]
  have p2 : 0 ≤ ((liM talM (knowM (scan0 t)).2).2).pos := liM_pos talM_pos p1
  have e3 : ((liM (liveM flagM) (liM talM (knowM (scan0 t)).2).2).2).t = (scan0 t).t := by rw [liM_t (liveM_t flagM_t), e2]
  have p3 : 0 ≤ ((liM (liveM flagM) (liM talM (knowM (scan0 t)).2).2).2).pos := liM_pos (liveM_pos fun _ => flagM_pos) p2
  have c1 := f43_ok (scan0 t) hz
  have c2 := f44_ok ((knowM (scan0 t)).2) (by rw [e1]; exact hz) p1
  have c3 := f45_ok ((liM talM (knowM (scan0 t)).2).2) (by rw [e2]; exact hz) p2
  have c4 := f46_ok ((liM (liveM flagM) (liM talM (knowM (scan0 t)).2).2).2) (by rw [e3]; exact hz) p3
  simp only [← liM_def] at c2 c3 c4
  have ho := stM_Ok (scan0 t)
  unfold rdStM
  simp only [stM] at ho ⊢
  clear e1 e2 e3 p1 p2 p3 hp hz
  generalize knowM (scan0 t) = K at *
  generalize liM talM K.2 = L at *
  generalize liM (liveM flagM) L.2 = M at *
  generalize liM (cellM flagM) M.2 = N at *
  obtain ⟨l, ⟨nt, np, nb⟩⟩ := N
  simp only at *
  refine FnW.of_AW TryT_ok 0 (fn := Try.f16) (by kernel_rfl) rfl (by kernel_rfl) rfl rfl rfl ?_
  refine AW_of h16 TryT_ok (by kernel_rfl) ?_
  simp -dsimp
  refine ACallK_of (f42_ok _ ht) ?_
  simp -dsimp
  refine ACallW_args (by intro us; simp -dsimp; exact ⟨rfl, rfl, rfl⟩) ?_
  refine ACallC_of (fun us => c1) (by intro us; simp -dsimp; exact ⟨rfl, rfl⟩) ?_
  simp -dsimp
  refine ACallW_args (by intro us; simp -dsimp; exact ⟨rfl, rfl, rfl⟩) ?_
  refine ACallC_of (fun us => c2) (by intro us; simp -dsimp; exact ⟨rfl, rfl⟩) ?_
  simp -dsimp
  refine ACallW_args (by intro us; simp -dsimp; exact ⟨rfl, rfl, rfl⟩) ?_
  refine ACallC_of (fun us => c3) (by intro us; simp -dsimp; exact ⟨rfl, rfl⟩) ?_
  simp -dsimp
  refine ACallW_args (by intro us; simp -dsimp; exact ⟨rfl, rfl, rfl⟩) ?_
  refine ACallC_of (fun us => c4) (by intro us; simp -dsimp; exact ⟨rfl, rfl⟩) ?_
  cases nb
  · by_cases hz : np = (unS t).size
    · have hz2 : (np != ((unS t).size : Int)) = false := by simp [hz]
      simp -dsimp [hz2]
      refine ACallK_of (f47_ok _ ho) ?_
      rw [stateOkM_eq]
      cases hk : stateOk (⟨K.1, L.1, M.1, l⟩ : GState)
      · simp -dsimp
        simp [resM, hk, GState.empty]
      · simp -dsimp
        simp [resM, hk, hz]
    · have hz2 : (np != ((unS t).size : Int)) = true := by simp [hz]
      simp -dsimp [hz2]
      simp [resM, hz, GState.empty]
  · simp -dsimp
    simp [resM, GState.empty]
end Am
