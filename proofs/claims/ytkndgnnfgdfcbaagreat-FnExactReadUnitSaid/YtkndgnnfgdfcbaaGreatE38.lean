/- What was sealed, of both. No condition. -/
import Derived.Test.YtkndgnnfgdfcbaaGreatT
import Derived.Test.YtkndgnnfgdfcbaaGreatD
import Derived.Test.YtkndgnnfgdfcbaaGreatE35
import Derived.Test.YtkndgnnfgdfcbaaGreatAm31
namespace Am
open Go Go.Proofs
open Cel (cells)
set_option maxRecDepth 100000
set_option linter.unusedSimpArgs false
set_option linter.unusedVariables false

@[simp] def h67 : Hts := { merge := fun _ => false, dr := fun id => if id = 2 then [{}, {}, {}, {}, {}, {}, {}, { mb := [20, 21, 22] }, { mb := [20, 21, 22] }, { cr := true, mb := [20, 21, 22] }, { mb := [17] }, { mb := [17] }, { cr := true, mb := [17] }, { cr := true, mb := [17] }, { cr := true, mb := [17] }, {}, {}] else [] }
set_option maxHeartbeats 1000000 in
theorem f67_ok (t : ByteArray) (ht : t.size ≤ 1073741824) : FnR Tryz.prog 67 [.v (.str t)] (.tup [.v (.str (unS t)), .v (.bool (unOk t))]) := by
  have w : IntKind.i64.wrap ((t.size : Int) - 4) = t.size - 4 := wrap64 (by omega) (by omega)
  refine FnW.of_AW TryzT_ok 0 (fn := Tryz.f67) (by kernel_rfl) rfl (by kernel_rfl) rfl rfl rfl ?_
  refine AW_of h67 TryzT_ok (by kernel_rfl) ?_
  rcases Nat.lt_or_ge t.size 4 with h | h
  · have h1 : (t.size : Int) - 4 < 0 := by omega
    simp -dsimp [w, h1]
    have : unOk t = false := by simp [unOk]; omega
    simp [unS, this]
  · have h1 : ¬ (t.size : Int) - 4 < 0 := by omega
    have h1' : 0 ≤ (t.size : Int) - 4 := by omega
    rcases Nat.lt_or_ge 20004 t.size with k | k
    · have k1 : 20000 < (t.size : Int) - 4 := by omega
      simp -dsimp [w, h1, h1', k1]
      have : unOk t = false := by simp [unOk]; omega
      simp [unS, this]
    · have k1 : ¬ 20000 < (t.size : Int) - 4 := by omega
      have e : ((t.size : Int) - 4).toNat = t.size - 4 := by omega
      simp -dsimp [w, h1, h1', k1, e]
      refine ⟨by omega, ?_⟩
      have hz : (t.extract 0 (t.size - 4)).size ≤ 1073741824 := by rw [ByteArray.size_extract]; omega
      refine ACallK_of (f95_ok _ hz) ?_
      simp -dsimp
      refine ACallK_of (f94_ok _ (sumOf_range _).1 (sumOf_range _).2) ?_
      by_cases hx : t.extract (t.size - 4) t.size = fourS (sumOf (t.extract 0 (t.size - 4)))
      · have : unOk t = true := by simp only [unOk, Bool.and_eq_true, decide_eq_true_eq]; exact ⟨h, k, hx⟩
        simp -dsimp [hx, w, h1', e]
        simp [unS, this]
        try omega
      · have : unOk t = false := by simp [unOk, hx]
        simp -dsimp [hx, w, h1', e]
        simp [unS, this]
        try omega

@[simp] def h71 : Hts := { merge := fun _ => false }
set_option maxHeartbeats 1000000 in
theorem f71_ok (t : ByteArray) (ht : t.size ≤ 1073741824) : FnR Tryz.prog 71 [.v (.str t)] (.tup [.v (.str (unS t)), .v (.bool (unOk t))]) := by
  have w : IntKind.i64.wrap ((t.size : Int) - 4) = t.size - 4 := wrap64 (by omega) (by omega)
  refine FnW.of_AW TryzT_ok 0 (fn := Tryz.f71) (by kernel_rfl) rfl (by kernel_rfl) rfl rfl rfl ?_
  refine AW_of h71 TryzT_ok (by kernel_rfl) ?_
  rcases Nat.lt_or_ge t.size 4 with h | h
  · have h1 : (t.size : Int) - 4 < 0 := by omega
    simp -dsimp [w, h1]
    have : unOk t = false := by simp [unOk]; omega
    simp [unS, this]
  · have h1 : ¬ (t.size : Int) - 4 < 0 := by omega
    have h1' : 0 ≤ (t.size : Int) - 4 := by omega
    have e : ((t.size : Int) - 4).toNat = t.size - 4 := by omega
    have hz : (t.extract 0 (t.size - 4)).size ≤ 1073741824 := by rw [ByteArray.size_extract]; omega
    have hz' : (t.extract 0 (t.size - 4)).size = t.size - 4 := by rw [ByteArray.size_extract]; omega
    simp -dsimp [w, h1, h1', e]
    refine ⟨by omega, ?_⟩
    refine ACallK_of (f38_ok _ hz) ?_
    rcases Nat.lt_or_ge 20004 t.size with k | k
    · have k1 : sealOk (t.extract 0 (t.size - 4)) = false := by simp only [sealOk, hz', decide_eq_false_iff_not]; omega
      simp -dsimp [k1]
      have : unOk t = false := by simp [unOk]; omega
      simp [unS, this]
    · have k1 : sealOk (t.extract 0 (t.size - 4)) = true := by simp only [sealOk, hz', decide_eq_true_eq]; omega
      have k2 : sealS (t.extract 0 (t.size - 4)) = t ↔ unOk t = true := by
        rw [sealS, if_pos (by omega)]
        have e1 : t.extract 0 (t.size - 4) ++ t.extract (t.size - 4) t.size = t := by
          rw [ByteArray.extract_append_extract, Nat.min_eq_left (by omega), Nat.max_eq_right (by omega)]
          exact ba_all t
        constructor
        · intro hx
          simp only [unOk, Bool.and_eq_true, decide_eq_true_eq]
          refine ⟨h, k, ?_⟩
          exact ((ByteArray.append_right_inj _).1 (hx.trans e1.symm)).symm
        · intro hx
          simp only [unOk, Bool.and_eq_true, decide_eq_true_eq] at hx
          rw [← hx.2.2]; exact e1
      cases hu : unOk t
      · have k3 : ¬ sealS (t.extract 0 (t.size - 4)) = t := by rw [k2, hu]; simp
        simp -dsimp [k1, k3]
        simp [unS, hu]
      · have k3 : sealS (t.extract 0 (t.size - 4)) = t := by rw [k2, hu]
        simp -dsimp [k1, k3, w, h1', e]
        simp [unS, hu]
        try omega

theorem knowM_t (s : GScan) : (knowM s).2.t = s.t := kn_t s 3
theorem kn_pos {s : GScan} (h : 0 ≤ s.pos) : ∀ i, 0 ≤ (kn s i).2.pos
  | 0 => h
  | i + 1 => by rw [kn]; exact numM_pos (kn_pos h i)
theorem lsS_t {α : Type} {r : GScan → α × GScan} (hr : ∀ s, (r s).2.t = s.t) (s : GScan) : ∀ i, (lsS r s i).2.t = s.t
  | 0 => rfl
  | i + 1 => by
    rw [lsS]
    split
    · exact lsS_t hr s i
    · rw [hr, lsS_t hr s i]
theorem lsS_pos {α : Type} {r : GScan → α × GScan} (hr : ∀ s, 0 ≤ s.pos → 0 ≤ (r s).2.pos) {s : GScan} (h : 0 ≤ s.pos) : ∀ i, 0 ≤ (lsS r s i).2.pos
  | 0 => h
  | i + 1 => by
    rw [lsS]
    split
    · exact lsS_pos hr h i
    · exact hr _ (lsS_pos hr h i)

theorem liM_def {α : Type} [Cel α] (r : GScan → α × GScan) (s : GScan) : liM r s = lsM r (cntM s).2 (cntM s).1.toNat := rfl
theorem liS_def {α : Type} [Cel α] (r : GScan → α × GScan) (s : GScan) : liS r s = lsS r (cntM s).2 (cntM s).1.toNat := rfl
theorem cntM_posT {s : GScan} (h : 0 ≤ s.pos) : 0 ≤ (cntM s).2.pos := cntM_pos h
theorem liM_t {α : Type} [Cel α] {r : GScan → α × GScan} (hr : ∀ s, (r s).2.t = s.t) (s : GScan) : (liM r s).2.t = s.t := by unfold liM; rw [lsM_t hr, cntM_t]
theorem liS_t {α : Type} [Cel α] {r : GScan → α × GScan} (hr : ∀ s, (r s).2.t = s.t) (s : GScan) : (liS r s).2.t = s.t := by unfold liS; rw [lsS_t hr, cntM_t]
theorem liM_pos {α : Type} [Cel α] {r : GScan → α × GScan} (hr : ∀ s, 0 ≤ s.pos → 0 ≤ (r s).2.pos) {s : GScan} (h : 0 ≤ s.pos) : 0 ≤ (liM r s).2.pos := lsM_pos hr (cntM_pos h) _
theorem liS_pos {α : Type} [Cel α] {r : GScan → α × GScan} (hr : ∀ s, 0 ≤ s.pos → 0 ≤ (r s).2.pos) {s : GScan} (h : 0 ≤ s.pos) : 0 ≤ (liS r s).2.pos := lsS_pos hr (cntM_pos h) _
end Am
