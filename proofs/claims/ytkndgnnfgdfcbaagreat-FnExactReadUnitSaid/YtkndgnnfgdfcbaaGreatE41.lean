/- A unit read, of both: the walk. No condition. -/
import Derived.Test.YtkndgnnfgdfcbaaGreatT
import Derived.Test.YtkndgnnfgdfcbaaGreatD
import Derived.Test.YtkndgnnfgdfcbaaGreatE40
import Derived.Test.YtkndgnnfgdfcbaaGreatAm31
namespace Am
open Go Go.Proofs
open Cel (cells)
set_option maxRecDepth 100000
set_option linter.unusedSimpArgs false
set_option linter.unusedVariables false

theorem rsS_size (t : ByteArray) (p : Int) : (rsS (rs t p)).size ≤ 20000 := by
  cases g : rs t p with
  | none => exact Nat.zero_le _
  | some x =>
    obtain ⟨y, a⟩ := x
    obtain ⟨n, b, h1, h2, h3, rfl, rfl⟩ := rs_spec g
    have := rd_spec h1
    simp only [rsS, ByteArray.size_extract]
    omega

@[simp] def h24 : Hts := { merge := fun _ => false }
set_option maxHeartbeats 4000000 in
theorem f24_ok (t : ByteArray) (ht : t.size ≤ 1073741824) : FnR Tryz.prog 24 [.v (.str t)] (.tup [.agg [.bool ((rdUnM t).1).batch, .int .i64 ((rdUnM t).1).act.dot.rep, .int .i64 ((rdUnM t).1).act.dot.seq, .int .i64 ((rdUnM t).1).act.time, .ow 3 1 ((rdUnM t).1).act.knew.length (flat ((rdUnM t).1).act.knew), .int .i64 ((rdUnM t).1).act.kind, .str ((rdUnM t).1).act.obj, .str ((rdUnM t).1).act.key, .int .i64 ((rdUnM t).1).act.val, .int .i64 ((rdUnM t).1).act.ref.rep, .int .i64 ((rdUnM t).1).act.ref.seq, .ow 3 1 ((rdUnM t).1).delta.base.length (flat ((rdUnM t).1).delta.base), .ow 3 1 ((rdUnM t).1).delta.know.length (flat ((rdUnM t).1).delta.know), .ow 146 3 ((rdUnM t).1).delta.tallies.length (flat ((rdUnM t).1).delta.tallies), .ow 148 6 ((rdUnM t).1).delta.lives.length (flat ((rdUnM t).1).delta.lives), .ow 38 2 ((rdUnM t).1).delta.dead.length (flat ((rdUnM t).1).delta.dead), .ow 150 8 ((rdUnM t).1).delta.cs.length (flat ((rdUnM t).1).delta.cs)], .v (.bool ((rdUnM t).2))]) := by
  have hu := unS_size t
  refine FnW.of_AW TryzT_ok 0 (fn := Tryz.f24) (by kernel_rfl) rfl (by kernel_rfl) rfl rfl rfl ?_
  refine AW_of h24 TryzT_ok (by kernel_rfl) ?_
  simp -dsimp
  refine ACallK_of (f71_ok _ ht) ?_
  cases ho : unOk t
  · have hR : rdUnM t = (GUnit.empty, false) := by simp [rdUnM, ho]
    simp -dsimp
    simp [hR, GUnit.empty, zeroAct, zeroDelta]
  rcases Nat.eq_zero_or_pos (unS t).size with hx | hx
  · have hx0 : unS t = ⟨#[]⟩ := ByteArray.size_eq_zero_iff.1 hx
    have hR : rdUnM t = (GUnit.empty, false) := by unfold rdUnM; rw [if_neg (by omega)]
    simp -dsimp [hx0]
    simp [hR, GUnit.empty, zeroAct, zeroDelta]
  · have hx0 : ¬ unS t = ⟨#[]⟩ := by intro h; rw [h] at hx; cases hx
    have hR : rdUnM t = rdUnM t := rfl
    conv at hR => rhs; rw [rdUnM, if_pos (show unOk t = true ∧ 0 < (unS t).size from ⟨ho, hx⟩)]
    have hx2 : ¬ (unS t).toList = [] := by
      intro h
      have h2 := str_beq (unS t) ⟨#[]⟩
      rw [h] at h2
      exact hx0 (by simpa using h2.symm)
    have hx3 : (unS t).toList.isEmpty = false := by simpa using hx2
    have hx1 : (1 : Int) ≤ (unS t).size := by omega
    by_cases b0 : bt (unS t) 0 = 0
    · rw [if_pos b0] at hR
      simp -dsimp [hx3, hx, b0]
      refine ACallK_of (f72_ok _ 1 (by omega)) ?_
      generalize hA : rdAct (unS t) 1 = A at *
      obtain ⟨a, n, k⟩ := A
      simp only at hR
      cases k
      · simp -dsimp
        simp [hR, GUnit.empty, zeroAct, zeroDelta]
      · by_cases hn : n = (unS t).size
        · have hn2 : (n == ((unS t).size : Int)) = true := by simp [hn]
          simp -dsimp [hn2]
          simp [hR, hn, zeroDelta]
        · have hn2 : (n == ((unS t).size : Int)) = false := by simp [hn]
          simp -dsimp [hn2]
          simp [hR, hn, GUnit.empty, zeroAct, zeroDelta]
    · rw [if_neg b0] at hR
      by_cases b1 : bt (unS t) 0 = 1
      · rw [if_pos b1] at hR
        simp -dsimp [hx3, hx, b0, b1]
        refine ACallK_of (f73_ok _ 1 (by omega)) ?_
        simp -dsimp
        have hq := rsS_size (unS t) 1
        refine ACallK_of (f74_ok _ (by omega)) ?_
        generalize rdDlM (rsS (rs (unS t) 1)) = D at *
        obtain ⟨d, k⟩ := D
        generalize rsN (rs (unS t) 1) = n at *
        simp only at hR
        cases hi : (rs (unS t) 1).isSome
        · rw [hi] at hR
          simp -dsimp
          simp [hR, GUnit.empty, zeroAct, zeroDelta]
        · rw [hi] at hR
          cases k
          · simp -dsimp
            simp [hR, GUnit.empty, zeroAct, zeroDelta]
          · by_cases hn : n = (unS t).size
            · have hn2 : (n == ((unS t).size : Int)) = true := by simp [hn]
              simp -dsimp [hn2]
              simp [hR, hn, zeroAct]
            · have hn2 : (n == ((unS t).size : Int)) = false := by simp [hn]
              simp -dsimp [hn2]
              simp [hR, hn, GUnit.empty, zeroAct, zeroDelta]
      · rw [if_neg b1] at hR
        simp -dsimp [hx3, hx, b0, b1]
        simp [hR, GUnit.empty, zeroAct, zeroDelta]

@[simp] def h23 : Hts := { merge := fun _ => false }
set_option maxHeartbeats 4000000 in
theorem f23_ok (t : ByteArray) (ht : t.size ≤ 1073741824) : FnR Tryz.prog 23 [.v (.str t)] (.tup [.agg [.bool ((rdUnS t).1).batch, .int .i64 ((rdUnS t).1).act.dot.rep, .int .i64 ((rdUnS t).1).act.dot.seq, .int .i64 ((rdUnS t).1).act.time, .ow 3 1 ((rdUnS t).1).act.knew.length (flat ((rdUnS t).1).act.knew), .int .i64 ((rdUnS t).1).act.kind, .str ((rdUnS t).1).act.obj, .str ((rdUnS t).1).act.key, .int .i64 ((rdUnS t).1).act.val, .int .i64 ((rdUnS t).1).act.ref.rep, .int .i64 ((rdUnS t).1).act.ref.seq, .ow 3 1 ((rdUnS t).1).delta.base.length (flat ((rdUnS t).1).delta.base), .ow 3 1 ((rdUnS t).1).delta.know.length (flat ((rdUnS t).1).delta.know), .ow 146 3 ((rdUnS t).1).delta.tallies.length (flat ((rdUnS t).1).delta.tallies), .ow 148 6 ((rdUnS t).1).delta.lives.length (flat ((rdUnS t).1).delta.lives), .ow 38 2 ((rdUnS t).1).delta.dead.length (flat ((rdUnS t).1).delta.dead), .ow 150 8 ((rdUnS t).1).delta.cs.length (flat ((rdUnS t).1).delta.cs)], .v (.bool ((rdUnS t).2))]) := by
  have hu := unS_size t
  refine FnW.of_AW TryzT_ok 0 (fn := Tryz.f23) (by kernel_rfl) rfl (by kernel_rfl) rfl rfl rfl ?_
  refine AW_of h23 TryzT_ok (by kernel_rfl) ?_
  simp -dsimp
  refine ACallK_of (f67_ok _ ht) ?_
  cases ho : unOk t
  · have hR : rdUnS t = (GUnit.empty, false) := by simp [rdUnS, ho]
    simp -dsimp
    simp [hR, GUnit.empty, zeroAct, zeroDelta]
  rcases Nat.eq_zero_or_pos (unS t).size with hx | hx
  · have hx0 : unS t = ⟨#[]⟩ := ByteArray.size_eq_zero_iff.1 hx
    have hR : rdUnS t = (GUnit.empty, false) := by unfold rdUnS; rw [if_neg (by omega)]
    simp -dsimp [hx]
    simp [hR, GUnit.empty, zeroAct, zeroDelta]
  · have hx1 : ¬ (unS t).size = 0 := by omega
    have hR : rdUnS t = rdUnS t := rfl
    conv at hR => rhs; rw [rdUnS, if_pos (show unOk t = true ∧ 0 < (unS t).size from ⟨ho, hx⟩)]
    have hx4 : (1 : Int) ≤ (unS t).size := by omega
    by_cases b1 : bt (unS t) 0 = 1
    · rw [if_pos b1] at hR
      simp -dsimp [hx1, hx, b1]
      refine ACallK_of (f68_ok _ 1 (by omega)) ?_
      simp -dsimp
      have hq := rsS_size (unS t) 1
      refine ACallK_of (f69_ok _ (by omega)) ?_
      rw [rdDl_eq]
      have hoD := rdDlM_Ok (rsS (rs (unS t) 1))
      generalize rdDlM (rsS (rs (unS t) 1)) = D at *
      obtain ⟨d, k⟩ := D
      simp only at hR
      have hoU : (⟨true, zeroAct, d⟩ : GUnit).Ok := ⟨by simp [zeroAct, GAct.Ok]; decide, hoD⟩
      cases k
      · simp -dsimp
        refine ACallK_of (f7_ok _ hoU) ?_
        simp -dsimp
        simp [hR, GUnit.empty, zeroAct, zeroDelta]
      · cases hi : (rs (unS t) 1).isSome
        · rw [hi] at hR
          simp -dsimp
          refine ACallK_of (f7_ok _ hoU) ?_
          simp -dsimp
          simp [hR, GUnit.empty, zeroAct, zeroDelta]
        · rw [hi] at hR
          simp -dsimp
          refine ACallK_of (f7_ok _ hoU) ?_
          cases hg : unitTextOk ⟨true, zeroAct, d⟩
          · simp -dsimp [hg]
            simp [hR, bk, hg, GUnit.empty]
            simp [zeroAct, zeroDelta]
          · by_cases he : unitText ⟨true, zeroAct, d⟩ = t
            · simp -dsimp [hg, he]
              simp [hR, bk, hg, he]
              simp [zeroAct]
            · simp -dsimp [hg, he]
              simp [hR, bk, hg, he, GUnit.empty]
              simp [zeroAct, zeroDelta]
    · rw [if_neg b1] at hR
      simp -dsimp [hx1, hx, b1]
      refine ACallK_of (f70_ok _ 1 (by omega) (by omega) (by omega)) ?_
      have hoA := rdAct_Ok (unS t) 1
      generalize hA : rdAct (unS t) 1 = A at *
      obtain ⟨a, n, k⟩ := A
      simp only at hR
      have hoU : (⟨false, a, zeroDelta⟩ : GUnit).Ok := ⟨hoA, by simp [zeroDelta, GDelta.Ok]⟩
      simp -dsimp
      refine ACallK_of (f7_ok _ hoU) ?_
      cases k
      · simp -dsimp
        simp [hR, GUnit.empty, zeroAct, zeroDelta]
      · cases hg : unitTextOk ⟨false, a, zeroDelta⟩
        · simp -dsimp [hg]
          simp [hR, bk, hg, GUnit.empty]
          simp [zeroAct, zeroDelta]
        · by_cases he : unitText ⟨false, a, zeroDelta⟩ = t
          · simp -dsimp [hg, he]
            simp [hR, bk, hg, he]
            simp [zeroDelta]
          · simp -dsimp [hg, he]
            simp [hR, bk, hg, he, GUnit.empty]
            simp [zeroAct, zeroDelta]
end Am
