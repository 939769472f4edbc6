/- The law harness: marks, and whether they are still there. No condition. -/
import Derived.Test.YtkndgnnfgdfcbaaT
import Derived.Test.YtkndgnnfgdfcbaaK
namespace Am
open Go Go.Proofs
open Cel (cells)
set_option maxRecDepth 100000
set_option maxHeartbeats 4000000
set_option linter.unusedSimpArgs false
set_option linter.unusedVariables false


@[simp] def h108 : Hts := {  }
theorem f108_ok (k : Int) (h0 : 0 ≤ k) (hk : k ≤ 4611686018427387904) : FnR Try.prog 108 [.v (.int .i64 k)] (.v (.str (mtext k))) := by
  obtain ⟨n0, rfl⟩ := Int.eq_ofNat_of_zero_le h0
  refine FnW.of_AW TryT_ok 0 (fn := Try.f108) (by kernel_rfl) rfl (by kernel_rfl) rfl rfl rfl ?_
  refine AW_of h108 TryT_ok (by kernel_rfl) ?_
  simp -dsimp
  refine ⟨fun h => by subst h; rfl, fun h => ?_⟩
  have hkk : n0 < 10 ^ 20 := by have : (10 : Nat) ^ 20 = 100000000000000000000 := by decide
                                omega
  refine AWh_loop (fun s : Nat × ByteArray => ∃ j f, j + s.2.size = 20 ∧ j ≤ f ∧ s.1 < 10 ^ j ∧ s.1 ≤ n0 ∧ mgo f s.1 s.2 = mgo 20 n0 ⟨#[]⟩) (fun s => mkE [(0, .c (.int .i64 s.1)), (3, .c (.str s.2))] []) (fun s => s.1) (n0, ⟨#[]⟩) (Wk_to [0, 3] [] rfl rfl (by simp)) ⟨20, 20, rfl, Nat.le_refl _, hkk, Nat.le_refl _, rfl⟩ ?_
  rintro ⟨n, out⟩ ⟨j, f, hj, hjf, hn, hle, hm⟩
  simp only at hj hn hm hle
  refine AW_of h108 TryT_ok (by kernel_rfl) ?_
  rcases Nat.eq_zero_or_pos n with hz | hz
  · subst hz
    have : mgo f 0 out = out := by cases f <;> simp [mgo]
    rw [this] at hm
    simp -dsimp
    rw [mtext, if_neg (by omega), Int.toNat_natCast, ← hm]
    refine ⟨?_, rfl⟩
    show 1 + out.size ≤ 1099511627776
    omega
  · obtain ⟨j, rfl⟩ : ∃ i, j = i + 1 := ⟨j - 1, by cases j with
      | zero => rw [Nat.pow_zero] at hn; omega
      | succ i => rfl⟩
    obtain ⟨f, rfl⟩ : ∃ i, f = i + 1 := ⟨f - 1, by omega⟩
    rw [mgo, if_neg (by omega)] at hm
    have hmod : ((n : Int).tmod 10) = ((n % 10 : Nat) : Int) := by rw [Int.tmod_eq_emod_of_nonneg (by omega)]; rfl
    have hdiv : ((n : Int).tdiv 10) = ((n / 10 : Nat) : Int) := by rw [Int.tdiv_eq_ediv_of_nonneg (by omega)]; rfl
    have hq : n / 10 < 10 ^ j := by rw [Nat.pow_succ] at hn; omega
    clear hn hkk
    have e1 : IntKind.i64.wrap (48 + ↑n % 10) = 48 + ↑n % 10 := wrap64 (by omega) (by omega)
    have e2 : IntKind.u8.wrap (48 + ↑n % 10) = ((48 + n % 10 : Nat) : Int) := by
      simp only [IntKind.wrap, IntKind.bits, IntKind.signed]
      simp
      omega
    have e3 : IntKind.i64.wrap (n / 10) = n / 10 := wrap64 (by omega) (by omega)
    simp -dsimp only [hz, hmod, hdiv]
    simp -dsimp [hz, hmod, hdiv, e1, e2, e3, allBytes, bytesOf]
    have et : (48 + (n : Int) % 10).toNat = 48 + n % 10 := by omega
    rw [et]
    refine ⟨by omega, by show 1 + out.size ≤ 1099511627776; omega, ?_⟩
    refine Back_of (n / 10, ⟨#[UInt8.ofNat (48 + n % 10)]⟩ ++ out) [0, 3] [] rfl rfl (by simp -dsimp) ⟨j, f, ?_, by omega, hq, by simp only; omega, hm⟩ (by simp only; omega)
    simp only [ByteArray.size_append]
    show j + (1 + out.size) = 20
    omega

@[simp] def h52 : Hts := {  }
theorem f52_ok (xs : List Int) (k : Int) (hl : xs.length ≤ 1073741824) (h0 : 0 ≤ k) (hB : (mkS mkInt xs k).2 ≤ 4611686018427387904) : FnW Try.prog 52 [.v (.ow 3 1 xs.length (flat xs)), .v (.int .i64 k)] (.v (.int .i64 (mkS mkInt xs k).2)) [.v (.ow 3 1 xs.length (flat (mkS mkInt xs k).1)), .any] := by
  refine FnW.of_AW TryT_ok 1 (fn := Try.f52) (by kernel_rfl) rfl (by kernel_rfl) rfl rfl rfl ?_
  refine AW_of h52 TryT_ok (by kernel_rfl) ?_
  simp -dsimp
  refine AWh_mark mkInt mkInt_le xs k h0 (fun ys m i => mkE [(0, .arr 640000), (1, .c (.int .i64 m)), (5, .c (.int .i64 i))] [(640000, .arr 0 3 1 xs.length (flat ys))]) (Wk_to [0, 1, 5] [(640000, 640000)] rfl rfl (by simp)) ?_ ?_
  · intro i ys m h1 hy hn hm hs
    refine AW_of h52 TryT_ok (by kernel_rfl) ?_
    have h1' : i < ys.length := by omega
    simp only [mkInt] at hs
    have wi : IntKind.i64.wrap ((i : Int) + 1) = i + 1 := wrap64 (by omega) (by omega)
    have w0 : IntKind.i64.wrap (m + 1) = m + 1 := wrap64 (by omega) (by omega)
    simp -dsimp [h1, h1', hy, hn, wi, w0]
    repeat' (first
      | (refine And.intro (by first | omega | trivial) ?_))
    refine Wk_to [0, 1, 5] [(640000, 640000)] rfl rfl ?_
    simp -dsimp [mkInt, mbool, wi, w0]
  · refine AW_of h52 TryT_ok (by kernel_rfl) ?_
    simp -dsimp

@[simp] def h56 : Hts := {  }
theorem f56_ok (xs : List Int) (k : Int) (hl : xs.length ≤ 1073741824) (h0 : 0 ≤ k) (hB : (mkS mkInt xs k).2 ≤ 4611686018427387904) : FnR Try.prog 56 [.v (.im xs.length (flat (mkS mkInt xs k).1)), .v (.int .i64 k)] (.v (.int .i64 (mkS mkInt xs k).2)) := by
  refine FnW.of_AW TryT_ok 0 (fn := Try.f56) (by kernel_rfl) rfl (by kernel_rfl) rfl rfl rfl ?_
  refine AW_of h56 TryT_ok (by kernel_rfl) ?_
  simp -dsimp
  have hzl : (mkS mkInt xs k).1.length = xs.length := mkS_len xs k
  refine AWh_held mkInt mkInt_le xs k h0 (fun m i => mkE [(0, .c (.im xs.length (flat (mkS mkInt xs k).1))), (1, .c (.int .i64 m)), (5, .c (.int .i64 i))] []) (Wk_to [0, 1, 5] [] rfl rfl (by simp)) ?_ ?_
  · intro i m h1 hn hm hs
    refine AW_of h56 TryT_ok (by kernel_rfl) ?_
    generalize (mkS mkInt xs k).1 = zs at hzl hn
    have h1' : i < zs.length := by omega
    simp only [mkInt, mbool] at hs hn
    have wi : IntKind.i64.wrap ((i : Int) + 1) = i + 1 := wrap64 (by omega) (by omega)
    have w0 : IntKind.i64.wrap (m + 1) = m + 1 := wrap64 (by omega) (by omega)
    simp -dsimp [h1, h1', hzl, hn, ne_of_lt h1', wi, w0]
    repeat' (first
      | (refine And.intro (by first | omega | trivial) ?_)
      | (intro hneg; exfalso; omega)
      | (refine And.intro (fun hneg => by exfalso; omega) (fun _ => ?_))
      | (intro hpos; clear hpos))
    refine Wk_to [0, 1, 5] [] rfl rfl ?_
    simp -dsimp [mkInt, mbool, wi, w0]
  · refine AW_of h56 TryT_ok (by kernel_rfl) ?_
    simp -dsimp

@[simp] def h13 : Hts := {  }
theorem f13_ok (xs : List GDot) (k : Int) (hl : xs.length ≤ 1073741824) (h0 : 0 ≤ k) (hB : (mkS GDot.mar xs k).2 ≤ 4611686018427387904) : FnW Try.prog 13 [.v (.ow 38 2 xs.length (flat xs)), .v (.int .i64 k)] (.v (.int .i64 (mkS GDot.mar xs k).2)) [.v (.ow 38 2 xs.length (flat (mkS GDot.mar xs k).1)), .any] := by
  refine FnW.of_AW TryT_ok 1 (fn := Try.f13) (by kernel_rfl) rfl (by kernel_rfl) rfl rfl rfl ?_
  refine AW_of h13 TryT_ok (by kernel_rfl) ?_
  simp -dsimp
  refine AWh_mark GDot.mar GDot.mar_le xs k h0 (fun ys m i => mkE [(0, .arr 640000), (1, .c (.int .i64 m)), (5, .c (.int .i64 i))] [(640000, .arr 0 38 2 xs.length (flat ys))]) (Wk_to [0, 1, 5] [(640000, 640000)] rfl rfl (by simp)) ?_ ?_
  · intro i ys m h1 hy hn hm hs
    refine AW_of h13 TryT_ok (by kernel_rfl) ?_
    have h1' : i < ys.length := by omega
    simp only [GDot.mar] at hs
    have wi : IntKind.i64.wrap ((i : Int) + 1) = i + 1 := wrap64 (by omega) (by omega)
    have w0 : IntKind.i64.wrap (m + 1) = m + 1 := wrap64 (by omega) (by omega)
    have w1 : IntKind.i64.wrap (m + 1 + 1) = m + 1 + 1 := wrap64 (by omega) (by omega)
    simp -dsimp [h1, h1', hy, hn, wi, w0, w1]
    repeat' (first
      | (refine And.intro (by first | omega | trivial) ?_))
    refine Wk_to [0, 1, 5] [(640000, 640000)] rfl rfl ?_
    simp -dsimp [GDot.mar, mbool, wi, w0, w1]
  · refine AW_of h13 TryT_ok (by kernel_rfl) ?_
    simp -dsimp

@[simp] def h14 : Hts := {  }
theorem f14_ok (xs : List GDot) (k : Int) (hl : xs.length ≤ 1073741824) (h0 : 0 ≤ k) (hB : (mkS GDot.mar xs k).2 ≤ 4611686018427387904) : FnR Try.prog 14 [.v (.im xs.length (flat (mkS GDot.mar xs k).1)), .v (.int .i64 k)] (.v (.int .i64 (mkS GDot.mar xs k).2)) := by
  refine FnW.of_AW TryT_ok 0 (fn := Try.f14) (by kernel_rfl) rfl (by kernel_rfl) rfl rfl rfl ?_
  refine AW_of h14 TryT_ok (by kernel_rfl) ?_
  simp -dsimp
  have hzl : (mkS GDot.mar xs k).1.length = xs.length := mkS_len xs k
  refine AWh_held GDot.mar GDot.mar_le xs k h0 (fun m i => mkE [(0, .c (.im xs.length (flat (mkS GDot.mar xs k).1))), (1, .c (.int .i64 m)), (5, .c (.int .i64 i))] []) (Wk_to [0, 1, 5] [] rfl rfl (by simp)) ?_ ?_
  · intro i m h1 hn hm hs
    refine AW_of h14 TryT_ok (by kernel_rfl) ?_
    generalize (mkS GDot.mar xs k).1 = zs at hzl hn
    have h1' : i < zs.length := by omega
    simp only [GDot.mar, mbool] at hs hn
    have wi : IntKind.i64.wrap ((i : Int) + 1) = i + 1 := wrap64 (by omega) (by omega)
    have w0 : IntKind.i64.wrap (m + 1) = m + 1 := wrap64 (by omega) (by omega)
    have w1 : IntKind.i64.wrap (m + 1 + 1) = m + 1 + 1 := wrap64 (by omega) (by omega)
    simp -dsimp [h1, h1', hzl, hn, ne_of_lt h1', wi, w0, w1]
    repeat' (first
      | (refine And.intro (by first | omega | trivial) ?_)
      | (intro hneg; exfalso; omega)
      | (refine And.intro (fun hneg => by exfalso; omega) (fun _ => ?_))
      | (intro hpos; clear hpos))
    refine Wk_to [0, 1, 5] [] rfl rfl ?_
    simp -dsimp [GDot.mar, mbool, wi, w0, w1]
  · refine AW_of h14 TryT_ok (by kernel_rfl) ?_
    simp -dsimp

@[simp] def h53 : Hts := {  }
theorem f53_ok (xs : List GTally) (k : Int) (hl : xs.length ≤ 1073741824) (h0 : 0 ≤ k) (hB : (mkS GTally.mar xs k).2 ≤ 4611686018427387904) : FnW Try.prog 53 [.v (.ow 117 3 xs.length (flat xs)), .v (.int .i64 k)] (.v (.int .i64 (mkS GTally.mar xs k).2)) [.v (.ow 117 3 xs.length (flat (mkS GTally.mar xs k).1)), .any] := by
  refine FnW.of_AW TryT_ok 1 (fn := Try.f53) (by kernel_rfl) rfl (by kernel_rfl) rfl rfl rfl ?_
  refine AW_of h53 TryT_ok (by kernel_rfl) ?_
  simp -dsimp
  refine AWh_mark GTally.mar GTally.mar_le xs k h0 (fun ys m i => mkE [(0, .arr 640000), (1, .c (.int .i64 m)), (5, .c (.int .i64 i))] [(640000, .arr 0 117 3 xs.length (flat ys))]) (Wk_to [0, 1, 5] [(640000, 640000)] rfl rfl (by simp)) ?_ ?_
  · intro i ys m h1 hy hn hm hs
    refine AW_of h53 TryT_ok (by kernel_rfl) ?_
    have h1' : i < ys.length := by omega
    simp only [GTally.mar] at hs
    have wi : IntKind.i64.wrap ((i : Int) + 1) = i + 1 := wrap64 (by omega) (by omega)
    have w0 : IntKind.i64.wrap (m + 1) = m + 1 := wrap64 (by omega) (by omega)
    have w1 : IntKind.i64.wrap (m + 1 + 1) = m + 1 + 1 := wrap64 (by omega) (by omega)
    have w2 : IntKind.i64.wrap (m + 1 + 1 + 1) = m + 1 + 1 + 1 := wrap64 (by omega) (by omega)
    simp -dsimp [h1, h1', hy, hn, wi, w0, w1, w2]
    repeat' (first
      | (refine ACallK_of (f108_ok _ (by omega) (by omega)) ?_; simp -dsimp [h1, h1', hy, hn, wi, w0, w1, w2])
      | (refine And.intro (by first | omega | trivial) ?_))
    refine Wk_to [0, 1, 5] [(640000, 640000)] rfl rfl ?_
    simp -dsimp [GTally.mar, mbool, wi, w0, w1, w2]
  · refine AW_of h53 TryT_ok (by kernel_rfl) ?_
    simp -dsimp

@[simp] def h57 : Hts := { dr := fun id => if id = 4 then [{ mb := [18] }, { mb := [18] }, { mb := [18] }, { mb := [18] }, { mb := [18] }, {}, { cr := true }, {}] else [] }
theorem f57_ok (xs : List GTally) (k : Int) (hl : xs.length ≤ 1073741824) (h0 : 0 ≤ k) (hB : (mkS GTally.mar xs k).2 ≤ 4611686018427387904) : FnR Try.prog 57 [.v (.im xs.length (flat (mkS GTally.mar xs k).1)), .v (.int .i64 k)] (.v (.int .i64 (mkS GTally.mar xs k).2)) := by
  refine FnW.of_AW TryT_ok 0 (fn := Try.f57) (by kernel_rfl) rfl (by kernel_rfl) rfl rfl rfl ?_
  refine AW_of h57 TryT_ok (by kernel_rfl) ?_
  simp -dsimp
  have hzl : (mkS GTally.mar xs k).1.length = xs.length := mkS_len xs k
  refine AWh_held GTally.mar GTally.mar_le xs k h0 (fun m i => mkE [(0, .c (.im xs.length (flat (mkS GTally.mar xs k).1))), (1, .c (.int .i64 m)), (5, .c (.int .i64 i))] []) (Wk_to [0, 1, 5] [] rfl rfl (by simp)) ?_ ?_
  · intro i m h1 hn hm hs
    refine AW_of h57 TryT_ok (by kernel_rfl) ?_
    generalize (mkS GTally.mar xs k).1 = zs at hzl hn
    have h1' : i < zs.length := by omega
    simp only [GTally.mar, mbool] at hs hn
    have wi : IntKind.i64.wrap ((i : Int) + 1) = i + 1 := wrap64 (by omega) (by omega)
    have w0 : IntKind.i64.wrap (m + 1) = m + 1 := wrap64 (by omega) (by omega)
    have w1 : IntKind.i64.wrap (m + 1 + 1) = m + 1 + 1 := wrap64 (by omega) (by omega)
    have w2 : IntKind.i64.wrap (m + 1 + 1 + 1) = m + 1 + 1 + 1 := wrap64 (by omega) (by omega)
    simp -dsimp [h1, h1', hzl, hn, ne_of_lt h1', wi, w0, w1, w2]
    repeat' (first
      | (refine ACallK_of (f108_ok _ (by omega) (by omega)) ?_; simp -dsimp [h1, h1', hzl, hn, ne_of_lt h1', wi, w0, w1, w2])
      | (refine And.intro (by first | omega | trivial) ?_)
      | (intro hneg; exfalso; omega)
      | (refine And.intro (fun hneg => by exfalso; omega) (fun _ => ?_))
      | (intro hpos; clear hpos))
    refine Wk_to [0, 1, 5] [] rfl rfl ?_
    simp -dsimp [GTally.mar, mbool, wi, w0, w1, w2]
  · refine AW_of h57 TryT_ok (by kernel_rfl) ?_
    simp -dsimp

@[simp] def h54 : Hts := {  }
theorem f54_ok (xs : List GLive) (k : Int) (hl : xs.length ≤ 1073741824) (h0 : 0 ≤ k) (hB : (mkS GLive.mar xs k).2 ≤ 4611686018427387904) : FnW Try.prog 54 [.v (.ow 120 6 xs.length (flat xs)), .v (.int .i64 k)] (.v (.int .i64 (mkS GLive.mar xs k).2)) [.v (.ow 120 6 xs.length (flat (mkS GLive.mar xs k).1)), .any] := by
  refine FnW.of_AW TryT_ok 1 (fn := Try.f54) (by kernel_rfl) rfl (by kernel_rfl) rfl rfl rfl ?_
  refine AW_of h54 TryT_ok (by kernel_rfl) ?_
  simp -dsimp
  refine AWh_mark GLive.mar GLive.mar_le xs k h0 (fun ys m i => mkE [(0, .arr 640000), (1, .c (.int .i64 m)), (5, .c (.int .i64 i))] [(640000, .arr 0 120 6 xs.length (flat ys))]) (Wk_to [0, 1, 5] [(640000, 640000)] rfl rfl (by simp)) ?_ ?_
  · intro i ys m h1 hy hn hm hs
    refine AW_of h54 TryT_ok (by kernel_rfl) ?_
    have h1' : i < ys.length := by omega
    simp only [GLive.mar] at hs
    have wi : IntKind.i64.wrap ((i : Int) + 1) = i + 1 := wrap64 (by omega) (by omega)
    have w0 : IntKind.i64.wrap (m + 1) = m + 1 := wrap64 (by omega) (by omega)
    have w1 : IntKind.i64.wrap (m + 1 + 1) = m + 1 + 1 := wrap64 (by omega) (by omega)
    have w2 : IntKind.i64.wrap (m + 1 + 1 + 1) = m + 1 + 1 + 1 := wrap64 (by omega) (by omega)
    have w3 : IntKind.i64.wrap (m + 1 + 1 + 1 + 1) = m + 1 + 1 + 1 + 1 := wrap64 (by omega) (by omega)
    have w4 : IntKind.i64.wrap (m + 1 + 1 + 1 + 1 + 1) = m + 1 + 1 + 1 + 1 + 1 := wrap64 (by omega) (by omega)
    have w5 : IntKind.i64.wrap (m + 1 + 1 + 1 + 1 + 1 + 1) = m + 1 + 1 + 1 + 1 + 1 + 1 := wrap64 (by omega) (by omega)
    simp -dsimp [h1, h1', hy, hn, wi, w0, w1, w2, w3, w4, w5]
    repeat' (first
      | (refine ACallK_of (f108_ok _ (by omega) (by omega)) ?_; simp -dsimp [h1, h1', hy, hn, wi, w0, w1, w2, w3, w4, w5])
      | (refine And.intro (by first | omega | trivial) ?_))
    refine Wk_to [0, 1, 5] [(640000, 640000)] rfl rfl ?_
    simp -dsimp [GLive.mar, mbool, wi, w0, w1, w2, w3, w4, w5]
  · refine AW_of h54 TryT_ok (by kernel_rfl) ?_
    simp -dsimp

@[simp] def h58 : Hts := { dr := fun id => if id = 7 then [{ mb := [29] }, { mb := [29] }, { mb := [29] }, { mb := [29] }, { mb := [29] }, {}, { cr := true }, {}] else if id = 10 then [{ mb := [39] }, { mb := [39] }, { mb := [39] }, { mb := [39] }, { mb := [39] }, {}, { cr := true }, {}] else [] }
theorem f58_ok (xs : List GLive) (k : Int) (hl : xs.length ≤ 1073741824) (h0 : 0 ≤ k) (hB : (mkS GLive.mar xs k).2 ≤ 4611686018427387904) : FnR Try.prog 58 [.v (.im xs.length (flat (mkS GLive.mar xs k).1)), .v (.int .i64 k)] (.v (.int .i64 (mkS GLive.mar xs k).2)) := by
  refine FnW.of_AW TryT_ok 0 (fn := Try.f58) (by kernel_rfl) rfl (by kernel_rfl) rfl rfl rfl ?_
  refine AW_of h58 TryT_ok (by kernel_rfl) ?_
  simp -dsimp
  have hzl : (mkS GLive.mar xs k).1.length = xs.length := mkS_len xs k
  refine AWh_held GLive.mar GLive.mar_le xs k h0 (fun m i => mkE [(0, .c (.im xs.length (flat (mkS GLive.mar xs k).1))), (1, .c (.int .i64 m)), (5, .c (.int .i64 i))] []) (Wk_to [0, 1, 5] [] rfl rfl (by simp)) ?_ ?_
  · intro i m h1 hn hm hs
    refine AW_of h58 TryT_ok (by kernel_rfl) ?_
    generalize (mkS GLive.mar xs k).1 = zs at hzl hn
    have h1' : i < zs.length := by omega
    simp only [GLive.mar, mbool] at hs hn
    have wi : IntKind.i64.wrap ((i : Int) + 1) = i + 1 := wrap64 (by omega) (by omega)
    have w0 : IntKind.i64.wrap (m + 1) = m + 1 := wrap64 (by omega) (by omega)
    have w1 : IntKind.i64.wrap (m + 1 + 1) = m + 1 + 1 := wrap64 (by omega) (by omega)
    have w2 : IntKind.i64.wrap (m + 1 + 1 + 1) = m + 1 + 1 + 1 := wrap64 (by omega) (by omega)
    have w3 : IntKind.i64.wrap (m + 1 + 1 + 1 + 1) = m + 1 + 1 + 1 + 1 := wrap64 (by omega) (by omega)
    have w4 : IntKind.i64.wrap (m + 1 + 1 + 1 + 1 + 1) = m + 1 + 1 + 1 + 1 + 1 := wrap64 (by omega) (by omega)
    have w5 : IntKind.i64.wrap (m + 1 + 1 + 1 + 1 + 1 + 1) = m + 1 + 1 + 1 + 1 + 1 + 1 := wrap64 (by omega) (by omega)
    simp -dsimp [h1, h1', hzl, hn, ne_of_lt h1', wi, w0, w1, w2, w3, w4, w5]
    repeat' (first
      | (refine ACallK_of (f108_ok _ (by omega) (by omega)) ?_; simp -dsimp [h1, h1', hzl, hn, ne_of_lt h1', wi, w0, w1, w2, w3, w4, w5])
      | (refine And.intro (by first | omega | trivial) ?_)
      | (intro hneg; exfalso; omega)
      | (refine And.intro (fun hneg => by exfalso; omega) (fun _ => ?_))
      | (intro hpos; clear hpos))
    refine Wk_to [0, 1, 5] [] rfl rfl ?_
    simp -dsimp [GLive.mar, mbool, wi, w0, w1, w2, w3, w4, w5]
  · refine AW_of h58 TryT_ok (by kernel_rfl) ?_
    simp -dsimp

@[simp] def h55 : Hts := {  }
theorem f55_ok (xs : List GCell) (k : Int) (hl : xs.length ≤ 1073741824) (h0 : 0 ≤ k) (hB : (mkS GCell.mar xs k).2 ≤ 4611686018427387904) : FnW Try.prog 55 [.v (.ow 122 8 xs.length (flat xs)), .v (.int .i64 k)] (.v (.int .i64 (mkS GCell.mar xs k).2)) [.v (.ow 122 8 xs.length (flat (mkS GCell.mar xs k).1)), .any] := by
  refine FnW.of_AW TryT_ok 1 (fn := Try.f55) (by kernel_rfl) rfl (by kernel_rfl) rfl rfl rfl ?_
  refine AW_of h55 TryT_ok (by kernel_rfl) ?_
  simp -dsimp
  refine AWh_mark GCell.mar GCell.mar_le xs k h0 (fun ys m i => mkE [(0, .arr 640000), (1, .c (.int .i64 m)), (5, .c (.int .i64 i))] [(640000, .arr 0 122 8 xs.length (flat ys))]) (Wk_to [0, 1, 5] [(640000, 640000)] rfl rfl (by simp)) ?_ ?_
  · intro i ys m h1 hy hn hm hs
    refine AW_of h55 TryT_ok (by kernel_rfl) ?_
    have h1' : i < ys.length := by omega
    simp only [GCell.mar] at hs
    have wi : IntKind.i64.wrap ((i : Int) + 1) = i + 1 := wrap64 (by omega) (by omega)
    have w0 : IntKind.i64.wrap (m + 1) = m + 1 := wrap64 (by omega) (by omega)
    have w1 : IntKind.i64.wrap (m + 1 + 1) = m + 1 + 1 := wrap64 (by omega) (by omega)
    have w2 : IntKind.i64.wrap (m + 1 + 1 + 1) = m + 1 + 1 + 1 := wrap64 (by omega) (by omega)
    have w3 : IntKind.i64.wrap (m + 1 + 1 + 1 + 1) = m + 1 + 1 + 1 + 1 := wrap64 (by omega) (by omega)
    have w4 : IntKind.i64.wrap (m + 1 + 1 + 1 + 1 + 1) = m + 1 + 1 + 1 + 1 + 1 := wrap64 (by omega) (by omega)
    have w5 : IntKind.i64.wrap (m + 1 + 1 + 1 + 1 + 1 + 1) = m + 1 + 1 + 1 + 1 + 1 + 1 := wrap64 (by omega) (by omega)
    have w6 : IntKind.i64.wrap (m + 1 + 1 + 1 + 1 + 1 + 1 + 1) = m + 1 + 1 + 1 + 1 + 1 + 1 + 1 := wrap64 (by omega) (by omega)
    have w7 : IntKind.i64.wrap (m + 1 + 1 + 1 + 1 + 1 + 1 + 1 + 1) = m + 1 + 1 + 1 + 1 + 1 + 1 + 1 + 1 := wrap64 (by omega) (by omega)
    simp -dsimp [h1, h1', hy, hn, wi, w0, w1, w2, w3, w4, w5, w6, w7]
    repeat' (first
      | (refine ACallK_of (f108_ok _ (by omega) (by omega)) ?_; simp -dsimp [h1, h1', hy, hn, wi, w0, w1, w2, w3, w4, w5, w6, w7])
      | (refine And.intro (by first | omega | trivial) ?_))
    refine Wk_to [0, 1, 5] [(640000, 640000)] rfl rfl ?_
    simp -dsimp [GCell.mar, mbool, wi, w0, w1, w2, w3, w4, w5, w6, w7]
  · refine AW_of h55 TryT_ok (by kernel_rfl) ?_
    simp -dsimp

@[simp] def h59 : Hts := { dr := fun id => if id = 4 then [{ mb := [18] }, { mb := [18] }, { mb := [18] }, { mb := [18] }, { mb := [18] }, {}, { cr := true }, {}] else [] }
theorem f59_ok (xs : List GCell) (k : Int) (hl : xs.length ≤ 1073741824) (h0 : 0 ≤ k) (hB : (mkS GCell.mar xs k).2 ≤ 4611686018427387904) : FnR Try.prog 59 [.v (.im xs.length (flat (mkS GCell.mar xs k).1)), .v (.int .i64 k)] (.v (.int .i64 (mkS GCell.mar xs k).2)) := by
  refine FnW.of_AW TryT_ok 0 (fn := Try.f59) (by kernel_rfl) rfl (by kernel_rfl) rfl rfl rfl ?_
  refine AW_of h59 TryT_ok (by kernel_rfl) ?_
  simp -dsimp
  have hzl : (mkS GCell.mar xs k).1.length = xs.length := mkS_len xs k
  refine AWh_held GCell.mar GCell.mar_le xs k h0 (fun m i => mkE [(0, .c (.im xs.length (flat (mkS GCell.mar xs k).1))), (1, .c (.int .i64 m)), (5, .c (.int .i64 i))] []) (Wk_to [0, 1, 5] [] rfl rfl (by simp)) ?_ ?_
  · intro i m h1 hn hm hs
    refine AW_of h59 TryT_ok (by kernel_rfl) ?_
    generalize (mkS GCell.mar xs k).1 = zs at hzl hn
    have h1' : i < zs.length := by omega
    simp only [GCell.mar, mbool] at hs hn
    have wi : IntKind.i64.wrap ((i : Int) + 1) = i + 1 := wrap64 (by omega) (by omega)
    have w0 : IntKind.i64.wrap (m + 1) = m + 1 := wrap64 (by omega) (by omega)
    have w1 : IntKind.i64.wrap (m + 1 + 1) = m + 1 + 1 := wrap64 (by omega) (by omega)
    have w2 : IntKind.i64.wrap (m + 1 + 1 + 1) = m + 1 + 1 + 1 := wrap64 (by omega) (by omega)
    have w3 : IntKind.i64.wrap (m + 1 + 1 + 1 + 1) = m + 1 + 1 + 1 + 1 := wrap64 (by omega) (by omega)
    have w4 : IntKind.i64.wrap (m + 1 + 1 + 1 + 1 + 1) = m + 1 + 1 + 1 + 1 + 1 := wrap64 (by omega) (by omega)
    have w5 : IntKind.i64.wrap (m + 1 + 1 + 1 + 1 + 1 + 1) = m + 1 + 1 + 1 + 1 + 1 + 1 := wrap64 (by omega) (by omega)
    have w6 : IntKind.i64.wrap (m + 1 + 1 + 1 + 1 + 1 + 1 + 1) = m + 1 + 1 + 1 + 1 + 1 + 1 + 1 := wrap64 (by omega) (by omega)
    have w7 : IntKind.i64.wrap (m + 1 + 1 + 1 + 1 + 1 + 1 + 1 + 1) = m + 1 + 1 + 1 + 1 + 1 + 1 + 1 + 1 := wrap64 (by omega) (by omega)
    simp -dsimp [h1, h1', hzl, hn, ne_of_lt h1', wi, w0, w1, w2, w3, w4, w5, w6, w7]
    repeat' (first
      | (refine ACallK_of (f108_ok _ (by omega) (by omega)) ?_; simp -dsimp [h1, h1', hzl, hn, ne_of_lt h1', wi, w0, w1, w2, w3, w4, w5, w6, w7])
      | (refine And.intro (by first | omega | trivial) ?_)
      | (intro hneg; exfalso; omega)
      | (refine And.intro (fun hneg => by exfalso; omega) (fun _ => ?_))
      | (intro hpos; clear hpos))
    refine Wk_to [0, 1, 5] [] rfl rfl ?_
    simp -dsimp [GCell.mar, mbool, wi, w0, w1, w2, w3, w4, w5, w6, w7]
  · refine AW_of h59 TryT_ok (by kernel_rfl) ?_
    simp -dsimp

@[simp] def h35 : Hts := { lend := fun f => if f = 52 then [.lend] else [] }
theorem f35_ok (x : GAct) (k : Int) (h : x.Ok) (h0 : 0 ≤ k) (hB : (x.mt k).2 ≤ 4611686018427387904) : FnW Try.prog 35 [.agg [.int .i64 x.dot.rep, .int .i64 x.dot.seq, .int .i64 x.time, .ow 3 1 x.knew.length (flat x.knew), .int .i64 x.kind, .str x.obj, .str x.key, .int .i64 x.val, .int .i64 x.ref.rep, .int .i64 x.ref.seq], .v (.int .i64 k)] (.v (.int .i64 (x.mt k).2)) [.agg [.any, .any, .any, .ow 3 1 (x.mt k).1.knew.length (flat (x.mt k).1.knew), .any, .any, .any, .any, .any, .any], .any] := by
  simp only [GAct.Ok] at h
  obtain ⟨o0, o1, o2⟩ := h
  simp only [GAct.mt] at hB ⊢
  have q0 := mkS_le mkInt_le x.knew (k) (by omega)
  refine FnW.of_AW TryT_ok 1 (fn := Try.f35) (by kernel_rfl) rfl (by kernel_rfl) rfl rfl rfl ?_
  refine AW_of h35 TryT_ok (by kernel_rfl) ?_
  simp -dsimp
  repeat' (first
    | (refine ACallW_args (by intro us; simp -dsimp; exact ⟨rfl, rfl, rfl⟩) ?_; refine ACallC_of (fun us => f52_ok _ _ (by assumption) (by omega) (by omega)) (by intro us; simp -dsimp; exact ⟨rfl, rfl⟩) ?_; simp -dsimp)
    | (refine And.intro (by first | omega | trivial) ?_))

@[simp] def h18 : Hts := { lend := fun f => if f = 52 then [.lend] else if f = 53 then [.lend] else if f = 54 then [.lend] else if f = 55 then [.lend] else [] }
theorem f18_ok (x : GState) (k : Int) (h : x.Ok) (h0 : 0 ≤ k) (hB : (x.mt k).2 ≤ 4611686018427387904) : FnW Try.prog 18 [.agg [.ow 3 1 x.know.length (flat x.know), .ow 117 3 x.tallies.length (flat x.tallies), .ow 120 6 x.lives.length (flat x.lives), .ow 122 8 x.cs.length (flat x.cs)], .v (.int .i64 k)] (.v (.int .i64 (x.mt k).2)) [.agg [.ow 3 1 (x.mt k).1.know.length (flat (x.mt k).1.know), .ow 117 3 (x.mt k).1.tallies.length (flat (x.mt k).1.tallies), .ow 120 6 (x.mt k).1.lives.length (flat (x.mt k).1.lives), .ow 122 8 (x.mt k).1.cs.length (flat (x.mt k).1.cs)], .any] := by
  simp only [GState.Ok] at h
  obtain ⟨o0, o1, o2, o3, o4, o5, o6⟩ := h
  simp only [GState.mt] at hB ⊢
  have q0 := mkS_le mkInt_le x.know (k) (by omega)
  have q1 := mkS_le GTally.mar_le x.tallies ((mkS mkInt x.know (k)).2) (by omega)
  have q2 := mkS_le GLive.mar_le x.lives ((mkS GTally.mar x.tallies ((mkS mkInt x.know (k)).2)).2) (by omega)
  have q3 := mkS_le GCell.mar_le x.cs ((mkS GLive.mar x.lives ((mkS GTally.mar x.tallies ((mkS mkInt x.know (k)).2)).2)).2) (by omega)
  refine FnW.of_AW TryT_ok 1 (fn := Try.f18) (by kernel_rfl) rfl (by kernel_rfl) rfl rfl rfl ?_
  refine AW_of h18 TryT_ok (by kernel_rfl) ?_
  simp -dsimp
  repeat' (first
    | (refine ACallW_args (by intro us; simp -dsimp; exact ⟨rfl, rfl, rfl⟩) ?_; refine ACallC_of (fun us => f52_ok _ _ (by assumption) (by omega) (by omega)) (by intro us; simp -dsimp; exact ⟨rfl, rfl⟩) ?_; simp -dsimp)
    | (refine ACallW_args (by intro us; simp -dsimp; exact ⟨rfl, rfl, rfl⟩) ?_; refine ACallC_of (fun us => f53_ok _ _ (by assumption) (by omega) (by omega)) (by intro us; simp -dsimp; exact ⟨rfl, rfl⟩) ?_; simp -dsimp)
    | (refine ACallW_args (by intro us; simp -dsimp; exact ⟨rfl, rfl, rfl⟩) ?_; refine ACallC_of (fun us => f54_ok _ _ (by assumption) (by omega) (by omega)) (by intro us; simp -dsimp; exact ⟨rfl, rfl⟩) ?_; simp -dsimp)
    | (refine ACallW_args (by intro us; simp -dsimp; exact ⟨rfl, rfl, rfl⟩) ?_; refine ACallC_of (fun us => f55_ok _ _ (by assumption) (by omega) (by omega)) (by intro us; simp -dsimp; exact ⟨rfl, rfl⟩) ?_; simp -dsimp)
    | (refine And.intro (by first | omega | trivial) ?_))

@[simp] def h19 : Hts := {  }
theorem f19_ok (x : GState) (k : Int) (h : x.Ok) (h0 : 0 ≤ k) (hB : (x.mt k).2 ≤ 4611686018427387904) : FnR Try.prog 19 [.agg [.im (x.mt k).1.know.length (flat (x.mt k).1.know), .im (x.mt k).1.tallies.length (flat (x.mt k).1.tallies), .im (x.mt k).1.lives.length (flat (x.mt k).1.lives), .im (x.mt k).1.cs.length (flat (x.mt k).1.cs)], .v (.int .i64 k)] (.v (.int .i64 (x.mt k).2)) := by
  simp only [GState.Ok] at h
  obtain ⟨o0, o1, o2, o3, o4, o5, o6⟩ := h
  simp only [GState.mt] at hB ⊢
  have q0 := mkS_le mkInt_le x.know (k) (by omega)
  have q1 := mkS_le GTally.mar_le x.tallies ((mkS mkInt x.know (k)).2) (by omega)
  have q2 := mkS_le GLive.mar_le x.lives ((mkS GTally.mar x.tallies ((mkS mkInt x.know (k)).2)).2) (by omega)
  have q3 := mkS_le GCell.mar_le x.cs ((mkS GLive.mar x.lives ((mkS GTally.mar x.tallies ((mkS mkInt x.know (k)).2)).2)).2) (by omega)
  refine FnW.of_AW TryT_ok 0 (fn := Try.f19) (by kernel_rfl) rfl (by kernel_rfl) rfl rfl rfl ?_
  refine AW_of h19 TryT_ok (by kernel_rfl) ?_
  simp -dsimp
  repeat' (first
    | (refine ACallK_of (f56_ok _ _ (by assumption) (by omega) (by omega)) ?_; simp -dsimp)
    | (refine ACallK_of (f57_ok _ _ (by assumption) (by omega) (by omega)) ?_; simp -dsimp)
    | (refine ACallK_of (f58_ok _ _ (by assumption) (by omega) (by omega)) ?_; simp -dsimp)
    | (refine ACallK_of (f59_ok _ _ (by assumption) (by omega) (by omega)) ?_; simp -dsimp)
    | (refine And.intro (fun hneg => by exfalso; omega) (fun _ => ?_))
    | (intro hneg; exfalso; omega)
    | (intro hpos; clear hpos))

@[simp] def h23 : Hts := { lend := fun f => if f = 13 then [.lend] else if f = 52 then [.lend] else if f = 53 then [.lend] else if f = 54 then [.lend] else if f = 55 then [.lend] else [] }
theorem f23_ok (x : GDelta) (k : Int) (h : x.Ok) (h0 : 0 ≤ k) (hB : (x.mt k).2 ≤ 4611686018427387904) : FnW Try.prog 23 [.agg [.ow 3 1 x.base.length (flat x.base), .ow 3 1 x.know.length (flat x.know), .ow 117 3 x.tallies.length (flat x.tallies), .ow 120 6 x.lives.length (flat x.lives), .ow 38 2 x.dead.length (flat x.dead), .ow 122 8 x.cs.length (flat x.cs)], .v (.int .i64 k)] (.v (.int .i64 (x.mt k).2)) [.agg [.ow 3 1 (x.mt k).1.base.length (flat (x.mt k).1.base), .ow 3 1 (x.mt k).1.know.length (flat (x.mt k).1.know), .ow 117 3 (x.mt k).1.tallies.length (flat (x.mt k).1.tallies), .ow 120 6 (x.mt k).1.lives.length (flat (x.mt k).1.lives), .ow 38 2 (x.mt k).1.dead.length (flat (x.mt k).1.dead), .ow 122 8 (x.mt k).1.cs.length (flat (x.mt k).1.cs)], .any] := by
  simp only [GDelta.Ok] at h
  obtain ⟨o0, o1, o2, o3, o4, o5, o6, o7, o8⟩ := h
  simp only [GDelta.mt] at hB ⊢
  have q0 := mkS_le mkInt_le x.base (k) (by omega)
  have q1 := mkS_le mkInt_le x.know ((mkS mkInt x.base (k)).2) (by omega)
  have q2 := mkS_le GTally.mar_le x.tallies ((mkS mkInt x.know ((mkS mkInt x.base (k)).2)).2) (by omega)
  have q3 := mkS_le GLive.mar_le x.lives ((mkS GTally.mar x.tallies ((mkS mkInt x.know ((mkS mkInt x.base (k)).2)).2)).2) (by omega)
  have q4 := mkS_le GDot.mar_le x.dead ((mkS GLive.mar x.lives ((mkS GTally.mar x.tallies ((mkS mkInt x.know ((mkS mkInt x.base (k)).2)).2)).2)).2) (by omega)
  have q5 := mkS_le GCell.mar_le x.cs ((mkS GDot.mar x.dead ((mkS GLive.mar x.lives ((mkS GTally.mar x.tallies ((mkS mkInt x.know ((mkS mkInt x.base (k)).2)).2)).2)).2)).2) (by omega)
  refine FnW.of_AW TryT_ok 1 (fn := Try.f23) (by kernel_rfl) rfl (by kernel_rfl) rfl rfl rfl ?_
  refine AW_of h23 TryT_ok (by kernel_rfl) ?_
  simp -dsimp
  repeat' (first
    | (refine ACallW_args (by intro us; simp -dsimp; exact ⟨rfl, rfl, rfl⟩) ?_; refine ACallC_of (fun us => f52_ok _ _ (by assumption) (by omega) (by omega)) (by intro us; simp -dsimp; exact ⟨rfl, rfl⟩) ?_; simp -dsimp)
    | (refine ACallW_args (by intro us; simp -dsimp; exact ⟨rfl, rfl, rfl⟩) ?_; refine ACallC_of (fun us => f53_ok _ _ (by assumption) (by omega) (by omega)) (by intro us; simp -dsimp; exact ⟨rfl, rfl⟩) ?_; simp -dsimp)
    | (refine ACallW_args (by intro us; simp -dsimp; exact ⟨rfl, rfl, rfl⟩) ?_; refine ACallC_of (fun us => f54_ok _ _ (by assumption) (by omega) (by omega)) (by intro us; simp -dsimp; exact ⟨rfl, rfl⟩) ?_; simp -dsimp)
    | (refine ACallW_args (by intro us; simp -dsimp; exact ⟨rfl, rfl, rfl⟩) ?_; refine ACallC_of (fun us => f13_ok _ _ (by assumption) (by omega) (by omega)) (by intro us; simp -dsimp; exact ⟨rfl, rfl⟩) ?_; simp -dsimp)
    | (refine ACallW_args (by intro us; simp -dsimp; exact ⟨rfl, rfl, rfl⟩) ?_; refine ACallC_of (fun us => f55_ok _ _ (by assumption) (by omega) (by omega)) (by intro us; simp -dsimp; exact ⟨rfl, rfl⟩) ?_; simp -dsimp)
    | (refine And.intro (by first | omega | trivial) ?_))

@[simp] def h24 : Hts := {  }
theorem f24_ok (x : GDelta) (k : Int) (h : x.Ok) (h0 : 0 ≤ k) (hB : (x.mt k).2 ≤ 4611686018427387904) : FnR Try.prog 24 [.agg [.im (x.mt k).1.base.length (flat (x.mt k).1.base), .im (x.mt k).1.know.length (flat (x.mt k).1.know), .im (x.mt k).1.tallies.length (flat (x.mt k).1.tallies), .im (x.mt k).1.lives.length (flat (x.mt k).1.lives), .im (x.mt k).1.dead.length (flat (x.mt k).1.dead), .im (x.mt k).1.cs.length (flat (x.mt k).1.cs)], .v (.int .i64 k)] (.v (.int .i64 (x.mt k).2)) := by
  simp only [GDelta.Ok] at h
  obtain ⟨o0, o1, o2, o3, o4, o5, o6, o7, o8⟩ := h
  simp only [GDelta.mt] at hB ⊢
  have q0 := mkS_le mkInt_le x.base (k) (by omega)
  have q1 := mkS_le mkInt_le x.know ((mkS mkInt x.base (k)).2) (by omega)
  have q2 := mkS_le GTally.mar_le x.tallies ((mkS mkInt x.know ((mkS mkInt x.base (k)).2)).2) (by omega)
  have q3 := mkS_le GLive.mar_le x.lives ((mkS GTally.mar x.tallies ((mkS mkInt x.know ((mkS mkInt x.base (k)).2)).2)).2) (by omega)
  have q4 := mkS_le GDot.mar_le x.dead ((mkS GLive.mar x.lives ((mkS GTally.mar x.tallies ((mkS mkInt x.know ((mkS mkInt x.base (k)).2)).2)).2)).2) (by omega)
  have q5 := mkS_le GCell.mar_le x.cs ((mkS GDot.mar x.dead ((mkS GLive.mar x.lives ((mkS GTally.mar x.tallies ((mkS mkInt x.know ((mkS mkInt x.base (k)).2)).2)).2)).2)).2) (by omega)
  refine FnW.of_AW TryT_ok 0 (fn := Try.f24) (by kernel_rfl) rfl (by kernel_rfl) rfl rfl rfl ?_
  refine AW_of h24 TryT_ok (by kernel_rfl) ?_
  simp -dsimp
  repeat' (first
    | (refine ACallK_of (f56_ok _ _ (by assumption) (by omega) (by omega)) ?_; simp -dsimp)
    | (refine ACallK_of (f57_ok _ _ (by assumption) (by omega) (by omega)) ?_; simp -dsimp)
    | (refine ACallK_of (f58_ok _ _ (by assumption) (by omega) (by omega)) ?_; simp -dsimp)
    | (refine ACallK_of (f14_ok _ _ (by assumption) (by omega) (by omega)) ?_; simp -dsimp)
    | (refine ACallK_of (f59_ok _ _ (by assumption) (by omega) (by omega)) ?_; simp -dsimp)
    | (refine And.intro (fun hneg => by exfalso; omega) (fun _ => ?_))
    | (intro hneg; exfalso; omega)
    | (intro hpos; clear hpos))

@[simp] def h12 : Hts := { lend := fun f => if f = 23 then [.lend] else if f = 35 then [.lend] else [] }
theorem f12_ok (x : GUnit) (k : Int) (h : x.Ok) (h0 : 0 ≤ k) (hB : (x.mt k).2 ≤ 4611686018427387904) : FnW Try.prog 12 [.agg [.bool x.batch, .int .i64 x.act.dot.rep, .int .i64 x.act.dot.seq, .int .i64 x.act.time, .ow 3 1 x.act.knew.length (flat x.act.knew), .int .i64 x.act.kind, .str x.act.obj, .str x.act.key, .int .i64 x.act.val, .int .i64 x.act.ref.rep, .int .i64 x.act.ref.seq, .ow 3 1 x.delta.base.length (flat x.delta.base), .ow 3 1 x.delta.know.length (flat x.delta.know), .ow 117 3 x.delta.tallies.length (flat x.delta.tallies), .ow 120 6 x.delta.lives.length (flat x.delta.lives), .ow 38 2 x.delta.dead.length (flat x.delta.dead), .ow 122 8 x.delta.cs.length (flat x.delta.cs)], .v (.int .i64 k)] (.v (.int .i64 (x.mt k).2)) [.agg [.any, .any, .any, .any, .ow 3 1 (x.mt k).1.act.knew.length (flat (x.mt k).1.act.knew), .any, .any, .any, .any, .any, .any, .ow 3 1 (x.mt k).1.delta.base.length (flat (x.mt k).1.delta.base), .ow 3 1 (x.mt k).1.delta.know.length (flat (x.mt k).1.delta.know), .ow 117 3 (x.mt k).1.delta.tallies.length (flat (x.mt k).1.delta.tallies), .ow 120 6 (x.mt k).1.delta.lives.length (flat (x.mt k).1.delta.lives), .ow 38 2 (x.mt k).1.delta.dead.length (flat (x.mt k).1.delta.dead), .ow 122 8 (x.mt k).1.delta.cs.length (flat (x.mt k).1.delta.cs)], .any] := by
  simp only [GUnit.Ok] at h
  obtain ⟨o0, o1⟩ := h
  simp only [GUnit.mt] at hB ⊢
  have q0 := x.act.mt_le (k) (by omega)
  have q1 := x.delta.mt_le ((x.act.mt (k)).2) (by omega)
  refine FnW.of_AW TryT_ok 1 (fn := Try.f12) (by kernel_rfl) rfl (by kernel_rfl) rfl rfl rfl ?_
  refine AW_of h12 TryT_ok (by kernel_rfl) ?_
  simp -dsimp
  repeat' (first
    | (refine ACallW_args (by intro us; simp -dsimp; exact ⟨rfl, rfl, rfl⟩) ?_; refine ACallC_of (fun us => f35_ok _ _ (by assumption) (by omega) (by omega)) (by intro us; simp -dsimp; exact ⟨rfl, rfl⟩) ?_; simp -dsimp)
    | (refine ACallW_args (by intro us; simp -dsimp; exact ⟨rfl, rfl, rfl⟩) ?_; refine ACallC_of (fun us => f23_ok _ _ (by assumption) (by omega) (by omega)) (by intro us; simp -dsimp; exact ⟨rfl, rfl⟩) ?_; simp -dsimp)
    | (refine And.intro (by first | omega | trivial) ?_))
end Am
