/- The law harness: marks, and whether they are still there. No condition. -/
import Derived.Test.YtpgnllakcjajjaaGreatT
import Derived.Test.YtpgnllakcjajjaaGreatK
namespace Am
open Go Go.Proofs
open Cel (cells)
set_option maxRecDepth 100000
set_option maxHeartbeats 4000000
set_option linter.unusedSimpArgs false
set_option linter.unusedVariables false


@[simp] def h91 : Hts := {  }
theorem f91_ok (k : Int) (h0 : 0 ≤ k) (hk : k ≤ 4611686018427387904) : FnR Tryz.prog 91 [.v (.int .i64 k)] (.v (.str (mtext k))) := by
  obtain ⟨n0, rfl⟩ := Int.eq_ofNat_of_zero_le h0
  refine FnW.of_AW TryzT_ok 0 (fn := Tryz.f91) (by kernel_rfl) rfl (by kernel_rfl) rfl rfl rfl ?_
  refine AW_of h91 TryzT_ok (by kernel_rfl) ?_
  simp -dsimp
  refine ⟨fun h => by subst h; rfl, fun h => ?_⟩
  have hkk : n0 < 10 ^ 20 := by have : (10 : Nat) ^ 20 = 100000000000000000000 := by decide
                                omega
  refine AWh_loop (fun s : Nat × ByteArray => ∃ j f, j + s.2.size = 20 ∧ j ≤ f ∧ s.1 < 10 ^ j ∧ s.1 ≤ n0 ∧ mgo f s.1 s.2 = mgo 20 n0 ⟨#[]⟩) (fun s => mkE [(0, .c (.int .i64 s.1)), (3, .c (.str s.2))] []) (fun s => s.1) (n0, ⟨#[]⟩) (Wk_to [0, 3] [] rfl rfl (by simp)) ⟨20, 20, rfl, Nat.le_refl _, hkk, Nat.le_refl _, rfl⟩ ?_
  rintro ⟨n, out⟩ ⟨j, f, hj, hjf, hn, hle, hm⟩
  simp only at hj hn hm hle
  refine AW_of h91 TryzT_ok (by kernel_rfl) ?_
  rcases Nat.eq_zero_or_pos n with hz | hz
  · subst hz
    have : mgo f 0 out = out := by cases f <;> simp [mgo]
    rw [this] at hm
    simp -dsimp
    rw [mtext, if_neg (by omega), Int.toNat_natCast, ← hm]
    refine ⟨?_, rfl⟩
    show 1 + out.size ≤ 1099511627776
    omega
  · obtain ⟨j, rfl⟩ : ∃ i, j = i + 1 := ⟨j - 1, by cases j with
      | zero => rw [Nat.pow_zero] at hn; omega
      | succ i => rfl⟩
    obtain ⟨f, rfl⟩ : ∃ i, f = i + 1 := ⟨f - 1, by omega⟩
    rw [mgo, if_neg (by omega)] at hm
    have hmod : ((n : Int).tmod 10) = ((n % 10 : Nat) : Int) := by rw [Int.tmod_eq_emod_of_nonneg (by omega)]; rfl
    have hdiv : ((n : Int).tdiv 10) = ((n / 10 : Nat) : Int) := by rw [Int.tdiv_eq_ediv_of_nonneg (by omega)]; rfl
    have hq : n / 10 < 10 ^ j := by rw [Nat.pow_succ] at hn; omega
    clear hn hkk
    have e1 : IntKind.i64.wrap (48 + ↑n % 10) = 48 + ↑n % 10 := wrap64 (by omega) (by omega)
    have e2 : IntKind.u8.wrap (48 + ↑n % 10) = ((48 + n % 10 : Nat) : Int) := by
      simp only [IntKind.wrap, IntKind.bits, IntKind.signed]
      simp
      omega
    have e3 : IntKind.i64.wrap (n / 10) = n / 10 := wrap64 (by omega) (by omega)
    simp -dsimp only [hz, hmod, hdiv]
    simp -dsimp [hz, hmod, hdiv, e1, e2, e3, allBytes, bytesOf]
    have et : (48 + (n : Int) % 10).toNat = 48 + n % 10 := by omega
    rw [et]
    refine ⟨by omega, by show 1 + out.size ≤ 1099511627776; omega, ?_⟩
    refine Back_of (n / 10, ⟨#[UInt8.ofNat (48 + n % 10)]⟩ ++ out) [0, 3] [] rfl rfl (by simp -dsimp) ⟨j, f, ?_, by omega, hq, by simp only; omega, hm⟩ (by simp only; omega)
    simp only [ByteArray.size_append]
    show j + (1 + out.size) = 20
    omega

@[simp] def h66 : Hts := {  }
theorem f66_ok (xs : List Int) (k : Int) (hl : xs.length ≤ 1073741824) (h0 : 0 ≤ k) (hB : (mkS mkInt xs k).2 ≤ 4611686018427387904) : FnW Tryz.prog 66 [.v (.ow 3 1 xs.length (flat xs)), .v (.int .i64 k)] (.v (.int .i64 (mkS mkInt xs k).2)) [.v (.ow 3 1 xs.length (flat (mkS mkInt xs k).1)), .any] := by
  refine FnW.of_AW TryzT_ok 1 (fn := Tryz.f66) (by kernel_rfl) rfl (by kernel_rfl) rfl rfl rfl ?_
  refine AW_of h66 TryzT_ok (by kernel_rfl) ?_
  simp -dsimp
  refine AWh_mark mkInt mkInt_le xs k h0 (fun ys m i => mkE [(0, .arr 640000), (1, .c (.int .i64 m)), (5, .c (.int .i64 i))] [(640000, .arr 0 3 1 xs.length (flat ys))]) (Wk_to [0, 1, 5] [(640000, 640000)] rfl rfl (by simp)) ?_ ?_
  · intro i ys m h1 hy hn hm hs
    refine AW_of h66 TryzT_ok (by kernel_rfl) ?_
    have h1' : i < ys.length := by omega
    simp only [mkInt] at hs
    have wi : IntKind.i64.wrap ((i : Int) + 1) = i + 1 := wrap64 (by omega) (by omega)
    have w0 : IntKind.i64.wrap (m + 1) = m + 1 := wrap64 (by omega) (by omega)
    simp -dsimp [h1, h1', hy, hn, wi, w0]
    repeat' (first
      | (refine And.intro (by first | omega | trivial) ?_))
    refine Wk_to [0, 1, 5] [(640000, 640000)] rfl rfl ?_
    simp -dsimp [mkInt, mbool, wi, w0]
  · refine AW_of h66 TryzT_ok (by kernel_rfl) ?_
    simp -dsimp

@[simp] def h70 : Hts := {  }
theorem f70_ok (xs : List Int) (k : Int) (hl : xs.length ≤ 1073741824) (h0 : 0 ≤ k) (hB : (mkS mkInt xs k).2 ≤ 4611686018427387904) : FnR Tryz.prog 70 [.v (.im xs.length (flat (mkS mkInt xs k).1)), .v (.int .i64 k)] (.v (.int .i64 (mkS mkInt xs k).2)) := by
  refine FnW.of_AW TryzT_ok 0 (fn := Tryz.f70) (by kernel_rfl) rfl (by kernel_rfl) rfl rfl rfl ?_
  refine AW_of h70 TryzT_ok (by kernel_rfl) ?_
  simp -dsimp
  have hzl : (mkS mkInt xs k).1.length = xs.length := mkS_len xs k
  refine AWh_held mkInt mkInt_le xs k h0 (fun m i => mkE [(0, .c (.im xs.length (flat (mkS mkInt xs k).1))), (1, .c (.int .i64 m)), (5, .c (.int .i64 i))] []) (Wk_to [0, 1, 5] [] rfl rfl (by simp)) ?_ ?_
  · intro i m h1 hn hm hs
    refine AW_of h70 TryzT_ok (by kernel_rfl) ?_
    generalize (mkS mkInt xs k).1 = zs at hzl hn
    have h1' : i < zs.length := by omega
    simp only [mkInt, mbool] at hs hn
    have wi : IntKind.i64.wrap ((i : Int) + 1) = i + 1 := wrap64 (by omega) (by omega)
    have w0 : IntKind.i64.wrap (m + 1) = m + 1 := wrap64 (by omega) (by omega)
    simp -dsimp [h1, h1', hzl, hn, ne_of_lt h1', wi, w0]
    repeat' (first
      | (refine And.intro (by first | omega | trivial) ?_)
      | (intro hneg; exfalso; omega)
      | (refine And.intro (fun hneg => by exfalso; omega) (fun _ => ?_))
      | (intro hpos; clear hpos))
    refine Wk_to [0, 1, 5] [] rfl rfl ?_
    simp -dsimp [mkInt, mbool, wi, w0]
  · refine AW_of h70 TryzT_ok (by kernel_rfl) ?_
    simp -dsimp

@[simp] def h96 : Hts := {  }
theorem f96_ok (xs : List GDot) (k : Int) (hl : xs.length ≤ 1073741824) (h0 : 0 ≤ k) (hB : (mkS GDot.mar xs k).2 ≤ 4611686018427387904) : FnW Tryz.prog 96 [.v (.ow 80 2 xs.length (flat xs)), .v (.int .i64 k)] (.v (.int .i64 (mkS GDot.mar xs k).2)) [.v (.ow 80 2 xs.length (flat (mkS GDot.mar xs k).1)), .any] := by
  refine FnW.of_AW TryzT_ok 1 (fn := Tryz.f96) (by kernel_rfl) rfl (by kernel_rfl) rfl rfl rfl ?_
  refine AW_of h96 TryzT_ok (by kernel_rfl) ?_
  simp -dsimp
  refine AWh_mark GDot.mar GDot.mar_le xs k h0 (fun ys m i => mkE [(0, .arr 640000), (1, .c (.int .i64 m)), (5, .c (.int .i64 i))] [(640000, .arr 0 80 2 xs.length (flat ys))]) (Wk_to [0, 1, 5] [(640000, 640000)] rfl rfl (by simp)) ?_ ?_
  · intro i ys m h1 hy hn hm hs
    refine AW_of h96 TryzT_ok (by kernel_rfl) ?_
    have h1' : i < ys.length := by omega
    simp only [GDot.mar] at hs
    have wi : IntKind.i64.wrap ((i : Int) + 1) = i + 1 := wrap64 (by omega) (by omega)
    have w0 : IntKind.i64.wrap (m + 1) = m + 1 := wrap64 (by omega) (by omega)
    have w1 : IntKind.i64.wrap (m + 1 + 1) = m + 1 + 1 := wrap64 (by omega) (by omega)
    simp -dsimp [h1, h1', hy, hn, wi, w0, w1]
    repeat' (first
      | (refine And.intro (by first | omega | trivial) ?_))
    refine Wk_to [0, 1, 5] [(640000, 640000)] rfl rfl ?_
    simp -dsimp [GDot.mar, mbool, wi, w0, w1]
  · refine AW_of h96 TryzT_ok (by kernel_rfl) ?_
    simp -dsimp

@[simp] def h97 : Hts := {  }
theorem f97_ok (xs : List GDot) (k : Int) (hl : xs.length ≤ 1073741824) (h0 : 0 ≤ k) (hB : (mkS GDot.mar xs k).2 ≤ 4611686018427387904) : FnR Tryz.prog 97 [.v (.im xs.length (flat (mkS GDot.mar xs k).1)), .v (.int .i64 k)] (.v (.int .i64 (mkS GDot.mar xs k).2)) := by
  refine FnW.of_AW TryzT_ok 0 (fn := Tryz.f97) (by kernel_rfl) rfl (by kernel_rfl) rfl rfl rfl ?_
  refine AW_of h97 TryzT_ok (by kernel_rfl) ?_
  simp -dsimp
  have hzl : (mkS GDot.mar xs k).1.length = xs.length := mkS_len xs k
  refine AWh_held GDot.mar GDot.mar_le xs k h0 (fun m i => mkE [(0, .c (.im xs.length (flat (mkS GDot.mar xs k).1))), (1, .c (.int .i64 m)), (5, .c (.int .i64 i))] []) (Wk_to [0, 1, 5] [] rfl rfl (by simp)) ?_ ?_
  · intro i m h1 hn hm hs
    refine AW_of h97 TryzT_ok (by kernel_rfl) ?_
    generalize (mkS GDot.mar xs k).1 = zs at hzl hn
    have h1' : i < zs.length := by omega
    simp only [GDot.mar, mbool] at hs hn
    have wi : IntKind.i64.wrap ((i : Int) + 1) = i + 1 := wrap64 (by omega) (by omega)
    have w0 : IntKind.i64.wrap (m + 1) = m + 1 := wrap64 (by omega) (by omega)
    have w1 : IntKind.i64.wrap (m + 1 + 1) = m + 1 + 1 := wrap64 (by omega) (by omega)
    simp -dsimp [h1, h1', hzl, hn, ne_of_lt h1', wi, w0, w1]
    repeat' (first
      | (refine And.intro (by first | omega | trivial) ?_)
      | (intro hneg; exfalso; omega)
      | (refine And.intro (fun hneg => by exfalso; omega) (fun _ => ?_))
      | (intro hpos; clear hpos))
    refine Wk_to [0, 1, 5] [] rfl rfl ?_
    simp -dsimp [GDot.mar, mbool, wi, w0, w1]
  · refine AW_of h97 TryzT_ok (by kernel_rfl) ?_
    simp -dsimp

@[simp] def h67 : Hts := {  }
theorem f67_ok (xs : List GTally) (k : Int) (hl : xs.length ≤ 1073741824) (h0 : 0 ≤ k) (hB : (mkS GTally.mar xs k).2 ≤ 4611686018427387904) : FnW Tryz.prog 67 [.v (.ow 118 3 xs.length (flat xs)), .v (.int .i64 k)] (.v (.int .i64 (mkS GTally.mar xs k).2)) [.v (.ow 118 3 xs.length (flat (mkS GTally.mar xs k).1)), .any] := by
  refine FnW.of_AW TryzT_ok 1 (fn := Tryz.f67) (by kernel_rfl) rfl (by kernel_rfl) rfl rfl rfl ?_
  refine AW_of h67 TryzT_ok (by kernel_rfl) ?_
  simp -dsimp
  refine AWh_mark GTally.mar GTally.mar_le xs k h0 (fun ys m i => mkE [(0, .arr 640000), (1, .c (.int .i64 m)), (5, .c (.int .i64 i))] [(640000, .arr 0 118 3 xs.length (flat ys))]) (Wk_to [0, 1, 5] [(640000, 640000)] rfl rfl (by simp)) ?_ ?_
  · intro i ys m h1 hy hn hm hs
    refine AW_of h67 TryzT_ok (by kernel_rfl) ?_
    have h1' : i < ys.length := by omega
    simp only [GTally.mar] at hs
    have wi : IntKind.i64.wrap ((i : Int) + 1) = i + 1 := wrap64 (by omega) (by omega)
    have w0 : IntKind.i64.wrap (m + 1) = m + 1 := wrap64 (by omega) (by omega)
    have w1 : IntKind.i64.wrap (m + 1 + 1) = m + 1 + 1 := wrap64 (by omega) (by omega)
    have w2 : IntKind.i64.wrap (m + 1 + 1 + 1) = m + 1 + 1 + 1 := wrap64 (by omega) (by omega)
    simp -dsimp [h1, h1', hy, hn, wi, w0, w1, w2]
    repeat' (first
      | (refine ACallK_of (f91_ok _ (by omega) (by omega)) ?_; simp -dsimp [h1, h1', hy, hn, wi, w0, w1, w2])
      | (refine And.intro (by first | omega | trivial) ?_))
    refine Wk_to [0, 1, 5] [(640000, 640000)] rfl rfl ?_
    simp -dsimp [GTally.mar, mbool, wi, w0, w1, w2]
  · refine AW_of h67 TryzT_ok (by kernel_rfl) ?_
    simp -dsimp

@[simp] def h71 : Hts := { dr := fun id => if id = 4 then [{ mb := [18] }, { mb := [18] }, { mb := [18] }, { mb := [18] }, { mb := [18] }, {}, { cr := true }, {}] else [] }
theorem f71_ok (xs : List GTally) (k : Int) (hl : xs.length ≤ 1073741824) (h0 : 0 ≤ k) (hB : (mkS GTally.mar xs k).2 ≤ 4611686018427387904) : FnR Tryz.prog 71 [.v (.im xs.length (flat (mkS GTally.mar xs k).1)), .v (.int .i64 k)] (.v (.int .i64 (mkS GTally.mar xs k).2)) := by
  refine FnW.of_AW TryzT_ok 0 (fn := Tryz.f71) (by kernel_rfl) rfl (by kernel_rfl) rfl rfl rfl ?_
  refine AW_of h71 TryzT_ok (by kernel_rfl) ?_
  simp -dsimp
  have hzl : (mkS GTally.mar xs k).1.length = xs.length := mkS_len xs k
  refine AWh_held GTally.mar GTally.mar_le xs k h0 (fun m i => mkE [(0, .c (.im xs.length (flat (mkS GTally.mar xs k).1))), (1, .c (.int .i64 m)), (5, .c (.int .i64 i))] []) (Wk_to [0, 1, 5] [] rfl rfl (by simp)) ?_ ?_
  · intro i m h1 hn hm hs
    refine AW_of h71 TryzT_ok (by kernel_rfl) ?_
    generalize (mkS GTally.mar xs k).1 = zs at hzl hn
    have h1' : i < zs.length := by omega
    simp only [GTally.mar, mbool] at hs hn
    have wi : IntKind.i64.wrap ((i : Int) + 1) = i + 1 := wrap64 (by omega) (by omega)
    have w0 : IntKind.i64.wrap (m + 1) = m + 1 := wrap64 (by omega) (by omega)
    have w1 : IntKind.i64.wrap (m + 1 + 1) = m + 1 + 1 := wrap64 (by omega) (by omega)
    have w2 : IntKind.i64.wrap (m + 1 + 1 + 1) = m + 1 + 1 + 1 := wrap64 (by omega) (by omega)
    simp -dsimp [h1, h1', hzl, hn, ne_of_lt h1', wi, w0, w1, w2]
    repeat' (first
      | (refine ACallK_of (f91_ok _ (by omega) (by omega)) ?_; simp -dsimp [h1, h1', hzl, hn, ne_of_lt h1', wi, w0, w1, w2])
      | (refine And.intro (by first | omega | trivial) ?_)
      | (intro hneg; exfalso; omega)
      | (refine And.intro (fun hneg => by exfalso; omega) (fun _ => ?_))
      | (intro hpos; clear hpos))
    refine Wk_to [0, 1, 5] [] rfl rfl ?_
    simp -dsimp [GTally.mar, mbool, wi, w0, w1, w2]
  · refine AW_of h71 TryzT_ok (by kernel_rfl) ?_
    simp -dsimp

@[simp] def h68 : Hts := {  }
theorem f68_ok (xs : List GLive) (k : Int) (hl : xs.length ≤ 1073741824) (h0 : 0 ≤ k) (hB : (mkS GLive.mar xs k).2 ≤ 4611686018427387904) : FnW Tryz.prog 68 [.v (.ow 82 6 xs.length (flat xs)), .v (.int .i64 k)] (.v (.int .i64 (mkS GLive.mar xs k).2)) [.v (.ow 82 6 xs.length (flat (mkS GLive.mar xs k).1)), .any] := by
  refine FnW.of_AW TryzT_ok 1 (fn := Tryz.f68) (by kernel_rfl) rfl (by kernel_rfl) rfl rfl rfl ?_
  refine AW_of h68 TryzT_ok (by kernel_rfl) ?_
  simp -dsimp
  refine AWh_mark GLive.mar GLive.mar_le xs k h0 (fun ys m i => mkE [(0, .arr 640000), (1, .c (.int .i64 m)), (5, .c (.int .i64 i))] [(640000, .arr 0 82 6 xs.length (flat ys))]) (Wk_to [0, 1, 5] [(640000, 640000)] rfl rfl (by simp)) ?_ ?_
  · intro i ys m h1 hy hn hm hs
    refine AW_of h68 TryzT_ok (by kernel_rfl) ?_
    have h1' : i < ys.length := by omega
    simp only [GLive.mar] at hs
    have wi : IntKind.i64.wrap ((i : Int) + 1) = i + 1 := wrap64 (by omega) (by omega)
    have w0 : IntKind.i64.wrap (m + 1) = m + 1 := wrap64 (by omega) (by omega)
    have w1 : IntKind.i64.wrap (m + 1 + 1) = m + 1 + 1 := wrap64 (by omega) (by omega)
    have w2 : IntKind.i64.wrap (m + 1 + 1 + 1) = m + 1 + 1 + 1 := wrap64 (by omega) (by omega)
    have w3 : IntKind.i64.wrap (m + 1 + 1 + 1 + 1) = m + 1 + 1 + 1 + 1 := wrap64 (by omega) (by omega)
    have w4 : IntKind.i64.wrap (m + 1 + 1 + 1 + 1 + 1) = m + 1 + 1 + 1 + 1 + 1 := wrap64 (by omega) (by omega)
    have w5 : IntKind.i64.wrap (m + 1 + 1 + 1 + 1 + 1 + 1) = m + 1 + 1 + 1 + 1 + 1 + 1 := wrap64 (by omega) (by omega)
    simp -dsimp [h1, h1', hy, hn, wi, w0, w1, w2, w3, w4, w5]
    repeat' (first
      | (refine ACallK_of (f91_ok _ (by omega) (by omega)) ?_; simp -dsimp [h1, h1', hy, hn, wi, w0, w1, w2, w3, w4, w5])
      | (refine And.intro (by first | omega | trivial) ?_))
    refine Wk_to [0, 1, 5] [(640000, 640000)] rfl rfl ?_
    simp -dsimp [GLive.mar, mbool, wi, w0, w1, w2, w3, w4, w5]
  · refine AW_of h68 TryzT_ok (by kernel_rfl) ?_
    simp -dsimp

@[simp] def h72 : Hts := { dr := fun id => if id = 7 then [{ mb := [29] }, { mb := [29] }, { mb := [29] }, { mb := [29] }, { mb := [29] }, {}, { cr := true }, {}] else if id = 10 then [{ mb := [39] }, { mb := [39] }, { mb := [39] }, { mb := [39] }, { mb := [39] }, {}, { cr := true }, {}] else [] }
theorem f72_ok (xs : List GLive) (k : Int) (hl : xs.length ≤ 1073741824) (h0 : 0 ≤ k) (hB : (mkS GLive.mar xs k).2 ≤ 4611686018427387904) : FnR Tryz.prog 72 [.v (.im xs.length (flat (mkS GLive.mar xs k).1)), .v (.int .i64 k)] (.v (.int .i64 (mkS GLive.mar xs k).2)) := by
  refine FnW.of_AW TryzT_ok 0 (fn := Tryz.f72) (by kernel_rfl) rfl (by kernel_rfl) rfl rfl rfl ?_
  refine AW_of h72 TryzT_ok (by kernel_rfl) ?_
  simp -dsimp
  have hzl : (mkS GLive.mar xs k).1.length = xs.length := mkS_len xs k
  refine AWh_held GLive.mar GLive.mar_le xs k h0 (fun m i => mkE [(0, .c (.im xs.length (flat (mkS GLive.mar xs k).1))), (1, .c (.int .i64 m)), (5, .c (.int .i64 i))] []) (Wk_to [0, 1, 5] [] rfl rfl (by simp)) ?_ ?_
  · intro i m h1 hn hm hs
    refine AW_of h72 TryzT_ok (by kernel_rfl) ?_
    generalize (mkS GLive.mar xs k).1 = zs at hzl hn
    have h1' : i < zs.length := by omega
    simp only [GLive.mar, mbool] at hs hn
    have wi : IntKind.i64.wrap ((i : Int) + 1) = i + 1 := wrap64 (by omega) (by omega)
    have w0 : IntKind.i64.wrap (m + 1) = m + 1 := wrap64 (by omega) (by omega)
    have w1 : IntKind.i64.wrap (m + 1 + 1) = m + 1 + 1 := wrap64 (by omega) (by omega)
    have w2 : IntKind.i64.wrap (m + 1 + 1 + 1) = m + 1 + 1 + 1 := wrap64 (by omega) (by omega)
    have w3 : IntKind.i64.wrap (m + 1 + 1 + 1 + 1) = m + 1 + 1 + 1 + 1 := wrap64 (by omega) (by omega)
    have w4 : IntKind.i64.wrap (m + 1 + 1 + 1 + 1 + 1) = m + 1 + 1 + 1 + 1 + 1 := wrap64 (by omega) (by omega)
    have w5 : IntKind.i64.wrap (m + 1 + 1 + 1 + 1 + 1 + 1) = m + 1 + 1 + 1 + 1 + 1 + 1 := wrap64 (by omega) (by omega)
    simp -dsimp [h1, h1', hzl, hn, ne_of_lt h1', wi, w0, w1, w2, w3, w4, w5]
    repeat' (first
      | (refine ACallK_of (f91_ok _ (by omega) (by omega)) ?_; simp -dsimp [h1, h1', hzl, hn, ne_of_lt h1', wi, w0, w1, w2, w3, w4, w5])
      | (refine And.intro (by first | omega | trivial) ?_)
      | (intro hneg; exfalso; omega)
      | (refine And.intro (fun hneg => by exfalso; omega) (fun _ => ?_))
      | (intro hpos; clear hpos))
    refine Wk_to [0, 1, 5] [] rfl rfl ?_
    simp -dsimp [GLive.mar, mbool, wi, w0, w1, w2, w3, w4, w5]
  · refine AW_of h72 TryzT_ok (by kernel_rfl) ?_
    simp -dsimp

@[simp] def h69 : Hts := {  }
theorem f69_ok (xs : List GCell) (k : Int) (hl : xs.length ≤ 1073741824) (h0 : 0 ≤ k) (hB : (mkS GCell.mar xs k).2 ≤ 4611686018427387904) : FnW Tryz.prog 69 [.v (.ow 121 8 xs.length (flat xs)), .v (.int .i64 k)] (.v (.int .i64 (mkS GCell.mar xs k).2)) [.v (.ow 121 8 xs.length (flat (mkS GCell.mar xs k).1)), .any] := by
  refine FnW.of_AW TryzT_ok 1 (fn := Tryz.f69) (by kernel_rfl) rfl (by kernel_rfl) rfl rfl rfl ?_
  refine AW_of h69 TryzT_ok (by kernel_rfl) ?_
  simp -dsimp
  refine AWh_mark GCell.mar GCell.mar_le xs k h0 (fun ys m i => mkE [(0, .arr 640000), (1, .c (.int .i64 m)), (5, .c (.int .i64 i))] [(640000, .arr 0 121 8 xs.length (flat ys))]) (Wk_to [0, 1, 5] [(640000, 640000)] rfl rfl (by simp)) ?_ ?_
  · intro i ys m h1 hy hn hm hs
    refine AW_of h69 TryzT_ok (by kernel_rfl) ?_
    have h1' : i < ys.length := by omega
    simp only [GCell.mar] at hs
    have wi : IntKind.i64.wrap ((i : Int) + 1) = i + 1 := wrap64 (by omega) (by omega)
    have w0 : IntKind.i64.wrap (m + 1) = m + 1 := wrap64 (by omega) (by omega)
    have w1 : IntKind.i64.wrap (m + 1 + 1) = m + 1 + 1 := wrap64 (by omega) (by omega)
    have w2 : IntKind.i64.wrap (m + 1 + 1 + 1) = m + 1 + 1 + 1 := wrap64 (by omega) (by omega)
    have w3 : IntKind.i64.wrap (m + 1 + 1 + 1 + 1) = m + 1 + 1 + 1 + 1 := wrap64 (by omega) (by omega)
    have w4 : IntKind.i64.wrap (m + 1 + 1 + 1 + 1 + 1) = m + 1 + 1 + 1 + 1 + 1 := wrap64 (by omega) (by omega)
    have w5 : IntKind.i64.wrap (m + 1 + 1 + 1 + 1 + 1 + 1) = m + 1 + 1 + 1 + 1 + 1 + 1 := wrap64 (by omega) (by omega)
    have w6 : IntKind.i64.wrap (m + 1 + 1 + 1 + 1 + 1 + 1 + 1) = m + 1 + 1 + 1 + 1 + 1 + 1 + 1 := wrap64 (by omega) (by omega)
    have w7 : IntKind.i64.wrap (m + 1 + 1 + 1 + 1 + 1 + 1 + 1 + 1) = m + 1 + 1 + 1 + 1 + 1 + 1 + 1 + 1 := wrap64 (by omega) (by omega)
    simp -dsimp [h1, h1', hy, hn, wi, w0, w1, w2, w3, w4, w5, w6, w7]
    repeat' (first
      | (refine ACallK_of (f91_ok _ (by omega) (by omega)) ?_; simp -dsimp [h1, h1', hy, hn, wi, w0, w1, w2, w3, w4, w5, w6, w7])
      | (refine And.intro (by first | omega | trivial) ?_))
    refine Wk_to [0, 1, 5] [(640000, 640000)] rfl rfl ?_
    simp -dsimp [GCell.mar, mbool, wi, w0, w1, w2, w3, w4, w5, w6, w7]
  · refine AW_of h69 TryzT_ok (by kernel_rfl) ?_
    simp -dsimp

@[simp] def h73 : Hts := { dr := fun id => if id = 4 then [{ mb := [18] }, { mb := [18] }, { mb := [18] }, { mb := [18] }, { mb := [18] }, {}, { cr := true }, {}] else [] }
theorem f73_ok (xs : List GCell) (k : Int) (hl : xs.length ≤ 1073741824) (h0 : 0 ≤ k) (hB : (mkS GCell.mar xs k).2 ≤ 4611686018427387904) : FnR Tryz.prog 73 [.v (.im xs.length (flat (mkS GCell.mar xs k).1)), .v (.int .i64 k)] (.v (.int .i64 (mkS GCell.mar xs k).2)) := by
  refine FnW.of_AW TryzT_ok 0 (fn := Tryz.f73) (by kernel_rfl) rfl (by kernel_rfl) rfl rfl rfl ?_
  refine AW_of h73 TryzT_ok (by kernel_rfl) ?_
  simp -dsimp
  have hzl : (mkS GCell.mar xs k).1.length = xs.length := mkS_len xs k
  refine AWh_held GCell.mar GCell.mar_le xs k h0 (fun m i => mkE [(0, .c (.im xs.length (flat (mkS GCell.mar xs k).1))), (1, .c (.int .i64 m)), (5, .c (.int .i64 i))] []) (Wk_to [0, 1, 5] [] rfl rfl (by simp)) ?_ ?_
  · intro i m h1 hn hm hs
    refine AW_of h73 TryzT_ok (by kernel_rfl) ?_
    generalize (mkS GCell.mar xs k).1 = zs at hzl hn
    have h1' : i < zs.length := by omega
    simp only [GCell.mar, mbool] at hs hn
    have wi : IntKind.i64.wrap ((i : Int) + 1) = i + 1 := wrap64 (by omega) (by omega)
    have w0 : IntKind.i64.wrap (m + 1) = m + 1 := wrap64 (by omega) (by omega)
    have w1 : IntKind.i64.wrap (m + 1 + 1) = m + 1 + 1 := wrap64 (by omega) (by omega)
    have w2 : IntKind.i64.wrap (m + 1 + 1 + 1) = m + 1 + 1 + 1 := wrap64 (by omega) (by omega)
    have w3 : IntKind.i64.wrap (m + 1 + 1 + 1 + 1) = m + 1 + 1 + 1 + 1 := wrap64 (by omega) (by omega)
    have w4 : IntKind.i64.wrap (m + 1 + 1 + 1 + 1 + 1) = m + 1 + 1 + 1 + 1 + 1 := wrap64 (by omega) (by omega)
    have w5 : IntKind.i64.wrap (m + 1 + 1 + 1 + 1 + 1 + 1) = m + 1 + 1 + 1 + 1 + 1 + 1 := wrap64 (by omega) (by omega)
    have w6 : IntKind.i64.wrap (m + 1 + 1 + 1 + 1 + 1 + 1 + 1) = m + 1 + 1 + 1 + 1 + 1 + 1 + 1 := wrap64 (by omega) (by omega)
    have w7 : IntKind.i64.wrap (m + 1 + 1 + 1 + 1 + 1 + 1 + 1 + 1) = m + 1 + 1 + 1 + 1 + 1 + 1 + 1 + 1 := wrap64 (by omega) (by omega)
    simp -dsimp [h1, h1', hzl, hn, ne_of_lt h1', wi, w0, w1, w2, w3, w4, w5, w6, w7]
    repeat' (first
      | (refine ACallK_of (f91_ok _ (by omega) (by omega)) ?_; simp -dsimp [h1, h1', hzl, hn, ne_of_lt h1', wi, w0, w1, w2, w3, w4, w5, w6, w7])
      | (refine And.intro (by first | omega | trivial) ?_)
      | (intro hneg; exfalso; omega)
      | (refine And.intro (fun hneg => by exfalso; omega) (fun _ => ?_))
      | (intro hpos; clear hpos))
    refine Wk_to [0, 1, 5] [] rfl rfl ?_
    simp -dsimp [GCell.mar, mbool, wi, w0, w1, w2, w3, w4, w5, w6, w7]
  · refine AW_of h73 TryzT_ok (by kernel_rfl) ?_
    simp -dsimp

@[simp] def h14 : Hts := { lend := fun f => if f = 66 then [.lend] else if f = 67 then [.lend] else if f = 68 then [.lend] else if f = 69 then [.lend] else [] }
theorem f14_ok (x : GState) (k : Int) (h : x.Ok) (h0 : 0 ≤ k) (hB : (x.mt k).2 ≤ 4611686018427387904) : FnW Tryz.prog 14 [.agg [.ow 3 1 x.know.length (flat x.know), .ow 118 3 x.tallies.length (flat x.tallies), .ow 82 6 x.lives.length (flat x.lives), .ow 121 8 x.cs.length (flat x.cs)], .v (.int .i64 k)] (.v (.int .i64 (x.mt k).2)) [.agg [.ow 3 1 (x.mt k).1.know.length (flat (x.mt k).1.know), .ow 118 3 (x.mt k).1.tallies.length (flat (x.mt k).1.tallies), .ow 82 6 (x.mt k).1.lives.length (flat (x.mt k).1.lives), .ow 121 8 (x.mt k).1.cs.length (flat (x.mt k).1.cs)], .any] := by
  simp only [GState.Ok] at h
  obtain ⟨o0, o1, o2, o3, o4, o5, o6⟩ := h
  simp only [GState.mt] at hB ⊢
  have q0 := mkS_le mkInt_le x.know (k) (by omega)
  have q1 := mkS_le GTally.mar_le x.tallies ((mkS mkInt x.know (k)).2) (by omega)
  have q2 := mkS_le GLive.mar_le x.lives ((mkS GTally.mar x.tallies ((mkS mkInt x.know (k)).2)).2) (by omega)
  have q3 := mkS_le GCell.mar_le x.cs ((mkS GLive.mar x.lives ((mkS GTally.mar x.tallies ((mkS mkInt x.know (k)).2)).2)).2) (by omega)
  refine FnW.of_AW TryzT_ok 1 (fn := Tryz.f14) (by kernel_rfl) rfl (by kernel_rfl) rfl rfl rfl ?_
  refine AW_of h14 TryzT_ok (by kernel_rfl) ?_
  simp -dsimp
  repeat' (first
    | (refine ACallW_args (by intro us; simp -dsimp; exact ⟨rfl, rfl, rfl⟩) ?_; refine ACallC_of (fun us => f66_ok _ _ (by assumption) (by omega) (by omega)) (by intro us; simp -dsimp; exact ⟨rfl, rfl⟩) ?_; simp -dsimp)
    | (refine ACallW_args (by intro us; simp -dsimp; exact ⟨rfl, rfl, rfl⟩) ?_; refine ACallC_of (fun us => f67_ok _ _ (by assumption) (by omega) (by omega)) (by intro us; simp -dsimp; exact ⟨rfl, rfl⟩) ?_; simp -dsimp)
    | (refine ACallW_args (by intro us; simp -dsimp; exact ⟨rfl, rfl, rfl⟩) ?_; refine ACallC_of (fun us => f68_ok _ _ (by assumption) (by omega) (by omega)) (by intro us; simp -dsimp; exact ⟨rfl, rfl⟩) ?_; simp -dsimp)
    | (refine ACallW_args (by intro us; simp -dsimp; exact ⟨rfl, rfl, rfl⟩) ?_; refine ACallC_of (fun us => f69_ok _ _ (by assumption) (by omega) (by omega)) (by intro us; simp -dsimp; exact ⟨rfl, rfl⟩) ?_; simp -dsimp)
    | (refine And.intro (by first | omega | trivial) ?_))

@[simp] def h15 : Hts := {  }
theorem f15_ok (x : GState) (k : Int) (h : x.Ok) (h0 : 0 ≤ k) (hB : (x.mt k).2 ≤ 4611686018427387904) : FnR Tryz.prog 15 [.agg [.im (x.mt k).1.know.length (flat (x.mt k).1.know), .im (x.mt k).1.tallies.length (flat (x.mt k).1.tallies), .im (x.mt k).1.lives.length (flat (x.mt k).1.lives), .im (x.mt k).1.cs.length (flat (x.mt k).1.cs)], .v (.int .i64 k)] (.v (.int .i64 (x.mt k).2)) := by
  simp only [GState.Ok] at h
  obtain ⟨o0, o1, o2, o3, o4, o5, o6⟩ := h
  simp only [GState.mt] at hB ⊢
  have q0 := mkS_le mkInt_le x.know (k) (by omega)
  have q1 := mkS_le GTally.mar_le x.tallies ((mkS mkInt x.know (k)).2) (by omega)
  have q2 := mkS_le GLive.mar_le x.lives ((mkS GTally.mar x.tallies ((mkS mkInt x.know (k)).2)).2) (by omega)
  have q3 := mkS_le GCell.mar_le x.cs ((mkS GLive.mar x.lives ((mkS GTally.mar x.tallies ((mkS mkInt x.know (k)).2)).2)).2) (by omega)
  refine FnW.of_AW TryzT_ok 0 (fn := Tryz.f15) (by kernel_rfl) rfl (by kernel_rfl) rfl rfl rfl ?_
  refine AW_of h15 TryzT_ok (by kernel_rfl) ?_
  simp -dsimp
  repeat' (first
    | (refine ACallK_of (f70_ok _ _ (by assumption) (by omega) (by omega)) ?_; simp -dsimp)
    | (refine ACallK_of (f71_ok _ _ (by assumption) (by omega) (by omega)) ?_; simp -dsimp)
    | (refine ACallK_of (f72_ok _ _ (by assumption) (by omega) (by omega)) ?_; simp -dsimp)
    | (refine ACallK_of (f73_ok _ _ (by assumption) (by omega) (by omega)) ?_; simp -dsimp)
    | (refine And.intro (fun hneg => by exfalso; omega) (fun _ => ?_))
    | (intro hneg; exfalso; omega)
    | (intro hpos; clear hpos))

@[simp] def h21 : Hts := {  }
theorem f21_ok (xs : List GClash) (k : Int) (hl : xs.length ≤ 1073741824) (h0 : 0 ≤ k) (hB : (mkS GClash.mar xs k).2 ≤ 4611686018427387904) : FnW Tryz.prog 21 [.v (.ow 107 2 xs.length (flat xs)), .v (.int .i64 k)] (.v (.int .i64 (mkS GClash.mar xs k).2)) [.v (.ow 107 2 xs.length (flat (mkS GClash.mar xs k).1)), .any] := by
  refine FnW.of_AW TryzT_ok 1 (fn := Tryz.f21) (by kernel_rfl) rfl (by kernel_rfl) rfl rfl rfl ?_
  refine AW_of h21 TryzT_ok (by kernel_rfl) ?_
  simp -dsimp
  refine AWh_mark GClash.mar GClash.mar_le xs k h0 (fun ys m i => mkE [(0, .arr 640000), (1, .c (.int .i64 m)), (5, .c (.int .i64 i))] [(640000, .arr 0 107 2 xs.length (flat ys))]) (Wk_to [0, 1, 5] [(640000, 640000)] rfl rfl (by simp)) ?_ ?_
  · intro i ys m h1 hy hn hm hs
    refine AW_of h21 TryzT_ok (by kernel_rfl) ?_
    have h1' : i < ys.length := by omega
    simp only [GClash.mar] at hs
    have wi : IntKind.i64.wrap ((i : Int) + 1) = i + 1 := wrap64 (by omega) (by omega)
    have w0 : IntKind.i64.wrap (m + 1) = m + 1 := wrap64 (by omega) (by omega)
    have w1 : IntKind.i64.wrap (m + 1 + 1) = m + 1 + 1 := wrap64 (by omega) (by omega)
    simp -dsimp [h1, h1', hy, hn, wi, w0, w1]
    repeat' (first
      | (refine ACallK_of (f91_ok _ (by omega) (by omega)) ?_; simp -dsimp [h1, h1', hy, hn, wi, w0, w1])
      | (refine And.intro (by first | omega | trivial) ?_))
    refine Wk_to [0, 1, 5] [(640000, 640000)] rfl rfl ?_
    simp -dsimp [GClash.mar, mbool, wi, w0, w1]
  · refine AW_of h21 TryzT_ok (by kernel_rfl) ?_
    simp -dsimp

@[simp] def h22 : Hts := { dr := fun id => if id = 4 then [{ mb := [18] }, { mb := [18] }, { mb := [18] }, { mb := [18] }, { mb := [18] }, {}, { cr := true }, {}] else if id = 7 then [{ mb := [28] }, { mb := [28] }, { mb := [28] }, { mb := [28] }, { mb := [28] }, {}, { cr := true }, {}] else [] }
theorem f22_ok (xs : List GClash) (k : Int) (hl : xs.length ≤ 1073741824) (h0 : 0 ≤ k) (hB : (mkS GClash.mar xs k).2 ≤ 4611686018427387904) : FnR Tryz.prog 22 [.v (.im xs.length (flat (mkS GClash.mar xs k).1)), .v (.int .i64 k)] (.v (.int .i64 (mkS GClash.mar xs k).2)) := by
  refine FnW.of_AW TryzT_ok 0 (fn := Tryz.f22) (by kernel_rfl) rfl (by kernel_rfl) rfl rfl rfl ?_
  refine AW_of h22 TryzT_ok (by kernel_rfl) ?_
  simp -dsimp
  have hzl : (mkS GClash.mar xs k).1.length = xs.length := mkS_len xs k
  refine AWh_held GClash.mar GClash.mar_le xs k h0 (fun m i => mkE [(0, .c (.im xs.length (flat (mkS GClash.mar xs k).1))), (1, .c (.int .i64 m)), (5, .c (.int .i64 i))] []) (Wk_to [0, 1, 5] [] rfl rfl (by simp)) ?_ ?_
  · intro i m h1 hn hm hs
    refine AW_of h22 TryzT_ok (by kernel_rfl) ?_
    generalize (mkS GClash.mar xs k).1 = zs at hzl hn
    have h1' : i < zs.length := by omega
    simp only [GClash.mar, mbool] at hs hn
    have wi : IntKind.i64.wrap ((i : Int) + 1) = i + 1 := wrap64 (by omega) (by omega)
    have w0 : IntKind.i64.wrap (m + 1) = m + 1 := wrap64 (by omega) (by omega)
    have w1 : IntKind.i64.wrap (m + 1 + 1) = m + 1 + 1 := wrap64 (by omega) (by omega)
    simp -dsimp [h1, h1', hzl, hn, ne_of_lt h1', wi, w0, w1]
    repeat' (first
      | (refine ACallK_of (f91_ok _ (by omega) (by omega)) ?_; simp -dsimp [h1, h1', hzl, hn, ne_of_lt h1', wi, w0, w1])
      | (refine And.intro (by first | omega | trivial) ?_)
      | (intro hneg; exfalso; omega)
      | (refine And.intro (fun hneg => by exfalso; omega) (fun _ => ?_))
      | (intro hpos; clear hpos))
    refine Wk_to [0, 1, 5] [] rfl rfl ?_
    simp -dsimp [GClash.mar, mbool, wi, w0, w1]
  · refine AW_of h22 TryzT_ok (by kernel_rfl) ?_
    simp -dsimp

@[simp] def h26 : Hts := { lend := fun f => if f = 66 then [.lend] else if f = 67 then [.lend] else if f = 68 then [.lend] else if f = 69 then [.lend] else if f = 96 then [.lend] else [] }
theorem f26_ok (x : GDelta) (k : Int) (h : x.Ok) (h0 : 0 ≤ k) (hB : (x.mt k).2 ≤ 4611686018427387904) : FnW Tryz.prog 26 [.agg [.ow 3 1 x.base.length (flat x.base), .ow 3 1 x.know.length (flat x.know), .ow 118 3 x.tallies.length (flat x.tallies), .ow 82 6 x.lives.length (flat x.lives), .ow 80 2 x.dead.length (flat x.dead), .ow 121 8 x.cs.length (flat x.cs)], .v (.int .i64 k)] (.v (.int .i64 (x.mt k).2)) [.agg [.ow 3 1 (x.mt k).1.base.length (flat (x.mt k).1.base), .ow 3 1 (x.mt k).1.know.length (flat (x.mt k).1.know), .ow 118 3 (x.mt k).1.tallies.length (flat (x.mt k).1.tallies), .ow 82 6 (x.mt k).1.lives.length (flat (x.mt k).1.lives), .ow 80 2 (x.mt k).1.dead.length (flat (x.mt k).1.dead), .ow 121 8 (x.mt k).1.cs.length (flat (x.mt k).1.cs)], .any] := by
  simp only [GDelta.Ok] at h
  obtain ⟨o0, o1, o2, o3, o4, o5, o6, o7, o8⟩ := h
  simp only [GDelta.mt] at hB ⊢
  have q0 := mkS_le mkInt_le x.base (k) (by omega)
  have q1 := mkS_le mkInt_le x.know ((mkS mkInt x.base (k)).2) (by omega)
  have q2 := mkS_le GTally.mar_le x.tallies ((mkS mkInt x.know ((mkS mkInt x.base (k)).2)).2) (by omega)
  have q3 := mkS_le GLive.mar_le x.lives ((mkS GTally.mar x.tallies ((mkS mkInt x.know ((mkS mkInt x.base (k)).2)).2)).2) (by omega)
  have q4 := mkS_le GDot.mar_le x.dead ((mkS GLive.mar x.lives ((mkS GTally.mar x.tallies ((mkS mkInt x.know ((mkS mkInt x.base (k)).2)).2)).2)).2) (by omega)
  have q5 := mkS_le GCell.mar_le x.cs ((mkS GDot.mar x.dead ((mkS GLive.mar x.lives ((mkS GTally.mar x.tallies ((mkS mkInt x.know ((mkS mkInt x.base (k)).2)).2)).2)).2)).2) (by omega)
  refine FnW.of_AW TryzT_ok 1 (fn := Tryz.f26) (by kernel_rfl) rfl (by kernel_rfl) rfl rfl rfl ?_
  refine AW_of h26 TryzT_ok (by kernel_rfl) ?_
  simp -dsimp
  repeat' (first
    | (refine ACallW_args (by intro us; simp -dsimp; exact ⟨rfl, rfl, rfl⟩) ?_; refine ACallC_of (fun us => f66_ok _ _ (by assumption) (by omega) (by omega)) (by intro us; simp -dsimp; exact ⟨rfl, rfl⟩) ?_; simp -dsimp)
    | (refine ACallW_args (by intro us; simp -dsimp; exact ⟨rfl, rfl, rfl⟩) ?_; refine ACallC_of (fun us => f67_ok _ _ (by assumption) (by omega) (by omega)) (by intro us; simp -dsimp; exact ⟨rfl, rfl⟩) ?_; simp -dsimp)
    | (refine ACallW_args (by intro us; simp -dsimp; exact ⟨rfl, rfl, rfl⟩) ?_; refine ACallC_of (fun us => f68_ok _ _ (by assumption) (by omega) (by omega)) (by intro us; simp -dsimp; exact ⟨rfl, rfl⟩) ?_; simp -dsimp)
    | (refine ACallW_args (by intro us; simp -dsimp; exact ⟨rfl, rfl, rfl⟩) ?_; refine ACallC_of (fun us => f96_ok _ _ (by assumption) (by omega) (by omega)) (by intro us; simp -dsimp; exact ⟨rfl, rfl⟩) ?_; simp -dsimp)
    | (refine ACallW_args (by intro us; simp -dsimp; exact ⟨rfl, rfl, rfl⟩) ?_; refine ACallC_of (fun us => f69_ok _ _ (by assumption) (by omega) (by omega)) (by intro us; simp -dsimp; exact ⟨rfl, rfl⟩) ?_; simp -dsimp)
    | (refine And.intro (by first | omega | trivial) ?_))

@[simp] def h27 : Hts := {  }
theorem f27_ok (x : GDelta) (k : Int) (h : x.Ok) (h0 : 0 ≤ k) (hB : (x.mt k).2 ≤ 4611686018427387904) : FnR Tryz.prog 27 [.agg [.im (x.mt k).1.base.length (flat (x.mt k).1.base), .im (x.mt k).1.know.length (flat (x.mt k).1.know), .im (x.mt k).1.tallies.length (flat (x.mt k).1.tallies), .im (x.mt k).1.lives.length (flat (x.mt k).1.lives), .im (x.mt k).1.dead.length (flat (x.mt k).1.dead), .im (x.mt k).1.cs.length (flat (x.mt k).1.cs)], .v (.int .i64 k)] (.v (.int .i64 (x.mt k).2)) := by
  simp only [GDelta.Ok] at h
  obtain ⟨o0, o1, o2, o3, o4, o5, o6, o7, o8⟩ := h
  simp only [GDelta.mt] at hB ⊢
  have q0 := mkS_le mkInt_le x.base (k) (by omega)
  have q1 := mkS_le mkInt_le x.know ((mkS mkInt x.base (k)).2) (by omega)
  have q2 := mkS_le GTally.mar_le x.tallies ((mkS mkInt x.know ((mkS mkInt x.base (k)).2)).2) (by omega)
  have q3 := mkS_le GLive.mar_le x.lives ((mkS GTally.mar x.tallies ((mkS mkInt x.know ((mkS mkInt x.base (k)).2)).2)).2) (by omega)
  have q4 := mkS_le GDot.mar_le x.dead ((mkS GLive.mar x.lives ((mkS GTally.mar x.tallies ((mkS mkInt x.know ((mkS mkInt x.base (k)).2)).2)).2)).2) (by omega)
  have q5 := mkS_le GCell.mar_le x.cs ((mkS GDot.mar x.dead ((mkS GLive.mar x.lives ((mkS GTally.mar x.tallies ((mkS mkInt x.know ((mkS mkInt x.base (k)).2)).2)).2)).2)).2) (by omega)
  refine FnW.of_AW TryzT_ok 0 (fn := Tryz.f27) (by kernel_rfl) rfl (by kernel_rfl) rfl rfl rfl ?_
  refine AW_of h27 TryzT_ok (by kernel_rfl) ?_
  simp -dsimp
  repeat' (first
    | (refine ACallK_of (f70_ok _ _ (by assumption) (by omega) (by omega)) ?_; simp -dsimp)
    | (refine ACallK_of (f71_ok _ _ (by assumption) (by omega) (by omega)) ?_; simp -dsimp)
    | (refine ACallK_of (f72_ok _ _ (by assumption) (by omega) (by omega)) ?_; simp -dsimp)
    | (refine ACallK_of (f97_ok _ _ (by assumption) (by omega) (by omega)) ?_; simp -dsimp)
    | (refine ACallK_of (f73_ok _ _ (by assumption) (by omega) (by omega)) ?_; simp -dsimp)
    | (refine And.intro (fun hneg => by exfalso; omega) (fun _ => ?_))
    | (intro hneg; exfalso; omega)
    | (intro hpos; clear hpos))
end Am
