/- The law harness: marks, and whether they are still there. No condition. -/
import Derived.Test.YtblhppnhiaombaaGreatT
import Derived.Test.YtblhppnhiaombaaGreatK
namespace Am
open Go Go.Proofs
open Cel (cells)
set_option maxRecDepth 100000
set_option maxHeartbeats 4000000
set_option linter.unusedSimpArgs false
set_option linter.unusedVariables false


@[simp] def h168 : Hts := {  }
theorem f168_ok (k : Int) (h0 : 0 ≤ k) (hk : k ≤ 4611686018427387904) : FnR Tryz.prog 168 [.v (.int .i64 k)] (.v (.str (mtext k))) := by
  obtain ⟨n0, rfl⟩ := Int.eq_ofNat_of_zero_le h0
  refine FnW.of_AW TryzT_ok 0 (fn := Tryz.f168) (by kernel_rfl) rfl (by kernel_rfl) rfl rfl rfl ?_
  refine AW_of h168 TryzT_ok (by kernel_rfl) ?_
  simp -dsimp
  refine ⟨fun h => by subst h; rfl, fun h => ?_⟩
  have hkk : n0 < 10 ^ 20 := by have : (10 : Nat) ^ 20 = 100000000000000000000 := by decide
                                omega
  refine AWh_loop (fun s : Nat × ByteArray => ∃ j f, j + s.2.size = 20 ∧ j ≤ f ∧ s.1 < 10 ^ j ∧ s.1 ≤ n0 ∧ mgo f s.1 s.2 = mgo 20 n0 ⟨#[]⟩) (fun s => mkE [(0, .c (.int .i64 s.1)), (3, .c (.str s.2))] []) (fun s => s.1) (n0, ⟨#[]⟩) (Wk_to [0, 3] [] rfl rfl (by simp)) ⟨20, 20, rfl, Nat.le_refl _, hkk, Nat.le_refl _, rfl⟩ ?_
  rintro ⟨n, out⟩ ⟨j, f, hj, hjf, hn, hle, hm⟩
  simp only at hj hn hm hle
  refine AW_of h168 TryzT_ok (by kernel_rfl) ?_
  rcases Nat.eq_zero_or_pos n with hz | hz
  · subst hz
    have : mgo f 0 out = out := by cases f <;> simp [mgo]
    rw [this] at hm
    simp -dsimp
    rw [mtext, if_neg (by omega), Int.toNat_natCast, ← hm]
    refine ⟨?_, rfl⟩
    show 1 + out.size ≤ 1099511627776
    omega
  · obtain ⟨j, rfl⟩ : ∃ i, j = i + 1 := ⟨j - 1, by cases j with
      | zero => rw [Nat.pow_zero] at hn; omega
      | succ i => rfl⟩
    obtain ⟨f, rfl⟩ : ∃ i, f = i + 1 := ⟨f - 1, by omega⟩
    rw [mgo, if_neg (by omega)] at hm
    have hmod : ((n : Int).tmod 10) = ((n % 10 : Nat) : Int) := by rw [Int.tmod_eq_emod_of_nonneg (by omega)]; rfl
    have hdiv : ((n : Int).tdiv 10) = ((n / 10 : Nat) : Int) := by rw [Int.tdiv_eq_ediv_of_nonneg (by omega)]; rfl
    have hq : n / 10 < 10 ^ j := by rw [Nat.pow_succ] at hn; omega
    clear hn hkk
    have e1 : IntKind.i64.wrap (48 + ↑n % 10) = 48 + ↑n % 10 := wrap64 (by omega) (by omega)
    have e2 : IntKind.u8.wrap (48 + ↑n % 10) = ((48 + n % 10 : Nat) : Int) := by
      simp only [IntKind.wrap, IntKind.bits, IntKind.signed]
      simp
      omega
    have e3 : IntKind.i64.wrap (n / 10) = n / 10 := wrap64 (by omega) (by omega)
    simp -dsimp only [hz, hmod, hdiv]
    simp -dsimp [hz, hmod, hdiv, e1, e2, e3, allBytes, bytesOf]
    have et : (48 + (n : Int) % 10).toNat = 48 + n % 10 := by omega
    rw [et]
    refine ⟨by omega, by show 1 + out.size ≤ 1099511627776; omega, ?_⟩
    refine Back_of (n / 10, ⟨#[UInt8.ofNat (48 + n % 10)]⟩ ++ out) [0, 3] [] rfl rfl (by simp -dsimp) ⟨j, f, ?_, by omega, hq, by simp only; omega, hm⟩ (by simp only; omega)
    simp only [ByteArray.size_append]
    show j + (1 + out.size) = 20
    omega

@[simp] def h65 : Hts := {  }
theorem f65_ok (xs : List Int) (k : Int) (hl : xs.length ≤ 1073741824) (h0 : 0 ≤ k) (hB : (mkS mkInt xs k).2 ≤ 4611686018427387904) : FnW Tryz.prog 65 [.v (.ow 3 1 xs.length (flat xs)), .v (.int .i64 k)] (.v (.int .i64 (mkS mkInt xs k).2)) [.v (.ow 3 1 xs.length (flat (mkS mkInt xs k).1)), .any] := by
  refine FnW.of_AW TryzT_ok 1 (fn := Tryz.f65) (by kernel_rfl) rfl (by kernel_rfl) rfl rfl rfl ?_
  refine AW_of h65 TryzT_ok (by kernel_rfl) ?_
  simp -dsimp
  refine AWh_mark mkInt mkInt_le xs k h0 (fun ys m i => mkE [(0, .arr 640000), (1, .c (.int .i64 m)), (5, .c (.int .i64 i))] [(640000, .arr 0 3 1 xs.length (flat ys))]) (Wk_to [0, 1, 5] [(640000, 640000)] rfl rfl (by simp)) ?_ ?_
  · intro i ys m h1 hy hn hm hs
    refine AW_of h65 TryzT_ok (by kernel_rfl) ?_
    have h1' : i < ys.length := by omega
    simp only [mkInt] at hs
    have wi : IntKind.i64.wrap ((i : Int) + 1) = i + 1 := wrap64 (by omega) (by omega)
    have w0 : IntKind.i64.wrap (m + 1) = m + 1 := wrap64 (by omega) (by omega)
    simp -dsimp [h1, h1', hy, hn, wi, w0]
    repeat' (first
      | (refine And.intro (by first | omega | trivial) ?_))
    refine Wk_to [0, 1, 5] [(640000, 640000)] rfl rfl ?_
    simp -dsimp [mkInt, mbool, wi, w0]
  · refine AW_of h65 TryzT_ok (by kernel_rfl) ?_
    simp -dsimp

@[simp] def h71 : Hts := {  }
theorem f71_ok (xs : List Int) (k : Int) (hl : xs.length ≤ 1073741824) (h0 : 0 ≤ k) (hB : (mkS mkInt xs k).2 ≤ 4611686018427387904) : FnR Tryz.prog 71 [.v (.im xs.length (flat (mkS mkInt xs k).1)), .v (.int .i64 k)] (.v (.int .i64 (mkS mkInt xs k).2)) := by
  refine FnW.of_AW TryzT_ok 0 (fn := Tryz.f71) (by kernel_rfl) rfl (by kernel_rfl) rfl rfl rfl ?_
  refine AW_of h71 TryzT_ok (by kernel_rfl) ?_
  simp -dsimp
  have hzl : (mkS mkInt xs k).1.length = xs.length := mkS_len xs k
  refine AWh_held mkInt mkInt_le xs k h0 (fun m i => mkE [(0, .c (.im xs.length (flat (mkS mkInt xs k).1))), (1, .c (.int .i64 m)), (5, .c (.int .i64 i))] []) (Wk_to [0, 1, 5] [] rfl rfl (by simp)) ?_ ?_
  · intro i m h1 hn hm hs
    refine AW_of h71 TryzT_ok (by kernel_rfl) ?_
    generalize (mkS mkInt xs k).1 = zs at hzl hn
    have h1' : i < zs.length := by omega
    simp only [mkInt, mbool] at hs hn
    have wi : IntKind.i64.wrap ((i : Int) + 1) = i + 1 := wrap64 (by omega) (by omega)
    have w0 : IntKind.i64.wrap (m + 1) = m + 1 := wrap64 (by omega) (by omega)
    simp -dsimp [h1, h1', hzl, hn, ne_of_lt h1', wi, w0]
    repeat' (first
      | (refine And.intro (by first | omega | trivial) ?_)
      | (intro hneg; exfalso; omega)
      | (refine And.intro (fun hneg => by exfalso; omega) (fun _ => ?_))
      | (intro hpos; clear hpos))
    refine Wk_to [0, 1, 5] [] rfl rfl ?_
    simp -dsimp [mkInt, mbool, wi, w0]
  · refine AW_of h71 TryzT_ok (by kernel_rfl) ?_
    simp -dsimp

@[simp] def h169 : Hts := {  }
theorem f169_ok (xs : List GDot) (k : Int) (hl : xs.length ≤ 1073741824) (h0 : 0 ≤ k) (hB : (mkS GDot.mar xs k).2 ≤ 4611686018427387904) : FnW Tryz.prog 169 [.v (.ow 47 2 xs.length (flat xs)), .v (.int .i64 k)] (.v (.int .i64 (mkS GDot.mar xs k).2)) [.v (.ow 47 2 xs.length (flat (mkS GDot.mar xs k).1)), .any] := by
  refine FnW.of_AW TryzT_ok 1 (fn := Tryz.f169) (by kernel_rfl) rfl (by kernel_rfl) rfl rfl rfl ?_
  refine AW_of h169 TryzT_ok (by kernel_rfl) ?_
  simp -dsimp
  refine AWh_mark GDot.mar GDot.mar_le xs k h0 (fun ys m i => mkE [(0, .arr 640000), (1, .c (.int .i64 m)), (5, .c (.int .i64 i))] [(640000, .arr 0 47 2 xs.length (flat ys))]) (Wk_to [0, 1, 5] [(640000, 640000)] rfl rfl (by simp)) ?_ ?_
  · intro i ys m h1 hy hn hm hs
    refine AW_of h169 TryzT_ok (by kernel_rfl) ?_
    have h1' : i < ys.length := by omega
    simp only [GDot.mar] at hs
    have wi : IntKind.i64.wrap ((i : Int) + 1) = i + 1 := wrap64 (by omega) (by omega)
    have w0 : IntKind.i64.wrap (m + 1) = m + 1 := wrap64 (by omega) (by omega)
    have w1 : IntKind.i64.wrap (m + 1 + 1) = m + 1 + 1 := wrap64 (by omega) (by omega)
    simp -dsimp [h1, h1', hy, hn, wi, w0, w1]
    repeat' (first
      | (refine And.intro (by first | omega | trivial) ?_))
    refine Wk_to [0, 1, 5] [(640000, 640000)] rfl rfl ?_
    simp -dsimp [GDot.mar, mbool, wi, w0, w1]
  · refine AW_of h169 TryzT_ok (by kernel_rfl) ?_
    simp -dsimp

@[simp] def h211 : Hts := {  }
theorem f211_ok (xs : List GDot) (k : Int) (hl : xs.length ≤ 1073741824) (h0 : 0 ≤ k) (hB : (mkS GDot.mar xs k).2 ≤ 4611686018427387904) : FnR Tryz.prog 211 [.v (.im xs.length (flat (mkS GDot.mar xs k).1)), .v (.int .i64 k)] (.v (.int .i64 (mkS GDot.mar xs k).2)) := by
  refine FnW.of_AW TryzT_ok 0 (fn := Tryz.f211) (by kernel_rfl) rfl (by kernel_rfl) rfl rfl rfl ?_
  refine AW_of h211 TryzT_ok (by kernel_rfl) ?_
  simp -dsimp
  have hzl : (mkS GDot.mar xs k).1.length = xs.length := mkS_len xs k
  refine AWh_held GDot.mar GDot.mar_le xs k h0 (fun m i => mkE [(0, .c (.im xs.length (flat (mkS GDot.mar xs k).1))), (1, .c (.int .i64 m)), (5, .c (.int .i64 i))] []) (Wk_to [0, 1, 5] [] rfl rfl (by simp)) ?_ ?_
  · intro i m h1 hn hm hs
    refine AW_of h211 TryzT_ok (by kernel_rfl) ?_
    generalize (mkS GDot.mar xs k).1 = zs at hzl hn
    have h1' : i < zs.length := by omega
    simp only [GDot.mar, mbool] at hs hn
    have wi : IntKind.i64.wrap ((i : Int) + 1) = i + 1 := wrap64 (by omega) (by omega)
    have w0 : IntKind.i64.wrap (m + 1) = m + 1 := wrap64 (by omega) (by omega)
    have w1 : IntKind.i64.wrap (m + 1 + 1) = m + 1 + 1 := wrap64 (by omega) (by omega)
    simp -dsimp [h1, h1', hzl, hn, ne_of_lt h1', wi, w0, w1]
    repeat' (first
      | (refine And.intro (by first | omega | trivial) ?_)
      | (intro hneg; exfalso; omega)
      | (refine And.intro (fun hneg => by exfalso; omega) (fun _ => ?_))
      | (intro hpos; clear hpos))
    refine Wk_to [0, 1, 5] [] rfl rfl ?_
    simp -dsimp [GDot.mar, mbool, wi, w0, w1]
  · refine AW_of h211 TryzT_ok (by kernel_rfl) ?_
    simp -dsimp

@[simp] def h66 : Hts := {  }
theorem f66_ok (xs : List GTally) (k : Int) (hl : xs.length ≤ 1073741824) (h0 : 0 ≤ k) (hB : (mkS GTally.mar xs k).2 ≤ 4611686018427387904) : FnW Tryz.prog 66 [.v (.ow 179 3 xs.length (flat xs)), .v (.int .i64 k)] (.v (.int .i64 (mkS GTally.mar xs k).2)) [.v (.ow 179 3 xs.length (flat (mkS GTally.mar xs k).1)), .any] := by
  refine FnW.of_AW TryzT_ok 1 (fn := Tryz.f66) (by kernel_rfl) rfl (by kernel_rfl) rfl rfl rfl ?_
  refine AW_of h66 TryzT_ok (by kernel_rfl) ?_
  simp -dsimp
  refine AWh_mark GTally.mar GTally.mar_le xs k h0 (fun ys m i => mkE [(0, .arr 640000), (1, .c (.int .i64 m)), (5, .c (.int .i64 i))] [(640000, .arr 0 179 3 xs.length (flat ys))]) (Wk_to [0, 1, 5] [(640000, 640000)] rfl rfl (by simp)) ?_ ?_
  · intro i ys m h1 hy hn hm hs
    refine AW_of h66 TryzT_ok (by kernel_rfl) ?_
    have h1' : i < ys.length := by omega
    simp only [GTally.mar] at hs
    have wi : IntKind.i64.wrap ((i : Int) + 1) = i + 1 := wrap64 (by omega) (by omega)
    have w0 : IntKind.i64.wrap (m + 1) = m + 1 := wrap64 (by omega) (by omega)
    have w1 : IntKind.i64.wrap (m + 1 + 1) = m + 1 + 1 := wrap64 (by omega) (by omega)
    have w2 : IntKind.i64.wrap (m + 1 + 1 + 1) = m + 1 + 1 + 1 := wrap64 (by omega) (by omega)
    simp -dsimp [h1, h1', hy, hn, wi, w0, w1, w2]
    repeat' (first
      | (refine ACallK_of (f168_ok _ (by omega) (by omega)) ?_; simp -dsimp [h1, h1', hy, hn, wi, w0, w1, w2])
      | (refine And.intro (by first | omega | trivial) ?_))
    refine Wk_to [0, 1, 5] [(640000, 640000)] rfl rfl ?_
    simp -dsimp [GTally.mar, mbool, wi, w0, w1, w2]
  · refine AW_of h66 TryzT_ok (by kernel_rfl) ?_
    simp -dsimp

@[simp] def h72 : Hts := { dr := fun id => if id = 4 then [{ mb := [18] }, { mb := [18] }, { mb := [18] }, { mb := [18] }, { mb := [18] }, {}, { cr := true }, {}] else [] }
theorem f72_ok (xs : List GTally) (k : Int) (hl : xs.length ≤ 1073741824) (h0 : 0 ≤ k) (hB : (mkS GTally.mar xs k).2 ≤ 4611686018427387904) : FnR Tryz.prog 72 [.v (.im xs.length (flat (mkS GTally.mar xs k).1)), .v (.int .i64 k)] (.v (.int .i64 (mkS GTally.mar xs k).2)) := by
  refine FnW.of_AW TryzT_ok 0 (fn := Tryz.f72) (by kernel_rfl) rfl (by kernel_rfl) rfl rfl rfl ?_
  refine AW_of h72 TryzT_ok (by kernel_rfl) ?_
  simp -dsimp
  have hzl : (mkS GTally.mar xs k).1.length = xs.length := mkS_len xs k
  refine AWh_held GTally.mar GTally.mar_le xs k h0 (fun m i => mkE [(0, .c (.im xs.length (flat (mkS GTally.mar xs k).1))), (1, .c (.int .i64 m)), (5, .c (.int .i64 i))] []) (Wk_to [0, 1, 5] [] rfl rfl (by simp)) ?_ ?_
  · intro i m h1 hn hm hs
    refine AW_of h72 TryzT_ok (by kernel_rfl) ?_
    generalize (mkS GTally.mar xs k).1 = zs at hzl hn
    have h1' : i < zs.length := by omega
    simp only [GTally.mar, mbool] at hs hn
    have wi : IntKind.i64.wrap ((i : Int) + 1) = i + 1 := wrap64 (by omega) (by omega)
    have w0 : IntKind.i64.wrap (m + 1) = m + 1 := wrap64 (by omega) (by omega)
    have w1 : IntKind.i64.wrap (m + 1 + 1) = m + 1 + 1 := wrap64 (by omega) (by omega)
    have w2 : IntKind.i64.wrap (m + 1 + 1 + 1) = m + 1 + 1 + 1 := wrap64 (by omega) (by omega)
    simp -dsimp [h1, h1', hzl, hn, ne_of_lt h1', wi, w0, w1, w2]
    repeat' (first
      | (refine ACallK_of (f168_ok _ (by omega) (by omega)) ?_; simp -dsimp [h1, h1', hzl, hn, ne_of_lt h1', wi, w0, w1, w2])
      | (refine And.intro (by first | omega | trivial) ?_)
      | (intro hneg; exfalso; omega)
      | (refine And.intro (fun hneg => by exfalso; omega) (fun _ => ?_))
      | (intro hpos; clear hpos))
    refine Wk_to [0, 1, 5] [] rfl rfl ?_
    simp -dsimp [GTally.mar, mbool, wi, w0, w1, w2]
  · refine AW_of h72 TryzT_ok (by kernel_rfl) ?_
    simp -dsimp

@[simp] def h67 : Hts := {  }
theorem f67_ok (xs : List GLive) (k : Int) (hl : xs.length ≤ 1073741824) (h0 : 0 ≤ k) (hB : (mkS GLive.mar xs k).2 ≤ 4611686018427387904) : FnW Tryz.prog 67 [.v (.ow 182 6 xs.length (flat xs)), .v (.int .i64 k)] (.v (.int .i64 (mkS GLive.mar xs k).2)) [.v (.ow 182 6 xs.length (flat (mkS GLive.mar xs k).1)), .any] := by
  refine FnW.of_AW TryzT_ok 1 (fn := Tryz.f67) (by kernel_rfl) rfl (by kernel_rfl) rfl rfl rfl ?_
  refine AW_of h67 TryzT_ok (by kernel_rfl) ?_
  simp -dsimp
  refine AWh_mark GLive.mar GLive.mar_le xs k h0 (fun ys m i => mkE [(0, .arr 640000), (1, .c (.int .i64 m)), (5, .c (.int .i64 i))] [(640000, .arr 0 182 6 xs.length (flat ys))]) (Wk_to [0, 1, 5] [(640000, 640000)] rfl rfl (by simp)) ?_ ?_
  · intro i ys m h1 hy hn hm hs
    refine AW_of h67 TryzT_ok (by kernel_rfl) ?_
    have h1' : i < ys.length := by omega
    simp only [GLive.mar] at hs
    have wi : IntKind.i64.wrap ((i : Int) + 1) = i + 1 := wrap64 (by omega) (by omega)
    have w0 : IntKind.i64.wrap (m + 1) = m + 1 := wrap64 (by omega) (by omega)
    have w1 : IntKind.i64.wrap (m + 1 + 1) = m + 1 + 1 := wrap64 (by omega) (by omega)
    have w2 : IntKind.i64.wrap (m + 1 + 1 + 1) = m + 1 + 1 + 1 := wrap64 (by omega) (by omega)
    have w3 : IntKind.i64.wrap (m + 1 + 1 + 1 + 1) = m + 1 + 1 + 1 + 1 := wrap64 (by omega) (by omega)
    have w4 : IntKind.i64.wrap (m + 1 + 1 + 1 + 1 + 1) = m + 1 + 1 + 1 + 1 + 1 := wrap64 (by omega) (by omega)
    have w5 : IntKind.i64.wrap (m + 1 + 1 + 1 + 1 + 1 + 1) = m + 1 + 1 + 1 + 1 + 1 + 1 := wrap64 (by omega) (by omega)
    simp -dsimp [h1, h1', hy, hn, wi, w0, w1, w2, w3, w4, w5]
    repeat' (first
      | (refine ACallK_of (f168_ok _ (by omega) (by omega)) ?_; simp -dsimp [h1, h1', hy, hn, wi, w0, w1, w2, w3, w4, w5])
      | (refine And.intro (by first | omega | trivial) ?_))
    refine Wk_to [0, 1, 5] [(640000, 640000)] rfl rfl ?_
    simp -dsimp [GLive.mar, mbool, wi, w0, w1, w2, w3, w4, w5]
  · refine AW_of h67 TryzT_ok (by kernel_rfl) ?_
    simp -dsimp

@[simp] def h73 : Hts := { dr := fun id => if id = 7 then [{ mb := [29] }, { mb := [29] }, { mb := [29] }, { mb := [29] }, { mb := [29] }, {}, { cr := true }, {}] else if id = 10 then [{ mb := [39] }, { mb := [39] }, { mb := [39] }, { mb := [39] }, { mb := [39] }, {}, { cr := true }, {}] else [] }
theorem f73_ok (xs : List GLive) (k : Int) (hl : xs.length ≤ 1073741824) (h0 : 0 ≤ k) (hB : (mkS GLive.mar xs k).2 ≤ 4611686018427387904) : FnR Tryz.prog 73 [.v (.im xs.length (flat (mkS GLive.mar xs k).1)), .v (.int .i64 k)] (.v (.int .i64 (mkS GLive.mar xs k).2)) := by
  refine FnW.of_AW TryzT_ok 0 (fn := Tryz.f73) (by kernel_rfl) rfl (by kernel_rfl) rfl rfl rfl ?_
  refine AW_of h73 TryzT_ok (by kernel_rfl) ?_
  simp -dsimp
  have hzl : (mkS GLive.mar xs k).1.length = xs.length := mkS_len xs k
  refine AWh_held GLive.mar GLive.mar_le xs k h0 (fun m i => mkE [(0, .c (.im xs.length (flat (mkS GLive.mar xs k).1))), (1, .c (.int .i64 m)), (5, .c (.int .i64 i))] []) (Wk_to [0, 1, 5] [] rfl rfl (by simp)) ?_ ?_
  · intro i m h1 hn hm hs
    refine AW_of h73 TryzT_ok (by kernel_rfl) ?_
    generalize (mkS GLive.mar xs k).1 = zs at hzl hn
    have h1' : i < zs.length := by omega
    simp only [GLive.mar, mbool] at hs hn
    have wi : IntKind.i64.wrap ((i : Int) + 1) = i + 1 := wrap64 (by omega) (by omega)
    have w0 : IntKind.i64.wrap (m + 1) = m + 1 := wrap64 (by omega) (by omega)
    have w1 : IntKind.i64.wrap (m + 1 + 1) = m + 1 + 1 := wrap64 (by omega) (by omega)
    have w2 : IntKind.i64.wrap (m + 1 + 1 + 1) = m + 1 + 1 + 1 := wrap64 (by omega) (by omega)
    have w3 : IntKind.i64.wrap (m + 1 + 1 + 1 + 1) = m + 1 + 1 + 1 + 1 := wrap64 (by omega) (by omega)
    have w4 : IntKind.i64.wrap (m + 1 + 1 + 1 + 1 + 1) = m + 1 + 1 + 1 + 1 + 1 := wrap64 (by omega) (by omega)
    have w5 : IntKind.i64.wrap (m + 1 + 1 + 1 + 1 + 1 + 1) = m + 1 + 1 + 1 + 1 + 1 + 1 := wrap64 (by omega) (by omega)
    simp -dsimp [h1, h1', hzl, hn, ne_of_lt h1', wi, w0, w1, w2, w3, w4, w5]
    repeat' (first
      | (refine ACallK_of (f168_ok _ (by omega) (by omega)) ?_; simp -dsimp [h1, h1', hzl, hn, ne_of_lt h1', wi, w0, w1, w2, w3, w4, w5])
      | (refine And.intro (by first | omega | trivial) ?_)
      | (intro hneg; exfalso; omega)
      | (refine And.intro (fun hneg => by exfalso; omega) (fun _ => ?_))
      | (intro hpos; clear hpos))
    refine Wk_to [0, 1, 5] [] rfl rfl ?_
    simp -dsimp [GLive.mar, mbool, wi, w0, w1, w2, w3, w4, w5]
  · refine AW_of h73 TryzT_ok (by kernel_rfl) ?_
    simp -dsimp

@[simp] def h68 : Hts := {  }
theorem f68_ok (xs : List GCell) (k : Int) (hl : xs.length ≤ 1073741824) (h0 : 0 ≤ k) (hB : (mkS GCell.mar xs k).2 ≤ 4611686018427387904) : FnW Tryz.prog 68 [.v (.ow 185 8 xs.length (flat xs)), .v (.int .i64 k)] (.v (.int .i64 (mkS GCell.mar xs k).2)) [.v (.ow 185 8 xs.length (flat (mkS GCell.mar xs k).1)), .any] := by
  refine FnW.of_AW TryzT_ok 1 (fn := Tryz.f68) (by kernel_rfl) rfl (by kernel_rfl) rfl rfl rfl ?_
  refine AW_of h68 TryzT_ok (by kernel_rfl) ?_
  simp -dsimp
  refine AWh_mark GCell.mar GCell.mar_le xs k h0 (fun ys m i => mkE [(0, .arr 640000), (1, .c (.int .i64 m)), (5, .c (.int .i64 i))] [(640000, .arr 0 185 8 xs.length (flat ys))]) (Wk_to [0, 1, 5] [(640000, 640000)] rfl rfl (by simp)) ?_ ?_
  · intro i ys m h1 hy hn hm hs
    refine AW_of h68 TryzT_ok (by kernel_rfl) ?_
    have h1' : i < ys.length := by omega
    simp only [GCell.mar] at hs
    have wi : IntKind.i64.wrap ((i : Int) + 1) = i + 1 := wrap64 (by omega) (by omega)
    have w0 : IntKind.i64.wrap (m + 1) = m + 1 := wrap64 (by omega) (by omega)
    have w1 : IntKind.i64.wrap (m + 1 + 1) = m + 1 + 1 := wrap64 (by omega) (by omega)
    have w2 : IntKind.i64.wrap (m + 1 + 1 + 1) = m + 1 + 1 + 1 := wrap64 (by omega) (by omega)
    have w3 : IntKind.i64.wrap (m + 1 + 1 + 1 + 1) = m + 1 + 1 + 1 + 1 := wrap64 (by omega) (by omega)
    have w4 : IntKind.i64.wrap (m + 1 + 1 + 1 + 1 + 1) = m + 1 + 1 + 1 + 1 + 1 := wrap64 (by omega) (by omega)
    have w5 : IntKind.i64.wrap (m + 1 + 1 + 1 + 1 + 1 + 1) = m + 1 + 1 + 1 + 1 + 1 + 1 := wrap64 (by omega) (by omega)
    have w6 : IntKind.i64.wrap (m + 1 + 1 + 1 + 1 + 1 + 1 + 1) = m + 1 + 1 + 1 + 1 + 1 + 1 + 1 := wrap64 (by omega) (by omega)
    have w7 : IntKind.i64.wrap (m + 1 + 1 + 1 + 1 + 1 + 1 + 1 + 1) = m + 1 + 1 + 1 + 1 + 1 + 1 + 1 + 1 := wrap64 (by omega) (by omega)
    simp -dsimp [h1, h1', hy, hn, wi, w0, w1, w2, w3, w4, w5, w6, w7]
    repeat' (first
      | (refine ACallK_of (f168_ok _ (by omega) (by omega)) ?_; simp -dsimp [h1, h1', hy, hn, wi, w0, w1, w2, w3, w4, w5, w6, w7])
      | (refine And.intro (by first | omega | trivial) ?_))
    refine Wk_to [0, 1, 5] [(640000, 640000)] rfl rfl ?_
    simp -dsimp [GCell.mar, mbool, wi, w0, w1, w2, w3, w4, w5, w6, w7]
  · refine AW_of h68 TryzT_ok (by kernel_rfl) ?_
    simp -dsimp

@[simp] def h74 : Hts := { dr := fun id => if id = 4 then [{ mb := [18] }, { mb := [18] }, { mb := [18] }, { mb := [18] }, { mb := [18] }, {}, { cr := true }, {}] else [] }
theorem f74_ok (xs : List GCell) (k : Int) (hl : xs.length ≤ 1073741824) (h0 : 0 ≤ k) (hB : (mkS GCell.mar xs k).2 ≤ 4611686018427387904) : FnR Tryz.prog 74 [.v (.im xs.length (flat (mkS GCell.mar xs k).1)), .v (.int .i64 k)] (.v (.int .i64 (mkS GCell.mar xs k).2)) := by
  refine FnW.of_AW TryzT_ok 0 (fn := Tryz.f74) (by kernel_rfl) rfl (by kernel_rfl) rfl rfl rfl ?_
  refine AW_of h74 TryzT_ok (by kernel_rfl) ?_
  simp -dsimp
  have hzl : (mkS GCell.mar xs k).1.length = xs.length := mkS_len xs k
  refine AWh_held GCell.mar GCell.mar_le xs k h0 (fun m i => mkE [(0, .c (.im xs.length (flat (mkS GCell.mar xs k).1))), (1, .c (.int .i64 m)), (5, .c (.int .i64 i))] []) (Wk_to [0, 1, 5] [] rfl rfl (by simp)) ?_ ?_
  · intro i m h1 hn hm hs
    refine AW_of h74 TryzT_ok (by kernel_rfl) ?_
    generalize (mkS GCell.mar xs k).1 = zs at hzl hn
    have h1' : i < zs.length := by omega
    simp only [GCell.mar, mbool] at hs hn
    have wi : IntKind.i64.wrap ((i : Int) + 1) = i + 1 := wrap64 (by omega) (by omega)
    have w0 : IntKind.i64.wrap (m + 1) = m + 1 := wrap64 (by omega) (by omega)
    have w1 : IntKind.i64.wrap (m + 1 + 1) = m + 1 + 1 := wrap64 (by omega) (by omega)
    have w2 : IntKind.i64.wrap (m + 1 + 1 + 1) = m + 1 + 1 + 1 := wrap64 (by omega) (by omega)
    have w3 : IntKind.i64.wrap (m + 1 + 1 + 1 + 1) = m + 1 + 1 + 1 + 1 := wrap64 (by omega) (by omega)
    have w4 : IntKind.i64.wrap (m + 1 + 1 + 1 + 1 + 1) = m + 1 + 1 + 1 + 1 + 1 := wrap64 (by omega) (by omega)
    have w5 : IntKind.i64.wrap (m + 1 + 1 + 1 + 1 + 1 + 1) = m + 1 + 1 + 1 + 1 + 1 + 1 := wrap64 (by omega) (by omega)
    have w6 : IntKind.i64.wrap (m + 1 + 1 + 1 + 1 + 1 + 1 + 1) = m + 1 + 1 + 1 + 1 + 1 + 1 + 1 := wrap64 (by omega) (by omega)
    have w7 : IntKind.i64.wrap (m + 1 + 1 + 1 + 1 + 1 + 1 + 1 + 1) = m + 1 + 1 + 1 + 1 + 1 + 1 + 1 + 1 := wrap64 (by omega) (by omega)
    simp -dsimp [h1, h1', hzl, hn, ne_of_lt h1', wi, w0, w1, w2, w3, w4, w5, w6, w7]
    repeat' (first
      | (refine ACallK_of (f168_ok _ (by omega) (by omega)) ?_; simp -dsimp [h1, h1', hzl, hn, ne_of_lt h1', wi, w0, w1, w2, w3, w4, w5, w6, w7])
      | (refine And.intro (by first | omega | trivial) ?_)
      | (intro hneg; exfalso; omega)
      | (refine And.intro (fun hneg => by exfalso; omega) (fun _ => ?_))
      | (intro hpos; clear hpos))
    refine Wk_to [0, 1, 5] [] rfl rfl ?_
    simp -dsimp [GCell.mar, mbool, wi, w0, w1, w2, w3, w4, w5, w6, w7]
  · refine AW_of h74 TryzT_ok (by kernel_rfl) ?_
    simp -dsimp

@[simp] def h69 : Hts := { lend := fun f => if f = 65 then [.lend] else [] }
theorem f69_ok (x : GAct) (k : Int) (h : x.Ok) (h0 : 0 ≤ k) (hB : (x.mt k).2 ≤ 4611686018427387904) : FnW Tryz.prog 69 [.agg [.int .i64 x.dot.rep, .int .i64 x.dot.seq, .int .i64 x.time, .ow 3 1 x.knew.length (flat x.knew), .int .i64 x.kind, .str x.obj, .str x.key, .int .i64 x.val, .int .i64 x.ref.rep, .int .i64 x.ref.seq], .v (.int .i64 k)] (.v (.int .i64 (x.mt k).2)) [.agg [.any, .any, .any, .ow 3 1 (x.mt k).1.knew.length (flat (x.mt k).1.knew), .any, .any, .any, .any, .any, .any], .any] := by
  simp only [GAct.Ok] at h
  obtain ⟨o0, o1, o2⟩ := h
  simp only [GAct.mt] at hB ⊢
  have q0 := mkS_le mkInt_le x.knew (k) (by omega)
  refine FnW.of_AW TryzT_ok 1 (fn := Tryz.f69) (by kernel_rfl) rfl (by kernel_rfl) rfl rfl rfl ?_
  refine AW_of h69 TryzT_ok (by kernel_rfl) ?_
  simp -dsimp
  repeat' (first
    | (refine ACallW_args (by intro us; simp -dsimp; exact ⟨rfl, rfl, rfl⟩) ?_; refine ACallC_of (fun us => f65_ok _ _ (by assumption) (by omega) (by omega)) (by intro us; simp -dsimp; exact ⟨rfl, rfl⟩) ?_; simp -dsimp)
    | (refine And.intro (by first | omega | trivial) ?_))

@[simp] def h126 : Hts := {  }
theorem f126_ok (x : GAct) (k : Int) (h : x.Ok) (h0 : 0 ≤ k) (hB : (x.mt k).2 ≤ 4611686018427387904) : FnR Tryz.prog 126 [.agg [.int .i64 (x.mt k).1.dot.rep, .int .i64 (x.mt k).1.dot.seq, .int .i64 (x.mt k).1.time, .im (x.mt k).1.knew.length (flat (x.mt k).1.knew), .int .i64 (x.mt k).1.kind, .str (x.mt k).1.obj, .str (x.mt k).1.key, .int .i64 (x.mt k).1.val, .int .i64 (x.mt k).1.ref.rep, .int .i64 (x.mt k).1.ref.seq], .v (.int .i64 k)] (.v (.int .i64 (x.mt k).2)) := by
  simp only [GAct.Ok] at h
  obtain ⟨o0, o1, o2⟩ := h
  simp only [GAct.mt] at hB ⊢
  have q0 := mkS_le mkInt_le x.knew (k) (by omega)
  refine FnW.of_AW TryzT_ok 0 (fn := Tryz.f126) (by kernel_rfl) rfl (by kernel_rfl) rfl rfl rfl ?_
  refine AW_of h126 TryzT_ok (by kernel_rfl) ?_
  simp -dsimp
  repeat' (first
    | (refine ACallK_of (f71_ok _ _ (by assumption) (by omega) (by omega)) ?_; simp -dsimp)
    | (refine And.intro (fun hneg => by exfalso; omega) (fun _ => ?_))
    | (intro hneg; exfalso; omega)
    | (intro hpos; clear hpos))

@[simp] def h17 : Hts := { lend := fun f => if f = 65 then [.lend] else if f = 66 then [.lend] else if f = 67 then [.lend] else if f = 68 then [.lend] else [] }
theorem f17_ok (x : GState) (k : Int) (h : x.Ok) (h0 : 0 ≤ k) (hB : (x.mt k).2 ≤ 4611686018427387904) : FnW Tryz.prog 17 [.agg [.ow 3 1 x.know.length (flat x.know), .ow 179 3 x.tallies.length (flat x.tallies), .ow 182 6 x.lives.length (flat x.lives), .ow 185 8 x.cs.length (flat x.cs)], .v (.int .i64 k)] (.v (.int .i64 (x.mt k).2)) [.agg [.ow 3 1 (x.mt k).1.know.length (flat (x.mt k).1.know), .ow 179 3 (x.mt k).1.tallies.length (flat (x.mt k).1.tallies), .ow 182 6 (x.mt k).1.lives.length (flat (x.mt k).1.lives), .ow 185 8 (x.mt k).1.cs.length (flat (x.mt k).1.cs)], .any] := by
  simp only [GState.Ok] at h
  obtain ⟨o0, o1, o2, o3, o4, o5, o6⟩ := h
  simp only [GState.mt] at hB ⊢
  have q0 := mkS_le mkInt_le x.know (k) (by omega)
  have q1 := mkS_le GTally.mar_le x.tallies ((mkS mkInt x.know (k)).2) (by omega)
  have q2 := mkS_le GLive.mar_le x.lives ((mkS GTally.mar x.tallies ((mkS mkInt x.know (k)).2)).2) (by omega)
  have q3 := mkS_le GCell.mar_le x.cs ((mkS GLive.mar x.lives ((mkS GTally.mar x.tallies ((mkS mkInt x.know (k)).2)).2)).2) (by omega)
  refine FnW.of_AW TryzT_ok 1 (fn := Tryz.f17) (by kernel_rfl) rfl (by kernel_rfl) rfl rfl rfl ?_
  refine AW_of h17 TryzT_ok (by kernel_rfl) ?_
  simp -dsimp
  repeat' (first
    | (refine ACallW_args (by intro us; simp -dsimp; exact ⟨rfl, rfl, rfl⟩) ?_; refine ACallC_of (fun us => f65_ok _ _ (by assumption) (by omega) (by omega)) (by intro us; simp -dsimp; exact ⟨rfl, rfl⟩) ?_; simp -dsimp)
    | (refine ACallW_args (by intro us; simp -dsimp; exact ⟨rfl, rfl, rfl⟩) ?_; refine ACallC_of (fun us => f66_ok _ _ (by assumption) (by omega) (by omega)) (by intro us; simp -dsimp; exact ⟨rfl, rfl⟩) ?_; simp -dsimp)
    | (refine ACallW_args (by intro us; simp -dsimp; exact ⟨rfl, rfl, rfl⟩) ?_; refine ACallC_of (fun us => f67_ok _ _ (by assumption) (by omega) (by omega)) (by intro us; simp -dsimp; exact ⟨rfl, rfl⟩) ?_; simp -dsimp)
    | (refine ACallW_args (by intro us; simp -dsimp; exact ⟨rfl, rfl, rfl⟩) ?_; refine ACallC_of (fun us => f68_ok _ _ (by assumption) (by omega) (by omega)) (by intro us; simp -dsimp; exact ⟨rfl, rfl⟩) ?_; simp -dsimp)
    | (refine And.intro (by first | omega | trivial) ?_))

@[simp] def h19 : Hts := {  }
theorem f19_ok (x : GState) (k : Int) (h : x.Ok) (h0 : 0 ≤ k) (hB : (x.mt k).2 ≤ 4611686018427387904) : FnR Tryz.prog 19 [.agg [.im (x.mt k).1.know.length (flat (x.mt k).1.know), .im (x.mt k).1.tallies.length (flat (x.mt k).1.tallies), .im (x.mt k).1.lives.length (flat (x.mt k).1.lives), .im (x.mt k).1.cs.length (flat (x.mt k).1.cs)], .v (.int .i64 k)] (.v (.int .i64 (x.mt k).2)) := by
  simp only [GState.Ok] at h
  obtain ⟨o0, o1, o2, o3, o4, o5, o6⟩ := h
  simp only [GState.mt] at hB ⊢
  have q0 := mkS_le mkInt_le x.know (k) (by omega)
  have q1 := mkS_le GTally.mar_le x.tallies ((mkS mkInt x.know (k)).2) (by omega)
  have q2 := mkS_le GLive.mar_le x.lives ((mkS GTally.mar x.tallies ((mkS mkInt x.know (k)).2)).2) (by omega)
  have q3 := mkS_le GCell.mar_le x.cs ((mkS GLive.mar x.lives ((mkS GTally.mar x.tallies ((mkS mkInt x.know (k)).2)).2)).2) (by omega)
  refine FnW.of_AW TryzT_ok 0 (fn := Tryz.f19) (by kernel_rfl) rfl (by kernel_rfl) rfl rfl rfl ?_
  refine AW_of h19 TryzT_ok (by kernel_rfl) ?_
  simp -dsimp
  repeat' (first
    | (refine ACallK_of (f71_ok _ _ (by assumption) (by omega) (by omega)) ?_; simp -dsimp)
    | (refine ACallK_of (f72_ok _ _ (by assumption) (by omega) (by omega)) ?_; simp -dsimp)
    | (refine ACallK_of (f73_ok _ _ (by assumption) (by omega) (by omega)) ?_; simp -dsimp)
    | (refine ACallK_of (f74_ok _ _ (by assumption) (by omega) (by omega)) ?_; simp -dsimp)
    | (refine And.intro (fun hneg => by exfalso; omega) (fun _ => ?_))
    | (intro hneg; exfalso; omega)
    | (intro hpos; clear hpos))

@[simp] def h70 : Hts := { lend := fun f => if f = 65 then [.lend] else if f = 66 then [.lend] else if f = 67 then [.lend] else if f = 68 then [.lend] else if f = 169 then [.lend] else [] }
theorem f70_ok (x : GDelta) (k : Int) (h : x.Ok) (h0 : 0 ≤ k) (hB : (x.mt k).2 ≤ 4611686018427387904) : FnW Tryz.prog 70 [.agg [.ow 3 1 x.base.length (flat x.base), .ow 3 1 x.know.length (flat x.know), .ow 179 3 x.tallies.length (flat x.tallies), .ow 182 6 x.lives.length (flat x.lives), .ow 47 2 x.dead.length (flat x.dead), .ow 185 8 x.cs.length (flat x.cs)], .v (.int .i64 k)] (.v (.int .i64 (x.mt k).2)) [.agg [.ow 3 1 (x.mt k).1.base.length (flat (x.mt k).1.base), .ow 3 1 (x.mt k).1.know.length (flat (x.mt k).1.know), .ow 179 3 (x.mt k).1.tallies.length (flat (x.mt k).1.tallies), .ow 182 6 (x.mt k).1.lives.length (flat (x.mt k).1.lives), .ow 47 2 (x.mt k).1.dead.length (flat (x.mt k).1.dead), .ow 185 8 (x.mt k).1.cs.length (flat (x.mt k).1.cs)], .any] := by
  simp only [GDelta.Ok] at h
  obtain ⟨o0, o1, o2, o3, o4, o5, o6, o7, o8⟩ := h
  simp only [GDelta.mt] at hB ⊢
  have q0 := mkS_le mkInt_le x.base (k) (by omega)
  have q1 := mkS_le mkInt_le x.know ((mkS mkInt x.base (k)).2) (by omega)
  have q2 := mkS_le GTally.mar_le x.tallies ((mkS mkInt x.know ((mkS mkInt x.base (k)).2)).2) (by omega)
  have q3 := mkS_le GLive.mar_le x.lives ((mkS GTally.mar x.tallies ((mkS mkInt x.know ((mkS mkInt x.base (k)).2)).2)).2) (by omega)
  have q4 := mkS_le GDot.mar_le x.dead ((mkS GLive.mar x.lives ((mkS GTally.mar x.tallies ((mkS mkInt x.know ((mkS mkInt x.base (k)).2)).2)).2)).2) (by omega)
  have q5 := mkS_le GCell.mar_le x.cs ((mkS GDot.mar x.dead ((mkS GLive.mar x.lives ((mkS GTally.mar x.tallies ((mkS mkInt x.know ((mkS mkInt x.base (k)).2)).2)).2)).2)).2) (by omega)
  refine FnW.of_AW TryzT_ok 1 (fn := Tryz.f70) (by kernel_rfl) rfl (by kernel_rfl) rfl rfl rfl ?_
  refine AW_of h70 TryzT_ok (by kernel_rfl) ?_
  simp -dsimp
  repeat' (first
    | (refine ACallW_args (by intro us; simp -dsimp; exact ⟨rfl, rfl, rfl⟩) ?_; refine ACallC_of (fun us => f65_ok _ _ (by assumption) (by omega) (by omega)) (by intro us; simp -dsimp; exact ⟨rfl, rfl⟩) ?_; simp -dsimp)
    | (refine ACallW_args (by intro us; simp -dsimp; exact ⟨rfl, rfl, rfl⟩) ?_; refine ACallC_of (fun us => f66_ok _ _ (by assumption) (by omega) (by omega)) (by intro us; simp -dsimp; exact ⟨rfl, rfl⟩) ?_; simp -dsimp)
    | (refine ACallW_args (by intro us; simp -dsimp; exact ⟨rfl, rfl, rfl⟩) ?_; refine ACallC_of (fun us => f67_ok _ _ (by assumption) (by omega) (by omega)) (by intro us; simp -dsimp; exact ⟨rfl, rfl⟩) ?_; simp -dsimp)
    | (refine ACallW_args (by intro us; simp -dsimp; exact ⟨rfl, rfl, rfl⟩) ?_; refine ACallC_of (fun us => f169_ok _ _ (by assumption) (by omega) (by omega)) (by intro us; simp -dsimp; exact ⟨rfl, rfl⟩) ?_; simp -dsimp)
    | (refine ACallW_args (by intro us; simp -dsimp; exact ⟨rfl, rfl, rfl⟩) ?_; refine ACallC_of (fun us => f68_ok _ _ (by assumption) (by omega) (by omega)) (by intro us; simp -dsimp; exact ⟨rfl, rfl⟩) ?_; simp -dsimp)
    | (refine And.intro (by first | omega | trivial) ?_))

@[simp] def h127 : Hts := {  }
theorem f127_ok (x : GDelta) (k : Int) (h : x.Ok) (h0 : 0 ≤ k) (hB : (x.mt k).2 ≤ 4611686018427387904) : FnR Tryz.prog 127 [.agg [.im (x.mt k).1.base.length (flat (x.mt k).1.base), .im (x.mt k).1.know.length (flat (x.mt k).1.know), .im (x.mt k).1.tallies.length (flat (x.mt k).1.tallies), .im (x.mt k).1.lives.length (flat (x.mt k).1.lives), .im (x.mt k).1.dead.length (flat (x.mt k).1.dead), .im (x.mt k).1.cs.length (flat (x.mt k).1.cs)], .v (.int .i64 k)] (.v (.int .i64 (x.mt k).2)) := by
  simp only [GDelta.Ok] at h
  obtain ⟨o0, o1, o2, o3, o4, o5, o6, o7, o8⟩ := h
  simp only [GDelta.mt] at hB ⊢
  have q0 := mkS_le mkInt_le x.base (k) (by omega)
  have q1 := mkS_le mkInt_le x.know ((mkS mkInt x.base (k)).2) (by omega)
  have q2 := mkS_le GTally.mar_le x.tallies ((mkS mkInt x.know ((mkS mkInt x.base (k)).2)).2) (by omega)
  have q3 := mkS_le GLive.mar_le x.lives ((mkS GTally.mar x.tallies ((mkS mkInt x.know ((mkS mkInt x.base (k)).2)).2)).2) (by omega)
  have q4 := mkS_le GDot.mar_le x.dead ((mkS GLive.mar x.lives ((mkS GTally.mar x.tallies ((mkS mkInt x.know ((mkS mkInt x.base (k)).2)).2)).2)).2) (by omega)
  have q5 := mkS_le GCell.mar_le x.cs ((mkS GDot.mar x.dead ((mkS GLive.mar x.lives ((mkS GTally.mar x.tallies ((mkS mkInt x.know ((mkS mkInt x.base (k)).2)).2)).2)).2)).2) (by omega)
  refine FnW.of_AW TryzT_ok 0 (fn := Tryz.f127) (by kernel_rfl) rfl (by kernel_rfl) rfl rfl rfl ?_
  refine AW_of h127 TryzT_ok (by kernel_rfl) ?_
  simp -dsimp
  repeat' (first
    | (refine ACallK_of (f71_ok _ _ (by assumption) (by omega) (by omega)) ?_; simp -dsimp)
    | (refine ACallK_of (f72_ok _ _ (by assumption) (by omega) (by omega)) ?_; simp -dsimp)
    | (refine ACallK_of (f73_ok _ _ (by assumption) (by omega) (by omega)) ?_; simp -dsimp)
    | (refine ACallK_of (f211_ok _ _ (by assumption) (by omega) (by omega)) ?_; simp -dsimp)
    | (refine ACallK_of (f74_ok _ _ (by assumption) (by omega) (by omega)) ?_; simp -dsimp)
    | (refine And.intro (fun hneg => by exfalso; omega) (fun _ => ?_))
    | (intro hneg; exfalso; omega)
    | (intro hpos; clear hpos))

@[simp] def h84 : Hts := { lend := fun f => if f = 65 then [.lend] else if f = 66 then [.lend] else if f = 67 then [.lend] else if f = 68 then [.lend] else [] }
theorem f84_ok (xs : List GCommit) (k : Int) (hl : xs.length ≤ 1073741824) (h0 : 0 ≤ k) (hB : (mkS GCommit.mar xs k).2 ≤ 4611686018427387904) (he : ∀ x, x ∈ xs → x.Ok) : FnW Tryz.prog 84 [.v (.ow 129 7 xs.length (flatO xs)), .v (.int .i64 k)] (.v (.int .i64 (mkS GCommit.mar xs k).2)) [.v (.ow 129 7 xs.length (flatO (mkS GCommit.mar xs k).1)), .any] := by
  refine FnW.of_AW TryzT_ok 1 (fn := Tryz.f84) (by kernel_rfl) rfl (by kernel_rfl) rfl rfl rfl ?_
  refine AW_of h84 TryzT_ok (by kernel_rfl) ?_
  simp -dsimp
  refine AWh_mark GCommit.mar GCommit.mar_le xs k h0 (fun ys m i => mkE [(0, .arr 640000), (1, .c (.int .i64 m)), (5, .c (.int .i64 i))] [(640000, .arr 0 129 7 xs.length (flatO ys))]) (Wk_to [0, 1, 5] [(640000, 640000)] rfl rfl (by simp)) ?_ ?_
  · intro i ys m h1 hy hn hm hs
    refine AW_of h84 TryzT_ok (by kernel_rfl) ?_
    have h1' : i < ys.length := by omega
    have hme := nth_mem h1
    replace he := he _ hme
    simp only [GCommit.Ok, GState.Ok, and_assoc] at he
    obtain ⟨o0, o1, o2, o3, o4, o5, o6, o7⟩ := he
    simp only [GCommit.mar] at hs
    have q2 := mkS_le mkInt_le (nth xs i).ups (m + 1 + 1) (by omega)
    have q3 := mkS_le mkInt_le (nth xs i).state.know ((mkS mkInt (nth xs i).ups (m + 1 + 1)).2) (by omega)
    have q4 := mkS_le GTally.mar_le (nth xs i).state.tallies ((mkS mkInt (nth xs i).state.know ((mkS mkInt (nth xs i).ups (m + 1 + 1)).2)).2) (by omega)
    have q5 := mkS_le GLive.mar_le (nth xs i).state.lives ((mkS GTally.mar (nth xs i).state.tallies ((mkS mkInt (nth xs i).state.know ((mkS mkInt (nth xs i).ups (m + 1 + 1)).2)).2)).2) (by omega)
    have q6 := mkS_le GCell.mar_le (nth xs i).state.cs ((mkS GLive.mar (nth xs i).state.lives ((mkS GTally.mar (nth xs i).state.tallies ((mkS mkInt (nth xs i).state.know ((mkS mkInt (nth xs i).ups (m + 1 + 1)).2)).2)).2)).2) (by omega)
    have wi : IntKind.i64.wrap ((i : Int) + 1) = i + 1 := wrap64 (by omega) (by omega)
    have w0 : IntKind.i64.wrap (m + 1) = m + 1 := wrap64 (by omega) (by omega)
    have w1 : IntKind.i64.wrap (m + 1 + 1) = m + 1 + 1 := wrap64 (by omega) (by omega)
    simp -dsimp [h1, h1', hy, hn, wi, w0, w1]
    repeat' (first
      | (refine ACallW_args (by intro us; simp -dsimp [h1, h1', hy, hn]; exact ⟨rfl, rfl, rfl⟩) ?_; refine ACallC_of (fun us => f65_ok _ _ (by assumption) (by omega) (by omega)) (by intro us; simp -dsimp [h1, h1', hy, hn]; exact ⟨rfl, rfl⟩) ?_; simp -dsimp [h1, h1', hy, hn, wi, w0, w1])
      | (refine ACallW_args (by intro us; simp -dsimp [h1, h1', hy, hn]; exact ⟨rfl, rfl, rfl⟩) ?_; refine ACallC_of (fun us => f66_ok _ _ (by assumption) (by omega) (by omega)) (by intro us; simp -dsimp [h1, h1', hy, hn]; exact ⟨rfl, rfl⟩) ?_; simp -dsimp [h1, h1', hy, hn, wi, w0, w1])
      | (refine ACallW_args (by intro us; simp -dsimp [h1, h1', hy, hn]; exact ⟨rfl, rfl, rfl⟩) ?_; refine ACallC_of (fun us => f67_ok _ _ (by assumption) (by omega) (by omega)) (by intro us; simp -dsimp [h1, h1', hy, hn]; exact ⟨rfl, rfl⟩) ?_; simp -dsimp [h1, h1', hy, hn, wi, w0, w1])
      | (refine ACallW_args (by intro us; simp -dsimp [h1, h1', hy, hn]; exact ⟨rfl, rfl, rfl⟩) ?_; refine ACallC_of (fun us => f68_ok _ _ (by assumption) (by omega) (by omega)) (by intro us; simp -dsimp [h1, h1', hy, hn]; exact ⟨rfl, rfl⟩) ?_; simp -dsimp [h1, h1', hy, hn, wi, w0, w1])
      | (refine And.intro (by first | omega | trivial) ?_))
    refine Wk_to [0, 1, 5] [(640000, 640000)] rfl rfl ?_
    simp -dsimp [GCommit.mar, mbool, wi, w0, w1]
  · refine AW_of h84 TryzT_ok (by kernel_rfl) ?_
    simp -dsimp

@[simp] def h111 : Hts := {  }
theorem f111_ok (xs : List GCommit) (k : Int) (hl : xs.length ≤ 1073741824) (h0 : 0 ≤ k) (hB : (mkS GCommit.mar xs k).2 ≤ 4611686018427387904) (he : ∀ x, x ∈ xs → x.Ok) : FnR Tryz.prog 111 [.v (.im xs.length (flat (mkS GCommit.mar xs k).1)), .v (.int .i64 k)] (.v (.int .i64 (mkS GCommit.mar xs k).2)) := by
  refine FnW.of_AW TryzT_ok 0 (fn := Tryz.f111) (by kernel_rfl) rfl (by kernel_rfl) rfl rfl rfl ?_
  refine AW_of h111 TryzT_ok (by kernel_rfl) ?_
  simp -dsimp
  have hzl : (mkS GCommit.mar xs k).1.length = xs.length := mkS_len xs k
  refine AWh_held GCommit.mar GCommit.mar_le xs k h0 (fun m i => mkE [(0, .c (.im xs.length (flat (mkS GCommit.mar xs k).1))), (1, .c (.int .i64 m)), (5, .c (.int .i64 i))] []) (Wk_to [0, 1, 5] [] rfl rfl (by simp)) ?_ ?_
  · intro i m h1 hn hm hs
    refine AW_of h111 TryzT_ok (by kernel_rfl) ?_
    generalize (mkS GCommit.mar xs k).1 = zs at hzl hn
    have h1' : i < zs.length := by omega
    replace he := he _ (nth_mem h1)
    simp only [GCommit.Ok, GState.Ok, and_assoc] at he
    obtain ⟨o0, o1, o2, o3, o4, o5, o6, o7⟩ := he
    simp only [GCommit.mar, mbool] at hs hn
    have q2 := mkS_le mkInt_le (nth xs i).ups (m + 1 + 1) (by omega)
    have q3 := mkS_le mkInt_le (nth xs i).state.know ((mkS mkInt (nth xs i).ups (m + 1 + 1)).2) (by omega)
    have q4 := mkS_le GTally.mar_le (nth xs i).state.tallies ((mkS mkInt (nth xs i).state.know ((mkS mkInt (nth xs i).ups (m + 1 + 1)).2)).2) (by omega)
    have q5 := mkS_le GLive.mar_le (nth xs i).state.lives ((mkS GTally.mar (nth xs i).state.tallies ((mkS mkInt (nth xs i).state.know ((mkS mkInt (nth xs i).ups (m + 1 + 1)).2)).2)).2) (by omega)
    have q6 := mkS_le GCell.mar_le (nth xs i).state.cs ((mkS GLive.mar (nth xs i).state.lives ((mkS GTally.mar (nth xs i).state.tallies ((mkS mkInt (nth xs i).state.know ((mkS mkInt (nth xs i).ups (m + 1 + 1)).2)).2)).2)).2) (by omega)
    have wi : IntKind.i64.wrap ((i : Int) + 1) = i + 1 := wrap64 (by omega) (by omega)
    have w0 : IntKind.i64.wrap (m + 1) = m + 1 := wrap64 (by omega) (by omega)
    have w1 : IntKind.i64.wrap (m + 1 + 1) = m + 1 + 1 := wrap64 (by omega) (by omega)
    simp -dsimp [h1, h1', hzl, hn, ne_of_lt h1', wi, w0, w1]
    repeat' (first
      | (refine ACallK_of (f71_ok _ _ (by assumption) (by omega) (by omega)) ?_; simp -dsimp [h1, h1', hzl, hn, ne_of_lt h1', wi, w0, w1])
      | (refine ACallK_of (f72_ok _ _ (by assumption) (by omega) (by omega)) ?_; simp -dsimp [h1, h1', hzl, hn, ne_of_lt h1', wi, w0, w1])
      | (refine ACallK_of (f73_ok _ _ (by assumption) (by omega) (by omega)) ?_; simp -dsimp [h1, h1', hzl, hn, ne_of_lt h1', wi, w0, w1])
      | (refine ACallK_of (f74_ok _ _ (by assumption) (by omega) (by omega)) ?_; simp -dsimp [h1, h1', hzl, hn, ne_of_lt h1', wi, w0, w1])
      | (refine And.intro (by first | omega | trivial) ?_)
      | (intro hneg; exfalso; omega)
      | (refine And.intro (fun hneg => by exfalso; omega) (fun _ => ?_))
      | (intro hpos; clear hpos))
    refine Wk_to [0, 1, 5] [] rfl rfl ?_
    simp -dsimp [GCommit.mar, mbool, wi, w0, w1]
  · refine AW_of h111 TryzT_ok (by kernel_rfl) ?_
    simp -dsimp

@[simp] def h25 : Hts := { lend := fun f => if f = 84 then [.lend] else [] }
theorem f25_ok (x : GGraph) (k : Int) (h : x.Ok) (h0 : 0 ≤ k) (hB : (x.mt k).2 ≤ 4611686018427387904) : FnW Tryz.prog 25 [.agg [.ow 129 7 x.commits.length (flatO x.commits), .int .i64 x.head], .v (.int .i64 k)] (.v (.int .i64 (x.mt k).2)) [.agg [.ow 129 7 (x.mt k).1.commits.length (flatO (x.mt k).1.commits), .any], .any] := by
  simp only [GGraph.Ok] at h
  obtain ⟨o0, o1⟩ := h
  simp only [GGraph.mt] at hB ⊢
  have q0 := mkS_le GCommit.mar_le x.commits (k) (by omega)
  refine FnW.of_AW TryzT_ok 1 (fn := Tryz.f25) (by kernel_rfl) rfl (by kernel_rfl) rfl rfl rfl ?_
  refine AW_of h25 TryzT_ok (by kernel_rfl) ?_
  simp -dsimp
  repeat' (first
    | (refine ACallW_args (by intro us; simp -dsimp; exact ⟨rfl, rfl, rfl⟩) ?_; refine ACallC_of (fun us => f84_ok _ _ (by assumption) (by omega) (by omega) (by assumption)) (by intro us; simp -dsimp; exact ⟨rfl, rfl⟩) ?_; simp -dsimp)
    | (refine And.intro (by first | omega | trivial) ?_))

@[simp] def h33 : Hts := {  }
theorem f33_ok (x : GGraph) (k : Int) (h : x.Ok) (h0 : 0 ≤ k) (hB : (x.mt k).2 ≤ 4611686018427387904) : FnR Tryz.prog 33 [.agg [.im (x.mt k).1.commits.length (flat (x.mt k).1.commits), .int .i64 (x.mt k).1.head], .v (.int .i64 k)] (.v (.int .i64 (x.mt k).2)) := by
  simp only [GGraph.Ok] at h
  obtain ⟨o0, o1⟩ := h
  simp only [GGraph.mt] at hB ⊢
  have q0 := mkS_le GCommit.mar_le x.commits (k) (by omega)
  refine FnW.of_AW TryzT_ok 0 (fn := Tryz.f33) (by kernel_rfl) rfl (by kernel_rfl) rfl rfl rfl ?_
  refine AW_of h33 TryzT_ok (by kernel_rfl) ?_
  simp -dsimp
  repeat' (first
    | (refine ACallK_of (f111_ok _ _ (by assumption) (by omega) (by omega) (by assumption)) ?_; simp -dsimp)
    | (refine And.intro (fun hneg => by exfalso; omega) (fun _ => ?_))
    | (intro hneg; exfalso; omega)
    | (intro hpos; clear hpos))

@[simp] def h121 : Hts := { lend := fun f => if f = 65 then [.lend] else if f = 66 then [.lend] else if f = 67 then [.lend] else if f = 68 then [.lend] else if f = 169 then [.lend] else [] }
theorem f121_ok (xs : List GUnit) (k : Int) (hl : xs.length ≤ 1073741824) (h0 : 0 ≤ k) (hB : (mkS GUnit.mar xs k).2 ≤ 4611686018427387904) (he : ∀ x, x ∈ xs → x.Ok) : FnW Tryz.prog 121 [.v (.ow 54 17 xs.length (flatO xs)), .v (.int .i64 k)] (.v (.int .i64 (mkS GUnit.mar xs k).2)) [.v (.ow 54 17 xs.length (flatO (mkS GUnit.mar xs k).1)), .any] := by
  refine FnW.of_AW TryzT_ok 1 (fn := Tryz.f121) (by kernel_rfl) rfl (by kernel_rfl) rfl rfl rfl ?_
  refine AW_of h121 TryzT_ok (by kernel_rfl) ?_
  simp -dsimp
  refine AWh_mark GUnit.mar GUnit.mar_le xs k h0 (fun ys m i => mkE [(0, .arr 640000), (1, .c (.int .i64 m)), (5, .c (.int .i64 i))] [(640000, .arr 0 54 17 xs.length (flatO ys))]) (Wk_to [0, 1, 5] [(640000, 640000)] rfl rfl (by simp)) ?_ ?_
  · intro i ys m h1 hy hn hm hs
    refine AW_of h121 TryzT_ok (by kernel_rfl) ?_
    have h1' : i < ys.length := by omega
    have hme := nth_mem h1
    replace he := he _ hme
    simp only [GUnit.Ok, GAct.Ok, GDelta.Ok, and_assoc] at he
    obtain ⟨o0, o1, o2, o3, o4, o5, o6, o7, o8, o9, o10, o11⟩ := he
    simp only [GUnit.mar] at hs
    have q4 := mkS_le mkInt_le (nth xs i).act.knew (m + 1 + 1 + 1 + 1) (by omega)
    have q11 := mkS_le mkInt_le (nth xs i).delta.base ((mkS mkInt (nth xs i).act.knew (m + 1 + 1 + 1 + 1)).2 + 1 + 1 + 1 + 1 + 1 + 1) (by omega)
    have q12 := mkS_le mkInt_le (nth xs i).delta.know ((mkS mkInt (nth xs i).delta.base ((mkS mkInt (nth xs i).act.knew (m + 1 + 1 + 1 + 1)).2 + 1 + 1 + 1 + 1 + 1 + 1)).2) (by omega)
    have q13 := mkS_le GTally.mar_le (nth xs i).delta.tallies ((mkS mkInt (nth xs i).delta.know ((mkS mkInt (nth xs i).delta.base ((mkS mkInt (nth xs i).act.knew (m + 1 + 1 + 1 + 1)).2 + 1 + 1 + 1 + 1 + 1 + 1)).2)).2) (by omega)
    have q14 := mkS_le GLive.mar_le (nth xs i).delta.lives ((mkS GTally.mar (nth xs i).delta.tallies ((mkS mkInt (nth xs i).delta.know ((mkS mkInt (nth xs i).delta.base ((mkS mkInt (nth xs i).act.knew (m + 1 + 1 + 1 + 1)).2 + 1 + 1 + 1 + 1 + 1 + 1)).2)).2)).2) (by omega)
    have q15 := mkS_le GDot.mar_le (nth xs i).delta.dead ((mkS GLive.mar (nth xs i).delta.lives ((mkS GTally.mar (nth xs i).delta.tallies ((mkS mkInt (nth xs i).delta.know ((mkS mkInt (nth xs i).delta.base ((mkS mkInt (nth xs i).act.knew (m + 1 + 1 + 1 + 1)).2 + 1 + 1 + 1 + 1 + 1 + 1)).2)).2)).2)).2) (by omega)
    have q16 := mkS_le GCell.mar_le (nth xs i).delta.cs ((mkS GDot.mar (nth xs i).delta.dead ((mkS GLive.mar (nth xs i).delta.lives ((mkS GTally.mar (nth xs i).delta.tallies ((mkS mkInt (nth xs i).delta.know ((mkS mkInt (nth xs i).delta.base ((mkS mkInt (nth xs i).act.knew (m + 1 + 1 + 1 + 1)).2 + 1 + 1 + 1 + 1 + 1 + 1)).2)).2)).2)).2)).2) (by omega)
    have wi : IntKind.i64.wrap ((i : Int) + 1) = i + 1 := wrap64 (by omega) (by omega)
    have w0 : IntKind.i64.wrap (m + 1) = m + 1 := wrap64 (by omega) (by omega)
    have w1 : IntKind.i64.wrap (m + 1 + 1) = m + 1 + 1 := wrap64 (by omega) (by omega)
    have w2 : IntKind.i64.wrap (m + 1 + 1 + 1) = m + 1 + 1 + 1 := wrap64 (by omega) (by omega)
    have w3 : IntKind.i64.wrap (m + 1 + 1 + 1 + 1) = m + 1 + 1 + 1 + 1 := wrap64 (by omega) (by omega)
    have w4 : IntKind.i64.wrap ((mkS mkInt (nth xs i).act.knew (m + 1 + 1 + 1 + 1)).2 + 1) = (mkS mkInt (nth xs i).act.knew (m + 1 + 1 + 1 + 1)).2 + 1 := wrap64 (by omega) (by omega)
    have w5 : IntKind.i64.wrap ((mkS mkInt (nth xs i).act.knew (m + 1 + 1 + 1 + 1)).2 + 1 + 1) = (mkS mkInt (nth xs i).act.knew (m + 1 + 1 + 1 + 1)).2 + 1 + 1 := wrap64 (by omega) (by omega)
    have w6 : IntKind.i64.wrap ((mkS mkInt (nth xs i).act.knew (m + 1 + 1 + 1 + 1)).2 + 1 + 1 + 1) = (mkS mkInt (nth xs i).act.knew (m + 1 + 1 + 1 + 1)).2 + 1 + 1 + 1 := wrap64 (by omega) (by omega)
    have w7 : IntKind.i64.wrap ((mkS mkInt (nth xs i).act.knew (m + 1 + 1 + 1 + 1)).2 + 1 + 1 + 1 + 1) = (mkS mkInt (nth xs i).act.knew (m + 1 + 1 + 1 + 1)).2 + 1 + 1 + 1 + 1 := wrap64 (by omega) (by omega)
    have w8 : IntKind.i64.wrap ((mkS mkInt (nth xs i).act.knew (m + 1 + 1 + 1 + 1)).2 + 1 + 1 + 1 + 1 + 1) = (mkS mkInt (nth xs i).act.knew (m + 1 + 1 + 1 + 1)).2 + 1 + 1 + 1 + 1 + 1 := wrap64 (by omega) (by omega)
    have w9 : IntKind.i64.wrap ((mkS mkInt (nth xs i).act.knew (m + 1 + 1 + 1 + 1)).2 + 1 + 1 + 1 + 1 + 1 + 1) = (mkS mkInt (nth xs i).act.knew (m + 1 + 1 + 1 + 1)).2 + 1 + 1 + 1 + 1 + 1 + 1 := wrap64 (by omega) (by omega)
    simp -dsimp [h1, h1', hy, hn, wi, w0, w1, w2, w3, w4, w5, w6, w7, w8, w9]
    repeat' (first
      | (refine ACallK_of (f168_ok _ (by omega) (by omega)) ?_; simp -dsimp [h1, h1', hy, hn, wi, w0, w1, w2, w3, w4, w5, w6, w7, w8, w9])
      | (refine ACallW_args (by intro us; simp -dsimp [h1, h1', hy, hn]; exact ⟨rfl, rfl, rfl⟩) ?_; refine ACallC_of (fun us => f65_ok _ _ (by assumption) (by omega) (by omega)) (by intro us; simp -dsimp [h1, h1', hy, hn]; exact ⟨rfl, rfl⟩) ?_; simp -dsimp [h1, h1', hy, hn, wi, w0, w1, w2, w3, w4, w5, w6, w7, w8, w9])
      | (refine ACallW_args (by intro us; simp -dsimp [h1, h1', hy, hn]; exact ⟨rfl, rfl, rfl⟩) ?_; refine ACallC_of (fun us => f66_ok _ _ (by assumption) (by omega) (by omega)) (by intro us; simp -dsimp [h1, h1', hy, hn]; exact ⟨rfl, rfl⟩) ?_; simp -dsimp [h1, h1', hy, hn, wi, w0, w1, w2, w3, w4, w5, w6, w7, w8, w9])
      | (refine ACallW_args (by intro us; simp -dsimp [h1, h1', hy, hn]; exact ⟨rfl, rfl, rfl⟩) ?_; refine ACallC_of (fun us => f67_ok _ _ (by assumption) (by omega) (by omega)) (by intro us; simp -dsimp [h1, h1', hy, hn]; exact ⟨rfl, rfl⟩) ?_; simp -dsimp [h1, h1', hy, hn, wi, w0, w1, w2, w3, w4, w5, w6, w7, w8, w9])
      | (refine ACallW_args (by intro us; simp -dsimp [h1, h1', hy, hn]; exact ⟨rfl, rfl, rfl⟩) ?_; refine ACallC_of (fun us => f169_ok _ _ (by assumption) (by omega) (by omega)) (by intro us; simp -dsimp [h1, h1', hy, hn]; exact ⟨rfl, rfl⟩) ?_; simp -dsimp [h1, h1', hy, hn, wi, w0, w1, w2, w3, w4, w5, w6, w7, w8, w9])
      | (refine ACallW_args (by intro us; simp -dsimp [h1, h1', hy, hn]; exact ⟨rfl, rfl, rfl⟩) ?_; refine ACallC_of (fun us => f68_ok _ _ (by assumption) (by omega) (by omega)) (by intro us; simp -dsimp [h1, h1', hy, hn]; exact ⟨rfl, rfl⟩) ?_; simp -dsimp [h1, h1', hy, hn, wi, w0, w1, w2, w3, w4, w5, w6, w7, w8, w9])
      | (refine And.intro (by first | omega | trivial) ?_))
    refine Wk_to [0, 1, 5] [(640000, 640000)] rfl rfl ?_
    simp -dsimp [GUnit.mar, mbool, wi, w0, w1, w2, w3, w4, w5, w6, w7, w8, w9]
  · refine AW_of h121 TryzT_ok (by kernel_rfl) ?_
    simp -dsimp

@[simp] def h122 : Hts := { dr := fun id => if id = 22 then [{ mb := [82] }, { mb := [82] }, { mb := [82] }, { mb := [82] }, { mb := [82] }, { mb := [82] }, {}, { cr := true }, {}] else if id = 25 then [{ mb := [93] }, { mb := [93] }, { mb := [93] }, { mb := [93] }, { mb := [93] }, { mb := [93] }, {}, { cr := true }, {}] else [] }
theorem f122_ok (xs : List GUnit) (k : Int) (hl : xs.length ≤ 1073741824) (h0 : 0 ≤ k) (hB : (mkS GUnit.mar xs k).2 ≤ 4611686018427387904) (he : ∀ x, x ∈ xs → x.Ok) : FnR Tryz.prog 122 [.v (.im xs.length (flat (mkS GUnit.mar xs k).1)), .v (.int .i64 k)] (.v (.int .i64 (mkS GUnit.mar xs k).2)) := by
  refine FnW.of_AW TryzT_ok 0 (fn := Tryz.f122) (by kernel_rfl) rfl (by kernel_rfl) rfl rfl rfl ?_
  refine AW_of h122 TryzT_ok (by kernel_rfl) ?_
  simp -dsimp
  have hzl : (mkS GUnit.mar xs k).1.length = xs.length := mkS_len xs k
  refine AWh_held GUnit.mar GUnit.mar_le xs k h0 (fun m i => mkE [(0, .c (.im xs.length (flat (mkS GUnit.mar xs k).1))), (1, .c (.int .i64 m)), (5, .c (.int .i64 i))] []) (Wk_to [0, 1, 5] [] rfl rfl (by simp)) ?_ ?_
  · intro i m h1 hn hm hs
    refine AW_of h122 TryzT_ok (by kernel_rfl) ?_
    generalize (mkS GUnit.mar xs k).1 = zs at hzl hn
    have h1' : i < zs.length := by omega
    replace he := he _ (nth_mem h1)
    simp only [GUnit.Ok, GAct.Ok, GDelta.Ok, and_assoc] at he
    obtain ⟨o0, o1, o2, o3, o4, o5, o6, o7, o8, o9, o10, o11⟩ := he
    simp only [GUnit.mar, mbool] at hs hn
    have q4 := mkS_le mkInt_le (nth xs i).act.knew (m + 1 + 1 + 1 + 1) (by omega)
    have q11 := mkS_le mkInt_le (nth xs i).delta.base ((mkS mkInt (nth xs i).act.knew (m + 1 + 1 + 1 + 1)).2 + 1 + 1 + 1 + 1 + 1 + 1) (by omega)
    have q12 := mkS_le mkInt_le (nth xs i).delta.know ((mkS mkInt (nth xs i).delta.base ((mkS mkInt (nth xs i).act.knew (m + 1 + 1 + 1 + 1)).2 + 1 + 1 + 1 + 1 + 1 + 1)).2) (by omega)
    have q13 := mkS_le GTally.mar_le (nth xs i).delta.tallies ((mkS mkInt (nth xs i).delta.know ((mkS mkInt (nth xs i).delta.base ((mkS mkInt (nth xs i).act.knew (m + 1 + 1 + 1 + 1)).2 + 1 + 1 + 1 + 1 + 1 + 1)).2)).2) (by omega)
    have q14 := mkS_le GLive.mar_le (nth xs i).delta.lives ((mkS GTally.mar (nth xs i).delta.tallies ((mkS mkInt (nth xs i).delta.know ((mkS mkInt (nth xs i).delta.base ((mkS mkInt (nth xs i).act.knew (m + 1 + 1 + 1 + 1)).2 + 1 + 1 + 1 + 1 + 1 + 1)).2)).2)).2) (by omega)
    have q15 := mkS_le GDot.mar_le (nth xs i).delta.dead ((mkS GLive.mar (nth xs i).delta.lives ((mkS GTally.mar (nth xs i).delta.tallies ((mkS mkInt (nth xs i).delta.know ((mkS mkInt (nth xs i).delta.base ((mkS mkInt (nth xs i).act.knew (m + 1 + 1 + 1 + 1)).2 + 1 + 1 + 1 + 1 + 1 + 1)).2)).2)).2)).2) (by omega)
    have q16 := mkS_le GCell.mar_le (nth xs i).delta.cs ((mkS GDot.mar (nth xs i).delta.dead ((mkS GLive.mar (nth xs i).delta.lives ((mkS GTally.mar (nth xs i).delta.tallies ((mkS mkInt (nth xs i).delta.know ((mkS mkInt (nth xs i).delta.base ((mkS mkInt (nth xs i).act.knew (m + 1 + 1 + 1 + 1)).2 + 1 + 1 + 1 + 1 + 1 + 1)).2)).2)).2)).2)).2) (by omega)
    have wi : IntKind.i64.wrap ((i : Int) + 1) = i + 1 := wrap64 (by omega) (by omega)
    have w0 : IntKind.i64.wrap (m + 1) = m + 1 := wrap64 (by omega) (by omega)
    have w1 : IntKind.i64.wrap (m + 1 + 1) = m + 1 + 1 := wrap64 (by omega) (by omega)
    have w2 : IntKind.i64.wrap (m + 1 + 1 + 1) = m + 1 + 1 + 1 := wrap64 (by omega) (by omega)
    have w3 : IntKind.i64.wrap (m + 1 + 1 + 1 + 1) = m + 1 + 1 + 1 + 1 := wrap64 (by omega) (by omega)
    have w4 : IntKind.i64.wrap ((mkS mkInt (nth xs i).act.knew (m + 1 + 1 + 1 + 1)).2 + 1) = (mkS mkInt (nth xs i).act.knew (m + 1 + 1 + 1 + 1)).2 + 1 := wrap64 (by omega) (by omega)
    have w5 : IntKind.i64.wrap ((mkS mkInt (nth xs i).act.knew (m + 1 + 1 + 1 + 1)).2 + 1 + 1) = (mkS mkInt (nth xs i).act.knew (m + 1 + 1 + 1 + 1)).2 + 1 + 1 := wrap64 (by omega) (by omega)
    have w6 : IntKind.i64.wrap ((mkS mkInt (nth xs i).act.knew (m + 1 + 1 + 1 + 1)).2 + 1 + 1 + 1) = (mkS mkInt (nth xs i).act.knew (m + 1 + 1 + 1 + 1)).2 + 1 + 1 + 1 := wrap64 (by omega) (by omega)
    have w7 : IntKind.i64.wrap ((mkS mkInt (nth xs i).act.knew (m + 1 + 1 + 1 + 1)).2 + 1 + 1 + 1 + 1) = (mkS mkInt (nth xs i).act.knew (m + 1 + 1 + 1 + 1)).2 + 1 + 1 + 1 + 1 := wrap64 (by omega) (by omega)
    have w8 : IntKind.i64.wrap ((mkS mkInt (nth xs i).act.knew (m + 1 + 1 + 1 + 1)).2 + 1 + 1 + 1 + 1 + 1) = (mkS mkInt (nth xs i).act.knew (m + 1 + 1 + 1 + 1)).2 + 1 + 1 + 1 + 1 + 1 := wrap64 (by omega) (by omega)
    have w9 : IntKind.i64.wrap ((mkS mkInt (nth xs i).act.knew (m + 1 + 1 + 1 + 1)).2 + 1 + 1 + 1 + 1 + 1 + 1) = (mkS mkInt (nth xs i).act.knew (m + 1 + 1 + 1 + 1)).2 + 1 + 1 + 1 + 1 + 1 + 1 := wrap64 (by omega) (by omega)
    simp -dsimp [h1, h1', hzl, hn, ne_of_lt h1', wi, w0, w1, w2, w3, w4, w5, w6, w7, w8, w9]
    repeat' (first
      | (refine ACallK_of (f168_ok _ (by omega) (by omega)) ?_; simp -dsimp [h1, h1', hzl, hn, ne_of_lt h1', wi, w0, w1, w2, w3, w4, w5, w6, w7, w8, w9])
      | (refine ACallK_of (f71_ok _ _ (by assumption) (by omega) (by omega)) ?_; simp -dsimp [h1, h1', hzl, hn, ne_of_lt h1', wi, w0, w1, w2, w3, w4, w5, w6, w7, w8, w9])
      | (refine ACallK_of (f72_ok _ _ (by assumption) (by omega) (by omega)) ?_; simp -dsimp [h1, h1', hzl, hn, ne_of_lt h1', wi, w0, w1, w2, w3, w4, w5, w6, w7, w8, w9])
      | (refine ACallK_of (f73_ok _ _ (by assumption) (by omega) (by omega)) ?_; simp -dsimp [h1, h1', hzl, hn, ne_of_lt h1', wi, w0, w1, w2, w3, w4, w5, w6, w7, w8, w9])
      | (refine ACallK_of (f211_ok _ _ (by assumption) (by omega) (by omega)) ?_; simp -dsimp [h1, h1', hzl, hn, ne_of_lt h1', wi, w0, w1, w2, w3, w4, w5, w6, w7, w8, w9])
      | (refine ACallK_of (f74_ok _ _ (by assumption) (by omega) (by omega)) ?_; simp -dsimp [h1, h1', hzl, hn, ne_of_lt h1', wi, w0, w1, w2, w3, w4, w5, w6, w7, w8, w9])
      | (refine And.intro (by first | omega | trivial) ?_)
      | (intro hneg; exfalso; omega)
      | (refine And.intro (fun hneg => by exfalso; omega) (fun _ => ?_))
      | (intro hpos; clear hpos))
    refine Wk_to [0, 1, 5] [] rfl rfl ?_
    simp -dsimp [GUnit.mar, mbool, wi, w0, w1, w2, w3, w4, w5, w6, w7, w8, w9]
  · refine AW_of h122 TryzT_ok (by kernel_rfl) ?_
    simp -dsimp

@[simp] def h18 : Hts := { lend := fun f => if f = 69 then [.lend] else if f = 70 then [.lend] else [] }
theorem f18_ok (x : GUnit) (k : Int) (h : x.Ok) (h0 : 0 ≤ k) (hB : (x.mt k).2 ≤ 4611686018427387904) : FnW Tryz.prog 18 [.agg [.bool x.batch, .int .i64 x.act.dot.rep, .int .i64 x.act.dot.seq, .int .i64 x.act.time, .ow 3 1 x.act.knew.length (flat x.act.knew), .int .i64 x.act.kind, .str x.act.obj, .str x.act.key, .int .i64 x.act.val, .int .i64 x.act.ref.rep, .int .i64 x.act.ref.seq, .ow 3 1 x.delta.base.length (flat x.delta.base), .ow 3 1 x.delta.know.length (flat x.delta.know), .ow 179 3 x.delta.tallies.length (flat x.delta.tallies), .ow 182 6 x.delta.lives.length (flat x.delta.lives), .ow 47 2 x.delta.dead.length (flat x.delta.dead), .ow 185 8 x.delta.cs.length (flat x.delta.cs)], .v (.int .i64 k)] (.v (.int .i64 (x.mt k).2)) [.agg [.any, .any, .any, .any, .ow 3 1 (x.mt k).1.act.knew.length (flat (x.mt k).1.act.knew), .any, .any, .any, .any, .any, .any, .ow 3 1 (x.mt k).1.delta.base.length (flat (x.mt k).1.delta.base), .ow 3 1 (x.mt k).1.delta.know.length (flat (x.mt k).1.delta.know), .ow 179 3 (x.mt k).1.delta.tallies.length (flat (x.mt k).1.delta.tallies), .ow 182 6 (x.mt k).1.delta.lives.length (flat (x.mt k).1.delta.lives), .ow 47 2 (x.mt k).1.delta.dead.length (flat (x.mt k).1.delta.dead), .ow 185 8 (x.mt k).1.delta.cs.length (flat (x.mt k).1.delta.cs)], .any] := by
  simp only [GUnit.Ok] at h
  obtain ⟨o0, o1⟩ := h
  simp only [GUnit.mt] at hB ⊢
  have q0 := x.act.mt_le (k) (by omega)
  have q1 := x.delta.mt_le ((x.act.mt (k)).2) (by omega)
  refine FnW.of_AW TryzT_ok 1 (fn := Tryz.f18) (by kernel_rfl) rfl (by kernel_rfl) rfl rfl rfl ?_
  refine AW_of h18 TryzT_ok (by kernel_rfl) ?_
  simp -dsimp
  repeat' (first
    | (refine ACallW_args (by intro us; simp -dsimp; exact ⟨rfl, rfl, rfl⟩) ?_; refine ACallC_of (fun us => f69_ok _ _ (by assumption) (by omega) (by omega)) (by intro us; simp -dsimp; exact ⟨rfl, rfl⟩) ?_; simp -dsimp)
    | (refine ACallW_args (by intro us; simp -dsimp; exact ⟨rfl, rfl, rfl⟩) ?_; refine ACallC_of (fun us => f70_ok _ _ (by assumption) (by omega) (by omega)) (by intro us; simp -dsimp; exact ⟨rfl, rfl⟩) ?_; simp -dsimp)
    | (refine And.intro (by first | omega | trivial) ?_))

@[simp] def h42 : Hts := {  }
theorem f42_ok (x : GUnit) (k : Int) (h : x.Ok) (h0 : 0 ≤ k) (hB : (x.mt k).2 ≤ 4611686018427387904) : FnR Tryz.prog 42 [.agg [.bool (x.mt k).1.batch, .int .i64 (x.mt k).1.act.dot.rep, .int .i64 (x.mt k).1.act.dot.seq, .int .i64 (x.mt k).1.act.time, .im (x.mt k).1.act.knew.length (flat (x.mt k).1.act.knew), .int .i64 (x.mt k).1.act.kind, .str (x.mt k).1.act.obj, .str (x.mt k).1.act.key, .int .i64 (x.mt k).1.act.val, .int .i64 (x.mt k).1.act.ref.rep, .int .i64 (x.mt k).1.act.ref.seq, .im (x.mt k).1.delta.base.length (flat (x.mt k).1.delta.base), .im (x.mt k).1.delta.know.length (flat (x.mt k).1.delta.know), .im (x.mt k).1.delta.tallies.length (flat (x.mt k).1.delta.tallies), .im (x.mt k).1.delta.lives.length (flat (x.mt k).1.delta.lives), .im (x.mt k).1.delta.dead.length (flat (x.mt k).1.delta.dead), .im (x.mt k).1.delta.cs.length (flat (x.mt k).1.delta.cs)], .v (.int .i64 k)] (.v (.int .i64 (x.mt k).2)) := by
  simp only [GUnit.Ok] at h
  obtain ⟨o0, o1⟩ := h
  simp only [GUnit.mt] at hB ⊢
  have q0 := x.act.mt_le (k) (by omega)
  have q1 := x.delta.mt_le ((x.act.mt (k)).2) (by omega)
  refine FnW.of_AW TryzT_ok 0 (fn := Tryz.f42) (by kernel_rfl) rfl (by kernel_rfl) rfl rfl rfl ?_
  refine AW_of h42 TryzT_ok (by kernel_rfl) ?_
  simp -dsimp
  repeat' (first
    | (refine ACallK_of (f126_ok _ _ (by assumption) (by omega) (by omega)) ?_; simp -dsimp)
    | (refine ACallK_of (f127_ok _ _ (by assumption) (by omega) (by omega)) ?_; simp -dsimp)
    | (refine And.intro (fun hneg => by exfalso; omega) (fun _ => ?_))
    | (intro hneg; exfalso; omega)
    | (intro hpos; clear hpos))

@[simp] def h36 : Hts := { lend := fun f => if f = 17 then [.lend] else if f = 121 then [.lend] else [] }
theorem f36_ok (x : GLog) (k : Int) (h : x.Ok) (h0 : 0 ≤ k) (hB : (x.mt k).2 ≤ 4611686018427387904) : FnW Tryz.prog 36 [.agg [.int .i64 x.rep, .int .i64 x.time, .ow 3 1 x.state.know.length (flat x.state.know), .ow 179 3 x.state.tallies.length (flat x.state.tallies), .ow 182 6 x.state.lives.length (flat x.state.lives), .ow 185 8 x.state.cs.length (flat x.state.cs), .ow 54 17 x.units.length (flatO x.units), .ow 54 17 x.waits.length (flatO x.waits)], .v (.int .i64 k)] (.v (.int .i64 (x.mt k).2)) [.agg [.any, .any, .ow 3 1 (x.mt k).1.state.know.length (flat (x.mt k).1.state.know), .ow 179 3 (x.mt k).1.state.tallies.length (flat (x.mt k).1.state.tallies), .ow 182 6 (x.mt k).1.state.lives.length (flat (x.mt k).1.state.lives), .ow 185 8 (x.mt k).1.state.cs.length (flat (x.mt k).1.state.cs), .ow 54 17 (x.mt k).1.units.length (flatO (x.mt k).1.units), .ow 54 17 (x.mt k).1.waits.length (flatO (x.mt k).1.waits)], .any] := by
  simp only [GLog.Ok] at h
  obtain ⟨o0, o1, o2, o3, o4⟩ := h
  simp only [GLog.mt] at hB ⊢
  have q0 := x.state.mt_le (k) (by omega)
  have q1 := mkS_le GUnit.mar_le x.units ((x.state.mt (k)).2) (by omega)
  have q2 := mkS_le GUnit.mar_le x.waits ((mkS GUnit.mar x.units ((x.state.mt (k)).2)).2) (by omega)
  refine FnW.of_AW TryzT_ok 1 (fn := Tryz.f36) (by kernel_rfl) rfl (by kernel_rfl) rfl rfl rfl ?_
  refine AW_of h36 TryzT_ok (by kernel_rfl) ?_
  simp -dsimp
  repeat' (first
    | (refine ACallW_args (by intro us; simp -dsimp; exact ⟨rfl, rfl, rfl⟩) ?_; refine ACallC_of (fun us => f17_ok _ _ (by assumption) (by omega) (by omega)) (by intro us; simp -dsimp; exact ⟨rfl, rfl⟩) ?_; simp -dsimp)
    | (refine ACallW_args (by intro us; simp -dsimp; exact ⟨rfl, rfl, rfl⟩) ?_; refine ACallC_of (fun us => f121_ok _ _ (by assumption) (by omega) (by omega) (by assumption)) (by intro us; simp -dsimp; exact ⟨rfl, rfl⟩) ?_; simp -dsimp)
    | (refine And.intro (by first | omega | trivial) ?_))

@[simp] def h37 : Hts := {  }
theorem f37_ok (x : GLog) (k : Int) (h : x.Ok) (h0 : 0 ≤ k) (hB : (x.mt k).2 ≤ 4611686018427387904) : FnR Tryz.prog 37 [.agg [.int .i64 (x.mt k).1.rep, .int .i64 (x.mt k).1.time, .im (x.mt k).1.state.know.length (flat (x.mt k).1.state.know), .im (x.mt k).1.state.tallies.length (flat (x.mt k).1.state.tallies), .im (x.mt k).1.state.lives.length (flat (x.mt k).1.state.lives), .im (x.mt k).1.state.cs.length (flat (x.mt k).1.state.cs), .im (x.mt k).1.units.length (flat (x.mt k).1.units), .im (x.mt k).1.waits.length (flat (x.mt k).1.waits)], .v (.int .i64 k)] (.v (.int .i64 (x.mt k).2)) := by
  simp only [GLog.Ok] at h
  obtain ⟨o0, o1, o2, o3, o4⟩ := h
  simp only [GLog.mt] at hB ⊢
  have q0 := x.state.mt_le (k) (by omega)
  have q1 := mkS_le GUnit.mar_le x.units ((x.state.mt (k)).2) (by omega)
  have q2 := mkS_le GUnit.mar_le x.waits ((mkS GUnit.mar x.units ((x.state.mt (k)).2)).2) (by omega)
  refine FnW.of_AW TryzT_ok 0 (fn := Tryz.f37) (by kernel_rfl) rfl (by kernel_rfl) rfl rfl rfl ?_
  refine AW_of h37 TryzT_ok (by kernel_rfl) ?_
  simp -dsimp
  repeat' (first
    | (refine ACallK_of (f19_ok _ _ (by assumption) (by omega) (by omega)) ?_; simp -dsimp)
    | (refine ACallK_of (f122_ok _ _ (by assumption) (by omega) (by omega) (by assumption)) ?_; simp -dsimp)
    | (refine And.intro (fun hneg => by exfalso; omega) (fun _ => ?_))
    | (intro hneg; exfalso; omega)
    | (intro hpos; clear hpos))
end Am
