/- The law harness: marks, and whether they are still there. No condition. -/
import Derived.Test.YtlkkgdealgceeaaT
import Derived.Test.YtlkkgdealgceeaaK
namespace Am
open Go Go.Proofs
open Cel (cells)
set_option maxRecDepth 100000
set_option maxHeartbeats 4000000
set_option linter.unusedSimpArgs false
set_option linter.unusedVariables false


@[simp] def h89 : Hts := {  }
theorem f89_ok (k : Int) (h0 : 0 ≤ k) (hk : k ≤ 4611686018427387904) : FnR Try.prog 89 [.v (.int .i64 k)] (.v (.str (mtext k))) := by
  obtain ⟨n0, rfl⟩ := Int.eq_ofNat_of_zero_le h0
  refine FnW.of_AW TryT_ok 0 (fn := Try.f89) (by kernel_rfl) rfl (by kernel_rfl) rfl rfl rfl ?_
  refine AW_of h89 TryT_ok (by kernel_rfl) ?_
  simp -dsimp
  refine ⟨fun h => by subst h; rfl, fun h => ?_⟩
  have hkk : n0 < 10 ^ 20 := by have : (10 : Nat) ^ 20 = 100000000000000000000 := by decide
                                omega
  refine AWh_loop (fun s : Nat × ByteArray => ∃ j f, j + s.2.size = 20 ∧ j ≤ f ∧ s.1 < 10 ^ j ∧ s.1 ≤ n0 ∧ mgo f s.1 s.2 = mgo 20 n0 ⟨#[]⟩) (fun s => mkE [(0, .c (.int .i64 s.1)), (3, .c (.str s.2))] []) (fun s => s.1) (n0, ⟨#[]⟩) (Wk_to [0, 3] [] rfl rfl (by simp)) ⟨20, 20, rfl, Nat.le_refl _, hkk, Nat.le_refl _, rfl⟩ ?_
  rintro ⟨n, out⟩ ⟨j, f, hj, hjf, hn, hle, hm⟩
  simp only at hj hn hm hle
  refine AW_of h89 TryT_ok (by kernel_rfl) ?_
  rcases Nat.eq_zero_or_pos n with hz | hz
  · subst hz
    have : mgo f 0 out = out := by cases f <;> simp [mgo]
    rw [this] at hm
    simp -dsimp
    rw [mtext, if_neg (by omega), Int.toNat_natCast, ← hm]
    refine ⟨?_, rfl⟩
    show 1 + out.size ≤ 1099511627776
    omega
  · obtain ⟨j, rfl⟩ : ∃ i, j = i + 1 := ⟨j - 1, by cases j with
      | zero => rw [Nat.pow_zero] at hn; omega
      | succ i => rfl⟩
    obtain ⟨f, rfl⟩ : ∃ i, f = i + 1 := ⟨f - 1, by omega⟩
    rw [mgo, if_neg (by omega)] at hm
    have hmod : ((n : Int).tmod 10) = ((n % 10 : Nat) : Int) := by rw [Int.tmod_eq_emod_of_nonneg (by omega)]; rfl
    have hdiv : ((n : Int).tdiv 10) = ((n / 10 : Nat) : Int) := by rw [Int.tdiv_eq_ediv_of_nonneg (by omega)]; rfl
    have hq : n / 10 < 10 ^ j := by rw [Nat.pow_succ] at hn; omega
    clear hn hkk
    have e1 : IntKind.i64.wrap (48 + ↑n % 10) = 48 + ↑n % 10 := wrap64 (by omega) (by omega)
    have e2 : IntKind.u8.wrap (48 + ↑n % 10) = ((48 + n % 10 : Nat) : Int) := by
      simp only [IntKind.wrap, IntKind.bits, IntKind.signed]
      simp
      omega
    have e3 : IntKind.i64.wrap (n / 10) = n / 10 := wrap64 (by omega) (by omega)
    simp -dsimp only [hz, hmod, hdiv]
    simp -dsimp [hz, hmod, hdiv, e1, e2, e3, allBytes, bytesOf]
    have et : (48 + (n : Int) % 10).toNat = 48 + n % 10 := by omega
    rw [et]
    refine ⟨by omega, by show 1 + out.size ≤ 1099511627776; omega, ?_⟩
    refine Back_of (n / 10, ⟨#[UInt8.ofNat (48 + n % 10)]⟩ ++ out) [0, 3] [] rfl rfl (by simp -dsimp) ⟨j, f, ?_, by omega, hq, by simp only; omega, hm⟩ (by simp only; omega)
    simp only [ByteArray.size_append]
    show j + (1 + out.size) = 20
    omega

@[simp] def h85 : Hts := {  }
theorem f85_ok (xs : List Int) (k : Int) (hl : xs.length ≤ 1073741824) (h0 : 0 ≤ k) (hB : (mkS mkInt xs k).2 ≤ 4611686018427387904) : FnW Try.prog 85 [.v (.ow 3 1 xs.length (flat xs)), .v (.int .i64 k)] (.v (.int .i64 (mkS mkInt xs k).2)) [.v (.ow 3 1 xs.length (flat (mkS mkInt xs k).1)), .any] := by
  refine FnW.of_AW TryT_ok 1 (fn := Try.f85) (by kernel_rfl) rfl (by kernel_rfl) rfl rfl rfl ?_
  refine AW_of h85 TryT_ok (by kernel_rfl) ?_
  simp -dsimp
  refine AWh_mark mkInt mkInt_le xs k h0 (fun ys m i => mkE [(0, .arr 640000), (1, .c (.int .i64 m)), (5, .c (.int .i64 i))] [(640000, .arr 0 3 1 xs.length (flat ys))]) (Wk_to [0, 1, 5] [(640000, 640000)] rfl rfl (by simp)) ?_ ?_
  · intro i ys m h1 hy hn hm hs
    refine AW_of h85 TryT_ok (by kernel_rfl) ?_
    have h1' : i < ys.length := by omega
    simp only [mkInt] at hs
    have wi : IntKind.i64.wrap ((i : Int) + 1) = i + 1 := wrap64 (by omega) (by omega)
    have w0 : IntKind.i64.wrap (m + 1) = m + 1 := wrap64 (by omega) (by omega)
    simp -dsimp [h1, h1', hy, hn, wi, w0]
    repeat' (first
      | (refine And.intro (by first | omega | trivial) ?_))
    refine Wk_to [0, 1, 5] [(640000, 640000)] rfl rfl ?_
    simp -dsimp [mkInt, mbool, wi, w0]
  · refine AW_of h85 TryT_ok (by kernel_rfl) ?_
    simp -dsimp

@[simp] def h116 : Hts := {  }
theorem f116_ok (xs : List Int) (k : Int) (hl : xs.length ≤ 1073741824) (h0 : 0 ≤ k) (hB : (mkS mkInt xs k).2 ≤ 4611686018427387904) : FnR Try.prog 116 [.v (.im xs.length (flat (mkS mkInt xs k).1)), .v (.int .i64 k)] (.v (.int .i64 (mkS mkInt xs k).2)) := by
  refine FnW.of_AW TryT_ok 0 (fn := Try.f116) (by kernel_rfl) rfl (by kernel_rfl) rfl rfl rfl ?_
  refine AW_of h116 TryT_ok (by kernel_rfl) ?_
  simp -dsimp
  have hzl : (mkS mkInt xs k).1.length = xs.length := mkS_len xs k
  refine AWh_held mkInt mkInt_le xs k h0 (fun m i => mkE [(0, .c (.im xs.length (flat (mkS mkInt xs k).1))), (1, .c (.int .i64 m)), (5, .c (.int .i64 i))] []) (Wk_to [0, 1, 5] [] rfl rfl (by simp)) ?_ ?_
  · intro i m h1 hn hm hs
    refine AW_of h116 TryT_ok (by kernel_rfl) ?_
    generalize (mkS mkInt xs k).1 = zs at hzl hn
    have h1' : i < zs.length := by omega
    simp only [mkInt, mbool] at hs hn
    have wi : IntKind.i64.wrap ((i : Int) + 1) = i + 1 := wrap64 (by omega) (by omega)
    have w0 : IntKind.i64.wrap (m + 1) = m + 1 := wrap64 (by omega) (by omega)
    simp -dsimp [h1, h1', hzl, hn, ne_of_lt h1', wi, w0]
    repeat' (first
      | (refine And.intro (by first | omega | trivial) ?_)
      | (intro hneg; exfalso; omega)
      | (refine And.intro (fun hneg => by exfalso; omega) (fun _ => ?_))
      | (intro hpos; clear hpos))
    refine Wk_to [0, 1, 5] [] rfl rfl ?_
    simp -dsimp [mkInt, mbool, wi, w0]
  · refine AW_of h116 TryT_ok (by kernel_rfl) ?_
    simp -dsimp

@[simp] def h30 : Hts := {  }
theorem f30_ok (xs : List ByteArray) (k : Int) (hl : xs.length ≤ 1073741824) (h0 : 0 ≤ k) (hB : (mkS mkStr xs k).2 ≤ 4611686018427387904) : FnW Try.prog 30 [.v (.ow 9 1 xs.length (flat xs)), .v (.int .i64 k)] (.v (.int .i64 (mkS mkStr xs k).2)) [.v (.ow 9 1 xs.length (flat (mkS mkStr xs k).1)), .any] := by
  refine FnW.of_AW TryT_ok 1 (fn := Try.f30) (by kernel_rfl) rfl (by kernel_rfl) rfl rfl rfl ?_
  refine AW_of h30 TryT_ok (by kernel_rfl) ?_
  simp -dsimp
  refine AWh_mark mkStr mkStr_le xs k h0 (fun ys m i => mkE [(0, .arr 640000), (1, .c (.int .i64 m)), (5, .c (.int .i64 i))] [(640000, .arr 0 9 1 xs.length (flat ys))]) (Wk_to [0, 1, 5] [(640000, 640000)] rfl rfl (by simp)) ?_ ?_
  · intro i ys m h1 hy hn hm hs
    refine AW_of h30 TryT_ok (by kernel_rfl) ?_
    have h1' : i < ys.length := by omega
    simp only [mkStr] at hs
    have wi : IntKind.i64.wrap ((i : Int) + 1) = i + 1 := wrap64 (by omega) (by omega)
    have w0 : IntKind.i64.wrap (m + 1) = m + 1 := wrap64 (by omega) (by omega)
    simp -dsimp [h1, h1', hy, hn, wi, w0]
    repeat' (first
      | (refine ACallK_of (f89_ok _ (by omega) (by omega)) ?_; simp -dsimp [h1, h1', hy, hn, wi, w0])
      | (refine And.intro (by first | omega | trivial) ?_))
    refine Wk_to [0, 1, 5] [(640000, 640000)] rfl rfl ?_
    simp -dsimp [mkStr, mbool, wi, w0]
  · refine AW_of h30 TryT_ok (by kernel_rfl) ?_
    simp -dsimp

@[simp] def h31 : Hts := { dr := fun id => if id = 4 then [{ mb := [17] }, { mb := [17] }, { mb := [17] }, { mb := [17] }, {}, { cr := true }, {}] else [] }
theorem f31_ok (xs : List ByteArray) (k : Int) (hl : xs.length ≤ 1073741824) (h0 : 0 ≤ k) (hB : (mkS mkStr xs k).2 ≤ 4611686018427387904) : FnR Try.prog 31 [.v (.im xs.length (flat (mkS mkStr xs k).1)), .v (.int .i64 k)] (.v (.int .i64 (mkS mkStr xs k).2)) := by
  refine FnW.of_AW TryT_ok 0 (fn := Try.f31) (by kernel_rfl) rfl (by kernel_rfl) rfl rfl rfl ?_
  refine AW_of h31 TryT_ok (by kernel_rfl) ?_
  simp -dsimp
  have hzl : (mkS mkStr xs k).1.length = xs.length := mkS_len xs k
  refine AWh_held mkStr mkStr_le xs k h0 (fun m i => mkE [(0, .c (.im xs.length (flat (mkS mkStr xs k).1))), (1, .c (.int .i64 m)), (5, .c (.int .i64 i))] []) (Wk_to [0, 1, 5] [] rfl rfl (by simp)) ?_ ?_
  · intro i m h1 hn hm hs
    refine AW_of h31 TryT_ok (by kernel_rfl) ?_
    generalize (mkS mkStr xs k).1 = zs at hzl hn
    have h1' : i < zs.length := by omega
    simp only [mkStr, mbool] at hs hn
    have wi : IntKind.i64.wrap ((i : Int) + 1) = i + 1 := wrap64 (by omega) (by omega)
    have w0 : IntKind.i64.wrap (m + 1) = m + 1 := wrap64 (by omega) (by omega)
    simp -dsimp [h1, h1', hzl, hn, ne_of_lt h1', wi, w0]
    repeat' (first
      | (refine ACallK_of (f89_ok _ (by omega) (by omega)) ?_; simp -dsimp [h1, h1', hzl, hn, ne_of_lt h1', wi, w0])
      | (refine And.intro (by first | omega | trivial) ?_)
      | (intro hneg; exfalso; omega)
      | (refine And.intro (fun hneg => by exfalso; omega) (fun _ => ?_))
      | (intro hpos; clear hpos))
    refine Wk_to [0, 1, 5] [] rfl rfl ?_
    simp -dsimp [mkStr, mbool, wi, w0]
  · refine AW_of h31 TryT_ok (by kernel_rfl) ?_
    simp -dsimp

@[simp] def h115 : Hts := {  }
theorem f115_ok (xs : List GDot) (k : Int) (hl : xs.length ≤ 1073741824) (h0 : 0 ≤ k) (hB : (mkS GDot.mar xs k).2 ≤ 4611686018427387904) : FnW Try.prog 115 [.v (.ow 76 2 xs.length (flat xs)), .v (.int .i64 k)] (.v (.int .i64 (mkS GDot.mar xs k).2)) [.v (.ow 76 2 xs.length (flat (mkS GDot.mar xs k).1)), .any] := by
  refine FnW.of_AW TryT_ok 1 (fn := Try.f115) (by kernel_rfl) rfl (by kernel_rfl) rfl rfl rfl ?_
  refine AW_of h115 TryT_ok (by kernel_rfl) ?_
  simp -dsimp
  refine AWh_mark GDot.mar GDot.mar_le xs k h0 (fun ys m i => mkE [(0, .arr 640000), (1, .c (.int .i64 m)), (5, .c (.int .i64 i))] [(640000, .arr 0 76 2 xs.length (flat ys))]) (Wk_to [0, 1, 5] [(640000, 640000)] rfl rfl (by simp)) ?_ ?_
  · intro i ys m h1 hy hn hm hs
    refine AW_of h115 TryT_ok (by kernel_rfl) ?_
    have h1' : i < ys.length := by omega
    simp only [GDot.mar] at hs
    have wi : IntKind.i64.wrap ((i : Int) + 1) = i + 1 := wrap64 (by omega) (by omega)
    have w0 : IntKind.i64.wrap (m + 1) = m + 1 := wrap64 (by omega) (by omega)
    have w1 : IntKind.i64.wrap (m + 1 + 1) = m + 1 + 1 := wrap64 (by omega) (by omega)
    simp -dsimp [h1, h1', hy, hn, wi, w0, w1]
    repeat' (first
      | (refine And.intro (by first | omega | trivial) ?_))
    refine Wk_to [0, 1, 5] [(640000, 640000)] rfl rfl ?_
    simp -dsimp [GDot.mar, mbool, wi, w0, w1]
  · refine AW_of h115 TryT_ok (by kernel_rfl) ?_
    simp -dsimp

@[simp] def h120 : Hts := {  }
theorem f120_ok (xs : List GDot) (k : Int) (hl : xs.length ≤ 1073741824) (h0 : 0 ≤ k) (hB : (mkS GDot.mar xs k).2 ≤ 4611686018427387904) : FnR Try.prog 120 [.v (.im xs.length (flat (mkS GDot.mar xs k).1)), .v (.int .i64 k)] (.v (.int .i64 (mkS GDot.mar xs k).2)) := by
  refine FnW.of_AW TryT_ok 0 (fn := Try.f120) (by kernel_rfl) rfl (by kernel_rfl) rfl rfl rfl ?_
  refine AW_of h120 TryT_ok (by kernel_rfl) ?_
  simp -dsimp
  have hzl : (mkS GDot.mar xs k).1.length = xs.length := mkS_len xs k
  refine AWh_held GDot.mar GDot.mar_le xs k h0 (fun m i => mkE [(0, .c (.im xs.length (flat (mkS GDot.mar xs k).1))), (1, .c (.int .i64 m)), (5, .c (.int .i64 i))] []) (Wk_to [0, 1, 5] [] rfl rfl (by simp)) ?_ ?_
  · intro i m h1 hn hm hs
    refine AW_of h120 TryT_ok (by kernel_rfl) ?_
    generalize (mkS GDot.mar xs k).1 = zs at hzl hn
    have h1' : i < zs.length := by omega
    simp only [GDot.mar, mbool] at hs hn
    have wi : IntKind.i64.wrap ((i : Int) + 1) = i + 1 := wrap64 (by omega) (by omega)
    have w0 : IntKind.i64.wrap (m + 1) = m + 1 := wrap64 (by omega) (by omega)
    have w1 : IntKind.i64.wrap (m + 1 + 1) = m + 1 + 1 := wrap64 (by omega) (by omega)
    simp -dsimp [h1, h1', hzl, hn, ne_of_lt h1', wi, w0, w1]
    repeat' (first
      | (refine And.intro (by first | omega | trivial) ?_)
      | (intro hneg; exfalso; omega)
      | (refine And.intro (fun hneg => by exfalso; omega) (fun _ => ?_))
      | (intro hpos; clear hpos))
    refine Wk_to [0, 1, 5] [] rfl rfl ?_
    simp -dsimp [GDot.mar, mbool, wi, w0, w1]
  · refine AW_of h120 TryT_ok (by kernel_rfl) ?_
    simp -dsimp

@[simp] def h86 : Hts := {  }
theorem f86_ok (xs : List GTally) (k : Int) (hl : xs.length ≤ 1073741824) (h0 : 0 ≤ k) (hB : (mkS GTally.mar xs k).2 ≤ 4611686018427387904) : FnW Try.prog 86 [.v (.ow 121 3 xs.length (flat xs)), .v (.int .i64 k)] (.v (.int .i64 (mkS GTally.mar xs k).2)) [.v (.ow 121 3 xs.length (flat (mkS GTally.mar xs k).1)), .any] := by
  refine FnW.of_AW TryT_ok 1 (fn := Try.f86) (by kernel_rfl) rfl (by kernel_rfl) rfl rfl rfl ?_
  refine AW_of h86 TryT_ok (by kernel_rfl) ?_
  simp -dsimp
  refine AWh_mark GTally.mar GTally.mar_le xs k h0 (fun ys m i => mkE [(0, .arr 640000), (1, .c (.int .i64 m)), (5, .c (.int .i64 i))] [(640000, .arr 0 121 3 xs.length (flat ys))]) (Wk_to [0, 1, 5] [(640000, 640000)] rfl rfl (by simp)) ?_ ?_
  · intro i ys m h1 hy hn hm hs
    refine AW_of h86 TryT_ok (by kernel_rfl) ?_
    have h1' : i < ys.length := by omega
    simp only [GTally.mar] at hs
    have wi : IntKind.i64.wrap ((i : Int) + 1) = i + 1 := wrap64 (by omega) (by omega)
    have w0 : IntKind.i64.wrap (m + 1) = m + 1 := wrap64 (by omega) (by omega)
    have w1 : IntKind.i64.wrap (m + 1 + 1) = m + 1 + 1 := wrap64 (by omega) (by omega)
    have w2 : IntKind.i64.wrap (m + 1 + 1 + 1) = m + 1 + 1 + 1 := wrap64 (by omega) (by omega)
    simp -dsimp [h1, h1', hy, hn, wi, w0, w1, w2]
    repeat' (first
      | (refine ACallK_of (f89_ok _ (by omega) (by omega)) ?_; simp -dsimp [h1, h1', hy, hn, wi, w0, w1, w2])
      | (refine And.intro (by first | omega | trivial) ?_))
    refine Wk_to [0, 1, 5] [(640000, 640000)] rfl rfl ?_
    simp -dsimp [GTally.mar, mbool, wi, w0, w1, w2]
  · refine AW_of h86 TryT_ok (by kernel_rfl) ?_
    simp -dsimp

@[simp] def h117 : Hts := { dr := fun id => if id = 4 then [{ mb := [18] }, { mb := [18] }, { mb := [18] }, { mb := [18] }, { mb := [18] }, {}, { cr := true }, {}] else [] }
theorem f117_ok (xs : List GTally) (k : Int) (hl : xs.length ≤ 1073741824) (h0 : 0 ≤ k) (hB : (mkS GTally.mar xs k).2 ≤ 4611686018427387904) : FnR Try.prog 117 [.v (.im xs.length (flat (mkS GTally.mar xs k).1)), .v (.int .i64 k)] (.v (.int .i64 (mkS GTally.mar xs k).2)) := by
  refine FnW.of_AW TryT_ok 0 (fn := Try.f117) (by kernel_rfl) rfl (by kernel_rfl) rfl rfl rfl ?_
  refine AW_of h117 TryT_ok (by kernel_rfl) ?_
  simp -dsimp
  have hzl : (mkS GTally.mar xs k).1.length = xs.length := mkS_len xs k
  refine AWh_held GTally.mar GTally.mar_le xs k h0 (fun m i => mkE [(0, .c (.im xs.length (flat (mkS GTally.mar xs k).1))), (1, .c (.int .i64 m)), (5, .c (.int .i64 i))] []) (Wk_to [0, 1, 5] [] rfl rfl (by simp)) ?_ ?_
  · intro i m h1 hn hm hs
    refine AW_of h117 TryT_ok (by kernel_rfl) ?_
    generalize (mkS GTally.mar xs k).1 = zs at hzl hn
    have h1' : i < zs.length := by omega
    simp only [GTally.mar, mbool] at hs hn
    have wi : IntKind.i64.wrap ((i : Int) + 1) = i + 1 := wrap64 (by omega) (by omega)
    have w0 : IntKind.i64.wrap (m + 1) = m + 1 := wrap64 (by omega) (by omega)
    have w1 : IntKind.i64.wrap (m + 1 + 1) = m + 1 + 1 := wrap64 (by omega) (by omega)
    have w2 : IntKind.i64.wrap (m + 1 + 1 + 1) = m + 1 + 1 + 1 := wrap64 (by omega) (by omega)
    simp -dsimp [h1, h1', hzl, hn, ne_of_lt h1', wi, w0, w1, w2]
    repeat' (first
      | (refine ACallK_of (f89_ok _ (by omega) (by omega)) ?_; simp -dsimp [h1, h1', hzl, hn, ne_of_lt h1', wi, w0, w1, w2])
      | (refine And.intro (by first | omega | trivial) ?_)
      | (intro hneg; exfalso; omega)
      | (refine And.intro (fun hneg => by exfalso; omega) (fun _ => ?_))
      | (intro hpos; clear hpos))
    refine Wk_to [0, 1, 5] [] rfl rfl ?_
    simp -dsimp [GTally.mar, mbool, wi, w0, w1, w2]
  · refine AW_of h117 TryT_ok (by kernel_rfl) ?_
    simp -dsimp

@[simp] def h87 : Hts := {  }
theorem f87_ok (xs : List GLive) (k : Int) (hl : xs.length ≤ 1073741824) (h0 : 0 ≤ k) (hB : (mkS GLive.mar xs k).2 ≤ 4611686018427387904) : FnW Try.prog 87 [.v (.ow 78 6 xs.length (flat xs)), .v (.int .i64 k)] (.v (.int .i64 (mkS GLive.mar xs k).2)) [.v (.ow 78 6 xs.length (flat (mkS GLive.mar xs k).1)), .any] := by
  refine FnW.of_AW TryT_ok 1 (fn := Try.f87) (by kernel_rfl) rfl (by kernel_rfl) rfl rfl rfl ?_
  refine AW_of h87 TryT_ok (by kernel_rfl) ?_
  simp -dsimp
  refine AWh_mark GLive.mar GLive.mar_le xs k h0 (fun ys m i => mkE [(0, .arr 640000), (1, .c (.int .i64 m)), (5, .c (.int .i64 i))] [(640000, .arr 0 78 6 xs.length (flat ys))]) (Wk_to [0, 1, 5] [(640000, 640000)] rfl rfl (by simp)) ?_ ?_
  · intro i ys m h1 hy hn hm hs
    refine AW_of h87 TryT_ok (by kernel_rfl) ?_
    have h1' : i < ys.length := by omega
    simp only [GLive.mar] at hs
    have wi : IntKind.i64.wrap ((i : Int) + 1) = i + 1 := wrap64 (by omega) (by omega)
    have w0 : IntKind.i64.wrap (m + 1) = m + 1 := wrap64 (by omega) (by omega)
    have w1 : IntKind.i64.wrap (m + 1 + 1) = m + 1 + 1 := wrap64 (by omega) (by omega)
    have w2 : IntKind.i64.wrap (m + 1 + 1 + 1) = m + 1 + 1 + 1 := wrap64 (by omega) (by omega)
    have w3 : IntKind.i64.wrap (m + 1 + 1 + 1 + 1) = m + 1 + 1 + 1 + 1 := wrap64 (by omega) (by omega)
    have w4 : IntKind.i64.wrap (m + 1 + 1 + 1 + 1 + 1) = m + 1 + 1 + 1 + 1 + 1 := wrap64 (by omega) (by omega)
    have w5 : IntKind.i64.wrap (m + 1 + 1 + 1 + 1 + 1 + 1) = m + 1 + 1 + 1 + 1 + 1 + 1 := wrap64 (by omega) (by omega)
    simp -dsimp [h1, h1', hy, hn, wi, w0, w1, w2, w3, w4, w5]
    repeat' (first
      | (refine ACallK_of (f89_ok _ (by omega) (by omega)) ?_; simp -dsimp [h1, h1', hy, hn, wi, w0, w1, w2, w3, w4, w5])
      | (refine And.intro (by first | omega | trivial) ?_))
    refine Wk_to [0, 1, 5] [(640000, 640000)] rfl rfl ?_
    simp -dsimp [GLive.mar, mbool, wi, w0, w1, w2, w3, w4, w5]
  · refine AW_of h87 TryT_ok (by kernel_rfl) ?_
    simp -dsimp

@[simp] def h118 : Hts := { dr := fun id => if id = 7 then [{ mb := [29] }, { mb := [29] }, { mb := [29] }, { mb := [29] }, { mb := [29] }, {}, { cr := true }, {}] else if id = 10 then [{ mb := [39] }, { mb := [39] }, { mb := [39] }, { mb := [39] }, { mb := [39] }, {}, { cr := true }, {}] else [] }
theorem f118_ok (xs : List GLive) (k : Int) (hl : xs.length ≤ 1073741824) (h0 : 0 ≤ k) (hB : (mkS GLive.mar xs k).2 ≤ 4611686018427387904) : FnR Try.prog 118 [.v (.im xs.length (flat (mkS GLive.mar xs k).1)), .v (.int .i64 k)] (.v (.int .i64 (mkS GLive.mar xs k).2)) := by
  refine FnW.of_AW TryT_ok 0 (fn := Try.f118) (by kernel_rfl) rfl (by kernel_rfl) rfl rfl rfl ?_
  refine AW_of h118 TryT_ok (by kernel_rfl) ?_
  simp -dsimp
  have hzl : (mkS GLive.mar xs k).1.length = xs.length := mkS_len xs k
  refine AWh_held GLive.mar GLive.mar_le xs k h0 (fun m i => mkE [(0, .c (.im xs.length (flat (mkS GLive.mar xs k).1))), (1, .c (.int .i64 m)), (5, .c (.int .i64 i))] []) (Wk_to [0, 1, 5] [] rfl rfl (by simp)) ?_ ?_
  · intro i m h1 hn hm hs
    refine AW_of h118 TryT_ok (by kernel_rfl) ?_
    generalize (mkS GLive.mar xs k).1 = zs at hzl hn
    have h1' : i < zs.length := by omega
    simp only [GLive.mar, mbool] at hs hn
    have wi : IntKind.i64.wrap ((i : Int) + 1) = i + 1 := wrap64 (by omega) (by omega)
    have w0 : IntKind.i64.wrap (m + 1) = m + 1 := wrap64 (by omega) (by omega)
    have w1 : IntKind.i64.wrap (m + 1 + 1) = m + 1 + 1 := wrap64 (by omega) (by omega)
    have w2 : IntKind.i64.wrap (m + 1 + 1 + 1) = m + 1 + 1 + 1 := wrap64 (by omega) (by omega)
    have w3 : IntKind.i64.wrap (m + 1 + 1 + 1 + 1) = m + 1 + 1 + 1 + 1 := wrap64 (by omega) (by omega)
    have w4 : IntKind.i64.wrap (m + 1 + 1 + 1 + 1 + 1) = m + 1 + 1 + 1 + 1 + 1 := wrap64 (by omega) (by omega)
    have w5 : IntKind.i64.wrap (m + 1 + 1 + 1 + 1 + 1 + 1) = m + 1 + 1 + 1 + 1 + 1 + 1 := wrap64 (by omega) (by omega)
    simp -dsimp [h1, h1', hzl, hn, ne_of_lt h1', wi, w0, w1, w2, w3, w4, w5]
    repeat' (first
      | (refine ACallK_of (f89_ok _ (by omega) (by omega)) ?_; simp -dsimp [h1, h1', hzl, hn, ne_of_lt h1', wi, w0, w1, w2, w3, w4, w5])
      | (refine And.intro (by first | omega | trivial) ?_)
      | (intro hneg; exfalso; omega)
      | (refine And.intro (fun hneg => by exfalso; omega) (fun _ => ?_))
      | (intro hpos; clear hpos))
    refine Wk_to [0, 1, 5] [] rfl rfl ?_
    simp -dsimp [GLive.mar, mbool, wi, w0, w1, w2, w3, w4, w5]
  · refine AW_of h118 TryT_ok (by kernel_rfl) ?_
    simp -dsimp

@[simp] def h88 : Hts := {  }
theorem f88_ok (xs : List GCell) (k : Int) (hl : xs.length ≤ 1073741824) (h0 : 0 ≤ k) (hB : (mkS GCell.mar xs k).2 ≤ 4611686018427387904) : FnW Try.prog 88 [.v (.ow 80 8 xs.length (flat xs)), .v (.int .i64 k)] (.v (.int .i64 (mkS GCell.mar xs k).2)) [.v (.ow 80 8 xs.length (flat (mkS GCell.mar xs k).1)), .any] := by
  refine FnW.of_AW TryT_ok 1 (fn := Try.f88) (by kernel_rfl) rfl (by kernel_rfl) rfl rfl rfl ?_
  refine AW_of h88 TryT_ok (by kernel_rfl) ?_
  simp -dsimp
  refine AWh_mark GCell.mar GCell.mar_le xs k h0 (fun ys m i => mkE [(0, .arr 640000), (1, .c (.int .i64 m)), (5, .c (.int .i64 i))] [(640000, .arr 0 80 8 xs.length (flat ys))]) (Wk_to [0, 1, 5] [(640000, 640000)] rfl rfl (by simp)) ?_ ?_
  · intro i ys m h1 hy hn hm hs
    refine AW_of h88 TryT_ok (by kernel_rfl) ?_
    have h1' : i < ys.length := by omega
    simp only [GCell.mar] at hs
    have wi : IntKind.i64.wrap ((i : Int) + 1) = i + 1 := wrap64 (by omega) (by omega)
    have w0 : IntKind.i64.wrap (m + 1) = m + 1 := wrap64 (by omega) (by omega)
    have w1 : IntKind.i64.wrap (m + 1 + 1) = m + 1 + 1 := wrap64 (by omega) (by omega)
    have w2 : IntKind.i64.wrap (m + 1 + 1 + 1) = m + 1 + 1 + 1 := wrap64 (by omega) (by omega)
    have w3 : IntKind.i64.wrap (m + 1 + 1 + 1 + 1) = m + 1 + 1 + 1 + 1 := wrap64 (by omega) (by omega)
    have w4 : IntKind.i64.wrap (m + 1 + 1 + 1 + 1 + 1) = m + 1 + 1 + 1 + 1 + 1 := wrap64 (by omega) (by omega)
    have w5 : IntKind.i64.wrap (m + 1 + 1 + 1 + 1 + 1 + 1) = m + 1 + 1 + 1 + 1 + 1 + 1 := wrap64 (by omega) (by omega)
    have w6 : IntKind.i64.wrap (m + 1 + 1 + 1 + 1 + 1 + 1 + 1) = m + 1 + 1 + 1 + 1 + 1 + 1 + 1 := wrap64 (by omega) (by omega)
    have w7 : IntKind.i64.wrap (m + 1 + 1 + 1 + 1 + 1 + 1 + 1 + 1) = m + 1 + 1 + 1 + 1 + 1 + 1 + 1 + 1 := wrap64 (by omega) (by omega)
    simp -dsimp [h1, h1', hy, hn, wi, w0, w1, w2, w3, w4, w5, w6, w7]
    repeat' (first
      | (refine ACallK_of (f89_ok _ (by omega) (by omega)) ?_; simp -dsimp [h1, h1', hy, hn, wi, w0, w1, w2, w3, w4, w5, w6, w7])
      | (refine And.intro (by first | omega | trivial) ?_))
    refine Wk_to [0, 1, 5] [(640000, 640000)] rfl rfl ?_
    simp -dsimp [GCell.mar, mbool, wi, w0, w1, w2, w3, w4, w5, w6, w7]
  · refine AW_of h88 TryT_ok (by kernel_rfl) ?_
    simp -dsimp

@[simp] def h119 : Hts := { dr := fun id => if id = 4 then [{ mb := [18] }, { mb := [18] }, { mb := [18] }, { mb := [18] }, { mb := [18] }, {}, { cr := true }, {}] else [] }
theorem f119_ok (xs : List GCell) (k : Int) (hl : xs.length ≤ 1073741824) (h0 : 0 ≤ k) (hB : (mkS GCell.mar xs k).2 ≤ 4611686018427387904) : FnR Try.prog 119 [.v (.im xs.length (flat (mkS GCell.mar xs k).1)), .v (.int .i64 k)] (.v (.int .i64 (mkS GCell.mar xs k).2)) := by
  refine FnW.of_AW TryT_ok 0 (fn := Try.f119) (by kernel_rfl) rfl (by kernel_rfl) rfl rfl rfl ?_
  refine AW_of h119 TryT_ok (by kernel_rfl) ?_
  simp -dsimp
  have hzl : (mkS GCell.mar xs k).1.length = xs.length := mkS_len xs k
  refine AWh_held GCell.mar GCell.mar_le xs k h0 (fun m i => mkE [(0, .c (.im xs.length (flat (mkS GCell.mar xs k).1))), (1, .c (.int .i64 m)), (5, .c (.int .i64 i))] []) (Wk_to [0, 1, 5] [] rfl rfl (by simp)) ?_ ?_
  · intro i m h1 hn hm hs
    refine AW_of h119 TryT_ok (by kernel_rfl) ?_
    generalize (mkS GCell.mar xs k).1 = zs at hzl hn
    have h1' : i < zs.length := by omega
    simp only [GCell.mar, mbool] at hs hn
    have wi : IntKind.i64.wrap ((i : Int) + 1) = i + 1 := wrap64 (by omega) (by omega)
    have w0 : IntKind.i64.wrap (m + 1) = m + 1 := wrap64 (by omega) (by omega)
    have w1 : IntKind.i64.wrap (m + 1 + 1) = m + 1 + 1 := wrap64 (by omega) (by omega)
    have w2 : IntKind.i64.wrap (m + 1 + 1 + 1) = m + 1 + 1 + 1 := wrap64 (by omega) (by omega)
    have w3 : IntKind.i64.wrap (m + 1 + 1 + 1 + 1) = m + 1 + 1 + 1 + 1 := wrap64 (by omega) (by omega)
    have w4 : IntKind.i64.wrap (m + 1 + 1 + 1 + 1 + 1) = m + 1 + 1 + 1 + 1 + 1 := wrap64 (by omega) (by omega)
    have w5 : IntKind.i64.wrap (m + 1 + 1 + 1 + 1 + 1 + 1) = m + 1 + 1 + 1 + 1 + 1 + 1 := wrap64 (by omega) (by omega)
    have w6 : IntKind.i64.wrap (m + 1 + 1 + 1 + 1 + 1 + 1 + 1) = m + 1 + 1 + 1 + 1 + 1 + 1 + 1 := wrap64 (by omega) (by omega)
    have w7 : IntKind.i64.wrap (m + 1 + 1 + 1 + 1 + 1 + 1 + 1 + 1) = m + 1 + 1 + 1 + 1 + 1 + 1 + 1 + 1 := wrap64 (by omega) (by omega)
    simp -dsimp [h1, h1', hzl, hn, ne_of_lt h1', wi, w0, w1, w2, w3, w4, w5, w6, w7]
    repeat' (first
      | (refine ACallK_of (f89_ok _ (by omega) (by omega)) ?_; simp -dsimp [h1, h1', hzl, hn, ne_of_lt h1', wi, w0, w1, w2, w3, w4, w5, w6, w7])
      | (refine And.intro (by first | omega | trivial) ?_)
      | (intro hneg; exfalso; omega)
      | (refine And.intro (fun hneg => by exfalso; omega) (fun _ => ?_))
      | (intro hpos; clear hpos))
    refine Wk_to [0, 1, 5] [] rfl rfl ?_
    simp -dsimp [GCell.mar, mbool, wi, w0, w1, w2, w3, w4, w5, w6, w7]
  · refine AW_of h119 TryT_ok (by kernel_rfl) ?_
    simp -dsimp

@[simp] def h29 : Hts := { lend := fun f => if f = 85 then [.lend] else if f = 86 then [.lend] else if f = 87 then [.lend] else if f = 88 then [.lend] else [] }
theorem f29_ok (x : GState) (k : Int) (h : x.Ok) (h0 : 0 ≤ k) (hB : (x.mt k).2 ≤ 4611686018427387904) : FnW Try.prog 29 [.agg [.ow 3 1 x.know.length (flat x.know), .ow 121 3 x.tallies.length (flat x.tallies), .ow 78 6 x.lives.length (flat x.lives), .ow 80 8 x.cs.length (flat x.cs)], .v (.int .i64 k)] (.v (.int .i64 (x.mt k).2)) [.agg [.ow 3 1 (x.mt k).1.know.length (flat (x.mt k).1.know), .ow 121 3 (x.mt k).1.tallies.length (flat (x.mt k).1.tallies), .ow 78 6 (x.mt k).1.lives.length (flat (x.mt k).1.lives), .ow 80 8 (x.mt k).1.cs.length (flat (x.mt k).1.cs)], .any] := by
  simp only [GState.Ok] at h
  obtain ⟨o0, o1, o2, o3, o4, o5, o6⟩ := h
  simp only [GState.mt] at hB ⊢
  have q0 := mkS_le mkInt_le x.know (k) (by omega)
  have q1 := mkS_le GTally.mar_le x.tallies ((mkS mkInt x.know (k)).2) (by omega)
  have q2 := mkS_le GLive.mar_le x.lives ((mkS GTally.mar x.tallies ((mkS mkInt x.know (k)).2)).2) (by omega)
  have q3 := mkS_le GCell.mar_le x.cs ((mkS GLive.mar x.lives ((mkS GTally.mar x.tallies ((mkS mkInt x.know (k)).2)).2)).2) (by omega)
  refine FnW.of_AW TryT_ok 1 (fn := Try.f29) (by kernel_rfl) rfl (by kernel_rfl) rfl rfl rfl ?_
  refine AW_of h29 TryT_ok (by kernel_rfl) ?_
  simp -dsimp
  repeat' (first
    | (refine ACallW_args (by intro us; simp -dsimp; exact ⟨rfl, rfl, rfl⟩) ?_; refine ACallC_of (fun us => f85_ok _ _ (by assumption) (by omega) (by omega)) (by intro us; simp -dsimp; exact ⟨rfl, rfl⟩) ?_; simp -dsimp)
    | (refine ACallW_args (by intro us; simp -dsimp; exact ⟨rfl, rfl, rfl⟩) ?_; refine ACallC_of (fun us => f86_ok _ _ (by assumption) (by omega) (by omega)) (by intro us; simp -dsimp; exact ⟨rfl, rfl⟩) ?_; simp -dsimp)
    | (refine ACallW_args (by intro us; simp -dsimp; exact ⟨rfl, rfl, rfl⟩) ?_; refine ACallC_of (fun us => f87_ok _ _ (by assumption) (by omega) (by omega)) (by intro us; simp -dsimp; exact ⟨rfl, rfl⟩) ?_; simp -dsimp)
    | (refine ACallW_args (by intro us; simp -dsimp; exact ⟨rfl, rfl, rfl⟩) ?_; refine ACallC_of (fun us => f88_ok _ _ (by assumption) (by omega) (by omega)) (by intro us; simp -dsimp; exact ⟨rfl, rfl⟩) ?_; simp -dsimp)
    | (refine And.intro (by first | omega | trivial) ?_))

@[simp] def h66 : Hts := {  }
theorem f66_ok (x : GState) (k : Int) (h : x.Ok) (h0 : 0 ≤ k) (hB : (x.mt k).2 ≤ 4611686018427387904) : FnR Try.prog 66 [.agg [.im (x.mt k).1.know.length (flat (x.mt k).1.know), .im (x.mt k).1.tallies.length (flat (x.mt k).1.tallies), .im (x.mt k).1.lives.length (flat (x.mt k).1.lives), .im (x.mt k).1.cs.length (flat (x.mt k).1.cs)], .v (.int .i64 k)] (.v (.int .i64 (x.mt k).2)) := by
  simp only [GState.Ok] at h
  obtain ⟨o0, o1, o2, o3, o4, o5, o6⟩ := h
  simp only [GState.mt] at hB ⊢
  have q0 := mkS_le mkInt_le x.know (k) (by omega)
  have q1 := mkS_le GTally.mar_le x.tallies ((mkS mkInt x.know (k)).2) (by omega)
  have q2 := mkS_le GLive.mar_le x.lives ((mkS GTally.mar x.tallies ((mkS mkInt x.know (k)).2)).2) (by omega)
  have q3 := mkS_le GCell.mar_le x.cs ((mkS GLive.mar x.lives ((mkS GTally.mar x.tallies ((mkS mkInt x.know (k)).2)).2)).2) (by omega)
  refine FnW.of_AW TryT_ok 0 (fn := Try.f66) (by kernel_rfl) rfl (by kernel_rfl) rfl rfl rfl ?_
  refine AW_of h66 TryT_ok (by kernel_rfl) ?_
  simp -dsimp
  repeat' (first
    | (refine ACallK_of (f116_ok _ _ (by assumption) (by omega) (by omega)) ?_; simp -dsimp)
    | (refine ACallK_of (f117_ok _ _ (by assumption) (by omega) (by omega)) ?_; simp -dsimp)
    | (refine ACallK_of (f118_ok _ _ (by assumption) (by omega) (by omega)) ?_; simp -dsimp)
    | (refine ACallK_of (f119_ok _ _ (by assumption) (by omega) (by omega)) ?_; simp -dsimp)
    | (refine And.intro (fun hneg => by exfalso; omega) (fun _ => ?_))
    | (intro hneg; exfalso; omega)
    | (intro hpos; clear hpos))

@[simp] def h65 : Hts := { lend := fun f => if f = 85 then [.lend] else if f = 86 then [.lend] else if f = 87 then [.lend] else if f = 88 then [.lend] else if f = 115 then [.lend] else [] }
theorem f65_ok (xs : List GUnit) (k : Int) (hl : xs.length ≤ 1073741824) (h0 : 0 ≤ k) (hB : (mkS GUnit.mar xs k).2 ≤ 4611686018427387904) (he : ∀ x, x ∈ xs → x.Ok) : FnW Try.prog 65 [.v (.ow 140 17 xs.length (flatO xs)), .v (.int .i64 k)] (.v (.int .i64 (mkS GUnit.mar xs k).2)) [.v (.ow 140 17 xs.length (flatO (mkS GUnit.mar xs k).1)), .any] := by
  refine FnW.of_AW TryT_ok 1 (fn := Try.f65) (by kernel_rfl) rfl (by kernel_rfl) rfl rfl rfl ?_
  refine AW_of h65 TryT_ok (by kernel_rfl) ?_
  simp -dsimp
  refine AWh_mark GUnit.mar GUnit.mar_le xs k h0 (fun ys m i => mkE [(0, .arr 640000), (1, .c (.int .i64 m)), (5, .c (.int .i64 i))] [(640000, .arr 0 140 17 xs.length (flatO ys))]) (Wk_to [0, 1, 5] [(640000, 640000)] rfl rfl (by simp)) ?_ ?_
  · intro i ys m h1 hy hn hm hs
    refine AW_of h65 TryT_ok (by kernel_rfl) ?_
    have h1' : i < ys.length := by omega
    have hme := nth_mem h1
    replace he := he _ hme
    simp only [GUnit.Ok, GAct.Ok, GDelta.Ok, and_assoc] at he
    obtain ⟨o0, o1, o2, o3, o4, o5, o6, o7, o8, o9, o10, o11⟩ := he
    simp only [GUnit.mar] at hs
    have q4 := mkS_le mkInt_le (nth xs i).act.knew (m + 1 + 1 + 1 + 1) (by omega)
    have q11 := mkS_le mkInt_le (nth xs i).delta.base ((mkS mkInt (nth xs i).act.knew (m + 1 + 1 + 1 + 1)).2 + 1 + 1 + 1 + 1 + 1 + 1) (by omega)
    have q12 := mkS_le mkInt_le (nth xs i).delta.know ((mkS mkInt (nth xs i).delta.base ((mkS mkInt (nth xs i).act.knew (m + 1 + 1 + 1 + 1)).2 + 1 + 1 + 1 + 1 + 1 + 1)).2) (by omega)
    have q13 := mkS_le GTally.mar_le (nth xs i).delta.tallies ((mkS mkInt (nth xs i).delta.know ((mkS mkInt (nth xs i).delta.base ((mkS mkInt (nth xs i).act.knew (m + 1 + 1 + 1 + 1)).2 + 1 + 1 + 1 + 1 + 1 + 1)).2)).2) (by omega)
    have q14 := mkS_le GLive.mar_le (nth xs i).delta.lives ((mkS GTally.mar (nth xs i).delta.tallies ((mkS mkInt (nth xs i).delta.know ((mkS mkInt (nth xs i).delta.base ((mkS mkInt (nth xs i).act.knew (m + 1 + 1 + 1 + 1)).2 + 1 + 1 + 1 + 1 + 1 + 1)).2)).2)).2) (by omega)
    have q15 := mkS_le GDot.mar_le (nth xs i).delta.dead ((mkS GLive.mar (nth xs i).delta.lives ((mkS GTally.mar (nth xs i).delta.tallies ((mkS mkInt (nth xs i).delta.know ((mkS mkInt (nth xs i).delta.base ((mkS mkInt (nth xs i).act.knew (m + 1 + 1 + 1 + 1)).2 + 1 + 1 + 1 + 1 + 1 + 1)).2)).2)).2)).2) (by omega)
    have q16 := mkS_le GCell.mar_le (nth xs i).delta.cs ((mkS GDot.mar (nth xs i).delta.dead ((mkS GLive.mar (nth xs i).delta.lives ((mkS GTally.mar (nth xs i).delta.tallies ((mkS mkInt (nth xs i).delta.know ((mkS mkInt (nth xs i).delta.base ((mkS mkInt (nth xs i).act.knew (m + 1 + 1 + 1 + 1)).2 + 1 + 1 + 1 + 1 + 1 + 1)).2)).2)).2)).2)).2) (by omega)
    have wi : IntKind.i64.wrap ((i : Int) + 1) = i + 1 := wrap64 (by omega) (by omega)
    have w0 : IntKind.i64.wrap (m + 1) = m + 1 := wrap64 (by omega) (by omega)
    have w1 : IntKind.i64.wrap (m + 1 + 1) = m + 1 + 1 := wrap64 (by omega) (by omega)
    have w2 : IntKind.i64.wrap (m + 1 + 1 + 1) = m + 1 + 1 + 1 := wrap64 (by omega) (by omega)
    have w3 : IntKind.i64.wrap (m + 1 + 1 + 1 + 1) = m + 1 + 1 + 1 + 1 := wrap64 (by omega) (by omega)
    have w4 : IntKind.i64.wrap ((mkS mkInt (nth xs i).act.knew (m + 1 + 1 + 1 + 1)).2 + 1) = (mkS mkInt (nth xs i).act.knew (m + 1 + 1 + 1 + 1)).2 + 1 := wrap64 (by omega) (by omega)
    have w5 : IntKind.i64.wrap ((mkS mkInt (nth xs i).act.knew (m + 1 + 1 + 1 + 1)).2 + 1 + 1) = (mkS mkInt (nth xs i).act.knew (m + 1 + 1 + 1 + 1)).2 + 1 + 1 := wrap64 (by omega) (by omega)
    have w6 : IntKind.i64.wrap ((mkS mkInt (nth xs i).act.knew (m + 1 + 1 + 1 + 1)).2 + 1 + 1 + 1) = (mkS mkInt (nth xs i).act.knew (m + 1 + 1 + 1 + 1)).2 + 1 + 1 + 1 := wrap64 (by omega) (by omega)
    have w7 : IntKind.i64.wrap ((mkS mkInt (nth xs i).act.knew (m + 1 + 1 + 1 + 1)).2 + 1 + 1 + 1 + 1) = (mkS mkInt (nth xs i).act.knew (m + 1 + 1 + 1 + 1)).2 + 1 + 1 + 1 + 1 := wrap64 (by omega) (by omega)
    have w8 : IntKind.i64.wrap ((mkS mkInt (nth xs i).act.knew (m + 1 + 1 + 1 + 1)).2 + 1 + 1 + 1 + 1 + 1) = (mkS mkInt (nth xs i).act.knew (m + 1 + 1 + 1 + 1)).2 + 1 + 1 + 1 + 1 + 1 := wrap64 (by omega) (by omega)
    have w9 : IntKind.i64.wrap ((mkS mkInt (nth xs i).act.knew (m + 1 + 1 + 1 + 1)).2 + 1 + 1 + 1 + 1 + 1 + 1) = (mkS mkInt (nth xs i).act.knew (m + 1 + 1 + 1 + 1)).2 + 1 + 1 + 1 + 1 + 1 + 1 := wrap64 (by omega) (by omega)
    simp -dsimp [h1, h1', hy, hn, wi, w0, w1, w2, w3, w4, w5, w6, w7, w8, w9]
    repeat' (first
      | (refine ACallK_of (f89_ok _ (by omega) (by omega)) ?_; simp -dsimp [h1, h1', hy, hn, wi, w0, w1, w2, w3, w4, w5, w6, w7, w8, w9])
      | (refine ACallW_args (by intro us; simp -dsimp [h1, h1', hy, hn]; exact ⟨rfl, rfl, rfl⟩) ?_; refine ACallC_of (fun us => f85_ok _ _ (by assumption) (by omega) (by omega)) (by intro us; simp -dsimp [h1, h1', hy, hn]; exact ⟨rfl, rfl⟩) ?_; simp -dsimp [h1, h1', hy, hn, wi, w0, w1, w2, w3, w4, w5, w6, w7, w8, w9])
      | (refine ACallW_args (by intro us; simp -dsimp [h1, h1', hy, hn]; exact ⟨rfl, rfl, rfl⟩) ?_; refine ACallC_of (fun us => f86_ok _ _ (by assumption) (by omega) (by omega)) (by intro us; simp -dsimp [h1, h1', hy, hn]; exact ⟨rfl, rfl⟩) ?_; simp -dsimp [h1, h1', hy, hn, wi, w0, w1, w2, w3, w4, w5, w6, w7, w8, w9])
      | (refine ACallW_args (by intro us; simp -dsimp [h1, h1', hy, hn]; exact ⟨rfl, rfl, rfl⟩) ?_; refine ACallC_of (fun us => f87_ok _ _ (by assumption) (by omega) (by omega)) (by intro us; simp -dsimp [h1, h1', hy, hn]; exact ⟨rfl, rfl⟩) ?_; simp -dsimp [h1, h1', hy, hn, wi, w0, w1, w2, w3, w4, w5, w6, w7, w8, w9])
      | (refine ACallW_args (by intro us; simp -dsimp [h1, h1', hy, hn]; exact ⟨rfl, rfl, rfl⟩) ?_; refine ACallC_of (fun us => f115_ok _ _ (by assumption) (by omega) (by omega)) (by intro us; simp -dsimp [h1, h1', hy, hn]; exact ⟨rfl, rfl⟩) ?_; simp -dsimp [h1, h1', hy, hn, wi, w0, w1, w2, w3, w4, w5, w6, w7, w8, w9])
      | (refine ACallW_args (by intro us; simp -dsimp [h1, h1', hy, hn]; exact ⟨rfl, rfl, rfl⟩) ?_; refine ACallC_of (fun us => f88_ok _ _ (by assumption) (by omega) (by omega)) (by intro us; simp -dsimp [h1, h1', hy, hn]; exact ⟨rfl, rfl⟩) ?_; simp -dsimp [h1, h1', hy, hn, wi, w0, w1, w2, w3, w4, w5, w6, w7, w8, w9])
      | (refine And.intro (by first | omega | trivial) ?_))
    refine Wk_to [0, 1, 5] [(640000, 640000)] rfl rfl ?_
    simp -dsimp [GUnit.mar, mbool, wi, w0, w1, w2, w3, w4, w5, w6, w7, w8, w9]
  · refine AW_of h65 TryT_ok (by kernel_rfl) ?_
    simp -dsimp

@[simp] def h67 : Hts := { dr := fun id => if id = 22 then [{ mb := [82] }, { mb := [82] }, { mb := [82] }, { mb := [82] }, { mb := [82] }, { mb := [82] }, {}, { cr := true }, {}] else if id = 25 then [{ mb := [93] }, { mb := [93] }, { mb := [93] }, { mb := [93] }, { mb := [93] }, { mb := [93] }, {}, { cr := true }, {}] else [] }
theorem f67_ok (xs : List GUnit) (k : Int) (hl : xs.length ≤ 1073741824) (h0 : 0 ≤ k) (hB : (mkS GUnit.mar xs k).2 ≤ 4611686018427387904) (he : ∀ x, x ∈ xs → x.Ok) : FnR Try.prog 67 [.v (.im xs.length (flat (mkS GUnit.mar xs k).1)), .v (.int .i64 k)] (.v (.int .i64 (mkS GUnit.mar xs k).2)) := by
  refine FnW.of_AW TryT_ok 0 (fn := Try.f67) (by kernel_rfl) rfl (by kernel_rfl) rfl rfl rfl ?_
  refine AW_of h67 TryT_ok (by kernel_rfl) ?_
  simp -dsimp
  have hzl : (mkS GUnit.mar xs k).1.length = xs.length := mkS_len xs k
  refine AWh_held GUnit.mar GUnit.mar_le xs k h0 (fun m i => mkE [(0, .c (.im xs.length (flat (mkS GUnit.mar xs k).1))), (1, .c (.int .i64 m)), (5, .c (.int .i64 i))] []) (Wk_to [0, 1, 5] [] rfl rfl (by simp)) ?_ ?_
  · intro i m h1 hn hm hs
    refine AW_of h67 TryT_ok (by kernel_rfl) ?_
    generalize (mkS GUnit.mar xs k).1 = zs at hzl hn
    have h1' : i < zs.length := by omega
    replace he := he _ (nth_mem h1)
    simp only [GUnit.Ok, GAct.Ok, GDelta.Ok, and_assoc] at he
    obtain ⟨o0, o1, o2, o3, o4, o5, o6, o7, o8, o9, o10, o11⟩ := he
    simp only [GUnit.mar, mbool] at hs hn
    have q4 := mkS_le mkInt_le (nth xs i).act.knew (m + 1 + 1 + 1 + 1) (by omega)
    have q11 := mkS_le mkInt_le (nth xs i).delta.base ((mkS mkInt (nth xs i).act.knew (m + 1 + 1 + 1 + 1)).2 + 1 + 1 + 1 + 1 + 1 + 1) (by omega)
    have q12 := mkS_le mkInt_le (nth xs i).delta.know ((mkS mkInt (nth xs i).delta.base ((mkS mkInt (nth xs i).act.knew (m + 1 + 1 + 1 + 1)).2 + 1 + 1 + 1 + 1 + 1 + 1)).2) (by omega)
    have q13 := mkS_le GTally.mar_le (nth xs i).delta.tallies ((mkS mkInt (nth xs i).delta.know ((mkS mkInt (nth xs i).delta.base ((mkS mkInt (nth xs i).act.knew (m + 1 + 1 + 1 + 1)).2 + 1 + 1 + 1 + 1 + 1 + 1)).2)).2) (by omega)
    have q14 := mkS_le GLive.mar_le (nth xs i).delta.lives ((mkS GTally.mar (nth xs i).delta.tallies ((mkS mkInt (nth xs i).delta.know ((mkS mkInt (nth xs i).delta.base ((mkS mkInt (nth xs i).act.knew (m + 1 + 1 + 1 + 1)).2 + 1 + 1 + 1 + 1 + 1 + 1)).2)).2)).2) (by omega)
    have q15 := mkS_le GDot.mar_le (nth xs i).delta.dead ((mkS GLive.mar (nth xs i).delta.lives ((mkS GTally.mar (nth xs i).delta.tallies ((mkS mkInt (nth xs i).delta.know ((mkS mkInt (nth xs i).delta.base ((mkS mkInt (nth xs i).act.knew (m + 1 + 1 + 1 + 1)).2 + 1 + 1 + 1 + 1 + 1 + 1)).2)).2)).2)).2) (by omega)
    have q16 := mkS_le GCell.mar_le (nth xs i).delta.cs ((mkS GDot.mar (nth xs i).delta.dead ((mkS GLive.mar (nth xs i).delta.lives ((mkS GTally.mar (nth xs i).delta.tallies ((mkS mkInt (nth xs i).delta.know ((mkS mkInt (nth xs i).delta.base ((mkS mkInt (nth xs i).act.knew (m + 1 + 1 + 1 + 1)).2 + 1 + 1 + 1 + 1 + 1 + 1)).2)).2)).2)).2)).2) (by omega)
    have wi : IntKind.i64.wrap ((i : Int) + 1) = i + 1 := wrap64 (by omega) (by omega)
    have w0 : IntKind.i64.wrap (m + 1) = m + 1 := wrap64 (by omega) (by omega)
    have w1 : IntKind.i64.wrap (m + 1 + 1) = m + 1 + 1 := wrap64 (by omega) (by omega)
    have w2 : IntKind.i64.wrap (m + 1 + 1 + 1) = m + 1 + 1 + 1 := wrap64 (by omega) (by omega)
    have w3 : IntKind.i64.wrap (m + 1 + 1 + 1 + 1) = m + 1 + 1 + 1 + 1 := wrap64 (by omega) (by omega)
    have w4 : IntKind.i64.wrap ((mkS mkInt (nth xs i).act.knew (m + 1 + 1 + 1 + 1)).2 + 1) = (mkS mkInt (nth xs i).act.knew (m + 1 + 1 + 1 + 1)).2 + 1 := wrap64 (by omega) (by omega)
    have w5 : IntKind.i64.wrap ((mkS mkInt (nth xs i).act.knew (m + 1 + 1 + 1 + 1)).2 + 1 + 1) = (mkS mkInt (nth xs i).act.knew (m + 1 + 1 + 1 + 1)).2 + 1 + 1 := wrap64 (by omega) (by omega)
    have w6 : IntKind.i64.wrap ((mkS mkInt (nth xs i).act.knew (m + 1 + 1 + 1 + 1)).2 + 1 + 1 + 1) = (mkS mkInt (nth xs i).act.knew (m + 1 + 1 + 1 + 1)).2 + 1 + 1 + 1 := wrap64 (by omega) (by omega)
    have w7 : IntKind.i64.wrap ((mkS mkInt (nth xs i).act.knew (m + 1 + 1 + 1 + 1)).2 + 1 + 1 + 1 + 1) = (mkS mkInt (nth xs i).act.knew (m + 1 + 1 + 1 + 1)).2 + 1 + 1 + 1 + 1 := wrap64 (by omega) (by omega)
    have w8 : IntKind.i64.wrap ((mkS mkInt (nth xs i).act.knew (m + 1 + 1 + 1 + 1)).2 + 1 + 1 + 1 + 1 + 1) = (mkS mkInt (nth xs i).act.knew (m + 1 + 1 + 1 + 1)).2 + 1 + 1 + 1 + 1 + 1 := wrap64 (by omega) (by omega)
    have w9 : IntKind.i64.wrap ((mkS mkInt (nth xs i).act.knew (m + 1 + 1 + 1 + 1)).2 + 1 + 1 + 1 + 1 + 1 + 1) = (mkS mkInt (nth xs i).act.knew (m + 1 + 1 + 1 + 1)).2 + 1 + 1 + 1 + 1 + 1 + 1 := wrap64 (by omega) (by omega)
    simp -dsimp [h1, h1', hzl, hn, ne_of_lt h1', wi, w0, w1, w2, w3, w4, w5, w6, w7, w8, w9]
    repeat' (first
      | (refine ACallK_of (f89_ok _ (by omega) (by omega)) ?_; simp -dsimp [h1, h1', hzl, hn, ne_of_lt h1', wi, w0, w1, w2, w3, w4, w5, w6, w7, w8, w9])
      | (refine ACallK_of (f116_ok _ _ (by assumption) (by omega) (by omega)) ?_; simp -dsimp [h1, h1', hzl, hn, ne_of_lt h1', wi, w0, w1, w2, w3, w4, w5, w6, w7, w8, w9])
      | (refine ACallK_of (f117_ok _ _ (by assumption) (by omega) (by omega)) ?_; simp -dsimp [h1, h1', hzl, hn, ne_of_lt h1', wi, w0, w1, w2, w3, w4, w5, w6, w7, w8, w9])
      | (refine ACallK_of (f118_ok _ _ (by assumption) (by omega) (by omega)) ?_; simp -dsimp [h1, h1', hzl, hn, ne_of_lt h1', wi, w0, w1, w2, w3, w4, w5, w6, w7, w8, w9])
      | (refine ACallK_of (f120_ok _ _ (by assumption) (by omega) (by omega)) ?_; simp -dsimp [h1, h1', hzl, hn, ne_of_lt h1', wi, w0, w1, w2, w3, w4, w5, w6, w7, w8, w9])
      | (refine ACallK_of (f119_ok _ _ (by assumption) (by omega) (by omega)) ?_; simp -dsimp [h1, h1', hzl, hn, ne_of_lt h1', wi, w0, w1, w2, w3, w4, w5, w6, w7, w8, w9])
      | (refine And.intro (by first | omega | trivial) ?_)
      | (intro hneg; exfalso; omega)
      | (refine And.intro (fun hneg => by exfalso; omega) (fun _ => ?_))
      | (intro hpos; clear hpos))
    refine Wk_to [0, 1, 5] [] rfl rfl ?_
    simp -dsimp [GUnit.mar, mbool, wi, w0, w1, w2, w3, w4, w5, w6, w7, w8, w9]
  · refine AW_of h67 TryT_ok (by kernel_rfl) ?_
    simp -dsimp

@[simp] def h17 : Hts := { lend := fun f => if f = 29 then [.lend] else if f = 65 then [.lend] else [] }
theorem f17_ok (x : GLog) (k : Int) (h : x.Ok) (h0 : 0 ≤ k) (hB : (x.mt k).2 ≤ 4611686018427387904) : FnW Try.prog 17 [.agg [.int .i64 x.rep, .int .i64 x.time, .ow 3 1 x.state.know.length (flat x.state.know), .ow 121 3 x.state.tallies.length (flat x.state.tallies), .ow 78 6 x.state.lives.length (flat x.state.lives), .ow 80 8 x.state.cs.length (flat x.state.cs), .ow 140 17 x.units.length (flatO x.units), .ow 140 17 x.waits.length (flatO x.waits)], .v (.int .i64 k)] (.v (.int .i64 (x.mt k).2)) [.agg [.any, .any, .ow 3 1 (x.mt k).1.state.know.length (flat (x.mt k).1.state.know), .ow 121 3 (x.mt k).1.state.tallies.length (flat (x.mt k).1.state.tallies), .ow 78 6 (x.mt k).1.state.lives.length (flat (x.mt k).1.state.lives), .ow 80 8 (x.mt k).1.state.cs.length (flat (x.mt k).1.state.cs), .ow 140 17 (x.mt k).1.units.length (flatO (x.mt k).1.units), .ow 140 17 (x.mt k).1.waits.length (flatO (x.mt k).1.waits)], .any] := by
  simp only [GLog.Ok] at h
  obtain ⟨o0, o1, o2, o3, o4⟩ := h
  simp only [GLog.mt] at hB ⊢
  have q0 := x.state.mt_le (k) (by omega)
  have q1 := mkS_le GUnit.mar_le x.units ((x.state.mt (k)).2) (by omega)
  have q2 := mkS_le GUnit.mar_le x.waits ((mkS GUnit.mar x.units ((x.state.mt (k)).2)).2) (by omega)
  refine FnW.of_AW TryT_ok 1 (fn := Try.f17) (by kernel_rfl) rfl (by kernel_rfl) rfl rfl rfl ?_
  refine AW_of h17 TryT_ok (by kernel_rfl) ?_
  simp -dsimp
  repeat' (first
    | (refine ACallW_args (by intro us; simp -dsimp; exact ⟨rfl, rfl, rfl⟩) ?_; refine ACallC_of (fun us => f29_ok _ _ (by assumption) (by omega) (by omega)) (by intro us; simp -dsimp; exact ⟨rfl, rfl⟩) ?_; simp -dsimp)
    | (refine ACallW_args (by intro us; simp -dsimp; exact ⟨rfl, rfl, rfl⟩) ?_; refine ACallC_of (fun us => f65_ok _ _ (by assumption) (by omega) (by omega) (by assumption)) (by intro us; simp -dsimp; exact ⟨rfl, rfl⟩) ?_; simp -dsimp)
    | (refine And.intro (by first | omega | trivial) ?_))

@[simp] def h18 : Hts := {  }
theorem f18_ok (x : GLog) (k : Int) (h : x.Ok) (h0 : 0 ≤ k) (hB : (x.mt k).2 ≤ 4611686018427387904) : FnR Try.prog 18 [.agg [.int .i64 (x.mt k).1.rep, .int .i64 (x.mt k).1.time, .im (x.mt k).1.state.know.length (flat (x.mt k).1.state.know), .im (x.mt k).1.state.tallies.length (flat (x.mt k).1.state.tallies), .im (x.mt k).1.state.lives.length (flat (x.mt k).1.state.lives), .im (x.mt k).1.state.cs.length (flat (x.mt k).1.state.cs), .im (x.mt k).1.units.length (flat (x.mt k).1.units), .im (x.mt k).1.waits.length (flat (x.mt k).1.waits)], .v (.int .i64 k)] (.v (.int .i64 (x.mt k).2)) := by
  simp only [GLog.Ok] at h
  obtain ⟨o0, o1, o2, o3, o4⟩ := h
  simp only [GLog.mt] at hB ⊢
  have q0 := x.state.mt_le (k) (by omega)
  have q1 := mkS_le GUnit.mar_le x.units ((x.state.mt (k)).2) (by omega)
  have q2 := mkS_le GUnit.mar_le x.waits ((mkS GUnit.mar x.units ((x.state.mt (k)).2)).2) (by omega)
  refine FnW.of_AW TryT_ok 0 (fn := Try.f18) (by kernel_rfl) rfl (by kernel_rfl) rfl rfl rfl ?_
  refine AW_of h18 TryT_ok (by kernel_rfl) ?_
  simp -dsimp
  repeat' (first
    | (refine ACallK_of (f66_ok _ _ (by assumption) (by omega) (by omega)) ?_; simp -dsimp)
    | (refine ACallK_of (f67_ok _ _ (by assumption) (by omega) (by omega) (by assumption)) ?_; simp -dsimp)
    | (refine And.intro (fun hneg => by exfalso; omega) (fun _ => ?_))
    | (intro hneg; exfalso; omega)
    | (intro hpos; clear hpos))
end Am
