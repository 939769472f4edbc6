/- The law harness: marks, and whether they are still there. No condition. -/
import Derived.Test.YtkkaogfjlbigmaaGreatT
import Derived.Test.YtkkaogfjlbigmaaGreatK
namespace Am
open Go Go.Proofs
open Cel (cells)
set_option maxRecDepth 100000
set_option maxHeartbeats 4000000
set_option linter.unusedSimpArgs false
set_option linter.unusedVariables false


@[simp] def h92 : Hts := {  }
theorem f92_ok (k : Int) (h0 : 0 ≤ k) (hk : k ≤ 4611686018427387904) : FnR Tryz.prog 92 [.v (.int .i64 k)] (.v (.str (mtext k))) := by
  obtain ⟨n0, rfl⟩ := Int.eq_ofNat_of_zero_le h0
  refine FnW.of_AW TryzT_ok 0 (fn := Tryz.f92) (by kernel_rfl) rfl (by kernel_rfl) rfl rfl rfl ?_
  refine AW_of h92 TryzT_ok (by kernel_rfl) ?_
  simp -dsimp
  refine ⟨fun h => by subst h; rfl, fun h => ?_⟩
  have hkk : n0 < 10 ^ 20 := by have : (10 : Nat) ^ 20 = 100000000000000000000 := by decide
                                omega
  refine AWh_loop (fun s : Nat × ByteArray => ∃ j f, j + s.2.size = 20 ∧ j ≤ f ∧ s.1 < 10 ^ j ∧ s.1 ≤ n0 ∧ mgo f s.1 s.2 = mgo 20 n0 ⟨#[]⟩) (fun s => mkE [(0, .c (.int .i64 s.1)), (3, .c (.str s.2))] []) (fun s => s.1) (n0, ⟨#[]⟩) (Wk_to [0, 3] [] rfl rfl (by simp)) ⟨20, 20, rfl, Nat.le_refl _, hkk, Nat.le_refl _, rfl⟩ ?_
  rintro ⟨n, out⟩ ⟨j, f, hj, hjf, hn, hle, hm⟩
  simp only at hj hn hm hle
  refine AW_of h92 TryzT_ok (by kernel_rfl) ?_
  rcases Nat.eq_zero_or_pos n with hz | hz
  · subst hz
    have : mgo f 0 out = out := by cases f <;> simp [mgo]
    rw [this] at hm
    simp -dsimp
    rw [mtext, if_neg (by omega), Int.toNat_natCast, ← hm]
    refine ⟨?_, rfl⟩
    show 1 + out.size ≤ 1099511627776
    omega
  · obtain ⟨j, rfl⟩ : ∃ i, j = i + 1 := ⟨j - 1, by cases j with
      | zero => rw [Nat.pow_zero] at hn; omega
      | succ i => rfl⟩
    obtain ⟨f, rfl⟩ : ∃ i, f = i + 1 := ⟨f - 1, by omega⟩
    rw [mgo, if_neg (by omega)] at hm
    have hmod : ((n : Int).tmod 10) = ((n % 10 : Nat) : Int) := by rw [Int.tmod_eq_emod_of_nonneg (by omega)]; rfl
    have hdiv : ((n : Int).tdiv 10) = ((n / 10 : Nat) : Int) := by rw [Int.tdiv_eq_ediv_of_nonneg (by omega)]; rfl
    have hq : n / 10 < 10 ^ j := by rw [Nat.pow_succ] at hn; omega
    clear hn hkk
    have e1 : IntKind.i64.wrap (48 + ↑n % 10) = 48 + ↑n % 10 := wrap64 (by omega) (by omega)
    have e2 : IntKind.u8.wrap (48 + ↑n % 10) = ((48 + n % 10 : Nat) : Int) := by
      simp only [IntKind.wrap, IntKind.bits, IntKind.signed]
      simp
      omega
    have e3 : IntKind.i64.wrap (n / 10) = n / 10 := wrap64 (by omega) (by omega)
    simp -dsimp only [hz, hmod, hdiv]
    simp -dsimp [hz, hmod, hdiv, e1, e2, e3, allBytes, bytesOf]
    have et : (48 + (n : Int) % 10).toNat = 48 + n % 10 := by omega
    rw [et]
    refine ⟨by omega, by show 1 + out.size ≤ 1099511627776; omega, ?_⟩
    refine Back_of (n / 10, ⟨#[UInt8.ofNat (48 + n % 10)]⟩ ++ out) [0, 3] [] rfl rfl (by simp -dsimp) ⟨j, f, ?_, by omega, hq, by simp only; omega, hm⟩ (by simp only; omega)
    simp only [ByteArray.size_append]
    show j + (1 + out.size) = 20
    omega

@[simp] def h24 : Hts := {  }
theorem f24_ok (xs : List Int) (k : Int) (hl : xs.length ≤ 1073741824) (h0 : 0 ≤ k) (hB : (mkS mkInt xs k).2 ≤ 4611686018427387904) : FnW Tryz.prog 24 [.v (.ow 3 1 xs.length (flat xs)), .v (.int .i64 k)] (.v (.int .i64 (mkS mkInt xs k).2)) [.v (.ow 3 1 xs.length (flat (mkS mkInt xs k).1)), .any] := by
  refine FnW.of_AW TryzT_ok 1 (fn := Tryz.f24) (by kernel_rfl) rfl (by kernel_rfl) rfl rfl rfl ?_
  refine AW_of h24 TryzT_ok (by kernel_rfl) ?_
  simp -dsimp
  refine AWh_mark mkInt mkInt_le xs k h0 (fun ys m i => mkE [(0, .arr 640000), (1, .c (.int .i64 m)), (5, .c (.int .i64 i))] [(640000, .arr 0 3 1 xs.length (flat ys))]) (Wk_to [0, 1, 5] [(640000, 640000)] rfl rfl (by simp)) ?_ ?_
  · intro i ys m h1 hy hn hm hs
    refine AW_of h24 TryzT_ok (by kernel_rfl) ?_
    have h1' : i < ys.length := by omega
    simp only [mkInt] at hs
    have wi : IntKind.i64.wrap ((i : Int) + 1) = i + 1 := wrap64 (by omega) (by omega)
    have w0 : IntKind.i64.wrap (m + 1) = m + 1 := wrap64 (by omega) (by omega)
    simp -dsimp [h1, h1', hy, hn, wi, w0]
    repeat' (first
      | (refine And.intro (by first | omega | trivial) ?_))
    refine Wk_to [0, 1, 5] [(640000, 640000)] rfl rfl ?_
    simp -dsimp [mkInt, mbool, wi, w0]
  · refine AW_of h24 TryzT_ok (by kernel_rfl) ?_
    simp -dsimp

@[simp] def h25 : Hts := {  }
theorem f25_ok (xs : List Int) (k : Int) (hl : xs.length ≤ 1073741824) (h0 : 0 ≤ k) (hB : (mkS mkInt xs k).2 ≤ 4611686018427387904) : FnR Tryz.prog 25 [.v (.im xs.length (flat (mkS mkInt xs k).1)), .v (.int .i64 k)] (.v (.int .i64 (mkS mkInt xs k).2)) := by
  refine FnW.of_AW TryzT_ok 0 (fn := Tryz.f25) (by kernel_rfl) rfl (by kernel_rfl) rfl rfl rfl ?_
  refine AW_of h25 TryzT_ok (by kernel_rfl) ?_
  simp -dsimp
  have hzl : (mkS mkInt xs k).1.length = xs.length := mkS_len xs k
  refine AWh_held mkInt mkInt_le xs k h0 (fun m i => mkE [(0, .c (.im xs.length (flat (mkS mkInt xs k).1))), (1, .c (.int .i64 m)), (5, .c (.int .i64 i))] []) (Wk_to [0, 1, 5] [] rfl rfl (by simp)) ?_ ?_
  · intro i m h1 hn hm hs
    refine AW_of h25 TryzT_ok (by kernel_rfl) ?_
    generalize (mkS mkInt xs k).1 = zs at hzl hn
    have h1' : i < zs.length := by omega
    simp only [mkInt, mbool] at hs hn
    have wi : IntKind.i64.wrap ((i : Int) + 1) = i + 1 := wrap64 (by omega) (by omega)
    have w0 : IntKind.i64.wrap (m + 1) = m + 1 := wrap64 (by omega) (by omega)
    simp -dsimp [h1, h1', hzl, hn, ne_of_lt h1', wi, w0]
    repeat' (first
      | (refine And.intro (by first | omega | trivial) ?_)
      | (intro hneg; exfalso; omega)
      | (refine And.intro (fun hneg => by exfalso; omega) (fun _ => ?_))
      | (intro hpos; clear hpos))
    refine Wk_to [0, 1, 5] [] rfl rfl ?_
    simp -dsimp [mkInt, mbool, wi, w0]
  · refine AW_of h25 TryzT_ok (by kernel_rfl) ?_
    simp -dsimp

@[simp] def h52 : Hts := {  }
theorem f52_ok (xs : List GTally) (k : Int) (hl : xs.length ≤ 1073741824) (h0 : 0 ≤ k) (hB : (mkS GTally.mar xs k).2 ≤ 4611686018427387904) : FnW Tryz.prog 52 [.v (.ow 120 3 xs.length (flat xs)), .v (.int .i64 k)] (.v (.int .i64 (mkS GTally.mar xs k).2)) [.v (.ow 120 3 xs.length (flat (mkS GTally.mar xs k).1)), .any] := by
  refine FnW.of_AW TryzT_ok 1 (fn := Tryz.f52) (by kernel_rfl) rfl (by kernel_rfl) rfl rfl rfl ?_
  refine AW_of h52 TryzT_ok (by kernel_rfl) ?_
  simp -dsimp
  refine AWh_mark GTally.mar GTally.mar_le xs k h0 (fun ys m i => mkE [(0, .arr 640000), (1, .c (.int .i64 m)), (5, .c (.int .i64 i))] [(640000, .arr 0 120 3 xs.length (flat ys))]) (Wk_to [0, 1, 5] [(640000, 640000)] rfl rfl (by simp)) ?_ ?_
  · intro i ys m h1 hy hn hm hs
    refine AW_of h52 TryzT_ok (by kernel_rfl) ?_
    have h1' : i < ys.length := by omega
    simp only [GTally.mar] at hs
    have wi : IntKind.i64.wrap ((i : Int) + 1) = i + 1 := wrap64 (by omega) (by omega)
    have w0 : IntKind.i64.wrap (m + 1) = m + 1 := wrap64 (by omega) (by omega)
    have w1 : IntKind.i64.wrap (m + 1 + 1) = m + 1 + 1 := wrap64 (by omega) (by omega)
    have w2 : IntKind.i64.wrap (m + 1 + 1 + 1) = m + 1 + 1 + 1 := wrap64 (by omega) (by omega)
    simp -dsimp [h1, h1', hy, hn, wi, w0, w1, w2]
    repeat' (first
      | (refine ACallK_of (f92_ok _ (by omega) (by omega)) ?_; simp -dsimp [h1, h1', hy, hn, wi, w0, w1, w2])
      | (refine And.intro (by first | omega | trivial) ?_))
    refine Wk_to [0, 1, 5] [(640000, 640000)] rfl rfl ?_
    simp -dsimp [GTally.mar, mbool, wi, w0, w1, w2]
  · refine AW_of h52 TryzT_ok (by kernel_rfl) ?_
    simp -dsimp

@[simp] def h53 : Hts := {  }
theorem f53_ok (xs : List GLive) (k : Int) (hl : xs.length ≤ 1073741824) (h0 : 0 ≤ k) (hB : (mkS GLive.mar xs k).2 ≤ 4611686018427387904) : FnW Tryz.prog 53 [.v (.ow 114 6 xs.length (flat xs)), .v (.int .i64 k)] (.v (.int .i64 (mkS GLive.mar xs k).2)) [.v (.ow 114 6 xs.length (flat (mkS GLive.mar xs k).1)), .any] := by
  refine FnW.of_AW TryzT_ok 1 (fn := Tryz.f53) (by kernel_rfl) rfl (by kernel_rfl) rfl rfl rfl ?_
  refine AW_of h53 TryzT_ok (by kernel_rfl) ?_
  simp -dsimp
  refine AWh_mark GLive.mar GLive.mar_le xs k h0 (fun ys m i => mkE [(0, .arr 640000), (1, .c (.int .i64 m)), (5, .c (.int .i64 i))] [(640000, .arr 0 114 6 xs.length (flat ys))]) (Wk_to [0, 1, 5] [(640000, 640000)] rfl rfl (by simp)) ?_ ?_
  · intro i ys m h1 hy hn hm hs
    refine AW_of h53 TryzT_ok (by kernel_rfl) ?_
    have h1' : i < ys.length := by omega
    simp only [GLive.mar] at hs
    have wi : IntKind.i64.wrap ((i : Int) + 1) = i + 1 := wrap64 (by omega) (by omega)
    have w0 : IntKind.i64.wrap (m + 1) = m + 1 := wrap64 (by omega) (by omega)
    have w1 : IntKind.i64.wrap (m + 1 + 1) = m + 1 + 1 := wrap64 (by omega) (by omega)
    have w2 : IntKind.i64.wrap (m + 1 + 1 + 1) = m + 1 + 1 + 1 := wrap64 (by omega) (by omega)
    have w3 : IntKind.i64.wrap (m + 1 + 1 + 1 + 1) = m + 1 + 1 + 1 + 1 := wrap64 (by omega) (by omega)
    have w4 : IntKind.i64.wrap (m + 1 + 1 + 1 + 1 + 1) = m + 1 + 1 + 1 + 1 + 1 := wrap64 (by omega) (by omega)
    have w5 : IntKind.i64.wrap (m + 1 + 1 + 1 + 1 + 1 + 1) = m + 1 + 1 + 1 + 1 + 1 + 1 := wrap64 (by omega) (by omega)
    simp -dsimp [h1, h1', hy, hn, wi, w0, w1, w2, w3, w4, w5]
    repeat' (first
      | (refine ACallK_of (f92_ok _ (by omega) (by omega)) ?_; simp -dsimp [h1, h1', hy, hn, wi, w0, w1, w2, w3, w4, w5])
      | (refine And.intro (by first | omega | trivial) ?_))
    refine Wk_to [0, 1, 5] [(640000, 640000)] rfl rfl ?_
    simp -dsimp [GLive.mar, mbool, wi, w0, w1, w2, w3, w4, w5]
  · refine AW_of h53 TryzT_ok (by kernel_rfl) ?_
    simp -dsimp

@[simp] def h54 : Hts := {  }
theorem f54_ok (xs : List GCell) (k : Int) (hl : xs.length ≤ 1073741824) (h0 : 0 ≤ k) (hB : (mkS GCell.mar xs k).2 ≤ 4611686018427387904) : FnW Tryz.prog 54 [.v (.ow 116 8 xs.length (flat xs)), .v (.int .i64 k)] (.v (.int .i64 (mkS GCell.mar xs k).2)) [.v (.ow 116 8 xs.length (flat (mkS GCell.mar xs k).1)), .any] := by
  refine FnW.of_AW TryzT_ok 1 (fn := Tryz.f54) (by kernel_rfl) rfl (by kernel_rfl) rfl rfl rfl ?_
  refine AW_of h54 TryzT_ok (by kernel_rfl) ?_
  simp -dsimp
  refine AWh_mark GCell.mar GCell.mar_le xs k h0 (fun ys m i => mkE [(0, .arr 640000), (1, .c (.int .i64 m)), (5, .c (.int .i64 i))] [(640000, .arr 0 116 8 xs.length (flat ys))]) (Wk_to [0, 1, 5] [(640000, 640000)] rfl rfl (by simp)) ?_ ?_
  · intro i ys m h1 hy hn hm hs
    refine AW_of h54 TryzT_ok (by kernel_rfl) ?_
    have h1' : i < ys.length := by omega
    simp only [GCell.mar] at hs
    have wi : IntKind.i64.wrap ((i : Int) + 1) = i + 1 := wrap64 (by omega) (by omega)
    have w0 : IntKind.i64.wrap (m + 1) = m + 1 := wrap64 (by omega) (by omega)
    have w1 : IntKind.i64.wrap (m + 1 + 1) = m + 1 + 1 := wrap64 (by omega) (by omega)
    have w2 : IntKind.i64.wrap (m + 1 + 1 + 1) = m + 1 + 1 + 1 := wrap64 (by omega) (by omega)
    have w3 : IntKind.i64.wrap (m + 1 + 1 + 1 + 1) = m + 1 + 1 + 1 + 1 := wrap64 (by omega) (by omega)
    have w4 : IntKind.i64.wrap (m + 1 + 1 + 1 + 1 + 1) = m + 1 + 1 + 1 + 1 + 1 := wrap64 (by omega) (by omega)
    have w5 : IntKind.i64.wrap (m + 1 + 1 + 1 + 1 + 1 + 1) = m + 1 + 1 + 1 + 1 + 1 + 1 := wrap64 (by omega) (by omega)
    have w6 : IntKind.i64.wrap (m + 1 + 1 + 1 + 1 + 1 + 1 + 1) = m + 1 + 1 + 1 + 1 + 1 + 1 + 1 := wrap64 (by omega) (by omega)
    have w7 : IntKind.i64.wrap (m + 1 + 1 + 1 + 1 + 1 + 1 + 1 + 1) = m + 1 + 1 + 1 + 1 + 1 + 1 + 1 + 1 := wrap64 (by omega) (by omega)
    simp -dsimp [h1, h1', hy, hn, wi, w0, w1, w2, w3, w4, w5, w6, w7]
    repeat' (first
      | (refine ACallK_of (f92_ok _ (by omega) (by omega)) ?_; simp -dsimp [h1, h1', hy, hn, wi, w0, w1, w2, w3, w4, w5, w6, w7])
      | (refine And.intro (by first | omega | trivial) ?_))
    refine Wk_to [0, 1, 5] [(640000, 640000)] rfl rfl ?_
    simp -dsimp [GCell.mar, mbool, wi, w0, w1, w2, w3, w4, w5, w6, w7]
  · refine AW_of h54 TryzT_ok (by kernel_rfl) ?_
    simp -dsimp

@[simp] def h15 : Hts := { lend := fun f => if f = 24 then [.lend] else [] }
theorem f15_ok (x : GAct) (k : Int) (h : x.Ok) (h0 : 0 ≤ k) (hB : (x.mt k).2 ≤ 4611686018427387904) : FnW Tryz.prog 15 [.agg [.int .i64 x.dot.rep, .int .i64 x.dot.seq, .int .i64 x.time, .ow 3 1 x.knew.length (flat x.knew), .int .i64 x.kind, .str x.obj, .str x.key, .int .i64 x.val, .int .i64 x.ref.rep, .int .i64 x.ref.seq], .v (.int .i64 k)] (.v (.int .i64 (x.mt k).2)) [.agg [.any, .any, .any, .ow 3 1 (x.mt k).1.knew.length (flat (x.mt k).1.knew), .any, .any, .any, .any, .any, .any], .any] := by
  simp only [GAct.Ok] at h
  obtain ⟨o0, o1, o2⟩ := h
  simp only [GAct.mt] at hB ⊢
  have q0 := mkS_le mkInt_le x.knew (k) (by omega)
  refine FnW.of_AW TryzT_ok 1 (fn := Tryz.f15) (by kernel_rfl) rfl (by kernel_rfl) rfl rfl rfl ?_
  refine AW_of h15 TryzT_ok (by kernel_rfl) ?_
  simp -dsimp
  repeat' (first
    | (refine ACallW_args (by intro us; simp -dsimp; exact ⟨rfl, rfl, rfl⟩) ?_; refine ACallC_of (fun us => f24_ok _ _ (by assumption) (by omega) (by omega)) (by intro us; simp -dsimp; exact ⟨rfl, rfl⟩) ?_; simp -dsimp)
    | (refine And.intro (by first | omega | trivial) ?_))

@[simp] def h16 : Hts := {  }
theorem f16_ok (x : GAct) (k : Int) (h : x.Ok) (h0 : 0 ≤ k) (hB : (x.mt k).2 ≤ 4611686018427387904) : FnR Tryz.prog 16 [.agg [.int .i64 (x.mt k).1.dot.rep, .int .i64 (x.mt k).1.dot.seq, .int .i64 (x.mt k).1.time, .im (x.mt k).1.knew.length (flat (x.mt k).1.knew), .int .i64 (x.mt k).1.kind, .str (x.mt k).1.obj, .str (x.mt k).1.key, .int .i64 (x.mt k).1.val, .int .i64 (x.mt k).1.ref.rep, .int .i64 (x.mt k).1.ref.seq], .v (.int .i64 k)] (.v (.int .i64 (x.mt k).2)) := by
  simp only [GAct.Ok] at h
  obtain ⟨o0, o1, o2⟩ := h
  simp only [GAct.mt] at hB ⊢
  have q0 := mkS_le mkInt_le x.knew (k) (by omega)
  refine FnW.of_AW TryzT_ok 0 (fn := Tryz.f16) (by kernel_rfl) rfl (by kernel_rfl) rfl rfl rfl ?_
  refine AW_of h16 TryzT_ok (by kernel_rfl) ?_
  simp -dsimp
  repeat' (first
    | (refine ACallK_of (f25_ok _ _ (by assumption) (by omega) (by omega)) ?_; simp -dsimp)
    | (refine And.intro (fun hneg => by exfalso; omega) (fun _ => ?_))
    | (intro hneg; exfalso; omega)
    | (intro hpos; clear hpos))

@[simp] def h14 : Hts := { lend := fun f => if f = 24 then [.lend] else if f = 52 then [.lend] else if f = 53 then [.lend] else if f = 54 then [.lend] else [] }
theorem f14_ok (x : GState) (k : Int) (h : x.Ok) (h0 : 0 ≤ k) (hB : (x.mt k).2 ≤ 4611686018427387904) : FnW Tryz.prog 14 [.agg [.ow 3 1 x.know.length (flat x.know), .ow 120 3 x.tallies.length (flat x.tallies), .ow 114 6 x.lives.length (flat x.lives), .ow 116 8 x.cs.length (flat x.cs)], .v (.int .i64 k)] (.v (.int .i64 (x.mt k).2)) [.agg [.ow 3 1 (x.mt k).1.know.length (flat (x.mt k).1.know), .ow 120 3 (x.mt k).1.tallies.length (flat (x.mt k).1.tallies), .ow 114 6 (x.mt k).1.lives.length (flat (x.mt k).1.lives), .ow 116 8 (x.mt k).1.cs.length (flat (x.mt k).1.cs)], .any] := by
  simp only [GState.Ok] at h
  obtain ⟨o0, o1, o2, o3, o4, o5, o6⟩ := h
  simp only [GState.mt] at hB ⊢
  have q0 := mkS_le mkInt_le x.know (k) (by omega)
  have q1 := mkS_le GTally.mar_le x.tallies ((mkS mkInt x.know (k)).2) (by omega)
  have q2 := mkS_le GLive.mar_le x.lives ((mkS GTally.mar x.tallies ((mkS mkInt x.know (k)).2)).2) (by omega)
  have q3 := mkS_le GCell.mar_le x.cs ((mkS GLive.mar x.lives ((mkS GTally.mar x.tallies ((mkS mkInt x.know (k)).2)).2)).2) (by omega)
  refine FnW.of_AW TryzT_ok 1 (fn := Tryz.f14) (by kernel_rfl) rfl (by kernel_rfl) rfl rfl rfl ?_
  refine AW_of h14 TryzT_ok (by kernel_rfl) ?_
  simp -dsimp
  repeat' (first
    | (refine ACallW_args (by intro us; simp -dsimp; exact ⟨rfl, rfl, rfl⟩) ?_; refine ACallC_of (fun us => f24_ok _ _ (by assumption) (by omega) (by omega)) (by intro us; simp -dsimp; exact ⟨rfl, rfl⟩) ?_; simp -dsimp)
    | (refine ACallW_args (by intro us; simp -dsimp; exact ⟨rfl, rfl, rfl⟩) ?_; refine ACallC_of (fun us => f52_ok _ _ (by assumption) (by omega) (by omega)) (by intro us; simp -dsimp; exact ⟨rfl, rfl⟩) ?_; simp -dsimp)
    | (refine ACallW_args (by intro us; simp -dsimp; exact ⟨rfl, rfl, rfl⟩) ?_; refine ACallC_of (fun us => f53_ok _ _ (by assumption) (by omega) (by omega)) (by intro us; simp -dsimp; exact ⟨rfl, rfl⟩) ?_; simp -dsimp)
    | (refine ACallW_args (by intro us; simp -dsimp; exact ⟨rfl, rfl, rfl⟩) ?_; refine ACallC_of (fun us => f54_ok _ _ (by assumption) (by omega) (by omega)) (by intro us; simp -dsimp; exact ⟨rfl, rfl⟩) ?_; simp -dsimp)
    | (refine And.intro (by first | omega | trivial) ?_))

@[simp] def h64 : Hts := { lend := fun f => if f = 24 then [.lend] else if f = 52 then [.lend] else if f = 53 then [.lend] else if f = 54 then [.lend] else [] }
theorem f64_ok (xs : List GCommit) (k : Int) (hl : xs.length ≤ 1073741824) (h0 : 0 ≤ k) (hB : (mkS GCommit.mar xs k).2 ≤ 4611686018427387904) (he : ∀ x, x ∈ xs → x.Ok) : FnW Tryz.prog 64 [.v (.ow 134 7 xs.length (flatO xs)), .v (.int .i64 k)] (.v (.int .i64 (mkS GCommit.mar xs k).2)) [.v (.ow 134 7 xs.length (flatO (mkS GCommit.mar xs k).1)), .any] := by
  refine FnW.of_AW TryzT_ok 1 (fn := Tryz.f64) (by kernel_rfl) rfl (by kernel_rfl) rfl rfl rfl ?_
  refine AW_of h64 TryzT_ok (by kernel_rfl) ?_
  simp -dsimp
  refine AWh_mark GCommit.mar GCommit.mar_le xs k h0 (fun ys m i => mkE [(0, .arr 640000), (1, .c (.int .i64 m)), (5, .c (.int .i64 i))] [(640000, .arr 0 134 7 xs.length (flatO ys))]) (Wk_to [0, 1, 5] [(640000, 640000)] rfl rfl (by simp)) ?_ ?_
  · intro i ys m h1 hy hn hm hs
    refine AW_of h64 TryzT_ok (by kernel_rfl) ?_
    have h1' : i < ys.length := by omega
    have hme := nth_mem h1
    replace he := he _ hme
    simp only [GCommit.Ok, GState.Ok, and_assoc] at he
    obtain ⟨o0, o1, o2, o3, o4, o5, o6, o7⟩ := he
    simp only [GCommit.mar] at hs
    have q2 := mkS_le mkInt_le (nth xs i).ups (m + 1 + 1) (by omega)
    have q3 := mkS_le mkInt_le (nth xs i).state.know ((mkS mkInt (nth xs i).ups (m + 1 + 1)).2) (by omega)
    have q4 := mkS_le GTally.mar_le (nth xs i).state.tallies ((mkS mkInt (nth xs i).state.know ((mkS mkInt (nth xs i).ups (m + 1 + 1)).2)).2) (by omega)
    have q5 := mkS_le GLive.mar_le (nth xs i).state.lives ((mkS GTally.mar (nth xs i).state.tallies ((mkS mkInt (nth xs i).state.know ((mkS mkInt (nth xs i).ups (m + 1 + 1)).2)).2)).2) (by omega)
    have q6 := mkS_le GCell.mar_le (nth xs i).state.cs ((mkS GLive.mar (nth xs i).state.lives ((mkS GTally.mar (nth xs i).state.tallies ((mkS mkInt (nth xs i).state.know ((mkS mkInt (nth xs i).ups (m + 1 + 1)).2)).2)).2)).2) (by omega)
    have wi : IntKind.i64.wrap ((i : Int) + 1) = i + 1 := wrap64 (by omega) (by omega)
    have w0 : IntKind.i64.wrap (m + 1) = m + 1 := wrap64 (by omega) (by omega)
    have w1 : IntKind.i64.wrap (m + 1 + 1) = m + 1 + 1 := wrap64 (by omega) (by omega)
    simp -dsimp [h1, h1', hy, hn, wi, w0, w1]
    repeat' (first
      | (refine ACallW_args (by intro us; simp -dsimp [h1, h1', hy, hn]; exact ⟨rfl, rfl, rfl⟩) ?_; refine ACallC_of (fun us => f24_ok _ _ (by assumption) (by omega) (by omega)) (by intro us; simp -dsimp [h1, h1', hy, hn]; exact ⟨rfl, rfl⟩) ?_; simp -dsimp [h1, h1', hy, hn, wi, w0, w1])
      | (refine ACallW_args (by intro us; simp -dsimp [h1, h1', hy, hn]; exact ⟨rfl, rfl, rfl⟩) ?_; refine ACallC_of (fun us => f52_ok _ _ (by assumption) (by omega) (by omega)) (by intro us; simp -dsimp [h1, h1', hy, hn]; exact ⟨rfl, rfl⟩) ?_; simp -dsimp [h1, h1', hy, hn, wi, w0, w1])
      | (refine ACallW_args (by intro us; simp -dsimp [h1, h1', hy, hn]; exact ⟨rfl, rfl, rfl⟩) ?_; refine ACallC_of (fun us => f53_ok _ _ (by assumption) (by omega) (by omega)) (by intro us; simp -dsimp [h1, h1', hy, hn]; exact ⟨rfl, rfl⟩) ?_; simp -dsimp [h1, h1', hy, hn, wi, w0, w1])
      | (refine ACallW_args (by intro us; simp -dsimp [h1, h1', hy, hn]; exact ⟨rfl, rfl, rfl⟩) ?_; refine ACallC_of (fun us => f54_ok _ _ (by assumption) (by omega) (by omega)) (by intro us; simp -dsimp [h1, h1', hy, hn]; exact ⟨rfl, rfl⟩) ?_; simp -dsimp [h1, h1', hy, hn, wi, w0, w1])
      | (refine And.intro (by first | omega | trivial) ?_))
    refine Wk_to [0, 1, 5] [(640000, 640000)] rfl rfl ?_
    simp -dsimp [GCommit.mar, mbool, wi, w0, w1]
  · refine AW_of h64 TryzT_ok (by kernel_rfl) ?_
    simp -dsimp

@[simp] def h23 : Hts := { lend := fun f => if f = 64 then [.lend] else [] }
theorem f23_ok (x : GGraph) (k : Int) (h : x.Ok) (h0 : 0 ≤ k) (hB : (x.mt k).2 ≤ 4611686018427387904) : FnW Tryz.prog 23 [.agg [.ow 134 7 x.commits.length (flatO x.commits), .int .i64 x.head], .v (.int .i64 k)] (.v (.int .i64 (x.mt k).2)) [.agg [.ow 134 7 (x.mt k).1.commits.length (flatO (x.mt k).1.commits), .any], .any] := by
  simp only [GGraph.Ok] at h
  obtain ⟨o0, o1⟩ := h
  simp only [GGraph.mt] at hB ⊢
  have q0 := mkS_le GCommit.mar_le x.commits (k) (by omega)
  refine FnW.of_AW TryzT_ok 1 (fn := Tryz.f23) (by kernel_rfl) rfl (by kernel_rfl) rfl rfl rfl ?_
  refine AW_of h23 TryzT_ok (by kernel_rfl) ?_
  simp -dsimp
  repeat' (first
    | (refine ACallW_args (by intro us; simp -dsimp; exact ⟨rfl, rfl, rfl⟩) ?_; refine ACallC_of (fun us => f64_ok _ _ (by assumption) (by omega) (by omega) (by assumption)) (by intro us; simp -dsimp; exact ⟨rfl, rfl⟩) ?_; simp -dsimp)
    | (refine And.intro (by first | omega | trivial) ?_))
end Am
