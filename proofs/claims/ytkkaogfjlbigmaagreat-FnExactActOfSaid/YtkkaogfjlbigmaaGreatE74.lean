/- An edit's act: of both. No condition. -/
import Derived.Test.YtkkaogfjlbigmaaGreatT
import Derived.Test.YtkkaogfjlbigmaaGreatD
import Derived.Test.YtkkaogfjlbigmaaGreatE73
import Derived.Test.YtkkaogfjlbigmaaGreatE22a
import Derived.Test.YtkkaogfjlbigmaaGreatE24c
import Derived.Test.YtkkaogfjlbigmaaGreatAm31
namespace Am
open Go Go.Proofs
open Cel (cells)
set_option maxRecDepth 100000
set_option linter.unusedSimpArgs false
set_option linter.unusedVariables false

def editOk (e : GEdit) : Bool := plain e.kind e.val e.obj e.key && ((e.place == 0) || (decide (0 < e.place) && (e.kind == 6 || e.kind == 7)))
@[simp] def h43 : Hts := { mergeF := fun _ => true }
set_option maxHeartbeats 1000000 in
theorem f43_ok (e : GEdit) (h1 : e.obj.size ≤ 9223372036854775807) (h2 : e.key.size ≤ 9223372036854775807) : FnR Tryz.prog 43 [.agg [.int .i64 e.kind, .str e.obj, .str e.key, .int .i64 e.val, .int .i64 e.place]] (.v (.bool (editOk e))) := by
  refine FnW.of_AW TryzT_ok 0 (fn := Tryz.f43) (by kernel_rfl) rfl (by kernel_rfl) rfl rfl rfl ?_; refine AW_of h43 TryzT_ok (by kernel_rfl) ?_
  simp -dsimp
  refine ACallK_of (f85_ok _ _ _ _ h1 h2) ?_
  simp -dsimp
  exact ⟨by grind, by grind, by grind, rfl⟩
@[simp] def h33 : Hts := { mergeF := fun _ => true }
set_option maxHeartbeats 1000000 in
theorem f33_ok (e : GEdit) (h1 : e.obj.size ≤ 9223372036854775807) (h2 : e.key.size ≤ 9223372036854775807) : FnR Tryz.prog 33 [.agg [.int .i64 e.kind, .str e.obj, .str e.key, .int .i64 e.val, .int .i64 e.place]] (.v (.bool (editOk e))) := by
  refine FnW.of_AW TryzT_ok 0 (fn := Tryz.f33) (by kernel_rfl) rfl (by kernel_rfl) rfl rfl rfl ?_; refine AW_of h33 TryzT_ok (by kernel_rfl) ?_
  simp -dsimp
  refine ACallK_of (f75_ok _ _ _ _ h1 h2) ?_
  simp -dsimp
  refine ⟨by grind, ?_⟩
  unfold editOk
  cases plain e.kind e.val e.obj e.key
  · simp
  rw [Bool.eq_iff_iff]
  simp
  omega

def actPlace (s : GState) (e : GEdit) : GDot × Bool := if e.kind = 6 ∧ 0 < e.place then placeIn s e.obj (e.place - 1) else if e.kind = 7 then placeIn s e.obj e.place else (zeroDot, true)
def actRaw (s : GState) (rep time : Int) (e : GEdit) : GAct := ⟨⟨rep, nth s.know rep.toNat + 1⟩, time, s.know, e.kind, e.obj, e.key, e.val, (actPlace s e).1⟩
def actPre (s : GState) (rep time : Int) (e : GEdit) : Bool := stateOk s && editOk e && spIn rep 0 2 && spIn time 1 10000 && decide (nth s.know rep.toNat < 1000)
def actOf (s : GState) (rep time : Int) (e : GEdit) : GAct × Int :=
  if actPre s rep time e = false then (zeroAct, 3) else if (actPlace s e).2 = false then (zeroAct, 5) else if actOk (actRaw s rep time e) = false then (zeroAct, 3) else (actRaw s rep time e, 0)
theorem placeIn_zero {s : GState} {o : ByteArray} {i : Int} (h : (placeIn s o i).2 = false) : (placeIn s o i).1 = zeroDot := by
  unfold placeIn at *
  split at h
  · cases h
  · rename_i hn; rw [if_neg hn]
theorem knowOk_nth {k : List Int} (h : knowOk k = true) {i : Nat} (hi : i < k.length) : 0 ≤ nth k i ∧ nth k i ≤ 1000 := by
  simp only [knowOk, Bool.and_eq_true, decide_eq_true_eq] at h
  exact h.2 i hi

@[simp] def h11 : Hts := { merge := fun _ => false, mergeF := fun _ => false, dr := fun id => if id = 3 then [{ mb := [50, 10] }, { mb := [50, 10] }, { mb := [50, 10] }, { mb := [50, 10] }, { mb := [50, 10] }, { mb := [50, 10] }, { mb := [50, 10] }, { mb := [50, 10] }, { mb := [50, 10] }, { mb := [10] }, { mb := [10] }, { cr := true, mb := [10] }, { mb := [50, 10] }, { mb := [50, 10] }, { mb := [50, 10] }, { mb := [50, 10] }, { mb := [50, 10] }, { mb := [50, 10] }, { mb := [50, 10] }, { mb := [50, 10] }, { mb := [10] }, { cr := true, mb := [50] }, { wr := [640] }] else [] }
set_option maxHeartbeats 8000000 in
theorem f11_ok (s : GState) (rep time : Int) (e : GEdit) (hs : s.Ok) (h1 : e.obj.size ≤ 1073741824) (h2 : e.key.size ≤ 1073741824) (hp1 : e.place ≤ 9223372036854775807) : FnR Tryz.prog 11 [.agg [.im s.know.length (flat s.know), .im s.tallies.length (flat s.tallies), .im s.lives.length (flat s.lives), .im s.cs.length (flat s.cs)], .v (.int .i64 rep), .v (.int .i64 time), .agg [.int .i64 e.kind, .str e.obj, .str e.key, .int .i64 e.val, .int .i64 e.place]] (.tup [.agg [.int .i64 ((actOf s rep time e).1).dot.rep, .int .i64 ((actOf s rep time e).1).dot.seq, .int .i64 ((actOf s rep time e).1).time, .ow 3 1 ((actOf s rep time e).1).knew.length (flat ((actOf s rep time e).1).knew), .int .i64 ((actOf s rep time e).1).kind, .str ((actOf s rep time e).1).obj, .str ((actOf s rep time e).1).key, .int .i64 ((actOf s rep time e).1).val, .int .i64 ((actOf s rep time e).1).ref.rep, .int .i64 ((actOf s rep time e).1).ref.seq], .v (.int .i64 ((actOf s rep time e).2))]) := by
  obtain ⟨ek, eo, eky, ev, ep⟩ := e
  simp only at h1 h2 hp1
  have hs2 := hs
  simp only [GState.Ok] at hs2
  refine FnW.of_AW TryzT_ok 0 (fn := Tryz.f11) (by kernel_rfl) rfl (by kernel_rfl) rfl rfl rfl ?_; refine AW_of h11 TryzT_ok (by kernel_rfl) ?_
  simp -dsimp
  refine ACallK_of (f42_ok _ hs) ?_
  rw [stateOkM_eq]
  cases ks : stateOk s
  · simp -dsimp
    have hno : actPre s rep time ⟨ek, eo, eky, ev, ep⟩ = false := by simp [actPre, ks]
    simp [actOf, hno, zeroAct]
  simp -dsimp
  refine ACallK_of (f43_ok ⟨ek, eo, eky, ev, ep⟩ (by simp only; omega) (by simp only; omega)) ?_
  cases ke : editOk ⟨ek, eo, eky, ev, ep⟩
  · simp -dsimp
    have hno : actPre s rep time ⟨ek, eo, eky, ev, ep⟩ = false := by simp [actPre, ke]
    simp [actOf, hno, zeroAct]
  simp -dsimp
  refine ACallK_of (f44_ok _ _ _) ?_
  cases kr : spIn rep 0 2
  · simp -dsimp
    have hno : actPre s rep time ⟨ek, eo, eky, ev, ep⟩ = false := by simp [actPre, kr]
    simp [actOf, hno, zeroAct]
  simp -dsimp
  refine ACallK_of (f44_ok _ _ _) ?_
  cases kt : spIn time 1 10000
  · simp -dsimp
    have hno : actPre s rep time ⟨ek, eo, eky, ev, ep⟩ = false := by simp [actPre, kt]
    simp [actOf, hno, zeroAct]
  have k3 := stateOk_know ks
  have kr2 := kr
  simp only [spIn, Bool.and_eq_true, decide_eq_true_eq] at kr2
  have q1 : rep.toNat < s.know.length := by omega
  have kok : knowOk s.know = true := by simp only [stateOk, Bool.and_eq_true] at ks; exact ks.1.1.1.1
  have kn := knowOk_nth kok q1
  have he0 : 0 ≤ ep := by
    have ke2 := ke
    simp only [editOk, Bool.and_eq_true, Bool.or_eq_true, beq_iff_eq, decide_eq_true_eq] at ke2
    omega
  have wk : IntKind.i64.wrap (nth s.know rep.toNat + 1) = nth s.know rep.toNat + 1 := wrap64 (by omega) (by omega)
  have wp : IntKind.i64.wrap (ep - 1) = ep - 1 := wrap64 (by omega) (by omega)
  have hraw : (actRaw s rep time ⟨ek, eo, eky, ev, ep⟩).Ok := by simp only [GAct.Ok]; exact ⟨hs2.1, h1, h2⟩
  by_cases kl : 1000 ≤ nth s.know rep.toNat
  · simp -dsimp [q1, ne_of_lt q1, kl]
    repeat (first | refine ⟨by omega, ?_⟩ | refine ⟨by simp [capMax]; omega, ?_⟩ | refine ⟨⟨by omega, by omega⟩, ?_⟩)
    have hno : actPre s rep time ⟨ek, eo, eky, ev, ep⟩ = false := by simp [actPre]; intros; omega
    simp [actOf, hno, zeroAct]
  have hyes : actPre s rep time ⟨ek, eo, eky, ev, ep⟩ = true := by simp [actPre, ks, ke, kr, kt]; omega
  simp -dsimp [q1, ne_of_lt q1, kl, wk]
  repeat (first | refine ⟨by omega, ?_⟩ | refine ⟨by simp [capMax]; omega, ?_⟩ | refine ⟨⟨by omega, by omega⟩, ?_⟩)
  refine ACallK_of (f45_ok _ hs2.1) ?_
  by_cases k6 : ek = 6
  · subst k6
    by_cases k0 : 0 < ep
    · have hpl : actPlace s ⟨6, eo, eky, ev, ep⟩ = placeIn s eo (ep - 1) := by simp [actPlace, k0]
      have er : actRaw s rep time ⟨6, eo, eky, ev, ep⟩ = ⟨⟨rep, nth s.know rep.toNat + 1⟩, time, s.know, 6, eo, eky, ev, (placeIn s eo (ep - 1)).1⟩ := by simp [actRaw, hpl, zeroDot]
      rw [er] at hraw
      simp -dsimp [q1, ne_of_lt q1, wk, wp, k0]
      repeat (first | refine ⟨by omega, ?_⟩ | refine ⟨by simp [capMax]; omega, ?_⟩ | refine ⟨⟨by omega, by omega⟩, ?_⟩)
      refine ACallK_of (f46_ok s eo (ep - 1) hs) ?_
      cases g1 : (placeIn s eo (ep - 1)).2
      · simp -dsimp [wk]
        simp [actOf, hyes, hpl, g1, zeroAct]
      simp -dsimp [wk]
      have g1p : (actPlace s ⟨6, eo, eky, ev, ep⟩).2 = true := by rw [hpl]; exact g1
      refine ACallK_of (f47_ok ⟨⟨rep, nth s.know rep.toNat + 1⟩, time, s.know, 6, eo, eky, ev, (placeIn s eo (ep - 1)).1⟩ hraw) ?_
      cases g2 : actOk ⟨⟨rep, nth s.know rep.toNat + 1⟩, time, s.know, 6, eo, eky, ev, (placeIn s eo (ep - 1)).1⟩
      · simp -dsimp
        simp [actOf, hyes, g1p, er, g2, zeroAct]
      · simp -dsimp
        simp [actOf, hyes, g1p, er, g2]
    · have hpl : actPlace s ⟨6, eo, eky, ev, ep⟩ = (zeroDot, true) := by simp [actPlace, k0]
      have er : actRaw s rep time ⟨6, eo, eky, ev, ep⟩ = ⟨⟨rep, nth s.know rep.toNat + 1⟩, time, s.know, 6, eo, eky, ev, ⟨0, 0⟩⟩ := by simp [actRaw, hpl, zeroDot]
      rw [er] at hraw
      simp -dsimp [q1, ne_of_lt q1, wk, wp, k0]
      repeat (first | refine ⟨by omega, ?_⟩ | refine ⟨by simp [capMax]; omega, ?_⟩ | refine ⟨⟨by omega, by omega⟩, ?_⟩)
      have g1p : (actPlace s ⟨6, eo, eky, ev, ep⟩).2 = true := by rw [hpl]
      refine ACallK_of (f47_ok ⟨⟨rep, nth s.know rep.toNat + 1⟩, time, s.know, 6, eo, eky, ev, ⟨0, 0⟩⟩ hraw) ?_
      cases g2 : actOk ⟨⟨rep, nth s.know rep.toNat + 1⟩, time, s.know, 6, eo, eky, ev, ⟨0, 0⟩⟩
      · simp -dsimp
        simp [actOf, hyes, g1p, er, g2, zeroAct]
      · simp -dsimp
        simp [actOf, hyes, g1p, er, g2]
  · have b6 : (ek == 6) = false := by simp [k6]
    by_cases k7 : ek = 7
    · subst k7
      have hpl : actPlace s ⟨7, eo, eky, ev, ep⟩ = placeIn s eo ep := by simp [actPlace]
      have er : actRaw s rep time ⟨7, eo, eky, ev, ep⟩ = ⟨⟨rep, nth s.know rep.toNat + 1⟩, time, s.know, 7, eo, eky, ev, (placeIn s eo (ep)).1⟩ := by simp [actRaw, hpl, zeroDot]
      rw [er] at hraw
      simp -dsimp [q1, ne_of_lt q1, wk, wp]
      repeat (first | refine ⟨by omega, ?_⟩ | refine ⟨by simp [capMax]; omega, ?_⟩ | refine ⟨⟨by omega, by omega⟩, ?_⟩)
      refine ACallK_of (f46_ok s eo (ep) hs) ?_
      cases g1 : (placeIn s eo (ep)).2
      · simp -dsimp [wk]
        simp [actOf, hyes, hpl, g1, zeroAct]
      simp -dsimp [wk]
      have g1p : (actPlace s ⟨7, eo, eky, ev, ep⟩).2 = true := by rw [hpl]; exact g1
      refine ACallK_of (f47_ok ⟨⟨rep, nth s.know rep.toNat + 1⟩, time, s.know, 7, eo, eky, ev, (placeIn s eo (ep)).1⟩ hraw) ?_
      cases g2 : actOk ⟨⟨rep, nth s.know rep.toNat + 1⟩, time, s.know, 7, eo, eky, ev, (placeIn s eo (ep)).1⟩
      · simp -dsimp
        simp [actOf, hyes, g1p, er, g2, zeroAct]
      · simp -dsimp
        simp [actOf, hyes, g1p, er, g2]
    · have b7 : (ek == 7) = false := by simp [k7]
      have hpl : actPlace s ⟨ek, eo, eky, ev, ep⟩ = (zeroDot, true) := by simp [actPlace, k6, k7]
      have er : actRaw s rep time ⟨ek, eo, eky, ev, ep⟩ = ⟨⟨rep, nth s.know rep.toNat + 1⟩, time, s.know, ek, eo, eky, ev, ⟨0, 0⟩⟩ := by simp [actRaw, hpl, zeroDot]
      rw [er] at hraw
      simp -dsimp [q1, ne_of_lt q1, wk, wp, b6, b7, k6, k7]
      repeat (first | refine ⟨by omega, ?_⟩ | refine ⟨by simp [capMax]; omega, ?_⟩ | refine ⟨⟨by omega, by omega⟩, ?_⟩)
      have g1p : (actPlace s ⟨ek, eo, eky, ev, ep⟩).2 = true := by rw [hpl]
      refine ACallK_of (f47_ok ⟨⟨rep, nth s.know rep.toNat + 1⟩, time, s.know, ek, eo, eky, ev, ⟨0, 0⟩⟩ hraw) ?_
      cases g2 : actOk ⟨⟨rep, nth s.know rep.toNat + 1⟩, time, s.know, ek, eo, eky, ev, ⟨0, 0⟩⟩
      · simp -dsimp
        simp [actOf, hyes, g1p, er, g2, zeroAct]
      · simp -dsimp
        simp [actOf, hyes, g1p, er, g2]

@[simp] def h8 : Hts := { merge := fun _ => false, mergeF := fun _ => false, dr := fun id => if id = 3 then [{ mn := [2560], mb := [40, 43, 10] }, { mn := [2560], mb := [40, 43, 10] }, { mn := [2560], mb := [40, 43, 10] }, { mn := [2560], mb := [40, 43, 10] }, { mn := [2560], mb := [40, 43, 10] }, { mn := [2560], mb := [40, 43, 10] }, { mn := [2560], mb := [40, 43, 10] }, { mn := [2560], mb := [40, 43, 10] }, { mn := [2560], mb := [40, 43, 10] }, { cr := true, mb := [10] }, { mb := [40, 10] }, { mb := [40, 10] }, { wr := [2560], cr := true, mb := [10] }, { mn := [2560], mb := [40, 43, 10] }, { mn := [2560], mb := [40, 43, 10] }, { mn := [2560], mb := [40, 43, 10] }, { mn := [2560], mb := [40, 43, 10] }, { mn := [2560], mb := [40, 43, 10] }, { mn := [2560], mb := [40, 43, 10] }, { mn := [2560], mb := [40, 43, 10] }, { mn := [2560], mb := [40, 43, 10] }, { mb := [10] }, { mn := [2560], cr := true, mb := [40, 43] }, { wr := [640] }] else [] }
set_option maxHeartbeats 8000000 in
theorem f8_ok (s : GState) (rep time : Int) (e : GEdit) (hs : s.Ok) (h1 : e.obj.size ≤ 1073741824) (h2 : e.key.size ≤ 1073741824) (hp1 : e.place ≤ 9223372036854775807) : FnR Tryz.prog 8 [.agg [.im s.know.length (flat s.know), .im s.tallies.length (flat s.tallies), .im s.lives.length (flat s.lives), .im s.cs.length (flat s.cs)], .v (.int .i64 rep), .v (.int .i64 time), .agg [.int .i64 e.kind, .str e.obj, .str e.key, .int .i64 e.val, .int .i64 e.place]] (.tup [.agg [.int .i64 ((actOf s rep time e).1).dot.rep, .int .i64 ((actOf s rep time e).1).dot.seq, .int .i64 ((actOf s rep time e).1).time, .ow 3 1 ((actOf s rep time e).1).knew.length (flat ((actOf s rep time e).1).knew), .int .i64 ((actOf s rep time e).1).kind, .str ((actOf s rep time e).1).obj, .str ((actOf s rep time e).1).key, .int .i64 ((actOf s rep time e).1).val, .int .i64 ((actOf s rep time e).1).ref.rep, .int .i64 ((actOf s rep time e).1).ref.seq], .v (.int .i64 ((actOf s rep time e).2))]) := by
  obtain ⟨ek, eo, eky, ev, ep⟩ := e
  simp only at h1 h2 hp1
  have hs2 := hs
  simp only [GState.Ok] at hs2
  refine FnW.of_AW TryzT_ok 0 (fn := Tryz.f8) (by kernel_rfl) rfl (by kernel_rfl) rfl rfl rfl ?_; refine AW_of h8 TryzT_ok (by kernel_rfl) ?_
  simp -dsimp
  refine ACallK_of (f32_ok _ hs) ?_
  rw [stateOkS_eq]
  cases ks : stateOk s
  · simp -dsimp
    have hno : actPre s rep time ⟨ek, eo, eky, ev, ep⟩ = false := by simp [actPre, ks]
    simp [actOf, hno, zeroAct]
  simp -dsimp
  refine ACallK_of (f33_ok ⟨ek, eo, eky, ev, ep⟩ (by simp only; omega) (by simp only; omega)) ?_
  cases ke : editOk ⟨ek, eo, eky, ev, ep⟩
  · simp -dsimp
    have hno : actPre s rep time ⟨ek, eo, eky, ev, ep⟩ = false := by simp [actPre, ke]
    simp [actOf, hno, zeroAct]
  simp -dsimp
  refine ACallK_of (f34_ok _ _ _) ?_
  cases kr : spIn rep 0 2
  · simp -dsimp
    have hno : actPre s rep time ⟨ek, eo, eky, ev, ep⟩ = false := by simp [actPre, kr]
    simp [actOf, hno, zeroAct]
  simp -dsimp
  refine ACallK_of (f34_ok _ _ _) ?_
  cases kt : spIn time 1 10000
  · simp -dsimp
    have hno : actPre s rep time ⟨ek, eo, eky, ev, ep⟩ = false := by simp [actPre, kt]
    simp [actOf, hno, zeroAct]
  have k3 := stateOk_know ks
  have kr2 := kr
  simp only [spIn, Bool.and_eq_true, decide_eq_true_eq] at kr2
  have q1 : rep.toNat < s.know.length := by omega
  have kok : knowOk s.know = true := by simp only [stateOk, Bool.and_eq_true] at ks; exact ks.1.1.1.1
  have kn := knowOk_nth kok q1
  have he0 : 0 ≤ ep := by
    have ke2 := ke
    simp only [editOk, Bool.and_eq_true, Bool.or_eq_true, beq_iff_eq, decide_eq_true_eq] at ke2
    omega
  have wk : IntKind.i64.wrap (nth s.know rep.toNat + 1) = nth s.know rep.toNat + 1 := wrap64 (by omega) (by omega)
  have wp : IntKind.i64.wrap (ep - 1) = ep - 1 := wrap64 (by omega) (by omega)
  have hraw : (actRaw s rep time ⟨ek, eo, eky, ev, ep⟩).Ok := by simp only [GAct.Ok]; exact ⟨hs2.1, h1, h2⟩
  by_cases k6 : ek = 6
  · subst k6
    by_cases k0 : 0 < ep
    · have hpl : actPlace s ⟨6, eo, eky, ev, ep⟩ = placeIn s eo (ep - 1) := by simp [actPlace, k0]
      have er : actRaw s rep time ⟨6, eo, eky, ev, ep⟩ = ⟨⟨rep, nth s.know rep.toNat + 1⟩, time, s.know, 6, eo, eky, ev, (placeIn s eo (ep - 1)).1⟩ := by simp [actRaw, hpl, zeroDot]
      rw [er] at hraw
      simp -dsimp [q1, ne_of_lt q1, wk, wp, k0]
      repeat (first | refine ⟨by omega, ?_⟩ | refine ⟨by simp [capMax]; omega, ?_⟩ | refine ⟨⟨by omega, by omega⟩, ?_⟩)
      refine ACallK_of (f35_ok s eo (ep - 1) hs (by omega)) ?_
      simp -dsimp [wk, k0]
      refine ACallK_of (f36_ok ⟨rep, nth s.know rep.toNat + 1⟩) ?_
      by_cases kl : 1000 ≤ nth s.know rep.toNat
      · have hno : actPre s rep time ⟨6, eo, eky, ev, ep⟩ = false := by simp [actPre]; intros; omega
        have hd : dotOk ⟨rep, nth s.know rep.toNat + 1⟩ = false := by simp [dotOk, spIn]; intros; omega
        rw [hd]
        simp -dsimp
        simp [actOf, hno, zeroAct]
      have hyes : actPre s rep time ⟨6, eo, eky, ev, ep⟩ = true := by simp [actPre, ks, ke, kr, kt]; omega
      have hd : dotOk ⟨rep, nth s.know rep.toNat + 1⟩ = true := by simp [dotOk, spIn]; omega
      rw [hd]
      cases g1 : (placeIn s eo (ep - 1)).2
      · simp -dsimp [wk]
        simp [actOf, hyes, hpl, g1, zeroAct]
      have g1p : (actPlace s ⟨6, eo, eky, ev, ep⟩).2 = true := by rw [hpl]; exact g1
      simp -dsimp [wk]
      refine ACallK_of (f37_ok ⟨⟨rep, nth s.know rep.toNat + 1⟩, time, s.know, 6, eo, eky, ev, (placeIn s eo (ep - 1)).1⟩ hraw) ?_
      cases g2 : actOk ⟨⟨rep, nth s.know rep.toNat + 1⟩, time, s.know, 6, eo, eky, ev, (placeIn s eo (ep - 1)).1⟩
      · simp -dsimp
        simp [actOf, hyes, g1p, er, g2, zeroAct]
      · simp -dsimp
        simp [actOf, hyes, g1p, er, g2]
    · have hpl : actPlace s ⟨6, eo, eky, ev, ep⟩ = (zeroDot, true) := by simp [actPlace, k0]
      have er : actRaw s rep time ⟨6, eo, eky, ev, ep⟩ = ⟨⟨rep, nth s.know rep.toNat + 1⟩, time, s.know, 6, eo, eky, ev, ⟨0, 0⟩⟩ := by simp [actRaw, hpl, zeroDot]
      rw [er] at hraw
      simp -dsimp [q1, ne_of_lt q1, wk, wp, k0]
      repeat (first | refine ⟨by omega, ?_⟩ | refine ⟨by simp [capMax]; omega, ?_⟩ | refine ⟨⟨by omega, by omega⟩, ?_⟩)
      refine ACallK_of (f36_ok ⟨rep, nth s.know rep.toNat + 1⟩) ?_
      by_cases kl : 1000 ≤ nth s.know rep.toNat
      · have hno : actPre s rep time ⟨6, eo, eky, ev, ep⟩ = false := by simp [actPre]; intros; omega
        have hd : dotOk ⟨rep, nth s.know rep.toNat + 1⟩ = false := by simp [dotOk, spIn]; intros; omega
        rw [hd]
        simp -dsimp
        simp [actOf, hno, zeroAct]
      have hyes : actPre s rep time ⟨6, eo, eky, ev, ep⟩ = true := by simp [actPre, ks, ke, kr, kt]; omega
      have hd : dotOk ⟨rep, nth s.know rep.toNat + 1⟩ = true := by simp [dotOk, spIn]; omega
      rw [hd]
      have g1p : (actPlace s ⟨6, eo, eky, ev, ep⟩).2 = true := by rw [hpl]
      simp -dsimp [wk]
      refine ACallK_of (f37_ok ⟨⟨rep, nth s.know rep.toNat + 1⟩, time, s.know, 6, eo, eky, ev, ⟨0, 0⟩⟩ hraw) ?_
      cases g2 : actOk ⟨⟨rep, nth s.know rep.toNat + 1⟩, time, s.know, 6, eo, eky, ev, ⟨0, 0⟩⟩
      · simp -dsimp
        simp [actOf, hyes, g1p, er, g2, zeroAct]
      · simp -dsimp
        simp [actOf, hyes, g1p, er, g2]
  · have b6 : (ek == 6) = false := by simp [k6]
    by_cases k7 : ek = 7
    · subst k7
      have hpl : actPlace s ⟨7, eo, eky, ev, ep⟩ = placeIn s eo ep := by simp [actPlace]
      have er : actRaw s rep time ⟨7, eo, eky, ev, ep⟩ = ⟨⟨rep, nth s.know rep.toNat + 1⟩, time, s.know, 7, eo, eky, ev, (placeIn s eo (ep)).1⟩ := by simp [actRaw, hpl, zeroDot]
      rw [er] at hraw
      simp -dsimp [q1, ne_of_lt q1, wk, wp]
      repeat (first | refine ⟨by omega, ?_⟩ | refine ⟨by simp [capMax]; omega, ?_⟩ | refine ⟨⟨by omega, by omega⟩, ?_⟩)
      refine ACallK_of (f35_ok s eo (ep) hs (by omega)) ?_
      simp -dsimp [wk]
      refine ACallK_of (f36_ok ⟨rep, nth s.know rep.toNat + 1⟩) ?_
      by_cases kl : 1000 ≤ nth s.know rep.toNat
      · have hno : actPre s rep time ⟨7, eo, eky, ev, ep⟩ = false := by simp [actPre]; intros; omega
        have hd : dotOk ⟨rep, nth s.know rep.toNat + 1⟩ = false := by simp [dotOk, spIn]; intros; omega
        rw [hd]
        simp -dsimp
        simp [actOf, hno, zeroAct]
      have hyes : actPre s rep time ⟨7, eo, eky, ev, ep⟩ = true := by simp [actPre, ks, ke, kr, kt]; omega
      have hd : dotOk ⟨rep, nth s.know rep.toNat + 1⟩ = true := by simp [dotOk, spIn]; omega
      rw [hd]
      cases g1 : (placeIn s eo (ep)).2
      · simp -dsimp [wk]
        simp [actOf, hyes, hpl, g1, zeroAct]
      have g1p : (actPlace s ⟨7, eo, eky, ev, ep⟩).2 = true := by rw [hpl]; exact g1
      simp -dsimp [wk]
      refine ACallK_of (f37_ok ⟨⟨rep, nth s.know rep.toNat + 1⟩, time, s.know, 7, eo, eky, ev, (placeIn s eo (ep)).1⟩ hraw) ?_
      cases g2 : actOk ⟨⟨rep, nth s.know rep.toNat + 1⟩, time, s.know, 7, eo, eky, ev, (placeIn s eo (ep)).1⟩
      · simp -dsimp
        simp [actOf, hyes, g1p, er, g2, zeroAct]
      · simp -dsimp
        simp [actOf, hyes, g1p, er, g2]
    · have b7 : (ek == 7) = false := by simp [k7]
      have hpl : actPlace s ⟨ek, eo, eky, ev, ep⟩ = (zeroDot, true) := by simp [actPlace, k6, k7]
      have er : actRaw s rep time ⟨ek, eo, eky, ev, ep⟩ = ⟨⟨rep, nth s.know rep.toNat + 1⟩, time, s.know, ek, eo, eky, ev, ⟨0, 0⟩⟩ := by simp [actRaw, hpl, zeroDot]
      rw [er] at hraw
      simp -dsimp [q1, ne_of_lt q1, wk, wp, b6, b7, k6, k7]
      repeat (first | refine ⟨by omega, ?_⟩ | refine ⟨by simp [capMax]; omega, ?_⟩ | refine ⟨⟨by omega, by omega⟩, ?_⟩)
      refine ACallK_of (f36_ok ⟨rep, nth s.know rep.toNat + 1⟩) ?_
      by_cases kl : 1000 ≤ nth s.know rep.toNat
      · have hno : actPre s rep time ⟨ek, eo, eky, ev, ep⟩ = false := by simp [actPre]; intros; omega
        have hd : dotOk ⟨rep, nth s.know rep.toNat + 1⟩ = false := by simp [dotOk, spIn]; intros; omega
        rw [hd]
        simp -dsimp
        simp [actOf, hno, zeroAct]
      have hyes : actPre s rep time ⟨ek, eo, eky, ev, ep⟩ = true := by simp [actPre, ks, ke, kr, kt]; omega
      have hd : dotOk ⟨rep, nth s.know rep.toNat + 1⟩ = true := by simp [dotOk, spIn]; omega
      rw [hd]
      have g1p : (actPlace s ⟨ek, eo, eky, ev, ep⟩).2 = true := by rw [hpl]
      simp -dsimp [wk]
      refine ACallK_of (f37_ok ⟨⟨rep, nth s.know rep.toNat + 1⟩, time, s.know, ek, eo, eky, ev, ⟨0, 0⟩⟩ hraw) ?_
      cases g2 : actOk ⟨⟨rep, nth s.know rep.toNat + 1⟩, time, s.know, ek, eo, eky, ev, ⟨0, 0⟩⟩
      · simp -dsimp
        simp [actOf, hyes, g1p, er, g2, zeroAct]
      · simp -dsimp
        simp [actOf, hyes, g1p, er, g2]
end Am
