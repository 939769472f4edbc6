/- Units that are right; what they cover. No condition. -/
import Derived.Test.YtkndgnnfgdfcbaaGreatT
import Derived.Test.YtkndgnnfgdfcbaaGreatD
import Derived.Test.YtkndgnnfgdfcbaaGreatE22
import Derived.Test.YtkndgnnfgdfcbaaGreatAm31
namespace Am
open Go Go.Proofs
open Cel (cells)
set_option maxRecDepth 100000
set_option linter.unusedSimpArgs false
set_option linter.unusedVariables false

theorem str_nil {s : ByteArray} : (s.toList = [] ↔ s = ⟨#[]⟩) := by
  rw [ByteArray.toList_eq]
  constructor
  · intro h
    cases s
    simp only at h
    simp [Array.toList_eq_nil_iff.1 h]
  · rintro rfl; rfl
theorem str_emp {s : ByteArray} : s.toList.isEmpty = decide (s = ⟨#[]⟩) := by
  rw [Bool.eq_iff_iff, List.isEmpty_iff, str_nil, decide_eq_true_eq]
@[simp] def h85 : Hts := {  }
theorem f85_ok (a : GAct) : FnR Tryz.prog 85 [.agg [.int .i64 a.dot.rep, .int .i64 a.dot.seq, .int .i64 a.time, .im a.knew.length (flat a.knew), .int .i64 a.kind, .str a.obj, .str a.key, .int .i64 a.val, .int .i64 a.ref.rep, .int .i64 a.ref.seq]] (.v (.bool (decide (a = zeroAct)))) := by
  refine FnW.of_AW TryzT_ok 0 (fn := Tryz.f85) (by kernel_rfl) rfl (by kernel_rfl) rfl rfl rfl ?_
  refine AW_of h85 TryzT_ok (by kernel_rfl) ?_
  cases hf : (a.dot.rep == 0 && a.dot.seq == 0 && a.time == 0 && (a.knew.length : Int) == 0 && a.kind == 0 && a.obj.toList.isEmpty && a.key.toList.isEmpty && a.val == 0)
  · simp -dsimp [hf]
    intro e
    subst e
    simp [zeroAct, str_emp] at hf
  · simp -dsimp [hf]
    simp only [str_emp, Bool.and_eq_true, decide_eq_true_eq, beq_iff_eq] at hf
    obtain ⟨⟨⟨⟨⟨⟨⟨f1, f2⟩, f3⟩, f4⟩, f5⟩, f6⟩, f7⟩, f8⟩ := hf
    have hk : a.knew = [] := List.eq_nil_of_length_eq_zero (by omega)
    rw [Bool.eq_iff_iff]
    simp [zeroAct, GAct.ext_iff, GDot.ext_iff, f1, f2, f3, f5, f6, f7, f8, hk]
@[simp] def h87 : Hts := {  }
theorem f87_ok (d : GDelta) : FnR Tryz.prog 87 [.agg [.im d.base.length (flat d.base), .im d.know.length (flat d.know), .im d.tallies.length (flat d.tallies), .im d.lives.length (flat d.lives), .im d.dead.length (flat d.dead), .im d.cs.length (flat d.cs)]] (.v (.bool (decide (d = zeroDelta)))) := by
  refine FnW.of_AW TryzT_ok 0 (fn := Tryz.f87) (by kernel_rfl) rfl (by kernel_rfl) rfl rfl rfl ?_
  refine AW_of h87 TryzT_ok (by kernel_rfl) ?_
  simp -dsimp
  rw [Bool.eq_iff_iff]
  simp [zeroDelta, GDelta.ext_iff]
  grind
@[simp] def h29 : Hts := { merge := fun _ => false, mergeF := fun _ => false }
theorem f29_ok (u : GUnit) (h : u.Ok) : FnR Tryz.prog 29 [.agg [.bool u.batch, .int .i64 u.act.dot.rep, .int .i64 u.act.dot.seq, .int .i64 u.act.time, .im u.act.knew.length (flat u.act.knew), .int .i64 u.act.kind, .str u.act.obj, .str u.act.key, .int .i64 u.act.val, .int .i64 u.act.ref.rep, .int .i64 u.act.ref.seq, .im u.delta.base.length (flat u.delta.base), .im u.delta.know.length (flat u.delta.know), .im u.delta.tallies.length (flat u.delta.tallies), .im u.delta.lives.length (flat u.delta.lives), .im u.delta.dead.length (flat u.delta.dead), .im u.delta.cs.length (flat u.delta.cs)]] (.v (.bool (unitOk u))) := by
  simp only [GUnit.Ok] at h
  refine FnW.of_AW TryzT_ok 0 (fn := Tryz.f29) (by kernel_rfl) rfl (by kernel_rfl) rfl rfl rfl ?_
  refine AW_of h29 TryzT_ok (by kernel_rfl) ?_
  cases hb : u.batch
  · simp -dsimp [hb]
    refine ACallK_of (f86_ok _ h.1) ?_
    cases g : actOk u.act
    · simp -dsimp
      simp [unitOk, hb, g]
    · simp -dsimp
      refine ACallK_of (f87_ok _) ?_
      simp -dsimp
      simp [unitOk, hb, g]
  · simp -dsimp [hb]
    refine ACallK_of (f84_ok _ h.2) ?_
    rw [deltaOkS_eq]
    cases g : deltaOk u.delta
    · simp -dsimp
      simp [unitOk, hb, g]
    · simp -dsimp
      refine ACallK_of (f85_ok _) ?_
      simp -dsimp
      simp [unitOk, hb, g]
@[simp] def h36 : Hts := { merge := fun _ => false, mergeF := fun _ => false }
theorem f36_ok (u : GUnit) (h : u.Ok) : FnR Tryz.prog 36 [.agg [.bool u.batch, .int .i64 u.act.dot.rep, .int .i64 u.act.dot.seq, .int .i64 u.act.time, .im u.act.knew.length (flat u.act.knew), .int .i64 u.act.kind, .str u.act.obj, .str u.act.key, .int .i64 u.act.val, .int .i64 u.act.ref.rep, .int .i64 u.act.ref.seq, .im u.delta.base.length (flat u.delta.base), .im u.delta.know.length (flat u.delta.know), .im u.delta.tallies.length (flat u.delta.tallies), .im u.delta.lives.length (flat u.delta.lives), .im u.delta.dead.length (flat u.delta.dead), .im u.delta.cs.length (flat u.delta.cs)]] (.v (.bool (unitOk u))) := by
  simp only [GUnit.Ok] at h
  refine FnW.of_AW TryzT_ok 0 (fn := Tryz.f36) (by kernel_rfl) rfl (by kernel_rfl) rfl rfl rfl ?_
  refine AW_of h36 TryzT_ok (by kernel_rfl) ?_
  cases hb : u.batch
  · simp -dsimp [hb]
    refine ACallK_of (f103_ok _ h.1) ?_
    cases g : actOk u.act
    · simp -dsimp
      simp [unitOk, hb, g]
    · simp -dsimp
      refine ACallK_of (f104_ok u.delta zeroDelta h.2) ?_
      simp -dsimp
      simp [unitOk, hb, g]
  · simp -dsimp [hb]
    refine ACallK_of (f101_ok _ h.2) ?_
    cases g : deltaOk u.delta
    · simp -dsimp
      simp [unitOk, hb, g]
    · simp -dsimp
      refine ACallK_of (f102_ok u.act zeroAct h.1) ?_
      simp -dsimp
      simp [unitOk, hb, g]

def rowK (r : Nat) (n : Int) : Nat → List GDot
  | 0 => []
  | k + 1 => rowK r n k ++ [⟨r, n + 1 + k⟩]
def rowsK (a b : List Int) : Nat → List GDot
  | 0 => []
  | r + 1 => rowsK a b r ++ rowK r (nth a r) (nth b r - nth a r).toNat
def dotsIn (a b : List Int) : List GDot := if (knowOk a && knowOk b) = true then rowsK a b a.length else []
theorem rowK_len (r : Nat) (n : Int) : ∀ k, (rowK r n k).length = k
  | 0 => rfl
  | k + 1 => by simp [rowK, rowK_len r n k]
theorem rowsK_len {a b : List Int} (ha : knowOk a = true) (hb : knowOk b = true) : ∀ r : Nat, r ≤ 3 → (rowsK a b r).length ≤ 1000 * r
  | 0, _ => by simp [rowsK]
  | r + 1, h => by
    have ih := rowsK_len ha hb r (by omega)
    simp [knowOk] at ha hb
    have h1 := ha.2 r (by omega)
    have h2 := hb.2 r (by omega)
    simp only [rowsK, List.length_append, rowK_len]
    omega

@[simp] def h120 : Hts := { merge := fun _ => false, mergeF := fun _ => false }
set_option maxHeartbeats 1000000 in
theorem f120_ok (a b : List Int) (ha : a.length ≤ 1073741824) (hb : b.length ≤ 1073741824) : FnR Tryz.prog 120 [.v (.im a.length (flat a)), .v (.im b.length (flat b))] (.v (.ow 38 2 (dotsIn a b).length (flat (dotsIn a b)))) := by
  refine FnW.of_AW TryzT_ok 0 (fn := Tryz.f120) (by kernel_rfl) rfl (by kernel_rfl) rfl rfl rfl ?_
  refine AW_of h120 TryzT_ok (by kernel_rfl) ?_
  simp -dsimp
  refine ACallK_of (f45_ok _ ha) ?_
  cases g1 : knowOk a
  · simp -dsimp
    simp [dotsIn, g1]
  simp -dsimp
  refine ACallK_of (f45_ok _ hb) ?_
  cases g2 : knowOk b
  · simp -dsimp
    simp [dotsIn, g2]
  simp -dsimp
  have g1' := g1
  have g2' := g2
  simp [knowOk] at g1' g2'
  obtain ⟨a0, a1⟩ := g1'
  obtain ⟨b0, b1⟩ := g2'
  refine AWh_loop (fun i : Nat => i ≤ a.length) (fun i => mkE [(0, .c (.im a.length (flat a))), (1, .c (.im b.length (flat b))), (5, .arr 320), (6, .c (.int .i64 i))] [(320, .arr 0 38 2 (rowsK a b i).length (flat (rowsK a b i)))]) (fun i => a.length - i) 0 (Wk_to [0, 1, 5, 6] [(320, 512)] rfl rfl (by simp [rowsK])) (by simp) ?_
  rintro i hi
  have hl := rowsK_len g1 g2 i (by omega)
  refine AW_of h120 TryzT_ok (by kernel_rfl) ?_
  rcases Nat.lt_or_ge i a.length with h1 | h1
  · have h2 : i < b.length := by omega
    have c1 := a1 i h1
    have c2 := b1 i h2
    have w1 : IntKind.i64.wrap (nth a i + 1) = nth a i + 1 := wrap64 (by omega) (by omega)
    simp -dsimp [h1, h2, ne_of_lt h1, ne_of_lt h2, w1]
    repeat (first | refine ⟨by omega, ?_⟩ | refine ⟨by simp [capMax]; omega, ?_⟩ | refine ⟨⟨by omega, by omega⟩, ?_⟩)
    refine AWh_loop (fun k : Nat => k ≤ (nth b i - nth a i).toNat) (fun k => mkE [(0, .c (.im a.length (flat a))), (1, .c (.im b.length (flat b))), (5, .arr 320), (6, .c (.int .i64 i)), (7, .c (.int .i64 (nth a i + 1 + k)))] [(320, .arr 0 38 2 (rowsK a b i ++ rowK i (nth a i) k).length (flat (rowsK a b i ++ rowK i (nth a i) k)))]) (fun k => (nth b i - nth a i).toNat - k) 0 (Wk_to [0, 1, 5, 6, 7] [(320, 320)] rfl rfl (by simp [rowK])) (by simp) ?_
    rintro k hk
    have hl2 : (rowsK a b i ++ rowK i (nth a i) k).length ≤ 4000 := by rw [List.length_append, rowK_len]; omega
    have hl3 : (rowsK a b i).length + (rowK i (nth a i) k).length ≤ 4000 := by rw [rowK_len]; omega
    refine AW_of h120 TryzT_ok (by kernel_rfl) ?_
    rcases Int.lt_or_le (nth b i) (nth a i + 1 + k) with k1 | k1
    · have k2 : ¬ nth a i + 1 + (k : Int) ≤ nth b i := by omega
      have hk' : k = (nth b i - nth a i).toNat := by omega
      simp -dsimp [h1, h2, ne_of_lt h1, ne_of_lt h2, k1, k2]
      repeat (first | refine ⟨by omega, ?_⟩ | refine ⟨by simp [capMax]; omega, ?_⟩ | refine ⟨⟨by omega, by omega⟩, ?_⟩)
      exact Back_of (i + 1) [0, 1, 5, 6] [(320, 320)] rfl rfl (by simp [rowsK, ← hk']; rw [wrap64 (by omega) (by omega)]) (by omega) (by omega)
    · have k2 : ¬ nth b i < nth a i + 1 + (k : Int) := by omega
      have w2 : IntKind.i64.wrap (nth a i + 1 + k + 1) = nth a i + 1 + (k + 1) := by rw [wrap64 (by omega) (by omega)]; omega
      simp -dsimp [h1, h2, ne_of_lt h1, ne_of_lt h2, k1, k2, w2]
      repeat (first | refine ⟨by omega, ?_⟩ | refine ⟨by simp [capMax]; omega, ?_⟩ | refine ⟨⟨by omega, by omega⟩, ?_⟩)
      exact Back_of (k + 1) [0, 1, 5, 6, 7] [(320, 2688)] rfl rfl (by simp [rowK, Nat.add_assoc]) (by omega) (by omega)
  · obtain rfl : i = a.length := by omega
    simp -dsimp
    simp [dotsIn, g1, g2]

@[simp] def h125 : Hts := { merge := fun _ => false, mergeF := fun _ => false }
set_option maxHeartbeats 1000000 in
theorem f125_ok (a b : List Int) (ha : a.length ≤ 1073741824) (hb : b.length ≤ 1073741824) : FnR Tryz.prog 125 [.v (.im a.length (flat a)), .v (.im b.length (flat b))] (.v (.ow 38 2 (dotsIn a b).length (flat (dotsIn a b)))) := by
  refine FnW.of_AW TryzT_ok 0 (fn := Tryz.f125) (by kernel_rfl) rfl (by kernel_rfl) rfl rfl rfl ?_
  refine AW_of h125 TryzT_ok (by kernel_rfl) ?_
  simp -dsimp
  refine ACallK_of (f51_ok _ ha) ?_
  cases g1 : knowOk a
  · simp -dsimp
    simp [dotsIn, g1]
  simp -dsimp
  refine ACallK_of (f51_ok _ hb) ?_
  cases g2 : knowOk b
  · simp -dsimp
    simp [dotsIn, g2]
  simp -dsimp
  have g1' := g1
  have g2' := g2
  simp [knowOk] at g1' g2'
  obtain ⟨a0, a1⟩ := g1'
  obtain ⟨b0, b1⟩ := g2'
  refine AWh_loop (fun i : Nat => i ≤ a.length) (fun i => mkE [(1, .c (.im b.length (flat b))), (5, .arr 320), (19, .c (.im a.length (flat a))), (20, .c (.int .i64 a.length)), (21, .c (.int .i64 i))] [(320, .arr 0 38 2 (rowsK a b i).length (flat (rowsK a b i)))]) (fun i => a.length - i) 0 (Wk_to [1, 5, 19, 20, 21] [(320, 576)] rfl rfl (by simp [rowsK])) (by simp) ?_
  rintro i hi
  have hl := rowsK_len g1 g2 i (by omega)
  refine AW_of h125 TryzT_ok (by kernel_rfl) ?_
  rcases Nat.lt_or_ge i a.length with h1 | h1
  · have h2 : i < b.length := by omega
    have c1 := a1 i h1
    have c2 := b1 i h2
    have w1 : IntKind.i64.wrap (nth a i + 1) = nth a i + 1 := wrap64 (by omega) (by omega)
    simp -dsimp [h1, h2, ne_of_lt h1, ne_of_lt h2, w1]
    repeat (first | refine ⟨by omega, ?_⟩ | refine ⟨by simp [capMax]; omega, ?_⟩ | refine ⟨⟨by omega, by omega⟩, ?_⟩)
    refine AWh_loop (fun k : Nat => k ≤ (nth b i - nth a i).toNat) (fun k => mkE [(1, .c (.im b.length (flat b))), (5, .arr 320), (6, .c (.int .i64 i)), (8, .c (.int .i64 (nth a i + 1 + k))), (19, .c (.im a.length (flat a))), (20, .c (.int .i64 a.length)), (21, .c (.int .i64 i))] [(320, .arr 0 38 2 (rowsK a b i ++ rowK i (nth a i) k).length (flat (rowsK a b i ++ rowK i (nth a i) k)))]) (fun k => (nth b i - nth a i).toNat - k) 0 (Wk_to [1, 5, 6, 8, 19, 20, 21] [(320, 320)] rfl rfl (by simp [rowK])) (by simp) ?_
    rintro k hk
    have hl2 : (rowsK a b i ++ rowK i (nth a i) k).length ≤ 4000 := by rw [List.length_append, rowK_len]; omega
    have hl3 : (rowsK a b i).length + (rowK i (nth a i) k).length ≤ 4000 := by rw [rowK_len]; omega
    refine AW_of h125 TryzT_ok (by kernel_rfl) ?_
    rcases Int.lt_or_le (nth b i) (nth a i + 1 + k) with k1 | k1
    · have k2 : ¬ nth a i + 1 + (k : Int) ≤ nth b i := by omega
      have hk' : k = (nth b i - nth a i).toNat := by omega
      simp -dsimp [h1, h2, ne_of_lt h1, ne_of_lt h2, k1, k2]
      repeat (first | refine ⟨by omega, ?_⟩ | refine ⟨by simp [capMax]; omega, ?_⟩ | refine ⟨⟨by omega, by omega⟩, ?_⟩)
      exact Back_of (i + 1) [1, 5, 19, 20, 21] [(320, 320)] rfl rfl (by simp [rowsK, ← hk']; rw [wrap64 (by omega) (by omega)]) (by omega) (by omega)
    · have k2 : ¬ nth b i < nth a i + 1 + (k : Int) := by omega
      have w2 : IntKind.i64.wrap (nth a i + 1 + k + 1) = nth a i + 1 + (k + 1) := by rw [wrap64 (by omega) (by omega)]; omega
      simp -dsimp [h1, h2, ne_of_lt h1, ne_of_lt h2, k1, k2, w2]
      repeat (first | refine ⟨by omega, ?_⟩ | refine ⟨by simp [capMax]; omega, ?_⟩ | refine ⟨⟨by omega, by omega⟩, ?_⟩)
      exact Back_of (k + 1) [1, 5, 6, 8, 19, 20, 21] [(320, 2624)] rfl rfl (by simp [rowK, Nat.add_assoc]) (by omega) (by omega)
  · obtain rfl : i = a.length := by omega
    simp -dsimp
    simp [dotsIn, g1, g2]

def coversD (u : GUnit) : List GDot := if unitOk u = true then (if u.batch = true then dotsIn u.delta.base u.delta.know else [u.act.dot]) else []

@[simp] def h46 : Hts := { merge := fun _ => false, mergeF := fun _ => false }
theorem f46_ok (u : GUnit) (h : u.Ok) : FnR Tryz.prog 46 [.agg [.bool u.batch, .int .i64 u.act.dot.rep, .int .i64 u.act.dot.seq, .int .i64 u.act.time, .im u.act.knew.length (flat u.act.knew), .int .i64 u.act.kind, .str u.act.obj, .str u.act.key, .int .i64 u.act.val, .int .i64 u.act.ref.rep, .int .i64 u.act.ref.seq, .im u.delta.base.length (flat u.delta.base), .im u.delta.know.length (flat u.delta.know), .im u.delta.tallies.length (flat u.delta.tallies), .im u.delta.lives.length (flat u.delta.lives), .im u.delta.dead.length (flat u.delta.dead), .im u.delta.cs.length (flat u.delta.cs)]] (.v (.ow 38 2 (coversD u).length (flat (coversD u)))) := by
  have h' := h
  simp only [GUnit.Ok, GDelta.Ok] at h'
  refine FnW.of_AW TryzT_ok 0 (fn := Tryz.f46) (by kernel_rfl) rfl (by kernel_rfl) rfl rfl rfl ?_
  refine AW_of h46 TryzT_ok (by kernel_rfl) ?_
  simp -dsimp
  refine ACallK_of (f29_ok _ h) ?_
  cases g : unitOk u
  · simp -dsimp
    simp [coversD, g]
  cases hb : u.batch
  · simp -dsimp [hb]
    simp [coversD, g, hb]
    try rfl
  · simp -dsimp [hb]
    refine ACallK_of (f120_ok _ _ h'.2.1 h'.2.2.1) ?_
    simp -dsimp
    simp [coversD, g, hb]

@[simp] def h52 : Hts := { merge := fun _ => false, mergeF := fun _ => false }
theorem f52_ok (u : GUnit) (h : u.Ok) : FnR Tryz.prog 52 [.agg [.bool u.batch, .int .i64 u.act.dot.rep, .int .i64 u.act.dot.seq, .int .i64 u.act.time, .im u.act.knew.length (flat u.act.knew), .int .i64 u.act.kind, .str u.act.obj, .str u.act.key, .int .i64 u.act.val, .int .i64 u.act.ref.rep, .int .i64 u.act.ref.seq, .im u.delta.base.length (flat u.delta.base), .im u.delta.know.length (flat u.delta.know), .im u.delta.tallies.length (flat u.delta.tallies), .im u.delta.lives.length (flat u.delta.lives), .im u.delta.dead.length (flat u.delta.dead), .im u.delta.cs.length (flat u.delta.cs)]] (.v (.ow 38 2 (coversD u).length (flat (coversD u)))) := by
  have h' := h
  simp only [GUnit.Ok, GDelta.Ok] at h'
  refine FnW.of_AW TryzT_ok 0 (fn := Tryz.f52) (by kernel_rfl) rfl (by kernel_rfl) rfl rfl rfl ?_
  refine AW_of h52 TryzT_ok (by kernel_rfl) ?_
  simp -dsimp
  refine ACallK_of (f36_ok _ h) ?_
  cases g : unitOk u
  · simp -dsimp
    simp [coversD, g]
  cases hb : u.batch
  · simp -dsimp [hb]
    simp [coversD, g, hb]
    try rfl
  · simp -dsimp [hb]
    refine ACallK_of (f125_ok _ _ h'.2.1 h'.2.2.1) ?_
    simp -dsimp
    simp [coversD, g, hb]
end Am
