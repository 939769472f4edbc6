/- What draws: a cursor over bytes, mixed with numbers that follow from them. No condition. -/
import Derived.Test.YteidfkbfocdnmaaGreatT
import Derived.Test.YteidfkbfocdnmaaGreatD
import Derived.Test.YteidfkbfocdnmaaGreatE2
import Derived.Test.YteidfkbfocdnmaaGreatAm32
import Derived.Test.YteidfkbfocdnmaaGreatAm29
import Derived.Test.YteidfkbfocdnmaaGreatAm31
import Derived.Test.YteidfkbfocdnmaaGreatU1
namespace Am
open Go Go.Proofs
open Cel (cells)
set_option maxRecDepth 100000
set_option linter.unusedSimpArgs false
set_option linter.unusedVariables false

structure GCur where
  b : List UInt8
  i : Int
  h : Int
def GCur.Ok (c : GCur) : Prop := 0 ≤ c.i ∧ c.i ≤ c.b.length ∧ c.b.length ≤ 1048576
def band (a b : Int) : Int := IntKind.i64.wrap ((BitVec.ofInt IntKind.i64.bits a &&& BitVec.ofInt IntKind.i64.bits b).toNat : Int)
def bxor (a b : Int) : Int := IntKind.i64.wrap ((BitVec.ofInt IntKind.i64.bits a ^^^ BitVec.ofInt IntKind.i64.bits b).toNat : Int)
@[simp ↓] theorem abits_and (a b : Int) : abits .i64 (BitVec.ofInt IntKind.i64.bits a &&& BitVec.ofInt IntKind.i64.bits b) = .int .i64 (band a b) := rfl
@[simp ↓] theorem abits_xor (a b : Int) : abits .i64 (BitVec.ofInt IntKind.i64.bits a ^^^ BitVec.ofInt IntKind.i64.bits b) = .int .i64 (bxor a b) := rfl
theorem band_bd (a : Int) (n : Nat) (hn : n < 4611686018427387904) : 0 ≤ band a n ∧ band a n ≤ n := by
  have h1 : (BitVec.ofInt IntKind.i64.bits a &&& BitVec.ofInt IntKind.i64.bits (n : Int)).toNat ≤ n := by
    rw [BitVec.toNat_and]
    refine Nat.le_trans Nat.and_le_right ?_
    rw [BitVec.toNat_ofInt]
    have : ((n : Int) % ((2 ^ IntKind.i64.bits : Nat) : Int)) = n := Int.emod_eq_of_lt (by omega) (by show (n : Int) < 18446744073709551616; omega)
    rw [this]; simp
  unfold band
  rw [wrap64 (by omega) (by omega)]
  omega

def curH (c : GCur) : Int := IntKind.i64.wrap (IntKind.i64.wrap (c.h * 6364136223846793005) + 1442695040888963407)
def curX (c : GCur) : Int := band (bxor ((curH c).fdiv (2 ^ min 33 IntKind.i64.bits)) ((curH c).fdiv (2 ^ min 45 IntKind.i64.bits))) 255
/-- A byte drawn, and the cursor behind it. -/
def curB (c : GCur) : Int × GCur :=
  if c.i < c.b.length then (band (IntKind.i64.wrap (curX c + (nth c.b c.i.toNat).toNat)) 255, ⟨c.b, c.i + 1, curH c⟩) else (curX c, ⟨c.b, c.i, curH c⟩)
theorem curX_bd (c : GCur) : 0 ≤ curX c ∧ curX c ≤ 255 := band_bd _ 255 (by decide)
theorem curB_bd (c : GCur) : 0 ≤ (curB c).1 ∧ (curB c).1 ≤ 255 := by
  unfold curB
  split
  · exact band_bd _ 255 (by decide)
  · exact curX_bd c
theorem curB_ok {c : GCur} (h : c.Ok) : (curB c).2.Ok := by
  unfold curB
  simp only [GCur.Ok] at h
  split
  · simp only [GCur.Ok]; omega
  · simp only [GCur.Ok]; omega

@[simp] def h116 : Hts := { merge := fun _ => false, dr := fun id => if id = 2 then [{}, {}, {}, {}, {}, {}, {}, {}, {}, {}, {}, {}, {}] else if id = 3 then [{}, {}, {}, {}, {}, {}, {}, {}, {}, {}] else if id = 4 then [{}, {}, {}, {}, {}, {}, {}, {}, {}, {}, {}, {}, {}, {}, {}] else [] }
set_option maxHeartbeats 1000000 in
theorem f116_ok (c : GCur) (hc : c.Ok) : FnW Tryz.prog 116 [.ptr [.im c.b.length (flat c.b), .int .i64 c.i, .int .i64 c.h]] (.v (.int .i64 ((curB c).1))) [.ptr [.im ((curB c).2).b.length (flat ((curB c).2).b), .int .i64 ((curB c).2).i, .int .i64 ((curB c).2).h]] := by
  obtain ⟨b, i, h⟩ := c
  simp only [GCur.Ok] at hc
  obtain ⟨h1, h2, h3⟩ := hc
  obtain ⟨k, rfl⟩ := Int.eq_ofNat_of_zero_le h1
  refine FnW.of_AW TryzT_ok 1 (fn := Tryz.f116) (by kernel_rfl) rfl (by kernel_rfl) rfl rfl rfl ?_; refine AW_of h116 TryzT_ok (by kernel_rfl) ?_
  rcases Nat.lt_or_ge k b.length with q1 | q1
  · have q2 : (k : Int) < b.length := by omega
    have q3 : ¬ b = [] := by rintro rfl; simp at q1
    have wi : IntKind.i64.wrap ((k : Int) + 1) = k + 1 := wrap64 (by omega) (by omega)
    have w8 : IntKind.i64.wrap ((nth b k).toNat : Int) = (nth b k).toNat := by have := (nth b k).toNat_lt; exact wrap64 (by omega) (by omega)
    simp -dsimp [q1, ne_of_lt q1, q3, wi, w8]
    simp [curB, curX, curH, q1]
  · have q2 : ¬ (k : Int) < b.length := by omega
    simp -dsimp [Nat.not_lt.2 q1, q1]
    simp [curB, curX, curH, Nat.not_lt.2 q1]

def newK (b : List UInt8) : Nat → Int
  | 0 => 93901 + b.length
  | i + 1 => band (IntKind.i64.wrap (IntKind.i64.wrap (IntKind.i64.wrap (newK b i * 131) + (nth b i).toNat) + 7)) 1073741823
def curNew (b : List UInt8) : GCur := ⟨b, 0, newK b (min b.length 4000)⟩
theorem curNew_ok {b : List UInt8} (h : b.length ≤ 1048576) : (curNew b).Ok := by simp [curNew, GCur.Ok]; omega

@[simp] def h115 : Hts := { merge := fun _ => false }
set_option maxHeartbeats 1000000 in
theorem f115_ok (b : List UInt8) (hb : b.length ≤ 1048576) : FnR Tryz.prog 115 [.v (.im b.length (flat b))] (.ptr [.im ((curNew b)).b.length (flat ((curNew b)).b), .int .i64 ((curNew b)).i, .int .i64 ((curNew b)).h]) := by
  refine FnW.of_AW TryzT_ok 0 (fn := Tryz.f115) (by kernel_rfl) rfl (by kernel_rfl) rfl rfl rfl ?_; refine AW_of h115 TryzT_ok (by kernel_rfl) ?_
  have w0 : IntKind.i64.wrap (93901 + (b.length : Int)) = 93901 + b.length := wrap64 (by omega) (by omega)
  simp -dsimp [w0]
  refine AWh_loop (fun i : Nat => i ≤ b.length ∧ i ≤ 4000) (fun i => mkE [(0, .c (.im b.length (flat b))), (3, .c (.int .i64 (newK b i))), (4, .c (.int .i64 i))] []) (fun i => b.length - i) 0 (Wk_to [0, 3, 4] [] rfl rfl (by simp [newK])) (by simp) ?_
  rintro i ⟨hi, h4⟩
  refine AW_of h115 TryzT_ok (by kernel_rfl) ?_
  have wi : IntKind.i64.wrap ((i : Int) + 1) = i + 1 := wrap64 (by omega) (by omega)
  rcases Nat.lt_or_ge i b.length with q1 | q1
  · rcases Nat.lt_or_ge i 4000 with q2 | q2
    · have q2' : (i : Int) < 4000 := by omega
      have w8 : IntKind.i64.wrap ((nth b i).toNat : Int) = (nth b i).toNat := by have := (nth b i).toNat_lt; exact wrap64 (by omega) (by omega)
      simp -dsimp [q1, ne_of_lt q1, q2, q2', w8, wi]
      exact Back_of (i + 1) [0, 3, 4] [] rfl rfl (by simp [newK]) (by omega) (by omega)
    · have e : i = 4000 := by omega
      have q2' : ¬ (i : Int) < 4000 := by omega
      simp -dsimp [q1, ne_of_lt q1, q2']
      simp [curNew, e, Nat.min_eq_right (by omega : 4000 ≤ b.length)]
  · have e : i = b.length := by omega
    simp -dsimp [Nat.not_lt.2 q1, q1]
    simp [curNew, e, Nat.min_eq_left (by omega : b.length ≤ 4000)]

def curN (c : GCur) (n : Int) : Int × GCur :=
  if n ≤ 0 then (0, c) else if n ≤ 256 then ((curB c).1.tmod n, (curB c).2) else
  ((((curB c).1 * 16777216 + (curB (curB c).2).1 * 65536 + (curB (curB (curB c).2).2).1 * 256 + (curB (curB (curB (curB c).2).2).2).1)).tmod n, (curB (curB (curB (curB c).2).2).2).2)
theorem curN_ok {c : GCur} (h : c.Ok) (n : Int) : (curN c n).2.Ok := by
  unfold curN
  split
  · exact h
  split
  · exact curB_ok h
  · exact curB_ok (curB_ok (curB_ok (curB_ok h)))
theorem tmod_bd {a n : Int} (ha : 0 ≤ a) (hn : 0 < n) : 0 ≤ a.tmod n ∧ a.tmod n < n := by
  rw [Int.tmod_eq_emod_of_nonneg ha]
  exact ⟨Int.emod_nonneg _ (by omega), Int.emod_lt_of_pos _ hn⟩
theorem curN_bd (c : GCur) {n : Int} (hn : 0 < n) : 0 ≤ (curN c n).1 ∧ (curN c n).1 < n := by
  have h1 := curB_bd c
  have h2 := curB_bd (curB c).2
  have h3 := curB_bd (curB (curB c).2).2
  have h4 := curB_bd (curB (curB (curB c).2).2).2
  unfold curN
  rw [if_neg (by omega)]
  split
  · exact tmod_bd h1.1 hn
  · exact tmod_bd (by omega) hn

@[simp] def h117 : Hts := { merge := fun _ => false, lend := fun f => if f = 116 then [.box []] else [] }
set_option maxHeartbeats 1000000 in
theorem f117_ok (c : GCur) (hc : c.Ok) (n : Int) : FnW Tryz.prog 117 [.ptr [.im c.b.length (flat c.b), .int .i64 c.i, .int .i64 c.h], .v (.int .i64 n)] (.v (.int .i64 ((curN c n).1))) [.ptr [.im ((curN c n).2).b.length (flat ((curN c n).2).b), .int .i64 ((curN c n).2).i, .int .i64 ((curN c n).2).h], .any] := by
  have h1 := curB_bd c
  have h2 := curB_bd (curB c).2
  have h3 := curB_bd (curB (curB c).2).2
  have h4 := curB_bd (curB (curB (curB c).2).2).2
  refine FnW.of_AW TryzT_ok 1 (fn := Tryz.f117) (by kernel_rfl) rfl (by kernel_rfl) rfl rfl rfl ?_; refine AW_of h117 TryzT_ok (by kernel_rfl) ?_
  rcases Int.lt_or_le 0 n with q1 | q1
  rotate_left
  · have q1' : ¬ 0 < n := by omega
    simp -dsimp [q1, q1']
    simp [curN, q1]
  have q1' : ¬ n ≤ 0 := by omega
  have q0 : ¬ n = 0 := by omega
  rcases Int.lt_or_le 256 n with q2 | q2
  rotate_left
  · simp -dsimp [q1, q1', q2]
    refine ACallW_args (by intro us; simp -dsimp; exact ⟨rfl, rfl, rfl⟩) ?_
    refine ACallC_of (fun us => f116_ok c hc) (by intro us; simp -dsimp; exact ⟨rfl, rfl⟩) ?_
    simp -dsimp [q0]
    simp [curN, q1', q2]
  have q2' : ¬ n ≤ 256 := by omega
  simp -dsimp [q1, q1', q2, q2']
  refine ACallW_args (by intro us; simp -dsimp; exact ⟨rfl, rfl, rfl⟩) ?_
  refine ACallC_of (fun us => f116_ok c hc) (by intro us; simp -dsimp; exact ⟨rfl, rfl⟩) ?_
  simp -dsimp
  refine ACallW_args (by intro us; simp -dsimp; exact ⟨rfl, rfl, rfl⟩) ?_
  refine ACallC_of (fun us => f116_ok (curB c).2 (curB_ok hc)) (by intro us; simp -dsimp; exact ⟨rfl, rfl⟩) ?_
  simp -dsimp
  refine ACallW_args (by intro us; simp -dsimp; exact ⟨rfl, rfl, rfl⟩) ?_
  refine ACallC_of (fun us => f116_ok (curB (curB c).2).2 (curB_ok (curB_ok hc))) (by intro us; simp -dsimp; exact ⟨rfl, rfl⟩) ?_
  simp -dsimp
  refine ACallW_args (by intro us; simp -dsimp; exact ⟨rfl, rfl, rfl⟩) ?_
  refine ACallC_of (fun us => f116_ok (curB (curB (curB c).2).2).2 (curB_ok (curB_ok (curB_ok hc)))) (by intro us; simp -dsimp; exact ⟨rfl, rfl⟩) ?_
  have w1 : IntKind.i64.wrap ((curB c).1 * 16777216) = (curB c).1 * 16777216 := wrap64 (by omega) (by omega)
  have w2 : IntKind.i64.wrap ((curB (curB c).2).1 * 65536) = (curB (curB c).2).1 * 65536 := wrap64 (by omega) (by omega)
  have w3 : IntKind.i64.wrap ((curB (curB (curB c).2).2).1 * 256) = (curB (curB (curB c).2).2).1 * 256 := wrap64 (by omega) (by omega)
  have w4 : IntKind.i64.wrap ((curB c).1 * 16777216 + (curB (curB c).2).1 * 65536) = (curB c).1 * 16777216 + (curB (curB c).2).1 * 65536 := wrap64 (by omega) (by omega)
  have w5 : IntKind.i64.wrap ((curB c).1 * 16777216 + (curB (curB c).2).1 * 65536 + (curB (curB (curB c).2).2).1 * 256) = (curB c).1 * 16777216 + (curB (curB c).2).1 * 65536 + (curB (curB (curB c).2).2).1 * 256 := wrap64 (by omega) (by omega)
  have w6 : IntKind.i64.wrap ((curB c).1 * 16777216 + (curB (curB c).2).1 * 65536 + (curB (curB (curB c).2).2).1 * 256 + (curB (curB (curB (curB c).2).2).2).1) = (curB c).1 * 16777216 + (curB (curB c).2).1 * 65536 + (curB (curB (curB c).2).2).1 * 256 + (curB (curB (curB (curB c).2).2).2).1 := wrap64 (by omega) (by omega)
  simp -dsimp [q0, w1, w2, w3, w4, w5, w6]
  simp [curN, q1', q2']

@[simp] def h130 : Hts := { merge := fun _ => false, lend := fun f => if f = 117 then [.box []] else [] }
theorem f130_ok (c : GCur) (hc : c.Ok) (n : Int) : FnW Tryz.prog 130 [.ptr [.im c.b.length (flat c.b), .int .i64 c.i, .int .i64 c.h], .v (.int .i64 n)] (.v (.bool (((curN c n).1 == 0)))) [.ptr [.im ((curN c n).2).b.length (flat ((curN c n).2).b), .int .i64 ((curN c n).2).i, .int .i64 ((curN c n).2).h], .any] := by
  refine FnW.of_AW TryzT_ok 1 (fn := Tryz.f130) (by kernel_rfl) rfl (by kernel_rfl) rfl rfl rfl ?_; refine AW_of h130 TryzT_ok (by kernel_rfl) ?_
  simp -dsimp
  refine ACallW_args (by intro us; simp -dsimp; exact ⟨rfl, rfl, rfl⟩) ?_
  refine ACallC_of (fun us => f117_ok c hc n) (by intro us; simp -dsimp; exact ⟨rfl, rfl⟩) ?_
  simp -dsimp

def curPick {α : Type} [Cel α] (c : GCur) (l : List α) : α × GCur := (nth l (curN c l.length).1.toNat, (curN c l.length).2)
theorem curPick_ok {α : Type} [Cel α] {c : GCur} (h : c.Ok) (l : List α) : (curPick c l).2.Ok := curN_ok h _
theorem curPick_mem {α : Type} [Cel α] (c : GCur) {l : List α} (h : l ≠ []) : (curPick c l).1 ∈ l := by
  have : 0 < l.length := List.length_pos_iff.2 h
  have := curN_bd c (n := l.length) (by omega)
  exact nth_mem (by omega)

@[simp] def h160 : Hts := { merge := fun _ => false, lend := fun f => if f = 117 then [.box []] else [] }
theorem f160_ok (c : GCur) (hc : c.Ok) (l : List Int) (hl : l ≠ []) : FnW Tryz.prog 160 [.ptr [.im c.b.length (flat c.b), .int .i64 c.i, .int .i64 c.h], .v (.ow 3 1 l.length (flat l))] (.v (.int .i64 ((curPick c l).1))) [.ptr [.im ((curPick c l).2).b.length (flat ((curPick c l).2).b), .int .i64 ((curPick c l).2).i, .int .i64 ((curPick c l).2).h], .any] := by
  have h0 : 0 < l.length := List.length_pos_iff.2 hl
  have hb := curN_bd c (n := l.length) (by omega)
  refine FnW.of_AW TryzT_ok 1 (fn := Tryz.f160) (by kernel_rfl) rfl (by kernel_rfl) rfl rfl rfl ?_; refine AW_of h160 TryzT_ok (by kernel_rfl) ?_
  simp -dsimp
  refine ACallW_args (by intro us; simp -dsimp; exact ⟨rfl, rfl, rfl⟩) ?_
  refine ACallC_of (fun us => f117_ok c hc l.length) (by intro us; simp -dsimp; exact ⟨rfl, rfl⟩) ?_
  obtain ⟨m, hm⟩ := Int.eq_ofNat_of_zero_le hb.1
  rw [hm] at hb
  have q1 : m < l.length := by omega
  simp -dsimp [hm, q1, ne_of_lt q1, hl]
  simp [curPick, hm]

@[simp] def h270 : Hts := { merge := fun _ => false, lend := fun f => if f = 117 then [.box []] else [] }
theorem f270_ok (c : GCur) (hc : c.Ok) (l : List ByteArray) (hl : l ≠ []) : FnW Tryz.prog 270 [.ptr [.im c.b.length (flat c.b), .int .i64 c.i, .int .i64 c.h], .v (.ow 9 1 l.length (flat l))] (.v (.str ((curPick c l).1))) [.ptr [.im ((curPick c l).2).b.length (flat ((curPick c l).2).b), .int .i64 ((curPick c l).2).i, .int .i64 ((curPick c l).2).h], .any] := by
  have h0 : 0 < l.length := List.length_pos_iff.2 hl
  have hb := curN_bd c (n := l.length) (by omega)
  refine FnW.of_AW TryzT_ok 1 (fn := Tryz.f270) (by kernel_rfl) rfl (by kernel_rfl) rfl rfl rfl ?_; refine AW_of h270 TryzT_ok (by kernel_rfl) ?_
  simp -dsimp
  refine ACallW_args (by intro us; simp -dsimp; exact ⟨rfl, rfl, rfl⟩) ?_
  refine ACallC_of (fun us => f117_ok c hc l.length) (by intro us; simp -dsimp; exact ⟨rfl, rfl⟩) ?_
  obtain ⟨m, hm⟩ := Int.eq_ofNat_of_zero_le hb.1
  rw [hm] at hb
  have q1 : m < l.length := by omega
  simp -dsimp [hm, q1, ne_of_lt q1, hl]
  simp [curPick, hm]
end Am
namespace Am
open Go Go.Proofs
open Cel (cells)
set_option maxRecDepth 100000
set_option linter.unusedSimpArgs false
set_option linter.unusedVariables false

def objs : List ByteArray := [⟨#[97]⟩, ⟨#[98]⟩, ⟨#[116, 97, 108, 108, 121]⟩]
def keys : List ByteArray := [⟨#[120]⟩, ⟨#[121]⟩, ⟨#[122, 111, 111]⟩]
def kinds : List Int := [1, 2, 3, 4, 5, 6, 6, 6, 7]
def vals : List Int := [0, 1, 7, 999999]
theorem objs_ok (c : GCur) : nameOk (curPick c objs).1 = true ∧ (curPick c objs).1.size ≤ 8 := by
  have h := curPick_mem c (l := objs) (by simp [objs])
  generalize (curPick c objs).1 = x at h
  simp only [objs, List.mem_cons, List.not_mem_nil, or_false] at h
  rcases h with rfl | rfl | rfl <;> decide
theorem keys_ok (c : GCur) : nameOk (curPick c keys).1 = true ∧ (curPick c keys).1.size ≤ 8 := by
  have h := curPick_mem c (l := keys) (by simp [keys])
  generalize (curPick c keys).1 = x at h
  simp only [keys, List.mem_cons, List.not_mem_nil, or_false] at h
  rcases h with rfl | rfl | rfl <;> decide
theorem vals_ok (c : GCur) : 0 ≤ (curPick c vals).1 ∧ (curPick c vals).1 ≤ 999999 := by
  have h := curPick_mem c (l := vals) (by simp [vals])
  generalize (curPick c vals).1 = x at h
  simp only [vals, List.mem_cons, List.not_mem_nil, or_false] at h
  omega
theorem kinds_ok (c : GCur) : 1 ≤ (curPick c kinds).1 ∧ (curPick c kinds).1 ≤ 7 := by
  have h := curPick_mem c (l := kinds) (by simp [kinds])
  generalize (curPick c kinds).1 = x at h
  simp only [kinds, List.mem_cons, List.not_mem_nil, or_false] at h
  omega

@[simp] def h133 : Hts := { merge := fun _ => false, lend := fun f => if f = 270 then [.box [], .lend] else [] }
theorem f133_ok (c : GCur) (hc : c.Ok) : FnW Tryz.prog 133 [.ptr [.im c.b.length (flat c.b), .int .i64 c.i, .int .i64 c.h]] (.v (.str ((curPick c objs).1))) [.ptr [.im ((curPick c objs).2).b.length (flat ((curPick c objs).2).b), .int .i64 ((curPick c objs).2).i, .int .i64 ((curPick c objs).2).h]] := by
  refine FnW.of_AW TryzT_ok 1 (fn := Tryz.f133) (by kernel_rfl) rfl (by kernel_rfl) rfl rfl rfl ?_; refine AW_of h133 TryzT_ok (by kernel_rfl) ?_
  simp -dsimp
  refine ACallW_args (by intro us; simp -dsimp; exact ⟨rfl, rfl, rfl⟩) ?_
  refine ACallC_of (fun us => f270_ok c hc objs (by simp [objs])) (by intro us; simp -dsimp; exact ⟨rfl, rfl⟩) ?_
  simp -dsimp

@[simp] def h134 : Hts := { merge := fun _ => false, lend := fun f => if f = 270 then [.box [], .lend] else [] }
theorem f134_ok (c : GCur) (hc : c.Ok) : FnW Tryz.prog 134 [.ptr [.im c.b.length (flat c.b), .int .i64 c.i, .int .i64 c.h]] (.v (.str ((curPick c keys).1))) [.ptr [.im ((curPick c keys).2).b.length (flat ((curPick c keys).2).b), .int .i64 ((curPick c keys).2).i, .int .i64 ((curPick c keys).2).h]] := by
  refine FnW.of_AW TryzT_ok 1 (fn := Tryz.f134) (by kernel_rfl) rfl (by kernel_rfl) rfl rfl rfl ?_; refine AW_of h134 TryzT_ok (by kernel_rfl) ?_
  simp -dsimp
  refine ACallW_args (by intro us; simp -dsimp; exact ⟨rfl, rfl, rfl⟩) ?_
  refine ACallC_of (fun us => f270_ok c hc keys (by simp [keys])) (by intro us; simp -dsimp; exact ⟨rfl, rfl⟩) ?_
  simp -dsimp

@[simp] def h135 : Hts := { merge := fun _ => false }
set_option maxHeartbeats 1000000 in
theorem f135_ok (s : GState) (hs : s.cs.length ≤ 1073741824) : FnR Tryz.prog 135 [.agg [.im s.know.length (flat s.know), .im s.tallies.length (flat s.tallies), .im s.lives.length (flat s.lives), .im s.cs.length (flat s.cs)]] (.v (.int .i64 (timeOf s))) := by
  refine FnW.of_AW TryzT_ok 0 (fn := Tryz.f135) (by kernel_rfl) rfl (by kernel_rfl) rfl rfl rfl ?_; refine AW_of h135 TryzT_ok (by kernel_rfl) ?_
  simp -dsimp
  refine AWh_loop (fun i : Nat => i ≤ s.cs.length) (fun i => mkE [(1, .box 64 0), (3, .c (.int .i64 (timeK s.cs i))), (4, .c (.int .i64 i))] [(64, .box [.c (.im s.know.length (flat s.know)), .c (.im s.tallies.length (flat s.tallies)), .c (.im s.lives.length (flat s.lives)), .c (.im s.cs.length (flat s.cs))])]) (fun i => s.cs.length - i) 0 (Wk_to [1, 3, 4] [(64, 64)] rfl rfl (by simp [timeK])) (by simp) ?_
  rintro i hi
  refine AW_of h135 TryzT_ok (by kernel_rfl) ?_
  have wi : IntKind.i64.wrap ((i : Int) + 1) = i + 1 := wrap64 (by omega) (by omega)
  rcases Nat.lt_or_ge i s.cs.length with q1 | q1
  · by_cases q2 : timeK s.cs i < (nth s.cs i).time
    · simp -dsimp [q1, ne_of_lt q1, q2, wi]
      exact Back_of (i + 1) [1, 3, 4] [(64, 64)] rfl rfl (by simp [timeK, q2]) (by omega) (by omega)
    · simp -dsimp [q1, ne_of_lt q1, q2, Int.not_lt.1 q2, wi]
      exact Back_of (i + 1) [1, 3, 4] [(64, 64)] rfl rfl (by simp [timeK, q2]) (by omega) (by omega)
  · obtain rfl : i = s.cs.length := by omega
    simp -dsimp
    simp [timeOf]
end Am
namespace Am
open Go Go.Proofs
open Cel (cells)
set_option maxRecDepth 100000
set_option linter.unusedSimpArgs false
set_option linter.unusedVariables false

theorem str_nilV {s : ByteArray} : (s.toList = [] ↔ s = ⟨#[]⟩) := by
  rw [ByteArray.toList_eq]
  constructor
  · intro h
    cases s
    simp only at h
    simp [Array.toList_eq_nil_iff.1 h]
  · rintro rfl; rfl
def edK (c : GCur) : Int × GCur := curPick c kinds
def edO (c : GCur) : ByteArray × GCur := curPick (edK c).2 objs
def edY (c : GCur) : ByteArray × GCur := if spIn (edK c).1 2 5 = true then curPick (edO c).2 keys else (⟨#[]⟩, (edO c).2)
def edV (c : GCur) : Int × GCur := if valued (edK c).1 = true then curPick (edY c).2 vals else (0, (edY c).2)
def edP (c : GCur) : Int × GCur := if 6 ≤ (edK c).1 then curN (edV c).2 3 else (0, (edV c).2)
/-- A wish drawn. -/
def editD (c : GCur) : GEdit × GCur := (⟨(edK c).1, (edO c).1, (edY c).1, (edV c).1, (edP c).1⟩, (edP c).2)
theorem edO_ok {c : GCur} (h : c.Ok) : (edO c).2.Ok := curPick_ok (curPick_ok h _) _
theorem edY_ok {c : GCur} (h : c.Ok) : (edY c).2.Ok := by
  unfold edY
  split
  · exact curPick_ok (edO_ok h) _
  · exact edO_ok h
theorem edV_ok {c : GCur} (h : c.Ok) : (edV c).2.Ok := by
  unfold edV
  split
  · exact curPick_ok (edY_ok h) _
  · exact edY_ok h
theorem editD_ok {c : GCur} (h : c.Ok) : (editD c).2.Ok := by
  show (edP c).2.Ok
  unfold edP
  split
  · exact curN_ok (edV_ok h) _
  · exact edV_ok h
theorem editD_good (c : GCur) : editOk (editD c).1 = true ∧ (editD c).1.obj.size ≤ 8 ∧ (editD c).1.key.size ≤ 8 ∧ 0 ≤ (editD c).1.place ∧ (editD c).1.place ≤ 2 := by
  have hk := kinds_ok c
  have ho := objs_ok (edK c).2
  have hp : 0 ≤ (edP c).1 ∧ (edP c).1 ≤ 2 ∧ ((edP c).1 = 0 ∨ 6 ≤ (edK c).1) := by
    unfold edP
    split
    · have := curN_bd (edV c).2 (n := 3) (by decide); omega
    · exact ⟨by simp, by simp, .inl rfl⟩
  have hy : (edY c).1.size ≤ 8 ∧ ((spIn (edK c).1 2 5 = true ∧ nameOk (edY c).1 = true) ∨ (spIn (edK c).1 2 5 = false ∧ (edY c).1 = ⟨#[]⟩)) := by
    unfold edY
    split
    · rename_i h; have := keys_ok (edO c).2; exact ⟨this.2, .inl ⟨h, this.1⟩⟩
    · rename_i h; exact ⟨Nat.zero_le _, .inr ⟨by simpa using h, rfl⟩⟩
  have hv : 0 ≤ (edV c).1 ∧ (edV c).1 ≤ 999999 ∧ ((edV c).1 = 0 ∨ valued (edK c).1 = true) := by
    unfold edV
    split
    · rename_i h; have := vals_ok (edY c).2; exact ⟨this.1, this.2, .inr h⟩
    · simp
  refine ⟨?_, ho.2, hy.1, hp.1, hp.2.1⟩
  show editOk ⟨(edK c).1, (edO c).1, (edY c).1, (edV c).1, (edP c).1⟩ = true
  have ho' : nameOk (edO c).1 = true := ho.1
  generalize hK : (edK c).1 = k at *
  have hk' : 1 ≤ k ∧ k ≤ 7 := by rw [← hK]; exact hk
  simp only [editOk, plain, Bool.and_eq_true, Bool.or_eq_true, decide_eq_true_eq, beq_iff_eq]
  refine ⟨⟨⟨⟨by simp [spIn]; omega, ho'⟩, ?_⟩, ?_⟩, by omega⟩
  · rcases hy.2 with ⟨h1, h2⟩ | ⟨h1, h2⟩
    · rw [if_pos h1]; exact h2
    · rw [if_neg (by simp [h1]), h2]; exact decide_eq_true (str_nilV.2 rfl)
  · rcases hv.2.2 with h | h
    · exact .inl h
    · exact .inr ⟨h, by simp [spIn]; omega⟩

@[simp] def h155 : Hts := { merge := fun _ => false, mergeF := fun _ => false, lend := fun f => if f = 270 || f = 160 then [.box [], .lend] else if f = 133 || f = 134 || f = 117 then [.box []] else [] }
set_option maxHeartbeats 4000000 in
theorem f155_ok (c : GCur) (hc : c.Ok) : FnW Tryz.prog 155 [.ptr [.im c.b.length (flat c.b), .int .i64 c.i, .int .i64 c.h]] (.agg [.int .i64 ((editD c).1).kind, .str ((editD c).1).obj, .str ((editD c).1).key, .int .i64 ((editD c).1).val, .int .i64 ((editD c).1).place]) [.ptr [.im ((editD c).2).b.length (flat ((editD c).2).b), .int .i64 ((editD c).2).i, .int .i64 ((editD c).2).h]] := by
  have hk := kinds_ok c
  refine FnW.of_AW TryzT_ok 1 (fn := Tryz.f155) (by kernel_rfl) rfl (by kernel_rfl) rfl rfl rfl ?_; refine AW_of h155 TryzT_ok (by kernel_rfl) ?_
  simp -dsimp
  refine ACallW_args (by intro us; simp -dsimp; exact ⟨rfl, rfl, rfl⟩) ?_
  refine ACallC_of (fun us => f160_ok c hc kinds (by simp [kinds])) (by intro us; simp -dsimp; exact ⟨rfl, rfl⟩) ?_
  simp -dsimp
  refine ACallW_args (by intro us; simp -dsimp; exact ⟨rfl, rfl, rfl⟩) ?_
  refine ACallC_of (fun us => f133_ok (edK c).2 (curPick_ok hc _)) (by intro us; simp -dsimp [edK]; exact ⟨rfl, rfl⟩) ?_
  simp -dsimp
  refine ACallK_of (f281_ok _) ?_
  have key : (curPick c kinds).1 = 1 ∨ (curPick c kinds).1 = 2 ∨ (curPick c kinds).1 = 3 ∨ (curPick c kinds).1 = 4 ∨ (curPick c kinds).1 = 5 ∨ (curPick c kinds).1 = 6 ∨ (curPick c kinds).1 = 7 := by omega
  rcases key with e | e | e | e | e | e | e
  · have s1 : spIn 1 2 5 = false := by decide
    have s2 : valued 1 = true := by decide
    simp -dsimp [e, s1]
    refine ACallK_of (f282_ok _) ?_
    simp -dsimp [e, s2]
    refine ACallW_args (by intro us; simp -dsimp; exact ⟨rfl, rfl, rfl⟩) ?_
    refine ACallC_of (fun us => f160_ok (edO c).2 (edO_ok hc) vals (by simp [vals])) (by intro us; simp -dsimp [edO, edK]; exact ⟨rfl, rfl⟩) ?_
    simp -dsimp [e]
    simp [editD, edP, edV, edY, edO, edK, e, s1, s2]
  · have s1 : spIn 2 2 5 = true := by decide
    have s2 : valued 2 = false := by decide
    simp -dsimp [e, s1]
    refine ACallW_args (by intro us; simp -dsimp; exact ⟨rfl, rfl, rfl⟩) ?_
    refine ACallC_of (fun us => f134_ok (edO c).2 (edO_ok hc)) (by intro us; simp -dsimp [edO, edK]; exact ⟨rfl, rfl⟩) ?_
    simp -dsimp [e]
    refine ACallK_of (f282_ok _) ?_
    simp -dsimp [e, s2]
    simp [editD, edP, edV, edY, edO, edK, e, s1, s2]
  · have s1 : spIn 3 2 5 = true := by decide
    have s2 : valued 3 = false := by decide
    simp -dsimp [e, s1]
    refine ACallW_args (by intro us; simp -dsimp; exact ⟨rfl, rfl, rfl⟩) ?_
    refine ACallC_of (fun us => f134_ok (edO c).2 (edO_ok hc)) (by intro us; simp -dsimp [edO, edK]; exact ⟨rfl, rfl⟩) ?_
    simp -dsimp [e]
    refine ACallK_of (f282_ok _) ?_
    simp -dsimp [e, s2]
    simp [editD, edP, edV, edY, edO, edK, e, s1, s2]
  · have s1 : spIn 4 2 5 = true := by decide
    have s2 : valued 4 = true := by decide
    simp -dsimp [e, s1]
    refine ACallW_args (by intro us; simp -dsimp; exact ⟨rfl, rfl, rfl⟩) ?_
    refine ACallC_of (fun us => f134_ok (edO c).2 (edO_ok hc)) (by intro us; simp -dsimp [edO, edK]; exact ⟨rfl, rfl⟩) ?_
    simp -dsimp [e]
    refine ACallK_of (f282_ok _) ?_
    simp -dsimp [e, s2]
    refine ACallW_args (by intro us; simp -dsimp; exact ⟨rfl, rfl, rfl⟩) ?_
    refine ACallC_of (fun us => f160_ok (curPick (edO c).2 keys).2 (curPick_ok (edO_ok hc) _) vals (by simp [vals])) (by intro us; simp -dsimp [edO, edK]; exact ⟨rfl, rfl⟩) ?_
    simp -dsimp [e]
    simp [editD, edP, edV, edY, edO, edK, e, s1, s2]
  · have s1 : spIn 5 2 5 = true := by decide
    have s2 : valued 5 = false := by decide
    simp -dsimp [e, s1]
    refine ACallW_args (by intro us; simp -dsimp; exact ⟨rfl, rfl, rfl⟩) ?_
    refine ACallC_of (fun us => f134_ok (edO c).2 (edO_ok hc)) (by intro us; simp -dsimp [edO, edK]; exact ⟨rfl, rfl⟩) ?_
    simp -dsimp [e]
    refine ACallK_of (f282_ok _) ?_
    simp -dsimp [e, s2]
    simp [editD, edP, edV, edY, edO, edK, e, s1, s2]
  · have s1 : spIn 6 2 5 = false := by decide
    have s2 : valued 6 = true := by decide
    simp -dsimp [e, s1]
    refine ACallK_of (f282_ok _) ?_
    simp -dsimp [e, s2]
    refine ACallW_args (by intro us; simp -dsimp; exact ⟨rfl, rfl, rfl⟩) ?_
    refine ACallC_of (fun us => f160_ok (edO c).2 (edO_ok hc) vals (by simp [vals])) (by intro us; simp -dsimp [edO, edK]; exact ⟨rfl, rfl⟩) ?_
    simp -dsimp [e]
    refine ACallW_args (by intro us; simp -dsimp; exact ⟨rfl, rfl, rfl⟩) ?_
    refine ACallC_of (fun us => f117_ok (curPick (edO c).2 vals).2 (curPick_ok (edO_ok hc) _) 3) (by intro us; simp -dsimp [edO, edK]; exact ⟨rfl, rfl⟩) ?_
    simp -dsimp [e]
    simp [editD, edP, edV, edY, edO, edK, e, s1, s2]
  · have s1 : spIn 7 2 5 = false := by decide
    have s2 : valued 7 = false := by decide
    simp -dsimp [e, s1]
    refine ACallK_of (f282_ok _) ?_
    simp -dsimp [e, s2]
    refine ACallW_args (by intro us; simp -dsimp; exact ⟨rfl, rfl, rfl⟩) ?_
    refine ACallC_of (fun us => f117_ok (edO c).2 (edO_ok hc) 3) (by intro us; simp -dsimp [edO, edK]; exact ⟨rfl, rfl⟩) ?_
    simp -dsimp [e]
    simp [editD, edP, edV, edY, edO, edK, e, s1, s2]
end Am
