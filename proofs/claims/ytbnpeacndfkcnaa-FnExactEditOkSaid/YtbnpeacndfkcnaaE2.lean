/- Functions of the program keep their contracts. No condition. -/
import Derived.Test.YtbnpeacndfkcnaaE1
import Derived.Test.YtbnpeacndfkcnaaAm23
namespace Am
open Go Go.Proofs

def letters (s : ByteArray) : Bool := decide (∀ j : Nat, j < s.size → 97 ≤ bt s j ∧ bt s j ≤ 122)
def nameOk (s : ByteArray) : Bool := letters s && spIn s.size 1 8

theorem f80_ok (x lo hi : Int) : FnR Try.prog 80 [.v (.int .i64 x), .v (.int .i64 lo), .v (.int .i64 hi)] (.v (.bool (spIn x lo hi))) := by
  refine FnR.of_AW TryT_ok (fn := Try.f80) (by kernel_rfl) rfl (by kernel_rfl) rfl rfl rfl ?_
  refine AW_of { merge := fun _ => true } TryT_ok (by kernel_rfl) ?_
  simp -dsimp
  rfl

theorem f77_ok (s : ByteArray) (hs : s.size ≤ 9223372036854775807) : FnR Try.prog 77 [.v (.str s)] (.v (.bool (nameOk s))) := by
  refine FnR.of_AW TryT_ok (fn := Try.f77) (by kernel_rfl) rfl (by kernel_rfl) rfl rfl rfl ?_
  refine AW_of { merge := fun _ => true } TryT_ok (by kernel_rfl) ?_
  simp -dsimp
  refine AWh_loop (fun i : Nat => i ≤ s.size ∧ ∀ j : Nat, j < i → 97 ≤ bt s j ∧ bt s j ≤ 122) (fun i => mkE [(0, .c (.str s)), (3, .c (.int .i64 i))] []) (fun i => s.size - i) 0 (Wk_to [0, 3] [] rfl rfl (by simp)) (by simp) ?_
  rintro i ⟨hi, hall⟩
  refine AW_of { merge := fun _ => true } TryT_ok (by kernel_rfl) ?_
  simp -dsimp
  refine ⟨fun h1 => ⟨h1, fun _ => ⟨by assumption, h1⟩, ⟨fun h2 => ?_, fun h2 h3 => ?_⟩⟩, fun h1 => ?_⟩
  · have : letters s = false := by
      simp only [letters, decide_eq_false_iff_not]
      intro h
      have := h i h1
      omega
    simp [nameOk, this]
  · refine Back_of (i + 1) [0, 3] [] rfl rfl (by simp; rw [wrap64 (by omega) (by omega)]) ⟨by omega, fun j hj => ?_⟩ (by omega)
    by_cases e : j = i
    · subst e; exact ⟨h2, h3⟩
    · exact hall j (by omega)
  · refine ACallK_of (f76_ok _ _ _) ?_
    simp -dsimp
    have : letters s = true := by
      simp only [letters, decide_eq_true_eq]
      intro j hj
      exact hall j (by omega)
    simp [nameOk, this]

theorem bt_range (s : ByteArray) (i : Int) : 0 ≤ bt s i ∧ bt s i < 256 := by
  unfold bt
  have := (s.data.toList.getD i.toNat 0).toNat_lt
  omega

theorem f81_ok (s : ByteArray) (hs : s.size ≤ 9223372036854775807) : FnR Try.prog 81 [.v (.str s)] (.v (.bool (nameOk s))) := by
  refine FnR.of_AW TryT_ok (fn := Try.f81) (by kernel_rfl) rfl (by kernel_rfl) rfl rfl rfl ?_
  refine AW_of { merge := fun _ => true } TryT_ok (by kernel_rfl) ?_
  simp -dsimp
  refine AWh_loop (fun i : Nat => i ≤ s.size ∧ ∀ j : Nat, j < i → 97 ≤ bt s j ∧ bt s j ≤ 122) (fun i => mkE [(0, .c (.str s)), (3, .c (.int .i64 i))] []) (fun i => s.size - i) 0 (Wk_to [0, 3] [] rfl rfl (by simp)) (by simp) ?_
  rintro i ⟨hi, hall⟩
  refine AW_of { merge := fun _ => true } TryT_ok (by kernel_rfl) ?_
  simp -dsimp
  refine ⟨fun h1 => ⟨h1, ?_⟩, fun h1 => ?_⟩
  · refine ACallK_of (f80_ok _ _ _) ?_
    have := bt_range s i
    rw [wrap64 (by omega) (by omega)]
    simp -dsimp [spIn]
    refine ⟨fun h2 => ?_, fun h2 h3 => ?_⟩
    · have : letters s = false := by
        simp only [letters, decide_eq_false_iff_not]
        intro h
        have := h i h1
        omega
      simp [nameOk, this]
    · refine Back_of (i + 1) [0, 3] [] rfl rfl (by simp; rw [wrap64 (by omega) (by omega)]) ⟨by omega, fun j hj => ?_⟩ (by omega)
      by_cases e : j = i
      · subst e; exact ⟨h2, h3⟩
      · exact hall j (by omega)
  · refine ACallK_of (f80_ok _ _ _) ?_
    simp -dsimp
    have : letters s = true := by
      simp only [letters, decide_eq_true_eq]
      intro j hj
      exact hall j (by omega)
    simp [nameOk, this]
theorem f78_ok (x : Int) : FnR Try.prog 78 [.v (.int .i64 x)] (.v (.bool (spIn x 2 5))) := by
  refine FnR.of_AW TryT_ok (fn := Try.f78) (by kernel_rfl) rfl (by kernel_rfl) rfl rfl rfl ?_
  refine AW_of { merge := fun _ => true } TryT_ok (by kernel_rfl) ?_
  simp -dsimp
  refine ACallK_of (f76_ok _ _ _) ?_
  simp -dsimp
def valued (x : Int) : Bool := x == 1 || x == 4 || x == 6
theorem f79_ok (x : Int) : FnR Try.prog 79 [.v (.int .i64 x)] (.v (.bool (valued x))) := by
  refine FnR.of_AW TryT_ok (fn := Try.f79) (by kernel_rfl) rfl (by kernel_rfl) rfl rfl rfl ?_
  refine AW_of { merge := fun _ => true } TryT_ok (by kernel_rfl) ?_
  simp -dsimp
  rfl
theorem f82_ok (x : Int) : FnR Try.prog 82 [.v (.int .i64 x)] (.v (.bool (spIn x 2 5))) := by
  refine FnR.of_AW TryT_ok (fn := Try.f82) (by kernel_rfl) rfl (by kernel_rfl) rfl rfl rfl ?_
  refine AW_of { merge := fun _ => true } TryT_ok (by kernel_rfl) ?_
  simp -dsimp
  refine ACallK_of (f80_ok _ _ _) ?_
  simp -dsimp
theorem f83_ok (x : Int) : FnR Try.prog 83 [.v (.int .i64 x)] (.v (.bool (valued x))) := by
  refine FnR.of_AW TryT_ok (fn := Try.f83) (by kernel_rfl) rfl (by kernel_rfl) rfl rfl rfl ?_
  refine AW_of { merge := fun _ => true } TryT_ok (by kernel_rfl) ?_
  simp -dsimp
  rfl
def szEdit (ob key : ByteArray) (left : Int) : Int := if left - ob.size < 0 then -1 else if left - ob.size - key.size < 0 then -1 else left - ob.size - key.size
theorem f8_ok (k v p left : Int) (ob key : ByteArray) (h1 : ob.size ≤ 9223372036854775807) (h2 : key.size ≤ 9223372036854775807) (h3 : 0 ≤ left) (h4 : left ≤ 1048576) :
    FnR Try.prog 8 [.agg [.int .i64 k, .str ob, .str key, .int .i64 v, .int .i64 p], .v (.int .i64 left)] (.v (.int .i64 (szEdit ob key left))) := by
  refine FnR.of_AW TryT_ok (fn := Try.f8) (by kernel_rfl) rfl (by kernel_rfl) rfl rfl rfl ?_
  refine AW_of { merge := fun _ => true } TryT_ok (by kernel_rfl) ?_
  simp -dsimp
  rw [wrap64 (x := left - ob.size) (by omega) (by omega)]
  unfold szEdit
  refine ⟨fun h => by rw [if_pos h], fun h => ?_⟩
  rw [wrap64 (x := left - ob.size - key.size) (by omega) (by omega)]
  refine ⟨fun h' => ?_, fun h' => ?_⟩
  · rw [if_neg (by omega), if_pos h']
  · rw [if_neg (by omega), if_neg (by omega)]
theorem f10_ok (k v p : Int) (ob key : ByteArray) : FnR Try.prog 10 [.agg [.int .i64 k, .str ob, .str key, .int .i64 v, .int .i64 p]] (.agg [.int .i64 k, .str ob, .str key, .int .i64 v, .int .i64 p]) := by
  refine FnR.of_AW TryT_ok (fn := Try.f10) (by kernel_rfl) rfl (by kernel_rfl) rfl rfl rfl ?_
  refine AW_of { merge := fun _ => true } TryT_ok (by kernel_rfl) ?_
  simp -dsimp
def plain (k v : Int) (ob key : ByteArray) : Bool := spIn k 1 7 && nameOk ob && (if spIn k 2 5 then nameOk key else decide (key.toList = [])) && (v == 0 || valued k && spIn v 0 999999)
theorem f32_ok (k v : Int) (ob key : ByteArray) (h1 : ob.size ≤ 9223372036854775807) (h2 : key.size ≤ 9223372036854775807) :
    FnR Try.prog 32 [.v (.int .i64 k), .v (.str ob), .v (.str key), .v (.int .i64 v)] (.v (.bool (plain k v ob key))) := by
  refine FnR.of_AW TryT_ok (fn := Try.f32) (by kernel_rfl) rfl (by kernel_rfl) rfl rfl rfl ?_
  refine AW_of { merge := fun _ => true } TryT_ok (by kernel_rfl) ?_
  simp -dsimp
  repeat' (first
    | (refine ACallK_of (f76_ok _ _ _) ?_; simp -dsimp)
    | (refine ACallK_of (f77_ok _ (by assumption)) ?_; simp -dsimp)
    | (refine ACallK_of (f78_ok _) ?_; simp -dsimp)
    | (refine ACallK_of (f79_ok _) ?_; simp -dsimp)
    | refine And.intro ?_ ?_
    | intro _)
  all_goals first | assumption | grind [plain] | trace_state
theorem f33_ok (k v : Int) (ob key : ByteArray) (h1 : ob.size ≤ 9223372036854775807) (h2 : key.size ≤ 9223372036854775807) :
    FnR Try.prog 33 [.v (.int .i64 k), .v (.str ob), .v (.str key), .v (.int .i64 v)] (.v (.bool (plain k v ob key))) := by
  refine FnR.of_AW TryT_ok (fn := Try.f33) (by kernel_rfl) rfl (by kernel_rfl) rfl rfl rfl ?_
  refine AW_of { merge := fun _ => true } TryT_ok (by kernel_rfl) ?_
  simp -dsimp
  repeat' (first
    | (refine ACallK_of (f80_ok _ _ _) ?_; simp -dsimp)
    | (refine ACallK_of (f81_ok _ (by assumption)) ?_; simp -dsimp)
    | (refine ACallK_of (f82_ok _) ?_; simp -dsimp)
    | (refine ACallK_of (f83_ok _) ?_; simp -dsimp)
    | refine And.intro ?_ ?_
    | intro _)
  all_goals first | assumption | grind [plain] | trace_state
def editOk (k v p : Int) (ob key : ByteArray) : Bool := plain k v ob key && decide (0 ≤ p) && (k == 6 || k == 7 || p == 0)
theorem f9_ok (k v p : Int) (ob key : ByteArray) (h1 : ob.size ≤ 9223372036854775807) (h2 : key.size ≤ 9223372036854775807) :
    FnR Try.prog 9 [.agg [.int .i64 k, .str ob, .str key, .int .i64 v, .int .i64 p]] (.v (.bool (editOk k v p ob key))) := by
  refine FnR.of_AW TryT_ok (fn := Try.f9) (by kernel_rfl) rfl (by kernel_rfl) rfl rfl rfl ?_
  refine AW_of { merge := fun _ => true } TryT_ok (by kernel_rfl) ?_
  simp -dsimp
  repeat' (first
    | (refine ACallK_of (f32_ok _ _ _ _ (by assumption) (by assumption)) ?_; simp -dsimp)
    | refine And.intro ?_ ?_
    | intro _)
  all_goals first | assumption | grind [editOk] | trace_state
theorem f11_ok (k v p : Int) (ob key : ByteArray) (h1 : ob.size ≤ 9223372036854775807) (h2 : key.size ≤ 9223372036854775807) :
    FnR Try.prog 11 [.agg [.int .i64 k, .str ob, .str key, .int .i64 v, .int .i64 p]] (.v (.bool (editOk k v p ob key))) := by
  refine FnR.of_AW TryT_ok (fn := Try.f11) (by kernel_rfl) rfl (by kernel_rfl) rfl rfl rfl ?_
  refine AW_of { merge := fun _ => true } TryT_ok (by kernel_rfl) ?_
  simp -dsimp
  repeat' (first
    | (refine ACallK_of (f33_ok _ _ _ _ (by assumption) (by assumption)) ?_; simp -dsimp)
    | refine And.intro ?_ ?_
    | intro _)
  all_goals first | assumption | grind [editOk] | trace_state
theorem f3_ok (k v p : Int) (ob key : ByteArray) (h1 : ob.size ≤ 9223372036854775807) (h2 : key.size ≤ 9223372036854775807) :
    FnR Try.prog 3 [.agg [.int .i64 k, .str ob, .str key, .int .i64 v, .int .i64 p]] (.v (.bool true)) := by
  refine FnR.of_AW TryT_ok (fn := Try.f3) (by kernel_rfl) rfl (by kernel_rfl) rfl rfl rfl ?_
  refine AW_of { merge := fun _ => true } TryT_ok (by kernel_rfl) ?_
  simp -dsimp
  repeat' (first
    | (refine ACallK_of (f8_ok _ _ _ _ _ _ (by assumption) (by assumption) (by omega) (by omega)) ?_; simp -dsimp)
    | (refine ACallK_of (f10_ok _ _ _ _ _) ?_; simp -dsimp)
    | (refine ACallK_of (f9_ok _ _ _ _ _ (by assumption) (by assumption)) ?_; simp -dsimp)
    | (refine ACallK_of (f11_ok _ _ _ _ _ (by assumption) (by assumption)) ?_; simp -dsimp)
    | refine And.intro ?_ ?_
    | intro _)
  all_goals first | assumption | trace_state
end Am
