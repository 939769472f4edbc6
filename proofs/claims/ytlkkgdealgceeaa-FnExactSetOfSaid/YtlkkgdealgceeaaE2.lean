/- Functions of the program keep their contracts. No condition. -/
import Derived.Test.YtlkkgdealgceeaaT
import Derived.Test.YtlkkgdealgceeaaAm23
import Derived.Test.YtlkkgdealgceeaaAm26
namespace Am
open Go Go.Proofs

def spIn (x lo hi : Int) : Bool := decide (lo ≤ x) && decide (x ≤ hi)
def letters (s : ByteArray) : Bool := decide (∀ j : Nat, j < s.size → 97 ≤ bt s j ∧ bt s j ≤ 122)
def nameOk (s : ByteArray) : Bool := letters s && spIn s.size 1 8
theorem bt_range (s : ByteArray) (i : Int) : 0 ≤ bt s i ∧ bt s i < 256 := by
  unfold bt
  have := (s.data.toList.getD i.toNat 0).toNat_lt
  omega
theorem letters_false {s : ByteArray} {i : Nat} (h1 : i < s.size) (h : ¬ (97 ≤ bt s i ∧ bt s i ≤ 122)) : letters s = false := by
  simp only [letters, decide_eq_false_iff_not]
  intro hh
  exact h (hh i h1)

@[simp] def h95 : Hts := {  }
theorem f95_ok (x lo hi : Int) : FnR Try.prog 95 [.v (.int .i64 x), .v (.int .i64 lo), .v (.int .i64 hi)] (.v (.bool (spIn x lo hi))) := by
  refine FnW.of_AW TryT_ok 0 (fn := Try.f95) (by kernel_rfl) rfl (by kernel_rfl) rfl rfl rfl ?_
  refine AW_of h95 TryT_ok (by kernel_rfl) ?_
  simp -dsimp
  rfl
@[simp] def h104 : Hts := {  }
theorem f104_ok (x lo hi : Int) : FnR Try.prog 104 [.v (.int .i64 x), .v (.int .i64 lo), .v (.int .i64 hi)] (.v (.bool (spIn x lo hi))) := by
  refine FnW.of_AW TryT_ok 0 (fn := Try.f104) (by kernel_rfl) rfl (by kernel_rfl) rfl rfl rfl ?_
  refine AW_of h104 TryT_ok (by kernel_rfl) ?_
  simp -dsimp
  rfl

@[simp] def h94 : Hts := { mergeF := fun f => f == 95 }
theorem f94_ok (s : ByteArray) (hs : s.size ≤ 9223372036854775807) : FnR Try.prog 94 [.v (.str s)] (.v (.bool (nameOk s))) := by
  refine FnW.of_AW TryT_ok 0 (fn := Try.f94) (by kernel_rfl) rfl (by kernel_rfl) rfl rfl rfl ?_
  refine AW_of h94 TryT_ok (by kernel_rfl) ?_
  simp -dsimp
  refine AWh_loop (fun i : Nat => i ≤ s.size ∧ ∀ j : Nat, j < i → 97 ≤ bt s j ∧ bt s j ≤ 122) (fun i => mkE [(0, .c (.str s)), (3, .c (.int .i64 i))] []) (fun i => s.size - i) 0 (Wk_to [0, 3] [] rfl rfl (by simp)) (by simp) ?_
  rintro i ⟨hi, hall⟩
  refine AW_of h94 TryT_ok (by kernel_rfl) ?_
  rcases Nat.lt_or_ge i s.size with h1 | h1
  · simp -dsimp [h1]
    refine ⟨fun h2 => ?_, fun h2 h3 => ?_⟩
    · simp [nameOk, letters_false h1 (by omega)]
    · refine Back_of (i + 1) [0, 3] [] rfl rfl (by simp; rw [wrap64 (by omega) (by omega)]) ⟨by omega, fun j hj => ?_⟩ (by omega)
      by_cases e : j = i
      · subst e; exact ⟨h2, h3⟩
      · exact hall j (by omega)
  · simp -dsimp [Nat.not_lt.2 h1]
    refine ACallK_of (f95_ok _ _ _) ?_
    simp -dsimp
    have : letters s = true := by
      simp only [letters, decide_eq_true_eq]
      intro j hj
      exact hall j (by omega)
    simp [nameOk, this]

@[simp] def h103 : Hts := { mergeF := fun f => f == 104 }
theorem f103_ok (s : ByteArray) (hs : s.size ≤ 9223372036854775807) : FnR Try.prog 103 [.v (.str s)] (.v (.bool (nameOk s))) := by
  refine FnW.of_AW TryT_ok 0 (fn := Try.f103) (by kernel_rfl) rfl (by kernel_rfl) rfl rfl rfl ?_
  refine AW_of h103 TryT_ok (by kernel_rfl) ?_
  simp -dsimp
  refine AWh_loop (fun i : Nat => i ≤ s.size ∧ ∀ j : Nat, j < i → 97 ≤ bt s j ∧ bt s j ≤ 122) (fun i => mkE [(0, .c (.str s)), (3, .c (.int .i64 i))] []) (fun i => s.size - i) 0 (Wk_to [0, 3] [] rfl rfl (by simp)) (by simp) ?_
  rintro i ⟨hi, hall⟩
  refine AW_of h103 TryT_ok (by kernel_rfl) ?_
  rcases Nat.lt_or_ge i s.size with h1 | h1
  · simp -dsimp [h1]
    refine ACallK_of (f104_ok _ _ _) ?_
    have := bt_range s i
    rw [wrap64 (by omega) (by omega)]
    simp -dsimp [spIn]
    refine ⟨fun h2 => ?_, fun h2 h3 => ?_⟩
    · simp [nameOk, letters_false h1 (by omega)]
    · refine Back_of (i + 1) [0, 3] [] rfl rfl (by simp; rw [wrap64 (by omega) (by omega)]) ⟨by omega, fun j hj => ?_⟩ (by omega)
      by_cases e : j = i
      · subst e; exact ⟨h2, h3⟩
      · exact hall j (by omega)
  · simp -dsimp [Nat.not_lt.2 h1]
    refine ACallK_of (f104_ok _ _ _) ?_
    simp -dsimp
    have : letters s = true := by
      simp only [letters, decide_eq_true_eq]
      intro j hj
      exact hall j (by omega)
    simp [nameOk, this]
def valued (x : Int) : Bool := x == 1 || x == 4 || x == 6
def plain (k v : Int) (ob key : ByteArray) : Bool := spIn k 1 7 && nameOk ob && (if spIn k 2 5 then nameOk key else decide (key.toList = [])) && (v == 0 || valued k && spIn v 0 999999)
end Am
