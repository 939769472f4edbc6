/- Functions of the program keep their contracts. No condition. -/
import Derived.Test.YtpgnllakcjajjaaGreatT
import Derived.Test.YtpgnllakcjajjaaGreatAm23
import Derived.Test.YtpgnllakcjajjaaGreatAm26
namespace Am
open Go Go.Proofs

def spIn (x lo hi : Int) : Bool := decide (lo ≤ x) && decide (x ≤ hi)
def letters (s : ByteArray) : Bool := decide (∀ j : Nat, j < s.size → 97 ≤ bt s j ∧ bt s j ≤ 122)
def nameOk (s : ByteArray) : Bool := letters s && spIn s.size 1 8
theorem bt_range (s : ByteArray) (i : Int) : 0 ≤ bt s i ∧ bt s i < 256 := by
  unfold bt
  have := (s.data.toList.getD i.toNat 0).toNat_lt
  omega
theorem letters_false {s : ByteArray} {i : Nat} (h1 : i < s.size) (h : ¬ (97 ≤ bt s i ∧ bt s i ≤ 122)) : letters s = false := by
  simp only [letters, decide_eq_false_iff_not]
  intro hh
  exact h (hh i h1)

@[simp] def h110 : Hts := {  }
theorem f110_ok (x lo hi : Int) : FnR Tryz.prog 110 [.v (.int .i64 x), .v (.int .i64 lo), .v (.int .i64 hi)] (.v (.bool (spIn x lo hi))) := by
  refine FnW.of_AW TryzT_ok 0 (fn := Tryz.f110) (by kernel_rfl) rfl (by kernel_rfl) rfl rfl rfl ?_
  refine AW_of h110 TryzT_ok (by kernel_rfl) ?_
  simp -dsimp
  rfl
@[simp] def h167 : Hts := {  }
theorem f167_ok (x lo hi : Int) : FnR Tryz.prog 167 [.v (.int .i64 x), .v (.int .i64 lo), .v (.int .i64 hi)] (.v (.bool (spIn x lo hi))) := by
  refine FnW.of_AW TryzT_ok 0 (fn := Tryz.f167) (by kernel_rfl) rfl (by kernel_rfl) rfl rfl rfl ?_
  refine AW_of h167 TryzT_ok (by kernel_rfl) ?_
  simp -dsimp
  rfl

@[simp] def h170 : Hts := { mergeF := fun f => f == 110 }
theorem f170_ok (s : ByteArray) (hs : s.size ≤ 9223372036854775807) : FnR Tryz.prog 170 [.v (.str s)] (.v (.bool (nameOk s))) := by
  refine FnW.of_AW TryzT_ok 0 (fn := Tryz.f170) (by kernel_rfl) rfl (by kernel_rfl) rfl rfl rfl ?_
  refine AW_of h170 TryzT_ok (by kernel_rfl) ?_
  simp -dsimp
  refine AWh_loop (fun i : Nat => i ≤ s.size ∧ ∀ j : Nat, j < i → 97 ≤ bt s j ∧ bt s j ≤ 122) (fun i => mkE [(0, .c (.str s)), (3, .c (.int .i64 i))] []) (fun i => s.size - i) 0 (Wk_to [0, 3] [] rfl rfl (by simp)) (by simp) ?_
  rintro i ⟨hi, hall⟩
  refine AW_of h170 TryzT_ok (by kernel_rfl) ?_
  rcases Nat.lt_or_ge i s.size with h1 | h1
  · simp -dsimp [h1]
    refine ⟨fun h2 => ?_, fun h2 h3 => ?_⟩
    · simp [nameOk, letters_false h1 (by omega)]
    · refine Back_of (i + 1) [0, 3] [] rfl rfl (by simp; rw [wrap64 (by omega) (by omega)]) ⟨by omega, fun j hj => ?_⟩ (by omega)
      by_cases e : j = i
      · subst e; exact ⟨h2, h3⟩
      · exact hall j (by omega)
  · simp -dsimp [Nat.not_lt.2 h1]
    refine ACallK_of (f110_ok _ _ _) ?_
    simp -dsimp
    have : letters s = true := by
      simp only [letters, decide_eq_true_eq]
      intro j hj
      exact hall j (by omega)
    simp [nameOk, this]

@[simp] def h171 : Hts := { mergeF := fun f => f == 167 }
theorem f171_ok (s : ByteArray) (hs : s.size ≤ 9223372036854775807) : FnR Tryz.prog 171 [.v (.str s)] (.v (.bool (nameOk s))) := by
  refine FnW.of_AW TryzT_ok 0 (fn := Tryz.f171) (by kernel_rfl) rfl (by kernel_rfl) rfl rfl rfl ?_
  refine AW_of h171 TryzT_ok (by kernel_rfl) ?_
  simp -dsimp
  refine AWh_loop (fun i : Nat => i ≤ s.size ∧ ∀ j : Nat, j < i → 97 ≤ bt s j ∧ bt s j ≤ 122) (fun i => mkE [(0, .c (.str s)), (3, .c (.int .i64 i))] []) (fun i => s.size - i) 0 (Wk_to [0, 3] [] rfl rfl (by simp)) (by simp) ?_
  rintro i ⟨hi, hall⟩
  refine AW_of h171 TryzT_ok (by kernel_rfl) ?_
  rcases Nat.lt_or_ge i s.size with h1 | h1
  · simp -dsimp [h1]
    refine ACallK_of (f167_ok _ _ _) ?_
    have := bt_range s i
    rw [wrap64 (by omega) (by omega)]
    simp -dsimp [spIn]
    refine ⟨fun h2 => ?_, fun h2 h3 => ?_⟩
    · simp [nameOk, letters_false h1 (by omega)]
    · refine Back_of (i + 1) [0, 3] [] rfl rfl (by simp; rw [wrap64 (by omega) (by omega)]) ⟨by omega, fun j hj => ?_⟩ (by omega)
      by_cases e : j = i
      · subst e; exact ⟨h2, h3⟩
      · exact hall j (by omega)
  · simp -dsimp [Nat.not_lt.2 h1]
    refine ACallK_of (f167_ok _ _ _) ?_
    simp -dsimp
    have : letters s = true := by
      simp only [letters, decide_eq_true_eq]
      intro j hj
      exact hall j (by omega)
    simp [nameOk, this]
def valued (x : Int) : Bool := x == 1 || x == 4 || x == 6
def plain (k v : Int) (ob key : ByteArray) : Bool := spIn k 1 7 && nameOk ob && (if spIn k 2 5 then nameOk key else decide (key.toList = [])) && (v == 0 || valued k && spIn v 0 999999)
end Am
