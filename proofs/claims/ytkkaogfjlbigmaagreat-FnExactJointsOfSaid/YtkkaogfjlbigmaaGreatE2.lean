/- Functions of the program keep their contracts. No condition. -/
import Derived.Test.YtkkaogfjlbigmaaGreatT
import Derived.Test.YtkkaogfjlbigmaaGreatAm23
import Derived.Test.YtkkaogfjlbigmaaGreatAm26
namespace Am
open Go Go.Proofs

def spIn (x lo hi : Int) : Bool := decide (lo ≤ x) && decide (x ≤ hi)
def letters (s : ByteArray) : Bool := decide (∀ j : Nat, j < s.size → 97 ≤ bt s j ∧ bt s j ≤ 122)
def nameOk (s : ByteArray) : Bool := letters s && spIn s.size 1 8
theorem bt_range (s : ByteArray) (i : Int) : 0 ≤ bt s i ∧ bt s i < 256 := by
  unfold bt
  have := (s.data.toList.getD i.toNat 0).toNat_lt
  omega
theorem letters_false {s : ByteArray} {i : Nat} (h1 : i < s.size) (h : ¬ (97 ≤ bt s i ∧ bt s i ≤ 122)) : letters s = false := by
  simp only [letters, decide_eq_false_iff_not]
  intro hh
  exact h (hh i h1)

@[simp] def h34 : Hts := {  }
theorem f34_ok (x lo hi : Int) : FnR Tryz.prog 34 [.v (.int .i64 x), .v (.int .i64 lo), .v (.int .i64 hi)] (.v (.bool (spIn x lo hi))) := by
  refine FnW.of_AW TryzT_ok 0 (fn := Tryz.f34) (by kernel_rfl) rfl (by kernel_rfl) rfl rfl rfl ?_; refine AW_of h34 TryzT_ok (by kernel_rfl) ?_
  simp -dsimp
  rfl
@[simp] def h44 : Hts := {  }
theorem f44_ok (x lo hi : Int) : FnR Tryz.prog 44 [.v (.int .i64 x), .v (.int .i64 lo), .v (.int .i64 hi)] (.v (.bool (spIn x lo hi))) := by
  refine FnW.of_AW TryzT_ok 0 (fn := Tryz.f44) (by kernel_rfl) rfl (by kernel_rfl) rfl rfl rfl ?_; refine AW_of h44 TryzT_ok (by kernel_rfl) ?_
  simp -dsimp
  rfl

@[simp] def h101 : Hts := { mergeF := fun f => f == 34 }
theorem f101_ok (s : ByteArray) (hs : s.size ≤ 9223372036854775807) : FnR Tryz.prog 101 [.v (.str s)] (.v (.bool (nameOk s))) := by
  refine FnW.of_AW TryzT_ok 0 (fn := Tryz.f101) (by kernel_rfl) rfl (by kernel_rfl) rfl rfl rfl ?_; refine AW_of h101 TryzT_ok (by kernel_rfl) ?_
  simp -dsimp
  refine AWh_loop (fun i : Nat => i ≤ s.size ∧ ∀ j : Nat, j < i → 97 ≤ bt s j ∧ bt s j ≤ 122) (fun i => mkE [(0, .c (.str s)), (3, .c (.int .i64 i))] []) (fun i => s.size - i) 0 (Wk_to [0, 3] [] rfl rfl (by simp)) (by simp) ?_
  rintro i ⟨hi, hall⟩
  refine AW_of h101 TryzT_ok (by kernel_rfl) ?_
  rcases Nat.lt_or_ge i s.size with h1 | h1
  · simp -dsimp [h1]
    refine ⟨fun h2 => ?_, fun h2 h3 => ?_⟩
    · simp [nameOk, letters_false h1 (by omega)]
    · refine Back_of (i + 1) [0, 3] [] rfl rfl (by simp; rw [wrap64 (by omega) (by omega)]) ⟨by omega, fun j hj => ?_⟩ (by omega)
      by_cases e : j = i
      · subst e; exact ⟨h2, h3⟩
      · exact hall j (by omega)
  · simp -dsimp [Nat.not_lt.2 h1]
    refine ACallK_of (f34_ok _ _ _) ?_
    simp -dsimp
    have : letters s = true := by
      simp only [letters, decide_eq_true_eq]
      intro j hj
      exact hall j (by omega)
    simp [nameOk, this]

@[simp] def h107 : Hts := { mergeF := fun f => f == 44 }
theorem f107_ok (s : ByteArray) (hs : s.size ≤ 9223372036854775807) : FnR Tryz.prog 107 [.v (.str s)] (.v (.bool (nameOk s))) := by
  refine FnW.of_AW TryzT_ok 0 (fn := Tryz.f107) (by kernel_rfl) rfl (by kernel_rfl) rfl rfl rfl ?_; refine AW_of h107 TryzT_ok (by kernel_rfl) ?_
  simp -dsimp
  refine AWh_loop (fun i : Nat => i ≤ s.size ∧ ∀ j : Nat, j < i → 97 ≤ bt s j ∧ bt s j ≤ 122) (fun i => mkE [(0, .c (.str s)), (3, .c (.int .i64 i))] []) (fun i => s.size - i) 0 (Wk_to [0, 3] [] rfl rfl (by simp)) (by simp) ?_
  rintro i ⟨hi, hall⟩
  refine AW_of h107 TryzT_ok (by kernel_rfl) ?_
  rcases Nat.lt_or_ge i s.size with h1 | h1
  · simp -dsimp [h1]
    refine ACallK_of (f44_ok _ _ _) ?_
    have := bt_range s i
    rw [wrap64 (by omega) (by omega)]
    simp -dsimp [spIn]
    refine ⟨fun h2 => ?_, fun h2 h3 => ?_⟩
    · simp [nameOk, letters_false h1 (by omega)]
    · refine Back_of (i + 1) [0, 3] [] rfl rfl (by simp; rw [wrap64 (by omega) (by omega)]) ⟨by omega, fun j hj => ?_⟩ (by omega)
      by_cases e : j = i
      · subst e; exact ⟨h2, h3⟩
      · exact hall j (by omega)
  · simp -dsimp [Nat.not_lt.2 h1]
    refine ACallK_of (f44_ok _ _ _) ?_
    simp -dsimp
    have : letters s = true := by
      simp only [letters, decide_eq_true_eq]
      intro j hj
      exact hall j (by omega)
    simp [nameOk, this]
def valued (x : Int) : Bool := x == 1 || x == 4 || x == 6
@[simp] def h103 : Hts := { mergeF := fun f => f == 34 }
theorem f103_ok (x : Int) : FnR Tryz.prog 103 [.v (.int .i64 x)] (.v (.bool (spIn x 2 5))) := by
  refine FnW.of_AW TryzT_ok 0 (fn := Tryz.f103) (by kernel_rfl) rfl (by kernel_rfl) rfl rfl rfl ?_; refine AW_of h103 TryzT_ok (by kernel_rfl) ?_
  simp -dsimp
  refine ACallK_of (f34_ok _ _ _) ?_
  simp -dsimp
@[simp] def h104 : Hts := {  }
theorem f104_ok (x : Int) : FnR Tryz.prog 104 [.v (.int .i64 x)] (.v (.bool (valued x))) := by
  refine FnW.of_AW TryzT_ok 0 (fn := Tryz.f104) (by kernel_rfl) rfl (by kernel_rfl) rfl rfl rfl ?_; refine AW_of h104 TryzT_ok (by kernel_rfl) ?_
  simp -dsimp
  rfl
@[simp] def h110 : Hts := { mergeF := fun f => f == 44 }
theorem f110_ok (x : Int) : FnR Tryz.prog 110 [.v (.int .i64 x)] (.v (.bool (spIn x 2 5))) := by
  refine FnW.of_AW TryzT_ok 0 (fn := Tryz.f110) (by kernel_rfl) rfl (by kernel_rfl) rfl rfl rfl ?_; refine AW_of h110 TryzT_ok (by kernel_rfl) ?_
  simp -dsimp
  refine ACallK_of (f44_ok _ _ _) ?_
  simp -dsimp
@[simp] def h111 : Hts := {  }
theorem f111_ok (x : Int) : FnR Tryz.prog 111 [.v (.int .i64 x)] (.v (.bool (valued x))) := by
  refine FnW.of_AW TryzT_ok 0 (fn := Tryz.f111) (by kernel_rfl) rfl (by kernel_rfl) rfl rfl rfl ?_; refine AW_of h111 TryzT_ok (by kernel_rfl) ?_
  simp -dsimp
  rfl
def plain (k v : Int) (ob key : ByteArray) : Bool := spIn k 1 7 && nameOk ob && (if spIn k 2 5 then nameOk key else decide (key.toList = [])) && (v == 0 || valued k && spIn v 0 999999)
@[simp] def h75 : Hts := { mergeF := fun f => f == 34 || f == 101 || f == 103 || f == 104 }
theorem f75_ok (k v : Int) (ob key : ByteArray) (h1 : ob.size ≤ 9223372036854775807) (h2 : key.size ≤ 9223372036854775807) :
    FnR Tryz.prog 75 [.v (.int .i64 k), .v (.str ob), .v (.str key), .v (.int .i64 v)] (.v (.bool (plain k v ob key))) := by
  refine FnW.of_AW TryzT_ok 0 (fn := Tryz.f75) (by kernel_rfl) rfl (by kernel_rfl) rfl rfl rfl ?_; refine AW_of h75 TryzT_ok (by kernel_rfl) ?_
  simp -dsimp
  repeat' (first
    | (refine ACallK_of (f34_ok _ _ _) ?_; simp -dsimp)
    | (refine ACallK_of (f101_ok _ (by assumption)) ?_; simp -dsimp)
    | (refine ACallK_of (f103_ok _) ?_; simp -dsimp)
    | (refine ACallK_of (f104_ok _) ?_; simp -dsimp)
    | refine And.intro ?_ ?_
    | intro _)
  all_goals first | assumption | grind [plain] | trace_state
@[simp] def h85 : Hts := { mergeF := fun f => f == 44 || f == 107 || f == 110 || f == 111 }
theorem f85_ok (k v : Int) (ob key : ByteArray) (h1 : ob.size ≤ 9223372036854775807) (h2 : key.size ≤ 9223372036854775807) :
    FnR Tryz.prog 85 [.v (.int .i64 k), .v (.str ob), .v (.str key), .v (.int .i64 v)] (.v (.bool (plain k v ob key))) := by
  refine FnW.of_AW TryzT_ok 0 (fn := Tryz.f85) (by kernel_rfl) rfl (by kernel_rfl) rfl rfl rfl ?_; refine AW_of h85 TryzT_ok (by kernel_rfl) ?_
  simp -dsimp
  repeat' (first
    | (refine ACallK_of (f44_ok _ _ _) ?_; simp -dsimp)
    | (refine ACallK_of (f107_ok _ (by assumption)) ?_; simp -dsimp)
    | (refine ACallK_of (f110_ok _) ?_; simp -dsimp)
    | (refine ACallK_of (f111_ok _) ?_; simp -dsimp)
    | refine And.intro ?_ ?_
    | intro _)
  all_goals first | assumption | grind [plain] | trace_state
end Am
