/- Functions of the program keep their contracts. No condition. -/
import Derived.Test.YtkndgnnfgdfcbaaT
import Derived.Test.YtkndgnnfgdfcbaaAm23
import Derived.Test.YtkndgnnfgdfcbaaAm26
namespace Am
open Go Go.Proofs

def spIn (x lo hi : Int) : Bool := decide (lo ≤ x) && decide (x ≤ hi)
def letters (s : ByteArray) : Bool := decide (∀ j : Nat, j < s.size → 97 ≤ bt s j ∧ bt s j ≤ 122)
def nameOk (s : ByteArray) : Bool := letters s && spIn s.size 1 8
theorem bt_range (s : ByteArray) (i : Int) : 0 ≤ bt s i ∧ bt s i < 256 := by
  unfold bt
  have := (s.data.toList.getD i.toNat 0).toNat_lt
  omega
theorem letters_false {s : ByteArray} {i : Nat} (h1 : i < s.size) (h : ¬ (97 ≤ bt s i ∧ bt s i ≤ 122)) : letters s = false := by
  simp only [letters, decide_eq_false_iff_not]
  intro hh
  exact h (hh i h1)

@[simp] def h125 : Hts := {  }
theorem f125_ok (x lo hi : Int) : FnR Try.prog 125 [.v (.int .i64 x), .v (.int .i64 lo), .v (.int .i64 hi)] (.v (.bool (spIn x lo hi))) := by
  refine FnW.of_AW TryT_ok 0 (fn := Try.f125) (by kernel_rfl) rfl (by kernel_rfl) rfl rfl rfl ?_
  refine AW_of h125 TryT_ok (by kernel_rfl) ?_
  simp -dsimp
  rfl
@[simp] def h131 : Hts := {  }
theorem f131_ok (x lo hi : Int) : FnR Try.prog 131 [.v (.int .i64 x), .v (.int .i64 lo), .v (.int .i64 hi)] (.v (.bool (spIn x lo hi))) := by
  refine FnW.of_AW TryT_ok 0 (fn := Try.f131) (by kernel_rfl) rfl (by kernel_rfl) rfl rfl rfl ?_
  refine AW_of h131 TryT_ok (by kernel_rfl) ?_
  simp -dsimp
  rfl

@[simp] def h151 : Hts := { mergeF := fun f => f == 125 }
theorem f151_ok (s : ByteArray) (hs : s.size ≤ 9223372036854775807) : FnR Try.prog 151 [.v (.str s)] (.v (.bool (nameOk s))) := by
  refine FnW.of_AW TryT_ok 0 (fn := Try.f151) (by kernel_rfl) rfl (by kernel_rfl) rfl rfl rfl ?_
  refine AW_of h151 TryT_ok (by kernel_rfl) ?_
  simp -dsimp
  refine AWh_loop (fun i : Nat => i ≤ s.size ∧ ∀ j : Nat, j < i → 97 ≤ bt s j ∧ bt s j ≤ 122) (fun i => mkE [(0, .c (.str s)), (3, .c (.int .i64 i))] []) (fun i => s.size - i) 0 (Wk_to [0, 3] [] rfl rfl (by simp)) (by simp) ?_
  rintro i ⟨hi, hall⟩
  refine AW_of h151 TryT_ok (by kernel_rfl) ?_
  rcases Nat.lt_or_ge i s.size with h1 | h1
  · simp -dsimp [h1]
    refine ⟨fun h2 => ?_, fun h2 h3 => ?_⟩
    · simp [nameOk, letters_false h1 (by omega)]
    · refine Back_of (i + 1) [0, 3] [] rfl rfl (by simp; rw [wrap64 (by omega) (by omega)]) ⟨by omega, fun j hj => ?_⟩ (by omega)
      by_cases e : j = i
      · subst e; exact ⟨h2, h3⟩
      · exact hall j (by omega)
  · simp -dsimp [Nat.not_lt.2 h1]
    refine ACallK_of (f125_ok _ _ _) ?_
    simp -dsimp
    have : letters s = true := by
      simp only [letters, decide_eq_true_eq]
      intro j hj
      exact hall j (by omega)
    simp [nameOk, this]

@[simp] def h147 : Hts := { mergeF := fun f => f == 131 }
theorem f147_ok (s : ByteArray) (hs : s.size ≤ 9223372036854775807) : FnR Try.prog 147 [.v (.str s)] (.v (.bool (nameOk s))) := by
  refine FnW.of_AW TryT_ok 0 (fn := Try.f147) (by kernel_rfl) rfl (by kernel_rfl) rfl rfl rfl ?_
  refine AW_of h147 TryT_ok (by kernel_rfl) ?_
  simp -dsimp
  refine AWh_loop (fun i : Nat => i ≤ s.size ∧ ∀ j : Nat, j < i → 97 ≤ bt s j ∧ bt s j ≤ 122) (fun i => mkE [(0, .c (.str s)), (3, .c (.int .i64 i))] []) (fun i => s.size - i) 0 (Wk_to [0, 3] [] rfl rfl (by simp)) (by simp) ?_
  rintro i ⟨hi, hall⟩
  refine AW_of h147 TryT_ok (by kernel_rfl) ?_
  rcases Nat.lt_or_ge i s.size with h1 | h1
  · simp -dsimp [h1]
    refine ACallK_of (f131_ok _ _ _) ?_
    have := bt_range s i
    rw [wrap64 (by omega) (by omega)]
    simp -dsimp [spIn]
    refine ⟨fun h2 => ?_, fun h2 h3 => ?_⟩
    · simp [nameOk, letters_false h1 (by omega)]
    · refine Back_of (i + 1) [0, 3] [] rfl rfl (by simp; rw [wrap64 (by omega) (by omega)]) ⟨by omega, fun j hj => ?_⟩ (by omega)
      by_cases e : j = i
      · subst e; exact ⟨h2, h3⟩
      · exact hall j (by omega)
  · simp -dsimp [Nat.not_lt.2 h1]
    refine ACallK_of (f131_ok _ _ _) ?_
    simp -dsimp
    have : letters s = true := by
      simp only [letters, decide_eq_true_eq]
      intro j hj
      exact hall j (by omega)
    simp [nameOk, this]
def valued (x : Int) : Bool := x == 1 || x == 4 || x == 6
@[simp] def h153 : Hts := { mergeF := fun f => f == 125 }
theorem f153_ok (x : Int) : FnR Try.prog 153 [.v (.int .i64 x)] (.v (.bool (spIn x 2 5))) := by
  refine FnW.of_AW TryT_ok 0 (fn := Try.f153) (by kernel_rfl) rfl (by kernel_rfl) rfl rfl rfl ?_
  refine AW_of h153 TryT_ok (by kernel_rfl) ?_
  simp -dsimp
  refine ACallK_of (f125_ok _ _ _) ?_
  simp -dsimp
@[simp] def h154 : Hts := {  }
theorem f154_ok (x : Int) : FnR Try.prog 154 [.v (.int .i64 x)] (.v (.bool (valued x))) := by
  refine FnW.of_AW TryT_ok 0 (fn := Try.f154) (by kernel_rfl) rfl (by kernel_rfl) rfl rfl rfl ?_
  refine AW_of h154 TryT_ok (by kernel_rfl) ?_
  simp -dsimp
  rfl
@[simp] def h155 : Hts := { mergeF := fun f => f == 131 }
theorem f155_ok (x : Int) : FnR Try.prog 155 [.v (.int .i64 x)] (.v (.bool (spIn x 2 5))) := by
  refine FnW.of_AW TryT_ok 0 (fn := Try.f155) (by kernel_rfl) rfl (by kernel_rfl) rfl rfl rfl ?_
  refine AW_of h155 TryT_ok (by kernel_rfl) ?_
  simp -dsimp
  refine ACallK_of (f131_ok _ _ _) ?_
  simp -dsimp
@[simp] def h156 : Hts := {  }
theorem f156_ok (x : Int) : FnR Try.prog 156 [.v (.int .i64 x)] (.v (.bool (valued x))) := by
  refine FnW.of_AW TryT_ok 0 (fn := Try.f156) (by kernel_rfl) rfl (by kernel_rfl) rfl rfl rfl ?_
  refine AW_of h156 TryT_ok (by kernel_rfl) ?_
  simp -dsimp
  rfl
def plain (k v : Int) (ob key : ByteArray) : Bool := spIn k 1 7 && nameOk ob && (if spIn k 2 5 then nameOk key else decide (key.toList = [])) && (v == 0 || valued k && spIn v 0 999999)
@[simp] def h126 : Hts := { mergeF := fun f => f == 125 || f == 151 || f == 153 || f == 154 }
theorem f126_ok (k v : Int) (ob key : ByteArray) (h1 : ob.size ≤ 9223372036854775807) (h2 : key.size ≤ 9223372036854775807) :
    FnR Try.prog 126 [.v (.int .i64 k), .v (.str ob), .v (.str key), .v (.int .i64 v)] (.v (.bool (plain k v ob key))) := by
  refine FnW.of_AW TryT_ok 0 (fn := Try.f126) (by kernel_rfl) rfl (by kernel_rfl) rfl rfl rfl ?_
  refine AW_of h126 TryT_ok (by kernel_rfl) ?_
  simp -dsimp
  repeat' (first
    | (refine ACallK_of (f125_ok _ _ _) ?_; simp -dsimp)
    | (refine ACallK_of (f151_ok _ (by assumption)) ?_; simp -dsimp)
    | (refine ACallK_of (f153_ok _) ?_; simp -dsimp)
    | (refine ACallK_of (f154_ok _) ?_; simp -dsimp)
    | refine And.intro ?_ ?_
    | intro _)
  all_goals first | assumption | grind [plain] | trace_state
@[simp] def h132 : Hts := { mergeF := fun f => f == 131 || f == 147 || f == 155 || f == 156 }
theorem f132_ok (k v : Int) (ob key : ByteArray) (h1 : ob.size ≤ 9223372036854775807) (h2 : key.size ≤ 9223372036854775807) :
    FnR Try.prog 132 [.v (.int .i64 k), .v (.str ob), .v (.str key), .v (.int .i64 v)] (.v (.bool (plain k v ob key))) := by
  refine FnW.of_AW TryT_ok 0 (fn := Try.f132) (by kernel_rfl) rfl (by kernel_rfl) rfl rfl rfl ?_
  refine AW_of h132 TryT_ok (by kernel_rfl) ?_
  simp -dsimp
  repeat' (first
    | (refine ACallK_of (f131_ok _ _ _) ?_; simp -dsimp)
    | (refine ACallK_of (f147_ok _ (by assumption)) ?_; simp -dsimp)
    | (refine ACallK_of (f155_ok _) ?_; simp -dsimp)
    | (refine ACallK_of (f156_ok _) ?_; simp -dsimp)
    | refine And.intro ?_ ?_
    | intro _)
  all_goals first | assumption | grind [plain] | trace_state
end Am
