/- Functions of the program keep their contracts. No condition. -/
import Derived.Test.YtkndgnnfgdfcbaaGreatT
import Derived.Test.YtkndgnnfgdfcbaaGreatAm23
import Derived.Test.YtkndgnnfgdfcbaaGreatAm26
namespace Am
open Go Go.Proofs

def spIn (x lo hi : Int) : Bool := decide (lo ≤ x) && decide (x ≤ hi)
def letters (s : ByteArray) : Bool := decide (∀ j : Nat, j < s.size → 97 ≤ bt s j ∧ bt s j ≤ 122)
def nameOk (s : ByteArray) : Bool := letters s && spIn s.size 1 8
theorem bt_range (s : ByteArray) (i : Int) : 0 ≤ bt s i ∧ bt s i < 256 := by
  unfold bt
  have := (s.data.toList.getD i.toNat 0).toNat_lt
  omega
theorem letters_false {s : ByteArray} {i : Nat} (h1 : i < s.size) (h : ¬ (97 ≤ bt s i ∧ bt s i ≤ 122)) : letters s = false := by
  simp only [letters, decide_eq_false_iff_not]
  intro hh
  exact h (hh i h1)

@[simp] def h119 : Hts := {  }
theorem f119_ok (x lo hi : Int) : FnR Tryz.prog 119 [.v (.int .i64 x), .v (.int .i64 lo), .v (.int .i64 hi)] (.v (.bool (spIn x lo hi))) := by
  refine FnW.of_AW TryzT_ok 0 (fn := Tryz.f119) (by kernel_rfl) rfl (by kernel_rfl) rfl rfl rfl ?_
  refine AW_of h119 TryzT_ok (by kernel_rfl) ?_
  simp -dsimp
  rfl
@[simp] def h124 : Hts := {  }
theorem f124_ok (x lo hi : Int) : FnR Tryz.prog 124 [.v (.int .i64 x), .v (.int .i64 lo), .v (.int .i64 hi)] (.v (.bool (spIn x lo hi))) := by
  refine FnW.of_AW TryzT_ok 0 (fn := Tryz.f124) (by kernel_rfl) rfl (by kernel_rfl) rfl rfl rfl ?_
  refine AW_of h124 TryzT_ok (by kernel_rfl) ?_
  simp -dsimp
  rfl

@[simp] def h181 : Hts := { mergeF := fun f => f == 119 }
theorem f181_ok (s : ByteArray) (hs : s.size ≤ 9223372036854775807) : FnR Tryz.prog 181 [.v (.str s)] (.v (.bool (nameOk s))) := by
  refine FnW.of_AW TryzT_ok 0 (fn := Tryz.f181) (by kernel_rfl) rfl (by kernel_rfl) rfl rfl rfl ?_
  refine AW_of h181 TryzT_ok (by kernel_rfl) ?_
  simp -dsimp
  refine AWh_loop (fun i : Nat => i ≤ s.size ∧ ∀ j : Nat, j < i → 97 ≤ bt s j ∧ bt s j ≤ 122) (fun i => mkE [(0, .c (.str s)), (3, .c (.int .i64 i))] []) (fun i => s.size - i) 0 (Wk_to [0, 3] [] rfl rfl (by simp)) (by simp) ?_
  rintro i ⟨hi, hall⟩
  refine AW_of h181 TryzT_ok (by kernel_rfl) ?_
  rcases Nat.lt_or_ge i s.size with h1 | h1
  · simp -dsimp [h1]
    refine ⟨fun h2 => ?_, fun h2 h3 => ?_⟩
    · simp [nameOk, letters_false h1 (by omega)]
    · refine Back_of (i + 1) [0, 3] [] rfl rfl (by simp; rw [wrap64 (by omega) (by omega)]) ⟨by omega, fun j hj => ?_⟩ (by omega)
      by_cases e : j = i
      · subst e; exact ⟨h2, h3⟩
      · exact hall j (by omega)
  · simp -dsimp [Nat.not_lt.2 h1]
    refine ACallK_of (f119_ok _ _ _) ?_
    simp -dsimp
    have : letters s = true := by
      simp only [letters, decide_eq_true_eq]
      intro j hj
      exact hall j (by omega)
    simp [nameOk, this]

@[simp] def h185 : Hts := { mergeF := fun f => f == 124 }
theorem f185_ok (s : ByteArray) (hs : s.size ≤ 9223372036854775807) : FnR Tryz.prog 185 [.v (.str s)] (.v (.bool (nameOk s))) := by
  refine FnW.of_AW TryzT_ok 0 (fn := Tryz.f185) (by kernel_rfl) rfl (by kernel_rfl) rfl rfl rfl ?_
  refine AW_of h185 TryzT_ok (by kernel_rfl) ?_
  simp -dsimp
  refine AWh_loop (fun i : Nat => i ≤ s.size ∧ ∀ j : Nat, j < i → 97 ≤ bt s j ∧ bt s j ≤ 122) (fun i => mkE [(0, .c (.str s)), (3, .c (.int .i64 i))] []) (fun i => s.size - i) 0 (Wk_to [0, 3] [] rfl rfl (by simp)) (by simp) ?_
  rintro i ⟨hi, hall⟩
  refine AW_of h185 TryzT_ok (by kernel_rfl) ?_
  rcases Nat.lt_or_ge i s.size with h1 | h1
  · simp -dsimp [h1]
    refine ACallK_of (f124_ok _ _ _) ?_
    have := bt_range s i
    rw [wrap64 (by omega) (by omega)]
    simp -dsimp [spIn]
    refine ⟨fun h2 => ?_, fun h2 h3 => ?_⟩
    · simp [nameOk, letters_false h1 (by omega)]
    · refine Back_of (i + 1) [0, 3] [] rfl rfl (by simp; rw [wrap64 (by omega) (by omega)]) ⟨by omega, fun j hj => ?_⟩ (by omega)
      by_cases e : j = i
      · subst e; exact ⟨h2, h3⟩
      · exact hall j (by omega)
  · simp -dsimp [Nat.not_lt.2 h1]
    refine ACallK_of (f124_ok _ _ _) ?_
    simp -dsimp
    have : letters s = true := by
      simp only [letters, decide_eq_true_eq]
      intro j hj
      exact hall j (by omega)
    simp [nameOk, this]
def valued (x : Int) : Bool := x == 1 || x == 4 || x == 6
@[simp] def h183 : Hts := { mergeF := fun f => f == 119 }
theorem f183_ok (x : Int) : FnR Tryz.prog 183 [.v (.int .i64 x)] (.v (.bool (spIn x 2 5))) := by
  refine FnW.of_AW TryzT_ok 0 (fn := Tryz.f183) (by kernel_rfl) rfl (by kernel_rfl) rfl rfl rfl ?_
  refine AW_of h183 TryzT_ok (by kernel_rfl) ?_
  simp -dsimp
  refine ACallK_of (f119_ok _ _ _) ?_
  simp -dsimp
@[simp] def h184 : Hts := {  }
theorem f184_ok (x : Int) : FnR Tryz.prog 184 [.v (.int .i64 x)] (.v (.bool (valued x))) := by
  refine FnW.of_AW TryzT_ok 0 (fn := Tryz.f184) (by kernel_rfl) rfl (by kernel_rfl) rfl rfl rfl ?_
  refine AW_of h184 TryzT_ok (by kernel_rfl) ?_
  simp -dsimp
  rfl
@[simp] def h189 : Hts := { mergeF := fun f => f == 124 }
theorem f189_ok (x : Int) : FnR Tryz.prog 189 [.v (.int .i64 x)] (.v (.bool (spIn x 2 5))) := by
  refine FnW.of_AW TryzT_ok 0 (fn := Tryz.f189) (by kernel_rfl) rfl (by kernel_rfl) rfl rfl rfl ?_
  refine AW_of h189 TryzT_ok (by kernel_rfl) ?_
  simp -dsimp
  refine ACallK_of (f124_ok _ _ _) ?_
  simp -dsimp
@[simp] def h190 : Hts := {  }
theorem f190_ok (x : Int) : FnR Tryz.prog 190 [.v (.int .i64 x)] (.v (.bool (valued x))) := by
  refine FnW.of_AW TryzT_ok 0 (fn := Tryz.f190) (by kernel_rfl) rfl (by kernel_rfl) rfl rfl rfl ?_
  refine AW_of h190 TryzT_ok (by kernel_rfl) ?_
  simp -dsimp
  rfl
def plain (k v : Int) (ob key : ByteArray) : Bool := spIn k 1 7 && nameOk ob && (if spIn k 2 5 then nameOk key else decide (key.toList = [])) && (v == 0 || valued k && spIn v 0 999999)
@[simp] def h154 : Hts := { mergeF := fun f => f == 119 || f == 181 || f == 183 || f == 184 }
theorem f154_ok (k v : Int) (ob key : ByteArray) (h1 : ob.size ≤ 9223372036854775807) (h2 : key.size ≤ 9223372036854775807) :
    FnR Tryz.prog 154 [.v (.int .i64 k), .v (.str ob), .v (.str key), .v (.int .i64 v)] (.v (.bool (plain k v ob key))) := by
  refine FnW.of_AW TryzT_ok 0 (fn := Tryz.f154) (by kernel_rfl) rfl (by kernel_rfl) rfl rfl rfl ?_
  refine AW_of h154 TryzT_ok (by kernel_rfl) ?_
  simp -dsimp
  repeat' (first
    | (refine ACallK_of (f119_ok _ _ _) ?_; simp -dsimp)
    | (refine ACallK_of (f181_ok _ (by assumption)) ?_; simp -dsimp)
    | (refine ACallK_of (f183_ok _) ?_; simp -dsimp)
    | (refine ACallK_of (f184_ok _) ?_; simp -dsimp)
    | refine And.intro ?_ ?_
    | intro _)
  all_goals first | assumption | grind [plain] | trace_state
@[simp] def h166 : Hts := { mergeF := fun f => f == 124 || f == 185 || f == 189 || f == 190 }
theorem f166_ok (k v : Int) (ob key : ByteArray) (h1 : ob.size ≤ 9223372036854775807) (h2 : key.size ≤ 9223372036854775807) :
    FnR Tryz.prog 166 [.v (.int .i64 k), .v (.str ob), .v (.str key), .v (.int .i64 v)] (.v (.bool (plain k v ob key))) := by
  refine FnW.of_AW TryzT_ok 0 (fn := Tryz.f166) (by kernel_rfl) rfl (by kernel_rfl) rfl rfl rfl ?_
  refine AW_of h166 TryzT_ok (by kernel_rfl) ?_
  simp -dsimp
  repeat' (first
    | (refine ACallK_of (f124_ok _ _ _) ?_; simp -dsimp)
    | (refine ACallK_of (f185_ok _ (by assumption)) ?_; simp -dsimp)
    | (refine ACallK_of (f189_ok _) ?_; simp -dsimp)
    | (refine ACallK_of (f190_ok _) ?_; simp -dsimp)
    | refine And.intro ?_ ?_
    | intro _)
  all_goals first | assumption | grind [plain] | trace_state
end Am
