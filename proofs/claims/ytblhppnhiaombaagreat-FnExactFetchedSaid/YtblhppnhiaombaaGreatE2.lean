/- Functions of the program keep their contracts. No condition. -/
import Derived.Test.YtblhppnhiaombaaGreatT
import Derived.Test.YtblhppnhiaombaaGreatAm23
import Derived.Test.YtblhppnhiaombaaGreatAm26
namespace Am
open Go Go.Proofs

def spIn (x lo hi : Int) : Bool := decide (lo ≤ x) && decide (x ≤ hi)
def letters (s : ByteArray) : Bool := decide (∀ j : Nat, j < s.size → 97 ≤ bt s j ∧ bt s j ≤ 122)
def nameOk (s : ByteArray) : Bool := letters s && spIn s.size 1 8
theorem bt_range (s : ByteArray) (i : Int) : 0 ≤ bt s i ∧ bt s i < 256 := by
  unfold bt
  have := (s.data.toList.getD i.toNat 0).toNat_lt
  omega
theorem letters_false {s : ByteArray} {i : Nat} (h1 : i < s.size) (h : ¬ (97 ≤ bt s i ∧ bt s i ≤ 122)) : letters s = false := by
  simp only [letters, decide_eq_false_iff_not]
  intro hh
  exact h (hh i h1)

@[simp] def h86 : Hts := {  }
theorem f86_ok (x lo hi : Int) : FnR Tryz.prog 86 [.v (.int .i64 x), .v (.int .i64 lo), .v (.int .i64 hi)] (.v (.bool (spIn x lo hi))) := by
  refine FnW.of_AW TryzT_ok 0 (fn := Tryz.f86) (by kernel_rfl) rfl (by kernel_rfl) rfl rfl rfl ?_
  refine AW_of h86 TryzT_ok (by kernel_rfl) ?_
  simp -dsimp
  rfl
@[simp] def h92 : Hts := {  }
theorem f92_ok (x lo hi : Int) : FnR Tryz.prog 92 [.v (.int .i64 x), .v (.int .i64 lo), .v (.int .i64 hi)] (.v (.bool (spIn x lo hi))) := by
  refine FnW.of_AW TryzT_ok 0 (fn := Tryz.f92) (by kernel_rfl) rfl (by kernel_rfl) rfl rfl rfl ?_
  refine AW_of h92 TryzT_ok (by kernel_rfl) ?_
  simp -dsimp
  rfl

@[simp] def h262 : Hts := { mergeF := fun f => f == 86 }
theorem f262_ok (s : ByteArray) (hs : s.size ≤ 9223372036854775807) : FnR Tryz.prog 262 [.v (.str s)] (.v (.bool (nameOk s))) := by
  refine FnW.of_AW TryzT_ok 0 (fn := Tryz.f262) (by kernel_rfl) rfl (by kernel_rfl) rfl rfl rfl ?_
  refine AW_of h262 TryzT_ok (by kernel_rfl) ?_
  simp -dsimp
  refine AWh_loop (fun i : Nat => i ≤ s.size ∧ ∀ j : Nat, j < i → 97 ≤ bt s j ∧ bt s j ≤ 122) (fun i => mkE [(0, .c (.str s)), (3, .c (.int .i64 i))] []) (fun i => s.size - i) 0 (Wk_to [0, 3] [] rfl rfl (by simp)) (by simp) ?_
  rintro i ⟨hi, hall⟩
  refine AW_of h262 TryzT_ok (by kernel_rfl) ?_
  rcases Nat.lt_or_ge i s.size with h1 | h1
  · simp -dsimp [h1]
    refine ⟨fun h2 => ?_, fun h2 h3 => ?_⟩
    · simp [nameOk, letters_false h1 (by omega)]
    · refine Back_of (i + 1) [0, 3] [] rfl rfl (by simp; rw [wrap64 (by omega) (by omega)]) ⟨by omega, fun j hj => ?_⟩ (by omega)
      by_cases e : j = i
      · subst e; exact ⟨h2, h3⟩
      · exact hall j (by omega)
  · simp -dsimp [Nat.not_lt.2 h1]
    refine ACallK_of (f86_ok _ _ _) ?_
    simp -dsimp
    have : letters s = true := by
      simp only [letters, decide_eq_true_eq]
      intro j hj
      exact hall j (by omega)
    simp [nameOk, this]

@[simp] def h265 : Hts := { mergeF := fun f => f == 92 }
theorem f265_ok (s : ByteArray) (hs : s.size ≤ 9223372036854775807) : FnR Tryz.prog 265 [.v (.str s)] (.v (.bool (nameOk s))) := by
  refine FnW.of_AW TryzT_ok 0 (fn := Tryz.f265) (by kernel_rfl) rfl (by kernel_rfl) rfl rfl rfl ?_
  refine AW_of h265 TryzT_ok (by kernel_rfl) ?_
  simp -dsimp
  refine AWh_loop (fun i : Nat => i ≤ s.size ∧ ∀ j : Nat, j < i → 97 ≤ bt s j ∧ bt s j ≤ 122) (fun i => mkE [(0, .c (.str s)), (3, .c (.int .i64 i))] []) (fun i => s.size - i) 0 (Wk_to [0, 3] [] rfl rfl (by simp)) (by simp) ?_
  rintro i ⟨hi, hall⟩
  refine AW_of h265 TryzT_ok (by kernel_rfl) ?_
  rcases Nat.lt_or_ge i s.size with h1 | h1
  · simp -dsimp [h1]
    refine ACallK_of (f92_ok _ _ _) ?_
    have := bt_range s i
    rw [wrap64 (by omega) (by omega)]
    simp -dsimp [spIn]
    refine ⟨fun h2 => ?_, fun h2 h3 => ?_⟩
    · simp [nameOk, letters_false h1 (by omega)]
    · refine Back_of (i + 1) [0, 3] [] rfl rfl (by simp; rw [wrap64 (by omega) (by omega)]) ⟨by omega, fun j hj => ?_⟩ (by omega)
      by_cases e : j = i
      · subst e; exact ⟨h2, h3⟩
      · exact hall j (by omega)
  · simp -dsimp [Nat.not_lt.2 h1]
    refine ACallK_of (f92_ok _ _ _) ?_
    simp -dsimp
    have : letters s = true := by
      simp only [letters, decide_eq_true_eq]
      intro j hj
      exact hall j (by omega)
    simp [nameOk, this]
def valued (x : Int) : Bool := x == 1 || x == 4 || x == 6
@[simp] def h263 : Hts := { mergeF := fun f => f == 86 }
theorem f263_ok (x : Int) : FnR Tryz.prog 263 [.v (.int .i64 x)] (.v (.bool (spIn x 2 5))) := by
  refine FnW.of_AW TryzT_ok 0 (fn := Tryz.f263) (by kernel_rfl) rfl (by kernel_rfl) rfl rfl rfl ?_
  refine AW_of h263 TryzT_ok (by kernel_rfl) ?_
  simp -dsimp
  refine ACallK_of (f86_ok _ _ _) ?_
  simp -dsimp
@[simp] def h264 : Hts := {  }
theorem f264_ok (x : Int) : FnR Tryz.prog 264 [.v (.int .i64 x)] (.v (.bool (valued x))) := by
  refine FnW.of_AW TryzT_ok 0 (fn := Tryz.f264) (by kernel_rfl) rfl (by kernel_rfl) rfl rfl rfl ?_
  refine AW_of h264 TryzT_ok (by kernel_rfl) ?_
  simp -dsimp
  rfl
@[simp] def h272 : Hts := { mergeF := fun f => f == 92 }
theorem f272_ok (x : Int) : FnR Tryz.prog 272 [.v (.int .i64 x)] (.v (.bool (spIn x 2 5))) := by
  refine FnW.of_AW TryzT_ok 0 (fn := Tryz.f272) (by kernel_rfl) rfl (by kernel_rfl) rfl rfl rfl ?_
  refine AW_of h272 TryzT_ok (by kernel_rfl) ?_
  simp -dsimp
  refine ACallK_of (f92_ok _ _ _) ?_
  simp -dsimp
@[simp] def h273 : Hts := {  }
theorem f273_ok (x : Int) : FnR Tryz.prog 273 [.v (.int .i64 x)] (.v (.bool (valued x))) := by
  refine FnW.of_AW TryzT_ok 0 (fn := Tryz.f273) (by kernel_rfl) rfl (by kernel_rfl) rfl rfl rfl ?_
  refine AW_of h273 TryzT_ok (by kernel_rfl) ?_
  simp -dsimp
  rfl
def plain (k v : Int) (ob key : ByteArray) : Bool := spIn k 1 7 && nameOk ob && (if spIn k 2 5 then nameOk key else decide (key.toList = [])) && (v == 0 || valued k && spIn v 0 999999)
@[simp] def h224 : Hts := { mergeF := fun f => f == 86 || f == 262 || f == 263 || f == 264 }
theorem f224_ok (k v : Int) (ob key : ByteArray) (h1 : ob.size ≤ 9223372036854775807) (h2 : key.size ≤ 9223372036854775807) :
    FnR Tryz.prog 224 [.v (.int .i64 k), .v (.str ob), .v (.str key), .v (.int .i64 v)] (.v (.bool (plain k v ob key))) := by
  refine FnW.of_AW TryzT_ok 0 (fn := Tryz.f224) (by kernel_rfl) rfl (by kernel_rfl) rfl rfl rfl ?_
  refine AW_of h224 TryzT_ok (by kernel_rfl) ?_
  simp -dsimp
  repeat' (first
    | (refine ACallK_of (f86_ok _ _ _) ?_; simp -dsimp)
    | (refine ACallK_of (f262_ok _ (by assumption)) ?_; simp -dsimp)
    | (refine ACallK_of (f263_ok _) ?_; simp -dsimp)
    | (refine ACallK_of (f264_ok _) ?_; simp -dsimp)
    | refine And.intro ?_ ?_
    | intro _)
  all_goals first | assumption | grind [plain] | trace_state
@[simp] def h242 : Hts := { mergeF := fun f => f == 92 || f == 265 || f == 272 || f == 273 }
theorem f242_ok (k v : Int) (ob key : ByteArray) (h1 : ob.size ≤ 9223372036854775807) (h2 : key.size ≤ 9223372036854775807) :
    FnR Tryz.prog 242 [.v (.int .i64 k), .v (.str ob), .v (.str key), .v (.int .i64 v)] (.v (.bool (plain k v ob key))) := by
  refine FnW.of_AW TryzT_ok 0 (fn := Tryz.f242) (by kernel_rfl) rfl (by kernel_rfl) rfl rfl rfl ?_
  refine AW_of h242 TryzT_ok (by kernel_rfl) ?_
  simp -dsimp
  repeat' (first
    | (refine ACallK_of (f92_ok _ _ _) ?_; simp -dsimp)
    | (refine ACallK_of (f265_ok _ (by assumption)) ?_; simp -dsimp)
    | (refine ACallK_of (f272_ok _) ?_; simp -dsimp)
    | (refine ACallK_of (f273_ok _) ?_; simp -dsimp)
    | refine And.intro ?_ ?_
    | intro _)
  all_goals first | assumption | grind [plain] | trace_state
end Am
