/- Texts put together. No condition. -/
import Derived.Test.YtlkkgdealgceeaaT
import Derived.Test.YtlkkgdealgceeaaD
import Derived.Test.YtlkkgdealgceeaaE10
namespace Am
open Go Go.Proofs
open Cel (cells)
set_option maxRecDepth 100000
set_option linter.unusedSimpArgs false
set_option linter.unusedVariables false

/-- texts, one behind the other -/
def catN (f : Nat → ByteArray) : Nat → ByteArray
  | 0 => ⟨#[]⟩
  | n + 1 => catN f n ++ f n
theorem catN_size {f : Nat → ByteArray} {b : Nat} : ∀ {n : Nat}, (∀ i : Nat, i < n → (f i).size ≤ b) → (catN f n).size ≤ n * b
  | 0, _ => by simp [catN, ByteArray.size]
  | n + 1, h => by
    have h1 := catN_size (f := f) (b := b) (n := n) fun i hi => h i (by omega)
    have h2 := h n (by omega)
    rw [catN, ByteArray.size_append, Nat.succ_mul]
    omega
theorem nil_app (x : ByteArray) : (⟨#[]⟩ : ByteArray) ++ x = x := by
  apply ByteArray.ext
  simp [ByteArray.data_append]
theorem app_nil (x : ByteArray) : x ++ (⟨#[]⟩ : ByteArray) = x := by
  apply ByteArray.ext
  simp [ByteArray.data_append]
theorem app_assoc (x y z : ByteArray) : x ++ y ++ z = x ++ (y ++ z) := ByteArray.append_assoc
def numOk (n : Int) : Prop := 0 ≤ n ∧ n ≤ 1000000000
def varsF (xs : List Int) (i : Nat) : ByteArray := varS (nth xs i)
def varsS (xs : List Int) : ByteArray := catN (varsF xs) xs.length
def shortS (s : ByteArray) : ByteArray := varS s.size ++ s
def shortsF (xs : List ByteArray) (i : Nat) : ByteArray := shortS (nth xs i)
def shortsS (xs : List ByteArray) : ByteArray := catN (shortsF xs) xs.length
def dotS (d : GDot) : ByteArray := varS d.rep ++ varS d.seq
def flagS (b : Bool) : ByteArray := str [cond b 1 0]
theorem varsS_two (a b : Int) : varsS [a, b] = varS a ++ varS b := by
  show catN _ 2 = _
  rw [catN, catN, catN, nil_app]; rfl
theorem varsS_one (a : Int) : varsS [a] = varS a := by
  show catN _ 1 = _
  rw [catN, catN, nil_app]; rfl
theorem shortsS_one (a : ByteArray) : shortsS [a] = shortS a := by
  show catN _ 1 = _
  rw [catN, catN, nil_app]; rfl
theorem shortsS_two (a b : ByteArray) : shortsS [a, b] = shortS a ++ shortS b := by
  show catN _ 2 = _
  rw [catN, catN, catN, nil_app]; rfl

@[simp] def h76 : Hts := {  }
theorem f76_ok (xs : List Int) (ha : xs.length ≤ 1073741824) (hx : ∀ i : Nat, i < xs.length → numOk (nth xs i)) : FnR Try.prog 76 [.v (.im xs.length (flat xs))] (.v (.str (varsS xs))) := by
  refine FnW.of_AW TryT_ok 0 (fn := Try.f76) (by kernel_rfl) rfl (by kernel_rfl) rfl rfl rfl ?_
  refine AW_of h76 TryT_ok (by kernel_rfl) ?_
  simp -dsimp
  refine AWh_loop (fun i : Nat => i ≤ xs.length) (fun i => mkE [(3, .c (.str (catN (varsF xs) i))), (8, .c (.im xs.length (flat xs))), (9, .c (.int .i64 xs.length)), (10, .c (.int .i64 i))] []) (fun i => xs.length - i) 0 (Wk_to [3, 8, 9, 10] [] rfl rfl (by simp [catN])) (by simp) ?_
  rintro i hi
  have hs : (catN (varsF xs) i).size ≤ i * 5 := catN_size fun j hj => varS_five (hx j (by omega)).2
  refine AW_of h76 TryT_ok (by kernel_rfl) ?_
  rcases Nat.lt_or_ge i xs.length with h1 | h1
  · have h5 := varS_five (hx i h1).2
    simp -dsimp [h1, ne_of_lt h1]
    refine ACallK_of (f129_ok _ (hx i h1).1 (hx i h1).2) ?_
    simp -dsimp
    refine ⟨by simp [capMax]; omega, ?_⟩
    exact Back_of (i + 1) [3, 8, 9, 10] [] rfl rfl (by simp [catN, varsF]; rw [wrap64 (by omega) (by omega)]) (by omega) (by omega)
  · obtain rfl : i = xs.length := by omega
    simp -dsimp
    rfl

@[simp] def h70 : Hts := {  }
theorem f70_ok (xs : List Int) (ha : xs.length ≤ 1073741824) (hx : ∀ i : Nat, i < xs.length → numOk (nth xs i)) : FnR Try.prog 70 [.v (.im xs.length (flat xs))] (.v (.str (varsS xs))) := by
  refine FnW.of_AW TryT_ok 0 (fn := Try.f70) (by kernel_rfl) rfl (by kernel_rfl) rfl rfl rfl ?_
  refine AW_of h70 TryT_ok (by kernel_rfl) ?_
  simp -dsimp
  refine AWh_loop (fun i : Nat => i ≤ xs.length) (fun i => mkE [(0, .c (.im xs.length (flat xs))), (3, .c (.str (catN (varsF xs) i))), (4, .c (.int .i64 i))] []) (fun i => xs.length - i) 0 (Wk_to [0, 3, 4] [] rfl rfl (by simp [catN])) (by simp) ?_
  rintro i hi
  have hs : (catN (varsF xs) i).size ≤ i * 5 := catN_size fun j hj => varS_five (hx j (by omega)).2
  refine AW_of h70 TryT_ok (by kernel_rfl) ?_
  rcases Nat.lt_or_ge i xs.length with h1 | h1
  · have h5 := varS_five (hx i h1).2
    simp -dsimp [h1, ne_of_lt h1]
    refine ACallK_of (f80_ok _ (hx i h1).1 (hx i h1).2) ?_
    simp -dsimp
    refine ⟨by simp [capMax]; omega, ?_⟩
    exact Back_of (i + 1) [0, 3, 4] [] rfl rfl (by simp [catN, varsF]; rw [wrap64 (by omega) (by omega)]) (by omega) (by omega)
  · obtain rfl : i = xs.length := by omega
    simp -dsimp
    rfl

@[simp] def h81 : Hts := { dr := fun id => if id = 1 then [{}, {}, { cr := true }, { mb := [5] }, { mb := [5] }, { cr := true }, {}, {}] else [] }
theorem f81_ok (d : GDot) (h1 : numOk d.rep) (h2 : numOk d.seq) : FnR Try.prog 81 [.agg [.int .i64 d.rep, .int .i64 d.seq]] (.v (.str (dotS d))) := by
  have s1 := varS_five h1.2
  have s2 := varS_five h2.2
  refine FnW.of_AW TryT_ok 0 (fn := Try.f81) (by kernel_rfl) rfl (by kernel_rfl) rfl rfl rfl ?_
  refine AW_of h81 TryT_ok (by kernel_rfl) ?_
  simp -dsimp
  refine ACallK_of (f80_ok _ h1.1 h1.2) ?_
  simp -dsimp
  refine ACallK_of (f80_ok _ h2.1 h2.2) ?_
  simp -dsimp
  exact ⟨by simp [capMax]; omega, rfl⟩

@[simp] def h82 : Hts := {  }
theorem f82_ok (d : GDot) (h1 : numOk d.rep) (h2 : numOk d.seq) : FnR Try.prog 82 [.agg [.int .i64 d.rep, .int .i64 d.seq]] (.v (.str (dotS d))) := by
  refine FnW.of_AW TryT_ok 0 (fn := Try.f82) (by kernel_rfl) rfl (by kernel_rfl) rfl rfl rfl ?_
  refine AW_of h82 TryT_ok (by kernel_rfl) ?_
  simp -dsimp
  refine ACallK_of (f76_ok [d.rep, d.seq] (by simp) (by
    intro i hi
    match i, hi with
    | 0, _ => exact h1
    | 1, _ => exact h2)) ?_
  simp -dsimp
  exact varsS_two _ _

@[simp] def h140 : Hts := {  }
theorem f140_ok (s : ByteArray) (hs : s.size ≤ 20000) : FnR Try.prog 140 [.v (.str s)] (.tup [.v (.str (shortS s)), .v (.bool true)]) := by
  have h5 : (varS s.size).size ≤ 5 := varS_five (by omega)
  have hi : ¬ (20000 : Int) < s.size := by omega
  have hj : (s.size : Int) ≤ 20000 := by omega
  refine FnW.of_AW TryT_ok 0 (fn := Try.f140) (by kernel_rfl) rfl (by kernel_rfl) rfl rfl rfl ?_
  refine AW_of h140 TryT_ok (by kernel_rfl) ?_
  simp -dsimp [hi, hj]
  refine ACallK_of (f129_ok _ (by omega) (by omega)) ?_
  simp -dsimp
  exact ⟨by simp [capMax]; omega, rfl⟩

@[simp] def h124 : Hts := {  }
theorem f124_ok (s : ByteArray) (hs : s.size ≤ 20000) : FnR Try.prog 124 [.v (.str s)] (.v (.str (shortS s))) := by
  have h5 : (varS s.size).size ≤ 5 := varS_five (by omega)
  refine FnW.of_AW TryT_ok 0 (fn := Try.f124) (by kernel_rfl) rfl (by kernel_rfl) rfl rfl rfl ?_
  refine AW_of h124 TryT_ok (by kernel_rfl) ?_
  simp -dsimp
  refine ACallK_of (f80_ok _ (by omega) (by omega)) ?_
  simp -dsimp
  exact ⟨by simp [capMax]; omega, rfl⟩

@[simp] def h130 : Hts := {  }
theorem f130_ok (xs : List ByteArray) (ha : xs.length ≤ 1000000) (hx : ∀ i : Nat, i < xs.length → (nth xs i).size ≤ 20000) : FnR Try.prog 130 [.v (.im xs.length (flat xs))] (.v (.str (shortsS xs))) := by
  have hz : ∀ i : Nat, i < xs.length → (shortsF xs i).size ≤ 20005 := fun i hi => by
    have := hx i hi
    have h5 : (varS (nth xs i).size).size ≤ 5 := varS_five (by omega)
    rw [shortsF, shortS, ByteArray.size_append]; omega
  refine FnW.of_AW TryT_ok 0 (fn := Try.f130) (by kernel_rfl) rfl (by kernel_rfl) rfl rfl rfl ?_
  refine AW_of h130 TryT_ok (by kernel_rfl) ?_
  simp -dsimp
  refine AWh_loop (fun i : Nat => i ≤ xs.length) (fun i => mkE [(3, .c (.str (catN (shortsF xs) i))), (8, .c (.im xs.length (flat xs))), (9, .c (.int .i64 xs.length)), (10, .c (.int .i64 i))] []) (fun i => xs.length - i) 0 (Wk_to [3, 8, 9, 10] [] rfl rfl (by simp [catN])) (by simp) ?_
  rintro i hi
  have hs : (catN (shortsF xs) i).size ≤ i * 20005 := catN_size fun j hj => hz j (by omega)
  refine AW_of h130 TryT_ok (by kernel_rfl) ?_
  rcases Nat.lt_or_ge i xs.length with h1 | h1
  · have h5 := hz i h1
    simp -dsimp [h1, ne_of_lt h1]
    refine ACallK_of (f140_ok _ (hx i h1)) ?_
    simp -dsimp
    refine ⟨by rw [shortsF] at h5; simp [capMax]; omega, ?_⟩
    exact Back_of (i + 1) [3, 8, 9, 10] [] rfl rfl (by simp [catN, shortsF]; rw [wrap64 (by omega) (by omega)]) (by omega) (by omega)
  · obtain rfl : i = xs.length := by omega
    simp -dsimp
    rfl

@[simp] def h125 : Hts := {  }
theorem f125_ok (b : Bool) : FnR Try.prog 125 [.v (.bool b)] (.v (.str (flagS b))) := by
  refine FnW.of_AW TryT_ok 0 (fn := Try.f125) (by kernel_rfl) rfl (by kernel_rfl) rfl rfl rfl ?_
  refine AW_of h125 TryT_ok (by kernel_rfl) ?_
  cases b <;> simp -dsimp <;> rfl
@[simp] def h131 : Hts := {  }
theorem f131_ok (b : Bool) : FnR Try.prog 131 [.v (.bool b)] (.v (.str (flagS b))) := by
  refine FnW.of_AW TryT_ok 0 (fn := Try.f131) (by kernel_rfl) rfl (by kernel_rfl) rfl rfl rfl ?_
  refine AW_of h131 TryT_ok (by kernel_rfl) ?_
  cases b <;> simp -dsimp <;> rfl
end Am
