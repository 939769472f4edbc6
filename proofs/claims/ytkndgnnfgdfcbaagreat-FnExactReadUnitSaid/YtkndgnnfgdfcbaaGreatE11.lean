/- Texts put together. No condition. -/
import Derived.Test.YtkndgnnfgdfcbaaGreatT
import Derived.Test.YtkndgnnfgdfcbaaGreatD
import Derived.Test.YtkndgnnfgdfcbaaGreatE10
namespace Am
open Go Go.Proofs
open Cel (cells)
set_option maxRecDepth 100000
set_option linter.unusedSimpArgs false
set_option linter.unusedVariables false

/-- texts, one behind the other -/
def catN (f : Nat → ByteArray) : Nat → ByteArray
  | 0 => ⟨#[]⟩
  | n + 1 => catN f n ++ f n
theorem catN_size {f : Nat → ByteArray} {b : Nat} : ∀ {n : Nat}, (∀ i : Nat, i < n → (f i).size ≤ b) → (catN f n).size ≤ n * b
  | 0, _ => by simp [catN, ByteArray.size]
  | n + 1, h => by
    have h1 := catN_size (f := f) (b := b) (n := n) fun i hi => h i (by omega)
    have h2 := h n (by omega)
    rw [catN, ByteArray.size_append, Nat.succ_mul]
    omega
theorem nil_app (x : ByteArray) : (⟨#[]⟩ : ByteArray) ++ x = x := by
  apply ByteArray.ext
  simp [ByteArray.data_append]
theorem app_nil (x : ByteArray) : x ++ (⟨#[]⟩ : ByteArray) = x := by
  apply ByteArray.ext
  simp [ByteArray.data_append]
theorem app_assoc (x y z : ByteArray) : x ++ y ++ z = x ++ (y ++ z) := ByteArray.append_assoc
def numOk (n : Int) : Prop := 0 ≤ n ∧ n ≤ 1000000000
def varsF (xs : List Int) (i : Nat) : ByteArray := varS (nth xs i)
def varsS (xs : List Int) : ByteArray := catN (varsF xs) xs.length
def shortS (s : ByteArray) : ByteArray := varS s.size ++ s
def shortsF (xs : List ByteArray) (i : Nat) : ByteArray := shortS (nth xs i)
def shortsS (xs : List ByteArray) : ByteArray := catN (shortsF xs) xs.length
def dotS (d : GDot) : ByteArray := varS d.rep ++ varS d.seq
def flagS (b : Bool) : ByteArray := str [cond b 1 0]
theorem varsS_two (a b : Int) : varsS [a, b] = varS a ++ varS b := by
  show catN _ 2 = _
  rw [catN, catN, catN, nil_app]; rfl
theorem varsS_one (a : Int) : varsS [a] = varS a := by
  show catN _ 1 = _
  rw [catN, catN, nil_app]; rfl
theorem shortsS_one (a : ByteArray) : shortsS [a] = shortS a := by
  show catN _ 1 = _
  rw [catN, catN, nil_app]; rfl
theorem shortsS_two (a b : ByteArray) : shortsS [a, b] = shortS a ++ shortS b := by
  show catN _ 2 = _
  rw [catN, catN, catN, nil_app]; rfl

@[simp] def h105 : Hts := {  }
theorem f105_ok (xs : List Int) (ha : xs.length ≤ 1073741824) (hx : ∀ i : Nat, i < xs.length → numOk (nth xs i)) : FnR Tryz.prog 105 [.v (.im xs.length (flat xs))] (.v (.str (varsS xs))) := by
  refine FnW.of_AW TryzT_ok 0 (fn := Tryz.f105) (by kernel_rfl) rfl (by kernel_rfl) rfl rfl rfl ?_
  refine AW_of h105 TryzT_ok (by kernel_rfl) ?_
  simp -dsimp
  refine AWh_loop (fun i : Nat => i ≤ xs.length) (fun i => mkE [(3, .c (.str (catN (varsF xs) i))), (8, .c (.im xs.length (flat xs))), (9, .c (.int .i64 xs.length)), (10, .c (.int .i64 i))] []) (fun i => xs.length - i) 0 (Wk_to [3, 8, 9, 10] [] rfl rfl (by simp [catN])) (by simp) ?_
  rintro i hi
  have hs : (catN (varsF xs) i).size ≤ i * 5 := catN_size fun j hj => varS_five (hx j (by omega)).2
  refine AW_of h105 TryzT_ok (by kernel_rfl) ?_
  rcases Nat.lt_or_ge i xs.length with h1 | h1
  · have h5 := varS_five (hx i h1).2
    simp -dsimp [h1, ne_of_lt h1]
    refine ACallK_of (f113_ok _ (hx i h1).1 (hx i h1).2) ?_
    simp -dsimp
    refine ⟨by simp [capMax]; omega, ?_⟩
    exact Back_of (i + 1) [3, 8, 9, 10] [] rfl rfl (by simp [catN, varsF]; rw [wrap64 (by omega) (by omega)]) (by omega) (by omega)
  · obtain rfl : i = xs.length := by omega
    simp -dsimp
    rfl

@[simp] def h88 : Hts := {  }
theorem f88_ok (xs : List Int) (ha : xs.length ≤ 1073741824) (hx : ∀ i : Nat, i < xs.length → numOk (nth xs i)) : FnR Tryz.prog 88 [.v (.im xs.length (flat xs))] (.v (.str (varsS xs))) := by
  refine FnW.of_AW TryzT_ok 0 (fn := Tryz.f88) (by kernel_rfl) rfl (by kernel_rfl) rfl rfl rfl ?_
  refine AW_of h88 TryzT_ok (by kernel_rfl) ?_
  simp -dsimp
  refine AWh_loop (fun i : Nat => i ≤ xs.length) (fun i => mkE [(0, .c (.im xs.length (flat xs))), (3, .c (.str (catN (varsF xs) i))), (4, .c (.int .i64 i))] []) (fun i => xs.length - i) 0 (Wk_to [0, 3, 4] [] rfl rfl (by simp [catN])) (by simp) ?_
  rintro i hi
  have hs : (catN (varsF xs) i).size ≤ i * 5 := catN_size fun j hj => varS_five (hx j (by omega)).2
  refine AW_of h88 TryzT_ok (by kernel_rfl) ?_
  rcases Nat.lt_or_ge i xs.length with h1 | h1
  · have h5 := varS_five (hx i h1).2
    simp -dsimp [h1, ne_of_lt h1]
    refine ACallK_of (f91_ok _ (hx i h1).1 (hx i h1).2) ?_
    simp -dsimp
    refine ⟨by simp [capMax]; omega, ?_⟩
    exact Back_of (i + 1) [0, 3, 4] [] rfl rfl (by simp [catN, varsF]; rw [wrap64 (by omega) (by omega)]) (by omega) (by omega)
  · obtain rfl : i = xs.length := by omega
    simp -dsimp
    rfl

@[simp] def h92 : Hts := { dr := fun id => if id = 1 then [{}, {}, { cr := true }, { mb := [5] }, { mb := [5] }, { cr := true }, {}, {}] else [] }
theorem f92_ok (d : GDot) (h1 : numOk d.rep) (h2 : numOk d.seq) : FnR Tryz.prog 92 [.agg [.int .i64 d.rep, .int .i64 d.seq]] (.v (.str (dotS d))) := by
  have s1 := varS_five h1.2
  have s2 := varS_five h2.2
  refine FnW.of_AW TryzT_ok 0 (fn := Tryz.f92) (by kernel_rfl) rfl (by kernel_rfl) rfl rfl rfl ?_
  refine AW_of h92 TryzT_ok (by kernel_rfl) ?_
  simp -dsimp
  refine ACallK_of (f91_ok _ h1.1 h1.2) ?_
  simp -dsimp
  refine ACallK_of (f91_ok _ h2.1 h2.2) ?_
  simp -dsimp
  exact ⟨by simp [capMax]; omega, rfl⟩

@[simp] def h109 : Hts := {  }
theorem f109_ok (d : GDot) (h1 : numOk d.rep) (h2 : numOk d.seq) : FnR Tryz.prog 109 [.agg [.int .i64 d.rep, .int .i64 d.seq]] (.v (.str (dotS d))) := by
  refine FnW.of_AW TryzT_ok 0 (fn := Tryz.f109) (by kernel_rfl) rfl (by kernel_rfl) rfl rfl rfl ?_
  refine AW_of h109 TryzT_ok (by kernel_rfl) ?_
  simp -dsimp
  refine ACallK_of (f105_ok [d.rep, d.seq] (by simp) (by
    intro i hi
    match i, hi with
    | 0, _ => exact h1
    | 1, _ => exact h2)) ?_
  simp -dsimp
  exact varsS_two _ _

@[simp] def h40 : Hts := {  }
theorem f40_ok (s : ByteArray) (hs : s.size ≤ 20000) : FnR Tryz.prog 40 [.v (.str s)] (.tup [.v (.str (shortS s)), .v (.bool true)]) := by
  have h5 : (varS s.size).size ≤ 5 := varS_five (by omega)
  have hi : ¬ (20000 : Int) < s.size := by omega
  have hj : (s.size : Int) ≤ 20000 := by omega
  refine FnW.of_AW TryzT_ok 0 (fn := Tryz.f40) (by kernel_rfl) rfl (by kernel_rfl) rfl rfl rfl ?_
  refine AW_of h40 TryzT_ok (by kernel_rfl) ?_
  simp -dsimp [hi, hj]
  refine ACallK_of (f113_ok _ (by omega) (by omega)) ?_
  simp -dsimp
  exact ⟨by simp [capMax]; omega, rfl⟩

@[simp] def h32 : Hts := {  }
theorem f32_ok (s : ByteArray) (hs : s.size ≤ 1000000000) : FnR Tryz.prog 32 [.v (.str s)] (.v (.str (shortS s))) := by
  have h5 : (varS s.size).size ≤ 5 := varS_five (by omega)
  refine FnW.of_AW TryzT_ok 0 (fn := Tryz.f32) (by kernel_rfl) rfl (by kernel_rfl) rfl rfl rfl ?_
  refine AW_of h32 TryzT_ok (by kernel_rfl) ?_
  simp -dsimp
  refine ACallK_of (f91_ok _ (by omega) (by omega)) ?_
  simp -dsimp
  exact ⟨by simp [capMax]; omega, rfl⟩

@[simp] def h106 : Hts := {  }
theorem f106_ok (xs : List ByteArray) (ha : xs.length ≤ 1000000) (hx : ∀ i : Nat, i < xs.length → (nth xs i).size ≤ 20000) : FnR Tryz.prog 106 [.v (.im xs.length (flat xs))] (.v (.str (shortsS xs))) := by
  have hz : ∀ i : Nat, i < xs.length → (shortsF xs i).size ≤ 20005 := fun i hi => by
    have := hx i hi
    have h5 : (varS (nth xs i).size).size ≤ 5 := varS_five (by omega)
    rw [shortsF, shortS, ByteArray.size_append]; omega
  refine FnW.of_AW TryzT_ok 0 (fn := Tryz.f106) (by kernel_rfl) rfl (by kernel_rfl) rfl rfl rfl ?_
  refine AW_of h106 TryzT_ok (by kernel_rfl) ?_
  simp -dsimp
  refine AWh_loop (fun i : Nat => i ≤ xs.length) (fun i => mkE [(3, .c (.str (catN (shortsF xs) i))), (8, .c (.im xs.length (flat xs))), (9, .c (.int .i64 xs.length)), (10, .c (.int .i64 i))] []) (fun i => xs.length - i) 0 (Wk_to [3, 8, 9, 10] [] rfl rfl (by simp [catN])) (by simp) ?_
  rintro i hi
  have hs : (catN (shortsF xs) i).size ≤ i * 20005 := catN_size fun j hj => hz j (by omega)
  refine AW_of h106 TryzT_ok (by kernel_rfl) ?_
  rcases Nat.lt_or_ge i xs.length with h1 | h1
  · have h5 := hz i h1
    simp -dsimp [h1, ne_of_lt h1]
    refine ACallK_of (f40_ok _ (hx i h1)) ?_
    simp -dsimp
    refine ⟨by rw [shortsF] at h5; simp [capMax]; omega, ?_⟩
    exact Back_of (i + 1) [3, 8, 9, 10] [] rfl rfl (by simp [catN, shortsF]; rw [wrap64 (by omega) (by omega)]) (by omega) (by omega)
  · obtain rfl : i = xs.length := by omega
    simp -dsimp
    rfl

@[simp] def h155 : Hts := {  }
theorem f155_ok (b : Bool) : FnR Tryz.prog 155 [.v (.bool b)] (.v (.str (flagS b))) := by
  refine FnW.of_AW TryzT_ok 0 (fn := Tryz.f155) (by kernel_rfl) rfl (by kernel_rfl) rfl rfl rfl ?_
  refine AW_of h155 TryzT_ok (by kernel_rfl) ?_
  cases b <;> simp -dsimp <;> rfl
@[simp] def h172 : Hts := {  }
theorem f172_ok (b : Bool) : FnR Tryz.prog 172 [.v (.bool b)] (.v (.str (flagS b))) := by
  refine FnW.of_AW TryzT_ok 0 (fn := Tryz.f172) (by kernel_rfl) rfl (by kernel_rfl) rfl rfl rfl ?_
  refine AW_of h172 TryzT_ok (by kernel_rfl) ?_
  cases b <;> simp -dsimp <;> rfl
end Am
