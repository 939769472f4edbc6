/- Texts of states and of what changed. No condition. -/
import Derived.Test.YtkndgnnfgdfcbaaGreatT
import Derived.Test.YtkndgnnfgdfcbaaGreatD
import Derived.Test.YtkndgnnfgdfcbaaGreatE9
import Derived.Test.YtkndgnnfgdfcbaaGreatE13
import Derived.Test.YtkndgnnfgdfcbaaGreatAm31
namespace Am
open Go Go.Proofs
open Cel (cells)
set_option maxRecDepth 100000
set_option linter.unusedSimpArgs false
set_option linter.unusedVariables false

def sealOk (t : ByteArray) : Bool := decide (t.size ≤ 20000)
def sealS (t : ByteArray) : ByteArray := if t.size ≤ 20000 then t ++ fourS (sumOf t) else ⟨#[]⟩
theorem fourS_size (s : Int) : (fourS s).size = 4 := by rw [fourS, str_size]; rfl

@[simp] def h31 : Hts := {  }
theorem f31_ok (t : ByteArray) (ht : t.size ≤ 1073741824) : FnR Tryz.prog 31 [.v (.str t)] (.tup [.v (.str (sealS t)), .v (.bool (sealOk t))]) := by
  have hr := sumOf_range t
  have hf := fourS_size (sumOf t)
  refine FnW.of_AW TryzT_ok 0 (fn := Tryz.f31) (by kernel_rfl) rfl (by kernel_rfl) rfl rfl rfl ?_
  refine AW_of h31 TryzT_ok (by kernel_rfl) ?_
  by_cases h : t.size ≤ 20000
  · have hi : ¬ (20000 : Int) < t.size := by omega
    have hj : (t.size : Int) ≤ 20000 := by omega
    simp -dsimp [hi, hj]
    refine ACallK_of (f95_ok _ ht) ?_
    simp -dsimp
    refine ACallK_of (f94_ok _ hr.1 hr.2) ?_
    simp -dsimp
    exact ⟨by simp [capMax]; omega, by simp [sealS, h], by simp [sealOk, h]⟩
  · have hi : (20000 : Int) < t.size := by omega
    have hj : ¬ (t.size : Int) ≤ 20000 := by omega
    simp -dsimp [hi, hj]
    simp [sealS, sealOk, h]

@[simp] def h38 : Hts := {  }
theorem f38_ok (t : ByteArray) (ht : t.size ≤ 1073741824) : FnR Tryz.prog 38 [.v (.str t)] (.tup [.v (.str (sealS t)), .v (.bool (sealOk t))]) := by
  have hr := sumOf_range t
  have hf := fourS_size (sumOf t)
  refine FnW.of_AW TryzT_ok 0 (fn := Tryz.f38) (by kernel_rfl) rfl (by kernel_rfl) rfl rfl rfl ?_
  refine AW_of h38 TryzT_ok (by kernel_rfl) ?_
  by_cases h : t.size ≤ 20000
  · have hi : ¬ (20000 : Int) < t.size := by omega
    have hj : (t.size : Int) ≤ 20000 := by omega
    simp -dsimp [hi, hj]
    refine ACallK_of (f108_ok _ ht) ?_
    simp -dsimp
    rw [wrap64 (by omega) (by omega)]
    refine ACallK_of (f107_ok _ hr.1 hr.2) ?_
    simp -dsimp
    exact ⟨by simp [capMax]; omega, by simp [sealS, h], by simp [sealOk, h]⟩
  · have hi : (20000 : Int) < t.size := by omega
    have hj : ¬ (t.size : Int) ≤ 20000 := by omega
    simp -dsimp [hi, hj]
    simp [sealS, sealOk, h]

/-- numbers and names as they stand in texts -/
def talR (t : GTally) : Prop := t.obj.size ≤ 8 ∧ numOk t.rep ∧ numOk t.sum
def dotR (d : GDot) : Prop := numOk d.rep ∧ numOk d.seq
def liveR (x : GLive) : Prop := x.obj.size ≤ 8 ∧ x.key.size ≤ 8 ∧ numOk x.val ∧ dotR x.dot
def cellR (x : GCell) : Prop := x.obj.size ≤ 8 ∧ dotR x.dot ∧ numOk x.time ∧ dotR x.ref ∧ numOk x.val
theorem shortS_size {s : ByteArray} (h : s.size ≤ 8) : (shortS s).size ≤ 13 := by
  have h5 : (varS s.size).size ≤ 5 := varS_five (by omega)
  rw [shortS, ByteArray.size_append]; omega
theorem varS_size {n : Int} (h : numOk n) : (varS n).size ≤ 5 := varS_five h.2
theorem dotS_size {d : GDot} (h : dotR d) : (dotS d).size ≤ 10 := by
  have := varS_size h.1
  have := varS_size h.2
  rw [dotS, ByteArray.size_append]; omega
theorem flagS_size (b : Bool) : (flagS b).size = 1 := by rw [flagS, str_size]; rfl
def talS (t : GTally) : ByteArray := shortS t.obj ++ (varS t.rep ++ varS t.sum)
def liveS (x : GLive) : ByteArray := flagS x.map ++ ((shortS x.obj ++ shortS x.key) ++ (varS x.val ++ dotS x.dot))
def cellS (x : GCell) : ByteArray := shortS x.obj ++ (dotS x.dot ++ (varS x.time ++ (dotS x.ref ++ (varS x.val ++ flagS x.gone))))
def talF (l : List GTally) (i : Nat) : ByteArray := talS (nth l i)
def liveF (l : List GLive) (i : Nat) : ByteArray := liveS (nth l i)
def cellF (l : List GCell) (i : Nat) : ByteArray := cellS (nth l i)
def dotF (l : List GDot) (i : Nat) : ByteArray := dotS (nth l i)
theorem talS_size {t : GTally} (h : talR t) : (talS t).size ≤ 100 := by
  have := shortS_size h.1
  have := varS_size h.2.1
  have := varS_size h.2.2
  simp only [talS, ByteArray.size_append]; omega
theorem liveS_size {t : GLive} (h : liveR t) : (liveS t).size ≤ 100 := by
  obtain ⟨h1, h2, h3, h4⟩ := h
  have := shortS_size h1
  have := shortS_size h2
  have := varS_size h3
  have := dotS_size h4
  have := flagS_size t.map
  simp only [liveS, ByteArray.size_append]; omega
theorem cellS_size {t : GCell} (h : cellR t) : (cellS t).size ≤ 100 := by
  obtain ⟨h1, h2, h3, h4, h5⟩ := h
  have := shortS_size h1
  have := dotS_size h2
  have := varS_size h3
  have := dotS_size h4
  have := varS_size h5
  have := flagS_size t.gone
  simp only [cellS, ByteArray.size_append]; omega
/-- a list's text: how many, and each -/
def talsS (l : List GTally) : ByteArray := varS l.length ++ catN (talF l) l.length
def livesS (l : List GLive) : ByteArray := varS l.length ++ catN (liveF l) l.length
def cellsS (l : List GCell) : ByteArray := varS l.length ++ catN (cellF l) l.length
def dotsS (l : List GDot) : ByteArray := varS l.length ++ catN (dotF l) l.length

@[simp] def h89 : Hts := { dr := fun id => if id = 5 then [{ mb := [20, 27, 34] }, {}, {}, {}, {}, {}, { cr := true }, { mb := [27, 34] }, { mb := [20] }, { mb := [20] }, { mb := [20] }, { mb := [20] }, { mb := [20] }, { cr := true }, { mb := [34] }, { mb := [20, 27] }, { mb := [20, 27] }, { mb := [20, 27] }, { mb := [20, 27] }, { mb := [20, 27] }, { cr := true }, {}, {}] else [] }
set_option maxHeartbeats 1000000 in
theorem f89_ok (l : List GTally) (ha : l.length ≤ 120) (hx : ∀ i : Nat, i < l.length → talR (nth l i)) : FnR Tryz.prog 89 [.v (.im l.length (flat l))] (.v (.str (talsS l))) := by
  have hv : (varS l.length).size ≤ 5 := varS_five (by omega)
  refine FnW.of_AW TryzT_ok 0 (fn := Tryz.f89) (by kernel_rfl) rfl (by kernel_rfl) rfl rfl rfl ?_
  refine AW_of h89 TryzT_ok (by kernel_rfl) ?_
  simp -dsimp
  refine ACallK_of (f91_ok _ (by omega) (by omega)) ?_
  simp -dsimp
  refine AWh_loop (fun i : Nat => i ≤ l.length) (fun i => mkE [(0, .c (.im l.length (flat l))), (3, .c (.str (varS l.length ++ catN (talF l) i))), (4, .c (.int .i64 i))] []) (fun i => l.length - i) 0 (Wk_to [0, 3, 4] [] rfl rfl (by simp [catN, app_nil])) (by simp) ?_
  rintro i hi
  have hs : (catN (talF l) i).size ≤ i * 100 := catN_size fun j hj => talS_size (hx j (by omega))
  refine AW_of h89 TryzT_ok (by kernel_rfl) ?_
  rcases Nat.lt_or_ge i l.length with h1 | h1
  · have hr := hx i h1
    have q1 := shortS_size hr.1; have q2 := varS_size hr.2.1; have q3 := varS_size hr.2.2
    simp -dsimp [h1, ne_of_lt h1]
    repeat (first | refine ⟨by omega, ?_⟩ | refine ⟨by simp [capMax, ByteArray.size_append]; omega, ?_⟩)
    refine ACallK_of (f32_ok _ (Nat.le_trans hr.1 (by decide))) ?_
    simp -dsimp [h1, ne_of_lt h1, shortsS_one, shortsS_two, varsS_one, varsS_two]
    repeat (first | refine ⟨by omega, ?_⟩ | refine ⟨by simp [capMax, ByteArray.size_append]; omega, ?_⟩)
    refine ACallK_of (f91_ok _ hr.2.1.1 hr.2.1.2) ?_
    simp -dsimp [h1, ne_of_lt h1, shortsS_one, shortsS_two, varsS_one, varsS_two]
    repeat (first | refine ⟨by omega, ?_⟩ | refine ⟨by simp [capMax, ByteArray.size_append]; omega, ?_⟩)
    refine ACallK_of (f91_ok _ hr.2.2.1 hr.2.2.2) ?_
    simp -dsimp [h1, ne_of_lt h1, shortsS_one, shortsS_two, varsS_one, varsS_two]
    repeat (first | refine ⟨by omega, ?_⟩ | refine ⟨by simp [capMax, ByteArray.size_append]; omega, ?_⟩)
    exact Back_of (i + 1) [0, 3, 4] [] rfl rfl (by simp [catN, talF, talS, app_assoc]; rw [wrap64 (by omega) (by omega)]) (by omega) (by omega)
  · obtain rfl : i = l.length := by omega
    simp -dsimp
    rfl

@[simp] def h110 : Hts := { dr := fun id => if id = 5 then [{ mb := [19, 20, 25, 26] }, { mb := [25] }, { mb := [25] }, { cr := true, mb := [25] }, { cr := true, mb := [25] }, { mb := [19, 20] }, { mb := [19, 20] }, { mb := [19, 20] }, { mb := [19, 20] }, { cr := true, mb := [19, 20] }, { cr := true }, {}, {}, {}] else [] }
set_option maxHeartbeats 1000000 in
theorem f110_ok (l : List GTally) (ha : l.length ≤ 120) (hx : ∀ i : Nat, i < l.length → talR (nth l i)) : FnR Tryz.prog 110 [.v (.im l.length (flat l))] (.v (.str (talsS l))) := by
  have hv : (varS l.length).size ≤ 5 := varS_five (by omega)
  refine FnW.of_AW TryzT_ok 0 (fn := Tryz.f110) (by kernel_rfl) rfl (by kernel_rfl) rfl rfl rfl ?_
  refine AW_of h110 TryzT_ok (by kernel_rfl) ?_
  simp -dsimp
  refine ACallK_of (f105_ok [(l.length : Int)] (by simp) (by intro i hi; match i, hi with | 0, _ => exact ⟨show (0 : Int) ≤ l.length by omega, show (l.length : Int) ≤ 1000000000 by omega⟩)) ?_
  simp -dsimp [varsS_one]
  refine AWh_loop (fun i : Nat => i ≤ l.length) (fun i => mkE [(3, .c (.str (varS l.length ++ catN (talF l) i))), (10, .c (.im l.length (flat l))), (11, .c (.int .i64 l.length)), (12, .c (.int .i64 i))] []) (fun i => l.length - i) 0 (Wk_to [3, 10, 11, 12] [] rfl rfl (by simp [catN, app_nil])) (by simp) ?_
  rintro i hi
  have hs : (catN (talF l) i).size ≤ i * 100 := catN_size fun j hj => talS_size (hx j (by omega))
  refine AW_of h110 TryzT_ok (by kernel_rfl) ?_
  rcases Nat.lt_or_ge i l.length with h1 | h1
  · have hr := hx i h1
    have q1 := shortS_size hr.1; have q2 := varS_size hr.2.1; have q3 := varS_size hr.2.2
    simp -dsimp [h1, ne_of_lt h1]
    repeat (first | refine ⟨by omega, ?_⟩ | refine ⟨by simp [capMax, ByteArray.size_append]; omega, ?_⟩)
    refine ACallK_of (f106_ok [(nth l i).obj] (by simp) (by intro i hi; match i, hi with | 0, _ => exact Nat.le_trans hr.1 (by decide))) ?_
    simp -dsimp [h1, ne_of_lt h1, shortsS_one, shortsS_two, varsS_one, varsS_two]
    repeat (first | refine ⟨by omega, ?_⟩ | refine ⟨by simp [capMax, ByteArray.size_append]; omega, ?_⟩)
    refine ACallK_of (f105_ok [(nth l i).rep, (nth l i).sum] (by simp) (by intro i hi; match i, hi with | 0, _ => exact hr.2.1 | 1, _ => exact hr.2.2)) ?_
    simp -dsimp [h1, ne_of_lt h1, shortsS_one, shortsS_two, varsS_one, varsS_two]
    repeat (first | refine ⟨by omega, ?_⟩ | refine ⟨by simp [capMax, ByteArray.size_append]; omega, ?_⟩)
    exact Back_of (i + 1) [3, 10, 11, 12] [] rfl rfl (by simp [catN, talF, talS, app_assoc]; rw [wrap64 (by omega) (by omega)]) (by omega) (by omega)
  · obtain rfl : i = l.length := by omega
    simp -dsimp
    rfl

@[simp] def h90 : Hts := { dr := fun id => if id = 6 then [{ mb := [22, 26, 30, 34, 38] }, {}, {}, { cr := true }, { mb := [26, 30, 34, 38] }, { mb := [22] }, { mb := [22] }, { cr := true }, { mb := [30, 34, 38] }, { mb := [22, 26] }, { mb := [22, 26] }, { cr := true }, { mb := [34, 38] }, { mb := [22, 26, 30] }, { mb := [22, 26, 30] }, { cr := true }, { mb := [38] }, { mb := [22, 26, 30, 34] }, { mb := [22, 26, 30, 34] }, { cr := true }, {}, {}] else [] }
set_option maxHeartbeats 1000000 in
theorem f90_ok (l : List GLive) (ha : l.length ≤ 120) (hx : ∀ i : Nat, i < l.length → liveR (nth l i)) : FnR Tryz.prog 90 [.v (.im l.length (flat l))] (.v (.str (livesS l))) := by
  have hv : (varS l.length).size ≤ 5 := varS_five (by omega)
  refine FnW.of_AW TryzT_ok 0 (fn := Tryz.f90) (by kernel_rfl) rfl (by kernel_rfl) rfl rfl rfl ?_
  refine AW_of h90 TryzT_ok (by kernel_rfl) ?_
  simp -dsimp
  refine ACallK_of (f91_ok _ (by omega) (by omega)) ?_
  simp -dsimp
  refine AWh_loop (fun i : Nat => i ≤ l.length) (fun i => mkE [(0, .c (.im l.length (flat l))), (3, .c (.str (varS l.length ++ catN (liveF l) i))), (4, .c (.int .i64 i))] []) (fun i => l.length - i) 0 (Wk_to [0, 3, 4] [] rfl rfl (by simp [catN, app_nil])) (by simp) ?_
  rintro i hi
  have hs : (catN (liveF l) i).size ≤ i * 100 := catN_size fun j hj => liveS_size (hx j (by omega))
  refine AW_of h90 TryzT_ok (by kernel_rfl) ?_
  rcases Nat.lt_or_ge i l.length with h1 | h1
  · have hr := hx i h1
    have q1 := shortS_size hr.1; have q2 := shortS_size hr.2.1; have q3 := varS_size hr.2.2.1; have q4 := dotS_size hr.2.2.2; have q5 := flagS_size (nth l i).map
    simp -dsimp [h1, ne_of_lt h1]
    repeat (first | refine ⟨by omega, ?_⟩ | refine ⟨by simp [capMax, ByteArray.size_append]; omega, ?_⟩)
    refine ACallK_of (f155_ok _) ?_
    simp -dsimp [h1, ne_of_lt h1, shortsS_one, shortsS_two, varsS_one, varsS_two]
    repeat (first | refine ⟨by omega, ?_⟩ | refine ⟨by simp [capMax, ByteArray.size_append]; omega, ?_⟩)
    refine ACallK_of (f32_ok _ (Nat.le_trans hr.1 (by decide))) ?_
    simp -dsimp [h1, ne_of_lt h1, shortsS_one, shortsS_two, varsS_one, varsS_two]
    repeat (first | refine ⟨by omega, ?_⟩ | refine ⟨by simp [capMax, ByteArray.size_append]; omega, ?_⟩)
    refine ACallK_of (f32_ok _ (Nat.le_trans hr.2.1 (by decide))) ?_
    simp -dsimp [h1, ne_of_lt h1, shortsS_one, shortsS_two, varsS_one, varsS_two]
    repeat (first | refine ⟨by omega, ?_⟩ | refine ⟨by simp [capMax, ByteArray.size_append]; omega, ?_⟩)
    refine ACallK_of (f91_ok _ hr.2.2.1.1 hr.2.2.1.2) ?_
    simp -dsimp [h1, ne_of_lt h1, shortsS_one, shortsS_two, varsS_one, varsS_two]
    repeat (first | refine ⟨by omega, ?_⟩ | refine ⟨by simp [capMax, ByteArray.size_append]; omega, ?_⟩)
    refine ACallK_of (f92_ok _ hr.2.2.2.1 hr.2.2.2.2) ?_
    simp -dsimp [h1, ne_of_lt h1, shortsS_one, shortsS_two, varsS_one, varsS_two]
    repeat (first | refine ⟨by omega, ?_⟩ | refine ⟨by simp [capMax, ByteArray.size_append]; omega, ?_⟩)
    exact Back_of (i + 1) [0, 3, 4] [] rfl rfl (by simp [catN, liveF, liveS, app_assoc]; rw [wrap64 (by omega) (by omega)]) (by omega) (by omega)
  · obtain rfl : i = l.length := by omega
    simp -dsimp
    rfl

@[simp] def h111 : Hts := { dr := fun id => if id = 5 then [{ mb := [19, 24, 25, 29, 30, 34] }, { mb := [24, 29] }, { mb := [24, 29] }, { cr := true, mb := [24, 29] }, { mb := [19, 29] }, { mb := [19, 29] }, { mb := [19, 29] }, { mb := [19, 29] }, { cr := true, mb := [19, 29] }, { cr := true, mb := [29] }, { mb := [29, 30, 34] }, { mb := [19, 24, 25] }, { mb := [19, 24, 25] }, { cr := true, mb := [19, 24, 25] }, { cr := true }, { mb := [34] }, { mb := [19, 24, 25, 29, 30] }, { mb := [19, 24, 25, 29, 30] }, { cr := true }, {}, {}, {}] else [] }
set_option maxHeartbeats 1000000 in
theorem f111_ok (l : List GLive) (ha : l.length ≤ 120) (hx : ∀ i : Nat, i < l.length → liveR (nth l i)) : FnR Tryz.prog 111 [.v (.im l.length (flat l))] (.v (.str (livesS l))) := by
  have hv : (varS l.length).size ≤ 5 := varS_five (by omega)
  refine FnW.of_AW TryzT_ok 0 (fn := Tryz.f111) (by kernel_rfl) rfl (by kernel_rfl) rfl rfl rfl ?_
  refine AW_of h111 TryzT_ok (by kernel_rfl) ?_
  simp -dsimp
  refine ACallK_of (f105_ok [(l.length : Int)] (by simp) (by intro i hi; match i, hi with | 0, _ => exact ⟨show (0 : Int) ≤ l.length by omega, show (l.length : Int) ≤ 1000000000 by omega⟩)) ?_
  simp -dsimp [varsS_one]
  refine AWh_loop (fun i : Nat => i ≤ l.length) (fun i => mkE [(3, .c (.str (varS l.length ++ catN (liveF l) i))), (10, .c (.im l.length (flat l))), (11, .c (.int .i64 l.length)), (12, .c (.int .i64 i))] []) (fun i => l.length - i) 0 (Wk_to [3, 10, 11, 12] [] rfl rfl (by simp [catN, app_nil])) (by simp) ?_
  rintro i hi
  have hs : (catN (liveF l) i).size ≤ i * 100 := catN_size fun j hj => liveS_size (hx j (by omega))
  refine AW_of h111 TryzT_ok (by kernel_rfl) ?_
  rcases Nat.lt_or_ge i l.length with h1 | h1
  · have hr := hx i h1
    have q1 := shortS_size hr.1; have q2 := shortS_size hr.2.1; have q3 := varS_size hr.2.2.1; have q4 := dotS_size hr.2.2.2; have q5 := flagS_size (nth l i).map
    simp -dsimp [h1, ne_of_lt h1]
    repeat (first | refine ⟨by omega, ?_⟩ | refine ⟨by simp [capMax, ByteArray.size_append]; omega, ?_⟩)
    refine ACallK_of (f172_ok _) ?_
    simp -dsimp [h1, ne_of_lt h1, shortsS_one, shortsS_two, varsS_one, varsS_two]
    repeat (first | refine ⟨by omega, ?_⟩ | refine ⟨by simp [capMax, ByteArray.size_append]; omega, ?_⟩)
    refine ACallK_of (f106_ok [(nth l i).obj, (nth l i).key] (by simp) (by intro i hi; match i, hi with | 0, _ => exact Nat.le_trans hr.1 (by decide) | 1, _ => exact Nat.le_trans hr.2.1 (by decide))) ?_
    simp -dsimp [h1, ne_of_lt h1, shortsS_one, shortsS_two, varsS_one, varsS_two]
    repeat (first | refine ⟨by omega, ?_⟩ | refine ⟨by simp [capMax, ByteArray.size_append]; omega, ?_⟩)
    refine ACallK_of (f105_ok [(nth l i).val] (by simp) (by intro i hi; match i, hi with | 0, _ => exact hr.2.2.1)) ?_
    simp -dsimp [h1, ne_of_lt h1, shortsS_one, shortsS_two, varsS_one, varsS_two]
    repeat (first | refine ⟨by omega, ?_⟩ | refine ⟨by simp [capMax, ByteArray.size_append]; omega, ?_⟩)
    refine ACallK_of (f109_ok _ hr.2.2.2.1 hr.2.2.2.2) ?_
    simp -dsimp [h1, ne_of_lt h1, shortsS_one, shortsS_two, varsS_one, varsS_two]
    repeat (first | refine ⟨by omega, ?_⟩ | refine ⟨by simp [capMax, ByteArray.size_append]; omega, ?_⟩)
    exact Back_of (i + 1) [3, 10, 11, 12] [] rfl rfl (by simp [catN, liveF, liveS, app_assoc]; rw [wrap64 (by omega) (by omega)]) (by omega) (by omega)
  · obtain rfl : i = l.length := by omega
    simp -dsimp
    rfl

@[simp] def h93 : Hts := { dr := fun id => if id = 6 then [{ mb := [22, 26, 30, 34, 38, 42] }, {}, {}, { cr := true }, { mb := [26, 30, 34, 38, 42] }, { mb := [22] }, { mb := [22] }, { cr := true }, { mb := [30, 34, 38, 42] }, { mb := [22, 26] }, { mb := [22, 26] }, { cr := true }, { mb := [34, 38, 42] }, { mb := [22, 26, 30] }, { mb := [22, 26, 30] }, { cr := true }, { mb := [38, 42] }, { mb := [22, 26, 30, 34] }, { mb := [22, 26, 30, 34] }, { cr := true }, { mb := [42] }, { mb := [22, 26, 30, 34, 38] }, { mb := [22, 26, 30, 34, 38] }, { cr := true }, {}, {}] else [] }
set_option maxHeartbeats 1000000 in
theorem f93_ok (l : List GCell) (ha : l.length ≤ 120) (hx : ∀ i : Nat, i < l.length → cellR (nth l i)) : FnR Tryz.prog 93 [.v (.im l.length (flat l))] (.v (.str (cellsS l))) := by
  have hv : (varS l.length).size ≤ 5 := varS_five (by omega)
  refine FnW.of_AW TryzT_ok 0 (fn := Tryz.f93) (by kernel_rfl) rfl (by kernel_rfl) rfl rfl rfl ?_
  refine AW_of h93 TryzT_ok (by kernel_rfl) ?_
  simp -dsimp
  refine ACallK_of (f91_ok _ (by omega) (by omega)) ?_
  simp -dsimp
  refine AWh_loop (fun i : Nat => i ≤ l.length) (fun i => mkE [(0, .c (.im l.length (flat l))), (3, .c (.str (varS l.length ++ catN (cellF l) i))), (4, .c (.int .i64 i))] []) (fun i => l.length - i) 0 (Wk_to [0, 3, 4] [] rfl rfl (by simp [catN, app_nil])) (by simp) ?_
  rintro i hi
  have hs : (catN (cellF l) i).size ≤ i * 100 := catN_size fun j hj => cellS_size (hx j (by omega))
  refine AW_of h93 TryzT_ok (by kernel_rfl) ?_
  rcases Nat.lt_or_ge i l.length with h1 | h1
  · have hr := hx i h1
    have q1 := shortS_size hr.1; have q2 := dotS_size hr.2.1; have q3 := varS_size hr.2.2.1; have q4 := dotS_size hr.2.2.2.1; have q5 := varS_size hr.2.2.2.2; have q6 := flagS_size (nth l i).gone
    simp -dsimp [h1, ne_of_lt h1]
    repeat (first | refine ⟨by omega, ?_⟩ | refine ⟨by simp [capMax, ByteArray.size_append]; omega, ?_⟩)
    refine ACallK_of (f32_ok _ (Nat.le_trans hr.1 (by decide))) ?_
    simp -dsimp [h1, ne_of_lt h1, shortsS_one, shortsS_two, varsS_one, varsS_two]
    repeat (first | refine ⟨by omega, ?_⟩ | refine ⟨by simp [capMax, ByteArray.size_append]; omega, ?_⟩)
    refine ACallK_of (f92_ok _ hr.2.1.1 hr.2.1.2) ?_
    simp -dsimp [h1, ne_of_lt h1, shortsS_one, shortsS_two, varsS_one, varsS_two]
    repeat (first | refine ⟨by omega, ?_⟩ | refine ⟨by simp [capMax, ByteArray.size_append]; omega, ?_⟩)
    refine ACallK_of (f91_ok _ hr.2.2.1.1 hr.2.2.1.2) ?_
    simp -dsimp [h1, ne_of_lt h1, shortsS_one, shortsS_two, varsS_one, varsS_two]
    repeat (first | refine ⟨by omega, ?_⟩ | refine ⟨by simp [capMax, ByteArray.size_append]; omega, ?_⟩)
    refine ACallK_of (f92_ok _ hr.2.2.2.1.1 hr.2.2.2.1.2) ?_
    simp -dsimp [h1, ne_of_lt h1, shortsS_one, shortsS_two, varsS_one, varsS_two]
    repeat (first | refine ⟨by omega, ?_⟩ | refine ⟨by simp [capMax, ByteArray.size_append]; omega, ?_⟩)
    refine ACallK_of (f91_ok _ hr.2.2.2.2.1 hr.2.2.2.2.2) ?_
    simp -dsimp [h1, ne_of_lt h1, shortsS_one, shortsS_two, varsS_one, varsS_two]
    repeat (first | refine ⟨by omega, ?_⟩ | refine ⟨by simp [capMax, ByteArray.size_append]; omega, ?_⟩)
    refine ACallK_of (f155_ok _) ?_
    simp -dsimp [h1, ne_of_lt h1, shortsS_one, shortsS_two, varsS_one, varsS_two]
    repeat (first | refine ⟨by omega, ?_⟩ | refine ⟨by simp [capMax, ByteArray.size_append]; omega, ?_⟩)
    exact Back_of (i + 1) [0, 3, 4] [] rfl rfl (by simp [catN, cellF, cellS, app_assoc]; rw [wrap64 (by omega) (by omega)]) (by omega) (by omega)
  · obtain rfl : i = l.length := by omega
    simp -dsimp
    rfl

@[simp] def h112 : Hts := { dr := fun id => if id = 5 then [{ mb := [19, 20, 23, 27, 28, 32, 36, 37, 41] }, { mb := [27, 36] }, { mb := [27, 36] }, { cr := true, mb := [27, 36] }, { cr := true, mb := [27, 36] }, { mb := [19, 20, 27, 36] }, { mb := [19, 20, 27, 36] }, { cr := true, mb := [27, 36] }, { mb := [27, 28, 32, 36, 37, 41] }, { mb := [19, 20, 23, 36] }, { mb := [19, 20, 23, 36] }, { cr := true, mb := [19, 20, 23, 36] }, { cr := true, mb := [36] }, { mb := [32, 36, 37, 41] }, { mb := [19, 20, 23, 27, 28, 36] }, { mb := [19, 20, 23, 27, 28, 36] }, { cr := true, mb := [36] }, { mb := [36, 37, 41] }, { mb := [19, 20, 23, 27, 28, 32] }, { mb := [19, 20, 23, 27, 28, 32] }, { cr := true, mb := [19, 20, 23, 27, 28, 32] }, { cr := true }, { mb := [41] }, { mb := [19, 20, 23, 27, 28, 32, 36, 37] }, { mb := [19, 20, 23, 27, 28, 32, 36, 37] }, { cr := true }, {}, {}, {}] else [] }
set_option maxHeartbeats 1000000 in
theorem f112_ok (l : List GCell) (ha : l.length ≤ 120) (hx : ∀ i : Nat, i < l.length → cellR (nth l i)) : FnR Tryz.prog 112 [.v (.im l.length (flat l))] (.v (.str (cellsS l))) := by
  have hv : (varS l.length).size ≤ 5 := varS_five (by omega)
  refine FnW.of_AW TryzT_ok 0 (fn := Tryz.f112) (by kernel_rfl) rfl (by kernel_rfl) rfl rfl rfl ?_
  refine AW_of h112 TryzT_ok (by kernel_rfl) ?_
  simp -dsimp
  refine ACallK_of (f105_ok [(l.length : Int)] (by simp) (by intro i hi; match i, hi with | 0, _ => exact ⟨show (0 : Int) ≤ l.length by omega, show (l.length : Int) ≤ 1000000000 by omega⟩)) ?_
  simp -dsimp [varsS_one]
  refine AWh_loop (fun i : Nat => i ≤ l.length) (fun i => mkE [(3, .c (.str (varS l.length ++ catN (cellF l) i))), (10, .c (.im l.length (flat l))), (11, .c (.int .i64 l.length)), (12, .c (.int .i64 i))] []) (fun i => l.length - i) 0 (Wk_to [3, 10, 11, 12] [] rfl rfl (by simp [catN, app_nil])) (by simp) ?_
  rintro i hi
  have hs : (catN (cellF l) i).size ≤ i * 100 := catN_size fun j hj => cellS_size (hx j (by omega))
  refine AW_of h112 TryzT_ok (by kernel_rfl) ?_
  rcases Nat.lt_or_ge i l.length with h1 | h1
  · have hr := hx i h1
    have q1 := shortS_size hr.1; have q2 := dotS_size hr.2.1; have q3 := varS_size hr.2.2.1; have q4 := dotS_size hr.2.2.2.1; have q5 := varS_size hr.2.2.2.2; have q6 := flagS_size (nth l i).gone
    simp -dsimp [h1, ne_of_lt h1]
    repeat (first | refine ⟨by omega, ?_⟩ | refine ⟨by simp [capMax, ByteArray.size_append]; omega, ?_⟩)
    refine ACallK_of (f106_ok [(nth l i).obj] (by simp) (by intro i hi; match i, hi with | 0, _ => exact Nat.le_trans hr.1 (by decide))) ?_
    simp -dsimp [h1, ne_of_lt h1, shortsS_one, shortsS_two, varsS_one, varsS_two]
    repeat (first | refine ⟨by omega, ?_⟩ | refine ⟨by simp [capMax, ByteArray.size_append]; omega, ?_⟩)
    refine ACallK_of (f109_ok _ hr.2.1.1 hr.2.1.2) ?_
    simp -dsimp [h1, ne_of_lt h1, shortsS_one, shortsS_two, varsS_one, varsS_two]
    repeat (first | refine ⟨by omega, ?_⟩ | refine ⟨by simp [capMax, ByteArray.size_append]; omega, ?_⟩)
    refine ACallK_of (f105_ok [(nth l i).time] (by simp) (by intro i hi; match i, hi with | 0, _ => exact hr.2.2.1)) ?_
    simp -dsimp [h1, ne_of_lt h1, shortsS_one, shortsS_two, varsS_one, varsS_two]
    repeat (first | refine ⟨by omega, ?_⟩ | refine ⟨by simp [capMax, ByteArray.size_append]; omega, ?_⟩)
    refine ACallK_of (f109_ok _ hr.2.2.2.1.1 hr.2.2.2.1.2) ?_
    simp -dsimp [h1, ne_of_lt h1, shortsS_one, shortsS_two, varsS_one, varsS_two]
    repeat (first | refine ⟨by omega, ?_⟩ | refine ⟨by simp [capMax, ByteArray.size_append]; omega, ?_⟩)
    refine ACallK_of (f105_ok [(nth l i).val] (by simp) (by intro i hi; match i, hi with | 0, _ => exact hr.2.2.2.2)) ?_
    simp -dsimp [h1, ne_of_lt h1, shortsS_one, shortsS_two, varsS_one, varsS_two]
    repeat (first | refine ⟨by omega, ?_⟩ | refine ⟨by simp [capMax, ByteArray.size_append]; omega, ?_⟩)
    refine ACallK_of (f172_ok _) ?_
    simp -dsimp [h1, ne_of_lt h1, shortsS_one, shortsS_two, varsS_one, varsS_two]
    repeat (first | refine ⟨by omega, ?_⟩ | refine ⟨by simp [capMax, ByteArray.size_append]; omega, ?_⟩)
    exact Back_of (i + 1) [3, 10, 11, 12] [] rfl rfl (by simp [catN, cellF, cellS, app_assoc]; rw [wrap64 (by omega) (by omega)]) (by omega) (by omega)
  · obtain rfl : i = l.length := by omega
    simp -dsimp
    rfl
end Am
