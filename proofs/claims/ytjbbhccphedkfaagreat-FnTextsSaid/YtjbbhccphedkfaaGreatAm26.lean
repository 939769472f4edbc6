/- Lists of what has cells. No condition. -/
import Derived.Test.YtjbbhccphedkfaaGreatAm23
import Derived.ProofKit
set_option linter.unusedSimpArgs false
set_option linter.unusedVariables false
set_option linter.unnecessarySimpa false
set_option linter.unusedSectionVars false
namespace Am
open Go
class Cel (α:Type) where
  k:Nat
  cells:α → List PV
  len:∀ x,(cells x).length = k
  dflt:α
open Cel (cells)
def flat {α:Type} [Cel α] (xs:List α):List PV:=xs.flatMap cells
def nth {α:Type} [Cel α] (xs:List α) (i:Nat):α:=xs.getD i Cel.dflt
section
variable {α:Type} [Cel α]
theorem flat_nil:flat ([]:List α) = []:=rfl
theorem flat_cons (x:α) (xs:List α):flat (x :: xs) = cells x ++ flat xs:=rfl
theorem flat_append (xs ys:List α):flat (xs ++ ys) = flat xs ++ flat ys:=by simp [flat]
theorem flat_length (xs:List α):(flat xs).length = xs.length * Cel.k α:=by
  induction xs with
  | nil => simp [flat]
  | cons x xs ih => rw [flat_cons,List.length_append,ih,Cel.len,List.length_cons,Nat.succ_mul,Nat.add_comm]
theorem nth_eq {xs:List α} {i:Nat} (h:i < xs.length):nth xs i = xs[i]:=by simp [nth,h]
theorem flat_take (xs:List α) (n:Nat):(flat xs).take (n * Cel.k α) = flat (xs.take n):=by
  induction xs generalizing n with
  | nil => simp [flat]
  | cons x xs ih =>
    cases n with
    | zero => simp [flat]
    | succ n =>
      rw [List.take_succ_cons,flat_cons,flat_cons,List.take_append,Cel.len,show (n + 1) * Cel.k α - Cel.k α = n * Cel.k α by rw [Nat.succ_mul]; omega,ih,List.take_of_length_le]
      rw [Cel.len,Nat.succ_mul]; omega
theorem flat_drop (xs:List α) (n:Nat):(flat xs).drop (n * Cel.k α) = flat (xs.drop n):=by
  induction xs generalizing n with
  | nil => simp [flat]
  | cons x xs ih =>
    cases n with
    | zero => simp [flat]
    | succ n =>
      rw [List.drop_succ_cons,flat_cons,List.drop_append,Cel.len,show (n + 1) * Cel.k α - Cel.k α = n * Cel.k α by rw [Nat.succ_mul]; omega,ih,List.drop_of_length_le]
      · simp
      · rw [Cel.len,Nat.succ_mul]; omega
theorem flat_one {xs:List α} {i:Nat} (h:i < xs.length):((flat xs).drop (i * Cel.k α)).take (Cel.k α) = cells (nth xs i):=by
  have:=flat_take (xs.drop i) 1
  rw [Nat.one_mul] at this
  have e:(xs.drop i).take 1 = [xs[i]]:=by rw [List.drop_eq_getElem_cons h]; rfl
  rw [flat_drop,this,nth_eq h,e]
  simp [flat]
theorem flat_get {xs:List α} {i j:Nat} (h:i < xs.length) (hj:j < Cel.k α):(flat xs)[i * Cel.k α + j]? = (cells (nth xs i))[j]?:=by
  rw [← flat_one h,List.getElem?_take,if_pos hj,List.getElem?_drop]
theorem flat_set {xs:List α} {i:Nat} (h:i < xs.length) (y:α):splice (flat xs) (i * Cel.k α) (cells y) = flat (xs.set i y):=by
  unfold splice
  rw [Cel.len,flat_take,show i * Cel.k α + Cel.k α = (i + 1) * Cel.k α by rw [Nat.succ_mul],flat_drop,List.set_eq_take_append_cons_drop,if_pos h,flat_append,flat_cons,List.append_assoc]
theorem flat_set_in {xs:List α} {i j:Nat} {ps:List PV} (h:i < xs.length) (hj:j + ps.length ≤ Cel.k α) (y:α) (hy:splice (cells (nth xs i)) j ps = cells y):splice (flat xs) (i * Cel.k α + j) ps = flat (xs.set i y):=by
  rw [← flat_set h,← hy]
  unfold splice
  have e1:(flat xs).take (i * Cel.k α + j) = (flat xs).take (i * Cel.k α) ++ (cells (nth xs i)).take j:=by
    rw [List.take_add,← flat_one h,List.take_take,Nat.min_eq_left (by omega)]
  have e2:(flat xs).drop (i * Cel.k α + j + ps.length) = (cells (nth xs i)).drop (j + ps.length) ++ (flat xs).drop (i * Cel.k α + Cel.k α):=by
    have h1:(flat xs).drop (i * Cel.k α) = cells (nth xs i) ++ (flat xs).drop (i * Cel.k α + Cel.k α):=by
      rw [← flat_one h,← List.drop_drop]
      exact (List.take_append_drop (Cel.k α) _).symm
    rw [Nat.add_assoc,← List.drop_drop,h1,List.drop_append,Cel.len,show j + ps.length - Cel.k α = 0 by omega,List.drop_zero]
  rw [e1,e2]
  have hl:(List.take j (cells (nth xs i)) ++ ps ++ List.drop (j + ps.length) (cells (nth xs i))).length = Cel.k α:=by
    simp only [List.length_append,List.length_take,List.length_drop,Cel.len]
    omega
  rw [hl]
  simp only [List.append_assoc]
theorem flat_replicate (n:Nat) (z:α):(List.replicate n (cells z)).flatten = flat (List.replicate n z):=by
  induction n with
  | zero => rfl
  | succ n ih => rw [List.replicate_succ,List.replicate_succ,List.flatten_cons,flat_cons,ih]
theorem flat_free (hf:∀ x:α,(cells x).all isFree = true) (xs:List α):(flat xs).all isFree = true:=by
  induction xs with
  | nil => rfl
  | cons x xs ih => rw [flat_cons,List.all_append,hf,ih]; rfl
theorem flat_frz (hf:∀ x:α,frzs (cells x) = cells x) (xs:List α):frzs (flat xs) = flat xs:=by
  induction xs with
  | nil => rfl
  | cons x xs ih =>
    rw [flat_cons,frzs_eq_map,List.map_append,← frzs_eq_map,← frzs_eq_map,hf,ih]
end
theorem splice_one {α:Type} {l:List α} {i:Nat} {x:α} (h:i < l.length):splice l i [x] = l.set i x:=by
  unfold splice
  rw [List.set_eq_take_append_cons_drop,if_pos h]
  simp
theorem flat_noIm {α:Type} [Cel α] (hf:∀ x:α,noIms (cells x)) (xs:List α):noIms (flat xs):=by
  have app:∀ a b:List PV,noIms a → noIms b → noIms (a ++ b):=fun a b ha hb => by
    induction a with
    | nil => exact hb
    | cons p a ih => simp only [List.cons_append,noIms] at ha ⊢; exact ⟨ha.1,ih ha.2⟩
  induction xs with
  | nil => trivial
  | cons x xs ih => exact app _ _ (hf x) ih
class CelO (α:Type) extends Cel α where
  cellsO:α → List PV
  lenO:∀ x,(cellsO x).length = k
  frzO:∀ x,frzs (cellsO x) = cells x
@[reducible] def CelO.own (α:Type) [CelO α]:Cel α:=⟨Cel.k α,CelO.cellsO,CelO.lenO,Cel.dflt⟩
def flatO {α:Type} [CelO α] (xs:List α):List PV:=@flat α (CelO.own α) xs
section
variable {α:Type} [CelO α]
theorem flatO_nil:flatO ([]:List α) = []:=rfl
theorem flatO_cons (x:α) (xs:List α):flatO (x :: xs) = CelO.cellsO x ++ flatO xs:=rfl
theorem flatO_append (xs ys:List α):flatO (xs ++ ys) = flatO xs ++ flatO ys:=@flat_append α (CelO.own α) xs ys
theorem flatO_length (xs:List α):(flatO xs).length = xs.length * Cel.k α:=@flat_length α (CelO.own α) xs
theorem flatO_one {xs:List α} {i:Nat} (h:i < xs.length):((flatO xs).drop (i * Cel.k α)).take (Cel.k α) = CelO.cellsO (nth xs i):=@flat_one α (CelO.own α) xs i h
theorem flatO_get {xs:List α} {i j:Nat} (h:i < xs.length) (hj:j < Cel.k α):(flatO xs)[i * Cel.k α + j]? = (CelO.cellsO (nth xs i))[j]?:=@flat_get α (CelO.own α) xs i j h hj
theorem flatO_set {xs:List α} {i:Nat} (h:i < xs.length) (y:α):splice (flatO xs) (i * Cel.k α) (CelO.cellsO y) = flatO (xs.set i y):=@flat_set α (CelO.own α) xs i h y
theorem flatO_set_in {xs:List α} {i j:Nat} {ps:List PV} (h:i < xs.length) (hj:j + ps.length ≤ Cel.k α) (y:α) (hy:splice (CelO.cellsO (nth xs i)) j ps = CelO.cellsO y):splice (flatO xs) (i * Cel.k α + j) ps = flatO (xs.set i y) :=
  @flat_set_in α (CelO.own α) xs i j ps h hj y hy
@[simp] theorem flatO_frz (xs:List α):frzs (flatO xs) = flat xs:=by
  induction xs with
  | nil => simp [flatO,flat,frzs]
  | cons x xs ih => rw [flatO_cons,frzs_eq_map,List.map_append,← frzs_eq_map,← frzs_eq_map,ih,CelO.frzO,flat_cons]
theorem flatO_fill (xs zs:List α) (z y:α):splice (flatO xs ++ flat (z :: zs)) (xs.length * Cel.k α) (CelO.cellsO y) = flatO (xs ++ [y]) ++ flat zs:=by
  unfold splice
  rw [List.take_append_of_le_length (by rw [flatO_length]; exact Nat.le_refl _),List.take_of_length_le (by rw [flatO_length]; exact Nat.le_refl _),List.drop_append,flatO_length,CelO.lenO,
    show xs.length * Cel.k α + Cel.k α - xs.length * Cel.k α = Cel.k α by omega,List.drop_of_length_le (by rw [flatO_length]; omega),flat_cons,List.drop_append,Cel.len,Nat.sub_self,List.drop_of_length_le (by rw [Cel.len]; exact Nat.le_refl _),flatO_append]
  simp [flatO_cons,flatO_nil]
end
instance:Cel Int:=⟨1,fun n => [.int .i64 n],fun _ => rfl,0⟩
@[simp high] theorem ints_get {xs:List Int} {i:Nat} (h:i < xs.length):(flat xs)[i]? = some (.int .i64 (nth xs i)):=by
  have:=flat_get (xs:=xs) (i:=i) (j:=0) h (by decide)
  simpa [Cel.k,cells] using this
@[simp] theorem ints_length (xs:List Int):(flat xs).length = xs.length:=by
  have:=flat_length xs
  simpa [Cel.k] using this
@[simp] theorem ints_nil {xs:List Int}:flat xs = [] ↔ xs = []:=by
  constructor
  · intro h
    have:=ints_length xs
    rw [h] at this
    exact List.length_eq_zero_iff.1 this.symm
  · rintro rfl; rfl
theorem ints_set {xs:List Int} {i:Nat} (h:i < xs.length) (y:Int):splice (flat xs) i [.int .i64 y] = flat (xs.set i y):=by
  have:=flat_set h y
  simpa [Cel.k,cells] using this
@[simp high] theorem ints_upd {xs:List Int} {i:Nat} (h:i < xs.length) (y:Int):splice (flat xs) i [.int .i64 y] = flat (xs.set i y):=ints_set h y
@[simp] theorem ints_nn:flat ([]:List Int) = []:=rfl
@[simp high] theorem ints_add (xs:List Int) (y:Int):flat xs ++ [.int .i64 y] = flat (xs ++ [y]):=(flat_append xs [y]).symm
@[simp] theorem ints_noim (xs:List Int):noIms (flat xs):=flat_noIm (fun _ => by simp [cells,noIms,noIm]) xs
@[simp high] theorem ints_put {xs:List Int} {i:Nat} (h:i < xs.length) (y:Int):List.take i (flat xs) ++ PV.int .i64 y :: List.drop (i + 1) (flat xs) = flat (xs.set i y):=by
  rw [← ints_set h y]
  simp [splice]
@[simp] theorem ints_rep' (n:Nat):List.replicate n (PV.int .i64 0) = flat (List.replicate n (0:Int)):=by
  induction n with
  | zero => rfl
  | succ n ih => rw [List.replicate_succ,List.replicate_succ,flat_cons,ih]; rfl
@[simp] theorem ints_free (xs:List Int):(flat xs).all isFree = true:=flat_free (fun _ => rfl) xs
@[simp] theorem ints_frz (xs:List Int):frzs (flat xs) = flat xs:=flat_frz (fun _ => rfl) xs
theorem list_eq_of_nth {α:Type} [Cel α] {a b:List α} (hl:a.length = b.length) (h:∀ j:Nat,j < a.length → nth a j = nth b j):a = b:=by
  apply List.ext_getElem hl
  intro i h1 h2
  rw [← nth_eq h1,← nth_eq h2]
  exact h i h1
@[simp] theorem str_eq {a b:ByteArray}:a.toList = b.toList ↔ a = b:=by
  rw [ByteArray.toList_eq,ByteArray.toList_eq]
  constructor
  · intro h
    cases a; cases b
    simp only [ByteArray.mk.injEq]
    exact Array.ext' h
  · rintro rfl; rfl
theorem nth_mem {α:Type} [Cel α] {xs:List α} {i:Nat} (h:i < xs.length):nth xs i ∈ xs:=by rw [nth_eq h]; exact List.getElem_mem h
theorem ne_of_lt {α:Type} {xs:List α} {i:Nat} (h:i < xs.length):¬ xs = []:=by
  rintro rfl; simp at h
def szq (l:Int) (k:Int → Int):Int:=if l < 0 then -1 else k l
def szGo {α:Type} (f:α → Int → Int):List α → Int → Int
  | [],l => l
  | x :: xs,l => szq (f x l) (szGo f xs)
def szS {α:Type} (f:α → Int → Int) (xs:List α) (l:Int):Int:=szq (l - xs.length) (szGo f xs)
def szLen {α:Type} (xs:List α) (l:Int):Int:=szq (l - xs.length) fun l => l
end Am
