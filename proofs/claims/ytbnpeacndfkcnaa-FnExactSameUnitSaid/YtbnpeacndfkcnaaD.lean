/- The data of the program. No condition. -/
import Derived.Test.YtbnpeacndfkcnaaAm26
namespace Am
open Go
open Cel (cells)

@[ext] structure GDot where
  rep : Int
  seq : Int
  deriving DecidableEq

instance : Cel GDot := ⟨2, fun x => [.int .i64 x.rep, .int .i64 x.seq], fun _ => rfl, ⟨0, 0⟩⟩
theorem dot_cells (x : GDot) : cells x = [.int .i64 x.rep, .int .i64 x.seq] := rfl
@[simp] theorem dot_length (xs : List GDot) : (flat xs).length = xs.length * 2 := flat_length xs
@[simp] theorem dot_nil {xs : List GDot} : flat xs = [] ↔ xs = [] := by
  cases xs with
  | nil => simp [flat]
  | cons x xs => simp [flat, cells]
@[simp high] theorem dot_get0 {xs : List GDot} {i : Nat} (h : i < xs.length) : (flat xs)[i * 2]? = some (.int .i64 (nth xs i).rep) := flat_get (j := 0) h (by decide)
@[simp high] theorem dot_get1 {xs : List GDot} {i : Nat} (h : i < xs.length) : (flat xs)[i * 2 + 1]? = some (.int .i64 (nth xs i).seq) := flat_get (j := 1) h (by decide)
@[simp high] theorem dot_one {xs : List GDot} {i : Nat} (h : i < xs.length) : ((flat xs).drop (i * 2)).take 2 = [.int .i64 (nth xs i).rep, .int .i64 (nth xs i).seq] := flat_one h
theorem dot_set {xs : List GDot} {i : Nat} (h : i < xs.length) (y : GDot) : splice (flat xs) (i * 2) [.int .i64 y.rep, .int .i64 y.seq] = flat (xs.set i y) := flat_set h y
@[simp high] theorem dot_put {xs : List GDot} {i : Nat} (h : i < xs.length) (y1 : Int) (y2 : Int) : List.take (i * 2) (flat xs) ++ (PV.int .i64 y1 :: PV.int .i64 y2 :: List.drop (i * 2 + 2) (flat xs)) = flat (xs.set i ⟨y1, y2⟩) := by
  have := dot_set h (⟨y1, y2⟩ : GDot)
  simpa [splice] using this
@[simp] theorem dot_free (xs : List GDot) : (flat xs).all isFree = true := flat_free (fun _ => rfl) xs
@[simp] theorem dot_frz (xs : List GDot) : frzs (flat xs) = flat xs := flat_frz (fun _ => rfl) xs
@[simp] theorem dot_rep (n : Nat) : (List.replicate n [PV.int .i64 0, .int .i64 0]).flatten = flat (List.replicate n (⟨0, 0⟩ : GDot)) := flat_replicate n (⟨0, 0⟩ : GDot)

@[ext] structure GTally where
  obj : ByteArray
  rep : Int
  sum : Int
  deriving DecidableEq

instance : Cel GTally := ⟨3, fun x => [.str x.obj, .int .i64 x.rep, .int .i64 x.sum], fun _ => rfl, ⟨⟨#[]⟩, 0, 0⟩⟩
theorem tally_cells (x : GTally) : cells x = [.str x.obj, .int .i64 x.rep, .int .i64 x.sum] := rfl
@[simp] theorem tally_length (xs : List GTally) : (flat xs).length = xs.length * 3 := flat_length xs
@[simp] theorem tally_nil {xs : List GTally} : flat xs = [] ↔ xs = [] := by
  cases xs with
  | nil => simp [flat]
  | cons x xs => simp [flat, cells]
@[simp high] theorem tally_get0 {xs : List GTally} {i : Nat} (h : i < xs.length) : (flat xs)[i * 3]? = some (.str (nth xs i).obj) := flat_get (j := 0) h (by decide)
@[simp high] theorem tally_get1 {xs : List GTally} {i : Nat} (h : i < xs.length) : (flat xs)[i * 3 + 1]? = some (.int .i64 (nth xs i).rep) := flat_get (j := 1) h (by decide)
@[simp high] theorem tally_get2 {xs : List GTally} {i : Nat} (h : i < xs.length) : (flat xs)[i * 3 + 2]? = some (.int .i64 (nth xs i).sum) := flat_get (j := 2) h (by decide)
@[simp high] theorem tally_one {xs : List GTally} {i : Nat} (h : i < xs.length) : ((flat xs).drop (i * 3)).take 3 = [.str (nth xs i).obj, .int .i64 (nth xs i).rep, .int .i64 (nth xs i).sum] := flat_one h
/-- Small enough. -/
def GTally.Ok (x : GTally) : Prop := x.obj.size ≤ 1048576
/-- As large as may be. -/
def GTally.Fit (x : GTally) : Prop := x.obj.size ≤ 9223372036854775807
def GTally.sz (x : GTally) (l : Int) : Int := szq (l - x.obj.size) fun l => l
theorem GTally.sz_le (x : GTally) (l : Int) (h : 0 ≤ l) : x.sz l ≤ l := by
  unfold GTally.sz
  have hl : l ≤ l := Int.le_refl l
  refine szq_le (Int.le_trans (show _ ≤ _ from Int.sub_le_self _ (by omega)) (by assumption)) h fun _ _ => ?_
  assumption
theorem GTally.sz_ok {x : GTally} {l : Int} (h0 : 0 ≤ l) (h1 : l ≤ 1048576) (h : 0 ≤ x.sz l) : x.Ok := by
  unfold GTally.sz at h
  unfold GTally.Ok
  obtain ⟨p0, h⟩ := szq_pos h
  exact by omega
theorem tally_set {xs : List GTally} {i : Nat} (h : i < xs.length) (y : GTally) : splice (flat xs) (i * 3) [.str y.obj, .int .i64 y.rep, .int .i64 y.sum] = flat (xs.set i y) := flat_set h y
@[simp high] theorem tally_put {xs : List GTally} {i : Nat} (h : i < xs.length) (y1 : ByteArray) (y2 : Int) (y3 : Int) : List.take (i * 3) (flat xs) ++ (PV.str y1 :: PV.int .i64 y2 :: PV.int .i64 y3 :: List.drop (i * 3 + 3) (flat xs)) = flat (xs.set i ⟨y1, y2, y3⟩) := by
  have := tally_set h (⟨y1, y2, y3⟩ : GTally)
  simpa [splice] using this
@[simp] theorem tally_free (xs : List GTally) : (flat xs).all isFree = true := flat_free (fun _ => rfl) xs
@[simp] theorem tally_frz (xs : List GTally) : frzs (flat xs) = flat xs := flat_frz (fun _ => rfl) xs
@[simp] theorem tally_rep (n : Nat) : (List.replicate n [PV.str ⟨#[]⟩, .int .i64 0, .int .i64 0]).flatten = flat (List.replicate n (⟨⟨#[]⟩, 0, 0⟩ : GTally)) := flat_replicate n (⟨⟨#[]⟩, 0, 0⟩ : GTally)

@[ext] structure GLive where
  map : Bool
  obj : ByteArray
  key : ByteArray
  val : Int
  dot : GDot
  deriving DecidableEq

instance : Cel GLive := ⟨6, fun x => [.bool x.map, .str x.obj, .str x.key, .int .i64 x.val, .int .i64 x.dot.rep, .int .i64 x.dot.seq], fun _ => rfl, ⟨false, ⟨#[]⟩, ⟨#[]⟩, 0, ⟨0, 0⟩⟩⟩
theorem live_cells (x : GLive) : cells x = [.bool x.map, .str x.obj, .str x.key, .int .i64 x.val, .int .i64 x.dot.rep, .int .i64 x.dot.seq] := rfl
@[simp] theorem live_length (xs : List GLive) : (flat xs).length = xs.length * 6 := flat_length xs
@[simp] theorem live_nil {xs : List GLive} : flat xs = [] ↔ xs = [] := by
  cases xs with
  | nil => simp [flat]
  | cons x xs => simp [flat, cells]
@[simp high] theorem live_get0 {xs : List GLive} {i : Nat} (h : i < xs.length) : (flat xs)[i * 6]? = some (.bool (nth xs i).map) := flat_get (j := 0) h (by decide)
@[simp high] theorem live_get1 {xs : List GLive} {i : Nat} (h : i < xs.length) : (flat xs)[i * 6 + 1]? = some (.str (nth xs i).obj) := flat_get (j := 1) h (by decide)
@[simp high] theorem live_get2 {xs : List GLive} {i : Nat} (h : i < xs.length) : (flat xs)[i * 6 + 2]? = some (.str (nth xs i).key) := flat_get (j := 2) h (by decide)
@[simp high] theorem live_get3 {xs : List GLive} {i : Nat} (h : i < xs.length) : (flat xs)[i * 6 + 3]? = some (.int .i64 (nth xs i).val) := flat_get (j := 3) h (by decide)
@[simp high] theorem live_get4 {xs : List GLive} {i : Nat} (h : i < xs.length) : (flat xs)[i * 6 + 4]? = some (.int .i64 (nth xs i).dot.rep) := flat_get (j := 4) h (by decide)
@[simp high] theorem live_get5 {xs : List GLive} {i : Nat} (h : i < xs.length) : (flat xs)[i * 6 + 5]? = some (.int .i64 (nth xs i).dot.seq) := flat_get (j := 5) h (by decide)
@[simp high] theorem live_one {xs : List GLive} {i : Nat} (h : i < xs.length) : ((flat xs).drop (i * 6)).take 6 = [.bool (nth xs i).map, .str (nth xs i).obj, .str (nth xs i).key, .int .i64 (nth xs i).val, .int .i64 (nth xs i).dot.rep, .int .i64 (nth xs i).dot.seq] := flat_one h
/-- Small enough. -/
def GLive.Ok (x : GLive) : Prop := x.obj.size ≤ 1048576 ∧ x.key.size ≤ 1048576
/-- As large as may be. -/
def GLive.Fit (x : GLive) : Prop := x.obj.size ≤ 9223372036854775807 ∧ x.key.size ≤ 9223372036854775807
def GLive.sz (x : GLive) (l : Int) : Int := szq (l - x.obj.size) fun l => szq (l - x.key.size) fun l => l
theorem GLive.sz_le (x : GLive) (l : Int) (h : 0 ≤ l) : x.sz l ≤ l := by
  unfold GLive.sz
  have hl : l ≤ l := Int.le_refl l
  refine szq_le (Int.le_trans (show _ ≤ _ from Int.sub_le_self _ (by omega)) (by assumption)) h fun _ _ => ?_
  refine szq_le (Int.le_trans (show _ ≤ _ from Int.sub_le_self _ (by omega)) (by assumption)) h fun _ _ => ?_
  assumption
theorem GLive.sz_ok {x : GLive} {l : Int} (h0 : 0 ≤ l) (h1 : l ≤ 1048576) (h : 0 ≤ x.sz l) : x.Ok := by
  unfold GLive.sz at h
  unfold GLive.Ok
  obtain ⟨p0, h⟩ := szq_pos h
  obtain ⟨p1, h⟩ := szq_pos h
  exact ⟨by omega, by omega⟩
@[simp high] theorem live_sub_dot {xs : List GLive} {i : Nat} (h : i < xs.length) : ((flat xs).drop (i * 6 + 4)).take 2 = [.int .i64 (nth xs i).dot.rep, .int .i64 (nth xs i).dot.seq] := by
  have h1 : ((flat xs).drop (i * 6 + 4)).take 2 = (((flat xs).drop (i * 6)).take 6 |>.drop 4).take 2 := by
    rw [List.drop_take, List.take_take, List.drop_drop]
    rfl
  exact h1.trans (by rw [live_one h]; rfl)
theorem live_set {xs : List GLive} {i : Nat} (h : i < xs.length) (y : GLive) : splice (flat xs) (i * 6) [.bool y.map, .str y.obj, .str y.key, .int .i64 y.val, .int .i64 y.dot.rep, .int .i64 y.dot.seq] = flat (xs.set i y) := flat_set h y
@[simp high] theorem live_put {xs : List GLive} {i : Nat} (h : i < xs.length) (y1 : Bool) (y2 : ByteArray) (y3 : ByteArray) (y4 : Int) (y5 : Int) (y6 : Int) : List.take (i * 6) (flat xs) ++ (PV.bool y1 :: PV.str y2 :: PV.str y3 :: PV.int .i64 y4 :: PV.int .i64 y5 :: PV.int .i64 y6 :: List.drop (i * 6 + 6) (flat xs)) = flat (xs.set i ⟨y1, y2, y3, y4, ⟨y5, y6⟩⟩) := by
  have := live_set h (⟨y1, y2, y3, y4, ⟨y5, y6⟩⟩ : GLive)
  simpa [splice] using this
@[simp] theorem live_free (xs : List GLive) : (flat xs).all isFree = true := flat_free (fun _ => rfl) xs
@[simp] theorem live_frz (xs : List GLive) : frzs (flat xs) = flat xs := flat_frz (fun _ => rfl) xs
@[simp] theorem live_rep (n : Nat) : (List.replicate n [PV.bool false, .str ⟨#[]⟩, .str ⟨#[]⟩, .int .i64 0, .int .i64 0, .int .i64 0]).flatten = flat (List.replicate n (⟨false, ⟨#[]⟩, ⟨#[]⟩, 0, ⟨0, 0⟩⟩ : GLive)) := flat_replicate n (⟨false, ⟨#[]⟩, ⟨#[]⟩, 0, ⟨0, 0⟩⟩ : GLive)

@[ext] structure GCell where
  obj : ByteArray
  dot : GDot
  time : Int
  ref : GDot
  val : Int
  gone : Bool
  deriving DecidableEq

instance : Cel GCell := ⟨8, fun x => [.str x.obj, .int .i64 x.dot.rep, .int .i64 x.dot.seq, .int .i64 x.time, .int .i64 x.ref.rep, .int .i64 x.ref.seq, .int .i64 x.val, .bool x.gone], fun _ => rfl, ⟨⟨#[]⟩, ⟨0, 0⟩, 0, ⟨0, 0⟩, 0, false⟩⟩
theorem cell_cells (x : GCell) : cells x = [.str x.obj, .int .i64 x.dot.rep, .int .i64 x.dot.seq, .int .i64 x.time, .int .i64 x.ref.rep, .int .i64 x.ref.seq, .int .i64 x.val, .bool x.gone] := rfl
@[simp] theorem cell_length (xs : List GCell) : (flat xs).length = xs.length * 8 := flat_length xs
@[simp] theorem cell_nil {xs : List GCell} : flat xs = [] ↔ xs = [] := by
  cases xs with
  | nil => simp [flat]
  | cons x xs => simp [flat, cells]
@[simp high] theorem cell_get0 {xs : List GCell} {i : Nat} (h : i < xs.length) : (flat xs)[i * 8]? = some (.str (nth xs i).obj) := flat_get (j := 0) h (by decide)
@[simp high] theorem cell_get1 {xs : List GCell} {i : Nat} (h : i < xs.length) : (flat xs)[i * 8 + 1]? = some (.int .i64 (nth xs i).dot.rep) := flat_get (j := 1) h (by decide)
@[simp high] theorem cell_get2 {xs : List GCell} {i : Nat} (h : i < xs.length) : (flat xs)[i * 8 + 2]? = some (.int .i64 (nth xs i).dot.seq) := flat_get (j := 2) h (by decide)
@[simp high] theorem cell_get3 {xs : List GCell} {i : Nat} (h : i < xs.length) : (flat xs)[i * 8 + 3]? = some (.int .i64 (nth xs i).time) := flat_get (j := 3) h (by decide)
@[simp high] theorem cell_get4 {xs : List GCell} {i : Nat} (h : i < xs.length) : (flat xs)[i * 8 + 4]? = some (.int .i64 (nth xs i).ref.rep) := flat_get (j := 4) h (by decide)
@[simp high] theorem cell_get5 {xs : List GCell} {i : Nat} (h : i < xs.length) : (flat xs)[i * 8 + 5]? = some (.int .i64 (nth xs i).ref.seq) := flat_get (j := 5) h (by decide)
@[simp high] theorem cell_get6 {xs : List GCell} {i : Nat} (h : i < xs.length) : (flat xs)[i * 8 + 6]? = some (.int .i64 (nth xs i).val) := flat_get (j := 6) h (by decide)
@[simp high] theorem cell_get7 {xs : List GCell} {i : Nat} (h : i < xs.length) : (flat xs)[i * 8 + 7]? = some (.bool (nth xs i).gone) := flat_get (j := 7) h (by decide)
@[simp high] theorem cell_one {xs : List GCell} {i : Nat} (h : i < xs.length) : ((flat xs).drop (i * 8)).take 8 = [.str (nth xs i).obj, .int .i64 (nth xs i).dot.rep, .int .i64 (nth xs i).dot.seq, .int .i64 (nth xs i).time, .int .i64 (nth xs i).ref.rep, .int .i64 (nth xs i).ref.seq, .int .i64 (nth xs i).val, .bool (nth xs i).gone] := flat_one h
/-- Small enough. -/
def GCell.Ok (x : GCell) : Prop := x.obj.size ≤ 1048576
/-- As large as may be. -/
def GCell.Fit (x : GCell) : Prop := x.obj.size ≤ 9223372036854775807
def GCell.sz (x : GCell) (l : Int) : Int := szq (l - x.obj.size) fun l => l
theorem GCell.sz_le (x : GCell) (l : Int) (h : 0 ≤ l) : x.sz l ≤ l := by
  unfold GCell.sz
  have hl : l ≤ l := Int.le_refl l
  refine szq_le (Int.le_trans (show _ ≤ _ from Int.sub_le_self _ (by omega)) (by assumption)) h fun _ _ => ?_
  assumption
theorem GCell.sz_ok {x : GCell} {l : Int} (h0 : 0 ≤ l) (h1 : l ≤ 1048576) (h : 0 ≤ x.sz l) : x.Ok := by
  unfold GCell.sz at h
  unfold GCell.Ok
  obtain ⟨p0, h⟩ := szq_pos h
  exact by omega
@[simp high] theorem cell_sub_dot {xs : List GCell} {i : Nat} (h : i < xs.length) : ((flat xs).drop (i * 8 + 1)).take 2 = [.int .i64 (nth xs i).dot.rep, .int .i64 (nth xs i).dot.seq] := by
  have h1 : ((flat xs).drop (i * 8 + 1)).take 2 = (((flat xs).drop (i * 8)).take 8 |>.drop 1).take 2 := by
    rw [List.drop_take, List.take_take, List.drop_drop]
    rfl
  exact h1.trans (by rw [cell_one h]; rfl)
@[simp high] theorem cell_sub_ref {xs : List GCell} {i : Nat} (h : i < xs.length) : ((flat xs).drop (i * 8 + 4)).take 2 = [.int .i64 (nth xs i).ref.rep, .int .i64 (nth xs i).ref.seq] := by
  have h1 : ((flat xs).drop (i * 8 + 4)).take 2 = (((flat xs).drop (i * 8)).take 8 |>.drop 4).take 2 := by
    rw [List.drop_take, List.take_take, List.drop_drop]
    rfl
  exact h1.trans (by rw [cell_one h]; rfl)
theorem cell_set {xs : List GCell} {i : Nat} (h : i < xs.length) (y : GCell) : splice (flat xs) (i * 8) [.str y.obj, .int .i64 y.dot.rep, .int .i64 y.dot.seq, .int .i64 y.time, .int .i64 y.ref.rep, .int .i64 y.ref.seq, .int .i64 y.val, .bool y.gone] = flat (xs.set i y) := flat_set h y
@[simp high] theorem cell_put {xs : List GCell} {i : Nat} (h : i < xs.length) (y1 : ByteArray) (y2 : Int) (y3 : Int) (y4 : Int) (y5 : Int) (y6 : Int) (y7 : Int) (y8 : Bool) : List.take (i * 8) (flat xs) ++ (PV.str y1 :: PV.int .i64 y2 :: PV.int .i64 y3 :: PV.int .i64 y4 :: PV.int .i64 y5 :: PV.int .i64 y6 :: PV.int .i64 y7 :: PV.bool y8 :: List.drop (i * 8 + 8) (flat xs)) = flat (xs.set i ⟨y1, ⟨y2, y3⟩, y4, ⟨y5, y6⟩, y7, y8⟩) := by
  have := cell_set h (⟨y1, ⟨y2, y3⟩, y4, ⟨y5, y6⟩, y7, y8⟩ : GCell)
  simpa [splice] using this
@[simp] theorem cell_free (xs : List GCell) : (flat xs).all isFree = true := flat_free (fun _ => rfl) xs
@[simp] theorem cell_frz (xs : List GCell) : frzs (flat xs) = flat xs := flat_frz (fun _ => rfl) xs
@[simp] theorem cell_rep (n : Nat) : (List.replicate n [PV.str ⟨#[]⟩, .int .i64 0, .int .i64 0, .int .i64 0, .int .i64 0, .int .i64 0, .int .i64 0, .bool false]).flatten = flat (List.replicate n (⟨⟨#[]⟩, ⟨0, 0⟩, 0, ⟨0, 0⟩, 0, false⟩ : GCell)) := flat_replicate n (⟨⟨#[]⟩, ⟨0, 0⟩, 0, ⟨0, 0⟩, 0, false⟩ : GCell)

@[ext] structure GAct where
  dot : GDot
  time : Int
  knew : List Int
  kind : Int
  obj : ByteArray
  key : ByteArray
  val : Int
  ref : GDot
  deriving DecidableEq

instance : Cel GAct := ⟨10, fun x => [.int .i64 x.dot.rep, .int .i64 x.dot.seq, .int .i64 x.time, .im x.knew.length (flat x.knew), .int .i64 x.kind, .str x.obj, .str x.key, .int .i64 x.val, .int .i64 x.ref.rep, .int .i64 x.ref.seq], fun _ => rfl, ⟨⟨0, 0⟩, 0, [], 0, ⟨#[]⟩, ⟨#[]⟩, 0, ⟨0, 0⟩⟩⟩
theorem act_cells (x : GAct) : cells x = [.int .i64 x.dot.rep, .int .i64 x.dot.seq, .int .i64 x.time, .im x.knew.length (flat x.knew), .int .i64 x.kind, .str x.obj, .str x.key, .int .i64 x.val, .int .i64 x.ref.rep, .int .i64 x.ref.seq] := rfl
@[simp] theorem act_length (xs : List GAct) : (flat xs).length = xs.length * 10 := flat_length xs
@[simp] theorem act_nil {xs : List GAct} : flat xs = [] ↔ xs = [] := by
  cases xs with
  | nil => simp [flat]
  | cons x xs => simp [flat, cells]
@[simp high] theorem act_get0 {xs : List GAct} {i : Nat} (h : i < xs.length) : (flat xs)[i * 10]? = some (.int .i64 (nth xs i).dot.rep) := flat_get (j := 0) h (by decide)
@[simp high] theorem act_get1 {xs : List GAct} {i : Nat} (h : i < xs.length) : (flat xs)[i * 10 + 1]? = some (.int .i64 (nth xs i).dot.seq) := flat_get (j := 1) h (by decide)
@[simp high] theorem act_get2 {xs : List GAct} {i : Nat} (h : i < xs.length) : (flat xs)[i * 10 + 2]? = some (.int .i64 (nth xs i).time) := flat_get (j := 2) h (by decide)
@[simp high] theorem act_get3 {xs : List GAct} {i : Nat} (h : i < xs.length) : (flat xs)[i * 10 + 3]? = some (.im (nth xs i).knew.length (flat (nth xs i).knew)) := flat_get (j := 3) h (by decide)
@[simp high] theorem act_get4 {xs : List GAct} {i : Nat} (h : i < xs.length) : (flat xs)[i * 10 + 4]? = some (.int .i64 (nth xs i).kind) := flat_get (j := 4) h (by decide)
@[simp high] theorem act_get5 {xs : List GAct} {i : Nat} (h : i < xs.length) : (flat xs)[i * 10 + 5]? = some (.str (nth xs i).obj) := flat_get (j := 5) h (by decide)
@[simp high] theorem act_get6 {xs : List GAct} {i : Nat} (h : i < xs.length) : (flat xs)[i * 10 + 6]? = some (.str (nth xs i).key) := flat_get (j := 6) h (by decide)
@[simp high] theorem act_get7 {xs : List GAct} {i : Nat} (h : i < xs.length) : (flat xs)[i * 10 + 7]? = some (.int .i64 (nth xs i).val) := flat_get (j := 7) h (by decide)
@[simp high] theorem act_get8 {xs : List GAct} {i : Nat} (h : i < xs.length) : (flat xs)[i * 10 + 8]? = some (.int .i64 (nth xs i).ref.rep) := flat_get (j := 8) h (by decide)
@[simp high] theorem act_get9 {xs : List GAct} {i : Nat} (h : i < xs.length) : (flat xs)[i * 10 + 9]? = some (.int .i64 (nth xs i).ref.seq) := flat_get (j := 9) h (by decide)
@[simp high] theorem act_one {xs : List GAct} {i : Nat} (h : i < xs.length) : ((flat xs).drop (i * 10)).take 10 = [.int .i64 (nth xs i).dot.rep, .int .i64 (nth xs i).dot.seq, .int .i64 (nth xs i).time, .im (nth xs i).knew.length (flat (nth xs i).knew), .int .i64 (nth xs i).kind, .str (nth xs i).obj, .str (nth xs i).key, .int .i64 (nth xs i).val, .int .i64 (nth xs i).ref.rep, .int .i64 (nth xs i).ref.seq] := flat_one h
/-- Small enough. -/
def GAct.Ok (x : GAct) : Prop := x.knew.length ≤ 1048576 ∧ x.obj.size ≤ 1048576 ∧ x.key.size ≤ 1048576
/-- As large as may be. -/
def GAct.Fit (x : GAct) : Prop := x.knew.length ≤ 9223372036854775807 ∧ x.obj.size ≤ 9223372036854775807 ∧ x.key.size ≤ 9223372036854775807
def GAct.sz (x : GAct) (l : Int) : Int := szq (szLen x.knew l) fun l => szq (l - x.obj.size) fun l => szq (l - x.key.size) fun l => l
theorem GAct.sz_le (x : GAct) (l : Int) (h : 0 ≤ l) : x.sz l ≤ l := by
  unfold GAct.sz
  have hl : l ≤ l := Int.le_refl l
  refine szq_le (Int.le_trans (szLen_le _ _ (by assumption)) (by assumption)) h fun _ _ => ?_
  refine szq_le (Int.le_trans (show _ ≤ _ from Int.sub_le_self _ (by omega)) (by assumption)) h fun _ _ => ?_
  refine szq_le (Int.le_trans (show _ ≤ _ from Int.sub_le_self _ (by omega)) (by assumption)) h fun _ _ => ?_
  assumption
theorem GAct.sz_ok {x : GAct} {l : Int} (h0 : 0 ≤ l) (h1 : l ≤ 1048576) (h : 0 ≤ x.sz l) : x.Ok := by
  unfold GAct.sz at h
  unfold GAct.Ok
  obtain ⟨p0, h⟩ := szq_pos h
  obtain ⟨p1, h⟩ := szq_pos h
  obtain ⟨p2, h⟩ := szq_pos h
  have q0 := szLen_le x.knew _ h0
  have b0 := szLen_len p0
  exact ⟨by omega, by omega, by omega⟩
@[simp high] theorem act_sub_dot {xs : List GAct} {i : Nat} (h : i < xs.length) : ((flat xs).drop (i * 10)).take 2 = [.int .i64 (nth xs i).dot.rep, .int .i64 (nth xs i).dot.seq] := by
  have h1 : ((flat xs).drop (i * 10 + 0)).take 2 = (((flat xs).drop (i * 10)).take 10 |>.drop 0).take 2 := by
    rw [List.drop_take, List.take_take, List.drop_drop]
    rfl
  exact h1.trans (by rw [act_one h]; rfl)
@[simp high] theorem act_sub_ref {xs : List GAct} {i : Nat} (h : i < xs.length) : ((flat xs).drop (i * 10 + 8)).take 2 = [.int .i64 (nth xs i).ref.rep, .int .i64 (nth xs i).ref.seq] := by
  have h1 : ((flat xs).drop (i * 10 + 8)).take 2 = (((flat xs).drop (i * 10)).take 10 |>.drop 8).take 2 := by
    rw [List.drop_take, List.take_take, List.drop_drop]
    rfl
  exact h1.trans (by rw [act_one h]; rfl)
theorem act_set {xs : List GAct} {i : Nat} (h : i < xs.length) (y : GAct) : splice (flat xs) (i * 10) [.int .i64 y.dot.rep, .int .i64 y.dot.seq, .int .i64 y.time, .im y.knew.length (flat y.knew), .int .i64 y.kind, .str y.obj, .str y.key, .int .i64 y.val, .int .i64 y.ref.rep, .int .i64 y.ref.seq] = flat (xs.set i y) := flat_set h y
@[simp high] theorem act_put {xs : List GAct} {i : Nat} (h : i < xs.length) (y1 : Int) (y2 : Int) (y3 : Int) (y4 : List Int) (y5 : Int) (y6 : ByteArray) (y7 : ByteArray) (y8 : Int) (y9 : Int) (y10 : Int) : List.take (i * 10) (flat xs) ++ (PV.int .i64 y1 :: PV.int .i64 y2 :: PV.int .i64 y3 :: PV.im y4.length (flat y4) :: PV.int .i64 y5 :: PV.str y6 :: PV.str y7 :: PV.int .i64 y8 :: PV.int .i64 y9 :: PV.int .i64 y10 :: List.drop (i * 10 + 10) (flat xs)) = flat (xs.set i ⟨⟨y1, y2⟩, y3, y4, y5, y6, y7, y8, ⟨y9, y10⟩⟩) := by
  have := act_set h (⟨⟨y1, y2⟩, y3, y4, y5, y6, y7, y8, ⟨y9, y10⟩⟩ : GAct)
  simpa [splice] using this

@[ext] structure GState where
  know : List Int
  tallies : List GTally
  lives : List GLive
  cs : List GCell
  deriving DecidableEq

instance : Cel GState := ⟨4, fun x => [.im x.know.length (flat x.know), .im x.tallies.length (flat x.tallies), .im x.lives.length (flat x.lives), .im x.cs.length (flat x.cs)], fun _ => rfl, ⟨[], [], [], []⟩⟩
theorem state_cells (x : GState) : cells x = [.im x.know.length (flat x.know), .im x.tallies.length (flat x.tallies), .im x.lives.length (flat x.lives), .im x.cs.length (flat x.cs)] := rfl
@[simp] theorem state_length (xs : List GState) : (flat xs).length = xs.length * 4 := flat_length xs
@[simp] theorem state_nil {xs : List GState} : flat xs = [] ↔ xs = [] := by
  cases xs with
  | nil => simp [flat]
  | cons x xs => simp [flat, cells]
@[simp high] theorem state_get0 {xs : List GState} {i : Nat} (h : i < xs.length) : (flat xs)[i * 4]? = some (.im (nth xs i).know.length (flat (nth xs i).know)) := flat_get (j := 0) h (by decide)
@[simp high] theorem state_get1 {xs : List GState} {i : Nat} (h : i < xs.length) : (flat xs)[i * 4 + 1]? = some (.im (nth xs i).tallies.length (flat (nth xs i).tallies)) := flat_get (j := 1) h (by decide)
@[simp high] theorem state_get2 {xs : List GState} {i : Nat} (h : i < xs.length) : (flat xs)[i * 4 + 2]? = some (.im (nth xs i).lives.length (flat (nth xs i).lives)) := flat_get (j := 2) h (by decide)
@[simp high] theorem state_get3 {xs : List GState} {i : Nat} (h : i < xs.length) : (flat xs)[i * 4 + 3]? = some (.im (nth xs i).cs.length (flat (nth xs i).cs)) := flat_get (j := 3) h (by decide)
@[simp high] theorem state_one {xs : List GState} {i : Nat} (h : i < xs.length) : ((flat xs).drop (i * 4)).take 4 = [.im (nth xs i).know.length (flat (nth xs i).know), .im (nth xs i).tallies.length (flat (nth xs i).tallies), .im (nth xs i).lives.length (flat (nth xs i).lives), .im (nth xs i).cs.length (flat (nth xs i).cs)] := flat_one h
/-- Small enough. -/
def GState.Ok (x : GState) : Prop := x.know.length ≤ 1048576 ∧ x.tallies.length ≤ 1048576 ∧ (∀ y, y ∈ x.tallies → y.Ok) ∧ x.lives.length ≤ 1048576 ∧ (∀ y, y ∈ x.lives → y.Ok) ∧ x.cs.length ≤ 1048576 ∧ (∀ y, y ∈ x.cs → y.Ok)
/-- As large as may be. -/
def GState.Fit (x : GState) : Prop := x.know.length ≤ 9223372036854775807 ∧ x.tallies.length ≤ 9223372036854775807 ∧ (∀ y, y ∈ x.tallies → y.Fit) ∧ x.lives.length ≤ 9223372036854775807 ∧ (∀ y, y ∈ x.lives → y.Fit) ∧ x.cs.length ≤ 9223372036854775807 ∧ (∀ y, y ∈ x.cs → y.Fit)
def GState.sz (x : GState) (l : Int) : Int := szq (szLen x.know l) fun l => szq (szS GTally.sz x.tallies l) fun l => szq (szS GLive.sz x.lives l) fun l => szq (szS GCell.sz x.cs l) fun l => l
theorem GState.sz_le (x : GState) (l : Int) (h : 0 ≤ l) : x.sz l ≤ l := by
  unfold GState.sz
  have hl : l ≤ l := Int.le_refl l
  refine szq_le (Int.le_trans (szLen_le _ _ (by assumption)) (by assumption)) h fun _ _ => ?_
  refine szq_le (Int.le_trans (szS_le GTally.sz_le _ _ (by assumption)) (by assumption)) h fun _ _ => ?_
  refine szq_le (Int.le_trans (szS_le GLive.sz_le _ _ (by assumption)) (by assumption)) h fun _ _ => ?_
  refine szq_le (Int.le_trans (szS_le GCell.sz_le _ _ (by assumption)) (by assumption)) h fun _ _ => ?_
  assumption
theorem GState.sz_ok {x : GState} {l : Int} (h0 : 0 ≤ l) (h1 : l ≤ 1048576) (h : 0 ≤ x.sz l) : x.Ok := by
  unfold GState.sz at h
  unfold GState.Ok
  obtain ⟨p0, h⟩ := szq_pos h
  obtain ⟨p1, h⟩ := szq_pos h
  obtain ⟨p2, h⟩ := szq_pos h
  obtain ⟨p3, h⟩ := szq_pos h
  have q0 := szLen_le x.know _ h0
  have b0 := szLen_len p0
  have q1 := szS_le GTally.sz_le x.tallies _ p0
  have b1 := szS_len p1
  have q2 := szS_le GLive.sz_le x.lives _ p1
  have b2 := szS_len p2
  have q3 := szS_le GCell.sz_le x.cs _ p2
  have b3 := szS_len p3
  exact ⟨by omega, by omega, szS_all GTally.sz_le (fun _ _ => GTally.sz_ok) (by omega) p1, by omega, szS_all GLive.sz_le (fun _ _ => GLive.sz_ok) (by omega) p2, by omega, szS_all GCell.sz_le (fun _ _ => GCell.sz_ok) (by omega) p3⟩
theorem state_set {xs : List GState} {i : Nat} (h : i < xs.length) (y : GState) : splice (flat xs) (i * 4) [.im y.know.length (flat y.know), .im y.tallies.length (flat y.tallies), .im y.lives.length (flat y.lives), .im y.cs.length (flat y.cs)] = flat (xs.set i y) := flat_set h y
@[simp high] theorem state_put {xs : List GState} {i : Nat} (h : i < xs.length) (y1 : List Int) (y2 : List GTally) (y3 : List GLive) (y4 : List GCell) : List.take (i * 4) (flat xs) ++ (PV.im y1.length (flat y1) :: PV.im y2.length (flat y2) :: PV.im y3.length (flat y3) :: PV.im y4.length (flat y4) :: List.drop (i * 4 + 4) (flat xs)) = flat (xs.set i ⟨y1, y2, y3, y4⟩) := by
  have := state_set h (⟨y1, y2, y3, y4⟩ : GState)
  simpa [splice] using this

@[ext] structure GDelta where
  base : List Int
  know : List Int
  tallies : List GTally
  lives : List GLive
  dead : List GDot
  cs : List GCell
  deriving DecidableEq

instance : Cel GDelta := ⟨6, fun x => [.im x.base.length (flat x.base), .im x.know.length (flat x.know), .im x.tallies.length (flat x.tallies), .im x.lives.length (flat x.lives), .im x.dead.length (flat x.dead), .im x.cs.length (flat x.cs)], fun _ => rfl, ⟨[], [], [], [], [], []⟩⟩
theorem delta_cells (x : GDelta) : cells x = [.im x.base.length (flat x.base), .im x.know.length (flat x.know), .im x.tallies.length (flat x.tallies), .im x.lives.length (flat x.lives), .im x.dead.length (flat x.dead), .im x.cs.length (flat x.cs)] := rfl
@[simp] theorem delta_length (xs : List GDelta) : (flat xs).length = xs.length * 6 := flat_length xs
@[simp] theorem delta_nil {xs : List GDelta} : flat xs = [] ↔ xs = [] := by
  cases xs with
  | nil => simp [flat]
  | cons x xs => simp [flat, cells]
@[simp high] theorem delta_get0 {xs : List GDelta} {i : Nat} (h : i < xs.length) : (flat xs)[i * 6]? = some (.im (nth xs i).base.length (flat (nth xs i).base)) := flat_get (j := 0) h (by decide)
@[simp high] theorem delta_get1 {xs : List GDelta} {i : Nat} (h : i < xs.length) : (flat xs)[i * 6 + 1]? = some (.im (nth xs i).know.length (flat (nth xs i).know)) := flat_get (j := 1) h (by decide)
@[simp high] theorem delta_get2 {xs : List GDelta} {i : Nat} (h : i < xs.length) : (flat xs)[i * 6 + 2]? = some (.im (nth xs i).tallies.length (flat (nth xs i).tallies)) := flat_get (j := 2) h (by decide)
@[simp high] theorem delta_get3 {xs : List GDelta} {i : Nat} (h : i < xs.length) : (flat xs)[i * 6 + 3]? = some (.im (nth xs i).lives.length (flat (nth xs i).lives)) := flat_get (j := 3) h (by decide)
@[simp high] theorem delta_get4 {xs : List GDelta} {i : Nat} (h : i < xs.length) : (flat xs)[i * 6 + 4]? = some (.im (nth xs i).dead.length (flat (nth xs i).dead)) := flat_get (j := 4) h (by decide)
@[simp high] theorem delta_get5 {xs : List GDelta} {i : Nat} (h : i < xs.length) : (flat xs)[i * 6 + 5]? = some (.im (nth xs i).cs.length (flat (nth xs i).cs)) := flat_get (j := 5) h (by decide)
@[simp high] theorem delta_one {xs : List GDelta} {i : Nat} (h : i < xs.length) : ((flat xs).drop (i * 6)).take 6 = [.im (nth xs i).base.length (flat (nth xs i).base), .im (nth xs i).know.length (flat (nth xs i).know), .im (nth xs i).tallies.length (flat (nth xs i).tallies), .im (nth xs i).lives.length (flat (nth xs i).lives), .im (nth xs i).dead.length (flat (nth xs i).dead), .im (nth xs i).cs.length (flat (nth xs i).cs)] := flat_one h
/-- Small enough. -/
def GDelta.Ok (x : GDelta) : Prop := x.base.length ≤ 1048576 ∧ x.know.length ≤ 1048576 ∧ x.tallies.length ≤ 1048576 ∧ (∀ y, y ∈ x.tallies → y.Ok) ∧ x.lives.length ≤ 1048576 ∧ (∀ y, y ∈ x.lives → y.Ok) ∧ x.dead.length ≤ 1048576 ∧ x.cs.length ≤ 1048576 ∧ (∀ y, y ∈ x.cs → y.Ok)
/-- As large as may be. -/
def GDelta.Fit (x : GDelta) : Prop := x.base.length ≤ 9223372036854775807 ∧ x.know.length ≤ 9223372036854775807 ∧ x.tallies.length ≤ 9223372036854775807 ∧ (∀ y, y ∈ x.tallies → y.Fit) ∧ x.lives.length ≤ 9223372036854775807 ∧ (∀ y, y ∈ x.lives → y.Fit) ∧ x.dead.length ≤ 9223372036854775807 ∧ x.cs.length ≤ 9223372036854775807 ∧ (∀ y, y ∈ x.cs → y.Fit)
def GDelta.sz (x : GDelta) (l : Int) : Int := szq (szLen x.base l) fun l => szq (szLen x.know l) fun l => szq (szS GTally.sz x.tallies l) fun l => szq (szS GLive.sz x.lives l) fun l => szq (szLen x.dead l) fun l => szq (szS GCell.sz x.cs l) fun l => l
theorem GDelta.sz_le (x : GDelta) (l : Int) (h : 0 ≤ l) : x.sz l ≤ l := by
  unfold GDelta.sz
  have hl : l ≤ l := Int.le_refl l
  refine szq_le (Int.le_trans (szLen_le _ _ (by assumption)) (by assumption)) h fun _ _ => ?_
  refine szq_le (Int.le_trans (szLen_le _ _ (by assumption)) (by assumption)) h fun _ _ => ?_
  refine szq_le (Int.le_trans (szS_le GTally.sz_le _ _ (by assumption)) (by assumption)) h fun _ _ => ?_
  refine szq_le (Int.le_trans (szS_le GLive.sz_le _ _ (by assumption)) (by assumption)) h fun _ _ => ?_
  refine szq_le (Int.le_trans (szLen_le _ _ (by assumption)) (by assumption)) h fun _ _ => ?_
  refine szq_le (Int.le_trans (szS_le GCell.sz_le _ _ (by assumption)) (by assumption)) h fun _ _ => ?_
  assumption
theorem GDelta.sz_ok {x : GDelta} {l : Int} (h0 : 0 ≤ l) (h1 : l ≤ 1048576) (h : 0 ≤ x.sz l) : x.Ok := by
  unfold GDelta.sz at h
  unfold GDelta.Ok
  obtain ⟨p0, h⟩ := szq_pos h
  obtain ⟨p1, h⟩ := szq_pos h
  obtain ⟨p2, h⟩ := szq_pos h
  obtain ⟨p3, h⟩ := szq_pos h
  obtain ⟨p4, h⟩ := szq_pos h
  obtain ⟨p5, h⟩ := szq_pos h
  have q0 := szLen_le x.base _ h0
  have b0 := szLen_len p0
  have q1 := szLen_le x.know _ p0
  have b1 := szLen_len p1
  have q2 := szS_le GTally.sz_le x.tallies _ p1
  have b2 := szS_len p2
  have q3 := szS_le GLive.sz_le x.lives _ p2
  have b3 := szS_len p3
  have q4 := szLen_le x.dead _ p3
  have b4 := szLen_len p4
  have q5 := szS_le GCell.sz_le x.cs _ p4
  have b5 := szS_len p5
  exact ⟨by omega, by omega, by omega, szS_all GTally.sz_le (fun _ _ => GTally.sz_ok) (by omega) p2, by omega, szS_all GLive.sz_le (fun _ _ => GLive.sz_ok) (by omega) p3, by omega, by omega, szS_all GCell.sz_le (fun _ _ => GCell.sz_ok) (by omega) p5⟩
theorem delta_set {xs : List GDelta} {i : Nat} (h : i < xs.length) (y : GDelta) : splice (flat xs) (i * 6) [.im y.base.length (flat y.base), .im y.know.length (flat y.know), .im y.tallies.length (flat y.tallies), .im y.lives.length (flat y.lives), .im y.dead.length (flat y.dead), .im y.cs.length (flat y.cs)] = flat (xs.set i y) := flat_set h y
@[simp high] theorem delta_put {xs : List GDelta} {i : Nat} (h : i < xs.length) (y1 : List Int) (y2 : List Int) (y3 : List GTally) (y4 : List GLive) (y5 : List GDot) (y6 : List GCell) : List.take (i * 6) (flat xs) ++ (PV.im y1.length (flat y1) :: PV.im y2.length (flat y2) :: PV.im y3.length (flat y3) :: PV.im y4.length (flat y4) :: PV.im y5.length (flat y5) :: PV.im y6.length (flat y6) :: List.drop (i * 6 + 6) (flat xs)) = flat (xs.set i ⟨y1, y2, y3, y4, y5, y6⟩) := by
  have := delta_set h (⟨y1, y2, y3, y4, y5, y6⟩ : GDelta)
  simpa [splice] using this

@[ext] structure GCommit where
  id : GDot
  ups : List Int
  state : GState
  deriving DecidableEq

instance : Cel GCommit := ⟨7, fun x => [.int .i64 x.id.rep, .int .i64 x.id.seq, .im x.ups.length (flat x.ups), .im x.state.know.length (flat x.state.know), .im x.state.tallies.length (flat x.state.tallies), .im x.state.lives.length (flat x.state.lives), .im x.state.cs.length (flat x.state.cs)], fun _ => rfl, ⟨⟨0, 0⟩, [], ⟨[], [], [], []⟩⟩⟩
theorem commit_cells (x : GCommit) : cells x = [.int .i64 x.id.rep, .int .i64 x.id.seq, .im x.ups.length (flat x.ups), .im x.state.know.length (flat x.state.know), .im x.state.tallies.length (flat x.state.tallies), .im x.state.lives.length (flat x.state.lives), .im x.state.cs.length (flat x.state.cs)] := rfl
@[simp] theorem commit_length (xs : List GCommit) : (flat xs).length = xs.length * 7 := flat_length xs
@[simp] theorem commit_nil {xs : List GCommit} : flat xs = [] ↔ xs = [] := by
  cases xs with
  | nil => simp [flat]
  | cons x xs => simp [flat, cells]
@[simp high] theorem commit_get0 {xs : List GCommit} {i : Nat} (h : i < xs.length) : (flat xs)[i * 7]? = some (.int .i64 (nth xs i).id.rep) := flat_get (j := 0) h (by decide)
@[simp high] theorem commit_get1 {xs : List GCommit} {i : Nat} (h : i < xs.length) : (flat xs)[i * 7 + 1]? = some (.int .i64 (nth xs i).id.seq) := flat_get (j := 1) h (by decide)
@[simp high] theorem commit_get2 {xs : List GCommit} {i : Nat} (h : i < xs.length) : (flat xs)[i * 7 + 2]? = some (.im (nth xs i).ups.length (flat (nth xs i).ups)) := flat_get (j := 2) h (by decide)
@[simp high] theorem commit_get3 {xs : List GCommit} {i : Nat} (h : i < xs.length) : (flat xs)[i * 7 + 3]? = some (.im (nth xs i).state.know.length (flat (nth xs i).state.know)) := flat_get (j := 3) h (by decide)
@[simp high] theorem commit_get4 {xs : List GCommit} {i : Nat} (h : i < xs.length) : (flat xs)[i * 7 + 4]? = some (.im (nth xs i).state.tallies.length (flat (nth xs i).state.tallies)) := flat_get (j := 4) h (by decide)
@[simp high] theorem commit_get5 {xs : List GCommit} {i : Nat} (h : i < xs.length) : (flat xs)[i * 7 + 5]? = some (.im (nth xs i).state.lives.length (flat (nth xs i).state.lives)) := flat_get (j := 5) h (by decide)
@[simp high] theorem commit_get6 {xs : List GCommit} {i : Nat} (h : i < xs.length) : (flat xs)[i * 7 + 6]? = some (.im (nth xs i).state.cs.length (flat (nth xs i).state.cs)) := flat_get (j := 6) h (by decide)
@[simp high] theorem commit_one {xs : List GCommit} {i : Nat} (h : i < xs.length) : ((flat xs).drop (i * 7)).take 7 = [.int .i64 (nth xs i).id.rep, .int .i64 (nth xs i).id.seq, .im (nth xs i).ups.length (flat (nth xs i).ups), .im (nth xs i).state.know.length (flat (nth xs i).state.know), .im (nth xs i).state.tallies.length (flat (nth xs i).state.tallies), .im (nth xs i).state.lives.length (flat (nth xs i).state.lives), .im (nth xs i).state.cs.length (flat (nth xs i).state.cs)] := flat_one h
/-- Small enough. -/
def GCommit.Ok (x : GCommit) : Prop := x.ups.length ≤ 1048576 ∧ x.state.Ok
/-- As large as may be. -/
def GCommit.Fit (x : GCommit) : Prop := x.ups.length ≤ 9223372036854775807 ∧ x.state.Fit
def GCommit.sz (x : GCommit) (l : Int) : Int := szq (szLen x.ups l) fun l => szq (x.state.sz l) fun l => l
theorem GCommit.sz_le (x : GCommit) (l : Int) (h : 0 ≤ l) : x.sz l ≤ l := by
  unfold GCommit.sz
  have hl : l ≤ l := Int.le_refl l
  refine szq_le (Int.le_trans (szLen_le _ _ (by assumption)) (by assumption)) h fun _ _ => ?_
  refine szq_le (Int.le_trans (GState.sz_le _ _ (by assumption)) (by assumption)) h fun _ _ => ?_
  assumption
theorem GCommit.sz_ok {x : GCommit} {l : Int} (h0 : 0 ≤ l) (h1 : l ≤ 1048576) (h : 0 ≤ x.sz l) : x.Ok := by
  unfold GCommit.sz at h
  unfold GCommit.Ok
  obtain ⟨p0, h⟩ := szq_pos h
  obtain ⟨p1, h⟩ := szq_pos h
  have q0 := szLen_le x.ups _ h0
  have b0 := szLen_len p0
  have q1 := GState.sz_le x.state _ p0
  exact ⟨by omega, GState.sz_ok p0 (by omega) p1⟩
@[simp high] theorem commit_sub_id {xs : List GCommit} {i : Nat} (h : i < xs.length) : ((flat xs).drop (i * 7)).take 2 = [.int .i64 (nth xs i).id.rep, .int .i64 (nth xs i).id.seq] := by
  have h1 : ((flat xs).drop (i * 7 + 0)).take 2 = (((flat xs).drop (i * 7)).take 7 |>.drop 0).take 2 := by
    rw [List.drop_take, List.take_take, List.drop_drop]
    rfl
  exact h1.trans (by rw [commit_one h]; rfl)
@[simp high] theorem commit_sub_state {xs : List GCommit} {i : Nat} (h : i < xs.length) : ((flat xs).drop (i * 7 + 3)).take 4 = [.im (nth xs i).state.know.length (flat (nth xs i).state.know), .im (nth xs i).state.tallies.length (flat (nth xs i).state.tallies), .im (nth xs i).state.lives.length (flat (nth xs i).state.lives), .im (nth xs i).state.cs.length (flat (nth xs i).state.cs)] := by
  have h1 : ((flat xs).drop (i * 7 + 3)).take 4 = (((flat xs).drop (i * 7)).take 7 |>.drop 3).take 4 := by
    rw [List.drop_take, List.take_take, List.drop_drop]
    rfl
  exact h1.trans (by rw [commit_one h]; rfl)
theorem commit_set {xs : List GCommit} {i : Nat} (h : i < xs.length) (y : GCommit) : splice (flat xs) (i * 7) [.int .i64 y.id.rep, .int .i64 y.id.seq, .im y.ups.length (flat y.ups), .im y.state.know.length (flat y.state.know), .im y.state.tallies.length (flat y.state.tallies), .im y.state.lives.length (flat y.state.lives), .im y.state.cs.length (flat y.state.cs)] = flat (xs.set i y) := flat_set h y
@[simp high] theorem commit_put {xs : List GCommit} {i : Nat} (h : i < xs.length) (y1 : Int) (y2 : Int) (y3 : List Int) (y4 : List Int) (y5 : List GTally) (y6 : List GLive) (y7 : List GCell) : List.take (i * 7) (flat xs) ++ (PV.int .i64 y1 :: PV.int .i64 y2 :: PV.im y3.length (flat y3) :: PV.im y4.length (flat y4) :: PV.im y5.length (flat y5) :: PV.im y6.length (flat y6) :: PV.im y7.length (flat y7) :: List.drop (i * 7 + 7) (flat xs)) = flat (xs.set i ⟨⟨y1, y2⟩, y3, ⟨y4, y5, y6, y7⟩⟩) := by
  have := commit_set h (⟨⟨y1, y2⟩, y3, ⟨y4, y5, y6, y7⟩⟩ : GCommit)
  simpa [splice] using this

@[ext] structure GGraph where
  commits : List GCommit
  head : Int
  deriving DecidableEq

instance : Cel GGraph := ⟨2, fun x => [.im x.commits.length (flat x.commits), .int .i64 x.head], fun _ => rfl, ⟨[], 0⟩⟩
theorem graph_cells (x : GGraph) : cells x = [.im x.commits.length (flat x.commits), .int .i64 x.head] := rfl
@[simp] theorem graph_length (xs : List GGraph) : (flat xs).length = xs.length * 2 := flat_length xs
@[simp] theorem graph_nil {xs : List GGraph} : flat xs = [] ↔ xs = [] := by
  cases xs with
  | nil => simp [flat]
  | cons x xs => simp [flat, cells]
@[simp high] theorem graph_get0 {xs : List GGraph} {i : Nat} (h : i < xs.length) : (flat xs)[i * 2]? = some (.im (nth xs i).commits.length (flat (nth xs i).commits)) := flat_get (j := 0) h (by decide)
@[simp high] theorem graph_get1 {xs : List GGraph} {i : Nat} (h : i < xs.length) : (flat xs)[i * 2 + 1]? = some (.int .i64 (nth xs i).head) := flat_get (j := 1) h (by decide)
@[simp high] theorem graph_one {xs : List GGraph} {i : Nat} (h : i < xs.length) : ((flat xs).drop (i * 2)).take 2 = [.im (nth xs i).commits.length (flat (nth xs i).commits), .int .i64 (nth xs i).head] := flat_one h
/-- Small enough. -/
def GGraph.Ok (x : GGraph) : Prop := x.commits.length ≤ 1048576 ∧ (∀ y, y ∈ x.commits → y.Ok)
/-- As large as may be. -/
def GGraph.Fit (x : GGraph) : Prop := x.commits.length ≤ 9223372036854775807 ∧ (∀ y, y ∈ x.commits → y.Fit)
def GGraph.sz (x : GGraph) (l : Int) : Int := szq (szS GCommit.sz x.commits l) fun l => l
theorem GGraph.sz_le (x : GGraph) (l : Int) (h : 0 ≤ l) : x.sz l ≤ l := by
  unfold GGraph.sz
  have hl : l ≤ l := Int.le_refl l
  refine szq_le (Int.le_trans (szS_le GCommit.sz_le _ _ (by assumption)) (by assumption)) h fun _ _ => ?_
  assumption
theorem GGraph.sz_ok {x : GGraph} {l : Int} (h0 : 0 ≤ l) (h1 : l ≤ 1048576) (h : 0 ≤ x.sz l) : x.Ok := by
  unfold GGraph.sz at h
  unfold GGraph.Ok
  obtain ⟨p0, h⟩ := szq_pos h
  have q0 := szS_le GCommit.sz_le x.commits _ h0
  have b0 := szS_len p0
  exact ⟨by omega, szS_all GCommit.sz_le (fun _ _ => GCommit.sz_ok) (by omega) p0⟩
theorem graph_set {xs : List GGraph} {i : Nat} (h : i < xs.length) (y : GGraph) : splice (flat xs) (i * 2) [.im y.commits.length (flat y.commits), .int .i64 y.head] = flat (xs.set i y) := flat_set h y
@[simp high] theorem graph_put {xs : List GGraph} {i : Nat} (h : i < xs.length) (y1 : List GCommit) (y2 : Int) : List.take (i * 2) (flat xs) ++ (PV.im y1.length (flat y1) :: PV.int .i64 y2 :: List.drop (i * 2 + 2) (flat xs)) = flat (xs.set i ⟨y1, y2⟩) := by
  have := graph_set h (⟨y1, y2⟩ : GGraph)
  simpa [splice] using this

@[ext] structure GUnit where
  batch : Bool
  act : GAct
  delta : GDelta
  deriving DecidableEq

instance : Cel GUnit := ⟨17, fun x => [.bool x.batch, .int .i64 x.act.dot.rep, .int .i64 x.act.dot.seq, .int .i64 x.act.time, .im x.act.knew.length (flat x.act.knew), .int .i64 x.act.kind, .str x.act.obj, .str x.act.key, .int .i64 x.act.val, .int .i64 x.act.ref.rep, .int .i64 x.act.ref.seq, .im x.delta.base.length (flat x.delta.base), .im x.delta.know.length (flat x.delta.know), .im x.delta.tallies.length (flat x.delta.tallies), .im x.delta.lives.length (flat x.delta.lives), .im x.delta.dead.length (flat x.delta.dead), .im x.delta.cs.length (flat x.delta.cs)], fun _ => rfl, ⟨false, ⟨⟨0, 0⟩, 0, [], 0, ⟨#[]⟩, ⟨#[]⟩, 0, ⟨0, 0⟩⟩, ⟨[], [], [], [], [], []⟩⟩⟩
theorem unit_cells (x : GUnit) : cells x = [.bool x.batch, .int .i64 x.act.dot.rep, .int .i64 x.act.dot.seq, .int .i64 x.act.time, .im x.act.knew.length (flat x.act.knew), .int .i64 x.act.kind, .str x.act.obj, .str x.act.key, .int .i64 x.act.val, .int .i64 x.act.ref.rep, .int .i64 x.act.ref.seq, .im x.delta.base.length (flat x.delta.base), .im x.delta.know.length (flat x.delta.know), .im x.delta.tallies.length (flat x.delta.tallies), .im x.delta.lives.length (flat x.delta.lives), .im x.delta.dead.length (flat x.delta.dead), .im x.delta.cs.length (flat x.delta.cs)] := rfl
@[simp] theorem unit_length (xs : List GUnit) : (flat xs).length = xs.length * 17 := flat_length xs
@[simp] theorem unit_nil {xs : List GUnit} : flat xs = [] ↔ xs = [] := by
  cases xs with
  | nil => simp [flat]
  | cons x xs => simp [flat, cells]
@[simp high] theorem unit_get0 {xs : List GUnit} {i : Nat} (h : i < xs.length) : (flat xs)[i * 17]? = some (.bool (nth xs i).batch) := flat_get (j := 0) h (by decide)
@[simp high] theorem unit_get1 {xs : List GUnit} {i : Nat} (h : i < xs.length) : (flat xs)[i * 17 + 1]? = some (.int .i64 (nth xs i).act.dot.rep) := flat_get (j := 1) h (by decide)
@[simp high] theorem unit_get2 {xs : List GUnit} {i : Nat} (h : i < xs.length) : (flat xs)[i * 17 + 2]? = some (.int .i64 (nth xs i).act.dot.seq) := flat_get (j := 2) h (by decide)
@[simp high] theorem unit_get3 {xs : List GUnit} {i : Nat} (h : i < xs.length) : (flat xs)[i * 17 + 3]? = some (.int .i64 (nth xs i).act.time) := flat_get (j := 3) h (by decide)
@[simp high] theorem unit_get4 {xs : List GUnit} {i : Nat} (h : i < xs.length) : (flat xs)[i * 17 + 4]? = some (.im (nth xs i).act.knew.length (flat (nth xs i).act.knew)) := flat_get (j := 4) h (by decide)
@[simp high] theorem unit_get5 {xs : List GUnit} {i : Nat} (h : i < xs.length) : (flat xs)[i * 17 + 5]? = some (.int .i64 (nth xs i).act.kind) := flat_get (j := 5) h (by decide)
@[simp high] theorem unit_get6 {xs : List GUnit} {i : Nat} (h : i < xs.length) : (flat xs)[i * 17 + 6]? = some (.str (nth xs i).act.obj) := flat_get (j := 6) h (by decide)
@[simp high] theorem unit_get7 {xs : List GUnit} {i : Nat} (h : i < xs.length) : (flat xs)[i * 17 + 7]? = some (.str (nth xs i).act.key) := flat_get (j := 7) h (by decide)
@[simp high] theorem unit_get8 {xs : List GUnit} {i : Nat} (h : i < xs.length) : (flat xs)[i * 17 + 8]? = some (.int .i64 (nth xs i).act.val) := flat_get (j := 8) h (by decide)
@[simp high] theorem unit_get9 {xs : List GUnit} {i : Nat} (h : i < xs.length) : (flat xs)[i * 17 + 9]? = some (.int .i64 (nth xs i).act.ref.rep) := flat_get (j := 9) h (by decide)
@[simp high] theorem unit_get10 {xs : List GUnit} {i : Nat} (h : i < xs.length) : (flat xs)[i * 17 + 10]? = some (.int .i64 (nth xs i).act.ref.seq) := flat_get (j := 10) h (by decide)
@[simp high] theorem unit_get11 {xs : List GUnit} {i : Nat} (h : i < xs.length) : (flat xs)[i * 17 + 11]? = some (.im (nth xs i).delta.base.length (flat (nth xs i).delta.base)) := flat_get (j := 11) h (by decide)
@[simp high] theorem unit_get12 {xs : List GUnit} {i : Nat} (h : i < xs.length) : (flat xs)[i * 17 + 12]? = some (.im (nth xs i).delta.know.length (flat (nth xs i).delta.know)) := flat_get (j := 12) h (by decide)
@[simp high] theorem unit_get13 {xs : List GUnit} {i : Nat} (h : i < xs.length) : (flat xs)[i * 17 + 13]? = some (.im (nth xs i).delta.tallies.length (flat (nth xs i).delta.tallies)) := flat_get (j := 13) h (by decide)
@[simp high] theorem unit_get14 {xs : List GUnit} {i : Nat} (h : i < xs.length) : (flat xs)[i * 17 + 14]? = some (.im (nth xs i).delta.lives.length (flat (nth xs i).delta.lives)) := flat_get (j := 14) h (by decide)
@[simp high] theorem unit_get15 {xs : List GUnit} {i : Nat} (h : i < xs.length) : (flat xs)[i * 17 + 15]? = some (.im (nth xs i).delta.dead.length (flat (nth xs i).delta.dead)) := flat_get (j := 15) h (by decide)
@[simp high] theorem unit_get16 {xs : List GUnit} {i : Nat} (h : i < xs.length) : (flat xs)[i * 17 + 16]? = some (.im (nth xs i).delta.cs.length (flat (nth xs i).delta.cs)) := flat_get (j := 16) h (by decide)
@[simp high] theorem unit_one {xs : List GUnit} {i : Nat} (h : i < xs.length) : ((flat xs).drop (i * 17)).take 17 = [.bool (nth xs i).batch, .int .i64 (nth xs i).act.dot.rep, .int .i64 (nth xs i).act.dot.seq, .int .i64 (nth xs i).act.time, .im (nth xs i).act.knew.length (flat (nth xs i).act.knew), .int .i64 (nth xs i).act.kind, .str (nth xs i).act.obj, .str (nth xs i).act.key, .int .i64 (nth xs i).act.val, .int .i64 (nth xs i).act.ref.rep, .int .i64 (nth xs i).act.ref.seq, .im (nth xs i).delta.base.length (flat (nth xs i).delta.base), .im (nth xs i).delta.know.length (flat (nth xs i).delta.know), .im (nth xs i).delta.tallies.length (flat (nth xs i).delta.tallies), .im (nth xs i).delta.lives.length (flat (nth xs i).delta.lives), .im (nth xs i).delta.dead.length (flat (nth xs i).delta.dead), .im (nth xs i).delta.cs.length (flat (nth xs i).delta.cs)] := flat_one h
/-- Small enough. -/
def GUnit.Ok (x : GUnit) : Prop := x.act.Ok ∧ x.delta.Ok
/-- As large as may be. -/
def GUnit.Fit (x : GUnit) : Prop := x.act.Fit ∧ x.delta.Fit
def GUnit.sz (x : GUnit) (l : Int) : Int := szq (x.act.sz l) fun l => szq (x.delta.sz l) fun l => l
theorem GUnit.sz_le (x : GUnit) (l : Int) (h : 0 ≤ l) : x.sz l ≤ l := by
  unfold GUnit.sz
  have hl : l ≤ l := Int.le_refl l
  refine szq_le (Int.le_trans (GAct.sz_le _ _ (by assumption)) (by assumption)) h fun _ _ => ?_
  refine szq_le (Int.le_trans (GDelta.sz_le _ _ (by assumption)) (by assumption)) h fun _ _ => ?_
  assumption
theorem GUnit.sz_ok {x : GUnit} {l : Int} (h0 : 0 ≤ l) (h1 : l ≤ 1048576) (h : 0 ≤ x.sz l) : x.Ok := by
  unfold GUnit.sz at h
  unfold GUnit.Ok
  obtain ⟨p0, h⟩ := szq_pos h
  obtain ⟨p1, h⟩ := szq_pos h
  have q0 := GAct.sz_le x.act _ h0
  have q1 := GDelta.sz_le x.delta _ p0
  exact ⟨GAct.sz_ok h0 (by omega) p0, GDelta.sz_ok p0 (by omega) p1⟩
@[simp high] theorem unit_sub_act {xs : List GUnit} {i : Nat} (h : i < xs.length) : ((flat xs).drop (i * 17 + 1)).take 10 = [.int .i64 (nth xs i).act.dot.rep, .int .i64 (nth xs i).act.dot.seq, .int .i64 (nth xs i).act.time, .im (nth xs i).act.knew.length (flat (nth xs i).act.knew), .int .i64 (nth xs i).act.kind, .str (nth xs i).act.obj, .str (nth xs i).act.key, .int .i64 (nth xs i).act.val, .int .i64 (nth xs i).act.ref.rep, .int .i64 (nth xs i).act.ref.seq] := by
  have h1 : ((flat xs).drop (i * 17 + 1)).take 10 = (((flat xs).drop (i * 17)).take 17 |>.drop 1).take 10 := by
    rw [List.drop_take, List.take_take, List.drop_drop]
    rfl
  exact h1.trans (by rw [unit_one h]; rfl)
@[simp high] theorem unit_sub_delta {xs : List GUnit} {i : Nat} (h : i < xs.length) : ((flat xs).drop (i * 17 + 11)).take 6 = [.im (nth xs i).delta.base.length (flat (nth xs i).delta.base), .im (nth xs i).delta.know.length (flat (nth xs i).delta.know), .im (nth xs i).delta.tallies.length (flat (nth xs i).delta.tallies), .im (nth xs i).delta.lives.length (flat (nth xs i).delta.lives), .im (nth xs i).delta.dead.length (flat (nth xs i).delta.dead), .im (nth xs i).delta.cs.length (flat (nth xs i).delta.cs)] := by
  have h1 : ((flat xs).drop (i * 17 + 11)).take 6 = (((flat xs).drop (i * 17)).take 17 |>.drop 11).take 6 := by
    rw [List.drop_take, List.take_take, List.drop_drop]
    rfl
  exact h1.trans (by rw [unit_one h]; rfl)
theorem unit_set {xs : List GUnit} {i : Nat} (h : i < xs.length) (y : GUnit) : splice (flat xs) (i * 17) [.bool y.batch, .int .i64 y.act.dot.rep, .int .i64 y.act.dot.seq, .int .i64 y.act.time, .im y.act.knew.length (flat y.act.knew), .int .i64 y.act.kind, .str y.act.obj, .str y.act.key, .int .i64 y.act.val, .int .i64 y.act.ref.rep, .int .i64 y.act.ref.seq, .im y.delta.base.length (flat y.delta.base), .im y.delta.know.length (flat y.delta.know), .im y.delta.tallies.length (flat y.delta.tallies), .im y.delta.lives.length (flat y.delta.lives), .im y.delta.dead.length (flat y.delta.dead), .im y.delta.cs.length (flat y.delta.cs)] = flat (xs.set i y) := flat_set h y
@[simp high] theorem unit_put {xs : List GUnit} {i : Nat} (h : i < xs.length) (y1 : Bool) (y2 : Int) (y3 : Int) (y4 : Int) (y5 : List Int) (y6 : Int) (y7 : ByteArray) (y8 : ByteArray) (y9 : Int) (y10 : Int) (y11 : Int) (y12 : List Int) (y13 : List Int) (y14 : List GTally) (y15 : List GLive) (y16 : List GDot) (y17 : List GCell) : List.take (i * 17) (flat xs) ++ (PV.bool y1 :: PV.int .i64 y2 :: PV.int .i64 y3 :: PV.int .i64 y4 :: PV.im y5.length (flat y5) :: PV.int .i64 y6 :: PV.str y7 :: PV.str y8 :: PV.int .i64 y9 :: PV.int .i64 y10 :: PV.int .i64 y11 :: PV.im y12.length (flat y12) :: PV.im y13.length (flat y13) :: PV.im y14.length (flat y14) :: PV.im y15.length (flat y15) :: PV.im y16.length (flat y16) :: PV.im y17.length (flat y17) :: List.drop (i * 17 + 17) (flat xs)) = flat (xs.set i ⟨y1, ⟨⟨y2, y3⟩, y4, y5, y6, y7, y8, y9, ⟨y10, y11⟩⟩, ⟨y12, y13, y14, y15, y16, y17⟩⟩) := by
  have := unit_set h (⟨y1, ⟨⟨y2, y3⟩, y4, y5, y6, y7, y8, y9, ⟨y10, y11⟩⟩, ⟨y12, y13, y14, y15, y16, y17⟩⟩ : GUnit)
  simpa [splice] using this

@[ext] structure GLog where
  rep : Int
  time : Int
  state : GState
  units : List GUnit
  waits : List GUnit
  deriving DecidableEq

instance : Cel GLog := ⟨8, fun x => [.int .i64 x.rep, .int .i64 x.time, .im x.state.know.length (flat x.state.know), .im x.state.tallies.length (flat x.state.tallies), .im x.state.lives.length (flat x.state.lives), .im x.state.cs.length (flat x.state.cs), .im x.units.length (flat x.units), .im x.waits.length (flat x.waits)], fun _ => rfl, ⟨0, 0, ⟨[], [], [], []⟩, [], []⟩⟩
theorem log_cells (x : GLog) : cells x = [.int .i64 x.rep, .int .i64 x.time, .im x.state.know.length (flat x.state.know), .im x.state.tallies.length (flat x.state.tallies), .im x.state.lives.length (flat x.state.lives), .im x.state.cs.length (flat x.state.cs), .im x.units.length (flat x.units), .im x.waits.length (flat x.waits)] := rfl
@[simp] theorem log_length (xs : List GLog) : (flat xs).length = xs.length * 8 := flat_length xs
@[simp] theorem log_nil {xs : List GLog} : flat xs = [] ↔ xs = [] := by
  cases xs with
  | nil => simp [flat]
  | cons x xs => simp [flat, cells]
@[simp high] theorem log_get0 {xs : List GLog} {i : Nat} (h : i < xs.length) : (flat xs)[i * 8]? = some (.int .i64 (nth xs i).rep) := flat_get (j := 0) h (by decide)
@[simp high] theorem log_get1 {xs : List GLog} {i : Nat} (h : i < xs.length) : (flat xs)[i * 8 + 1]? = some (.int .i64 (nth xs i).time) := flat_get (j := 1) h (by decide)
@[simp high] theorem log_get2 {xs : List GLog} {i : Nat} (h : i < xs.length) : (flat xs)[i * 8 + 2]? = some (.im (nth xs i).state.know.length (flat (nth xs i).state.know)) := flat_get (j := 2) h (by decide)
@[simp high] theorem log_get3 {xs : List GLog} {i : Nat} (h : i < xs.length) : (flat xs)[i * 8 + 3]? = some (.im (nth xs i).state.tallies.length (flat (nth xs i).state.tallies)) := flat_get (j := 3) h (by decide)
@[simp high] theorem log_get4 {xs : List GLog} {i : Nat} (h : i < xs.length) : (flat xs)[i * 8 + 4]? = some (.im (nth xs i).state.lives.length (flat (nth xs i).state.lives)) := flat_get (j := 4) h (by decide)
@[simp high] theorem log_get5 {xs : List GLog} {i : Nat} (h : i < xs.length) : (flat xs)[i * 8 + 5]? = some (.im (nth xs i).state.cs.length (flat (nth xs i).state.cs)) := flat_get (j := 5) h (by decide)
@[simp high] theorem log_get6 {xs : List GLog} {i : Nat} (h : i < xs.length) : (flat xs)[i * 8 + 6]? = some (.im (nth xs i).units.length (flat (nth xs i).units)) := flat_get (j := 6) h (by decide)
@[simp high] theorem log_get7 {xs : List GLog} {i : Nat} (h : i < xs.length) : (flat xs)[i * 8 + 7]? = some (.im (nth xs i).waits.length (flat (nth xs i).waits)) := flat_get (j := 7) h (by decide)
@[simp high] theorem log_one {xs : List GLog} {i : Nat} (h : i < xs.length) : ((flat xs).drop (i * 8)).take 8 = [.int .i64 (nth xs i).rep, .int .i64 (nth xs i).time, .im (nth xs i).state.know.length (flat (nth xs i).state.know), .im (nth xs i).state.tallies.length (flat (nth xs i).state.tallies), .im (nth xs i).state.lives.length (flat (nth xs i).state.lives), .im (nth xs i).state.cs.length (flat (nth xs i).state.cs), .im (nth xs i).units.length (flat (nth xs i).units), .im (nth xs i).waits.length (flat (nth xs i).waits)] := flat_one h
/-- Small enough. -/
def GLog.Ok (x : GLog) : Prop := x.state.Ok ∧ x.units.length ≤ 1048576 ∧ (∀ y, y ∈ x.units → y.Ok) ∧ x.waits.length ≤ 1048576 ∧ (∀ y, y ∈ x.waits → y.Ok)
/-- As large as may be. -/
def GLog.Fit (x : GLog) : Prop := x.state.Fit ∧ x.units.length ≤ 9223372036854775807 ∧ (∀ y, y ∈ x.units → y.Fit) ∧ x.waits.length ≤ 9223372036854775807 ∧ (∀ y, y ∈ x.waits → y.Fit)
def GLog.sz (x : GLog) (l : Int) : Int := szq (x.state.sz l) fun l => szq (szS GUnit.sz x.units l) fun l => szq (szS GUnit.sz x.waits l) fun l => l
theorem GLog.sz_le (x : GLog) (l : Int) (h : 0 ≤ l) : x.sz l ≤ l := by
  unfold GLog.sz
  have hl : l ≤ l := Int.le_refl l
  refine szq_le (Int.le_trans (GState.sz_le _ _ (by assumption)) (by assumption)) h fun _ _ => ?_
  refine szq_le (Int.le_trans (szS_le GUnit.sz_le _ _ (by assumption)) (by assumption)) h fun _ _ => ?_
  refine szq_le (Int.le_trans (szS_le GUnit.sz_le _ _ (by assumption)) (by assumption)) h fun _ _ => ?_
  assumption
theorem GLog.sz_ok {x : GLog} {l : Int} (h0 : 0 ≤ l) (h1 : l ≤ 1048576) (h : 0 ≤ x.sz l) : x.Ok := by
  unfold GLog.sz at h
  unfold GLog.Ok
  obtain ⟨p0, h⟩ := szq_pos h
  obtain ⟨p1, h⟩ := szq_pos h
  obtain ⟨p2, h⟩ := szq_pos h
  have q0 := GState.sz_le x.state _ h0
  have q1 := szS_le GUnit.sz_le x.units _ p0
  have b1 := szS_len p1
  have q2 := szS_le GUnit.sz_le x.waits _ p1
  have b2 := szS_len p2
  exact ⟨GState.sz_ok h0 (by omega) p0, by omega, szS_all GUnit.sz_le (fun _ _ => GUnit.sz_ok) (by omega) p1, by omega, szS_all GUnit.sz_le (fun _ _ => GUnit.sz_ok) (by omega) p2⟩
@[simp high] theorem log_sub_state {xs : List GLog} {i : Nat} (h : i < xs.length) : ((flat xs).drop (i * 8 + 2)).take 4 = [.im (nth xs i).state.know.length (flat (nth xs i).state.know), .im (nth xs i).state.tallies.length (flat (nth xs i).state.tallies), .im (nth xs i).state.lives.length (flat (nth xs i).state.lives), .im (nth xs i).state.cs.length (flat (nth xs i).state.cs)] := by
  have h1 : ((flat xs).drop (i * 8 + 2)).take 4 = (((flat xs).drop (i * 8)).take 8 |>.drop 2).take 4 := by
    rw [List.drop_take, List.take_take, List.drop_drop]
    rfl
  exact h1.trans (by rw [log_one h]; rfl)
theorem log_set {xs : List GLog} {i : Nat} (h : i < xs.length) (y : GLog) : splice (flat xs) (i * 8) [.int .i64 y.rep, .int .i64 y.time, .im y.state.know.length (flat y.state.know), .im y.state.tallies.length (flat y.state.tallies), .im y.state.lives.length (flat y.state.lives), .im y.state.cs.length (flat y.state.cs), .im y.units.length (flat y.units), .im y.waits.length (flat y.waits)] = flat (xs.set i y) := flat_set h y
@[simp high] theorem log_put {xs : List GLog} {i : Nat} (h : i < xs.length) (y1 : Int) (y2 : Int) (y3 : List Int) (y4 : List GTally) (y5 : List GLive) (y6 : List GCell) (y7 : List GUnit) (y8 : List GUnit) : List.take (i * 8) (flat xs) ++ (PV.int .i64 y1 :: PV.int .i64 y2 :: PV.im y3.length (flat y3) :: PV.im y4.length (flat y4) :: PV.im y5.length (flat y5) :: PV.im y6.length (flat y6) :: PV.im y7.length (flat y7) :: PV.im y8.length (flat y8) :: List.drop (i * 8 + 8) (flat xs)) = flat (xs.set i ⟨y1, y2, ⟨y3, y4, y5, y6⟩, y7, y8⟩) := by
  have := log_set h (⟨y1, y2, ⟨y3, y4, y5, y6⟩, y7, y8⟩ : GLog)
  simpa [splice] using this

end Am
