/- The data of the program. No condition. -/
import Derived.Test.YtjbbhccphedkfaaGreatAm28
import Derived.Test.YtjbbhccphedkfaaGreatAm23
set_option linter.unusedSimpArgs false
set_option linter.unusedVariables false
set_option linter.unnecessarySimpa false
set_option linter.unusedSectionVars false
namespace Am
open Go
open Cel (cells)
@[ext] structure GDot where
  rep:Int
  seq:Int
  deriving DecidableEq
instance:Cel GDot:=⟨2,fun x => [.int .i64 x.rep,.int .i64 x.seq],fun _ => rfl,⟨0,0⟩⟩
@[simp] theorem dot_length (xs:List GDot):(flat xs).length = xs.length * 2:=flat_length xs
@[simp] theorem dot_nil {xs:List GDot}:flat xs = [] ↔ xs = []:=by
  cases xs with
  | nil => simp [flat]
  | cons x xs => simp [flat,cells]
@[simp] theorem dot_nn:flat ([]:List GDot) = []:=rfl
@[simp high] theorem dot_get0 {xs:List GDot} {i:Nat} (h:i < xs.length):(flat xs)[i * 2]? = some (.int .i64 (nth xs i).rep):=flat_get (j:=0) h (by decide)
@[simp high] theorem dot_get1 {xs:List GDot} {i:Nat} (h:i < xs.length):(flat xs)[i * 2 + 1]? = some (.int .i64 (nth xs i).seq):=flat_get (j:=1) h (by decide)
@[simp high] theorem dot_one {xs:List GDot} {i:Nat} (h:i < xs.length):((flat xs).drop (i * 2)).take 2 = [.int .i64 (nth xs i).rep,.int .i64 (nth xs i).seq]:=flat_one h
@[simp high] theorem dot_set {xs:List GDot} {i:Nat} (h:i < xs.length) (y1:Int) (y2:Int):splice (flat xs) (i * 2) [.int .i64 y1,.int .i64 y2] = flat (xs.set i ⟨y1,y2⟩):=flat_set h (⟨y1,y2⟩:GDot)
@[simp high] theorem dot_add (xs:List GDot) (y1:Int) (y2:Int):flat xs ++ [.int .i64 y1,.int .i64 y2] = flat (xs ++ [⟨y1,y2⟩]):=(flat_append xs [(⟨y1,y2⟩:GDot)]).symm
@[simp high] theorem dot_upd0 {xs:List GDot} {i:Nat} (h:i < xs.length) (v:Int):splice (flat xs) (i * 2) [.int .i64 v] = flat (xs.set i { (nth xs i) with rep:=v }):=flat_set_in (j:=0) h (by simp [Cel.k]) _ rfl
@[simp high] theorem dot_upd1 {xs:List GDot} {i:Nat} (h:i < xs.length) (v:Int):splice (flat xs) (i * 2 + 1) [.int .i64 v] = flat (xs.set i { (nth xs i) with seq:=v }):=flat_set_in (j:=1) h (by simp [Cel.k]) _ rfl
@[simp] theorem dot_free (xs:List GDot):(flat xs).all isFree = true:=flat_free (fun _ => rfl) xs
@[simp] theorem dot_frz (xs:List GDot):frzs (flat xs) = flat xs:=flat_frz (fun _ => rfl) xs
@[simp] theorem dot_rep (n:Nat):(List.replicate n [PV.int .i64 0,.int .i64 0]).flatten = flat (List.replicate n (⟨0,0⟩:GDot)):=flat_replicate n (⟨0,0⟩:GDot)
@[simp] theorem dot_noim (xs:List GDot):noIms (flat xs):=flat_noIm (fun _ => by simp [cells,noIms,noIm]) xs
@[simp] theorem dot_eta (x:GDot):(⟨x.rep,x.seq⟩:GDot) = x:=rfl
@[ext] structure GTally where
  obj:ByteArray
  rep:Int
  sum:Int
  deriving DecidableEq
instance:Cel GTally:=⟨3,fun x => [.str x.obj,.int .i64 x.rep,.int .i64 x.sum],fun _ => rfl,⟨⟨#[]⟩,0,0⟩⟩
@[simp] theorem tally_length (xs:List GTally):(flat xs).length = xs.length * 3:=flat_length xs
@[simp] theorem tally_nil {xs:List GTally}:flat xs = [] ↔ xs = []:=by
  cases xs with
  | nil => simp [flat]
  | cons x xs => simp [flat,cells]
@[simp] theorem tally_nn:flat ([]:List GTally) = []:=rfl
@[simp high] theorem tally_get0 {xs:List GTally} {i:Nat} (h:i < xs.length):(flat xs)[i * 3]? = some (.str (nth xs i).obj):=flat_get (j:=0) h (by decide)
@[simp high] theorem tally_get1 {xs:List GTally} {i:Nat} (h:i < xs.length):(flat xs)[i * 3 + 1]? = some (.int .i64 (nth xs i).rep):=flat_get (j:=1) h (by decide)
@[simp high] theorem tally_get2 {xs:List GTally} {i:Nat} (h:i < xs.length):(flat xs)[i * 3 + 2]? = some (.int .i64 (nth xs i).sum):=flat_get (j:=2) h (by decide)
@[simp high] theorem tally_one {xs:List GTally} {i:Nat} (h:i < xs.length):((flat xs).drop (i * 3)).take 3 = [.str (nth xs i).obj,.int .i64 (nth xs i).rep,.int .i64 (nth xs i).sum]:=flat_one h
@[simp high] theorem tally_set {xs:List GTally} {i:Nat} (h:i < xs.length) (y1:ByteArray) (y2:Int) (y3:Int):splice (flat xs) (i * 3) [.str y1,.int .i64 y2,.int .i64 y3] = flat (xs.set i ⟨y1,y2,y3⟩):=flat_set h (⟨y1,y2,y3⟩:GTally)
@[simp high] theorem tally_add (xs:List GTally) (y1:ByteArray) (y2:Int) (y3:Int):flat xs ++ [.str y1,.int .i64 y2,.int .i64 y3] = flat (xs ++ [⟨y1,y2,y3⟩]):=(flat_append xs [(⟨y1,y2,y3⟩:GTally)]).symm
@[simp high] theorem tally_upd0 {xs:List GTally} {i:Nat} (h:i < xs.length) (v:ByteArray):splice (flat xs) (i * 3) [.str v] = flat (xs.set i { (nth xs i) with obj:=v }):=flat_set_in (j:=0) h (by simp [Cel.k]) _ rfl
@[simp high] theorem tally_upd1 {xs:List GTally} {i:Nat} (h:i < xs.length) (v:Int):splice (flat xs) (i * 3 + 1) [.int .i64 v] = flat (xs.set i { (nth xs i) with rep:=v }):=flat_set_in (j:=1) h (by simp [Cel.k]) _ rfl
@[simp high] theorem tally_upd2 {xs:List GTally} {i:Nat} (h:i < xs.length) (v:Int):splice (flat xs) (i * 3 + 2) [.int .i64 v] = flat (xs.set i { (nth xs i) with sum:=v }):=flat_set_in (j:=2) h (by simp [Cel.k]) _ rfl
@[simp] theorem tally_free (xs:List GTally):(flat xs).all isFree = true:=flat_free (fun _ => rfl) xs
@[simp] theorem tally_frz (xs:List GTally):frzs (flat xs) = flat xs:=flat_frz (fun _ => rfl) xs
@[simp] theorem tally_rep (n:Nat):(List.replicate n [PV.str ⟨#[]⟩,.int .i64 0,.int .i64 0]).flatten = flat (List.replicate n (⟨⟨#[]⟩,0,0⟩:GTally)):=flat_replicate n (⟨⟨#[]⟩,0,0⟩:GTally)
@[simp] theorem tally_noim (xs:List GTally):noIms (flat xs):=flat_noIm (fun _ => by simp [cells,noIms,noIm]) xs
@[simp] theorem tally_eta (x:GTally):(⟨x.obj,x.rep,x.sum⟩:GTally) = x:=rfl
def GTally.Ok (x:GTally):Prop:=x.obj.size ≤ 1073741824
def GTally.sz (x:GTally) (l:Int):Int:=szq (l - x.obj.size) fun l => l
@[ext] structure GLive where
  map:Bool
  obj:ByteArray
  key:ByteArray
  val:Int
  dot:GDot
  deriving DecidableEq
instance:Cel GLive:=⟨6,fun x => [.bool x.map,.str x.obj,.str x.key,.int .i64 x.val,.int .i64 x.dot.rep,.int .i64 x.dot.seq],fun _ => rfl,⟨false,⟨#[]⟩,⟨#[]⟩,0,⟨0,0⟩⟩⟩
@[simp] theorem live_length (xs:List GLive):(flat xs).length = xs.length * 6:=flat_length xs
@[simp] theorem live_nil {xs:List GLive}:flat xs = [] ↔ xs = []:=by
  cases xs with
  | nil => simp [flat]
  | cons x xs => simp [flat,cells]
@[simp] theorem live_nn:flat ([]:List GLive) = []:=rfl
@[simp high] theorem live_get0 {xs:List GLive} {i:Nat} (h:i < xs.length):(flat xs)[i * 6]? = some (.bool (nth xs i).map):=flat_get (j:=0) h (by decide)
@[simp high] theorem live_get1 {xs:List GLive} {i:Nat} (h:i < xs.length):(flat xs)[i * 6 + 1]? = some (.str (nth xs i).obj):=flat_get (j:=1) h (by decide)
@[simp high] theorem live_get2 {xs:List GLive} {i:Nat} (h:i < xs.length):(flat xs)[i * 6 + 2]? = some (.str (nth xs i).key):=flat_get (j:=2) h (by decide)
@[simp high] theorem live_get3 {xs:List GLive} {i:Nat} (h:i < xs.length):(flat xs)[i * 6 + 3]? = some (.int .i64 (nth xs i).val):=flat_get (j:=3) h (by decide)
@[simp high] theorem live_get4 {xs:List GLive} {i:Nat} (h:i < xs.length):(flat xs)[i * 6 + 4]? = some (.int .i64 (nth xs i).dot.rep):=flat_get (j:=4) h (by decide)
@[simp high] theorem live_get5 {xs:List GLive} {i:Nat} (h:i < xs.length):(flat xs)[i * 6 + 5]? = some (.int .i64 (nth xs i).dot.seq):=flat_get (j:=5) h (by decide)
@[simp high] theorem live_one {xs:List GLive} {i:Nat} (h:i < xs.length):((flat xs).drop (i * 6)).take 6 = [.bool (nth xs i).map,.str (nth xs i).obj,.str (nth xs i).key,.int .i64 (nth xs i).val,.int .i64 (nth xs i).dot.rep,.int .i64 (nth xs i).dot.seq]:=flat_one h
@[simp high] theorem live_sub_dot {xs:List GLive} {i:Nat} (h:i < xs.length):((flat xs).drop (i * 6 + 4)).take 2 = [.int .i64 (nth xs i).dot.rep,.int .i64 (nth xs i).dot.seq]:=by
  have h1:((flat xs).drop (i * 6 + 4)).take 2 = (((flat xs).drop (i * 6)).take 6 |>.drop 4).take 2:=by
    rw [List.drop_take,List.take_take,List.drop_drop]
    rfl
  exact h1.trans (by rw [live_one h]; rfl)
@[simp high] theorem live_set {xs:List GLive} {i:Nat} (h:i < xs.length) (y1:Bool) (y2:ByteArray) (y3:ByteArray) (y4:Int) (y5:Int) (y6:Int):splice (flat xs) (i * 6) [.bool y1,.str y2,.str y3,.int .i64 y4,.int .i64 y5,.int .i64 y6] = flat (xs.set i ⟨y1,y2,y3,y4,⟨y5,y6⟩⟩):=flat_set h (⟨y1,y2,y3,y4,⟨y5,y6⟩⟩:GLive)
@[simp high] theorem live_add (xs:List GLive) (y1:Bool) (y2:ByteArray) (y3:ByteArray) (y4:Int) (y5:Int) (y6:Int):flat xs ++ [.bool y1,.str y2,.str y3,.int .i64 y4,.int .i64 y5,.int .i64 y6] = flat (xs ++ [⟨y1,y2,y3,y4,⟨y5,y6⟩⟩]):=(flat_append xs [(⟨y1,y2,y3,y4,⟨y5,y6⟩⟩:GLive)]).symm
@[simp high] theorem live_upd0 {xs:List GLive} {i:Nat} (h:i < xs.length) (v:Bool):splice (flat xs) (i * 6) [.bool v] = flat (xs.set i { (nth xs i) with map:=v }):=flat_set_in (j:=0) h (by simp [Cel.k]) _ rfl
@[simp high] theorem live_upd1 {xs:List GLive} {i:Nat} (h:i < xs.length) (v:ByteArray):splice (flat xs) (i * 6 + 1) [.str v] = flat (xs.set i { (nth xs i) with obj:=v }):=flat_set_in (j:=1) h (by simp [Cel.k]) _ rfl
@[simp high] theorem live_upd2 {xs:List GLive} {i:Nat} (h:i < xs.length) (v:ByteArray):splice (flat xs) (i * 6 + 2) [.str v] = flat (xs.set i { (nth xs i) with key:=v }):=flat_set_in (j:=2) h (by simp [Cel.k]) _ rfl
@[simp high] theorem live_upd3 {xs:List GLive} {i:Nat} (h:i < xs.length) (v:Int):splice (flat xs) (i * 6 + 3) [.int .i64 v] = flat (xs.set i { (nth xs i) with val:=v }):=flat_set_in (j:=3) h (by simp [Cel.k]) _ rfl
@[simp high] theorem live_upd4 {xs:List GLive} {i:Nat} (h:i < xs.length) (v:Int):splice (flat xs) (i * 6 + 4) [.int .i64 v] = flat (xs.set i { (nth xs i) with dot:={ (nth xs i).dot with rep:=v } }):=flat_set_in (j:=4) h (by simp [Cel.k]) _ rfl
@[simp high] theorem live_upd5 {xs:List GLive} {i:Nat} (h:i < xs.length) (v:Int):splice (flat xs) (i * 6 + 5) [.int .i64 v] = flat (xs.set i { (nth xs i) with dot:={ (nth xs i).dot with seq:=v } }):=flat_set_in (j:=5) h (by simp [Cel.k]) _ rfl
@[simp] theorem live_free (xs:List GLive):(flat xs).all isFree = true:=flat_free (fun _ => rfl) xs
@[simp] theorem live_frz (xs:List GLive):frzs (flat xs) = flat xs:=flat_frz (fun _ => rfl) xs
@[simp] theorem live_rep (n:Nat):(List.replicate n [PV.bool false,.str ⟨#[]⟩,.str ⟨#[]⟩,.int .i64 0,.int .i64 0,.int .i64 0]).flatten = flat (List.replicate n (⟨false,⟨#[]⟩,⟨#[]⟩,0,⟨0,0⟩⟩:GLive)):=flat_replicate n (⟨false,⟨#[]⟩,⟨#[]⟩,0,⟨0,0⟩⟩:GLive)
@[simp] theorem live_noim (xs:List GLive):noIms (flat xs):=flat_noIm (fun _ => by simp [cells,noIms,noIm]) xs
@[simp] theorem live_eta (x:GLive):(⟨x.map,x.obj,x.key,x.val,x.dot⟩:GLive) = x:=rfl
def GLive.Ok (x:GLive):Prop:=x.obj.size ≤ 1073741824 ∧ x.key.size ≤ 1073741824
def GLive.sz (x:GLive) (l:Int):Int:=szq (l - x.obj.size) fun l => szq (l - x.key.size) fun l => l
@[ext] structure GCell where
  obj:ByteArray
  dot:GDot
  time:Int
  ref:GDot
  val:Int
  gone:Bool
  deriving DecidableEq
instance:Cel GCell:=⟨8,fun x => [.str x.obj,.int .i64 x.dot.rep,.int .i64 x.dot.seq,.int .i64 x.time,.int .i64 x.ref.rep,.int .i64 x.ref.seq,.int .i64 x.val,.bool x.gone],fun _ => rfl,⟨⟨#[]⟩,⟨0,0⟩,0,⟨0,0⟩,0,false⟩⟩
@[simp] theorem cell_length (xs:List GCell):(flat xs).length = xs.length * 8:=flat_length xs
@[simp] theorem cell_nil {xs:List GCell}:flat xs = [] ↔ xs = []:=by
  cases xs with
  | nil => simp [flat]
  | cons x xs => simp [flat,cells]
@[simp] theorem cell_nn:flat ([]:List GCell) = []:=rfl
@[simp high] theorem cell_get0 {xs:List GCell} {i:Nat} (h:i < xs.length):(flat xs)[i * 8]? = some (.str (nth xs i).obj):=flat_get (j:=0) h (by decide)
@[simp high] theorem cell_get1 {xs:List GCell} {i:Nat} (h:i < xs.length):(flat xs)[i * 8 + 1]? = some (.int .i64 (nth xs i).dot.rep):=flat_get (j:=1) h (by decide)
@[simp high] theorem cell_get2 {xs:List GCell} {i:Nat} (h:i < xs.length):(flat xs)[i * 8 + 2]? = some (.int .i64 (nth xs i).dot.seq):=flat_get (j:=2) h (by decide)
@[simp high] theorem cell_get3 {xs:List GCell} {i:Nat} (h:i < xs.length):(flat xs)[i * 8 + 3]? = some (.int .i64 (nth xs i).time):=flat_get (j:=3) h (by decide)
@[simp high] theorem cell_get4 {xs:List GCell} {i:Nat} (h:i < xs.length):(flat xs)[i * 8 + 4]? = some (.int .i64 (nth xs i).ref.rep):=flat_get (j:=4) h (by decide)
@[simp high] theorem cell_get5 {xs:List GCell} {i:Nat} (h:i < xs.length):(flat xs)[i * 8 + 5]? = some (.int .i64 (nth xs i).ref.seq):=flat_get (j:=5) h (by decide)
@[simp high] theorem cell_get6 {xs:List GCell} {i:Nat} (h:i < xs.length):(flat xs)[i * 8 + 6]? = some (.int .i64 (nth xs i).val):=flat_get (j:=6) h (by decide)
@[simp high] theorem cell_get7 {xs:List GCell} {i:Nat} (h:i < xs.length):(flat xs)[i * 8 + 7]? = some (.bool (nth xs i).gone):=flat_get (j:=7) h (by decide)
@[simp high] theorem cell_one {xs:List GCell} {i:Nat} (h:i < xs.length):((flat xs).drop (i * 8)).take 8 = [.str (nth xs i).obj,.int .i64 (nth xs i).dot.rep,.int .i64 (nth xs i).dot.seq,.int .i64 (nth xs i).time,.int .i64 (nth xs i).ref.rep,.int .i64 (nth xs i).ref.seq,.int .i64 (nth xs i).val,.bool (nth xs i).gone]:=flat_one h
@[simp high] theorem cell_sub_dot {xs:List GCell} {i:Nat} (h:i < xs.length):((flat xs).drop (i * 8 + 1)).take 2 = [.int .i64 (nth xs i).dot.rep,.int .i64 (nth xs i).dot.seq]:=by
  have h1:((flat xs).drop (i * 8 + 1)).take 2 = (((flat xs).drop (i * 8)).take 8 |>.drop 1).take 2:=by
    rw [List.drop_take,List.take_take,List.drop_drop]
    rfl
  exact h1.trans (by rw [cell_one h]; rfl)
@[simp high] theorem cell_sub_ref {xs:List GCell} {i:Nat} (h:i < xs.length):((flat xs).drop (i * 8 + 4)).take 2 = [.int .i64 (nth xs i).ref.rep,.int .i64 (nth xs i).ref.seq]:=by
  have h1:((flat xs).drop (i * 8 + 4)).take 2 = (((flat xs).drop (i * 8)).take 8 |>.drop 4).take 2:=by
    rw [List.drop_take,List.take_take,List.drop_drop]
    rfl
  exact h1.trans (by rw [cell_one h]; rfl)
@[simp high] theorem cell_set {xs:List GCell} {i:Nat} (h:i < xs.length) (y1:ByteArray) (y2:Int) (y3:Int) (y4:Int) (y5:Int) (y6:Int) (y7:Int) (y8:Bool):splice (flat xs) (i * 8) [.str y1,.int .i64 y2,.int .i64 y3,.int .i64 y4,.int .i64 y5,.int .i64 y6,.int .i64 y7,.bool y8] = flat (xs.set i ⟨y1,⟨y2,y3⟩,y4,⟨y5,y6⟩,y7,y8⟩):=flat_set h (⟨y1,⟨y2,y3⟩,y4,⟨y5,y6⟩,y7,y8⟩:GCell)
@[simp high] theorem cell_add (xs:List GCell) (y1:ByteArray) (y2:Int) (y3:Int) (y4:Int) (y5:Int) (y6:Int) (y7:Int) (y8:Bool):flat xs ++ [.str y1,.int .i64 y2,.int .i64 y3,.int .i64 y4,.int .i64 y5,.int .i64 y6,.int .i64 y7,.bool y8] = flat (xs ++ [⟨y1,⟨y2,y3⟩,y4,⟨y5,y6⟩,y7,y8⟩]):=(flat_append xs [(⟨y1,⟨y2,y3⟩,y4,⟨y5,y6⟩,y7,y8⟩:GCell)]).symm
@[simp high] theorem cell_upd0 {xs:List GCell} {i:Nat} (h:i < xs.length) (v:ByteArray):splice (flat xs) (i * 8) [.str v] = flat (xs.set i { (nth xs i) with obj:=v }):=flat_set_in (j:=0) h (by simp [Cel.k]) _ rfl
@[simp high] theorem cell_upd1 {xs:List GCell} {i:Nat} (h:i < xs.length) (v:Int):splice (flat xs) (i * 8 + 1) [.int .i64 v] = flat (xs.set i { (nth xs i) with dot:={ (nth xs i).dot with rep:=v } }):=flat_set_in (j:=1) h (by simp [Cel.k]) _ rfl
@[simp high] theorem cell_upd2 {xs:List GCell} {i:Nat} (h:i < xs.length) (v:Int):splice (flat xs) (i * 8 + 2) [.int .i64 v] = flat (xs.set i { (nth xs i) with dot:={ (nth xs i).dot with seq:=v } }):=flat_set_in (j:=2) h (by simp [Cel.k]) _ rfl
@[simp high] theorem cell_upd3 {xs:List GCell} {i:Nat} (h:i < xs.length) (v:Int):splice (flat xs) (i * 8 + 3) [.int .i64 v] = flat (xs.set i { (nth xs i) with time:=v }):=flat_set_in (j:=3) h (by simp [Cel.k]) _ rfl
@[simp high] theorem cell_upd4 {xs:List GCell} {i:Nat} (h:i < xs.length) (v:Int):splice (flat xs) (i * 8 + 4) [.int .i64 v] = flat (xs.set i { (nth xs i) with ref:={ (nth xs i).ref with rep:=v } }):=flat_set_in (j:=4) h (by simp [Cel.k]) _ rfl
@[simp high] theorem cell_upd5 {xs:List GCell} {i:Nat} (h:i < xs.length) (v:Int):splice (flat xs) (i * 8 + 5) [.int .i64 v] = flat (xs.set i { (nth xs i) with ref:={ (nth xs i).ref with seq:=v } }):=flat_set_in (j:=5) h (by simp [Cel.k]) _ rfl
@[simp high] theorem cell_upd6 {xs:List GCell} {i:Nat} (h:i < xs.length) (v:Int):splice (flat xs) (i * 8 + 6) [.int .i64 v] = flat (xs.set i { (nth xs i) with val:=v }):=flat_set_in (j:=6) h (by simp [Cel.k]) _ rfl
@[simp high] theorem cell_upd7 {xs:List GCell} {i:Nat} (h:i < xs.length) (v:Bool):splice (flat xs) (i * 8 + 7) [.bool v] = flat (xs.set i { (nth xs i) with gone:=v }):=flat_set_in (j:=7) h (by simp [Cel.k]) _ rfl
@[simp] theorem cell_free (xs:List GCell):(flat xs).all isFree = true:=flat_free (fun _ => rfl) xs
@[simp] theorem cell_frz (xs:List GCell):frzs (flat xs) = flat xs:=flat_frz (fun _ => rfl) xs
@[simp] theorem cell_rep (n:Nat):(List.replicate n [PV.str ⟨#[]⟩,.int .i64 0,.int .i64 0,.int .i64 0,.int .i64 0,.int .i64 0,.int .i64 0,.bool false]).flatten = flat (List.replicate n (⟨⟨#[]⟩,⟨0,0⟩,0,⟨0,0⟩,0,false⟩:GCell)):=flat_replicate n (⟨⟨#[]⟩,⟨0,0⟩,0,⟨0,0⟩,0,false⟩:GCell)
@[simp] theorem cell_noim (xs:List GCell):noIms (flat xs):=flat_noIm (fun _ => by simp [cells,noIms,noIm]) xs
@[simp] theorem cell_eta (x:GCell):(⟨x.obj,x.dot,x.time,x.ref,x.val,x.gone⟩:GCell) = x:=rfl
def GCell.Ok (x:GCell):Prop:=x.obj.size ≤ 1073741824
def GCell.sz (x:GCell) (l:Int):Int:=szq (l - x.obj.size) fun l => l
@[ext] structure GAct where
  dot:GDot
  time:Int
  knew:List Int
  kind:Int
  obj:ByteArray
  key:ByteArray
  val:Int
  ref:GDot
  deriving DecidableEq
instance:Cel GAct:=⟨10,fun x => [.int .i64 x.dot.rep,.int .i64 x.dot.seq,.int .i64 x.time,.im x.knew.length (flat x.knew),.int .i64 x.kind,.str x.obj,.str x.key,.int .i64 x.val,.int .i64 x.ref.rep,.int .i64 x.ref.seq],fun _ => rfl,⟨⟨0,0⟩,0,[],0,⟨#[]⟩,⟨#[]⟩,0,⟨0,0⟩⟩⟩
instance:CelO GAct:=⟨fun x => [.int .i64 x.dot.rep,.int .i64 x.dot.seq,.int .i64 x.time,.ow 3 1 x.knew.length (flat x.knew),.int .i64 x.kind,.str x.obj,.str x.key,.int .i64 x.val,.int .i64 x.ref.rep,.int .i64 x.ref.seq],fun _ => rfl,fun x => by simp [frzs,frz,cells]⟩
@[simp] theorem act_length (xs:List GAct):(flat xs).length = xs.length * 10:=flat_length xs
@[simp] theorem act_nil {xs:List GAct}:flat xs = [] ↔ xs = []:=by
  cases xs with
  | nil => simp [flat]
  | cons x xs => simp [flat,cells]
@[simp] theorem act_nn:flat ([]:List GAct) = []:=rfl
@[simp high] theorem act_get0 {xs:List GAct} {i:Nat} (h:i < xs.length):(flat xs)[i * 10]? = some (.int .i64 (nth xs i).dot.rep):=flat_get (j:=0) h (by decide)
@[simp high] theorem act_get1 {xs:List GAct} {i:Nat} (h:i < xs.length):(flat xs)[i * 10 + 1]? = some (.int .i64 (nth xs i).dot.seq):=flat_get (j:=1) h (by decide)
@[simp high] theorem act_get2 {xs:List GAct} {i:Nat} (h:i < xs.length):(flat xs)[i * 10 + 2]? = some (.int .i64 (nth xs i).time):=flat_get (j:=2) h (by decide)
@[simp high] theorem act_get3 {xs:List GAct} {i:Nat} (h:i < xs.length):(flat xs)[i * 10 + 3]? = some (.im (nth xs i).knew.length (flat (nth xs i).knew)):=flat_get (j:=3) h (by decide)
@[simp high] theorem act_get4 {xs:List GAct} {i:Nat} (h:i < xs.length):(flat xs)[i * 10 + 4]? = some (.int .i64 (nth xs i).kind):=flat_get (j:=4) h (by decide)
@[simp high] theorem act_get5 {xs:List GAct} {i:Nat} (h:i < xs.length):(flat xs)[i * 10 + 5]? = some (.str (nth xs i).obj):=flat_get (j:=5) h (by decide)
@[simp high] theorem act_get6 {xs:List GAct} {i:Nat} (h:i < xs.length):(flat xs)[i * 10 + 6]? = some (.str (nth xs i).key):=flat_get (j:=6) h (by decide)
@[simp high] theorem act_get7 {xs:List GAct} {i:Nat} (h:i < xs.length):(flat xs)[i * 10 + 7]? = some (.int .i64 (nth xs i).val):=flat_get (j:=7) h (by decide)
@[simp high] theorem act_get8 {xs:List GAct} {i:Nat} (h:i < xs.length):(flat xs)[i * 10 + 8]? = some (.int .i64 (nth xs i).ref.rep):=flat_get (j:=8) h (by decide)
@[simp high] theorem act_get9 {xs:List GAct} {i:Nat} (h:i < xs.length):(flat xs)[i * 10 + 9]? = some (.int .i64 (nth xs i).ref.seq):=flat_get (j:=9) h (by decide)
@[simp high] theorem act_one {xs:List GAct} {i:Nat} (h:i < xs.length):((flat xs).drop (i * 10)).take 10 = [.int .i64 (nth xs i).dot.rep,.int .i64 (nth xs i).dot.seq,.int .i64 (nth xs i).time,.im (nth xs i).knew.length (flat (nth xs i).knew),.int .i64 (nth xs i).kind,.str (nth xs i).obj,.str (nth xs i).key,.int .i64 (nth xs i).val,.int .i64 (nth xs i).ref.rep,.int .i64 (nth xs i).ref.seq]:=flat_one h
@[simp high] theorem act_sub_dot {xs:List GAct} {i:Nat} (h:i < xs.length):((flat xs).drop (i * 10)).take 2 = [.int .i64 (nth xs i).dot.rep,.int .i64 (nth xs i).dot.seq]:=by
  have h1:((flat xs).drop (i * 10 + 0)).take 2 = (((flat xs).drop (i * 10)).take 10 |>.drop 0).take 2:=by
    rw [List.drop_take,List.take_take,List.drop_drop]
    rfl
  exact h1.trans (by rw [act_one h]; rfl)
@[simp high] theorem act_sub_ref {xs:List GAct} {i:Nat} (h:i < xs.length):((flat xs).drop (i * 10 + 8)).take 2 = [.int .i64 (nth xs i).ref.rep,.int .i64 (nth xs i).ref.seq]:=by
  have h1:((flat xs).drop (i * 10 + 8)).take 2 = (((flat xs).drop (i * 10)).take 10 |>.drop 8).take 2:=by
    rw [List.drop_take,List.take_take,List.drop_drop]
    rfl
  exact h1.trans (by rw [act_one h]; rfl)
@[simp high] theorem act_set {xs:List GAct} {i:Nat} (h:i < xs.length) (y1:Int) (y2:Int) (y3:Int) (y4:List Int) (y5:Int) (y6:ByteArray) (y7:ByteArray) (y8:Int) (y9:Int) (y10:Int):splice (flat xs) (i * 10) [.int .i64 y1,.int .i64 y2,.int .i64 y3,.im y4.length (flat y4),.int .i64 y5,.str y6,.str y7,.int .i64 y8,.int .i64 y9,.int .i64 y10] = flat (xs.set i ⟨⟨y1,y2⟩,y3,y4,y5,y6,y7,y8,⟨y9,y10⟩⟩):=flat_set h (⟨⟨y1,y2⟩,y3,y4,y5,y6,y7,y8,⟨y9,y10⟩⟩:GAct)
@[simp high] theorem act_add (xs:List GAct) (y1:Int) (y2:Int) (y3:Int) (y4:List Int) (y5:Int) (y6:ByteArray) (y7:ByteArray) (y8:Int) (y9:Int) (y10:Int):flat xs ++ [.int .i64 y1,.int .i64 y2,.int .i64 y3,.im y4.length (flat y4),.int .i64 y5,.str y6,.str y7,.int .i64 y8,.int .i64 y9,.int .i64 y10] = flat (xs ++ [⟨⟨y1,y2⟩,y3,y4,y5,y6,y7,y8,⟨y9,y10⟩⟩]):=(flat_append xs [(⟨⟨y1,y2⟩,y3,y4,y5,y6,y7,y8,⟨y9,y10⟩⟩:GAct)]).symm
@[simp high] theorem act_upd0 {xs:List GAct} {i:Nat} (h:i < xs.length) (v:Int):splice (flat xs) (i * 10) [.int .i64 v] = flat (xs.set i { (nth xs i) with dot:={ (nth xs i).dot with rep:=v } }):=flat_set_in (j:=0) h (by simp [Cel.k]) _ rfl
@[simp high] theorem act_upd1 {xs:List GAct} {i:Nat} (h:i < xs.length) (v:Int):splice (flat xs) (i * 10 + 1) [.int .i64 v] = flat (xs.set i { (nth xs i) with dot:={ (nth xs i).dot with seq:=v } }):=flat_set_in (j:=1) h (by simp [Cel.k]) _ rfl
@[simp high] theorem act_upd2 {xs:List GAct} {i:Nat} (h:i < xs.length) (v:Int):splice (flat xs) (i * 10 + 2) [.int .i64 v] = flat (xs.set i { (nth xs i) with time:=v }):=flat_set_in (j:=2) h (by simp [Cel.k]) _ rfl
@[simp high] theorem act_upd4 {xs:List GAct} {i:Nat} (h:i < xs.length) (v:Int):splice (flat xs) (i * 10 + 4) [.int .i64 v] = flat (xs.set i { (nth xs i) with kind:=v }):=flat_set_in (j:=4) h (by simp [Cel.k]) _ rfl
@[simp high] theorem act_upd5 {xs:List GAct} {i:Nat} (h:i < xs.length) (v:ByteArray):splice (flat xs) (i * 10 + 5) [.str v] = flat (xs.set i { (nth xs i) with obj:=v }):=flat_set_in (j:=5) h (by simp [Cel.k]) _ rfl
@[simp high] theorem act_upd6 {xs:List GAct} {i:Nat} (h:i < xs.length) (v:ByteArray):splice (flat xs) (i * 10 + 6) [.str v] = flat (xs.set i { (nth xs i) with key:=v }):=flat_set_in (j:=6) h (by simp [Cel.k]) _ rfl
@[simp high] theorem act_upd7 {xs:List GAct} {i:Nat} (h:i < xs.length) (v:Int):splice (flat xs) (i * 10 + 7) [.int .i64 v] = flat (xs.set i { (nth xs i) with val:=v }):=flat_set_in (j:=7) h (by simp [Cel.k]) _ rfl
@[simp high] theorem act_upd8 {xs:List GAct} {i:Nat} (h:i < xs.length) (v:Int):splice (flat xs) (i * 10 + 8) [.int .i64 v] = flat (xs.set i { (nth xs i) with ref:={ (nth xs i).ref with rep:=v } }):=flat_set_in (j:=8) h (by simp [Cel.k]) _ rfl
@[simp high] theorem act_upd9 {xs:List GAct} {i:Nat} (h:i < xs.length) (v:Int):splice (flat xs) (i * 10 + 9) [.int .i64 v] = flat (xs.set i { (nth xs i) with ref:={ (nth xs i).ref with seq:=v } }):=flat_set_in (j:=9) h (by simp [Cel.k]) _ rfl
@[simp] theorem act_lengthO (xs:List GAct):(flatO xs).length = xs.length * 10:=flatO_length xs
@[simp] theorem act_nilO {xs:List GAct}:flatO xs = [] ↔ xs = []:=by
  cases xs with
  | nil => simp [flatO,flat]
  | cons x xs => simp [flatO_cons,CelO.cellsO]
@[simp] theorem act_nnO:flatO ([]:List GAct) = []:=rfl
@[simp] theorem act_leO {xs:List GAct} {i:Nat} (h:i < xs.length):i * 10 + 10 ≤ xs.length * 10:=by omega
@[simp high] theorem act_getO0 {xs:List GAct} {i:Nat} (h:i < xs.length):(flatO xs)[i * 10]? = some (.int .i64 (nth xs i).dot.rep):=flatO_get (j:=0) h (by decide)
@[simp high] theorem act_getO1 {xs:List GAct} {i:Nat} (h:i < xs.length):(flatO xs)[i * 10 + 1]? = some (.int .i64 (nth xs i).dot.seq):=flatO_get (j:=1) h (by decide)
@[simp high] theorem act_getO2 {xs:List GAct} {i:Nat} (h:i < xs.length):(flatO xs)[i * 10 + 2]? = some (.int .i64 (nth xs i).time):=flatO_get (j:=2) h (by decide)
@[simp high] theorem act_getO3 {xs:List GAct} {i:Nat} (h:i < xs.length):(flatO xs)[i * 10 + 3]? = some (.ow 3 1 (nth xs i).knew.length (flat (nth xs i).knew)):=flatO_get (j:=3) h (by decide)
@[simp high] theorem act_getO4 {xs:List GAct} {i:Nat} (h:i < xs.length):(flatO xs)[i * 10 + 4]? = some (.int .i64 (nth xs i).kind):=flatO_get (j:=4) h (by decide)
@[simp high] theorem act_getO5 {xs:List GAct} {i:Nat} (h:i < xs.length):(flatO xs)[i * 10 + 5]? = some (.str (nth xs i).obj):=flatO_get (j:=5) h (by decide)
@[simp high] theorem act_getO6 {xs:List GAct} {i:Nat} (h:i < xs.length):(flatO xs)[i * 10 + 6]? = some (.str (nth xs i).key):=flatO_get (j:=6) h (by decide)
@[simp high] theorem act_getO7 {xs:List GAct} {i:Nat} (h:i < xs.length):(flatO xs)[i * 10 + 7]? = some (.int .i64 (nth xs i).val):=flatO_get (j:=7) h (by decide)
@[simp high] theorem act_getO8 {xs:List GAct} {i:Nat} (h:i < xs.length):(flatO xs)[i * 10 + 8]? = some (.int .i64 (nth xs i).ref.rep):=flatO_get (j:=8) h (by decide)
@[simp high] theorem act_getO9 {xs:List GAct} {i:Nat} (h:i < xs.length):(flatO xs)[i * 10 + 9]? = some (.int .i64 (nth xs i).ref.seq):=flatO_get (j:=9) h (by decide)
@[simp high] theorem act_oneO {xs:List GAct} {i:Nat} (h:i < xs.length):((flatO xs).drop (i * 10)).take 10 = [.int .i64 (nth xs i).dot.rep,.int .i64 (nth xs i).dot.seq,.int .i64 (nth xs i).time,.ow 3 1 (nth xs i).knew.length (flat (nth xs i).knew),.int .i64 (nth xs i).kind,.str (nth xs i).obj,.str (nth xs i).key,.int .i64 (nth xs i).val,.int .i64 (nth xs i).ref.rep,.int .i64 (nth xs i).ref.seq]:=flatO_one h
@[simp high] theorem act_subO_dot {xs:List GAct} {i:Nat} (h:i < xs.length):((flatO xs).drop (i * 10)).take 2 = [.int .i64 (nth xs i).dot.rep,.int .i64 (nth xs i).dot.seq]:=by
  have h1:((flatO xs).drop (i * 10 + 0)).take 2 = (((flatO xs).drop (i * 10)).take 10 |>.drop 0).take 2:=by
    rw [List.drop_take,List.take_take,List.drop_drop]
    rfl
  exact h1.trans (by rw [act_oneO h]; rfl)
@[simp high] theorem act_subO_ref {xs:List GAct} {i:Nat} (h:i < xs.length):((flatO xs).drop (i * 10 + 8)).take 2 = [.int .i64 (nth xs i).ref.rep,.int .i64 (nth xs i).ref.seq]:=by
  have h1:((flatO xs).drop (i * 10 + 8)).take 2 = (((flatO xs).drop (i * 10)).take 10 |>.drop 8).take 2:=by
    rw [List.drop_take,List.take_take,List.drop_drop]
    rfl
  exact h1.trans (by rw [act_oneO h]; rfl)
@[simp high] theorem act_setO {xs:List GAct} {i:Nat} (h:i < xs.length) (y1:Int) (y2:Int) (y3:Int) (y4:List Int) (y5:Int) (y6:ByteArray) (y7:ByteArray) (y8:Int) (y9:Int) (y10:Int):splice (flatO xs) (i * 10) [.int .i64 y1,.int .i64 y2,.int .i64 y3,.ow 3 1 y4.length (flat y4),.int .i64 y5,.str y6,.str y7,.int .i64 y8,.int .i64 y9,.int .i64 y10] = flatO (xs.set i ⟨⟨y1,y2⟩,y3,y4,y5,y6,y7,y8,⟨y9,y10⟩⟩):=flatO_set h (⟨⟨y1,y2⟩,y3,y4,y5,y6,y7,y8,⟨y9,y10⟩⟩:GAct)
@[simp high] theorem act_addO (xs:List GAct) (y1:Int) (y2:Int) (y3:Int) (y4:List Int) (y5:Int) (y6:ByteArray) (y7:ByteArray) (y8:Int) (y9:Int) (y10:Int):flatO xs ++ [.int .i64 y1,.int .i64 y2,.int .i64 y3,.ow 3 1 y4.length (flat y4),.int .i64 y5,.str y6,.str y7,.int .i64 y8,.int .i64 y9,.int .i64 y10] = flatO (xs ++ [⟨⟨y1,y2⟩,y3,y4,y5,y6,y7,y8,⟨y9,y10⟩⟩]):=(flatO_append xs [(⟨⟨y1,y2⟩,y3,y4,y5,y6,y7,y8,⟨y9,y10⟩⟩:GAct)]).symm
@[simp high] theorem act_updO0 {xs:List GAct} {i:Nat} (h:i < xs.length) (v:Int):splice (flatO xs) (i * 10) [.int .i64 v] = flatO (xs.set i { (nth xs i) with dot:={ (nth xs i).dot with rep:=v } }):=flatO_set_in (j:=0) h (by simp [Cel.k]) _ rfl
@[simp high] theorem act_updO1 {xs:List GAct} {i:Nat} (h:i < xs.length) (v:Int):splice (flatO xs) (i * 10 + 1) [.int .i64 v] = flatO (xs.set i { (nth xs i) with dot:={ (nth xs i).dot with seq:=v } }):=flatO_set_in (j:=1) h (by simp [Cel.k]) _ rfl
@[simp high] theorem act_updO2 {xs:List GAct} {i:Nat} (h:i < xs.length) (v:Int):splice (flatO xs) (i * 10 + 2) [.int .i64 v] = flatO (xs.set i { (nth xs i) with time:=v }):=flatO_set_in (j:=2) h (by simp [Cel.k]) _ rfl
@[simp high] theorem act_lsetO3 {xs:List GAct} {i:Nat} (h:i < xs.length) {m:Nat} (v:List Int) (hm:m = v.length):(flatO xs).set (i * 10 + 3) (.ow 3 1 m (flat v)) = flatO (xs.set i { (nth xs i) with knew:=v }):=by
  subst hm
  rw [← splice_one (by simp; omega)]
  exact flatO_set_in (j:=3) h (by simp [Cel.k]) _ rfl
@[simp high] theorem act_updO4 {xs:List GAct} {i:Nat} (h:i < xs.length) (v:Int):splice (flatO xs) (i * 10 + 4) [.int .i64 v] = flatO (xs.set i { (nth xs i) with kind:=v }):=flatO_set_in (j:=4) h (by simp [Cel.k]) _ rfl
@[simp high] theorem act_updO5 {xs:List GAct} {i:Nat} (h:i < xs.length) (v:ByteArray):splice (flatO xs) (i * 10 + 5) [.str v] = flatO (xs.set i { (nth xs i) with obj:=v }):=flatO_set_in (j:=5) h (by simp [Cel.k]) _ rfl
@[simp high] theorem act_updO6 {xs:List GAct} {i:Nat} (h:i < xs.length) (v:ByteArray):splice (flatO xs) (i * 10 + 6) [.str v] = flatO (xs.set i { (nth xs i) with key:=v }):=flatO_set_in (j:=6) h (by simp [Cel.k]) _ rfl
@[simp high] theorem act_updO7 {xs:List GAct} {i:Nat} (h:i < xs.length) (v:Int):splice (flatO xs) (i * 10 + 7) [.int .i64 v] = flatO (xs.set i { (nth xs i) with val:=v }):=flatO_set_in (j:=7) h (by simp [Cel.k]) _ rfl
@[simp high] theorem act_updO8 {xs:List GAct} {i:Nat} (h:i < xs.length) (v:Int):splice (flatO xs) (i * 10 + 8) [.int .i64 v] = flatO (xs.set i { (nth xs i) with ref:={ (nth xs i).ref with rep:=v } }):=flatO_set_in (j:=8) h (by simp [Cel.k]) _ rfl
@[simp high] theorem act_updO9 {xs:List GAct} {i:Nat} (h:i < xs.length) (v:Int):splice (flatO xs) (i * 10 + 9) [.int .i64 v] = flatO (xs.set i { (nth xs i) with ref:={ (nth xs i).ref with seq:=v } }):=flatO_set_in (j:=9) h (by simp [Cel.k]) _ rfl
@[simp] theorem act_noimO (xs:List GAct):noIms (flatO xs):=@flat_noIm _ (CelO.own _) (fun _ => by simp [cells,noIms,noIm,CelO.cellsO]) xs
@[simp high] theorem act_fill {a:List GAct} {i:Nat} (h:i < a.length) (z:GAct) (y1:Int) (y2:Int) (y3:Int) (y4:List Int) (y5:Int) (y6:ByteArray) (y7:ByteArray) (y8:Int) (y9:Int) (y10:Int):splice (flatO (a.take i) ++ flat (List.replicate (a.length - i) z)) (i * 10) [.int .i64 y1,.int .i64 y2,.int .i64 y3,.ow 3 1 y4.length (flat y4),.int .i64 y5,.str y6,.str y7,.int .i64 y8,.int .i64 y9,.int .i64 y10] = flatO (a.take i ++ [⟨⟨y1,y2⟩,y3,y4,y5,y6,y7,y8,⟨y9,y10⟩⟩]) ++ flat (List.replicate (a.length - (i + 1)) z):=by
  have hl:(a.take i).length = i:=by simp; omega
  have e:a.length - i = (a.length - (i + 1)) + 1:=by omega
  have:=flatO_fill (a.take i) (List.replicate (a.length - (i + 1)) z) z ⟨⟨y1,y2⟩,y3,y4,y5,y6,y7,y8,⟨y9,y10⟩⟩
  rw [hl] at this
  rw [e,List.replicate_succ]
  exact this
@[simp] theorem act_eta (x:GAct):(⟨x.dot,x.time,x.knew,x.kind,x.obj,x.key,x.val,x.ref⟩:GAct) = x:=rfl
def GAct.Ok (x:GAct):Prop:=x.knew.length ≤ 1073741824 ∧ x.obj.size ≤ 1073741824 ∧ x.key.size ≤ 1073741824
def GAct.sz (x:GAct) (l:Int):Int:=szq (szLen x.knew l) fun l => szq (l - x.obj.size) fun l => szq (l - x.key.size) fun l => l
@[ext] structure GState where
  know:List Int
  tallies:List GTally
  lives:List GLive
  cs:List GCell
  deriving DecidableEq
instance:Cel GState:=⟨4,fun x => [.im x.know.length (flat x.know),.im x.tallies.length (flat x.tallies),.im x.lives.length (flat x.lives),.im x.cs.length (flat x.cs)],fun _ => rfl,⟨[],[],[],[]⟩⟩
instance:CelO GState:=⟨fun x => [.ow 3 1 x.know.length (flat x.know),.ow 104 3 x.tallies.length (flat x.tallies),.ow 98 6 x.lives.length (flat x.lives),.ow 100 8 x.cs.length (flat x.cs)],fun _ => rfl,fun x => by simp [frzs,frz,cells]⟩
@[simp] theorem state_length (xs:List GState):(flat xs).length = xs.length * 4:=flat_length xs
@[simp] theorem state_nil {xs:List GState}:flat xs = [] ↔ xs = []:=by
  cases xs with
  | nil => simp [flat]
  | cons x xs => simp [flat,cells]
@[simp] theorem state_nn:flat ([]:List GState) = []:=rfl
@[simp high] theorem state_get0 {xs:List GState} {i:Nat} (h:i < xs.length):(flat xs)[i * 4]? = some (.im (nth xs i).know.length (flat (nth xs i).know)):=flat_get (j:=0) h (by decide)
@[simp high] theorem state_get1 {xs:List GState} {i:Nat} (h:i < xs.length):(flat xs)[i * 4 + 1]? = some (.im (nth xs i).tallies.length (flat (nth xs i).tallies)):=flat_get (j:=1) h (by decide)
@[simp high] theorem state_get2 {xs:List GState} {i:Nat} (h:i < xs.length):(flat xs)[i * 4 + 2]? = some (.im (nth xs i).lives.length (flat (nth xs i).lives)):=flat_get (j:=2) h (by decide)
@[simp high] theorem state_get3 {xs:List GState} {i:Nat} (h:i < xs.length):(flat xs)[i * 4 + 3]? = some (.im (nth xs i).cs.length (flat (nth xs i).cs)):=flat_get (j:=3) h (by decide)
@[simp high] theorem state_one {xs:List GState} {i:Nat} (h:i < xs.length):((flat xs).drop (i * 4)).take 4 = [.im (nth xs i).know.length (flat (nth xs i).know),.im (nth xs i).tallies.length (flat (nth xs i).tallies),.im (nth xs i).lives.length (flat (nth xs i).lives),.im (nth xs i).cs.length (flat (nth xs i).cs)]:=flat_one h
@[simp high] theorem state_set {xs:List GState} {i:Nat} (h:i < xs.length) (y1:List Int) (y2:List GTally) (y3:List GLive) (y4:List GCell):splice (flat xs) (i * 4) [.im y1.length (flat y1),.im y2.length (flat y2),.im y3.length (flat y3),.im y4.length (flat y4)] = flat (xs.set i ⟨y1,y2,y3,y4⟩):=flat_set h (⟨y1,y2,y3,y4⟩:GState)
@[simp high] theorem state_add (xs:List GState) (y1:List Int) (y2:List GTally) (y3:List GLive) (y4:List GCell):flat xs ++ [.im y1.length (flat y1),.im y2.length (flat y2),.im y3.length (flat y3),.im y4.length (flat y4)] = flat (xs ++ [⟨y1,y2,y3,y4⟩]):=(flat_append xs [(⟨y1,y2,y3,y4⟩:GState)]).symm
@[simp] theorem state_lengthO (xs:List GState):(flatO xs).length = xs.length * 4:=flatO_length xs
@[simp] theorem state_nilO {xs:List GState}:flatO xs = [] ↔ xs = []:=by
  cases xs with
  | nil => simp [flatO,flat]
  | cons x xs => simp [flatO_cons,CelO.cellsO]
@[simp] theorem state_nnO:flatO ([]:List GState) = []:=rfl
@[simp] theorem state_leO {xs:List GState} {i:Nat} (h:i < xs.length):i * 4 + 4 ≤ xs.length * 4:=by omega
@[simp high] theorem state_getO0 {xs:List GState} {i:Nat} (h:i < xs.length):(flatO xs)[i * 4]? = some (.ow 3 1 (nth xs i).know.length (flat (nth xs i).know)):=flatO_get (j:=0) h (by decide)
@[simp high] theorem state_getO1 {xs:List GState} {i:Nat} (h:i < xs.length):(flatO xs)[i * 4 + 1]? = some (.ow 104 3 (nth xs i).tallies.length (flat (nth xs i).tallies)):=flatO_get (j:=1) h (by decide)
@[simp high] theorem state_getO2 {xs:List GState} {i:Nat} (h:i < xs.length):(flatO xs)[i * 4 + 2]? = some (.ow 98 6 (nth xs i).lives.length (flat (nth xs i).lives)):=flatO_get (j:=2) h (by decide)
@[simp high] theorem state_getO3 {xs:List GState} {i:Nat} (h:i < xs.length):(flatO xs)[i * 4 + 3]? = some (.ow 100 8 (nth xs i).cs.length (flat (nth xs i).cs)):=flatO_get (j:=3) h (by decide)
@[simp high] theorem state_oneO {xs:List GState} {i:Nat} (h:i < xs.length):((flatO xs).drop (i * 4)).take 4 = [.ow 3 1 (nth xs i).know.length (flat (nth xs i).know),.ow 104 3 (nth xs i).tallies.length (flat (nth xs i).tallies),.ow 98 6 (nth xs i).lives.length (flat (nth xs i).lives),.ow 100 8 (nth xs i).cs.length (flat (nth xs i).cs)]:=flatO_one h
@[simp high] theorem state_setO {xs:List GState} {i:Nat} (h:i < xs.length) (y1:List Int) (y2:List GTally) (y3:List GLive) (y4:List GCell):splice (flatO xs) (i * 4) [.ow 3 1 y1.length (flat y1),.ow 104 3 y2.length (flat y2),.ow 98 6 y3.length (flat y3),.ow 100 8 y4.length (flat y4)] = flatO (xs.set i ⟨y1,y2,y3,y4⟩):=flatO_set h (⟨y1,y2,y3,y4⟩:GState)
@[simp high] theorem state_addO (xs:List GState) (y1:List Int) (y2:List GTally) (y3:List GLive) (y4:List GCell):flatO xs ++ [.ow 3 1 y1.length (flat y1),.ow 104 3 y2.length (flat y2),.ow 98 6 y3.length (flat y3),.ow 100 8 y4.length (flat y4)] = flatO (xs ++ [⟨y1,y2,y3,y4⟩]):=(flatO_append xs [(⟨y1,y2,y3,y4⟩:GState)]).symm
@[simp high] theorem state_lsetO0 {xs:List GState} {i:Nat} (h:i < xs.length) {m:Nat} (v:List Int) (hm:m = v.length):(flatO xs).set (i * 4) (.ow 3 1 m (flat v)) = flatO (xs.set i { (nth xs i) with know:=v }):=by
  subst hm
  rw [← splice_one (by simp; omega)]
  exact flatO_set_in (j:=0) h (by simp [Cel.k]) _ rfl
@[simp high] theorem state_lsetO1 {xs:List GState} {i:Nat} (h:i < xs.length) {m:Nat} (v:List GTally) (hm:m = v.length):(flatO xs).set (i * 4 + 1) (.ow 104 3 m (flat v)) = flatO (xs.set i { (nth xs i) with tallies:=v }):=by
  subst hm
  rw [← splice_one (by simp; omega)]
  exact flatO_set_in (j:=1) h (by simp [Cel.k]) _ rfl
@[simp high] theorem state_lsetO2 {xs:List GState} {i:Nat} (h:i < xs.length) {m:Nat} (v:List GLive) (hm:m = v.length):(flatO xs).set (i * 4 + 2) (.ow 98 6 m (flat v)) = flatO (xs.set i { (nth xs i) with lives:=v }):=by
  subst hm
  rw [← splice_one (by simp; omega)]
  exact flatO_set_in (j:=2) h (by simp [Cel.k]) _ rfl
@[simp high] theorem state_lsetO3 {xs:List GState} {i:Nat} (h:i < xs.length) {m:Nat} (v:List GCell) (hm:m = v.length):(flatO xs).set (i * 4 + 3) (.ow 100 8 m (flat v)) = flatO (xs.set i { (nth xs i) with cs:=v }):=by
  subst hm
  rw [← splice_one (by simp; omega)]
  exact flatO_set_in (j:=3) h (by simp [Cel.k]) _ rfl
@[simp] theorem state_noimO (xs:List GState):noIms (flatO xs):=@flat_noIm _ (CelO.own _) (fun _ => by simp [cells,noIms,noIm,CelO.cellsO]) xs
@[simp high] theorem state_fill {a:List GState} {i:Nat} (h:i < a.length) (z:GState) (y1:List Int) (y2:List GTally) (y3:List GLive) (y4:List GCell):splice (flatO (a.take i) ++ flat (List.replicate (a.length - i) z)) (i * 4) [.ow 3 1 y1.length (flat y1),.ow 104 3 y2.length (flat y2),.ow 98 6 y3.length (flat y3),.ow 100 8 y4.length (flat y4)] = flatO (a.take i ++ [⟨y1,y2,y3,y4⟩]) ++ flat (List.replicate (a.length - (i + 1)) z):=by
  have hl:(a.take i).length = i:=by simp; omega
  have e:a.length - i = (a.length - (i + 1)) + 1:=by omega
  have:=flatO_fill (a.take i) (List.replicate (a.length - (i + 1)) z) z ⟨y1,y2,y3,y4⟩
  rw [hl] at this
  rw [e,List.replicate_succ]
  exact this
@[simp] theorem state_eta (x:GState):(⟨x.know,x.tallies,x.lives,x.cs⟩:GState) = x:=rfl
def GState.Ok (x:GState):Prop:=x.know.length ≤ 1073741824 ∧ x.tallies.length ≤ 1073741824 ∧ (∀ y,y ∈ x.tallies → y.Ok) ∧ x.lives.length ≤ 1073741824 ∧ (∀ y,y ∈ x.lives → y.Ok) ∧ x.cs.length ≤ 1073741824 ∧ (∀ y,y ∈ x.cs → y.Ok)
def GState.sz (x:GState) (l:Int):Int:=szq (szLen x.know l) fun l => szq (szS GTally.sz x.tallies l) fun l => szq (szS GLive.sz x.lives l) fun l => szq (szS GCell.sz x.cs l) fun l => l
@[ext] structure GEdit where
  kind:Int
  obj:ByteArray
  key:ByteArray
  val:Int
  place:Int
  deriving DecidableEq
instance:Cel GEdit:=⟨5,fun x => [.int .i64 x.kind,.str x.obj,.str x.key,.int .i64 x.val,.int .i64 x.place],fun _ => rfl,⟨0,⟨#[]⟩,⟨#[]⟩,0,0⟩⟩
@[simp] theorem edit_length (xs:List GEdit):(flat xs).length = xs.length * 5:=flat_length xs
@[simp] theorem edit_nil {xs:List GEdit}:flat xs = [] ↔ xs = []:=by
  cases xs with
  | nil => simp [flat]
  | cons x xs => simp [flat,cells]
@[simp] theorem edit_nn:flat ([]:List GEdit) = []:=rfl
@[simp high] theorem edit_get0 {xs:List GEdit} {i:Nat} (h:i < xs.length):(flat xs)[i * 5]? = some (.int .i64 (nth xs i).kind):=flat_get (j:=0) h (by decide)
@[simp high] theorem edit_get1 {xs:List GEdit} {i:Nat} (h:i < xs.length):(flat xs)[i * 5 + 1]? = some (.str (nth xs i).obj):=flat_get (j:=1) h (by decide)
@[simp high] theorem edit_get2 {xs:List GEdit} {i:Nat} (h:i < xs.length):(flat xs)[i * 5 + 2]? = some (.str (nth xs i).key):=flat_get (j:=2) h (by decide)
@[simp high] theorem edit_get3 {xs:List GEdit} {i:Nat} (h:i < xs.length):(flat xs)[i * 5 + 3]? = some (.int .i64 (nth xs i).val):=flat_get (j:=3) h (by decide)
@[simp high] theorem edit_get4 {xs:List GEdit} {i:Nat} (h:i < xs.length):(flat xs)[i * 5 + 4]? = some (.int .i64 (nth xs i).place):=flat_get (j:=4) h (by decide)
@[simp high] theorem edit_one {xs:List GEdit} {i:Nat} (h:i < xs.length):((flat xs).drop (i * 5)).take 5 = [.int .i64 (nth xs i).kind,.str (nth xs i).obj,.str (nth xs i).key,.int .i64 (nth xs i).val,.int .i64 (nth xs i).place]:=flat_one h
@[simp high] theorem edit_set {xs:List GEdit} {i:Nat} (h:i < xs.length) (y1:Int) (y2:ByteArray) (y3:ByteArray) (y4:Int) (y5:Int):splice (flat xs) (i * 5) [.int .i64 y1,.str y2,.str y3,.int .i64 y4,.int .i64 y5] = flat (xs.set i ⟨y1,y2,y3,y4,y5⟩):=flat_set h (⟨y1,y2,y3,y4,y5⟩:GEdit)
@[simp high] theorem edit_add (xs:List GEdit) (y1:Int) (y2:ByteArray) (y3:ByteArray) (y4:Int) (y5:Int):flat xs ++ [.int .i64 y1,.str y2,.str y3,.int .i64 y4,.int .i64 y5] = flat (xs ++ [⟨y1,y2,y3,y4,y5⟩]):=(flat_append xs [(⟨y1,y2,y3,y4,y5⟩:GEdit)]).symm
@[simp high] theorem edit_upd0 {xs:List GEdit} {i:Nat} (h:i < xs.length) (v:Int):splice (flat xs) (i * 5) [.int .i64 v] = flat (xs.set i { (nth xs i) with kind:=v }):=flat_set_in (j:=0) h (by simp [Cel.k]) _ rfl
@[simp high] theorem edit_upd1 {xs:List GEdit} {i:Nat} (h:i < xs.length) (v:ByteArray):splice (flat xs) (i * 5 + 1) [.str v] = flat (xs.set i { (nth xs i) with obj:=v }):=flat_set_in (j:=1) h (by simp [Cel.k]) _ rfl
@[simp high] theorem edit_upd2 {xs:List GEdit} {i:Nat} (h:i < xs.length) (v:ByteArray):splice (flat xs) (i * 5 + 2) [.str v] = flat (xs.set i { (nth xs i) with key:=v }):=flat_set_in (j:=2) h (by simp [Cel.k]) _ rfl
@[simp high] theorem edit_upd3 {xs:List GEdit} {i:Nat} (h:i < xs.length) (v:Int):splice (flat xs) (i * 5 + 3) [.int .i64 v] = flat (xs.set i { (nth xs i) with val:=v }):=flat_set_in (j:=3) h (by simp [Cel.k]) _ rfl
@[simp high] theorem edit_upd4 {xs:List GEdit} {i:Nat} (h:i < xs.length) (v:Int):splice (flat xs) (i * 5 + 4) [.int .i64 v] = flat (xs.set i { (nth xs i) with place:=v }):=flat_set_in (j:=4) h (by simp [Cel.k]) _ rfl
@[simp] theorem edit_free (xs:List GEdit):(flat xs).all isFree = true:=flat_free (fun _ => rfl) xs
@[simp] theorem edit_frz (xs:List GEdit):frzs (flat xs) = flat xs:=flat_frz (fun _ => rfl) xs
@[simp] theorem edit_rep (n:Nat):(List.replicate n [PV.int .i64 0,.str ⟨#[]⟩,.str ⟨#[]⟩,.int .i64 0,.int .i64 0]).flatten = flat (List.replicate n (⟨0,⟨#[]⟩,⟨#[]⟩,0,0⟩:GEdit)):=flat_replicate n (⟨0,⟨#[]⟩,⟨#[]⟩,0,0⟩:GEdit)
@[simp] theorem edit_noim (xs:List GEdit):noIms (flat xs):=flat_noIm (fun _ => by simp [cells,noIms,noIm]) xs
@[simp] theorem edit_eta (x:GEdit):(⟨x.kind,x.obj,x.key,x.val,x.place⟩:GEdit) = x:=rfl
def GEdit.Ok (x:GEdit):Prop:=x.obj.size ≤ 1073741824 ∧ x.key.size ≤ 1073741824
def GEdit.sz (x:GEdit) (l:Int):Int:=szq (l - x.obj.size) fun l => szq (l - x.key.size) fun l => l
@[ext] structure GDelta where
  base:List Int
  know:List Int
  tallies:List GTally
  lives:List GLive
  dead:List GDot
  cs:List GCell
  deriving DecidableEq
instance:Cel GDelta:=⟨6,fun x => [.im x.base.length (flat x.base),.im x.know.length (flat x.know),.im x.tallies.length (flat x.tallies),.im x.lives.length (flat x.lives),.im x.dead.length (flat x.dead),.im x.cs.length (flat x.cs)],fun _ => rfl,⟨[],[],[],[],[],[]⟩⟩
instance:CelO GDelta:=⟨fun x => [.ow 3 1 x.base.length (flat x.base),.ow 3 1 x.know.length (flat x.know),.ow 104 3 x.tallies.length (flat x.tallies),.ow 98 6 x.lives.length (flat x.lives),.ow 60 2 x.dead.length (flat x.dead),.ow 100 8 x.cs.length (flat x.cs)],fun _ => rfl,fun x => by simp [frzs,frz,cells]⟩
@[simp] theorem delta_length (xs:List GDelta):(flat xs).length = xs.length * 6:=flat_length xs
@[simp] theorem delta_nil {xs:List GDelta}:flat xs = [] ↔ xs = []:=by
  cases xs with
  | nil => simp [flat]
  | cons x xs => simp [flat,cells]
@[simp] theorem delta_nn:flat ([]:List GDelta) = []:=rfl
@[simp high] theorem delta_get0 {xs:List GDelta} {i:Nat} (h:i < xs.length):(flat xs)[i * 6]? = some (.im (nth xs i).base.length (flat (nth xs i).base)):=flat_get (j:=0) h (by decide)
@[simp high] theorem delta_get1 {xs:List GDelta} {i:Nat} (h:i < xs.length):(flat xs)[i * 6 + 1]? = some (.im (nth xs i).know.length (flat (nth xs i).know)):=flat_get (j:=1) h (by decide)
@[simp high] theorem delta_get2 {xs:List GDelta} {i:Nat} (h:i < xs.length):(flat xs)[i * 6 + 2]? = some (.im (nth xs i).tallies.length (flat (nth xs i).tallies)):=flat_get (j:=2) h (by decide)
@[simp high] theorem delta_get3 {xs:List GDelta} {i:Nat} (h:i < xs.length):(flat xs)[i * 6 + 3]? = some (.im (nth xs i).lives.length (flat (nth xs i).lives)):=flat_get (j:=3) h (by decide)
@[simp high] theorem delta_get4 {xs:List GDelta} {i:Nat} (h:i < xs.length):(flat xs)[i * 6 + 4]? = some (.im (nth xs i).dead.length (flat (nth xs i).dead)):=flat_get (j:=4) h (by decide)
@[simp high] theorem delta_get5 {xs:List GDelta} {i:Nat} (h:i < xs.length):(flat xs)[i * 6 + 5]? = some (.im (nth xs i).cs.length (flat (nth xs i).cs)):=flat_get (j:=5) h (by decide)
@[simp high] theorem delta_one {xs:List GDelta} {i:Nat} (h:i < xs.length):((flat xs).drop (i * 6)).take 6 = [.im (nth xs i).base.length (flat (nth xs i).base),.im (nth xs i).know.length (flat (nth xs i).know),.im (nth xs i).tallies.length (flat (nth xs i).tallies),.im (nth xs i).lives.length (flat (nth xs i).lives),.im (nth xs i).dead.length (flat (nth xs i).dead),.im (nth xs i).cs.length (flat (nth xs i).cs)]:=flat_one h
@[simp high] theorem delta_set {xs:List GDelta} {i:Nat} (h:i < xs.length) (y1:List Int) (y2:List Int) (y3:List GTally) (y4:List GLive) (y5:List GDot) (y6:List GCell):splice (flat xs) (i * 6) [.im y1.length (flat y1),.im y2.length (flat y2),.im y3.length (flat y3),.im y4.length (flat y4),.im y5.length (flat y5),.im y6.length (flat y6)] = flat (xs.set i ⟨y1,y2,y3,y4,y5,y6⟩):=flat_set h (⟨y1,y2,y3,y4,y5,y6⟩:GDelta)
@[simp high] theorem delta_add (xs:List GDelta) (y1:List Int) (y2:List Int) (y3:List GTally) (y4:List GLive) (y5:List GDot) (y6:List GCell):flat xs ++ [.im y1.length (flat y1),.im y2.length (flat y2),.im y3.length (flat y3),.im y4.length (flat y4),.im y5.length (flat y5),.im y6.length (flat y6)] = flat (xs ++ [⟨y1,y2,y3,y4,y5,y6⟩]):=(flat_append xs [(⟨y1,y2,y3,y4,y5,y6⟩:GDelta)]).symm
@[simp] theorem delta_lengthO (xs:List GDelta):(flatO xs).length = xs.length * 6:=flatO_length xs
@[simp] theorem delta_nilO {xs:List GDelta}:flatO xs = [] ↔ xs = []:=by
  cases xs with
  | nil => simp [flatO,flat]
  | cons x xs => simp [flatO_cons,CelO.cellsO]
@[simp] theorem delta_nnO:flatO ([]:List GDelta) = []:=rfl
@[simp] theorem delta_leO {xs:List GDelta} {i:Nat} (h:i < xs.length):i * 6 + 6 ≤ xs.length * 6:=by omega
@[simp high] theorem delta_getO0 {xs:List GDelta} {i:Nat} (h:i < xs.length):(flatO xs)[i * 6]? = some (.ow 3 1 (nth xs i).base.length (flat (nth xs i).base)):=flatO_get (j:=0) h (by decide)
@[simp high] theorem delta_getO1 {xs:List GDelta} {i:Nat} (h:i < xs.length):(flatO xs)[i * 6 + 1]? = some (.ow 3 1 (nth xs i).know.length (flat (nth xs i).know)):=flatO_get (j:=1) h (by decide)
@[simp high] theorem delta_getO2 {xs:List GDelta} {i:Nat} (h:i < xs.length):(flatO xs)[i * 6 + 2]? = some (.ow 104 3 (nth xs i).tallies.length (flat (nth xs i).tallies)):=flatO_get (j:=2) h (by decide)
@[simp high] theorem delta_getO3 {xs:List GDelta} {i:Nat} (h:i < xs.length):(flatO xs)[i * 6 + 3]? = some (.ow 98 6 (nth xs i).lives.length (flat (nth xs i).lives)):=flatO_get (j:=3) h (by decide)
@[simp high] theorem delta_getO4 {xs:List GDelta} {i:Nat} (h:i < xs.length):(flatO xs)[i * 6 + 4]? = some (.ow 60 2 (nth xs i).dead.length (flat (nth xs i).dead)):=flatO_get (j:=4) h (by decide)
@[simp high] theorem delta_getO5 {xs:List GDelta} {i:Nat} (h:i < xs.length):(flatO xs)[i * 6 + 5]? = some (.ow 100 8 (nth xs i).cs.length (flat (nth xs i).cs)):=flatO_get (j:=5) h (by decide)
@[simp high] theorem delta_oneO {xs:List GDelta} {i:Nat} (h:i < xs.length):((flatO xs).drop (i * 6)).take 6 = [.ow 3 1 (nth xs i).base.length (flat (nth xs i).base),.ow 3 1 (nth xs i).know.length (flat (nth xs i).know),.ow 104 3 (nth xs i).tallies.length (flat (nth xs i).tallies),.ow 98 6 (nth xs i).lives.length (flat (nth xs i).lives),.ow 60 2 (nth xs i).dead.length (flat (nth xs i).dead),.ow 100 8 (nth xs i).cs.length (flat (nth xs i).cs)]:=flatO_one h
@[simp high] theorem delta_setO {xs:List GDelta} {i:Nat} (h:i < xs.length) (y1:List Int) (y2:List Int) (y3:List GTally) (y4:List GLive) (y5:List GDot) (y6:List GCell):splice (flatO xs) (i * 6) [.ow 3 1 y1.length (flat y1),.ow 3 1 y2.length (flat y2),.ow 104 3 y3.length (flat y3),.ow 98 6 y4.length (flat y4),.ow 60 2 y5.length (flat y5),.ow 100 8 y6.length (flat y6)] = flatO (xs.set i ⟨y1,y2,y3,y4,y5,y6⟩):=flatO_set h (⟨y1,y2,y3,y4,y5,y6⟩:GDelta)
@[simp high] theorem delta_addO (xs:List GDelta) (y1:List Int) (y2:List Int) (y3:List GTally) (y4:List GLive) (y5:List GDot) (y6:List GCell):flatO xs ++ [.ow 3 1 y1.length (flat y1),.ow 3 1 y2.length (flat y2),.ow 104 3 y3.length (flat y3),.ow 98 6 y4.length (flat y4),.ow 60 2 y5.length (flat y5),.ow 100 8 y6.length (flat y6)] = flatO (xs ++ [⟨y1,y2,y3,y4,y5,y6⟩]):=(flatO_append xs [(⟨y1,y2,y3,y4,y5,y6⟩:GDelta)]).symm
@[simp high] theorem delta_lsetO0 {xs:List GDelta} {i:Nat} (h:i < xs.length) {m:Nat} (v:List Int) (hm:m = v.length):(flatO xs).set (i * 6) (.ow 3 1 m (flat v)) = flatO (xs.set i { (nth xs i) with base:=v }):=by
  subst hm
  rw [← splice_one (by simp; omega)]
  exact flatO_set_in (j:=0) h (by simp [Cel.k]) _ rfl
@[simp high] theorem delta_lsetO1 {xs:List GDelta} {i:Nat} (h:i < xs.length) {m:Nat} (v:List Int) (hm:m = v.length):(flatO xs).set (i * 6 + 1) (.ow 3 1 m (flat v)) = flatO (xs.set i { (nth xs i) with know:=v }):=by
  subst hm
  rw [← splice_one (by simp; omega)]
  exact flatO_set_in (j:=1) h (by simp [Cel.k]) _ rfl
@[simp high] theorem delta_lsetO2 {xs:List GDelta} {i:Nat} (h:i < xs.length) {m:Nat} (v:List GTally) (hm:m = v.length):(flatO xs).set (i * 6 + 2) (.ow 104 3 m (flat v)) = flatO (xs.set i { (nth xs i) with tallies:=v }):=by
  subst hm
  rw [← splice_one (by simp; omega)]
  exact flatO_set_in (j:=2) h (by simp [Cel.k]) _ rfl
@[simp high] theorem delta_lsetO3 {xs:List GDelta} {i:Nat} (h:i < xs.length) {m:Nat} (v:List GLive) (hm:m = v.length):(flatO xs).set (i * 6 + 3) (.ow 98 6 m (flat v)) = flatO (xs.set i { (nth xs i) with lives:=v }):=by
  subst hm
  rw [← splice_one (by simp; omega)]
  exact flatO_set_in (j:=3) h (by simp [Cel.k]) _ rfl
@[simp high] theorem delta_lsetO4 {xs:List GDelta} {i:Nat} (h:i < xs.length) {m:Nat} (v:List GDot) (hm:m = v.length):(flatO xs).set (i * 6 + 4) (.ow 60 2 m (flat v)) = flatO (xs.set i { (nth xs i) with dead:=v }):=by
  subst hm
  rw [← splice_one (by simp; omega)]
  exact flatO_set_in (j:=4) h (by simp [Cel.k]) _ rfl
@[simp high] theorem delta_lsetO5 {xs:List GDelta} {i:Nat} (h:i < xs.length) {m:Nat} (v:List GCell) (hm:m = v.length):(flatO xs).set (i * 6 + 5) (.ow 100 8 m (flat v)) = flatO (xs.set i { (nth xs i) with cs:=v }):=by
  subst hm
  rw [← splice_one (by simp; omega)]
  exact flatO_set_in (j:=5) h (by simp [Cel.k]) _ rfl
@[simp] theorem delta_noimO (xs:List GDelta):noIms (flatO xs):=@flat_noIm _ (CelO.own _) (fun _ => by simp [cells,noIms,noIm,CelO.cellsO]) xs
@[simp high] theorem delta_fill {a:List GDelta} {i:Nat} (h:i < a.length) (z:GDelta) (y1:List Int) (y2:List Int) (y3:List GTally) (y4:List GLive) (y5:List GDot) (y6:List GCell):splice (flatO (a.take i) ++ flat (List.replicate (a.length - i) z)) (i * 6) [.ow 3 1 y1.length (flat y1),.ow 3 1 y2.length (flat y2),.ow 104 3 y3.length (flat y3),.ow 98 6 y4.length (flat y4),.ow 60 2 y5.length (flat y5),.ow 100 8 y6.length (flat y6)] = flatO (a.take i ++ [⟨y1,y2,y3,y4,y5,y6⟩]) ++ flat (List.replicate (a.length - (i + 1)) z):=by
  have hl:(a.take i).length = i:=by simp; omega
  have e:a.length - i = (a.length - (i + 1)) + 1:=by omega
  have:=flatO_fill (a.take i) (List.replicate (a.length - (i + 1)) z) z ⟨y1,y2,y3,y4,y5,y6⟩
  rw [hl] at this
  rw [e,List.replicate_succ]
  exact this
@[simp] theorem delta_eta (x:GDelta):(⟨x.base,x.know,x.tallies,x.lives,x.dead,x.cs⟩:GDelta) = x:=rfl
def GDelta.Ok (x:GDelta):Prop:=x.base.length ≤ 1073741824 ∧ x.know.length ≤ 1073741824 ∧ x.tallies.length ≤ 1073741824 ∧ (∀ y,y ∈ x.tallies → y.Ok) ∧ x.lives.length ≤ 1073741824 ∧ (∀ y,y ∈ x.lives → y.Ok) ∧ x.dead.length ≤ 1073741824 ∧ x.cs.length ≤ 1073741824 ∧ (∀ y,y ∈ x.cs → y.Ok)
def GDelta.sz (x:GDelta) (l:Int):Int:=szq (szLen x.base l) fun l => szq (szLen x.know l) fun l => szq (szS GTally.sz x.tallies l) fun l => szq (szS GLive.sz x.lives l) fun l => szq (szLen x.dead l) fun l => szq (szS GCell.sz x.cs l) fun l => l
end Am
