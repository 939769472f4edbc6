/- The abstract machine: the types' table, one operation, a region, code. No condition. -/
import Derived.Test.YtlkkgdealgceeaaAm1
namespace Am
open Go

inductive TyK where
  | int (k : IntKind) | bool | str
  | slice (e : Nat)
  | struct (fs : List (Nat × Nat))
  | other

structure TyI where
  k : TyK
  size : Nat
  bytes : Nat
  zero : List AV
  eq : Bool

def isOther : TyK → Bool
  | .other => true
  | _ => false

abbrev Ty := List (Nat × TyI)

/-- As many as a slice or a string may hold here. -/
def capMax : Nat := 1099511627776

structure Eff where
  side : Prop
  val : AV
  oe : List (Nat × AObj)

def ofConst : Value → AV
  | .int k n => .c (.int k n)
  | .bool b => .c (.bool b)
  | .string s => .c (.str s)
  | .slice none 0 0 => .nil
  | .agg cs => .agg (cs.toList.map fun v => match v with
    | .int k n => .c (.int k n)
    | .bool b => .c (.bool b)
    | .string s => .c (.str s)
    | .slice none 0 0 => .nil
    | _ => .any)
  | _ => .any

def ev (σ : AEnv) : Operand → AV
  | .tmp t => σ.t t
  | .const v => ofConst v
  | .func f => .fn f []
  | .global _ => .any

/-- Behind a guard: what it hangs on, and it. -/
def AV.ug : AV → Prop × AV
  | .gd b v => (b = true, v)
  | v => (True, v)

def AV.isGd : AV → Bool
  | .gd _ _ => true
  | _ => false

def abits (k : IntKind) (r : BitVec k.bits) : PV := .int k (k.wrap r.toNat)

def abin (op : BinOp) : PV → PV → Option (Prop × PV)
  | .int k a, .int k' b => match op with
    | .shl => some (0 ≤ b, .int k (k.wrap (a * 2 ^ (min b.toNat k.bits))))
    | .shr => some (0 ≤ b, .int k (a.fdiv (2 ^ (min b.toNat k.bits))))
    | op => if k = k' then match op with
      | .add => some (True, .int k (k.wrap (a + b)))
      | .sub => some (True, .int k (k.wrap (a - b)))
      | .mul => some (True, .int k (k.wrap (a * b)))
      | .quo => some (b ≠ 0, .int k (k.wrap (a.tdiv b)))
      | .rem => some (b ≠ 0, .int k (a.tmod b))
      | .and => some (True, abits k (BitVec.ofInt k.bits a &&& BitVec.ofInt k.bits b))
      | .or => some (True, abits k (BitVec.ofInt k.bits a ||| BitVec.ofInt k.bits b))
      | .xor => some (True, abits k (BitVec.ofInt k.bits a ^^^ BitVec.ofInt k.bits b))
      | .eql => some (True, .bool (a == b))
      | .neq => some (True, .bool (a != b))
      | .lss => some (True, .bool (decide (a < b)))
      | .leq => some (True, .bool (decide (a ≤ b)))
      | .gtr => some (True, .bool (decide (a > b)))
      | .geq => some (True, .bool (decide (a ≥ b)))
      | _ => none
      else none
  | .str a, .str b => match op with
    | .add => some (a.size + b.size ≤ capMax, .str (a ++ b))
    | .eql => some (True, .bool (a.toList == b.toList))
    | .neq => some (True, .bool (!(a.toList == b.toList)))
    | .lss => some (True, .bool (Op.bytesLess a.toList b.toList))
    | .leq => some (True, .bool (Op.bytesLess a.toList b.toList || a.toList == b.toList))
    | .gtr => some (True, .bool (!(Op.bytesLess a.toList b.toList || a.toList == b.toList)))
    | .geq => some (True, .bool (!Op.bytesLess a.toList b.toList))
    | _ => none
  | _, _ => none

/-- One cell of the kind of the first, the two others the same. -/
def eqCell : AV → AV → AV → Option Bool
  | .c (.int _ _), .c (.int k a), .c (.int k' b) => if k = k' then some (a == b) else none
  | .c (.bool _), .c (.bool a), .c (.bool b) => some (a == b)
  | .c (.str _), .c (.str a), .c (.str b) => some (a.toList == b.toList)
  | _, _, _ => none

/-- Cell by cell the same. -/
def eqCells : List AV → List AV → List AV → Option Bool
  | [], [], [] => some true
  | z :: zs, x :: xs, y :: ys => match eqCell z x y, eqCells zs xs ys with
    | some a, some b => some (a && b)
    | _, _ => none
  | _, _, _ => none

def apickV (t : Bool) : AV → AV → Option AV
  | .c (.bool a), .c (.bool b) => some (.c (.bool (cond t a b)))
  | .c (.int k a), .c (.int k' b) => if k = k' then some (.c (.int k (cond t a b))) else none
  | .c (.str a), .c (.str b) => some (.c (.str (cond t a b)))
  | .any, y => match t with
    | false => some y
    | true => none
  | x, .any => match t with
    | true => some x
    | false => none
  | _, _ => none

/-- The cells of a value: may they be put into a variable? -/
def cellOk (O : Nat → AObj) : AV → Bool
  | .c _ => true
  | .nil => true
  | .arr o => match O o with | .arr _ _ _ _ _ => true | _ => false
  | _ => false

def cellsOf (O : Nat → AObj) : AV → Option (List AV)
  | .agg cs => if cs.all (cellOk O) then some cs else none
  | x => if cellOk O x then some [x] else none

def isFree : PV → Bool
  | .ow _ _ _ _ => false
  | _ => true

/-- Functions made: a literal's, with what it holds. -/
def amake (ρ : Operand → AV) : Go.Fn → List Operand → List Operand → Option Eff
  | .func f, [], caps => some ⟨True, .fn f (caps.map ρ), []⟩
  | _, _, _ => none

/-- A cell that goes into an array: what is owned goes with it. -/
def toPV (O : Nat → AObj) : AV → Option (PV × List Nat)
  | .c p => if isFree p = true then some (p, []) else none
  | .nil => some (.im 0 [], [])
  | .arr o => match O o with
    | .arr _ e s n cs => some (.ow e s n cs, [o])
    | _ => none
  | _ => none

def toPVs (O : Nat → AObj) : List AV → Option (List PV × List Nat)
  | [] => some ([], [])
  | x :: xs => match toPV O x, toPVs O xs with
    | some (p, l), some (ps, ls) => some (p :: ps, l ++ ls)
    | _, _ => none

/-- An array's cell as it is loaded. -/
def ofPV (o g off : Nat) : PV → AV
  | .ow _ _ _ _ => .inr o g off
  | p => .c p

def ofPVs (o g off : Nat) : List PV → List AV
  | [] => []
  | p :: ps => ofPV o g off p :: ofPVs o g (off + 1) ps

/-- Cells taken out of an array: what was owned there is ours under these names. -/
def outPV (k : Nat) : PV → AV × List (Nat × AObj)
  | .ow e s n cs => (.arr k, [(k, .arr 0 e s n cs)])
  | p => (.c p, [])

def outPVs (k : Nat) : List PV → List AV × List (Nat × AObj)
  | [] => ([], [])
  | p :: ps => ((outPV k p).1 :: (outPVs (k + 1) ps).1, (outPV k p).2 ++ (outPVs (k + 1) ps).2)

/-- .. and what stays there. -/
def leftPV : PV → PV
  | .ow _ _ _ _ => .any
  | p => p

def freeOE (O : Nat → AObj) : List (Nat × AObj) → Prop
  | [] => True
  | (k, _) :: r => O k = .none ∧ freeOE O r

def splice {α : Type} (l : List α) (off : Nat) (xs : List α) : List α := l.take off ++ xs ++ l.drop (off + xs.length)

/-- Parts laid into a whole: where each begins, its cells. -/
def fillA : List AV → List (Nat × List AV) → Option (List AV)
  | cs, [] => some cs
  | cs, (off, xs) :: r => if off + xs.length ≤ cs.length then fillA (splice cs off xs) r else none

/-- How long a slice is. -/
def lenA (O : Nat → AObj) : AV → Option Nat
  | .c (.im n _) => some n
  | .nil => some 0
  | .arr o => match O o with | .arr _ _ _ n _ => some n | _ => none
  | .inr o g off => match O o with
    | .arr g' _ _ _ cs => if g = g' then match cs[off]? with | some (.ow _ _ n _) => some n | _ => none
      else none
    | _ => none
  | _ => none

/-- A slice's cells, as they are read behind an append or a conversion. -/
def readA (O : Nat → AObj) : AV → Option (Nat × List PV × List Nat)
  | .c (.im n cs) => some (n, cs, [])
  | .nil => some (0, [], [])
  | .arr o => match O o with | .arr _ _ _ n cs => some (n, cs, if cs.all isFree then [] else [o]) | _ => none
  | _ => none

def part1 (T : Ty) (ρ : Operand → AV) (O : Nat → AObj) (fs : List (Nat × Nat)) (p : Nat × Operand) : Option (Nat × List AV) :=
  match fs[p.1]?, cellsOf O (ρ p.2) with
  | some (off, ft), some cs => match T.lookup ft with
    | some i => if cs.length = i.size then some (off, cs) else none
    | none => none
  | _, _ => none

def partS (ρ : Operand → AV) (O : Nat → AObj) (size : Nat) (p : Nat × Operand) : Option (Nat × List AV) :=
  match cellsOf O (ρ p.2) with
  | some cs => if cs.length = size then some (p.1 * size, cs) else none
  | none => none

def allSome {α : Type} : List (Option α) → Option (List α)
  | [] => some []
  | some x :: r => match allSome r with | some l => some (x :: l) | none => none
  | none :: _ => none

/-- The bytes that cells hold. -/
def bytesOf : List PV → List UInt8
  | .int .u8 n :: r => UInt8.ofNat n.toNat :: bytesOf r
  | _ => []

def allBytes : List PV → Prop
  | [] => True
  | .int .u8 n :: r => (0 ≤ n ∧ n < 256) ∧ allBytes r
  | _ => False

def bt (s : ByteArray) (i : Int) : Int := ((s.data.toList.getD i.toNat 0).toNat : Int)

/-- The builtins len, max, min, append. -/
def abuiltin (T : Ty) (O : Nat → AObj) (dst : Option Nat) : Builtin → List AV → List Nat → Option Eff
  | .len, [x], [t] => match T.lookup t with
    | some ⟨.str, _, _, _, _⟩ => match x.ug with
      | (s, .c (.str b)) => some ⟨s, .c (.int .i64 b.size), []⟩
      | _ => none
    | some ⟨.slice _, _, _, _, _⟩ => match x.ug with
      | (s, v) => match lenA O v with
        | some n => some ⟨s, .c (.int .i64 n), []⟩
        | none => none
    | _ => none
  | .max, [x, y], _ => match x.ug, y.ug with
    | (s, .c (.int k a)), (s2, .c (.int _ b)) => some ⟨s ∧ s2, .c (.int k (if b > a then b else a)), []⟩
    | _, _ => none
  | .min, [x, y], _ => match x.ug, y.ug with
    | (s, .c (.int k a)), (s2, .c (.int _ b)) => some ⟨s ∧ s2, .c (.int k (if b < a then b else a)), []⟩
    | _, _ => none
  | .append, [s, x], [t, t'] => if t = t' then match T.lookup t, dst with
    | some ⟨.slice e, _, _, _, _⟩, some d => match T.lookup e, readA O x with
      | some i, some (m, cs, gone) =>
        if 0 < i.size ∧ i.zero.length = i.size ∧ isOther i.k = false then match s with
        | .nil => some ⟨O (64 * d) = .none ∧ cs.length = m * i.size ∧ m * i.bytes ≤ capMax ∧ m ≤ capMax, .arr (64 * d), (64 * d, .arr 0 e i.size m cs) :: gone.map (·, .dead)⟩
        | .arr b => match O b with
          | .arr _ e' k n ds => if e' = e ∧ k = i.size then
              some ⟨O (64 * d) = .none ∧ b ∉ gone ∧ cs.length = m * i.size ∧ (n + m) * i.bytes ≤ capMax ∧ n + m ≤ capMax, .arr (64 * d), (64 * d, .arr 0 e i.size (n + m) (ds ++ cs)) :: (b, .dead) :: gone.map (·, .dead)⟩
            else none
          | _ => none
        | _ => none
        else none
      | _, _ => none
    | _, _ => none
    else none
  | _, _, _ => none

/-- A bound of a cut: where there is none, this. -/
def bnd (ρ : Operand → AV) (d : Int) : Option Operand → Prop × AV
  | some l => (ρ l).ug
  | none => (True, .c (.int .i64 d))

/-- One operation that is no call of a function. -/
def astep (T : Ty) (mv : Bool) (ρ : Operand → AV) (O : Nat → AObj) (o : Oper) : Option Eff :=
  match o.op with
  | .move x => let (s, v) := (ρ x).ug; some ⟨s, v, []⟩
  | .assign x => let (s, v) := (ρ x).ug; some ⟨s, v, []⟩
  | .nilCheck x => match ρ x with
    | .box b off => match O b with | .box _ => some ⟨True, .box b off, []⟩ | _ => none
    | .pa b off => match O b with | .arr _ _ _ _ _ => some ⟨True, .pa b off, []⟩ | _ => none
    | .pc cs off => some ⟨True, .pc cs off, []⟩
    | _ => none
  | .pick c a b => match (ρ c).ug, (ρ a).ug, (ρ b).ug with
    | (s0, .c (.bool t)), (s1, x), (s2, y) => match apickV t x y with
      | some v => some ⟨s0 ∧ (t = true → s1) ∧ (t = false → s2), v, []⟩
      | none => none
    | _, _, _ => none
  | .alloc t => match T.lookup t, o.dst with
    | some i, some d => match i.k with
      | .other => none
      | _ => some ⟨O (64 * d) = .none, .box (64 * d) 0, [(64 * d, .box i.zero)]⟩
    | _, _ => none
  | .box t x => match T.lookup t, o.dst, cellsOf O (ρ x) with
    | some _, some d, some cs => some ⟨O (64 * d) = .none, .box (64 * d) 0, [(64 * d, .box cs)]⟩
    | _, _, _ => none
  | .build t parts => match T.lookup t with
    | some ⟨.struct fs, _, _, zero, _⟩ => match allSome (parts.toList.map (part1 T ρ O fs)) with
      | some ps => match fillA zero ps with
        | some cs => some ⟨True, .agg cs, []⟩
        | none => none
      | none => none
    | _ => none
  | .buildSlice t len parts => match T.lookup t with
    | some ⟨.slice e, _, _, _, _⟩ => match T.lookup e, o.dst with
      | some i, some d => if 0 < i.size ∧ i.zero.length = i.size ∧ isOther i.k = false then match allSome (parts.toList.map (partS ρ O i.size)) with
        | some ps => match fillA (List.replicate len i.zero).flatten ps with
          | some cs => match toPVs O cs with
            | some (ps, gone) => some ⟨O (64 * d) = .none ∧ gone.Nodup ∧ len * i.size ≤ 16777216, .arr (64 * d), (64 * d, .arr 0 e i.size len ps) :: gone.map (·, .dead)⟩
            | none => none
          | none => none
        | none => none
        else none
      | _, _ => none
    | _ => none
  | .load t a => match T.lookup t, (ρ a).ug with
    | some i, (s, .box b off) => match O b with
      | .box cs => match i.k with
        | .struct _ => if off + i.size ≤ cs.length then some ⟨s, .agg ((cs.drop off).take i.size), []⟩ else none
        | .other => none
        | _ => match cs[off]? with | some x => some ⟨s, x, []⟩ | none => none
      | _ => none
    | some i, (s, .pa b off) => match O b with
      | .arr g e1 s1 n1 cs => match mv with
        | false => match i.k with
          | .struct _ => some ⟨s ∧ off + i.size ≤ cs.length, .agg (ofPVs b g off ((cs.drop off).take i.size)), []⟩
          | .other => none
          | _ => match cs[off]? with | some x => some ⟨s, ofPV b g off x, []⟩ | none => none
        | true => match i.k, o.dst with
          | .struct _, some d => match (cs.drop off).take i.size with
            | ps => some ⟨s ∧ off + i.size ≤ cs.length ∧ ps.length ≤ 40 ∧ freeOE O (outPVs (64 * d) ps).2, .agg (outPVs (64 * d) ps).1, (b, .arr g e1 s1 n1 (splice cs off (ps.map leftPV))) :: (outPVs (64 * d) ps).2⟩
          | _, _ => none
      | _ => none
    | some i, (s, .pc cs off) => match i.k with
        | .struct _ => some ⟨s ∧ off + i.size ≤ cs.length, .agg (((cs.drop off).take i.size).map .c), []⟩
        | .other => none
        | _ => match cs[off]? with | some x => some ⟨s, .c x, []⟩ | none => none
    | _, _ => none
  | .store t a x => match T.lookup t, ρ a, cellsOf O (ρ x) with
    | some i, .box b off, some xs => match O b with
      | .box cs => if xs.length = i.size ∧ off + xs.length ≤ cs.length then some ⟨True, .any, [(b, .box (splice cs off xs))]⟩ else none
      | _ => none
    | some i, .pa b off, some xs => match O b with
      | .arr g e s n cs => match toPVs O xs with
        | some (ps, gone) => if xs.length = i.size then some ⟨off + ps.length ≤ cs.length ∧ gone.Nodup ∧ b ∉ gone, .any, (b, .arr (if ps.all isFree then g else g + 1) e s n (splice cs off ps)) :: gone.map (·, .dead)⟩ else none
        | _ => none
      | _ => none
    | _, _, _ => none
  | .binOp op t x y _ => match (ρ x).ug, (ρ y).ug with
    | (s1, .c (.bool a)), (s2, .c (.bool b)) => match op, T.lookup t with
      | .eql, some ⟨.bool, _, _, _, _⟩ => some ⟨s1 ∧ s2, .c (.bool (a == b)), []⟩
      | .neq, some ⟨.bool, _, _, _, _⟩ => some ⟨s1 ∧ s2, .c (.bool (!(a == b))), []⟩
      | _, _ => none
    | (s1, .c p), (s2, .c q) => match abin op p q with
      | some (s, r) => some ⟨s1 ∧ s2 ∧ s, .c r, []⟩
      | none => none
    | (s1, .agg xs), (s2, .agg ys) => match T.lookup t with
      | some ⟨.struct _, _, _, zero, true⟩ => match op, eqCells zero xs ys with
        | .eql, some r => some ⟨s1 ∧ s2, .c (.bool r), []⟩
        | .neq, some r => some ⟨s1 ∧ s2, .c (.bool (!r)), []⟩
        | _, _ => none
      | _ => none
    | _, _ => none
  | .unOp op _ x => match op, (ρ x).ug with
    | .not, (s, .c (.bool b)) => some ⟨s, .c (.bool (!b)), []⟩
    | .neg, (s, .c (.int k n)) => some ⟨s, .c (.int k (k.wrap (0 - n))), []⟩
    | _, _ => none
  | .convert s t x => match T.lookup s, T.lookup t, (ρ x).ug with
    | some ⟨.int _, _, _, _, _⟩, some ⟨.int k', _, _, _, _⟩, (s, .c (.int _ n)) => some ⟨s, .c (.int k' (k'.wrap n)), []⟩
    | some ⟨.slice e, _, _, _, _⟩, some ⟨.str, _, _, _, _⟩, (s, v) => match T.lookup e, readA O v with
      | some ⟨.int .u8, _, _, _, _⟩, some (m, cs, _) => some ⟨s ∧ allBytes cs ∧ cs.length = m, .c (.str ⟨(bytesOf cs).toArray⟩), []⟩
      | _, _ => none
    | _, _, _ => none
  | .slice t x lo hi none => match T.lookup t, (ρ x).ug with
    | some ⟨.str, _, _, _, _⟩, (s, .c (.str b)) =>
      match bnd ρ 0 lo, bnd ρ b.size hi with
      | (s1, .c (.int _ l)), (s2, .c (.int _ h)) => some ⟨s ∧ s1 ∧ s2 ∧ 0 ≤ l ∧ l ≤ h ∧ h ≤ b.size, .c (.str (b.extract l.toNat h.toNat)), []⟩
      | _, _ => none
    | some ⟨.slice e, _, _, _, _⟩, (s, .c (.im n cs)) => match T.lookup e with
      | some i => match bnd ρ 0 lo, bnd ρ n hi with
        | (s1, .c (.int _ l)), (s2, .c (.int _ h)) =>
          some ⟨s ∧ s1 ∧ s2 ∧ 0 ≤ l ∧ l ≤ h ∧ h ≤ n, .c (.im (h.toNat - l.toNat) ((cs.drop (l.toNat * i.size)).take ((h.toNat - l.toNat) * i.size))), []⟩
        | _, _ => none
      | none => none
    | some ⟨.slice el, _, _, _, _⟩, (s, .arr b) => match O b, o.dst, lo, hi, T.lookup el with
      | .arr _ e k n cs, some d, none, some h, some _ => match (ρ h).ug with
        | (s2, .c (.int _ h)) => some ⟨s ∧ s2 ∧ 0 ≤ h ∧ h ≤ n ∧ O (64 * d) = .none ∧ cs.all isFree = true, .arr (64 * d), [(64 * d, .arr 0 e k h.toNat (cs.take (h.toNat * k))), (b, .dead)]⟩
        | _ => none
      | _, _, _, _, _ => none
    | _, _ => none
  | .makeSlice t l c => match T.lookup t, o.dst, ρ l, ρ c with
    | some ⟨.slice e, _, _, _, _⟩, some d, .c (.int _ n), .c (.int _ m) => match T.lookup e with
      | some i => match toPVs (fun _ => .none) i.zero with
        | some (zs, []) => if 0 < i.size ∧ i.zero.length = i.size ∧ isOther i.k = false then some ⟨O (64 * d) = .none ∧ n = m ∧ 0 ≤ n ∧ n.toNat * i.bytes ≤ capMax ∧ n.toNat ≤ capMax, .arr (64 * d), [(64 * d, .arr 0 e i.size n.toNat (List.replicate n.toNat zs).flatten)]⟩ else none
        | _ => none
      | none => none
    | _, _, _, _ => none
  | .fieldAddr t x f => match T.lookup t with
    | some ⟨.struct fs, _, _, _, _⟩ => match fs[f]? with
      | some (fo, ft) => match T.lookup ft with
        | some i => if i.size = 0 then none else match (ρ x).ug with
          | (s, .box b off) => match O b with | .box _ => some ⟨s, .box b (off + fo), []⟩ | _ => none
          | (s, .pa b off) => match O b with | .arr _ _ _ _ _ => some ⟨s, .pa b (off + fo), []⟩ | _ => none
          | (s, .pc cs off) => some ⟨s, .pc cs (off + fo), []⟩
          | _ => none
        | none => none
      | none => none
    | _ => none
  | .indexAddr t x ix => match T.lookup t with
    | some ⟨.slice e, _, _, _, _⟩ => match T.lookup e, (ρ ix).ug with
      | some i, (s2, .c (.int _ n)) => match (ρ x).ug with
        | (s, .c (.im m cs)) => some ⟨s ∧ s2 ∧ 0 ≤ n ∧ n < m ∧ cs ≠ [], .pc cs (n.toNat * i.size), []⟩
        | (s, .arr b) => match O b with
          | .arr _ _ _ m _ => some ⟨s ∧ s2 ∧ 0 ≤ n ∧ n < m, .pa b (n.toNat * i.size), []⟩
          | _ => none
        | _ => none
      | _, _ => none
    | _ => none
  | .index t x ix => match T.lookup t, (ρ x).ug, (ρ ix).ug with
    | some ⟨.str, _, _, _, _⟩, (s, .c (.str b)), (s2, .c (.int _ n)) => some ⟨s ∧ s2 ∧ 0 ≤ n ∧ n < b.size, .c (.int .u8 (bt b n)), []⟩
    | _, _, _ => none
  | .makeFunc fn first caps => amake ρ fn first.toList caps.toList
  | .extract x i => match ρ x with
    | .tup vs => match vs[i]? with | some v => some ⟨True, v, []⟩ | none => none
    | _ => none
  | .call c => match c.callee with
    | .builtin b => abuiltin T O o.dst b (c.args.toList.map ρ) c.argTypes.toList
    | _ => none
  | _ => none

end Am
