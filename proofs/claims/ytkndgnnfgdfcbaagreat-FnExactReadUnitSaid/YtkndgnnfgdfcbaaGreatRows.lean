/-
  No cell of these rows narrows 'for every input' (looked for: loops, veiled, ifaces, maps, wideKeys, modest, calm, conditions, laid).
  DERIVED. THE GIVEN ROWS OF THIS SEAT. 3 by the template 'for every input the law returns true; each argument reads behind the call as it read before'; 0 by the template 'total and deterministic' (their statements: YtkndgnnfgdfcbaaGreatTotals.lean).
  GIVEN WITH THE SEED: the statements are not yours to turn. If you find one false, say at which input.
  Laid BY PROGRAM, IN A SANDBOX (cutbox-rows.mjs): the forced cells as the released guide's own fill.sh prints them over the translation 3ad219d117af7ce3… (all of the seat's roots in one cut). By AI agents, Wed Nov 11 2026. No macro, syntax, notation, axiom, sorry.
-/
import Derived.Test.YtkndgnnfgdfcbaaGreatChecked
import GoSem.Claim
import GoSem.ClaimJoined
import GoSem.ClaimMapViews
import Derived.JoinedTies
import Derived.KernelRfl
namespace Go.Proofs.YtkndgnnfgdfcbaaGreat
/- THE CELL 'sum', in the pinned program and in every row, IS THE sha256 OF THE DUMP (.gsa) THAT YtkndgnnfgdfcbaaGreatProg.lean LOADS. Nothing in Lean hashes anything: it is a label: what it is worth is what the hold of that sum in a sandbox is worth. -/
noncomputable def Tryz.pinned : Pinned := { name := "ytkndgnnfgdfcbaagreat", sum := "3ad219d117af7ce3ee5d3a2e762c6629460cd70dbea3333f86db26f98b1ca1af", checked := Tryz.checked }
namespace Rows
def none {H : Type} : Left H := { results := [], args := [] }

/-- 'laws.FnExactUnitText': WHATEVER THE INPUT: true; the input reads as it did. -/
def fnExactUnitTextSpec : ChangeSpec := { name := "fnExactUnitText", fn := fun _ => fun
  | [d] => { results := [.lit (.bool true)], args := [d] }
  | _ => none }
def fnExactUnitTextRow : OpenClaim := { program := "ytkndgnnfgdfcbaagreat", sum := "3ad219d117af7ce3ee5d3a2e762c6629460cd70dbea3333f86db26f98b1ca1af", func := "loop.example/g00463/laws.FnExactUnitText", spec := "fnExactUnitText", apart := false }
def FnExactUnitTextSaid : Prop := fnExactUnitTextRow.holds Tryz.pinned (OpenSpec.ofChange fnExactUnitTextSpec)

/-- ITS FALSE NEIGHBOUR: 'it returns false'. Refute it at one input. -/
def fnExactUnitTextWrong : ChangeSpec := { name := "fnExactUnitText", fn := fun _ => fun
  | [d] => { results := [.lit (.bool false)], args := [d] }
  | _ => none }
def FnExactUnitTextWrongFalsely : Prop := fnExactUnitTextRow.holds Tryz.pinned (OpenSpec.ofChange fnExactUnitTextWrong)

/-- 'laws.FnExactLackOf': WHATEVER THE INPUT: true; the input reads as it did. -/
def fnExactLackOfSpec : ChangeSpec := { name := "fnExactLackOf", fn := fun _ => fun
  | [d1, d2] => { results := [.lit (.bool true)], args := [d1, d2] }
  | _ => none }
def fnExactLackOfRow : OpenClaim := { program := "ytkndgnnfgdfcbaagreat", sum := "3ad219d117af7ce3ee5d3a2e762c6629460cd70dbea3333f86db26f98b1ca1af", func := "loop.example/g00463/laws.FnExactLackOf", spec := "fnExactLackOf", apart := false }
def FnExactLackOfSaid : Prop := fnExactLackOfRow.holds Tryz.pinned (OpenSpec.ofChange fnExactLackOfSpec)

/-- ITS FALSE NEIGHBOUR: 'it returns false'. Refute it at one input. -/
def fnExactLackOfWrong : ChangeSpec := { name := "fnExactLackOf", fn := fun _ => fun
  | [d1, d2] => { results := [.lit (.bool false)], args := [d1, d2] }
  | _ => none }
def FnExactLackOfWrongFalsely : Prop := fnExactLackOfRow.holds Tryz.pinned (OpenSpec.ofChange fnExactLackOfWrong)

/-- 'laws.FnExactReadUnit': WHATEVER THE INPUT: true; the input reads as it did. -/
def fnExactReadUnitSpec : ChangeSpec := { name := "fnExactReadUnit", fn := fun _ => fun
  | [d] => { results := [.lit (.bool true)], args := [d] }
  | _ => none }
def fnExactReadUnitRow : OpenClaim := { program := "ytkndgnnfgdfcbaagreat", sum := "3ad219d117af7ce3ee5d3a2e762c6629460cd70dbea3333f86db26f98b1ca1af", func := "loop.example/g00463/laws.FnExactReadUnit", spec := "fnExactReadUnit", apart := false }
def FnExactReadUnitSaid : Prop := fnExactReadUnitRow.holds Tryz.pinned (OpenSpec.ofChange fnExactReadUnitSpec)

/-- ITS FALSE NEIGHBOUR: 'it returns false'. Refute it at one input. -/
def fnExactReadUnitWrong : ChangeSpec := { name := "fnExactReadUnit", fn := fun _ => fun
  | [d] => { results := [.lit (.bool false)], args := [d] }
  | _ => none }
def FnExactReadUnitWrongFalsely : Prop := fnExactReadUnitRow.holds Tryz.pinned (OpenSpec.ofChange fnExactReadUnitWrong)

/- THE SECOND FORM. 'bulk': how many values and letters a reading holds, each counted each time it is reached (what is shared counts as often as it is met; a slice's spare places count too). A statement '..UptoSaid' is the law's where the arguments, and the package variables that the reading takes, are together of bulk at most 1048576: NARROWER than '..Said'. Prove '..Said' where nothing that the law and all that it calls make is longer than what came in: it says more and counts as full. Else prove '..UptoSaid'. A law counts once. -/
mutual
def uptoBulk {H : Type} : DataW H → Nat
  | .lit (.string bytes) => bytes.length + 1
  | .lit _ => 1
  | .nil => 1
  | .ptr d => uptoBulk d + 1
  | .slice elems spare => uptoBulkAll elems + uptoBulkAll spare + 1
  | .agg parts => uptoBulkAll parts + 1
  | .iface _ d => uptoBulk d + 1
  | .map entries => uptoBulkEntries entries + 1
  | .held _ => 1
def uptoBulkAll {H : Type} : List (DataW H) → Nat
  | [] => 0
  | d :: r => uptoBulk d + uptoBulkAll r
def uptoBulkEntries {H : Type} : List (Lit × DataW H) → Nat
  | [] => 0
  | x :: r => uptoBulkEntry x + uptoBulkEntries r
def uptoBulkEntry {H : Type} : Lit × DataW H → Nat
  | (.string bytes, d) => bytes.length + uptoBulk d + 1
  | (_, d) => uptoBulk d + 1
 end
def uptoSmall : (H : Type) → List (DataW H) → Bool := fun _ ds => decide (uptoBulkAll ds ≤ 1048576)
def OpenSpec.upto (s : _root_.Go.ChangeSpec) : _root_.Go.OpenSpec := { _root_.Go.OpenSpec.ofChange s with cond := some uptoSmall }

/-- 'laws.FnExactUnitText', WHERE WHAT IT READS IS OF BULK AT MOST 1048576: true; the input reads as it did. -/
def fnExactUnitTextUptoRow : OpenClaim := { program := "ytkndgnnfgdfcbaagreat", sum := "3ad219d117af7ce3ee5d3a2e762c6629460cd70dbea3333f86db26f98b1ca1af", func := "loop.example/g00463/laws.FnExactUnitText", spec := "fnExactUnitText", apart := false, narrowed := true }
def FnExactUnitTextUptoSaid : Prop := fnExactUnitTextUptoRow.holds Tryz.pinned (OpenSpec.upto fnExactUnitTextSpec)

/-- 'laws.FnExactLackOf', WHERE WHAT IT READS IS OF BULK AT MOST 1048576: true; the input reads as it did. -/
def fnExactLackOfUptoRow : OpenClaim := { program := "ytkndgnnfgdfcbaagreat", sum := "3ad219d117af7ce3ee5d3a2e762c6629460cd70dbea3333f86db26f98b1ca1af", func := "loop.example/g00463/laws.FnExactLackOf", spec := "fnExactLackOf", apart := false, narrowed := true }
def FnExactLackOfUptoSaid : Prop := fnExactLackOfUptoRow.holds Tryz.pinned (OpenSpec.upto fnExactLackOfSpec)

/-- 'laws.FnExactReadUnit', WHERE WHAT IT READS IS OF BULK AT MOST 1048576: true; the input reads as it did. -/
def fnExactReadUnitUptoRow : OpenClaim := { program := "ytkndgnnfgdfcbaagreat", sum := "3ad219d117af7ce3ee5d3a2e762c6629460cd70dbea3333f86db26f98b1ca1af", func := "loop.example/g00463/laws.FnExactReadUnit", spec := "fnExactReadUnit", apart := false, narrowed := true }
def FnExactReadUnitUptoSaid : Prop := fnExactReadUnitUptoRow.holds Tryz.pinned (OpenSpec.upto fnExactReadUnitSpec)

end Rows
end Go.Proofs.YtkndgnnfgdfcbaaGreat
