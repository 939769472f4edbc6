/-
  No cell of these rows narrows 'for every input' (looked for: loops, veiled, ifaces, maps, wideKeys, modest, calm, conditions, laid).
  DERIVED. THE GIVEN ROWS OF THIS SEAT. 5 by the template 'for every input the law returns true; each argument reads behind the call as it read before'; 0 by the template 'total and deterministic' (their statements: YtbnpeacndfkcnaaTotals.lean).
  GIVEN WITH THE SEED: the statements are not yours to turn. If you find one false, say at which input.
  Laid BY PROGRAM, IN A SANDBOX (cutbox-rows.mjs): the forced cells as the released guide's own fill.sh prints them over the translation cec25b753aa8bc11… (all of the seat's roots in one cut). By AI agents, Wed Nov 11 2026. No macro, syntax, notation, axiom, sorry.
-/
import Derived.Test.YtbnpeacndfkcnaaChecked
import GoSem.Claim
import GoSem.ClaimJoined
import GoSem.ClaimMapViews
import Derived.JoinedTies
import Derived.KernelRfl
namespace Go.Proofs.Ytbnpeacndfkcnaa
/- THE CELL 'sum', in the pinned program and in every row, IS THE sha256 OF THE DUMP (.gsa) THAT YtbnpeacndfkcnaaProg.lean LOADS. Nothing in Lean hashes anything: it is a label: what it is worth is what the hold of that sum in a sandbox is worth. -/
noncomputable def Try.pinned : Pinned := { name := "ytbnpeacndfkcnaa", sum := "cec25b753aa8bc11aa9c92a9d3d221f0e7db54c3529654800afc0cbeb2b2c787", checked := Try.checked }
namespace Rows
def none {H : Type} : Left H := { results := [], args := [] }

/-- 'laws.FnExactEditOk': WHATEVER THE INPUT: true; the input reads as it did. -/
def fnExactEditOkSpec : ChangeSpec := { name := "fnExactEditOk", fn := fun _ => fun
  | [d] => { results := [.lit (.bool true)], args := [d] }
  | _ => none }
def fnExactEditOkRow : OpenClaim := { program := "ytbnpeacndfkcnaa", sum := "cec25b753aa8bc11aa9c92a9d3d221f0e7db54c3529654800afc0cbeb2b2c787", func := "loop.example/g00463/laws.FnExactEditOk", spec := "fnExactEditOk", apart := false }
def FnExactEditOkSaid : Prop := fnExactEditOkRow.holds Try.pinned (OpenSpec.ofChange fnExactEditOkSpec)

/-- ITS FALSE NEIGHBOUR: 'it returns false'. Refute it at one input. -/
def fnExactEditOkWrong : ChangeSpec := { name := "fnExactEditOk", fn := fun _ => fun
  | [d] => { results := [.lit (.bool false)], args := [d] }
  | _ => none }
def FnExactEditOkWrongFalsely : Prop := fnExactEditOkRow.holds Try.pinned (OpenSpec.ofChange fnExactEditOkWrong)

/-- 'laws.FnExactGraphNew': WHATEVER THE INPUT: true; the input reads as it did. -/
def fnExactGraphNewSpec : ChangeSpec := { name := "fnExactGraphNew", fn := fun _ => fun
  | [] => { results := [.lit (.bool true)], args := [] }
  | _ => none }
def fnExactGraphNewRow : OpenClaim := { program := "ytbnpeacndfkcnaa", sum := "cec25b753aa8bc11aa9c92a9d3d221f0e7db54c3529654800afc0cbeb2b2c787", func := "loop.example/g00463/laws.FnExactGraphNew", spec := "fnExactGraphNew", apart := false }
def FnExactGraphNewSaid : Prop := fnExactGraphNewRow.holds Try.pinned (OpenSpec.ofChange fnExactGraphNewSpec)

/-- ITS FALSE NEIGHBOUR: 'it returns false'. Refute it at one input. -/
def fnExactGraphNewWrong : ChangeSpec := { name := "fnExactGraphNew", fn := fun _ => fun
  | [] => { results := [.lit (.bool false)], args := [] }
  | _ => none }
def FnExactGraphNewWrongFalsely : Prop := fnExactGraphNewRow.holds Try.pinned (OpenSpec.ofChange fnExactGraphNewWrong)

/-- 'laws.FnExactAtId': WHATEVER THE INPUT: true; the input reads as it did. -/
def fnExactAtIdSpec : ChangeSpec := { name := "fnExactAtId", fn := fun _ => fun
  | [d1, d2] => { results := [.lit (.bool true)], args := [d1, d2] }
  | _ => none }
def fnExactAtIdRow : OpenClaim := { program := "ytbnpeacndfkcnaa", sum := "cec25b753aa8bc11aa9c92a9d3d221f0e7db54c3529654800afc0cbeb2b2c787", func := "loop.example/g00463/laws.FnExactAtId", spec := "fnExactAtId", unfollowed := true, recurses := true, apart := false }
def FnExactAtIdSaid : Prop := fnExactAtIdRow.holds Try.pinned (OpenSpec.ofChange fnExactAtIdSpec)

/-- ITS FALSE NEIGHBOUR: 'it returns false'. Refute it at one input. -/
def fnExactAtIdWrong : ChangeSpec := { name := "fnExactAtId", fn := fun _ => fun
  | [d1, d2] => { results := [.lit (.bool false)], args := [d1, d2] }
  | _ => none }
def FnExactAtIdWrongFalsely : Prop := fnExactAtIdRow.holds Try.pinned (OpenSpec.ofChange fnExactAtIdWrong)

/-- 'laws.FnExactSameUnit': WHATEVER THE INPUT: true; the input reads as it did. -/
def fnExactSameUnitSpec : ChangeSpec := { name := "fnExactSameUnit", fn := fun _ => fun
  | [d1, d2] => { results := [.lit (.bool true)], args := [d1, d2] }
  | _ => none }
def fnExactSameUnitRow : OpenClaim := { program := "ytbnpeacndfkcnaa", sum := "cec25b753aa8bc11aa9c92a9d3d221f0e7db54c3529654800afc0cbeb2b2c787", func := "loop.example/g00463/laws.FnExactSameUnit", spec := "fnExactSameUnit", apart := false }
def FnExactSameUnitSaid : Prop := fnExactSameUnitRow.holds Try.pinned (OpenSpec.ofChange fnExactSameUnitSpec)

/-- ITS FALSE NEIGHBOUR: 'it returns false'. Refute it at one input. -/
def fnExactSameUnitWrong : ChangeSpec := { name := "fnExactSameUnit", fn := fun _ => fun
  | [d1, d2] => { results := [.lit (.bool false)], args := [d1, d2] }
  | _ => none }
def FnExactSameUnitWrongFalsely : Prop := fnExactSameUnitRow.holds Try.pinned (OpenSpec.ofChange fnExactSameUnitWrong)

/-- 'laws.FnExactDeltaOk': WHATEVER THE INPUT: true; the input reads as it did. -/
def fnExactDeltaOkSpec : ChangeSpec := { name := "fnExactDeltaOk", fn := fun _ => fun
  | [d] => { results := [.lit (.bool true)], args := [d] }
  | _ => none }
def fnExactDeltaOkRow : OpenClaim := { program := "ytbnpeacndfkcnaa", sum := "cec25b753aa8bc11aa9c92a9d3d221f0e7db54c3529654800afc0cbeb2b2c787", func := "loop.example/g00463/laws.FnExactDeltaOk", spec := "fnExactDeltaOk", apart := false }
def FnExactDeltaOkSaid : Prop := fnExactDeltaOkRow.holds Try.pinned (OpenSpec.ofChange fnExactDeltaOkSpec)

/-- ITS FALSE NEIGHBOUR: 'it returns false'. Refute it at one input. -/
def fnExactDeltaOkWrong : ChangeSpec := { name := "fnExactDeltaOk", fn := fun _ => fun
  | [d] => { results := [.lit (.bool false)], args := [d] }
  | _ => none }
def FnExactDeltaOkWrongFalsely : Prop := fnExactDeltaOkRow.holds Try.pinned (OpenSpec.ofChange fnExactDeltaOkWrong)

/- THE SECOND FORM. 'bulk': how many values and letters a reading holds, each counted each time it is reached (what is shared counts as often as it is met; a slice's spare places count too). A statement '..UptoSaid' is the law's where the arguments, and the package variables that the reading takes, are together of bulk at most 1048576: NARROWER than '..Said'. Prove '..Said' where nothing that the law and all that it calls make is longer than what came in: it says more and counts as full. Else prove '..UptoSaid'. A law counts once. -/
mutual
def uptoBulk {H : Type} : DataW H → Nat
  | .lit (.string bytes) => bytes.length + 1
  | .lit _ => 1
  | .nil => 1
  | .ptr d => uptoBulk d + 1
  | .slice elems spare => uptoBulkAll elems + uptoBulkAll spare + 1
  | .agg parts => uptoBulkAll parts + 1
  | .iface _ d => uptoBulk d + 1
  | .map entries => uptoBulkEntries entries + 1
  | .held _ => 1
def uptoBulkAll {H : Type} : List (DataW H) → Nat
  | [] => 0
  | d :: r => uptoBulk d + uptoBulkAll r
def uptoBulkEntries {H : Type} : List (Lit × DataW H) → Nat
  | [] => 0
  | x :: r => uptoBulkEntry x + uptoBulkEntries r
def uptoBulkEntry {H : Type} : Lit × DataW H → Nat
  | (.string bytes, d) => bytes.length + uptoBulk d + 1
  | (_, d) => uptoBulk d + 1
 end
def uptoSmall : (H : Type) → List (DataW H) → Bool := fun _ ds => decide (uptoBulkAll ds ≤ 1048576)
def OpenSpec.upto (s : _root_.Go.ChangeSpec) : _root_.Go.OpenSpec := { _root_.Go.OpenSpec.ofChange s with cond := some uptoSmall }

/-- 'laws.FnExactEditOk', WHERE WHAT IT READS IS OF BULK AT MOST 1048576: true; the input reads as it did. -/
def fnExactEditOkUptoRow : OpenClaim := { program := "ytbnpeacndfkcnaa", sum := "cec25b753aa8bc11aa9c92a9d3d221f0e7db54c3529654800afc0cbeb2b2c787", func := "loop.example/g00463/laws.FnExactEditOk", spec := "fnExactEditOk", apart := false, narrowed := true }
def FnExactEditOkUptoSaid : Prop := fnExactEditOkUptoRow.holds Try.pinned (OpenSpec.upto fnExactEditOkSpec)

/-- 'laws.FnExactGraphNew', WHERE WHAT IT READS IS OF BULK AT MOST 1048576: true; the input reads as it did. -/
def fnExactGraphNewUptoRow : OpenClaim := { program := "ytbnpeacndfkcnaa", sum := "cec25b753aa8bc11aa9c92a9d3d221f0e7db54c3529654800afc0cbeb2b2c787", func := "loop.example/g00463/laws.FnExactGraphNew", spec := "fnExactGraphNew", apart := false, narrowed := true }
def FnExactGraphNewUptoSaid : Prop := fnExactGraphNewUptoRow.holds Try.pinned (OpenSpec.upto fnExactGraphNewSpec)

/-- 'laws.FnExactAtId', WHERE WHAT IT READS IS OF BULK AT MOST 1048576: true; the input reads as it did. -/
def fnExactAtIdUptoRow : OpenClaim := { program := "ytbnpeacndfkcnaa", sum := "cec25b753aa8bc11aa9c92a9d3d221f0e7db54c3529654800afc0cbeb2b2c787", func := "loop.example/g00463/laws.FnExactAtId", spec := "fnExactAtId", unfollowed := true, recurses := true, apart := false, narrowed := true }
def FnExactAtIdUptoSaid : Prop := fnExactAtIdUptoRow.holds Try.pinned (OpenSpec.upto fnExactAtIdSpec)

/-- 'laws.FnExactSameUnit', WHERE WHAT IT READS IS OF BULK AT MOST 1048576: true; the input reads as it did. -/
def fnExactSameUnitUptoRow : OpenClaim := { program := "ytbnpeacndfkcnaa", sum := "cec25b753aa8bc11aa9c92a9d3d221f0e7db54c3529654800afc0cbeb2b2c787", func := "loop.example/g00463/laws.FnExactSameUnit", spec := "fnExactSameUnit", apart := false, narrowed := true }
def FnExactSameUnitUptoSaid : Prop := fnExactSameUnitUptoRow.holds Try.pinned (OpenSpec.upto fnExactSameUnitSpec)

/-- 'laws.FnExactDeltaOk', WHERE WHAT IT READS IS OF BULK AT MOST 1048576: true; the input reads as it did. -/
def fnExactDeltaOkUptoRow : OpenClaim := { program := "ytbnpeacndfkcnaa", sum := "cec25b753aa8bc11aa9c92a9d3d221f0e7db54c3529654800afc0cbeb2b2c787", func := "loop.example/g00463/laws.FnExactDeltaOk", spec := "fnExactDeltaOk", apart := false, narrowed := true }
def FnExactDeltaOkUptoSaid : Prop := fnExactDeltaOkUptoRow.holds Try.pinned (OpenSpec.upto fnExactDeltaOkSpec)

end Rows
end Go.Proofs.Ytbnpeacndfkcnaa
