/-
  No cell of these rows narrows 'for every input' (looked for: loops, veiled, ifaces, maps, wideKeys, modest, calm, conditions, laid).
  DERIVED. THE GIVEN ROWS OF THIS SEAT. 6 by the template 'for every input the law returns true; each argument reads behind the call as it read before'; 0 by the template 'total and deterministic' (their statements: YtmedpldnoehoiaaGreatTotals.lean).
  GIVEN WITH THE SEED: the statements are not yours to turn. If you find one false, say at which input.
  Laid BY PROGRAM, IN A SANDBOX (cutbox-rows.mjs): the forced cells as the released guide's own fill.sh prints them over the translation d16f1dd94ecff143… (all of the seat's roots in one cut). By AI agents, Wed Nov 11 2026. No macro, syntax, notation, axiom, sorry.
-/
import Derived.Test.YtmedpldnoehoiaaGreatChecked
import GoSem.Claim
import GoSem.ClaimJoined
import GoSem.ClaimMapViews
import Derived.JoinedTies
import Derived.KernelRfl
namespace Go.Proofs.YtmedpldnoehoiaaGreat
/- THE CELL 'sum', in the pinned program and in every row, IS THE sha256 OF THE DUMP (.gsa) THAT YtmedpldnoehoiaaGreatProg.lean LOADS. Nothing in Lean hashes anything: it is a label: what it is worth is what the hold of that sum in a sandbox is worth. -/
noncomputable def Tryz.pinned : Pinned := { name := "ytmedpldnoehoiaagreat", sum := "d16f1dd94ecff143b557775dddcd2bcfdcbfea5a220a187cad4cd2b000853002", checked := Tryz.checked }
namespace Rows
def none {H : Type} : Left H := { results := [], args := [] }

/-- 'laws.FnMerges': WHATEVER THE INPUT: true; the input reads as it did. -/
def fnMergesSpec : ChangeSpec := { name := "fnMerges", fn := fun _ => fun
  | [d] => { results := [.lit (.bool true)], args := [d] }
  | _ => none }
def fnMergesRow : OpenClaim := { program := "ytmedpldnoehoiaagreat", sum := "d16f1dd94ecff143b557775dddcd2bcfdcbfea5a220a187cad4cd2b000853002", func := "loop.example/g00463/laws.FnMerges", spec := "fnMerges", unfollowed := true, recurses := true, plainKeys := false, apart := false }
def FnMergesSaid : Prop := fnMergesRow.holds Tryz.pinned (OpenSpec.ofChange fnMergesSpec)

/-- ITS FALSE NEIGHBOUR: 'it returns false'. Refute it at one input. -/
def fnMergesWrong : ChangeSpec := { name := "fnMerges", fn := fun _ => fun
  | [d] => { results := [.lit (.bool false)], args := [d] }
  | _ => none }
def FnMergesWrongFalsely : Prop := fnMergesRow.holds Tryz.pinned (OpenSpec.ofChange fnMergesWrong)

/-- 'laws.FnMergesActs': WHATEVER THE INPUT: true; the input reads as it did. -/
def fnMergesActsSpec : ChangeSpec := { name := "fnMergesActs", fn := fun _ => fun
  | [d] => { results := [.lit (.bool true)], args := [d] }
  | _ => none }
def fnMergesActsRow : OpenClaim := { program := "ytmedpldnoehoiaagreat", sum := "d16f1dd94ecff143b557775dddcd2bcfdcbfea5a220a187cad4cd2b000853002", func := "loop.example/g00463/laws.FnMergesActs", spec := "fnMergesActs", unfollowed := true, recurses := true, plainKeys := false, apart := false }
def FnMergesActsSaid : Prop := fnMergesActsRow.holds Tryz.pinned (OpenSpec.ofChange fnMergesActsSpec)

/-- ITS FALSE NEIGHBOUR: 'it returns false'. Refute it at one input. -/
def fnMergesActsWrong : ChangeSpec := { name := "fnMergesActs", fn := fun _ => fun
  | [d] => { results := [.lit (.bool false)], args := [d] }
  | _ => none }
def FnMergesActsWrongFalsely : Prop := fnMergesActsRow.holds Tryz.pinned (OpenSpec.ofChange fnMergesActsWrong)

/-- 'laws.FnDeltas': WHATEVER THE INPUT: true; the input reads as it did. -/
def fnDeltasSpec : ChangeSpec := { name := "fnDeltas", fn := fun _ => fun
  | [d] => { results := [.lit (.bool true)], args := [d] }
  | _ => none }
def fnDeltasRow : OpenClaim := { program := "ytmedpldnoehoiaagreat", sum := "d16f1dd94ecff143b557775dddcd2bcfdcbfea5a220a187cad4cd2b000853002", func := "loop.example/g00463/laws.FnDeltas", spec := "fnDeltas", unfollowed := true, recurses := true, plainKeys := false, apart := false }
def FnDeltasSaid : Prop := fnDeltasRow.holds Tryz.pinned (OpenSpec.ofChange fnDeltasSpec)

/-- ITS FALSE NEIGHBOUR: 'it returns false'. Refute it at one input. -/
def fnDeltasWrong : ChangeSpec := { name := "fnDeltas", fn := fun _ => fun
  | [d] => { results := [.lit (.bool false)], args := [d] }
  | _ => none }
def FnDeltasWrongFalsely : Prop := fnDeltasRow.holds Tryz.pinned (OpenSpec.ofChange fnDeltasWrong)

/-- 'laws.FnDeltasPart': WHATEVER THE INPUT: true; the input reads as it did. -/
def fnDeltasPartSpec : ChangeSpec := { name := "fnDeltasPart", fn := fun _ => fun
  | [d] => { results := [.lit (.bool true)], args := [d] }
  | _ => none }
def fnDeltasPartRow : OpenClaim := { program := "ytmedpldnoehoiaagreat", sum := "d16f1dd94ecff143b557775dddcd2bcfdcbfea5a220a187cad4cd2b000853002", func := "loop.example/g00463/laws.FnDeltasPart", spec := "fnDeltasPart", unfollowed := true, recurses := true, plainKeys := false, apart := false }
def FnDeltasPartSaid : Prop := fnDeltasPartRow.holds Tryz.pinned (OpenSpec.ofChange fnDeltasPartSpec)

/-- ITS FALSE NEIGHBOUR: 'it returns false'. Refute it at one input. -/
def fnDeltasPartWrong : ChangeSpec := { name := "fnDeltasPart", fn := fun _ => fun
  | [d] => { results := [.lit (.bool false)], args := [d] }
  | _ => none }
def FnDeltasPartWrongFalsely : Prop := fnDeltasPartRow.holds Tryz.pinned (OpenSpec.ofChange fnDeltasPartWrong)

/-- 'laws.FnEdits': WHATEVER THE INPUT: true; the input reads as it did. -/
def fnEditsSpec : ChangeSpec := { name := "fnEdits", fn := fun _ => fun
  | [d] => { results := [.lit (.bool true)], args := [d] }
  | _ => none }
def fnEditsRow : OpenClaim := { program := "ytmedpldnoehoiaagreat", sum := "d16f1dd94ecff143b557775dddcd2bcfdcbfea5a220a187cad4cd2b000853002", func := "loop.example/g00463/laws.FnEdits", spec := "fnEdits", unfollowed := true, recurses := true, plainKeys := false, apart := false }
def FnEditsSaid : Prop := fnEditsRow.holds Tryz.pinned (OpenSpec.ofChange fnEditsSpec)

/-- ITS FALSE NEIGHBOUR: 'it returns false'. Refute it at one input. -/
def fnEditsWrong : ChangeSpec := { name := "fnEdits", fn := fun _ => fun
  | [d] => { results := [.lit (.bool false)], args := [d] }
  | _ => none }
def FnEditsWrongFalsely : Prop := fnEditsRow.holds Tryz.pinned (OpenSpec.ofChange fnEditsWrong)

/-- 'laws.FnReadings': WHATEVER THE INPUT: true; the input reads as it did. -/
def fnReadingsSpec : ChangeSpec := { name := "fnReadings", fn := fun _ => fun
  | [d] => { results := [.lit (.bool true)], args := [d] }
  | _ => none }
def fnReadingsRow : OpenClaim := { program := "ytmedpldnoehoiaagreat", sum := "d16f1dd94ecff143b557775dddcd2bcfdcbfea5a220a187cad4cd2b000853002", func := "loop.example/g00463/laws.FnReadings", spec := "fnReadings", unfollowed := true, recurses := true, plainKeys := false, apart := false }
def FnReadingsSaid : Prop := fnReadingsRow.holds Tryz.pinned (OpenSpec.ofChange fnReadingsSpec)

/-- ITS FALSE NEIGHBOUR: 'it returns false'. Refute it at one input. -/
def fnReadingsWrong : ChangeSpec := { name := "fnReadings", fn := fun _ => fun
  | [d] => { results := [.lit (.bool false)], args := [d] }
  | _ => none }
def FnReadingsWrongFalsely : Prop := fnReadingsRow.holds Tryz.pinned (OpenSpec.ofChange fnReadingsWrong)

/- THE SECOND FORM. 'bulk': how many values and letters a reading holds, each counted each time it is reached (what is shared counts as often as it is met; a slice's spare places count too). A statement '..UptoSaid' is the law's where the arguments, and the package variables that the reading takes, are together of bulk at most 1048576: NARROWER than '..Said'. Prove '..Said' where nothing that the law and all that it calls make is longer than what came in: it says more and counts as full. Else prove '..UptoSaid'. A law counts once. -/
mutual
def uptoBulk {H : Type} : DataW H → Nat
  | .lit (.string bytes) => bytes.length + 1
  | .lit _ => 1
  | .nil => 1
  | .ptr d => uptoBulk d + 1
  | .slice elems spare => uptoBulkAll elems + uptoBulkAll spare + 1
  | .agg parts => uptoBulkAll parts + 1
  | .iface _ d => uptoBulk d + 1
  | .map entries => uptoBulkEntries entries + 1
  | .held _ => 1
def uptoBulkAll {H : Type} : List (DataW H) → Nat
  | [] => 0
  | d :: r => uptoBulk d + uptoBulkAll r
def uptoBulkEntries {H : Type} : List (Lit × DataW H) → Nat
  | [] => 0
  | x :: r => uptoBulkEntry x + uptoBulkEntries r
def uptoBulkEntry {H : Type} : Lit × DataW H → Nat
  | (.string bytes, d) => bytes.length + uptoBulk d + 1
  | (_, d) => uptoBulk d + 1
 end
def uptoSmall : (H : Type) → List (DataW H) → Bool := fun _ ds => decide (uptoBulkAll ds ≤ 1048576)
def OpenSpec.upto (s : _root_.Go.ChangeSpec) : _root_.Go.OpenSpec := { _root_.Go.OpenSpec.ofChange s with cond := some uptoSmall }

/-- 'laws.FnMerges', WHERE WHAT IT READS IS OF BULK AT MOST 1048576: true; the input reads as it did. -/
def fnMergesUptoRow : OpenClaim := { program := "ytmedpldnoehoiaagreat", sum := "d16f1dd94ecff143b557775dddcd2bcfdcbfea5a220a187cad4cd2b000853002", func := "loop.example/g00463/laws.FnMerges", spec := "fnMerges", unfollowed := true, recurses := true, plainKeys := false, apart := false, narrowed := true }
def FnMergesUptoSaid : Prop := fnMergesUptoRow.holds Tryz.pinned (OpenSpec.upto fnMergesSpec)

/-- 'laws.FnMergesActs', WHERE WHAT IT READS IS OF BULK AT MOST 1048576: true; the input reads as it did. -/
def fnMergesActsUptoRow : OpenClaim := { program := "ytmedpldnoehoiaagreat", sum := "d16f1dd94ecff143b557775dddcd2bcfdcbfea5a220a187cad4cd2b000853002", func := "loop.example/g00463/laws.FnMergesActs", spec := "fnMergesActs", unfollowed := true, recurses := true, plainKeys := false, apart := false, narrowed := true }
def FnMergesActsUptoSaid : Prop := fnMergesActsUptoRow.holds Tryz.pinned (OpenSpec.upto fnMergesActsSpec)

/-- 'laws.FnDeltas', WHERE WHAT IT READS IS OF BULK AT MOST 1048576: true; the input reads as it did. -/
def fnDeltasUptoRow : OpenClaim := { program := "ytmedpldnoehoiaagreat", sum := "d16f1dd94ecff143b557775dddcd2bcfdcbfea5a220a187cad4cd2b000853002", func := "loop.example/g00463/laws.FnDeltas", spec := "fnDeltas", unfollowed := true, recurses := true, plainKeys := false, apart := false, narrowed := true }
def FnDeltasUptoSaid : Prop := fnDeltasUptoRow.holds Tryz.pinned (OpenSpec.upto fnDeltasSpec)

/-- 'laws.FnDeltasPart', WHERE WHAT IT READS IS OF BULK AT MOST 1048576: true; the input reads as it did. -/
def fnDeltasPartUptoRow : OpenClaim := { program := "ytmedpldnoehoiaagreat", sum := "d16f1dd94ecff143b557775dddcd2bcfdcbfea5a220a187cad4cd2b000853002", func := "loop.example/g00463/laws.FnDeltasPart", spec := "fnDeltasPart", unfollowed := true, recurses := true, plainKeys := false, apart := false, narrowed := true }
def FnDeltasPartUptoSaid : Prop := fnDeltasPartUptoRow.holds Tryz.pinned (OpenSpec.upto fnDeltasPartSpec)

/-- 'laws.FnEdits', WHERE WHAT IT READS IS OF BULK AT MOST 1048576: true; the input reads as it did. -/
def fnEditsUptoRow : OpenClaim := { program := "ytmedpldnoehoiaagreat", sum := "d16f1dd94ecff143b557775dddcd2bcfdcbfea5a220a187cad4cd2b000853002", func := "loop.example/g00463/laws.FnEdits", spec := "fnEdits", unfollowed := true, recurses := true, plainKeys := false, apart := false, narrowed := true }
def FnEditsUptoSaid : Prop := fnEditsUptoRow.holds Tryz.pinned (OpenSpec.upto fnEditsSpec)

/-- 'laws.FnReadings', WHERE WHAT IT READS IS OF BULK AT MOST 1048576: true; the input reads as it did. -/
def fnReadingsUptoRow : OpenClaim := { program := "ytmedpldnoehoiaagreat", sum := "d16f1dd94ecff143b557775dddcd2bcfdcbfea5a220a187cad4cd2b000853002", func := "loop.example/g00463/laws.FnReadings", spec := "fnReadings", unfollowed := true, recurses := true, plainKeys := false, apart := false, narrowed := true }
def FnReadingsUptoSaid : Prop := fnReadingsUptoRow.holds Tryz.pinned (OpenSpec.upto fnReadingsSpec)

end Rows
end Go.Proofs.YtmedpldnoehoiaaGreat
