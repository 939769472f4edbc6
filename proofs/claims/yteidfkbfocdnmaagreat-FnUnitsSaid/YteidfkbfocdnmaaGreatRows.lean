/-
  No cell of these rows narrows 'for every input' (looked for: loops, veiled, ifaces, maps, wideKeys, modest, calm, conditions, laid).
  DERIVED. THE GIVEN ROWS OF THIS SEAT. 9 by the template 'for every input the law returns true; each argument reads behind the call as it read before'; 0 by the template 'total and deterministic' (their statements: YteidfkbfocdnmaaGreatTotals.lean).
  GIVEN WITH THE SEED: the statements are not yours to turn. If you find one false, say at which input.
  Laid BY PROGRAM, IN A SANDBOX (cutbox-rows.mjs): the forced cells as the released guide's own fill.sh prints them over the translation cc406218c2476c7b… (all of the seat's roots in one cut). By AI agents, Wed Nov 11 2026. No macro, syntax, notation, axiom, sorry.
-/
import Derived.Test.YteidfkbfocdnmaaGreatChecked
import GoSem.Claim
import GoSem.ClaimJoined
import GoSem.ClaimMapViews
import Derived.JoinedTies
import Derived.KernelRfl
namespace Go.Proofs.YteidfkbfocdnmaaGreat
/- THE CELL 'sum', in the pinned program and in every row, IS THE sha256 OF THE DUMP (.gsa) THAT YteidfkbfocdnmaaGreatProg.lean LOADS. Nothing in Lean hashes anything: it is a label: what it is worth is what the hold of that sum in a sandbox is worth. -/
noncomputable def Tryz.pinned : Pinned := { name := "yteidfkbfocdnmaagreat", sum := "cc406218c2476c7b4a52cc2a3093e96f631e3483d437b36c25ab6bfa0ac2960f", checked := Tryz.checked }
namespace Rows
def none {H : Type} : Left H := { results := [], args := [] }

/-- 'laws.FnMergesActs': WHATEVER THE INPUT: true; the input reads as it did. -/
def fnMergesActsSpec : ChangeSpec := { name := "fnMergesActs", fn := fun _ => fun
  | [d] => { results := [.lit (.bool true)], args := [d] }
  | _ => none }
def fnMergesActsRow : OpenClaim := { program := "yteidfkbfocdnmaagreat", sum := "cc406218c2476c7b4a52cc2a3093e96f631e3483d437b36c25ab6bfa0ac2960f", func := "loop.example/g00463/laws.FnMergesActs", spec := "fnMergesActs", unfollowed := true, recurses := true, plainKeys := false, apart := false }
def FnMergesActsSaid : Prop := fnMergesActsRow.holds Tryz.pinned (OpenSpec.ofChange fnMergesActsSpec)

/-- ITS FALSE NEIGHBOUR: 'it returns false'. Refute it at one input. -/
def fnMergesActsWrong : ChangeSpec := { name := "fnMergesActs", fn := fun _ => fun
  | [d] => { results := [.lit (.bool false)], args := [d] }
  | _ => none }
def FnMergesActsWrongFalsely : Prop := fnMergesActsRow.holds Tryz.pinned (OpenSpec.ofChange fnMergesActsWrong)

/-- 'laws.FnEdits': WHATEVER THE INPUT: true; the input reads as it did. -/
def fnEditsSpec : ChangeSpec := { name := "fnEdits", fn := fun _ => fun
  | [d] => { results := [.lit (.bool true)], args := [d] }
  | _ => none }
def fnEditsRow : OpenClaim := { program := "yteidfkbfocdnmaagreat", sum := "cc406218c2476c7b4a52cc2a3093e96f631e3483d437b36c25ab6bfa0ac2960f", func := "loop.example/g00463/laws.FnEdits", spec := "fnEdits", unfollowed := true, recurses := true, plainKeys := false, apart := false }
def FnEditsSaid : Prop := fnEditsRow.holds Tryz.pinned (OpenSpec.ofChange fnEditsSpec)

/-- ITS FALSE NEIGHBOUR: 'it returns false'. Refute it at one input. -/
def fnEditsWrong : ChangeSpec := { name := "fnEdits", fn := fun _ => fun
  | [d] => { results := [.lit (.bool false)], args := [d] }
  | _ => none }
def FnEditsWrongFalsely : Prop := fnEditsRow.holds Tryz.pinned (OpenSpec.ofChange fnEditsWrong)

/-- 'laws.FnReadings': WHATEVER THE INPUT: true; the input reads as it did. -/
def fnReadingsSpec : ChangeSpec := { name := "fnReadings", fn := fun _ => fun
  | [d] => { results := [.lit (.bool true)], args := [d] }
  | _ => none }
def fnReadingsRow : OpenClaim := { program := "yteidfkbfocdnmaagreat", sum := "cc406218c2476c7b4a52cc2a3093e96f631e3483d437b36c25ab6bfa0ac2960f", func := "loop.example/g00463/laws.FnReadings", spec := "fnReadings", unfollowed := true, recurses := true, plainKeys := false, apart := false }
def FnReadingsSaid : Prop := fnReadingsRow.holds Tryz.pinned (OpenSpec.ofChange fnReadingsSpec)

/-- ITS FALSE NEIGHBOUR: 'it returns false'. Refute it at one input. -/
def fnReadingsWrong : ChangeSpec := { name := "fnReadings", fn := fun _ => fun
  | [d] => { results := [.lit (.bool false)], args := [d] }
  | _ => none }
def FnReadingsWrongFalsely : Prop := fnReadingsRow.holds Tryz.pinned (OpenSpec.ofChange fnReadingsWrong)

/-- 'laws.FnTexts': WHATEVER THE INPUT: true; the input reads as it did. -/
def fnTextsSpec : ChangeSpec := { name := "fnTexts", fn := fun _ => fun
  | [d] => { results := [.lit (.bool true)], args := [d] }
  | _ => none }
def fnTextsRow : OpenClaim := { program := "yteidfkbfocdnmaagreat", sum := "cc406218c2476c7b4a52cc2a3093e96f631e3483d437b36c25ab6bfa0ac2960f", func := "loop.example/g00463/laws.FnTexts", spec := "fnTexts", recurses := true, plainKeys := false, apart := false }
def FnTextsSaid : Prop := fnTextsRow.holds Tryz.pinned (OpenSpec.ofChange fnTextsSpec)

/-- ITS FALSE NEIGHBOUR: 'it returns false'. Refute it at one input. -/
def fnTextsWrong : ChangeSpec := { name := "fnTexts", fn := fun _ => fun
  | [d] => { results := [.lit (.bool false)], args := [d] }
  | _ => none }
def FnTextsWrongFalsely : Prop := fnTextsRow.holds Tryz.pinned (OpenSpec.ofChange fnTextsWrong)

/-- 'laws.FnUnits': WHATEVER THE INPUT: true; the input reads as it did. -/
def fnUnitsSpec : ChangeSpec := { name := "fnUnits", fn := fun _ => fun
  | [d] => { results := [.lit (.bool true)], args := [d] }
  | _ => none }
def fnUnitsRow : OpenClaim := { program := "yteidfkbfocdnmaagreat", sum := "cc406218c2476c7b4a52cc2a3093e96f631e3483d437b36c25ab6bfa0ac2960f", func := "loop.example/g00463/laws.FnUnits", spec := "fnUnits", recurses := true, plainKeys := false, apart := false }
def FnUnitsSaid : Prop := fnUnitsRow.holds Tryz.pinned (OpenSpec.ofChange fnUnitsSpec)

/-- ITS FALSE NEIGHBOUR: 'it returns false'. Refute it at one input. -/
def fnUnitsWrong : ChangeSpec := { name := "fnUnits", fn := fun _ => fun
  | [d] => { results := [.lit (.bool false)], args := [d] }
  | _ => none }
def FnUnitsWrongFalsely : Prop := fnUnitsRow.holds Tryz.pinned (OpenSpec.ofChange fnUnitsWrong)

/-- 'laws.FnLacks': WHATEVER THE INPUT: true; the input reads as it did. -/
def fnLacksSpec : ChangeSpec := { name := "fnLacks", fn := fun _ => fun
  | [d] => { results := [.lit (.bool true)], args := [d] }
  | _ => none }
def fnLacksRow : OpenClaim := { program := "yteidfkbfocdnmaagreat", sum := "cc406218c2476c7b4a52cc2a3093e96f631e3483d437b36c25ab6bfa0ac2960f", func := "loop.example/g00463/laws.FnLacks", spec := "fnLacks", recurses := true, plainKeys := false, apart := false }
def FnLacksSaid : Prop := fnLacksRow.holds Tryz.pinned (OpenSpec.ofChange fnLacksSpec)

/-- ITS FALSE NEIGHBOUR: 'it returns false'. Refute it at one input. -/
def fnLacksWrong : ChangeSpec := { name := "fnLacks", fn := fun _ => fun
  | [d] => { results := [.lit (.bool false)], args := [d] }
  | _ => none }
def FnLacksWrongFalsely : Prop := fnLacksRow.holds Tryz.pinned (OpenSpec.ofChange fnLacksWrong)

/-- 'laws.FnLogs': WHATEVER THE INPUT: true; the input reads as it did. -/
def fnLogsSpec : ChangeSpec := { name := "fnLogs", fn := fun _ => fun
  | [d] => { results := [.lit (.bool true)], args := [d] }
  | _ => none }
def fnLogsRow : OpenClaim := { program := "yteidfkbfocdnmaagreat", sum := "cc406218c2476c7b4a52cc2a3093e96f631e3483d437b36c25ab6bfa0ac2960f", func := "loop.example/g00463/laws.FnLogs", spec := "fnLogs", unfollowed := true, recurses := true, plainKeys := false, apart := false }
def FnLogsSaid : Prop := fnLogsRow.holds Tryz.pinned (OpenSpec.ofChange fnLogsSpec)

/-- ITS FALSE NEIGHBOUR: 'it returns false'. Refute it at one input. -/
def fnLogsWrong : ChangeSpec := { name := "fnLogs", fn := fun _ => fun
  | [d] => { results := [.lit (.bool false)], args := [d] }
  | _ => none }
def FnLogsWrongFalsely : Prop := fnLogsRow.holds Tryz.pinned (OpenSpec.ofChange fnLogsWrong)

/-- 'laws.FnLogsTold': WHATEVER THE INPUT: true; the input reads as it did. -/
def fnLogsToldSpec : ChangeSpec := { name := "fnLogsTold", fn := fun _ => fun
  | [d] => { results := [.lit (.bool true)], args := [d] }
  | _ => none }
def fnLogsToldRow : OpenClaim := { program := "yteidfkbfocdnmaagreat", sum := "cc406218c2476c7b4a52cc2a3093e96f631e3483d437b36c25ab6bfa0ac2960f", func := "loop.example/g00463/laws.FnLogsTold", spec := "fnLogsTold", unfollowed := true, recurses := true, plainKeys := false, apart := false }
def FnLogsToldSaid : Prop := fnLogsToldRow.holds Tryz.pinned (OpenSpec.ofChange fnLogsToldSpec)

/-- ITS FALSE NEIGHBOUR: 'it returns false'. Refute it at one input. -/
def fnLogsToldWrong : ChangeSpec := { name := "fnLogsTold", fn := fun _ => fun
  | [d] => { results := [.lit (.bool false)], args := [d] }
  | _ => none }
def FnLogsToldWrongFalsely : Prop := fnLogsToldRow.holds Tryz.pinned (OpenSpec.ofChange fnLogsToldWrong)

/-- 'laws.FnGraphs': WHATEVER THE INPUT: true; the input reads as it did. -/
def fnGraphsSpec : ChangeSpec := { name := "fnGraphs", fn := fun _ => fun
  | [d] => { results := [.lit (.bool true)], args := [d] }
  | _ => none }
def fnGraphsRow : OpenClaim := { program := "yteidfkbfocdnmaagreat", sum := "cc406218c2476c7b4a52cc2a3093e96f631e3483d437b36c25ab6bfa0ac2960f", func := "loop.example/g00463/laws.FnGraphs", spec := "fnGraphs", unfollowed := true, recurses := true, plainKeys := false, apart := false }
def FnGraphsSaid : Prop := fnGraphsRow.holds Tryz.pinned (OpenSpec.ofChange fnGraphsSpec)

/-- ITS FALSE NEIGHBOUR: 'it returns false'. Refute it at one input. -/
def fnGraphsWrong : ChangeSpec := { name := "fnGraphs", fn := fun _ => fun
  | [d] => { results := [.lit (.bool false)], args := [d] }
  | _ => none }
def FnGraphsWrongFalsely : Prop := fnGraphsRow.holds Tryz.pinned (OpenSpec.ofChange fnGraphsWrong)

/- THE SECOND FORM. 'bulk': how many values and letters a reading holds, each counted each time it is reached (what is shared counts as often as it is met; a slice's spare places count too). A statement '..UptoSaid' is the law's where the arguments, and the package variables that the reading takes, are together of bulk at most 1048576: NARROWER than '..Said'. Prove '..Said' where nothing that the law and all that it calls make is longer than what came in: it says more and counts as full. Else prove '..UptoSaid'. A law counts once. -/
mutual
def uptoBulk {H : Type} : DataW H → Nat
  | .lit (.string bytes) => bytes.length + 1
  | .lit _ => 1
  | .nil => 1
  | .ptr d => uptoBulk d + 1
  | .slice elems spare => uptoBulkAll elems + uptoBulkAll spare + 1
  | .agg parts => uptoBulkAll parts + 1
  | .iface _ d => uptoBulk d + 1
  | .map entries => uptoBulkEntries entries + 1
  | .held _ => 1
def uptoBulkAll {H : Type} : List (DataW H) → Nat
  | [] => 0
  | d :: r => uptoBulk d + uptoBulkAll r
def uptoBulkEntries {H : Type} : List (Lit × DataW H) → Nat
  | [] => 0
  | x :: r => uptoBulkEntry x + uptoBulkEntries r
def uptoBulkEntry {H : Type} : Lit × DataW H → Nat
  | (.string bytes, d) => bytes.length + uptoBulk d + 1
  | (_, d) => uptoBulk d + 1
 end
def uptoSmall : (H : Type) → List (DataW H) → Bool := fun _ ds => decide (uptoBulkAll ds ≤ 1048576)
def OpenSpec.upto (s : _root_.Go.ChangeSpec) : _root_.Go.OpenSpec := { _root_.Go.OpenSpec.ofChange s with cond := some uptoSmall }

/-- 'laws.FnMergesActs', WHERE WHAT IT READS IS OF BULK AT MOST 1048576: true; the input reads as it did. -/
def fnMergesActsUptoRow : OpenClaim := { program := "yteidfkbfocdnmaagreat", sum := "cc406218c2476c7b4a52cc2a3093e96f631e3483d437b36c25ab6bfa0ac2960f", func := "loop.example/g00463/laws.FnMergesActs", spec := "fnMergesActs", unfollowed := true, recurses := true, plainKeys := false, apart := false, narrowed := true }
def FnMergesActsUptoSaid : Prop := fnMergesActsUptoRow.holds Tryz.pinned (OpenSpec.upto fnMergesActsSpec)

/-- 'laws.FnEdits', WHERE WHAT IT READS IS OF BULK AT MOST 1048576: true; the input reads as it did. -/
def fnEditsUptoRow : OpenClaim := { program := "yteidfkbfocdnmaagreat", sum := "cc406218c2476c7b4a52cc2a3093e96f631e3483d437b36c25ab6bfa0ac2960f", func := "loop.example/g00463/laws.FnEdits", spec := "fnEdits", unfollowed := true, recurses := true, plainKeys := false, apart := false, narrowed := true }
def FnEditsUptoSaid : Prop := fnEditsUptoRow.holds Tryz.pinned (OpenSpec.upto fnEditsSpec)

/-- 'laws.FnReadings', WHERE WHAT IT READS IS OF BULK AT MOST 1048576: true; the input reads as it did. -/
def fnReadingsUptoRow : OpenClaim := { program := "yteidfkbfocdnmaagreat", sum := "cc406218c2476c7b4a52cc2a3093e96f631e3483d437b36c25ab6bfa0ac2960f", func := "loop.example/g00463/laws.FnReadings", spec := "fnReadings", unfollowed := true, recurses := true, plainKeys := false, apart := false, narrowed := true }
def FnReadingsUptoSaid : Prop := fnReadingsUptoRow.holds Tryz.pinned (OpenSpec.upto fnReadingsSpec)

/-- 'laws.FnTexts', WHERE WHAT IT READS IS OF BULK AT MOST 1048576: true; the input reads as it did. -/
def fnTextsUptoRow : OpenClaim := { program := "yteidfkbfocdnmaagreat", sum := "cc406218c2476c7b4a52cc2a3093e96f631e3483d437b36c25ab6bfa0ac2960f", func := "loop.example/g00463/laws.FnTexts", spec := "fnTexts", recurses := true, plainKeys := false, apart := false, narrowed := true }
def FnTextsUptoSaid : Prop := fnTextsUptoRow.holds Tryz.pinned (OpenSpec.upto fnTextsSpec)

/-- 'laws.FnUnits', WHERE WHAT IT READS IS OF BULK AT MOST 1048576: true; the input reads as it did. -/
def fnUnitsUptoRow : OpenClaim := { program := "yteidfkbfocdnmaagreat", sum := "cc406218c2476c7b4a52cc2a3093e96f631e3483d437b36c25ab6bfa0ac2960f", func := "loop.example/g00463/laws.FnUnits", spec := "fnUnits", recurses := true, plainKeys := false, apart := false, narrowed := true }
def FnUnitsUptoSaid : Prop := fnUnitsUptoRow.holds Tryz.pinned (OpenSpec.upto fnUnitsSpec)

/-- 'laws.FnLacks', WHERE WHAT IT READS IS OF BULK AT MOST 1048576: true; the input reads as it did. -/
def fnLacksUptoRow : OpenClaim := { program := "yteidfkbfocdnmaagreat", sum := "cc406218c2476c7b4a52cc2a3093e96f631e3483d437b36c25ab6bfa0ac2960f", func := "loop.example/g00463/laws.FnLacks", spec := "fnLacks", recurses := true, plainKeys := false, apart := false, narrowed := true }
def FnLacksUptoSaid : Prop := fnLacksUptoRow.holds Tryz.pinned (OpenSpec.upto fnLacksSpec)

/-- 'laws.FnLogs', WHERE WHAT IT READS IS OF BULK AT MOST 1048576: true; the input reads as it did. -/
def fnLogsUptoRow : OpenClaim := { program := "yteidfkbfocdnmaagreat", sum := "cc406218c2476c7b4a52cc2a3093e96f631e3483d437b36c25ab6bfa0ac2960f", func := "loop.example/g00463/laws.FnLogs", spec := "fnLogs", unfollowed := true, recurses := true, plainKeys := false, apart := false, narrowed := true }
def FnLogsUptoSaid : Prop := fnLogsUptoRow.holds Tryz.pinned (OpenSpec.upto fnLogsSpec)

/-- 'laws.FnLogsTold', WHERE WHAT IT READS IS OF BULK AT MOST 1048576: true; the input reads as it did. -/
def fnLogsToldUptoRow : OpenClaim := { program := "yteidfkbfocdnmaagreat", sum := "cc406218c2476c7b4a52cc2a3093e96f631e3483d437b36c25ab6bfa0ac2960f", func := "loop.example/g00463/laws.FnLogsTold", spec := "fnLogsTold", unfollowed := true, recurses := true, plainKeys := false, apart := false, narrowed := true }
def FnLogsToldUptoSaid : Prop := fnLogsToldUptoRow.holds Tryz.pinned (OpenSpec.upto fnLogsToldSpec)

/-- 'laws.FnGraphs', WHERE WHAT IT READS IS OF BULK AT MOST 1048576: true; the input reads as it did. -/
def fnGraphsUptoRow : OpenClaim := { program := "yteidfkbfocdnmaagreat", sum := "cc406218c2476c7b4a52cc2a3093e96f631e3483d437b36c25ab6bfa0ac2960f", func := "loop.example/g00463/laws.FnGraphs", spec := "fnGraphs", unfollowed := true, recurses := true, plainKeys := false, apart := false, narrowed := true }
def FnGraphsUptoSaid : Prop := fnGraphsUptoRow.holds Tryz.pinned (OpenSpec.upto fnGraphsSpec)

end Rows
end Go.Proofs.YteidfkbfocdnmaaGreat
