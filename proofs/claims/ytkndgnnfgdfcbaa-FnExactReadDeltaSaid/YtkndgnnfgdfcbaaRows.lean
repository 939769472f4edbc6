/-
  No cell of these rows narrows 'for every input' (looked for: loops, veiled, ifaces, maps, wideKeys, modest, calm, conditions, laid).
  DERIVED. THE GIVEN ROWS OF THIS SEAT. 3 by the template 'for every input the law returns true; each argument reads behind the call as it read before'; 0 by the template 'total and deterministic' (their statements: YtkndgnnfgdfcbaaTotals.lean).
  GIVEN WITH THE SEED: the statements are not yours to turn. If you find one false, say at which input.
  Laid BY PROGRAM, IN A SANDBOX (cutbox-rows.mjs): the forced cells as the released guide's own fill.sh prints them over the translation bdc22cbf810a304d… (all of the seat's roots in one cut). By AI agents, Wed Nov 11 2026. No macro, syntax, notation, axiom, sorry.
-/
import Derived.Test.YtkndgnnfgdfcbaaChecked
import GoSem.Claim
import GoSem.ClaimJoined
import GoSem.ClaimMapViews
import Derived.JoinedTies
import Derived.KernelRfl
namespace Go.Proofs.Ytkndgnnfgdfcbaa
/- THE CELL 'sum', in the pinned program and in every row, IS THE sha256 OF THE DUMP (.gsa) THAT YtkndgnnfgdfcbaaProg.lean LOADS. Nothing in Lean hashes anything: it is a label: what it is worth is what the hold of that sum in a sandbox is worth. -/
noncomputable def Try.pinned : Pinned := { name := "ytkndgnnfgdfcbaa", sum := "bdc22cbf810a304db8cf79d200b4e2b441286a217501345a9d3729498253a6ad", checked := Try.checked }
namespace Rows
def none {H : Type} : Left H := { results := [], args := [] }

/-- 'laws.FnExactCovers': WHATEVER THE INPUT: true; the input reads as it did. -/
def fnExactCoversSpec : ChangeSpec := { name := "fnExactCovers", fn := fun _ => fun
  | [d] => { results := [.lit (.bool true)], args := [d] }
  | _ => none }
def fnExactCoversRow : OpenClaim := { program := "ytkndgnnfgdfcbaa", sum := "bdc22cbf810a304db8cf79d200b4e2b441286a217501345a9d3729498253a6ad", func := "loop.example/g00463/laws.FnExactCovers", spec := "fnExactCovers", plainKeys := false, apart := false }
def FnExactCoversSaid : Prop := fnExactCoversRow.holds Try.pinned (OpenSpec.ofChange fnExactCoversSpec)

/-- ITS FALSE NEIGHBOUR: 'it returns false'. Refute it at one input. -/
def fnExactCoversWrong : ChangeSpec := { name := "fnExactCovers", fn := fun _ => fun
  | [d] => { results := [.lit (.bool false)], args := [d] }
  | _ => none }
def FnExactCoversWrongFalsely : Prop := fnExactCoversRow.holds Try.pinned (OpenSpec.ofChange fnExactCoversWrong)

/-- 'laws.FnExactReadState': WHATEVER THE INPUT: true; the input reads as it did. -/
def fnExactReadStateSpec : ChangeSpec := { name := "fnExactReadState", fn := fun _ => fun
  | [d] => { results := [.lit (.bool true)], args := [d] }
  | _ => none }
def fnExactReadStateRow : OpenClaim := { program := "ytkndgnnfgdfcbaa", sum := "bdc22cbf810a304db8cf79d200b4e2b441286a217501345a9d3729498253a6ad", func := "loop.example/g00463/laws.FnExactReadState", spec := "fnExactReadState", plainKeys := false, apart := false }
def FnExactReadStateSaid : Prop := fnExactReadStateRow.holds Try.pinned (OpenSpec.ofChange fnExactReadStateSpec)

/-- ITS FALSE NEIGHBOUR: 'it returns false'. Refute it at one input. -/
def fnExactReadStateWrong : ChangeSpec := { name := "fnExactReadState", fn := fun _ => fun
  | [d] => { results := [.lit (.bool false)], args := [d] }
  | _ => none }
def FnExactReadStateWrongFalsely : Prop := fnExactReadStateRow.holds Try.pinned (OpenSpec.ofChange fnExactReadStateWrong)

/-- 'laws.FnExactReadDelta': WHATEVER THE INPUT: true; the input reads as it did. -/
def fnExactReadDeltaSpec : ChangeSpec := { name := "fnExactReadDelta", fn := fun _ => fun
  | [d] => { results := [.lit (.bool true)], args := [d] }
  | _ => none }
def fnExactReadDeltaRow : OpenClaim := { program := "ytkndgnnfgdfcbaa", sum := "bdc22cbf810a304db8cf79d200b4e2b441286a217501345a9d3729498253a6ad", func := "loop.example/g00463/laws.FnExactReadDelta", spec := "fnExactReadDelta", plainKeys := false, apart := false }
def FnExactReadDeltaSaid : Prop := fnExactReadDeltaRow.holds Try.pinned (OpenSpec.ofChange fnExactReadDeltaSpec)

/-- ITS FALSE NEIGHBOUR: 'it returns false'. Refute it at one input. -/
def fnExactReadDeltaWrong : ChangeSpec := { name := "fnExactReadDelta", fn := fun _ => fun
  | [d] => { results := [.lit (.bool false)], args := [d] }
  | _ => none }
def FnExactReadDeltaWrongFalsely : Prop := fnExactReadDeltaRow.holds Try.pinned (OpenSpec.ofChange fnExactReadDeltaWrong)

/- THE SECOND FORM. 'bulk': how many values and letters a reading holds, each counted each time it is reached (what is shared counts as often as it is met; a slice's spare places count too). A statement '..UptoSaid' is the law's where the arguments, and the package variables that the reading takes, are together of bulk at most 1048576: NARROWER than '..Said'. Prove '..Said' where nothing that the law and all that it calls make is longer than what came in: it says more and counts as full. Else prove '..UptoSaid'. A law counts once. -/
mutual
def uptoBulk {H : Type} : DataW H → Nat
  | .lit (.string bytes) => bytes.length + 1
  | .lit _ => 1
  | .nil => 1
  | .ptr d => uptoBulk d + 1
  | .slice elems spare => uptoBulkAll elems + uptoBulkAll spare + 1
  | .agg parts => uptoBulkAll parts + 1
  | .iface _ d => uptoBulk d + 1
  | .map entries => uptoBulkEntries entries + 1
  | .held _ => 1
def uptoBulkAll {H : Type} : List (DataW H) → Nat
  | [] => 0
  | d :: r => uptoBulk d + uptoBulkAll r
def uptoBulkEntries {H : Type} : List (Lit × DataW H) → Nat
  | [] => 0
  | x :: r => uptoBulkEntry x + uptoBulkEntries r
def uptoBulkEntry {H : Type} : Lit × DataW H → Nat
  | (.string bytes, d) => bytes.length + uptoBulk d + 1
  | (_, d) => uptoBulk d + 1
 end
def uptoSmall : (H : Type) → List (DataW H) → Bool := fun _ ds => decide (uptoBulkAll ds ≤ 1048576)
def OpenSpec.upto (s : _root_.Go.ChangeSpec) : _root_.Go.OpenSpec := { _root_.Go.OpenSpec.ofChange s with cond := some uptoSmall }

/-- 'laws.FnExactCovers', WHERE WHAT IT READS IS OF BULK AT MOST 1048576: true; the input reads as it did. -/
def fnExactCoversUptoRow : OpenClaim := { program := "ytkndgnnfgdfcbaa", sum := "bdc22cbf810a304db8cf79d200b4e2b441286a217501345a9d3729498253a6ad", func := "loop.example/g00463/laws.FnExactCovers", spec := "fnExactCovers", plainKeys := false, apart := false, narrowed := true }
def FnExactCoversUptoSaid : Prop := fnExactCoversUptoRow.holds Try.pinned (OpenSpec.upto fnExactCoversSpec)

/-- 'laws.FnExactReadState', WHERE WHAT IT READS IS OF BULK AT MOST 1048576: true; the input reads as it did. -/
def fnExactReadStateUptoRow : OpenClaim := { program := "ytkndgnnfgdfcbaa", sum := "bdc22cbf810a304db8cf79d200b4e2b441286a217501345a9d3729498253a6ad", func := "loop.example/g00463/laws.FnExactReadState", spec := "fnExactReadState", plainKeys := false, apart := false, narrowed := true }
def FnExactReadStateUptoSaid : Prop := fnExactReadStateUptoRow.holds Try.pinned (OpenSpec.upto fnExactReadStateSpec)

/-- 'laws.FnExactReadDelta', WHERE WHAT IT READS IS OF BULK AT MOST 1048576: true; the input reads as it did. -/
def fnExactReadDeltaUptoRow : OpenClaim := { program := "ytkndgnnfgdfcbaa", sum := "bdc22cbf810a304db8cf79d200b4e2b441286a217501345a9d3729498253a6ad", func := "loop.example/g00463/laws.FnExactReadDelta", spec := "fnExactReadDelta", plainKeys := false, apart := false, narrowed := true }
def FnExactReadDeltaUptoSaid : Prop := fnExactReadDeltaUptoRow.holds Try.pinned (OpenSpec.upto fnExactReadDeltaSpec)

end Rows
end Go.Proofs.Ytkndgnnfgdfcbaa
