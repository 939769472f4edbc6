/-
  No cell of these rows narrows 'for every input' (looked for: loops, veiled, ifaces, maps, wideKeys, modest, calm, conditions, laid).
  DERIVED. THE GIVEN ROWS OF THIS SEAT. 6 by the template 'for every input the law returns true; each argument reads behind the call as it read before'; 0 by the template 'total and deterministic' (their statements: YtlkkgdealgceeaaTotals.lean).
  GIVEN WITH THE SEED: the statements are not yours to turn. If you find one false, say at which input.
  Laid BY PROGRAM, IN A SANDBOX (cutbox-rows.mjs): the forced cells as the released guide's own fill.sh prints them over the translation 78ec11a2f2bb6df1… (all of the seat's roots in one cut). By AI agents, Wed Nov 11 2026. No macro, syntax, notation, axiom, sorry.
-/
import Derived.Test.YtlkkgdealgceeaaChecked
import GoSem.Claim
import GoSem.ClaimJoined
import GoSem.ClaimMapViews
import Derived.JoinedTies
import Derived.KernelRfl
namespace Go.Proofs.Ytlkkgdealgceeaa
/- THE CELL 'sum', in the pinned program and in every row, IS THE sha256 OF THE DUMP (.gsa) THAT YtlkkgdealgceeaaProg.lean LOADS. Nothing in Lean hashes anything: it is a label: what it is worth is what the hold of that sum in a sandbox is worth. -/
noncomputable def Try.pinned : Pinned := { name := "ytlkkgdealgceeaa", sum := "78ec11a2f2bb6df170173569b03d97b4b08deac533ab6c0ad913a50019afff13", checked := Try.checked }
namespace Rows
def none {H : Type} : Left H := { results := [], args := [] }

/-- 'laws.FnExactDeltaOk': WHATEVER THE INPUT: true; the input reads as it did. -/
def fnExactDeltaOkSpec : ChangeSpec := { name := "fnExactDeltaOk", fn := fun _ => fun
  | [d] => { results := [.lit (.bool true)], args := [d] }
  | _ => none }
def fnExactDeltaOkRow : OpenClaim := { program := "ytlkkgdealgceeaa", sum := "78ec11a2f2bb6df170173569b03d97b4b08deac533ab6c0ad913a50019afff13", func := "loop.example/g00463/laws.FnExactDeltaOk", spec := "fnExactDeltaOk", plainKeys := false, apart := false }
def FnExactDeltaOkSaid : Prop := fnExactDeltaOkRow.holds Try.pinned (OpenSpec.ofChange fnExactDeltaOkSpec)

/-- ITS FALSE NEIGHBOUR: 'it returns false'. Refute it at one input. -/
def fnExactDeltaOkWrong : ChangeSpec := { name := "fnExactDeltaOk", fn := fun _ => fun
  | [d] => { results := [.lit (.bool false)], args := [d] }
  | _ => none }
def FnExactDeltaOkWrongFalsely : Prop := fnExactDeltaOkRow.holds Try.pinned (OpenSpec.ofChange fnExactDeltaOkWrong)

/-- 'laws.FnExactLogNew': WHATEVER THE INPUT: true; the input reads as it did. -/
def fnExactLogNewSpec : ChangeSpec := { name := "fnExactLogNew", fn := fun _ => fun
  | [d] => { results := [.lit (.bool true)], args := [d] }
  | _ => none }
def fnExactLogNewRow : OpenClaim := { program := "ytlkkgdealgceeaa", sum := "78ec11a2f2bb6df170173569b03d97b4b08deac533ab6c0ad913a50019afff13", func := "loop.example/g00463/laws.FnExactLogNew", spec := "fnExactLogNew", plainKeys := false, apart := false }
def FnExactLogNewSaid : Prop := fnExactLogNewRow.holds Try.pinned (OpenSpec.ofChange fnExactLogNewSpec)

/-- ITS FALSE NEIGHBOUR: 'it returns false'. Refute it at one input. -/
def fnExactLogNewWrong : ChangeSpec := { name := "fnExactLogNew", fn := fun _ => fun
  | [d] => { results := [.lit (.bool false)], args := [d] }
  | _ => none }
def FnExactLogNewWrongFalsely : Prop := fnExactLogNewRow.holds Try.pinned (OpenSpec.ofChange fnExactLogNewWrong)

/-- 'laws.FnExactStateText': WHATEVER THE INPUT: true; the input reads as it did. -/
def fnExactStateTextSpec : ChangeSpec := { name := "fnExactStateText", fn := fun _ => fun
  | [d] => { results := [.lit (.bool true)], args := [d] }
  | _ => none }
def fnExactStateTextRow : OpenClaim := { program := "ytlkkgdealgceeaa", sum := "78ec11a2f2bb6df170173569b03d97b4b08deac533ab6c0ad913a50019afff13", func := "loop.example/g00463/laws.FnExactStateText", spec := "fnExactStateText", plainKeys := false, apart := false }
def FnExactStateTextSaid : Prop := fnExactStateTextRow.holds Try.pinned (OpenSpec.ofChange fnExactStateTextSpec)

/-- ITS FALSE NEIGHBOUR: 'it returns false'. Refute it at one input. -/
def fnExactStateTextWrong : ChangeSpec := { name := "fnExactStateText", fn := fun _ => fun
  | [d] => { results := [.lit (.bool false)], args := [d] }
  | _ => none }
def FnExactStateTextWrongFalsely : Prop := fnExactStateTextRow.holds Try.pinned (OpenSpec.ofChange fnExactStateTextWrong)

/-- 'laws.FnExactDeltaText': WHATEVER THE INPUT: true; the input reads as it did. -/
def fnExactDeltaTextSpec : ChangeSpec := { name := "fnExactDeltaText", fn := fun _ => fun
  | [d] => { results := [.lit (.bool true)], args := [d] }
  | _ => none }
def fnExactDeltaTextRow : OpenClaim := { program := "ytlkkgdealgceeaa", sum := "78ec11a2f2bb6df170173569b03d97b4b08deac533ab6c0ad913a50019afff13", func := "loop.example/g00463/laws.FnExactDeltaText", spec := "fnExactDeltaText", plainKeys := false, apart := false }
def FnExactDeltaTextSaid : Prop := fnExactDeltaTextRow.holds Try.pinned (OpenSpec.ofChange fnExactDeltaTextSpec)

/-- ITS FALSE NEIGHBOUR: 'it returns false'. Refute it at one input. -/
def fnExactDeltaTextWrong : ChangeSpec := { name := "fnExactDeltaText", fn := fun _ => fun
  | [d] => { results := [.lit (.bool false)], args := [d] }
  | _ => none }
def FnExactDeltaTextWrongFalsely : Prop := fnExactDeltaTextRow.holds Try.pinned (OpenSpec.ofChange fnExactDeltaTextWrong)

/-- 'laws.FnExactKeysOf': WHATEVER THE INPUT: true; the input reads as it did. -/
def fnExactKeysOfSpec : ChangeSpec := { name := "fnExactKeysOf", fn := fun _ => fun
  | [d1, d2] => { results := [.lit (.bool true)], args := [d1, d2] }
  | _ => none }
def fnExactKeysOfRow : OpenClaim := { program := "ytlkkgdealgceeaa", sum := "78ec11a2f2bb6df170173569b03d97b4b08deac533ab6c0ad913a50019afff13", func := "loop.example/g00463/laws.FnExactKeysOf", spec := "fnExactKeysOf", recurses := true, plainKeys := false, apart := false }
def FnExactKeysOfSaid : Prop := fnExactKeysOfRow.holds Try.pinned (OpenSpec.ofChange fnExactKeysOfSpec)

/-- ITS FALSE NEIGHBOUR: 'it returns false'. Refute it at one input. -/
def fnExactKeysOfWrong : ChangeSpec := { name := "fnExactKeysOf", fn := fun _ => fun
  | [d1, d2] => { results := [.lit (.bool false)], args := [d1, d2] }
  | _ => none }
def FnExactKeysOfWrongFalsely : Prop := fnExactKeysOfRow.holds Try.pinned (OpenSpec.ofChange fnExactKeysOfWrong)

/-- 'laws.FnExactSetOf': WHATEVER THE INPUT: true; the input reads as it did. -/
def fnExactSetOfSpec : ChangeSpec := { name := "fnExactSetOf", fn := fun _ => fun
  | [d1, d2] => { results := [.lit (.bool true)], args := [d1, d2] }
  | _ => none }
def fnExactSetOfRow : OpenClaim := { program := "ytlkkgdealgceeaa", sum := "78ec11a2f2bb6df170173569b03d97b4b08deac533ab6c0ad913a50019afff13", func := "loop.example/g00463/laws.FnExactSetOf", spec := "fnExactSetOf", recurses := true, plainKeys := false, apart := false }
def FnExactSetOfSaid : Prop := fnExactSetOfRow.holds Try.pinned (OpenSpec.ofChange fnExactSetOfSpec)

/-- ITS FALSE NEIGHBOUR: 'it returns false'. Refute it at one input. -/
def fnExactSetOfWrong : ChangeSpec := { name := "fnExactSetOf", fn := fun _ => fun
  | [d1, d2] => { results := [.lit (.bool false)], args := [d1, d2] }
  | _ => none }
def FnExactSetOfWrongFalsely : Prop := fnExactSetOfRow.holds Try.pinned (OpenSpec.ofChange fnExactSetOfWrong)

/- THE SECOND FORM. 'bulk': how many values and letters a reading holds, each counted each time it is reached (what is shared counts as often as it is met; a slice's spare places count too). A statement '..UptoSaid' is the law's where the arguments, and the package variables that the reading takes, are together of bulk at most 1048576: NARROWER than '..Said'. Prove '..Said' where nothing that the law and all that it calls make is longer than what came in: it says more and counts as full. Else prove '..UptoSaid'. A law counts once. -/
mutual
def uptoBulk {H : Type} : DataW H → Nat
  | .lit (.string bytes) => bytes.length + 1
  | .lit _ => 1
  | .nil => 1
  | .ptr d => uptoBulk d + 1
  | .slice elems spare => uptoBulkAll elems + uptoBulkAll spare + 1
  | .agg parts => uptoBulkAll parts + 1
  | .iface _ d => uptoBulk d + 1
  | .map entries => uptoBulkEntries entries + 1
  | .held _ => 1
def uptoBulkAll {H : Type} : List (DataW H) → Nat
  | [] => 0
  | d :: r => uptoBulk d + uptoBulkAll r
def uptoBulkEntries {H : Type} : List (Lit × DataW H) → Nat
  | [] => 0
  | x :: r => uptoBulkEntry x + uptoBulkEntries r
def uptoBulkEntry {H : Type} : Lit × DataW H → Nat
  | (.string bytes, d) => bytes.length + uptoBulk d + 1
  | (_, d) => uptoBulk d + 1
 end
def uptoSmall : (H : Type) → List (DataW H) → Bool := fun _ ds => decide (uptoBulkAll ds ≤ 1048576)
def OpenSpec.upto (s : _root_.Go.ChangeSpec) : _root_.Go.OpenSpec := { _root_.Go.OpenSpec.ofChange s with cond := some uptoSmall }

/-- 'laws.FnExactDeltaOk', WHERE WHAT IT READS IS OF BULK AT MOST 1048576: true; the input reads as it did. -/
def fnExactDeltaOkUptoRow : OpenClaim := { program := "ytlkkgdealgceeaa", sum := "78ec11a2f2bb6df170173569b03d97b4b08deac533ab6c0ad913a50019afff13", func := "loop.example/g00463/laws.FnExactDeltaOk", spec := "fnExactDeltaOk", plainKeys := false, apart := false, narrowed := true }
def FnExactDeltaOkUptoSaid : Prop := fnExactDeltaOkUptoRow.holds Try.pinned (OpenSpec.upto fnExactDeltaOkSpec)

/-- 'laws.FnExactLogNew', WHERE WHAT IT READS IS OF BULK AT MOST 1048576: true; the input reads as it did. -/
def fnExactLogNewUptoRow : OpenClaim := { program := "ytlkkgdealgceeaa", sum := "78ec11a2f2bb6df170173569b03d97b4b08deac533ab6c0ad913a50019afff13", func := "loop.example/g00463/laws.FnExactLogNew", spec := "fnExactLogNew", plainKeys := false, apart := false, narrowed := true }
def FnExactLogNewUptoSaid : Prop := fnExactLogNewUptoRow.holds Try.pinned (OpenSpec.upto fnExactLogNewSpec)

/-- 'laws.FnExactStateText', WHERE WHAT IT READS IS OF BULK AT MOST 1048576: true; the input reads as it did. -/
def fnExactStateTextUptoRow : OpenClaim := { program := "ytlkkgdealgceeaa", sum := "78ec11a2f2bb6df170173569b03d97b4b08deac533ab6c0ad913a50019afff13", func := "loop.example/g00463/laws.FnExactStateText", spec := "fnExactStateText", plainKeys := false, apart := false, narrowed := true }
def FnExactStateTextUptoSaid : Prop := fnExactStateTextUptoRow.holds Try.pinned (OpenSpec.upto fnExactStateTextSpec)

/-- 'laws.FnExactDeltaText', WHERE WHAT IT READS IS OF BULK AT MOST 1048576: true; the input reads as it did. -/
def fnExactDeltaTextUptoRow : OpenClaim := { program := "ytlkkgdealgceeaa", sum := "78ec11a2f2bb6df170173569b03d97b4b08deac533ab6c0ad913a50019afff13", func := "loop.example/g00463/laws.FnExactDeltaText", spec := "fnExactDeltaText", plainKeys := false, apart := false, narrowed := true }
def FnExactDeltaTextUptoSaid : Prop := fnExactDeltaTextUptoRow.holds Try.pinned (OpenSpec.upto fnExactDeltaTextSpec)

/-- 'laws.FnExactKeysOf', WHERE WHAT IT READS IS OF BULK AT MOST 1048576: true; the input reads as it did. -/
def fnExactKeysOfUptoRow : OpenClaim := { program := "ytlkkgdealgceeaa", sum := "78ec11a2f2bb6df170173569b03d97b4b08deac533ab6c0ad913a50019afff13", func := "loop.example/g00463/laws.FnExactKeysOf", spec := "fnExactKeysOf", recurses := true, plainKeys := false, apart := false, narrowed := true }
def FnExactKeysOfUptoSaid : Prop := fnExactKeysOfUptoRow.holds Try.pinned (OpenSpec.upto fnExactKeysOfSpec)

/-- 'laws.FnExactSetOf', WHERE WHAT IT READS IS OF BULK AT MOST 1048576: true; the input reads as it did. -/
def fnExactSetOfUptoRow : OpenClaim := { program := "ytlkkgdealgceeaa", sum := "78ec11a2f2bb6df170173569b03d97b4b08deac533ab6c0ad913a50019afff13", func := "loop.example/g00463/laws.FnExactSetOf", spec := "fnExactSetOf", recurses := true, plainKeys := false, apart := false, narrowed := true }
def FnExactSetOfUptoSaid : Prop := fnExactSetOfUptoRow.holds Try.pinned (OpenSpec.upto fnExactSetOfSpec)

end Rows
end Go.Proofs.Ytlkkgdealgceeaa
