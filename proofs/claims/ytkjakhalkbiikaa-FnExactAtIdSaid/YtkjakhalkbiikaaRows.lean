/-
  No cell of these rows narrows 'for every input' (looked for: loops, veiled, ifaces, maps, wideKeys, modest, calm, conditions, laid).
  DERIVED. THE GIVEN ROWS OF THIS SEAT. 14 by the template 'for every input the law returns true; each argument reads behind the call as it read before'; 0 by the template 'total and deterministic' (their statements: YtkjakhalkbiikaaTotals.lean).
  GIVEN WITH THE SEED: the statements are not yours to turn. If you find one false, say at which input.
  Laid BY PROGRAM, IN A SANDBOX (cutbox-rows.mjs): the forced cells as the released guide's own fill.sh prints them over the translation 59da05f7bb146521… (all of the seat's roots in one cut). By AI agents, Wed Nov 11 2026. No macro, syntax, notation, axiom, sorry.
-/
import Derived.Test.YtkjakhalkbiikaaChecked
import GoSem.Claim
import GoSem.ClaimJoined
import GoSem.ClaimMapViews
import Derived.JoinedTies
import Derived.KernelRfl
namespace Go.Proofs.Ytkjakhalkbiikaa
/- THE CELL 'sum', in the pinned program and in every row, IS THE sha256 OF THE DUMP (.gsa) THAT YtkjakhalkbiikaaProg.lean LOADS. Nothing in Lean hashes anything: it is a label: what it is worth is what the hold of that sum in a sandbox is worth. -/
noncomputable def Try.pinned : Pinned := { name := "ytkjakhalkbiikaa", sum := "59da05f7bb146521d1f62ede9dfa9c4c048a48ed7d3eb5e897ee1fc0dec201ef", checked := Try.checked }
namespace Rows
def none {H : Type} : Left H := { results := [], args := [] }

/-- 'laws.FnExactGraphNew': WHATEVER THE INPUT: true; the input reads as it did. -/
def fnExactGraphNewSpec : ChangeSpec := { name := "fnExactGraphNew", fn := fun _ => fun
  | [] => { results := [.lit (.bool true)], args := [] }
  | _ => none }
def fnExactGraphNewRow : OpenClaim := { program := "ytkjakhalkbiikaa", sum := "59da05f7bb146521d1f62ede9dfa9c4c048a48ed7d3eb5e897ee1fc0dec201ef", func := "loop.example/g00463/laws.FnExactGraphNew", spec := "fnExactGraphNew", plainKeys := false, apart := false }
def FnExactGraphNewSaid : Prop := fnExactGraphNewRow.holds Try.pinned (OpenSpec.ofChange fnExactGraphNewSpec)

/-- ITS FALSE NEIGHBOUR: 'it returns false'. Refute it at one input. -/
def fnExactGraphNewWrong : ChangeSpec := { name := "fnExactGraphNew", fn := fun _ => fun
  | [] => { results := [.lit (.bool false)], args := [] }
  | _ => none }
def FnExactGraphNewWrongFalsely : Prop := fnExactGraphNewRow.holds Try.pinned (OpenSpec.ofChange fnExactGraphNewWrong)

/-- 'laws.FnExactAtId': WHATEVER THE INPUT: true; the input reads as it did. -/
def fnExactAtIdSpec : ChangeSpec := { name := "fnExactAtId", fn := fun _ => fun
  | [d1, d2] => { results := [.lit (.bool true)], args := [d1, d2] }
  | _ => none }
def fnExactAtIdRow : OpenClaim := { program := "ytkjakhalkbiikaa", sum := "59da05f7bb146521d1f62ede9dfa9c4c048a48ed7d3eb5e897ee1fc0dec201ef", func := "loop.example/g00463/laws.FnExactAtId", spec := "fnExactAtId", unfollowed := true, recurses := true, plainKeys := false, apart := false }
def FnExactAtIdSaid : Prop := fnExactAtIdRow.holds Try.pinned (OpenSpec.ofChange fnExactAtIdSpec)

/-- ITS FALSE NEIGHBOUR: 'it returns false'. Refute it at one input. -/
def fnExactAtIdWrong : ChangeSpec := { name := "fnExactAtId", fn := fun _ => fun
  | [d1, d2] => { results := [.lit (.bool false)], args := [d1, d2] }
  | _ => none }
def FnExactAtIdWrongFalsely : Prop := fnExactAtIdRow.holds Try.pinned (OpenSpec.ofChange fnExactAtIdWrong)

/-- 'laws.FnExactDeltaOk': WHATEVER THE INPUT: true; the input reads as it did. -/
def fnExactDeltaOkSpec : ChangeSpec := { name := "fnExactDeltaOk", fn := fun _ => fun
  | [d] => { results := [.lit (.bool true)], args := [d] }
  | _ => none }
def fnExactDeltaOkRow : OpenClaim := { program := "ytkjakhalkbiikaa", sum := "59da05f7bb146521d1f62ede9dfa9c4c048a48ed7d3eb5e897ee1fc0dec201ef", func := "loop.example/g00463/laws.FnExactDeltaOk", spec := "fnExactDeltaOk", plainKeys := false, apart := false }
def FnExactDeltaOkSaid : Prop := fnExactDeltaOkRow.holds Try.pinned (OpenSpec.ofChange fnExactDeltaOkSpec)

/-- ITS FALSE NEIGHBOUR: 'it returns false'. Refute it at one input. -/
def fnExactDeltaOkWrong : ChangeSpec := { name := "fnExactDeltaOk", fn := fun _ => fun
  | [d] => { results := [.lit (.bool false)], args := [d] }
  | _ => none }
def FnExactDeltaOkWrongFalsely : Prop := fnExactDeltaOkRow.holds Try.pinned (OpenSpec.ofChange fnExactDeltaOkWrong)

/-- 'laws.FnExactLogNew': WHATEVER THE INPUT: true; the input reads as it did. -/
def fnExactLogNewSpec : ChangeSpec := { name := "fnExactLogNew", fn := fun _ => fun
  | [d] => { results := [.lit (.bool true)], args := [d] }
  | _ => none }
def fnExactLogNewRow : OpenClaim := { program := "ytkjakhalkbiikaa", sum := "59da05f7bb146521d1f62ede9dfa9c4c048a48ed7d3eb5e897ee1fc0dec201ef", func := "loop.example/g00463/laws.FnExactLogNew", spec := "fnExactLogNew", plainKeys := false, apart := false }
def FnExactLogNewSaid : Prop := fnExactLogNewRow.holds Try.pinned (OpenSpec.ofChange fnExactLogNewSpec)

/-- ITS FALSE NEIGHBOUR: 'it returns false'. Refute it at one input. -/
def fnExactLogNewWrong : ChangeSpec := { name := "fnExactLogNew", fn := fun _ => fun
  | [d] => { results := [.lit (.bool false)], args := [d] }
  | _ => none }
def FnExactLogNewWrongFalsely : Prop := fnExactLogNewRow.holds Try.pinned (OpenSpec.ofChange fnExactLogNewWrong)

/-- 'laws.FnExactStateText': WHATEVER THE INPUT: true; the input reads as it did. -/
def fnExactStateTextSpec : ChangeSpec := { name := "fnExactStateText", fn := fun _ => fun
  | [d] => { results := [.lit (.bool true)], args := [d] }
  | _ => none }
def fnExactStateTextRow : OpenClaim := { program := "ytkjakhalkbiikaa", sum := "59da05f7bb146521d1f62ede9dfa9c4c048a48ed7d3eb5e897ee1fc0dec201ef", func := "loop.example/g00463/laws.FnExactStateText", spec := "fnExactStateText", plainKeys := false, apart := false }
def FnExactStateTextSaid : Prop := fnExactStateTextRow.holds Try.pinned (OpenSpec.ofChange fnExactStateTextSpec)

/-- ITS FALSE NEIGHBOUR: 'it returns false'. Refute it at one input. -/
def fnExactStateTextWrong : ChangeSpec := { name := "fnExactStateText", fn := fun _ => fun
  | [d] => { results := [.lit (.bool false)], args := [d] }
  | _ => none }
def FnExactStateTextWrongFalsely : Prop := fnExactStateTextRow.holds Try.pinned (OpenSpec.ofChange fnExactStateTextWrong)

/-- 'laws.FnExactDeltaText': WHATEVER THE INPUT: true; the input reads as it did. -/
def fnExactDeltaTextSpec : ChangeSpec := { name := "fnExactDeltaText", fn := fun _ => fun
  | [d] => { results := [.lit (.bool true)], args := [d] }
  | _ => none }
def fnExactDeltaTextRow : OpenClaim := { program := "ytkjakhalkbiikaa", sum := "59da05f7bb146521d1f62ede9dfa9c4c048a48ed7d3eb5e897ee1fc0dec201ef", func := "loop.example/g00463/laws.FnExactDeltaText", spec := "fnExactDeltaText", plainKeys := false, apart := false }
def FnExactDeltaTextSaid : Prop := fnExactDeltaTextRow.holds Try.pinned (OpenSpec.ofChange fnExactDeltaTextSpec)

/-- ITS FALSE NEIGHBOUR: 'it returns false'. Refute it at one input. -/
def fnExactDeltaTextWrong : ChangeSpec := { name := "fnExactDeltaText", fn := fun _ => fun
  | [d] => { results := [.lit (.bool false)], args := [d] }
  | _ => none }
def FnExactDeltaTextWrongFalsely : Prop := fnExactDeltaTextRow.holds Try.pinned (OpenSpec.ofChange fnExactDeltaTextWrong)

/-- 'laws.FnExactKeysOf': WHATEVER THE INPUT: true; the input reads as it did. -/
def fnExactKeysOfSpec : ChangeSpec := { name := "fnExactKeysOf", fn := fun _ => fun
  | [d1, d2] => { results := [.lit (.bool true)], args := [d1, d2] }
  | _ => none }
def fnExactKeysOfRow : OpenClaim := { program := "ytkjakhalkbiikaa", sum := "59da05f7bb146521d1f62ede9dfa9c4c048a48ed7d3eb5e897ee1fc0dec201ef", func := "loop.example/g00463/laws.FnExactKeysOf", spec := "fnExactKeysOf", recurses := true, plainKeys := false, apart := false }
def FnExactKeysOfSaid : Prop := fnExactKeysOfRow.holds Try.pinned (OpenSpec.ofChange fnExactKeysOfSpec)

/-- ITS FALSE NEIGHBOUR: 'it returns false'. Refute it at one input. -/
def fnExactKeysOfWrong : ChangeSpec := { name := "fnExactKeysOf", fn := fun _ => fun
  | [d1, d2] => { results := [.lit (.bool false)], args := [d1, d2] }
  | _ => none }
def FnExactKeysOfWrongFalsely : Prop := fnExactKeysOfRow.holds Try.pinned (OpenSpec.ofChange fnExactKeysOfWrong)

/-- 'laws.FnExactSetOf': WHATEVER THE INPUT: true; the input reads as it did. -/
def fnExactSetOfSpec : ChangeSpec := { name := "fnExactSetOf", fn := fun _ => fun
  | [d1, d2] => { results := [.lit (.bool true)], args := [d1, d2] }
  | _ => none }
def fnExactSetOfRow : OpenClaim := { program := "ytkjakhalkbiikaa", sum := "59da05f7bb146521d1f62ede9dfa9c4c048a48ed7d3eb5e897ee1fc0dec201ef", func := "loop.example/g00463/laws.FnExactSetOf", spec := "fnExactSetOf", recurses := true, plainKeys := false, apart := false }
def FnExactSetOfSaid : Prop := fnExactSetOfRow.holds Try.pinned (OpenSpec.ofChange fnExactSetOfSpec)

/-- ITS FALSE NEIGHBOUR: 'it returns false'. Refute it at one input. -/
def fnExactSetOfWrong : ChangeSpec := { name := "fnExactSetOf", fn := fun _ => fun
  | [d1, d2] => { results := [.lit (.bool false)], args := [d1, d2] }
  | _ => none }
def FnExactSetOfWrongFalsely : Prop := fnExactSetOfRow.holds Try.pinned (OpenSpec.ofChange fnExactSetOfWrong)

/-- 'laws.FnExactCovers': WHATEVER THE INPUT: true; the input reads as it did. -/
def fnExactCoversSpec : ChangeSpec := { name := "fnExactCovers", fn := fun _ => fun
  | [d] => { results := [.lit (.bool true)], args := [d] }
  | _ => none }
def fnExactCoversRow : OpenClaim := { program := "ytkjakhalkbiikaa", sum := "59da05f7bb146521d1f62ede9dfa9c4c048a48ed7d3eb5e897ee1fc0dec201ef", func := "loop.example/g00463/laws.FnExactCovers", spec := "fnExactCovers", plainKeys := false, apart := false }
def FnExactCoversSaid : Prop := fnExactCoversRow.holds Try.pinned (OpenSpec.ofChange fnExactCoversSpec)

/-- ITS FALSE NEIGHBOUR: 'it returns false'. Refute it at one input. -/
def fnExactCoversWrong : ChangeSpec := { name := "fnExactCovers", fn := fun _ => fun
  | [d] => { results := [.lit (.bool false)], args := [d] }
  | _ => none }
def FnExactCoversWrongFalsely : Prop := fnExactCoversRow.holds Try.pinned (OpenSpec.ofChange fnExactCoversWrong)

/-- 'laws.FnExactReadState': WHATEVER THE INPUT: true; the input reads as it did. -/
def fnExactReadStateSpec : ChangeSpec := { name := "fnExactReadState", fn := fun _ => fun
  | [d] => { results := [.lit (.bool true)], args := [d] }
  | _ => none }
def fnExactReadStateRow : OpenClaim := { program := "ytkjakhalkbiikaa", sum := "59da05f7bb146521d1f62ede9dfa9c4c048a48ed7d3eb5e897ee1fc0dec201ef", func := "loop.example/g00463/laws.FnExactReadState", spec := "fnExactReadState", plainKeys := false, apart := false }
def FnExactReadStateSaid : Prop := fnExactReadStateRow.holds Try.pinned (OpenSpec.ofChange fnExactReadStateSpec)

/-- ITS FALSE NEIGHBOUR: 'it returns false'. Refute it at one input. -/
def fnExactReadStateWrong : ChangeSpec := { name := "fnExactReadState", fn := fun _ => fun
  | [d] => { results := [.lit (.bool false)], args := [d] }
  | _ => none }
def FnExactReadStateWrongFalsely : Prop := fnExactReadStateRow.holds Try.pinned (OpenSpec.ofChange fnExactReadStateWrong)

/-- 'laws.FnExactPlaceIn': WHATEVER THE INPUT: true; the input reads as it did. -/
def fnExactPlaceInSpec : ChangeSpec := { name := "fnExactPlaceIn", fn := fun _ => fun
  | [d1, d2, d3] => { results := [.lit (.bool true)], args := [d1, d2, d3] }
  | _ => none }
def fnExactPlaceInRow : OpenClaim := { program := "ytkjakhalkbiikaa", sum := "59da05f7bb146521d1f62ede9dfa9c4c048a48ed7d3eb5e897ee1fc0dec201ef", func := "loop.example/g00463/laws.FnExactPlaceIn", spec := "fnExactPlaceIn", unfollowed := true, recurses := true, plainKeys := false, apart := false }
def FnExactPlaceInSaid : Prop := fnExactPlaceInRow.holds Try.pinned (OpenSpec.ofChange fnExactPlaceInSpec)

/-- ITS FALSE NEIGHBOUR: 'it returns false'. Refute it at one input. -/
def fnExactPlaceInWrong : ChangeSpec := { name := "fnExactPlaceIn", fn := fun _ => fun
  | [d1, d2, d3] => { results := [.lit (.bool false)], args := [d1, d2, d3] }
  | _ => none }
def FnExactPlaceInWrongFalsely : Prop := fnExactPlaceInRow.holds Try.pinned (OpenSpec.ofChange fnExactPlaceInWrong)

/-- 'laws.FnExactReadDelta': WHATEVER THE INPUT: true; the input reads as it did. -/
def fnExactReadDeltaSpec : ChangeSpec := { name := "fnExactReadDelta", fn := fun _ => fun
  | [d] => { results := [.lit (.bool true)], args := [d] }
  | _ => none }
def fnExactReadDeltaRow : OpenClaim := { program := "ytkjakhalkbiikaa", sum := "59da05f7bb146521d1f62ede9dfa9c4c048a48ed7d3eb5e897ee1fc0dec201ef", func := "loop.example/g00463/laws.FnExactReadDelta", spec := "fnExactReadDelta", plainKeys := false, apart := false }
def FnExactReadDeltaSaid : Prop := fnExactReadDeltaRow.holds Try.pinned (OpenSpec.ofChange fnExactReadDeltaSpec)

/-- ITS FALSE NEIGHBOUR: 'it returns false'. Refute it at one input. -/
def fnExactReadDeltaWrong : ChangeSpec := { name := "fnExactReadDelta", fn := fun _ => fun
  | [d] => { results := [.lit (.bool false)], args := [d] }
  | _ => none }
def FnExactReadDeltaWrongFalsely : Prop := fnExactReadDeltaRow.holds Try.pinned (OpenSpec.ofChange fnExactReadDeltaWrong)

/-- 'laws.FnExactRowDots': WHATEVER THE INPUT: true; the input reads as it did. -/
def fnExactRowDotsSpec : ChangeSpec := { name := "fnExactRowDots", fn := fun _ => fun
  | [d1, d2] => { results := [.lit (.bool true)], args := [d1, d2] }
  | _ => none }
def fnExactRowDotsRow : OpenClaim := { program := "ytkjakhalkbiikaa", sum := "59da05f7bb146521d1f62ede9dfa9c4c048a48ed7d3eb5e897ee1fc0dec201ef", func := "loop.example/g00463/laws.FnExactRowDots", spec := "fnExactRowDots", unfollowed := true, recurses := true, plainKeys := false, apart := false }
def FnExactRowDotsSaid : Prop := fnExactRowDotsRow.holds Try.pinned (OpenSpec.ofChange fnExactRowDotsSpec)

/-- ITS FALSE NEIGHBOUR: 'it returns false'. Refute it at one input. -/
def fnExactRowDotsWrong : ChangeSpec := { name := "fnExactRowDots", fn := fun _ => fun
  | [d1, d2] => { results := [.lit (.bool false)], args := [d1, d2] }
  | _ => none }
def FnExactRowDotsWrongFalsely : Prop := fnExactRowDotsRow.holds Try.pinned (OpenSpec.ofChange fnExactRowDotsWrong)

/-- 'laws.FnExactRowOf': WHATEVER THE INPUT: true; the input reads as it did. -/
def fnExactRowOfSpec : ChangeSpec := { name := "fnExactRowOf", fn := fun _ => fun
  | [d1, d2] => { results := [.lit (.bool true)], args := [d1, d2] }
  | _ => none }
def fnExactRowOfRow : OpenClaim := { program := "ytkjakhalkbiikaa", sum := "59da05f7bb146521d1f62ede9dfa9c4c048a48ed7d3eb5e897ee1fc0dec201ef", func := "loop.example/g00463/laws.FnExactRowOf", spec := "fnExactRowOf", unfollowed := true, recurses := true, plainKeys := false, apart := false }
def FnExactRowOfSaid : Prop := fnExactRowOfRow.holds Try.pinned (OpenSpec.ofChange fnExactRowOfSpec)

/-- ITS FALSE NEIGHBOUR: 'it returns false'. Refute it at one input. -/
def fnExactRowOfWrong : ChangeSpec := { name := "fnExactRowOf", fn := fun _ => fun
  | [d1, d2] => { results := [.lit (.bool false)], args := [d1, d2] }
  | _ => none }
def FnExactRowOfWrongFalsely : Prop := fnExactRowOfRow.holds Try.pinned (OpenSpec.ofChange fnExactRowOfWrong)

/- THE SECOND FORM. 'bulk': how many values and letters a reading holds, each counted each time it is reached (what is shared counts as often as it is met; a slice's spare places count too). A statement '..UptoSaid' is the law's where the arguments, and the package variables that the reading takes, are together of bulk at most 1048576: NARROWER than '..Said'. Prove '..Said' where nothing that the law and all that it calls make is longer than what came in: it says more and counts as full. Else prove '..UptoSaid'. A law counts once. -/
mutual
def uptoBulk {H : Type} : DataW H → Nat
  | .lit (.string bytes) => bytes.length + 1
  | .lit _ => 1
  | .nil => 1
  | .ptr d => uptoBulk d + 1
  | .slice elems spare => uptoBulkAll elems + uptoBulkAll spare + 1
  | .agg parts => uptoBulkAll parts + 1
  | .iface _ d => uptoBulk d + 1
  | .map entries => uptoBulkEntries entries + 1
  | .held _ => 1
def uptoBulkAll {H : Type} : List (DataW H) → Nat
  | [] => 0
  | d :: r => uptoBulk d + uptoBulkAll r
def uptoBulkEntries {H : Type} : List (Lit × DataW H) → Nat
  | [] => 0
  | x :: r => uptoBulkEntry x + uptoBulkEntries r
def uptoBulkEntry {H : Type} : Lit × DataW H → Nat
  | (.string bytes, d) => bytes.length + uptoBulk d + 1
  | (_, d) => uptoBulk d + 1
 end
def uptoSmall : (H : Type) → List (DataW H) → Bool := fun _ ds => decide (uptoBulkAll ds ≤ 1048576)
def OpenSpec.upto (s : _root_.Go.ChangeSpec) : _root_.Go.OpenSpec := { _root_.Go.OpenSpec.ofChange s with cond := some uptoSmall }

/-- 'laws.FnExactGraphNew', WHERE WHAT IT READS IS OF BULK AT MOST 1048576: true; the input reads as it did. -/
def fnExactGraphNewUptoRow : OpenClaim := { program := "ytkjakhalkbiikaa", sum := "59da05f7bb146521d1f62ede9dfa9c4c048a48ed7d3eb5e897ee1fc0dec201ef", func := "loop.example/g00463/laws.FnExactGraphNew", spec := "fnExactGraphNew", plainKeys := false, apart := false, narrowed := true }
def FnExactGraphNewUptoSaid : Prop := fnExactGraphNewUptoRow.holds Try.pinned (OpenSpec.upto fnExactGraphNewSpec)

/-- 'laws.FnExactAtId', WHERE WHAT IT READS IS OF BULK AT MOST 1048576: true; the input reads as it did. -/
def fnExactAtIdUptoRow : OpenClaim := { program := "ytkjakhalkbiikaa", sum := "59da05f7bb146521d1f62ede9dfa9c4c048a48ed7d3eb5e897ee1fc0dec201ef", func := "loop.example/g00463/laws.FnExactAtId", spec := "fnExactAtId", unfollowed := true, recurses := true, plainKeys := false, apart := false, narrowed := true }
def FnExactAtIdUptoSaid : Prop := fnExactAtIdUptoRow.holds Try.pinned (OpenSpec.upto fnExactAtIdSpec)

/-- 'laws.FnExactDeltaOk', WHERE WHAT IT READS IS OF BULK AT MOST 1048576: true; the input reads as it did. -/
def fnExactDeltaOkUptoRow : OpenClaim := { program := "ytkjakhalkbiikaa", sum := "59da05f7bb146521d1f62ede9dfa9c4c048a48ed7d3eb5e897ee1fc0dec201ef", func := "loop.example/g00463/laws.FnExactDeltaOk", spec := "fnExactDeltaOk", plainKeys := false, apart := false, narrowed := true }
def FnExactDeltaOkUptoSaid : Prop := fnExactDeltaOkUptoRow.holds Try.pinned (OpenSpec.upto fnExactDeltaOkSpec)

/-- 'laws.FnExactLogNew', WHERE WHAT IT READS IS OF BULK AT MOST 1048576: true; the input reads as it did. -/
def fnExactLogNewUptoRow : OpenClaim := { program := "ytkjakhalkbiikaa", sum := "59da05f7bb146521d1f62ede9dfa9c4c048a48ed7d3eb5e897ee1fc0dec201ef", func := "loop.example/g00463/laws.FnExactLogNew", spec := "fnExactLogNew", plainKeys := false, apart := false, narrowed := true }
def FnExactLogNewUptoSaid : Prop := fnExactLogNewUptoRow.holds Try.pinned (OpenSpec.upto fnExactLogNewSpec)

/-- 'laws.FnExactStateText', WHERE WHAT IT READS IS OF BULK AT MOST 1048576: true; the input reads as it did. -/
def fnExactStateTextUptoRow : OpenClaim := { program := "ytkjakhalkbiikaa", sum := "59da05f7bb146521d1f62ede9dfa9c4c048a48ed7d3eb5e897ee1fc0dec201ef", func := "loop.example/g00463/laws.FnExactStateText", spec := "fnExactStateText", plainKeys := false, apart := false, narrowed := true }
def FnExactStateTextUptoSaid : Prop := fnExactStateTextUptoRow.holds Try.pinned (OpenSpec.upto fnExactStateTextSpec)

/-- 'laws.FnExactDeltaText', WHERE WHAT IT READS IS OF BULK AT MOST 1048576: true; the input reads as it did. -/
def fnExactDeltaTextUptoRow : OpenClaim := { program := "ytkjakhalkbiikaa", sum := "59da05f7bb146521d1f62ede9dfa9c4c048a48ed7d3eb5e897ee1fc0dec201ef", func := "loop.example/g00463/laws.FnExactDeltaText", spec := "fnExactDeltaText", plainKeys := false, apart := false, narrowed := true }
def FnExactDeltaTextUptoSaid : Prop := fnExactDeltaTextUptoRow.holds Try.pinned (OpenSpec.upto fnExactDeltaTextSpec)

/-- 'laws.FnExactKeysOf', WHERE WHAT IT READS IS OF BULK AT MOST 1048576: true; the input reads as it did. -/
def fnExactKeysOfUptoRow : OpenClaim := { program := "ytkjakhalkbiikaa", sum := "59da05f7bb146521d1f62ede9dfa9c4c048a48ed7d3eb5e897ee1fc0dec201ef", func := "loop.example/g00463/laws.FnExactKeysOf", spec := "fnExactKeysOf", recurses := true, plainKeys := false, apart := false, narrowed := true }
def FnExactKeysOfUptoSaid : Prop := fnExactKeysOfUptoRow.holds Try.pinned (OpenSpec.upto fnExactKeysOfSpec)

/-- 'laws.FnExactSetOf', WHERE WHAT IT READS IS OF BULK AT MOST 1048576: true; the input reads as it did. -/
def fnExactSetOfUptoRow : OpenClaim := { program := "ytkjakhalkbiikaa", sum := "59da05f7bb146521d1f62ede9dfa9c4c048a48ed7d3eb5e897ee1fc0dec201ef", func := "loop.example/g00463/laws.FnExactSetOf", spec := "fnExactSetOf", recurses := true, plainKeys := false, apart := false, narrowed := true }
def FnExactSetOfUptoSaid : Prop := fnExactSetOfUptoRow.holds Try.pinned (OpenSpec.upto fnExactSetOfSpec)

/-- 'laws.FnExactCovers', WHERE WHAT IT READS IS OF BULK AT MOST 1048576: true; the input reads as it did. -/
def fnExactCoversUptoRow : OpenClaim := { program := "ytkjakhalkbiikaa", sum := "59da05f7bb146521d1f62ede9dfa9c4c048a48ed7d3eb5e897ee1fc0dec201ef", func := "loop.example/g00463/laws.FnExactCovers", spec := "fnExactCovers", plainKeys := false, apart := false, narrowed := true }
def FnExactCoversUptoSaid : Prop := fnExactCoversUptoRow.holds Try.pinned (OpenSpec.upto fnExactCoversSpec)

/-- 'laws.FnExactReadState', WHERE WHAT IT READS IS OF BULK AT MOST 1048576: true; the input reads as it did. -/
def fnExactReadStateUptoRow : OpenClaim := { program := "ytkjakhalkbiikaa", sum := "59da05f7bb146521d1f62ede9dfa9c4c048a48ed7d3eb5e897ee1fc0dec201ef", func := "loop.example/g00463/laws.FnExactReadState", spec := "fnExactReadState", plainKeys := false, apart := false, narrowed := true }
def FnExactReadStateUptoSaid : Prop := fnExactReadStateUptoRow.holds Try.pinned (OpenSpec.upto fnExactReadStateSpec)

/-- 'laws.FnExactPlaceIn', WHERE WHAT IT READS IS OF BULK AT MOST 1048576: true; the input reads as it did. -/
def fnExactPlaceInUptoRow : OpenClaim := { program := "ytkjakhalkbiikaa", sum := "59da05f7bb146521d1f62ede9dfa9c4c048a48ed7d3eb5e897ee1fc0dec201ef", func := "loop.example/g00463/laws.FnExactPlaceIn", spec := "fnExactPlaceIn", unfollowed := true, recurses := true, plainKeys := false, apart := false, narrowed := true }
def FnExactPlaceInUptoSaid : Prop := fnExactPlaceInUptoRow.holds Try.pinned (OpenSpec.upto fnExactPlaceInSpec)

/-- 'laws.FnExactReadDelta', WHERE WHAT IT READS IS OF BULK AT MOST 1048576: true; the input reads as it did. -/
def fnExactReadDeltaUptoRow : OpenClaim := { program := "ytkjakhalkbiikaa", sum := "59da05f7bb146521d1f62ede9dfa9c4c048a48ed7d3eb5e897ee1fc0dec201ef", func := "loop.example/g00463/laws.FnExactReadDelta", spec := "fnExactReadDelta", plainKeys := false, apart := false, narrowed := true }
def FnExactReadDeltaUptoSaid : Prop := fnExactReadDeltaUptoRow.holds Try.pinned (OpenSpec.upto fnExactReadDeltaSpec)

/-- 'laws.FnExactRowDots', WHERE WHAT IT READS IS OF BULK AT MOST 1048576: true; the input reads as it did. -/
def fnExactRowDotsUptoRow : OpenClaim := { program := "ytkjakhalkbiikaa", sum := "59da05f7bb146521d1f62ede9dfa9c4c048a48ed7d3eb5e897ee1fc0dec201ef", func := "loop.example/g00463/laws.FnExactRowDots", spec := "fnExactRowDots", unfollowed := true, recurses := true, plainKeys := false, apart := false, narrowed := true }
def FnExactRowDotsUptoSaid : Prop := fnExactRowDotsUptoRow.holds Try.pinned (OpenSpec.upto fnExactRowDotsSpec)

/-- 'laws.FnExactRowOf', WHERE WHAT IT READS IS OF BULK AT MOST 1048576: true; the input reads as it did. -/
def fnExactRowOfUptoRow : OpenClaim := { program := "ytkjakhalkbiikaa", sum := "59da05f7bb146521d1f62ede9dfa9c4c048a48ed7d3eb5e897ee1fc0dec201ef", func := "loop.example/g00463/laws.FnExactRowOf", spec := "fnExactRowOf", unfollowed := true, recurses := true, plainKeys := false, apart := false, narrowed := true }
def FnExactRowOfUptoSaid : Prop := fnExactRowOfUptoRow.holds Try.pinned (OpenSpec.upto fnExactRowOfSpec)

end Rows
end Go.Proofs.Ytkjakhalkbiikaa
