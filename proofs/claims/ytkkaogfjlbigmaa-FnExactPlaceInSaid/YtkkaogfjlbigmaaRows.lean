/-
  No cell of these rows narrows 'for every input' (looked for: loops, veiled, ifaces, maps, wideKeys, modest, calm, conditions, laid).
  DERIVED. THE GIVEN ROWS OF THIS SEAT. 3 by the template 'for every input the law returns true; each argument reads behind the call as it read before'; 0 by the template 'total and deterministic' (their statements: YtkkaogfjlbigmaaTotals.lean).
  GIVEN WITH THE SEED: the statements are not yours to turn. If you find one false, say at which input.
  Laid BY PROGRAM, IN A SANDBOX (cutbox-rows.mjs): the forced cells as the released guide's own fill.sh prints them over the translation 8bb4945b0b74f757… (all of the seat's roots in one cut). By AI agents, Wed Nov 11 2026. No macro, syntax, notation, axiom, sorry.
-/
import Derived.Test.YtkkaogfjlbigmaaChecked
import GoSem.Claim
import GoSem.ClaimJoined
import GoSem.ClaimMapViews
import Derived.JoinedTies
import Derived.KernelRfl
namespace Go.Proofs.Ytkkaogfjlbigmaa
/- THE CELL 'sum', in the pinned program and in every row, IS THE sha256 OF THE DUMP (.gsa) THAT YtkkaogfjlbigmaaProg.lean LOADS. Nothing in Lean hashes anything: it is a label: what it is worth is what the hold of that sum in a sandbox is worth. -/
noncomputable def Try.pinned : Pinned := { name := "ytkkaogfjlbigmaa", sum := "8bb4945b0b74f757afc0317a36929168fde8bded3c43822b73212cbb490f657f", checked := Try.checked }
namespace Rows
def none {H : Type} : Left H := { results := [], args := [] }

/-- 'laws.FnExactPlaceIn': WHATEVER THE INPUT: true; the input reads as it did. -/
def fnExactPlaceInSpec : ChangeSpec := { name := "fnExactPlaceIn", fn := fun _ => fun
  | [d1, d2, d3] => { results := [.lit (.bool true)], args := [d1, d2, d3] }
  | _ => none }
def fnExactPlaceInRow : OpenClaim := { program := "ytkkaogfjlbigmaa", sum := "8bb4945b0b74f757afc0317a36929168fde8bded3c43822b73212cbb490f657f", func := "loop.example/g00463/laws.FnExactPlaceIn", spec := "fnExactPlaceIn", unfollowed := true, recurses := true, plainKeys := false, apart := false }
def FnExactPlaceInSaid : Prop := fnExactPlaceInRow.holds Try.pinned (OpenSpec.ofChange fnExactPlaceInSpec)

/-- ITS FALSE NEIGHBOUR: 'it returns false'. Refute it at one input. -/
def fnExactPlaceInWrong : ChangeSpec := { name := "fnExactPlaceIn", fn := fun _ => fun
  | [d1, d2, d3] => { results := [.lit (.bool false)], args := [d1, d2, d3] }
  | _ => none }
def FnExactPlaceInWrongFalsely : Prop := fnExactPlaceInRow.holds Try.pinned (OpenSpec.ofChange fnExactPlaceInWrong)

/-- 'laws.FnExactRowDots': WHATEVER THE INPUT: true; the input reads as it did. -/
def fnExactRowDotsSpec : ChangeSpec := { name := "fnExactRowDots", fn := fun _ => fun
  | [d1, d2] => { results := [.lit (.bool true)], args := [d1, d2] }
  | _ => none }
def fnExactRowDotsRow : OpenClaim := { program := "ytkkaogfjlbigmaa", sum := "8bb4945b0b74f757afc0317a36929168fde8bded3c43822b73212cbb490f657f", func := "loop.example/g00463/laws.FnExactRowDots", spec := "fnExactRowDots", unfollowed := true, recurses := true, plainKeys := false, apart := false }
def FnExactRowDotsSaid : Prop := fnExactRowDotsRow.holds Try.pinned (OpenSpec.ofChange fnExactRowDotsSpec)

/-- ITS FALSE NEIGHBOUR: 'it returns false'. Refute it at one input. -/
def fnExactRowDotsWrong : ChangeSpec := { name := "fnExactRowDots", fn := fun _ => fun
  | [d1, d2] => { results := [.lit (.bool false)], args := [d1, d2] }
  | _ => none }
def FnExactRowDotsWrongFalsely : Prop := fnExactRowDotsRow.holds Try.pinned (OpenSpec.ofChange fnExactRowDotsWrong)

/-- 'laws.FnExactRowOf': WHATEVER THE INPUT: true; the input reads as it did. -/
def fnExactRowOfSpec : ChangeSpec := { name := "fnExactRowOf", fn := fun _ => fun
  | [d1, d2] => { results := [.lit (.bool true)], args := [d1, d2] }
  | _ => none }
def fnExactRowOfRow : OpenClaim := { program := "ytkkaogfjlbigmaa", sum := "8bb4945b0b74f757afc0317a36929168fde8bded3c43822b73212cbb490f657f", func := "loop.example/g00463/laws.FnExactRowOf", spec := "fnExactRowOf", unfollowed := true, recurses := true, plainKeys := false, apart := false }
def FnExactRowOfSaid : Prop := fnExactRowOfRow.holds Try.pinned (OpenSpec.ofChange fnExactRowOfSpec)

/-- ITS FALSE NEIGHBOUR: 'it returns false'. Refute it at one input. -/
def fnExactRowOfWrong : ChangeSpec := { name := "fnExactRowOf", fn := fun _ => fun
  | [d1, d2] => { results := [.lit (.bool false)], args := [d1, d2] }
  | _ => none }
def FnExactRowOfWrongFalsely : Prop := fnExactRowOfRow.holds Try.pinned (OpenSpec.ofChange fnExactRowOfWrong)

/- THE SECOND FORM. 'bulk': how many values and letters a reading holds, each counted each time it is reached (what is shared counts as often as it is met; a slice's spare places count too). A statement '..UptoSaid' is the law's where the arguments, and the package variables that the reading takes, are together of bulk at most 1048576: NARROWER than '..Said'. Prove '..Said' where nothing that the law and all that it calls make is longer than what came in: it says more and counts as full. Else prove '..UptoSaid'. A law counts once. -/
mutual
def uptoBulk {H : Type} : DataW H → Nat
  | .lit (.string bytes) => bytes.length + 1
  | .lit _ => 1
  | .nil => 1
  | .ptr d => uptoBulk d + 1
  | .slice elems spare => uptoBulkAll elems + uptoBulkAll spare + 1
  | .agg parts => uptoBulkAll parts + 1
  | .iface _ d => uptoBulk d + 1
  | .map entries => uptoBulkEntries entries + 1
  | .held _ => 1
def uptoBulkAll {H : Type} : List (DataW H) → Nat
  | [] => 0
  | d :: r => uptoBulk d + uptoBulkAll r
def uptoBulkEntries {H : Type} : List (Lit × DataW H) → Nat
  | [] => 0
  | x :: r => uptoBulkEntry x + uptoBulkEntries r
def uptoBulkEntry {H : Type} : Lit × DataW H → Nat
  | (.string bytes, d) => bytes.length + uptoBulk d + 1
  | (_, d) => uptoBulk d + 1
 end
def uptoSmall : (H : Type) → List (DataW H) → Bool := fun _ ds => decide (uptoBulkAll ds ≤ 1048576)
def OpenSpec.upto (s : _root_.Go.ChangeSpec) : _root_.Go.OpenSpec := { _root_.Go.OpenSpec.ofChange s with cond := some uptoSmall }

/-- 'laws.FnExactPlaceIn', WHERE WHAT IT READS IS OF BULK AT MOST 1048576: true; the input reads as it did. -/
def fnExactPlaceInUptoRow : OpenClaim := { program := "ytkkaogfjlbigmaa", sum := "8bb4945b0b74f757afc0317a36929168fde8bded3c43822b73212cbb490f657f", func := "loop.example/g00463/laws.FnExactPlaceIn", spec := "fnExactPlaceIn", unfollowed := true, recurses := true, plainKeys := false, apart := false, narrowed := true }
def FnExactPlaceInUptoSaid : Prop := fnExactPlaceInUptoRow.holds Try.pinned (OpenSpec.upto fnExactPlaceInSpec)

/-- 'laws.FnExactRowDots', WHERE WHAT IT READS IS OF BULK AT MOST 1048576: true; the input reads as it did. -/
def fnExactRowDotsUptoRow : OpenClaim := { program := "ytkkaogfjlbigmaa", sum := "8bb4945b0b74f757afc0317a36929168fde8bded3c43822b73212cbb490f657f", func := "loop.example/g00463/laws.FnExactRowDots", spec := "fnExactRowDots", unfollowed := true, recurses := true, plainKeys := false, apart := false, narrowed := true }
def FnExactRowDotsUptoSaid : Prop := fnExactRowDotsUptoRow.holds Try.pinned (OpenSpec.upto fnExactRowDotsSpec)

/-- 'laws.FnExactRowOf', WHERE WHAT IT READS IS OF BULK AT MOST 1048576: true; the input reads as it did. -/
def fnExactRowOfUptoRow : OpenClaim := { program := "ytkkaogfjlbigmaa", sum := "8bb4945b0b74f757afc0317a36929168fde8bded3c43822b73212cbb490f657f", func := "loop.example/g00463/laws.FnExactRowOf", spec := "fnExactRowOf", unfollowed := true, recurses := true, plainKeys := false, apart := false, narrowed := true }
def FnExactRowOfUptoSaid : Prop := fnExactRowOfUptoRow.holds Try.pinned (OpenSpec.upto fnExactRowOfSpec)

end Rows
end Go.Proofs.Ytkkaogfjlbigmaa
