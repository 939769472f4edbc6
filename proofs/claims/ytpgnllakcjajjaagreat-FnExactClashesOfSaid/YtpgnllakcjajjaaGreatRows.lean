/-
  No cell of these rows narrows 'for every input' (looked for: loops, veiled, ifaces, maps, wideKeys, modest, calm, conditions, laid).
  DERIVED. THE GIVEN ROWS OF THIS SEAT. 6 by the template 'for every input the law returns true; each argument reads behind the call as it read before'; 0 by the template 'total and deterministic' (their statements: YtpgnllakcjajjaaGreatTotals.lean).
  GIVEN WITH THE SEED: the statements are not yours to turn. If you find one false, say at which input.
  Laid BY PROGRAM, IN A SANDBOX (cutbox-rows.mjs): the forced cells as the released guide's own fill.sh prints them over the translation d34c10806797de57… (all of the seat's roots in one cut). By AI agents, Wed Nov 11 2026. No macro, syntax, notation, axiom, sorry.
-/
import Derived.Test.YtpgnllakcjajjaaGreatChecked
import GoSem.Claim
import GoSem.ClaimJoined
import GoSem.ClaimMapViews
import Derived.JoinedTies
import Derived.KernelRfl
namespace Go.Proofs.YtpgnllakcjajjaaGreat
/- THE CELL 'sum', in the pinned program and in every row, IS THE sha256 OF THE DUMP (.gsa) THAT YtpgnllakcjajjaaGreatProg.lean LOADS. Nothing in Lean hashes anything: it is a label: what it is worth is what the hold of that sum in a sandbox is worth. -/
noncomputable def Tryz.pinned : Pinned := { name := "ytpgnllakcjajjaagreat", sum := "d34c10806797de5715d484f7892ab464ee9b2d677da9ca6903fe8eeeafaf5697", checked := Tryz.checked }
namespace Rows
def none {H : Type} : Left H := { results := [], args := [] }

/-- 'laws.FnExactMergeState': WHATEVER THE INPUT: true; the input reads as it did. -/
def fnExactMergeStateSpec : ChangeSpec := { name := "fnExactMergeState", fn := fun _ => fun
  | [d1, d2] => { results := [.lit (.bool true)], args := [d1, d2] }
  | _ => none }
def fnExactMergeStateRow : OpenClaim := { program := "ytpgnllakcjajjaagreat", sum := "d34c10806797de5715d484f7892ab464ee9b2d677da9ca6903fe8eeeafaf5697", func := "loop.example/g00463/laws.FnExactMergeState", spec := "fnExactMergeState", unfollowed := true, recurses := true, plainKeys := false, apart := false }
def FnExactMergeStateSaid : Prop := fnExactMergeStateRow.holds Tryz.pinned (OpenSpec.ofChange fnExactMergeStateSpec)

/-- ITS FALSE NEIGHBOUR: 'it returns false'. Refute it at one input. -/
def fnExactMergeStateWrong : ChangeSpec := { name := "fnExactMergeState", fn := fun _ => fun
  | [d1, d2] => { results := [.lit (.bool false)], args := [d1, d2] }
  | _ => none }
def FnExactMergeStateWrongFalsely : Prop := fnExactMergeStateRow.holds Tryz.pinned (OpenSpec.ofChange fnExactMergeStateWrong)

/-- 'laws.FnExactBehind': WHATEVER THE INPUT: true; the input reads as it did. -/
def fnExactBehindSpec : ChangeSpec := { name := "fnExactBehind", fn := fun _ => fun
  | [d1, d2] => { results := [.lit (.bool true)], args := [d1, d2] }
  | _ => none }
def fnExactBehindRow : OpenClaim := { program := "ytpgnllakcjajjaagreat", sum := "d34c10806797de5715d484f7892ab464ee9b2d677da9ca6903fe8eeeafaf5697", func := "loop.example/g00463/laws.FnExactBehind", spec := "fnExactBehind", unfollowed := true, recurses := true, plainKeys := false, apart := false }
def FnExactBehindSaid : Prop := fnExactBehindRow.holds Tryz.pinned (OpenSpec.ofChange fnExactBehindSpec)

/-- ITS FALSE NEIGHBOUR: 'it returns false'. Refute it at one input. -/
def fnExactBehindWrong : ChangeSpec := { name := "fnExactBehind", fn := fun _ => fun
  | [d1, d2] => { results := [.lit (.bool false)], args := [d1, d2] }
  | _ => none }
def FnExactBehindWrongFalsely : Prop := fnExactBehindRow.holds Tryz.pinned (OpenSpec.ofChange fnExactBehindWrong)

/-- 'laws.FnExactClashesOf': WHATEVER THE INPUT: true; the input reads as it did. -/
def fnExactClashesOfSpec : ChangeSpec := { name := "fnExactClashesOf", fn := fun _ => fun
  | [d1, d2, d3] => { results := [.lit (.bool true)], args := [d1, d2, d3] }
  | _ => none }
def fnExactClashesOfRow : OpenClaim := { program := "ytpgnllakcjajjaagreat", sum := "d34c10806797de5715d484f7892ab464ee9b2d677da9ca6903fe8eeeafaf5697", func := "loop.example/g00463/laws.FnExactClashesOf", spec := "fnExactClashesOf", unfollowed := true, recurses := true, plainKeys := false, apart := false }
def FnExactClashesOfSaid : Prop := fnExactClashesOfRow.holds Tryz.pinned (OpenSpec.ofChange fnExactClashesOfSpec)

/-- ITS FALSE NEIGHBOUR: 'it returns false'. Refute it at one input. -/
def fnExactClashesOfWrong : ChangeSpec := { name := "fnExactClashesOf", fn := fun _ => fun
  | [d1, d2, d3] => { results := [.lit (.bool false)], args := [d1, d2, d3] }
  | _ => none }
def FnExactClashesOfWrongFalsely : Prop := fnExactClashesOfRow.holds Tryz.pinned (OpenSpec.ofChange fnExactClashesOfWrong)

/-- 'laws.FnExactDeltaOf': WHATEVER THE INPUT: true; the input reads as it did. -/
def fnExactDeltaOfSpec : ChangeSpec := { name := "fnExactDeltaOf", fn := fun _ => fun
  | [d1, d2] => { results := [.lit (.bool true)], args := [d1, d2] }
  | _ => none }
def fnExactDeltaOfRow : OpenClaim := { program := "ytpgnllakcjajjaagreat", sum := "d34c10806797de5715d484f7892ab464ee9b2d677da9ca6903fe8eeeafaf5697", func := "loop.example/g00463/laws.FnExactDeltaOf", spec := "fnExactDeltaOf", unfollowed := true, recurses := true, plainKeys := false, apart := false }
def FnExactDeltaOfSaid : Prop := fnExactDeltaOfRow.holds Tryz.pinned (OpenSpec.ofChange fnExactDeltaOfSpec)

/-- ITS FALSE NEIGHBOUR: 'it returns false'. Refute it at one input. -/
def fnExactDeltaOfWrong : ChangeSpec := { name := "fnExactDeltaOf", fn := fun _ => fun
  | [d1, d2] => { results := [.lit (.bool false)], args := [d1, d2] }
  | _ => none }
def FnExactDeltaOfWrongFalsely : Prop := fnExactDeltaOfRow.holds Tryz.pinned (OpenSpec.ofChange fnExactDeltaOfWrong)

/-- 'laws.FnExactDoDelta': WHATEVER THE INPUT: true; the input reads as it did. -/
def fnExactDoDeltaSpec : ChangeSpec := { name := "fnExactDoDelta", fn := fun _ => fun
  | [d1, d2] => { results := [.lit (.bool true)], args := [d1, d2] }
  | _ => none }
def fnExactDoDeltaRow : OpenClaim := { program := "ytpgnllakcjajjaagreat", sum := "d34c10806797de5715d484f7892ab464ee9b2d677da9ca6903fe8eeeafaf5697", func := "loop.example/g00463/laws.FnExactDoDelta", spec := "fnExactDoDelta", unfollowed := true, recurses := true, plainKeys := false, apart := false }
def FnExactDoDeltaSaid : Prop := fnExactDoDeltaRow.holds Tryz.pinned (OpenSpec.ofChange fnExactDoDeltaSpec)

/-- ITS FALSE NEIGHBOUR: 'it returns false'. Refute it at one input. -/
def fnExactDoDeltaWrong : ChangeSpec := { name := "fnExactDoDelta", fn := fun _ => fun
  | [d1, d2] => { results := [.lit (.bool false)], args := [d1, d2] }
  | _ => none }
def FnExactDoDeltaWrongFalsely : Prop := fnExactDoDeltaRow.holds Tryz.pinned (OpenSpec.ofChange fnExactDoDeltaWrong)

/-- 'laws.FnExactGraphOk': WHATEVER THE INPUT: true; the input reads as it did. -/
def fnExactGraphOkSpec : ChangeSpec := { name := "fnExactGraphOk", fn := fun _ => fun
  | [d] => { results := [.lit (.bool true)], args := [d] }
  | _ => none }
def fnExactGraphOkRow : OpenClaim := { program := "ytpgnllakcjajjaagreat", sum := "d34c10806797de5715d484f7892ab464ee9b2d677da9ca6903fe8eeeafaf5697", func := "loop.example/g00463/laws.FnExactGraphOk", spec := "fnExactGraphOk", unfollowed := true, recurses := true, plainKeys := false, apart := false }
def FnExactGraphOkSaid : Prop := fnExactGraphOkRow.holds Tryz.pinned (OpenSpec.ofChange fnExactGraphOkSpec)

/-- ITS FALSE NEIGHBOUR: 'it returns false'. Refute it at one input. -/
def fnExactGraphOkWrong : ChangeSpec := { name := "fnExactGraphOk", fn := fun _ => fun
  | [d] => { results := [.lit (.bool false)], args := [d] }
  | _ => none }
def FnExactGraphOkWrongFalsely : Prop := fnExactGraphOkRow.holds Tryz.pinned (OpenSpec.ofChange fnExactGraphOkWrong)

/- THE SECOND FORM. 'bulk': how many values and letters a reading holds, each counted each time it is reached (what is shared counts as often as it is met; a slice's spare places count too). A statement '..UptoSaid' is the law's where the arguments, and the package variables that the reading takes, are together of bulk at most 1048576: NARROWER than '..Said'. Prove '..Said' where nothing that the law and all that it calls make is longer than what came in: it says more and counts as full. Else prove '..UptoSaid'. A law counts once. -/
mutual
def uptoBulk {H : Type} : DataW H → Nat
  | .lit (.string bytes) => bytes.length + 1
  | .lit _ => 1
  | .nil => 1
  | .ptr d => uptoBulk d + 1
  | .slice elems spare => uptoBulkAll elems + uptoBulkAll spare + 1
  | .agg parts => uptoBulkAll parts + 1
  | .iface _ d => uptoBulk d + 1
  | .map entries => uptoBulkEntries entries + 1
  | .held _ => 1
def uptoBulkAll {H : Type} : List (DataW H) → Nat
  | [] => 0
  | d :: r => uptoBulk d + uptoBulkAll r
def uptoBulkEntries {H : Type} : List (Lit × DataW H) → Nat
  | [] => 0
  | x :: r => uptoBulkEntry x + uptoBulkEntries r
def uptoBulkEntry {H : Type} : Lit × DataW H → Nat
  | (.string bytes, d) => bytes.length + uptoBulk d + 1
  | (_, d) => uptoBulk d + 1
 end
def uptoSmall : (H : Type) → List (DataW H) → Bool := fun _ ds => decide (uptoBulkAll ds ≤ 1048576)
def OpenSpec.upto (s : _root_.Go.ChangeSpec) : _root_.Go.OpenSpec := { _root_.Go.OpenSpec.ofChange s with cond := some uptoSmall }

/-- 'laws.FnExactMergeState', WHERE WHAT IT READS IS OF BULK AT MOST 1048576: true; the input reads as it did. -/
def fnExactMergeStateUptoRow : OpenClaim := { program := "ytpgnllakcjajjaagreat", sum := "d34c10806797de5715d484f7892ab464ee9b2d677da9ca6903fe8eeeafaf5697", func := "loop.example/g00463/laws.FnExactMergeState", spec := "fnExactMergeState", unfollowed := true, recurses := true, plainKeys := false, apart := false, narrowed := true }
def FnExactMergeStateUptoSaid : Prop := fnExactMergeStateUptoRow.holds Tryz.pinned (OpenSpec.upto fnExactMergeStateSpec)

/-- 'laws.FnExactBehind', WHERE WHAT IT READS IS OF BULK AT MOST 1048576: true; the input reads as it did. -/
def fnExactBehindUptoRow : OpenClaim := { program := "ytpgnllakcjajjaagreat", sum := "d34c10806797de5715d484f7892ab464ee9b2d677da9ca6903fe8eeeafaf5697", func := "loop.example/g00463/laws.FnExactBehind", spec := "fnExactBehind", unfollowed := true, recurses := true, plainKeys := false, apart := false, narrowed := true }
def FnExactBehindUptoSaid : Prop := fnExactBehindUptoRow.holds Tryz.pinned (OpenSpec.upto fnExactBehindSpec)

/-- 'laws.FnExactClashesOf', WHERE WHAT IT READS IS OF BULK AT MOST 1048576: true; the input reads as it did. -/
def fnExactClashesOfUptoRow : OpenClaim := { program := "ytpgnllakcjajjaagreat", sum := "d34c10806797de5715d484f7892ab464ee9b2d677da9ca6903fe8eeeafaf5697", func := "loop.example/g00463/laws.FnExactClashesOf", spec := "fnExactClashesOf", unfollowed := true, recurses := true, plainKeys := false, apart := false, narrowed := true }
def FnExactClashesOfUptoSaid : Prop := fnExactClashesOfUptoRow.holds Tryz.pinned (OpenSpec.upto fnExactClashesOfSpec)

/-- 'laws.FnExactDeltaOf', WHERE WHAT IT READS IS OF BULK AT MOST 1048576: true; the input reads as it did. -/
def fnExactDeltaOfUptoRow : OpenClaim := { program := "ytpgnllakcjajjaagreat", sum := "d34c10806797de5715d484f7892ab464ee9b2d677da9ca6903fe8eeeafaf5697", func := "loop.example/g00463/laws.FnExactDeltaOf", spec := "fnExactDeltaOf", unfollowed := true, recurses := true, plainKeys := false, apart := false, narrowed := true }
def FnExactDeltaOfUptoSaid : Prop := fnExactDeltaOfUptoRow.holds Tryz.pinned (OpenSpec.upto fnExactDeltaOfSpec)

/-- 'laws.FnExactDoDelta', WHERE WHAT IT READS IS OF BULK AT MOST 1048576: true; the input reads as it did. -/
def fnExactDoDeltaUptoRow : OpenClaim := { program := "ytpgnllakcjajjaagreat", sum := "d34c10806797de5715d484f7892ab464ee9b2d677da9ca6903fe8eeeafaf5697", func := "loop.example/g00463/laws.FnExactDoDelta", spec := "fnExactDoDelta", unfollowed := true, recurses := true, plainKeys := false, apart := false, narrowed := true }
def FnExactDoDeltaUptoSaid : Prop := fnExactDoDeltaUptoRow.holds Tryz.pinned (OpenSpec.upto fnExactDoDeltaSpec)

/-- 'laws.FnExactGraphOk', WHERE WHAT IT READS IS OF BULK AT MOST 1048576: true; the input reads as it did. -/
def fnExactGraphOkUptoRow : OpenClaim := { program := "ytpgnllakcjajjaagreat", sum := "d34c10806797de5715d484f7892ab464ee9b2d677da9ca6903fe8eeeafaf5697", func := "loop.example/g00463/laws.FnExactGraphOk", spec := "fnExactGraphOk", unfollowed := true, recurses := true, plainKeys := false, apart := false, narrowed := true }
def FnExactGraphOkUptoSaid : Prop := fnExactGraphOkUptoRow.holds Tryz.pinned (OpenSpec.upto fnExactGraphOkSpec)

end Rows
end Go.Proofs.YtpgnllakcjajjaaGreat
