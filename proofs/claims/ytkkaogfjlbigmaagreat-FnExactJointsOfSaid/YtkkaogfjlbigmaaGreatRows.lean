/-
  No cell of these rows narrows 'for every input' (looked for: loops, veiled, ifaces, maps, wideKeys, modest, calm, conditions, laid).
  DERIVED. THE GIVEN ROWS OF THIS SEAT. 3 by the template 'for every input the law returns true; each argument reads behind the call as it read before'; 0 by the template 'total and deterministic' (their statements: YtkkaogfjlbigmaaGreatTotals.lean).
  GIVEN WITH THE SEED: the statements are not yours to turn. If you find one false, say at which input.
  Laid BY PROGRAM, IN A SANDBOX (cutbox-rows.mjs): the forced cells as the released guide's own fill.sh prints them over the translation 3b479d0673537d5d… (all of the seat's roots in one cut). By AI agents, Wed Nov 11 2026. No macro, syntax, notation, axiom, sorry.
-/
import Derived.Test.YtkkaogfjlbigmaaGreatChecked
import GoSem.Claim
import GoSem.ClaimJoined
import GoSem.ClaimMapViews
import Derived.JoinedTies
import Derived.KernelRfl
namespace Go.Proofs.YtkkaogfjlbigmaaGreat
/- THE CELL 'sum', in the pinned program and in every row, IS THE sha256 OF THE DUMP (.gsa) THAT YtkkaogfjlbigmaaGreatProg.lean LOADS. Nothing in Lean hashes anything: it is a label: what it is worth is what the hold of that sum in a sandbox is worth. -/
noncomputable def Tryz.pinned : Pinned := { name := "ytkkaogfjlbigmaagreat", sum := "3b479d0673537d5d20d216de013571f5bd033ff22c03a513cbba175408184738", checked := Tryz.checked }
namespace Rows
def none {H : Type} : Left H := { results := [], args := [] }

/-- 'laws.FnExactActOf': WHATEVER THE INPUT: true; the input reads as it did. -/
def fnExactActOfSpec : ChangeSpec := { name := "fnExactActOf", fn := fun _ => fun
  | [d1, d2, d3, d4] => { results := [.lit (.bool true)], args := [d1, d2, d3, d4] }
  | _ => none }
def fnExactActOfRow : OpenClaim := { program := "ytkkaogfjlbigmaagreat", sum := "3b479d0673537d5d20d216de013571f5bd033ff22c03a513cbba175408184738", func := "loop.example/g00463/laws.FnExactActOf", spec := "fnExactActOf", unfollowed := true, recurses := true, plainKeys := false, apart := false }
def FnExactActOfSaid : Prop := fnExactActOfRow.holds Tryz.pinned (OpenSpec.ofChange fnExactActOfSpec)

/-- ITS FALSE NEIGHBOUR: 'it returns false'. Refute it at one input. -/
def fnExactActOfWrong : ChangeSpec := { name := "fnExactActOf", fn := fun _ => fun
  | [d1, d2, d3, d4] => { results := [.lit (.bool false)], args := [d1, d2, d3, d4] }
  | _ => none }
def FnExactActOfWrongFalsely : Prop := fnExactActOfRow.holds Tryz.pinned (OpenSpec.ofChange fnExactActOfWrong)

/-- 'laws.FnExactUpsOf': WHATEVER THE INPUT: true; the input reads as it did. -/
def fnExactUpsOfSpec : ChangeSpec := { name := "fnExactUpsOf", fn := fun _ => fun
  | [d1, d2] => { results := [.lit (.bool true)], args := [d1, d2] }
  | _ => none }
def fnExactUpsOfRow : OpenClaim := { program := "ytkkaogfjlbigmaagreat", sum := "3b479d0673537d5d20d216de013571f5bd033ff22c03a513cbba175408184738", func := "loop.example/g00463/laws.FnExactUpsOf", spec := "fnExactUpsOf", unfollowed := true, recurses := true, plainKeys := false, apart := false }
def FnExactUpsOfSaid : Prop := fnExactUpsOfRow.holds Tryz.pinned (OpenSpec.ofChange fnExactUpsOfSpec)

/-- ITS FALSE NEIGHBOUR: 'it returns false'. Refute it at one input. -/
def fnExactUpsOfWrong : ChangeSpec := { name := "fnExactUpsOf", fn := fun _ => fun
  | [d1, d2] => { results := [.lit (.bool false)], args := [d1, d2] }
  | _ => none }
def FnExactUpsOfWrongFalsely : Prop := fnExactUpsOfRow.holds Tryz.pinned (OpenSpec.ofChange fnExactUpsOfWrong)

/-- 'laws.FnExactJointsOf': WHATEVER THE INPUT: true; the input reads as it did. -/
def fnExactJointsOfSpec : ChangeSpec := { name := "fnExactJointsOf", fn := fun _ => fun
  | [d1, d2, d3] => { results := [.lit (.bool true)], args := [d1, d2, d3] }
  | _ => none }
def fnExactJointsOfRow : OpenClaim := { program := "ytkkaogfjlbigmaagreat", sum := "3b479d0673537d5d20d216de013571f5bd033ff22c03a513cbba175408184738", func := "loop.example/g00463/laws.FnExactJointsOf", spec := "fnExactJointsOf", unfollowed := true, recurses := true, plainKeys := false, apart := false }
def FnExactJointsOfSaid : Prop := fnExactJointsOfRow.holds Tryz.pinned (OpenSpec.ofChange fnExactJointsOfSpec)

/-- ITS FALSE NEIGHBOUR: 'it returns false'. Refute it at one input. -/
def fnExactJointsOfWrong : ChangeSpec := { name := "fnExactJointsOf", fn := fun _ => fun
  | [d1, d2, d3] => { results := [.lit (.bool false)], args := [d1, d2, d3] }
  | _ => none }
def FnExactJointsOfWrongFalsely : Prop := fnExactJointsOfRow.holds Tryz.pinned (OpenSpec.ofChange fnExactJointsOfWrong)

/- THE SECOND FORM. 'bulk': how many values and letters a reading holds, each counted each time it is reached (what is shared counts as often as it is met; a slice's spare places count too). A statement '..UptoSaid' is the law's where the arguments, and the package variables that the reading takes, are together of bulk at most 1048576: NARROWER than '..Said'. Prove '..Said' where nothing that the law and all that it calls make is longer than what came in: it says more and counts as full. Else prove '..UptoSaid'. A law counts once. -/
mutual
def uptoBulk {H : Type} : DataW H → Nat
  | .lit (.string bytes) => bytes.length + 1
  | .lit _ => 1
  | .nil => 1
  | .ptr d => uptoBulk d + 1
  | .slice elems spare => uptoBulkAll elems + uptoBulkAll spare + 1
  | .agg parts => uptoBulkAll parts + 1
  | .iface _ d => uptoBulk d + 1
  | .map entries => uptoBulkEntries entries + 1
  | .held _ => 1
def uptoBulkAll {H : Type} : List (DataW H) → Nat
  | [] => 0
  | d :: r => uptoBulk d + uptoBulkAll r
def uptoBulkEntries {H : Type} : List (Lit × DataW H) → Nat
  | [] => 0
  | x :: r => uptoBulkEntry x + uptoBulkEntries r
def uptoBulkEntry {H : Type} : Lit × DataW H → Nat
  | (.string bytes, d) => bytes.length + uptoBulk d + 1
  | (_, d) => uptoBulk d + 1
 end
def uptoSmall : (H : Type) → List (DataW H) → Bool := fun _ ds => decide (uptoBulkAll ds ≤ 1048576)
def OpenSpec.upto (s : _root_.Go.ChangeSpec) : _root_.Go.OpenSpec := { _root_.Go.OpenSpec.ofChange s with cond := some uptoSmall }

/-- 'laws.FnExactActOf', WHERE WHAT IT READS IS OF BULK AT MOST 1048576: true; the input reads as it did. -/
def fnExactActOfUptoRow : OpenClaim := { program := "ytkkaogfjlbigmaagreat", sum := "3b479d0673537d5d20d216de013571f5bd033ff22c03a513cbba175408184738", func := "loop.example/g00463/laws.FnExactActOf", spec := "fnExactActOf", unfollowed := true, recurses := true, plainKeys := false, apart := false, narrowed := true }
def FnExactActOfUptoSaid : Prop := fnExactActOfUptoRow.holds Tryz.pinned (OpenSpec.upto fnExactActOfSpec)

/-- 'laws.FnExactUpsOf', WHERE WHAT IT READS IS OF BULK AT MOST 1048576: true; the input reads as it did. -/
def fnExactUpsOfUptoRow : OpenClaim := { program := "ytkkaogfjlbigmaagreat", sum := "3b479d0673537d5d20d216de013571f5bd033ff22c03a513cbba175408184738", func := "loop.example/g00463/laws.FnExactUpsOf", spec := "fnExactUpsOf", unfollowed := true, recurses := true, plainKeys := false, apart := false, narrowed := true }
def FnExactUpsOfUptoSaid : Prop := fnExactUpsOfUptoRow.holds Tryz.pinned (OpenSpec.upto fnExactUpsOfSpec)

/-- 'laws.FnExactJointsOf', WHERE WHAT IT READS IS OF BULK AT MOST 1048576: true; the input reads as it did. -/
def fnExactJointsOfUptoRow : OpenClaim := { program := "ytkkaogfjlbigmaagreat", sum := "3b479d0673537d5d20d216de013571f5bd033ff22c03a513cbba175408184738", func := "loop.example/g00463/laws.FnExactJointsOf", spec := "fnExactJointsOf", unfollowed := true, recurses := true, plainKeys := false, apart := false, narrowed := true }
def FnExactJointsOfUptoSaid : Prop := fnExactJointsOfUptoRow.holds Tryz.pinned (OpenSpec.upto fnExactJointsOfSpec)

end Rows
end Go.Proofs.YtkkaogfjlbigmaaGreat
