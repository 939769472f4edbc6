/-
  No cell of these rows narrows 'for every input' (looked for: loops, veiled, ifaces, maps, wideKeys, modest, calm, conditions, laid).
  DERIVED. THE GIVEN ROWS OF THIS SEAT. 6 by the template 'for every input the law returns true; each argument reads behind the call as it read before'; 0 by the template 'total and deterministic' (their statements: YtblhppnhiaombaaGreatTotals.lean).
  GIVEN WITH THE SEED: the statements are not yours to turn. If you find one false, say at which input.
  Laid BY PROGRAM, IN A SANDBOX (cutbox-rows.mjs): the forced cells as the released guide's own fill.sh prints them over the translation e559e496795664f6… (all of the seat's roots in one cut). By AI agents, Wed Nov 11 2026. No macro, syntax, notation, axiom, sorry.
-/
import Derived.Test.YtblhppnhiaombaaGreatChecked
import GoSem.Claim
import GoSem.ClaimJoined
import GoSem.ClaimMapViews
import Derived.JoinedTies
import Derived.KernelRfl
namespace Go.Proofs.YtblhppnhiaombaaGreat
/- THE CELL 'sum', in the pinned program and in every row, IS THE sha256 OF THE DUMP (.gsa) THAT YtblhppnhiaombaaGreatProg.lean LOADS. Nothing in Lean hashes anything: it is a label: what it is worth is what the hold of that sum in a sandbox is worth. -/
noncomputable def Tryz.pinned : Pinned := { name := "ytblhppnhiaombaagreat", sum := "e559e496795664f6aa8a55ed40cd6842a3dc2bcc19a1a9a05838959f6236cbe5", checked := Tryz.checked }
namespace Rows
def none {H : Type} : Left H := { results := [], args := [] }

/-- 'laws.FnExactDoUnit': WHATEVER THE INPUT: true; the input reads as it did. -/
def fnExactDoUnitSpec : ChangeSpec := { name := "fnExactDoUnit", fn := fun _ => fun
  | [d1, d2] => { results := [.lit (.bool true)], args := [d1, d2] }
  | _ => none }
def fnExactDoUnitRow : OpenClaim := { program := "ytblhppnhiaombaagreat", sum := "e559e496795664f6aa8a55ed40cd6842a3dc2bcc19a1a9a05838959f6236cbe5", func := "loop.example/g00463/laws.FnExactDoUnit", spec := "fnExactDoUnit", unfollowed := true, recurses := true, plainKeys := false, apart := false }
def FnExactDoUnitSaid : Prop := fnExactDoUnitRow.holds Tryz.pinned (OpenSpec.ofChange fnExactDoUnitSpec)

/-- ITS FALSE NEIGHBOUR: 'it returns false'. Refute it at one input. -/
def fnExactDoUnitWrong : ChangeSpec := { name := "fnExactDoUnit", fn := fun _ => fun
  | [d1, d2] => { results := [.lit (.bool false)], args := [d1, d2] }
  | _ => none }
def FnExactDoUnitWrongFalsely : Prop := fnExactDoUnitRow.holds Tryz.pinned (OpenSpec.ofChange fnExactDoUnitWrong)

/-- 'laws.FnExactBaseOf': WHATEVER THE INPUT: true; the input reads as it did. -/
def fnExactBaseOfSpec : ChangeSpec := { name := "fnExactBaseOf", fn := fun _ => fun
  | [d1, d2, d3] => { results := [.lit (.bool true)], args := [d1, d2, d3] }
  | _ => none }
def fnExactBaseOfRow : OpenClaim := { program := "ytblhppnhiaombaagreat", sum := "e559e496795664f6aa8a55ed40cd6842a3dc2bcc19a1a9a05838959f6236cbe5", func := "loop.example/g00463/laws.FnExactBaseOf", spec := "fnExactBaseOf", unfollowed := true, recurses := true, plainKeys := false, apart := false }
def FnExactBaseOfSaid : Prop := fnExactBaseOfRow.holds Tryz.pinned (OpenSpec.ofChange fnExactBaseOfSpec)

/-- ITS FALSE NEIGHBOUR: 'it returns false'. Refute it at one input. -/
def fnExactBaseOfWrong : ChangeSpec := { name := "fnExactBaseOf", fn := fun _ => fun
  | [d1, d2, d3] => { results := [.lit (.bool false)], args := [d1, d2, d3] }
  | _ => none }
def FnExactBaseOfWrongFalsely : Prop := fnExactBaseOfRow.holds Tryz.pinned (OpenSpec.ofChange fnExactBaseOfWrong)

/-- 'laws.FnExactLogOk': WHATEVER THE INPUT: true; the input reads as it did. -/
def fnExactLogOkSpec : ChangeSpec := { name := "fnExactLogOk", fn := fun _ => fun
  | [d] => { results := [.lit (.bool true)], args := [d] }
  | _ => none }
def fnExactLogOkRow : OpenClaim := { program := "ytblhppnhiaombaagreat", sum := "e559e496795664f6aa8a55ed40cd6842a3dc2bcc19a1a9a05838959f6236cbe5", func := "loop.example/g00463/laws.FnExactLogOk", spec := "fnExactLogOk", unfollowed := true, recurses := true, plainKeys := false, apart := false }
def FnExactLogOkSaid : Prop := fnExactLogOkRow.holds Tryz.pinned (OpenSpec.ofChange fnExactLogOkSpec)

/-- ITS FALSE NEIGHBOUR: 'it returns false'. Refute it at one input. -/
def fnExactLogOkWrong : ChangeSpec := { name := "fnExactLogOk", fn := fun _ => fun
  | [d] => { results := [.lit (.bool false)], args := [d] }
  | _ => none }
def FnExactLogOkWrongFalsely : Prop := fnExactLogOkRow.holds Tryz.pinned (OpenSpec.ofChange fnExactLogOkWrong)

/-- 'laws.FnExactFetched': WHATEVER THE INPUT: true; the input reads as it did. -/
def fnExactFetchedSpec : ChangeSpec := { name := "fnExactFetched", fn := fun _ => fun
  | [d1, d2, d3] => { results := [.lit (.bool true)], args := [d1, d2, d3] }
  | _ => none }
def fnExactFetchedRow : OpenClaim := { program := "ytblhppnhiaombaagreat", sum := "e559e496795664f6aa8a55ed40cd6842a3dc2bcc19a1a9a05838959f6236cbe5", func := "loop.example/g00463/laws.FnExactFetched", spec := "fnExactFetched", unfollowed := true, recurses := true, plainKeys := false, apart := false }
def FnExactFetchedSaid : Prop := fnExactFetchedRow.holds Tryz.pinned (OpenSpec.ofChange fnExactFetchedSpec)

/-- ITS FALSE NEIGHBOUR: 'it returns false'. Refute it at one input. -/
def fnExactFetchedWrong : ChangeSpec := { name := "fnExactFetched", fn := fun _ => fun
  | [d1, d2, d3] => { results := [.lit (.bool false)], args := [d1, d2, d3] }
  | _ => none }
def FnExactFetchedWrongFalsely : Prop := fnExactFetchedRow.holds Tryz.pinned (OpenSpec.ofChange fnExactFetchedWrong)

/-- 'laws.FnExactHeard': WHATEVER THE INPUT: true; the input reads as it did. -/
def fnExactHeardSpec : ChangeSpec := { name := "fnExactHeard", fn := fun _ => fun
  | [d1, d2] => { results := [.lit (.bool true)], args := [d1, d2] }
  | _ => none }
def fnExactHeardRow : OpenClaim := { program := "ytblhppnhiaombaagreat", sum := "e559e496795664f6aa8a55ed40cd6842a3dc2bcc19a1a9a05838959f6236cbe5", func := "loop.example/g00463/laws.FnExactHeard", spec := "fnExactHeard", unfollowed := true, recurses := true, plainKeys := false, apart := false }
def FnExactHeardSaid : Prop := fnExactHeardRow.holds Tryz.pinned (OpenSpec.ofChange fnExactHeardSpec)

/-- ITS FALSE NEIGHBOUR: 'it returns false'. Refute it at one input. -/
def fnExactHeardWrong : ChangeSpec := { name := "fnExactHeard", fn := fun _ => fun
  | [d1, d2] => { results := [.lit (.bool false)], args := [d1, d2] }
  | _ => none }
def FnExactHeardWrongFalsely : Prop := fnExactHeardRow.holds Tryz.pinned (OpenSpec.ofChange fnExactHeardWrong)

/-- 'laws.FnExactEdited': WHATEVER THE INPUT: true; the input reads as it did. -/
def fnExactEditedSpec : ChangeSpec := { name := "fnExactEdited", fn := fun _ => fun
  | [d1, d2] => { results := [.lit (.bool true)], args := [d1, d2] }
  | _ => none }
def fnExactEditedRow : OpenClaim := { program := "ytblhppnhiaombaagreat", sum := "e559e496795664f6aa8a55ed40cd6842a3dc2bcc19a1a9a05838959f6236cbe5", func := "loop.example/g00463/laws.FnExactEdited", spec := "fnExactEdited", unfollowed := true, recurses := true, plainKeys := false, apart := false }
def FnExactEditedSaid : Prop := fnExactEditedRow.holds Tryz.pinned (OpenSpec.ofChange fnExactEditedSpec)

/-- ITS FALSE NEIGHBOUR: 'it returns false'. Refute it at one input. -/
def fnExactEditedWrong : ChangeSpec := { name := "fnExactEdited", fn := fun _ => fun
  | [d1, d2] => { results := [.lit (.bool false)], args := [d1, d2] }
  | _ => none }
def FnExactEditedWrongFalsely : Prop := fnExactEditedRow.holds Tryz.pinned (OpenSpec.ofChange fnExactEditedWrong)

/- THE SECOND FORM. 'bulk': how many values and letters a reading holds, each counted each time it is reached (what is shared counts as often as it is met; a slice's spare places count too). A statement '..UptoSaid' is the law's where the arguments, and the package variables that the reading takes, are together of bulk at most 1048576: NARROWER than '..Said'. Prove '..Said' where nothing that the law and all that it calls make is longer than what came in: it says more and counts as full. Else prove '..UptoSaid'. A law counts once. -/
mutual
def uptoBulk {H : Type} : DataW H → Nat
  | .lit (.string bytes) => bytes.length + 1
  | .lit _ => 1
  | .nil => 1
  | .ptr d => uptoBulk d + 1
  | .slice elems spare => uptoBulkAll elems + uptoBulkAll spare + 1
  | .agg parts => uptoBulkAll parts + 1
  | .iface _ d => uptoBulk d + 1
  | .map entries => uptoBulkEntries entries + 1
  | .held _ => 1
def uptoBulkAll {H : Type} : List (DataW H) → Nat
  | [] => 0
  | d :: r => uptoBulk d + uptoBulkAll r
def uptoBulkEntries {H : Type} : List (Lit × DataW H) → Nat
  | [] => 0
  | x :: r => uptoBulkEntry x + uptoBulkEntries r
def uptoBulkEntry {H : Type} : Lit × DataW H → Nat
  | (.string bytes, d) => bytes.length + uptoBulk d + 1
  | (_, d) => uptoBulk d + 1
 end
def uptoSmall : (H : Type) → List (DataW H) → Bool := fun _ ds => decide (uptoBulkAll ds ≤ 1048576)
def OpenSpec.upto (s : _root_.Go.ChangeSpec) : _root_.Go.OpenSpec := { _root_.Go.OpenSpec.ofChange s with cond := some uptoSmall }

/-- 'laws.FnExactDoUnit', WHERE WHAT IT READS IS OF BULK AT MOST 1048576: true; the input reads as it did. -/
def fnExactDoUnitUptoRow : OpenClaim := { program := "ytblhppnhiaombaagreat", sum := "e559e496795664f6aa8a55ed40cd6842a3dc2bcc19a1a9a05838959f6236cbe5", func := "loop.example/g00463/laws.FnExactDoUnit", spec := "fnExactDoUnit", unfollowed := true, recurses := true, plainKeys := false, apart := false, narrowed := true }
def FnExactDoUnitUptoSaid : Prop := fnExactDoUnitUptoRow.holds Tryz.pinned (OpenSpec.upto fnExactDoUnitSpec)

/-- 'laws.FnExactBaseOf', WHERE WHAT IT READS IS OF BULK AT MOST 1048576: true; the input reads as it did. -/
def fnExactBaseOfUptoRow : OpenClaim := { program := "ytblhppnhiaombaagreat", sum := "e559e496795664f6aa8a55ed40cd6842a3dc2bcc19a1a9a05838959f6236cbe5", func := "loop.example/g00463/laws.FnExactBaseOf", spec := "fnExactBaseOf", unfollowed := true, recurses := true, plainKeys := false, apart := false, narrowed := true }
def FnExactBaseOfUptoSaid : Prop := fnExactBaseOfUptoRow.holds Tryz.pinned (OpenSpec.upto fnExactBaseOfSpec)

/-- 'laws.FnExactLogOk', WHERE WHAT IT READS IS OF BULK AT MOST 1048576: true; the input reads as it did. -/
def fnExactLogOkUptoRow : OpenClaim := { program := "ytblhppnhiaombaagreat", sum := "e559e496795664f6aa8a55ed40cd6842a3dc2bcc19a1a9a05838959f6236cbe5", func := "loop.example/g00463/laws.FnExactLogOk", spec := "fnExactLogOk", unfollowed := true, recurses := true, plainKeys := false, apart := false, narrowed := true }
def FnExactLogOkUptoSaid : Prop := fnExactLogOkUptoRow.holds Tryz.pinned (OpenSpec.upto fnExactLogOkSpec)

/-- 'laws.FnExactFetched', WHERE WHAT IT READS IS OF BULK AT MOST 1048576: true; the input reads as it did. -/
def fnExactFetchedUptoRow : OpenClaim := { program := "ytblhppnhiaombaagreat", sum := "e559e496795664f6aa8a55ed40cd6842a3dc2bcc19a1a9a05838959f6236cbe5", func := "loop.example/g00463/laws.FnExactFetched", spec := "fnExactFetched", unfollowed := true, recurses := true, plainKeys := false, apart := false, narrowed := true }
def FnExactFetchedUptoSaid : Prop := fnExactFetchedUptoRow.holds Tryz.pinned (OpenSpec.upto fnExactFetchedSpec)

/-- 'laws.FnExactHeard', WHERE WHAT IT READS IS OF BULK AT MOST 1048576: true; the input reads as it did. -/
def fnExactHeardUptoRow : OpenClaim := { program := "ytblhppnhiaombaagreat", sum := "e559e496795664f6aa8a55ed40cd6842a3dc2bcc19a1a9a05838959f6236cbe5", func := "loop.example/g00463/laws.FnExactHeard", spec := "fnExactHeard", unfollowed := true, recurses := true, plainKeys := false, apart := false, narrowed := true }
def FnExactHeardUptoSaid : Prop := fnExactHeardUptoRow.holds Tryz.pinned (OpenSpec.upto fnExactHeardSpec)

/-- 'laws.FnExactEdited', WHERE WHAT IT READS IS OF BULK AT MOST 1048576: true; the input reads as it did. -/
def fnExactEditedUptoRow : OpenClaim := { program := "ytblhppnhiaombaagreat", sum := "e559e496795664f6aa8a55ed40cd6842a3dc2bcc19a1a9a05838959f6236cbe5", func := "loop.example/g00463/laws.FnExactEdited", spec := "fnExactEdited", unfollowed := true, recurses := true, plainKeys := false, apart := false, narrowed := true }
def FnExactEditedUptoSaid : Prop := fnExactEditedUptoRow.holds Tryz.pinned (OpenSpec.upto fnExactEditedSpec)

end Rows
end Go.Proofs.YtblhppnhiaombaaGreat
