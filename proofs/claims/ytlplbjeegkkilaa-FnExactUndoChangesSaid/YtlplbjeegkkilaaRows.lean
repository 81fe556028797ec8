/-
  No cell of these rows narrows 'for every input' (looked for: loops, veiled, ifaces, maps, wideKeys, modest, calm, conditions, laid).
  DERIVED. THE GIVEN ROWS OF THIS SEAT. 11 by the template 'for every input the law returns true; each argument reads behind the call as it read before'; 0 by the template 'total and deterministic' (their statements: YtlplbjeegkkilaaTotals.lean).
  GIVEN WITH THE SEED: the statements are not yours to turn. If you find one false, say at which input.
  Laid BY PROGRAM, IN A SANDBOX (cutbox-rows.mjs): the forced cells as the released guide's own fill.sh prints them over the translation 4ace961b2c23a415… (all of the seat's roots in one cut). By AI agents, Wed Nov 11 2026. No macro, syntax, notation, axiom, sorry.
-/
import Derived.Test.YtlplbjeegkkilaaChecked
import GoSem.Claim
import GoSem.ClaimJoined
import GoSem.ClaimMapViews
import Derived.JoinedTies
import Derived.KernelRfl
namespace Go.Proofs.Ytlplbjeegkkilaa
/- THE CELL 'sum', in the pinned program and in every row, IS THE sha256 OF THE DUMP (.gsa) THAT YtlplbjeegkkilaaProg.lean LOADS. Nothing in Lean hashes anything: it is a label: what it is worth is what the hold of that sum in a sandbox is worth. -/
noncomputable def Try.pinned : Pinned := { name := "ytlplbjeegkkilaa", sum := "4ace961b2c23a4155be6452b58698d572085226c703e544edc2a458292a9ca51", checked := Try.checked }
namespace Rows
def none {H : Type} : Left H := { results := [], args := [] }

/-- 'laws.FnExactMostChange': WHATEVER THE INPUT: true; the input reads as it did. -/
def fnExactMostChangeSpec : ChangeSpec := { name := "fnExactMostChange", fn := fun _ => fun
  | [d] => { results := [.lit (.bool true)], args := [d] }
  | _ => none }
def fnExactMostChangeRow : OpenClaim := { program := "ytlplbjeegkkilaa", sum := "4ace961b2c23a4155be6452b58698d572085226c703e544edc2a458292a9ca51", func := "loop.example/g01043/laws.FnExactMostChange", spec := "fnExactMostChange", apart := false }
def FnExactMostChangeSaid : Prop := fnExactMostChangeRow.holds Try.pinned (OpenSpec.ofChange fnExactMostChangeSpec)

/-- ITS FALSE NEIGHBOUR: 'it returns false'. Refute it at one input. -/
def fnExactMostChangeWrong : ChangeSpec := { name := "fnExactMostChange", fn := fun _ => fun
  | [d] => { results := [.lit (.bool false)], args := [d] }
  | _ => none }
def FnExactMostChangeWrongFalsely : Prop := fnExactMostChangeRow.holds Try.pinned (OpenSpec.ofChange fnExactMostChangeWrong)

/-- 'laws.FnExactSameChanges': WHATEVER THE INPUT: true; the input reads as it did. -/
def fnExactSameChangesSpec : ChangeSpec := { name := "fnExactSameChanges", fn := fun _ => fun
  | [d1, d2] => { results := [.lit (.bool true)], args := [d1, d2] }
  | _ => none }
def fnExactSameChangesRow : OpenClaim := { program := "ytlplbjeegkkilaa", sum := "4ace961b2c23a4155be6452b58698d572085226c703e544edc2a458292a9ca51", func := "loop.example/g01043/laws.FnExactSameChanges", spec := "fnExactSameChanges", apart := false }
def FnExactSameChangesSaid : Prop := fnExactSameChangesRow.holds Try.pinned (OpenSpec.ofChange fnExactSameChangesSpec)

/-- ITS FALSE NEIGHBOUR: 'it returns false'. Refute it at one input. -/
def fnExactSameChangesWrong : ChangeSpec := { name := "fnExactSameChanges", fn := fun _ => fun
  | [d1, d2] => { results := [.lit (.bool false)], args := [d1, d2] }
  | _ => none }
def FnExactSameChangesWrongFalsely : Prop := fnExactSameChangesRow.holds Try.pinned (OpenSpec.ofChange fnExactSameChangesWrong)

/-- 'laws.FnExactRaiseFor': WHATEVER THE INPUT: true; the input reads as it did. -/
def fnExactRaiseForSpec : ChangeSpec := { name := "fnExactRaiseFor", fn := fun _ => fun
  | [d1, d2, d3, d4] => { results := [.lit (.bool true)], args := [d1, d2, d3, d4] }
  | _ => none }
def fnExactRaiseForRow : OpenClaim := { program := "ytlplbjeegkkilaa", sum := "4ace961b2c23a4155be6452b58698d572085226c703e544edc2a458292a9ca51", func := "loop.example/g01043/laws.FnExactRaiseFor", spec := "fnExactRaiseFor", unfollowed := true, recurses := true, apart := false }
def FnExactRaiseForSaid : Prop := fnExactRaiseForRow.holds Try.pinned (OpenSpec.ofChange fnExactRaiseForSpec)

/-- ITS FALSE NEIGHBOUR: 'it returns false'. Refute it at one input. -/
def fnExactRaiseForWrong : ChangeSpec := { name := "fnExactRaiseFor", fn := fun _ => fun
  | [d1, d2, d3, d4] => { results := [.lit (.bool false)], args := [d1, d2, d3, d4] }
  | _ => none }
def FnExactRaiseForWrongFalsely : Prop := fnExactRaiseForRow.holds Try.pinned (OpenSpec.ofChange fnExactRaiseForWrong)

/-- 'laws.FnExactValidChanges': WHATEVER THE INPUT: true; the input reads as it did. -/
def fnExactValidChangesSpec : ChangeSpec := { name := "fnExactValidChanges", fn := fun _ => fun
  | [d] => { results := [.lit (.bool true)], args := [d] }
  | _ => none }
def fnExactValidChangesRow : OpenClaim := { program := "ytlplbjeegkkilaa", sum := "4ace961b2c23a4155be6452b58698d572085226c703e544edc2a458292a9ca51", func := "loop.example/g01043/laws.FnExactValidChanges", spec := "fnExactValidChanges", unfollowed := true, recurses := true, apart := false }
def FnExactValidChangesSaid : Prop := fnExactValidChangesRow.holds Try.pinned (OpenSpec.ofChange fnExactValidChangesSpec)

/-- ITS FALSE NEIGHBOUR: 'it returns false'. Refute it at one input. -/
def fnExactValidChangesWrong : ChangeSpec := { name := "fnExactValidChanges", fn := fun _ => fun
  | [d] => { results := [.lit (.bool false)], args := [d] }
  | _ => none }
def FnExactValidChangesWrongFalsely : Prop := fnExactValidChangesRow.holds Try.pinned (OpenSpec.ofChange fnExactValidChangesWrong)

/-- 'laws.FnExactFittingsOf': WHATEVER THE INPUT: true; the input reads as it did. -/
def fnExactFittingsOfSpec : ChangeSpec := { name := "fnExactFittingsOf", fn := fun _ => fun
  | [d1, d2] => { results := [.lit (.bool true)], args := [d1, d2] }
  | _ => none }
def fnExactFittingsOfRow : OpenClaim := { program := "ytlplbjeegkkilaa", sum := "4ace961b2c23a4155be6452b58698d572085226c703e544edc2a458292a9ca51", func := "loop.example/g01043/laws.FnExactFittingsOf", spec := "fnExactFittingsOf", apart := false }
def FnExactFittingsOfSaid : Prop := fnExactFittingsOfRow.holds Try.pinned (OpenSpec.ofChange fnExactFittingsOfSpec)

/-- ITS FALSE NEIGHBOUR: 'it returns false'. Refute it at one input. -/
def fnExactFittingsOfWrong : ChangeSpec := { name := "fnExactFittingsOf", fn := fun _ => fun
  | [d1, d2] => { results := [.lit (.bool false)], args := [d1, d2] }
  | _ => none }
def FnExactFittingsOfWrongFalsely : Prop := fnExactFittingsOfRow.holds Try.pinned (OpenSpec.ofChange fnExactFittingsOfWrong)

/-- 'laws.FnExactFirstClash': WHATEVER THE INPUT: true; the input reads as it did. -/
def fnExactFirstClashSpec : ChangeSpec := { name := "fnExactFirstClash", fn := fun _ => fun
  | [d] => { results := [.lit (.bool true)], args := [d] }
  | _ => none }
def fnExactFirstClashRow : OpenClaim := { program := "ytlplbjeegkkilaa", sum := "4ace961b2c23a4155be6452b58698d572085226c703e544edc2a458292a9ca51", func := "loop.example/g01043/laws.FnExactFirstClash", spec := "fnExactFirstClash", unfollowed := true, recurses := true, apart := false }
def FnExactFirstClashSaid : Prop := fnExactFirstClashRow.holds Try.pinned (OpenSpec.ofChange fnExactFirstClashSpec)

/-- ITS FALSE NEIGHBOUR: 'it returns false'. Refute it at one input. -/
def fnExactFirstClashWrong : ChangeSpec := { name := "fnExactFirstClash", fn := fun _ => fun
  | [d] => { results := [.lit (.bool false)], args := [d] }
  | _ => none }
def FnExactFirstClashWrongFalsely : Prop := fnExactFirstClashRow.holds Try.pinned (OpenSpec.ofChange fnExactFirstClashWrong)

/-- 'laws.FnFittings': WHATEVER THE INPUT: true; the input reads as it did. -/
def fnFittingsSpec : ChangeSpec := { name := "fnFittings", fn := fun _ => fun
  | [d1, d2] => { results := [.lit (.bool true)], args := [d1, d2] }
  | _ => none }
def fnFittingsRow : OpenClaim := { program := "ytlplbjeegkkilaa", sum := "4ace961b2c23a4155be6452b58698d572085226c703e544edc2a458292a9ca51", func := "loop.example/g01043/laws.FnFittings", spec := "fnFittings", unfollowed := true, recurses := true, apart := false }
def FnFittingsSaid : Prop := fnFittingsRow.holds Try.pinned (OpenSpec.ofChange fnFittingsSpec)

/-- ITS FALSE NEIGHBOUR: 'it returns false'. Refute it at one input. -/
def fnFittingsWrong : ChangeSpec := { name := "fnFittings", fn := fun _ => fun
  | [d1, d2] => { results := [.lit (.bool false)], args := [d1, d2] }
  | _ => none }
def FnFittingsWrongFalsely : Prop := fnFittingsRow.holds Try.pinned (OpenSpec.ofChange fnFittingsWrong)

/-- 'laws.FnExactUndoChanges': WHATEVER THE INPUT: true; the input reads as it did. -/
def fnExactUndoChangesSpec : ChangeSpec := { name := "fnExactUndoChanges", fn := fun _ => fun
  | [d] => { results := [.lit (.bool true)], args := [d] }
  | _ => none }
def fnExactUndoChangesRow : OpenClaim := { program := "ytlplbjeegkkilaa", sum := "4ace961b2c23a4155be6452b58698d572085226c703e544edc2a458292a9ca51", func := "loop.example/g01043/laws.FnExactUndoChanges", spec := "fnExactUndoChanges", unfollowed := true, recurses := true, apart := false }
def FnExactUndoChangesSaid : Prop := fnExactUndoChangesRow.holds Try.pinned (OpenSpec.ofChange fnExactUndoChangesSpec)

/-- ITS FALSE NEIGHBOUR: 'it returns false'. Refute it at one input. -/
def fnExactUndoChangesWrong : ChangeSpec := { name := "fnExactUndoChanges", fn := fun _ => fun
  | [d] => { results := [.lit (.bool false)], args := [d] }
  | _ => none }
def FnExactUndoChangesWrongFalsely : Prop := fnExactUndoChangesRow.holds Try.pinned (OpenSpec.ofChange fnExactUndoChangesWrong)

/-- 'laws.FnExactMergeChanges': WHATEVER THE INPUT: true; the input reads as it did. -/
def fnExactMergeChangesSpec : ChangeSpec := { name := "fnExactMergeChanges", fn := fun _ => fun
  | [d] => { results := [.lit (.bool true)], args := [d] }
  | _ => none }
def fnExactMergeChangesRow : OpenClaim := { program := "ytlplbjeegkkilaa", sum := "4ace961b2c23a4155be6452b58698d572085226c703e544edc2a458292a9ca51", func := "loop.example/g01043/laws.FnExactMergeChanges", spec := "fnExactMergeChanges", unfollowed := true, recurses := true, apart := false }
def FnExactMergeChangesSaid : Prop := fnExactMergeChangesRow.holds Try.pinned (OpenSpec.ofChange fnExactMergeChangesSpec)

/-- ITS FALSE NEIGHBOUR: 'it returns false'. Refute it at one input. -/
def fnExactMergeChangesWrong : ChangeSpec := { name := "fnExactMergeChanges", fn := fun _ => fun
  | [d] => { results := [.lit (.bool false)], args := [d] }
  | _ => none }
def FnExactMergeChangesWrongFalsely : Prop := fnExactMergeChangesRow.holds Try.pinned (OpenSpec.ofChange fnExactMergeChangesWrong)

/-- 'laws.FnExactChangesBetween': WHATEVER THE INPUT: true; the input reads as it did. -/
def fnExactChangesBetweenSpec : ChangeSpec := { name := "fnExactChangesBetween", fn := fun _ => fun
  | [d1, d2] => { results := [.lit (.bool true)], args := [d1, d2] }
  | _ => none }
def fnExactChangesBetweenRow : OpenClaim := { program := "ytlplbjeegkkilaa", sum := "4ace961b2c23a4155be6452b58698d572085226c703e544edc2a458292a9ca51", func := "loop.example/g01043/laws.FnExactChangesBetween", spec := "fnExactChangesBetween", unfollowed := true, recurses := true, apart := false }
def FnExactChangesBetweenSaid : Prop := fnExactChangesBetweenRow.holds Try.pinned (OpenSpec.ofChange fnExactChangesBetweenSpec)

/-- ITS FALSE NEIGHBOUR: 'it returns false'. Refute it at one input. -/
def fnExactChangesBetweenWrong : ChangeSpec := { name := "fnExactChangesBetween", fn := fun _ => fun
  | [d1, d2] => { results := [.lit (.bool false)], args := [d1, d2] }
  | _ => none }
def FnExactChangesBetweenWrongFalsely : Prop := fnExactChangesBetweenRow.holds Try.pinned (OpenSpec.ofChange fnExactChangesBetweenWrong)

/-- 'laws.FnExactApplyChanges': WHATEVER THE INPUT: true; the input reads as it did. -/
def fnExactApplyChangesSpec : ChangeSpec := { name := "fnExactApplyChanges", fn := fun _ => fun
  | [d1, d2] => { results := [.lit (.bool true)], args := [d1, d2] }
  | _ => none }
def fnExactApplyChangesRow : OpenClaim := { program := "ytlplbjeegkkilaa", sum := "4ace961b2c23a4155be6452b58698d572085226c703e544edc2a458292a9ca51", func := "loop.example/g01043/laws.FnExactApplyChanges", spec := "fnExactApplyChanges", unfollowed := true, recurses := true, apart := false }
def FnExactApplyChangesSaid : Prop := fnExactApplyChangesRow.holds Try.pinned (OpenSpec.ofChange fnExactApplyChangesSpec)

/-- ITS FALSE NEIGHBOUR: 'it returns false'. Refute it at one input. -/
def fnExactApplyChangesWrong : ChangeSpec := { name := "fnExactApplyChanges", fn := fun _ => fun
  | [d1, d2] => { results := [.lit (.bool false)], args := [d1, d2] }
  | _ => none }
def FnExactApplyChangesWrongFalsely : Prop := fnExactApplyChangesRow.holds Try.pinned (OpenSpec.ofChange fnExactApplyChangesWrong)

/- THE SECOND FORM. 'bulk': how many values and letters a reading holds, each counted each time it is reached (what is shared counts as often as it is met; a slice's spare places count too). A statement '..UptoSaid' is the law's where the arguments, and the package variables that the reading takes, are together of bulk at most 1048576: NARROWER than '..Said'. Prove '..Said' where nothing that the law and all that it calls make is longer than what came in: it says more and counts as full. Else prove '..UptoSaid'. A law counts once. -/
mutual
def uptoBulk {H : Type} : DataW H → Nat
  | .lit (.string bytes) => bytes.length + 1
  | .lit _ => 1
  | .nil => 1
  | .ptr d => uptoBulk d + 1
  | .slice elems spare => uptoBulkAll elems + uptoBulkAll spare + 1
  | .agg parts => uptoBulkAll parts + 1
  | .iface _ d => uptoBulk d + 1
  | .map entries => uptoBulkEntries entries + 1
  | .held _ => 1
def uptoBulkAll {H : Type} : List (DataW H) → Nat
  | [] => 0
  | d :: r => uptoBulk d + uptoBulkAll r
def uptoBulkEntries {H : Type} : List (Lit × DataW H) → Nat
  | [] => 0
  | x :: r => uptoBulkEntry x + uptoBulkEntries r
def uptoBulkEntry {H : Type} : Lit × DataW H → Nat
  | (.string bytes, d) => bytes.length + uptoBulk d + 1
  | (_, d) => uptoBulk d + 1
 end
def uptoSmall : (H : Type) → List (DataW H) → Bool := fun _ ds => decide (uptoBulkAll ds ≤ 1048576)
def OpenSpec.upto (s : _root_.Go.ChangeSpec) : _root_.Go.OpenSpec := { _root_.Go.OpenSpec.ofChange s with cond := some uptoSmall }

/-- 'laws.FnExactMostChange', WHERE WHAT IT READS IS OF BULK AT MOST 1048576: true; the input reads as it did. -/
def fnExactMostChangeUptoRow : OpenClaim := { program := "ytlplbjeegkkilaa", sum := "4ace961b2c23a4155be6452b58698d572085226c703e544edc2a458292a9ca51", func := "loop.example/g01043/laws.FnExactMostChange", spec := "fnExactMostChange", apart := false, narrowed := true }
def FnExactMostChangeUptoSaid : Prop := fnExactMostChangeUptoRow.holds Try.pinned (OpenSpec.upto fnExactMostChangeSpec)

/-- 'laws.FnExactSameChanges', WHERE WHAT IT READS IS OF BULK AT MOST 1048576: true; the input reads as it did. -/
def fnExactSameChangesUptoRow : OpenClaim := { program := "ytlplbjeegkkilaa", sum := "4ace961b2c23a4155be6452b58698d572085226c703e544edc2a458292a9ca51", func := "loop.example/g01043/laws.FnExactSameChanges", spec := "fnExactSameChanges", apart := false, narrowed := true }
def FnExactSameChangesUptoSaid : Prop := fnExactSameChangesUptoRow.holds Try.pinned (OpenSpec.upto fnExactSameChangesSpec)

/-- 'laws.FnExactRaiseFor', WHERE WHAT IT READS IS OF BULK AT MOST 1048576: true; the input reads as it did. -/
def fnExactRaiseForUptoRow : OpenClaim := { program := "ytlplbjeegkkilaa", sum := "4ace961b2c23a4155be6452b58698d572085226c703e544edc2a458292a9ca51", func := "loop.example/g01043/laws.FnExactRaiseFor", spec := "fnExactRaiseFor", unfollowed := true, recurses := true, apart := false, narrowed := true }
def FnExactRaiseForUptoSaid : Prop := fnExactRaiseForUptoRow.holds Try.pinned (OpenSpec.upto fnExactRaiseForSpec)

/-- 'laws.FnExactValidChanges', WHERE WHAT IT READS IS OF BULK AT MOST 1048576: true; the input reads as it did. -/
def fnExactValidChangesUptoRow : OpenClaim := { program := "ytlplbjeegkkilaa", sum := "4ace961b2c23a4155be6452b58698d572085226c703e544edc2a458292a9ca51", func := "loop.example/g01043/laws.FnExactValidChanges", spec := "fnExactValidChanges", unfollowed := true, recurses := true, apart := false, narrowed := true }
def FnExactValidChangesUptoSaid : Prop := fnExactValidChangesUptoRow.holds Try.pinned (OpenSpec.upto fnExactValidChangesSpec)

/-- 'laws.FnExactFittingsOf', WHERE WHAT IT READS IS OF BULK AT MOST 1048576: true; the input reads as it did. -/
def fnExactFittingsOfUptoRow : OpenClaim := { program := "ytlplbjeegkkilaa", sum := "4ace961b2c23a4155be6452b58698d572085226c703e544edc2a458292a9ca51", func := "loop.example/g01043/laws.FnExactFittingsOf", spec := "fnExactFittingsOf", apart := false, narrowed := true }
def FnExactFittingsOfUptoSaid : Prop := fnExactFittingsOfUptoRow.holds Try.pinned (OpenSpec.upto fnExactFittingsOfSpec)

/-- 'laws.FnExactFirstClash', WHERE WHAT IT READS IS OF BULK AT MOST 1048576: true; the input reads as it did. -/
def fnExactFirstClashUptoRow : OpenClaim := { program := "ytlplbjeegkkilaa", sum := "4ace961b2c23a4155be6452b58698d572085226c703e544edc2a458292a9ca51", func := "loop.example/g01043/laws.FnExactFirstClash", spec := "fnExactFirstClash", unfollowed := true, recurses := true, apart := false, narrowed := true }
def FnExactFirstClashUptoSaid : Prop := fnExactFirstClashUptoRow.holds Try.pinned (OpenSpec.upto fnExactFirstClashSpec)

/-- 'laws.FnFittings', WHERE WHAT IT READS IS OF BULK AT MOST 1048576: true; the input reads as it did. -/
def fnFittingsUptoRow : OpenClaim := { program := "ytlplbjeegkkilaa", sum := "4ace961b2c23a4155be6452b58698d572085226c703e544edc2a458292a9ca51", func := "loop.example/g01043/laws.FnFittings", spec := "fnFittings", unfollowed := true, recurses := true, apart := false, narrowed := true }
def FnFittingsUptoSaid : Prop := fnFittingsUptoRow.holds Try.pinned (OpenSpec.upto fnFittingsSpec)

/-- 'laws.FnExactUndoChanges', WHERE WHAT IT READS IS OF BULK AT MOST 1048576: true; the input reads as it did. -/
def fnExactUndoChangesUptoRow : OpenClaim := { program := "ytlplbjeegkkilaa", sum := "4ace961b2c23a4155be6452b58698d572085226c703e544edc2a458292a9ca51", func := "loop.example/g01043/laws.FnExactUndoChanges", spec := "fnExactUndoChanges", unfollowed := true, recurses := true, apart := false, narrowed := true }
def FnExactUndoChangesUptoSaid : Prop := fnExactUndoChangesUptoRow.holds Try.pinned (OpenSpec.upto fnExactUndoChangesSpec)

/-- 'laws.FnExactMergeChanges', WHERE WHAT IT READS IS OF BULK AT MOST 1048576: true; the input reads as it did. -/
def fnExactMergeChangesUptoRow : OpenClaim := { program := "ytlplbjeegkkilaa", sum := "4ace961b2c23a4155be6452b58698d572085226c703e544edc2a458292a9ca51", func := "loop.example/g01043/laws.FnExactMergeChanges", spec := "fnExactMergeChanges", unfollowed := true, recurses := true, apart := false, narrowed := true }
def FnExactMergeChangesUptoSaid : Prop := fnExactMergeChangesUptoRow.holds Try.pinned (OpenSpec.upto fnExactMergeChangesSpec)

/-- 'laws.FnExactChangesBetween', WHERE WHAT IT READS IS OF BULK AT MOST 1048576: true; the input reads as it did. -/
def fnExactChangesBetweenUptoRow : OpenClaim := { program := "ytlplbjeegkkilaa", sum := "4ace961b2c23a4155be6452b58698d572085226c703e544edc2a458292a9ca51", func := "loop.example/g01043/laws.FnExactChangesBetween", spec := "fnExactChangesBetween", unfollowed := true, recurses := true, apart := false, narrowed := true }
def FnExactChangesBetweenUptoSaid : Prop := fnExactChangesBetweenUptoRow.holds Try.pinned (OpenSpec.upto fnExactChangesBetweenSpec)

/-- 'laws.FnExactApplyChanges', WHERE WHAT IT READS IS OF BULK AT MOST 1048576: true; the input reads as it did. -/
def fnExactApplyChangesUptoRow : OpenClaim := { program := "ytlplbjeegkkilaa", sum := "4ace961b2c23a4155be6452b58698d572085226c703e544edc2a458292a9ca51", func := "loop.example/g01043/laws.FnExactApplyChanges", spec := "fnExactApplyChanges", unfollowed := true, recurses := true, apart := false, narrowed := true }
def FnExactApplyChangesUptoSaid : Prop := fnExactApplyChangesUptoRow.holds Try.pinned (OpenSpec.upto fnExactApplyChangesSpec)

end Rows
end Go.Proofs.Ytlplbjeegkkilaa
