/-
  No cell of these rows narrows 'for every input' (looked for: loops, veiled, ifaces, maps, wideKeys, modest, calm, conditions, laid).
  DERIVED. THE GIVEN ROWS OF THIS SEAT. 12 by the template 'for every input the law returns true; each argument reads behind the call as it read before'; 0 by the template 'total and deterministic' (their statements: YtoljnpoiclklpaaTotals.lean).
  GIVEN WITH THE SEED: the statements are not yours to turn. If you find one false, say at which input.
  Laid BY PROGRAM, IN A SANDBOX (cutbox-rows.mjs): the forced cells as the released guide's own fill.sh prints them over the translation 755c0ae9398ed795… (all of the seat's roots in one cut). By AI agents, Wed Nov 11 2026. No macro, syntax, notation, axiom, sorry.
-/
import Derived.Test.YtoljnpoiclklpaaChecked
import GoSem.Claim
import GoSem.ClaimJoined
import GoSem.ClaimMapViews
import Derived.JoinedTies
import Derived.KernelRfl
namespace Go.Proofs.Ytoljnpoiclklpaa
/- THE CELL 'sum', in the pinned program and in every row, IS THE sha256 OF THE DUMP (.gsa) THAT YtoljnpoiclklpaaProg.lean LOADS. Nothing in Lean hashes anything: it is a label: what it is worth is what the hold of that sum in a sandbox is worth. -/
noncomputable def Try.pinned : Pinned := { name := "ytoljnpoiclklpaa", sum := "755c0ae9398ed79538f27067569944599a0f6bf5fe75ab644356fd7795998b5d", checked := Try.checked }
namespace Rows
def none {H : Type} : Left H := { results := [], args := [] }

/-- 'laws.FnExactValidWear': WHATEVER THE INPUT: true; the input reads as it did. -/
def fnExactValidWearSpec : ChangeSpec := { name := "fnExactValidWear", fn := fun _ => fun
  | [d] => { results := [.lit (.bool true)], args := [d] }
  | _ => none }
def fnExactValidWearRow : OpenClaim := { program := "ytoljnpoiclklpaa", sum := "755c0ae9398ed79538f27067569944599a0f6bf5fe75ab644356fd7795998b5d", func := "loop.example/g01043/laws.FnExactValidWear", spec := "fnExactValidWear", apart := false }
def FnExactValidWearSaid : Prop := fnExactValidWearRow.holds Try.pinned (OpenSpec.ofChange fnExactValidWearSpec)

/-- ITS FALSE NEIGHBOUR: 'it returns false'. Refute it at one input. -/
def fnExactValidWearWrong : ChangeSpec := { name := "fnExactValidWear", fn := fun _ => fun
  | [d] => { results := [.lit (.bool false)], args := [d] }
  | _ => none }
def FnExactValidWearWrongFalsely : Prop := fnExactValidWearRow.holds Try.pinned (OpenSpec.ofChange fnExactValidWearWrong)

/-- 'laws.FnExactWornFields': WHATEVER THE INPUT: true; the input reads as it did. -/
def fnExactWornFieldsSpec : ChangeSpec := { name := "fnExactWornFields", fn := fun _ => fun
  | [d1, d2] => { results := [.lit (.bool true)], args := [d1, d2] }
  | _ => none }
def fnExactWornFieldsRow : OpenClaim := { program := "ytoljnpoiclklpaa", sum := "755c0ae9398ed79538f27067569944599a0f6bf5fe75ab644356fd7795998b5d", func := "loop.example/g01043/laws.FnExactWornFields", spec := "fnExactWornFields", apart := false }
def FnExactWornFieldsSaid : Prop := fnExactWornFieldsRow.holds Try.pinned (OpenSpec.ofChange fnExactWornFieldsSpec)

/-- ITS FALSE NEIGHBOUR: 'it returns false'. Refute it at one input. -/
def fnExactWornFieldsWrong : ChangeSpec := { name := "fnExactWornFields", fn := fun _ => fun
  | [d1, d2] => { results := [.lit (.bool false)], args := [d1, d2] }
  | _ => none }
def FnExactWornFieldsWrongFalsely : Prop := fnExactWornFieldsRow.holds Try.pinned (OpenSpec.ofChange fnExactWornFieldsWrong)

/-- 'laws.FnExactMirrorWear': WHATEVER THE INPUT: true; the input reads as it did. -/
def fnExactMirrorWearSpec : ChangeSpec := { name := "fnExactMirrorWear", fn := fun _ => fun
  | [d] => { results := [.lit (.bool true)], args := [d] }
  | _ => none }
def fnExactMirrorWearRow : OpenClaim := { program := "ytoljnpoiclklpaa", sum := "755c0ae9398ed79538f27067569944599a0f6bf5fe75ab644356fd7795998b5d", func := "loop.example/g01043/laws.FnExactMirrorWear", spec := "fnExactMirrorWear", apart := false }
def FnExactMirrorWearSaid : Prop := fnExactMirrorWearRow.holds Try.pinned (OpenSpec.ofChange fnExactMirrorWearSpec)

/-- ITS FALSE NEIGHBOUR: 'it returns false'. Refute it at one input. -/
def fnExactMirrorWearWrong : ChangeSpec := { name := "fnExactMirrorWear", fn := fun _ => fun
  | [d] => { results := [.lit (.bool false)], args := [d] }
  | _ => none }
def FnExactMirrorWearWrongFalsely : Prop := fnExactMirrorWearRow.holds Try.pinned (OpenSpec.ofChange fnExactMirrorWearWrong)

/-- 'laws.FnExactAddWear': WHATEVER THE INPUT: true; the input reads as it did. -/
def fnExactAddWearSpec : ChangeSpec := { name := "fnExactAddWear", fn := fun _ => fun
  | [d1, d2] => { results := [.lit (.bool true)], args := [d1, d2] }
  | _ => none }
def fnExactAddWearRow : OpenClaim := { program := "ytoljnpoiclklpaa", sum := "755c0ae9398ed79538f27067569944599a0f6bf5fe75ab644356fd7795998b5d", func := "loop.example/g01043/laws.FnExactAddWear", spec := "fnExactAddWear", apart := false }
def FnExactAddWearSaid : Prop := fnExactAddWearRow.holds Try.pinned (OpenSpec.ofChange fnExactAddWearSpec)

/-- ITS FALSE NEIGHBOUR: 'it returns false'. Refute it at one input. -/
def fnExactAddWearWrong : ChangeSpec := { name := "fnExactAddWear", fn := fun _ => fun
  | [d1, d2] => { results := [.lit (.bool false)], args := [d1, d2] }
  | _ => none }
def FnExactAddWearWrongFalsely : Prop := fnExactAddWearRow.holds Try.pinned (OpenSpec.ofChange fnExactAddWearWrong)

/-- 'laws.FnExactCentreOfWear': WHATEVER THE INPUT: true; the input reads as it did. -/
def fnExactCentreOfWearSpec : ChangeSpec := { name := "fnExactCentreOfWear", fn := fun _ => fun
  | [d] => { results := [.lit (.bool true)], args := [d] }
  | _ => none }
def fnExactCentreOfWearRow : OpenClaim := { program := "ytoljnpoiclklpaa", sum := "755c0ae9398ed79538f27067569944599a0f6bf5fe75ab644356fd7795998b5d", func := "loop.example/g01043/laws.FnExactCentreOfWear", spec := "fnExactCentreOfWear", apart := false }
def FnExactCentreOfWearSaid : Prop := fnExactCentreOfWearRow.holds Try.pinned (OpenSpec.ofChange fnExactCentreOfWearSpec)

/-- ITS FALSE NEIGHBOUR: 'it returns false'. Refute it at one input. -/
def fnExactCentreOfWearWrong : ChangeSpec := { name := "fnExactCentreOfWear", fn := fun _ => fun
  | [d] => { results := [.lit (.bool false)], args := [d] }
  | _ => none }
def FnExactCentreOfWearWrongFalsely : Prop := fnExactCentreOfWearRow.holds Try.pinned (OpenSpec.ofChange fnExactCentreOfWearWrong)

/-- 'laws.FnExactDiagnoseWear': WHATEVER THE INPUT: true; the input reads as it did. -/
def fnExactDiagnoseWearSpec : ChangeSpec := { name := "fnExactDiagnoseWear", fn := fun _ => fun
  | [d] => { results := [.lit (.bool true)], args := [d] }
  | _ => none }
def fnExactDiagnoseWearRow : OpenClaim := { program := "ytoljnpoiclklpaa", sum := "755c0ae9398ed79538f27067569944599a0f6bf5fe75ab644356fd7795998b5d", func := "loop.example/g01043/laws.FnExactDiagnoseWear", spec := "fnExactDiagnoseWear", apart := false }
def FnExactDiagnoseWearSaid : Prop := fnExactDiagnoseWearRow.holds Try.pinned (OpenSpec.ofChange fnExactDiagnoseWearSpec)

/-- ITS FALSE NEIGHBOUR: 'it returns false'. Refute it at one input. -/
def fnExactDiagnoseWearWrong : ChangeSpec := { name := "fnExactDiagnoseWear", fn := fun _ => fun
  | [d] => { results := [.lit (.bool false)], args := [d] }
  | _ => none }
def FnExactDiagnoseWearWrongFalsely : Prop := fnExactDiagnoseWearRow.holds Try.pinned (OpenSpec.ofChange fnExactDiagnoseWearWrong)

/-- 'laws.FnExactQuarterSums': WHATEVER THE INPUT: true; the input reads as it did. -/
def fnExactQuarterSumsSpec : ChangeSpec := { name := "fnExactQuarterSums", fn := fun _ => fun
  | [d] => { results := [.lit (.bool true)], args := [d] }
  | _ => none }
def fnExactQuarterSumsRow : OpenClaim := { program := "ytoljnpoiclklpaa", sum := "755c0ae9398ed79538f27067569944599a0f6bf5fe75ab644356fd7795998b5d", func := "loop.example/g01043/laws.FnExactQuarterSums", spec := "fnExactQuarterSums", apart := false }
def FnExactQuarterSumsSaid : Prop := fnExactQuarterSumsRow.holds Try.pinned (OpenSpec.ofChange fnExactQuarterSumsSpec)

/-- ITS FALSE NEIGHBOUR: 'it returns false'. Refute it at one input. -/
def fnExactQuarterSumsWrong : ChangeSpec := { name := "fnExactQuarterSums", fn := fun _ => fun
  | [d] => { results := [.lit (.bool false)], args := [d] }
  | _ => none }
def FnExactQuarterSumsWrongFalsely : Prop := fnExactQuarterSumsRow.holds Try.pinned (OpenSpec.ofChange fnExactQuarterSumsWrong)

/-- 'laws.FnExactPatchFor': WHATEVER THE INPUT: true; the input reads as it did. -/
def fnExactPatchForSpec : ChangeSpec := { name := "fnExactPatchFor", fn := fun _ => fun
  | [d1, d2] => { results := [.lit (.bool true)], args := [d1, d2] }
  | _ => none }
def fnExactPatchForRow : OpenClaim := { program := "ytoljnpoiclklpaa", sum := "755c0ae9398ed79538f27067569944599a0f6bf5fe75ab644356fd7795998b5d", func := "loop.example/g01043/laws.FnExactPatchFor", spec := "fnExactPatchFor", apart := false }
def FnExactPatchForSaid : Prop := fnExactPatchForRow.holds Try.pinned (OpenSpec.ofChange fnExactPatchForSpec)

/-- ITS FALSE NEIGHBOUR: 'it returns false'. Refute it at one input. -/
def fnExactPatchForWrong : ChangeSpec := { name := "fnExactPatchFor", fn := fun _ => fun
  | [d1, d2] => { results := [.lit (.bool false)], args := [d1, d2] }
  | _ => none }
def FnExactPatchForWrongFalsely : Prop := fnExactPatchForRow.holds Try.pinned (OpenSpec.ofChange fnExactPatchForWrong)

/-- 'laws.FnWearSides': WHATEVER THE INPUT: true; the input reads as it did. -/
def fnWearSidesSpec : ChangeSpec := { name := "fnWearSides", fn := fun _ => fun
  | [d] => { results := [.lit (.bool true)], args := [d] }
  | _ => none }
def fnWearSidesRow : OpenClaim := { program := "ytoljnpoiclklpaa", sum := "755c0ae9398ed79538f27067569944599a0f6bf5fe75ab644356fd7795998b5d", func := "loop.example/g01043/laws.FnWearSides", spec := "fnWearSides", apart := false }
def FnWearSidesSaid : Prop := fnWearSidesRow.holds Try.pinned (OpenSpec.ofChange fnWearSidesSpec)

/-- ITS FALSE NEIGHBOUR: 'it returns false'. Refute it at one input. -/
def fnWearSidesWrong : ChangeSpec := { name := "fnWearSides", fn := fun _ => fun
  | [d] => { results := [.lit (.bool false)], args := [d] }
  | _ => none }
def FnWearSidesWrongFalsely : Prop := fnWearSidesRow.holds Try.pinned (OpenSpec.ofChange fnWearSidesWrong)

/-- 'laws.FnExactStrangeFields': WHATEVER THE INPUT: true; the input reads as it did. -/
def fnExactStrangeFieldsSpec : ChangeSpec := { name := "fnExactStrangeFields", fn := fun _ => fun
  | [d1, d2, d3] => { results := [.lit (.bool true)], args := [d1, d2, d3] }
  | _ => none }
def fnExactStrangeFieldsRow : OpenClaim := { program := "ytoljnpoiclklpaa", sum := "755c0ae9398ed79538f27067569944599a0f6bf5fe75ab644356fd7795998b5d", func := "loop.example/g01043/laws.FnExactStrangeFields", spec := "fnExactStrangeFields", apart := false }
def FnExactStrangeFieldsSaid : Prop := fnExactStrangeFieldsRow.holds Try.pinned (OpenSpec.ofChange fnExactStrangeFieldsSpec)

/-- ITS FALSE NEIGHBOUR: 'it returns false'. Refute it at one input. -/
def fnExactStrangeFieldsWrong : ChangeSpec := { name := "fnExactStrangeFields", fn := fun _ => fun
  | [d1, d2, d3] => { results := [.lit (.bool false)], args := [d1, d2, d3] }
  | _ => none }
def FnExactStrangeFieldsWrongFalsely : Prop := fnExactStrangeFieldsRow.holds Try.pinned (OpenSpec.ofChange fnExactStrangeFieldsWrong)

/-- 'laws.FnExactWornAreas': WHATEVER THE INPUT: true; the input reads as it did. -/
def fnExactWornAreasSpec : ChangeSpec := { name := "fnExactWornAreas", fn := fun _ => fun
  | [d1, d2] => { results := [.lit (.bool true)], args := [d1, d2] }
  | _ => none }
def fnExactWornAreasRow : OpenClaim := { program := "ytoljnpoiclklpaa", sum := "755c0ae9398ed79538f27067569944599a0f6bf5fe75ab644356fd7795998b5d", func := "loop.example/g01043/laws.FnExactWornAreas", spec := "fnExactWornAreas", recurses := true, apart := false }
def FnExactWornAreasSaid : Prop := fnExactWornAreasRow.holds Try.pinned (OpenSpec.ofChange fnExactWornAreasSpec)

/-- ITS FALSE NEIGHBOUR: 'it returns false'. Refute it at one input. -/
def fnExactWornAreasWrong : ChangeSpec := { name := "fnExactWornAreas", fn := fun _ => fun
  | [d1, d2] => { results := [.lit (.bool false)], args := [d1, d2] }
  | _ => none }
def FnExactWornAreasWrongFalsely : Prop := fnExactWornAreasRow.holds Try.pinned (OpenSpec.ofChange fnExactWornAreasWrong)

/-- 'laws.FnWearAreas': WHATEVER THE INPUT: true; the input reads as it did. -/
def fnWearAreasSpec : ChangeSpec := { name := "fnWearAreas", fn := fun _ => fun
  | [d1, d2] => { results := [.lit (.bool true)], args := [d1, d2] }
  | _ => none }
def fnWearAreasRow : OpenClaim := { program := "ytoljnpoiclklpaa", sum := "755c0ae9398ed79538f27067569944599a0f6bf5fe75ab644356fd7795998b5d", func := "loop.example/g01043/laws.FnWearAreas", spec := "fnWearAreas", recurses := true, apart := false }
def FnWearAreasSaid : Prop := fnWearAreasRow.holds Try.pinned (OpenSpec.ofChange fnWearAreasSpec)

/-- ITS FALSE NEIGHBOUR: 'it returns false'. Refute it at one input. -/
def fnWearAreasWrong : ChangeSpec := { name := "fnWearAreas", fn := fun _ => fun
  | [d1, d2] => { results := [.lit (.bool false)], args := [d1, d2] }
  | _ => none }
def FnWearAreasWrongFalsely : Prop := fnWearAreasRow.holds Try.pinned (OpenSpec.ofChange fnWearAreasWrong)

/- THE SECOND FORM. 'bulk': how many values and letters a reading holds, each counted each time it is reached (what is shared counts as often as it is met; a slice's spare places count too). A statement '..UptoSaid' is the law's where the arguments, and the package variables that the reading takes, are together of bulk at most 1048576: NARROWER than '..Said'. Prove '..Said' where nothing that the law and all that it calls make is longer than what came in: it says more and counts as full. Else prove '..UptoSaid'. A law counts once. -/
mutual
def uptoBulk {H : Type} : DataW H → Nat
  | .lit (.string bytes) => bytes.length + 1
  | .lit _ => 1
  | .nil => 1
  | .ptr d => uptoBulk d + 1
  | .slice elems spare => uptoBulkAll elems + uptoBulkAll spare + 1
  | .agg parts => uptoBulkAll parts + 1
  | .iface _ d => uptoBulk d + 1
  | .map entries => uptoBulkEntries entries + 1
  | .held _ => 1
def uptoBulkAll {H : Type} : List (DataW H) → Nat
  | [] => 0
  | d :: r => uptoBulk d + uptoBulkAll r
def uptoBulkEntries {H : Type} : List (Lit × DataW H) → Nat
  | [] => 0
  | x :: r => uptoBulkEntry x + uptoBulkEntries r
def uptoBulkEntry {H : Type} : Lit × DataW H → Nat
  | (.string bytes, d) => bytes.length + uptoBulk d + 1
  | (_, d) => uptoBulk d + 1
 end
def uptoSmall : (H : Type) → List (DataW H) → Bool := fun _ ds => decide (uptoBulkAll ds ≤ 1048576)
def OpenSpec.upto (s : _root_.Go.ChangeSpec) : _root_.Go.OpenSpec := { _root_.Go.OpenSpec.ofChange s with cond := some uptoSmall }

/-- 'laws.FnExactValidWear', WHERE WHAT IT READS IS OF BULK AT MOST 1048576: true; the input reads as it did. -/
def fnExactValidWearUptoRow : OpenClaim := { program := "ytoljnpoiclklpaa", sum := "755c0ae9398ed79538f27067569944599a0f6bf5fe75ab644356fd7795998b5d", func := "loop.example/g01043/laws.FnExactValidWear", spec := "fnExactValidWear", apart := false, narrowed := true }
def FnExactValidWearUptoSaid : Prop := fnExactValidWearUptoRow.holds Try.pinned (OpenSpec.upto fnExactValidWearSpec)

/-- 'laws.FnExactWornFields', WHERE WHAT IT READS IS OF BULK AT MOST 1048576: true; the input reads as it did. -/
def fnExactWornFieldsUptoRow : OpenClaim := { program := "ytoljnpoiclklpaa", sum := "755c0ae9398ed79538f27067569944599a0f6bf5fe75ab644356fd7795998b5d", func := "loop.example/g01043/laws.FnExactWornFields", spec := "fnExactWornFields", apart := false, narrowed := true }
def FnExactWornFieldsUptoSaid : Prop := fnExactWornFieldsUptoRow.holds Try.pinned (OpenSpec.upto fnExactWornFieldsSpec)

/-- 'laws.FnExactMirrorWear', WHERE WHAT IT READS IS OF BULK AT MOST 1048576: true; the input reads as it did. -/
def fnExactMirrorWearUptoRow : OpenClaim := { program := "ytoljnpoiclklpaa", sum := "755c0ae9398ed79538f27067569944599a0f6bf5fe75ab644356fd7795998b5d", func := "loop.example/g01043/laws.FnExactMirrorWear", spec := "fnExactMirrorWear", apart := false, narrowed := true }
def FnExactMirrorWearUptoSaid : Prop := fnExactMirrorWearUptoRow.holds Try.pinned (OpenSpec.upto fnExactMirrorWearSpec)

/-- 'laws.FnExactAddWear', WHERE WHAT IT READS IS OF BULK AT MOST 1048576: true; the input reads as it did. -/
def fnExactAddWearUptoRow : OpenClaim := { program := "ytoljnpoiclklpaa", sum := "755c0ae9398ed79538f27067569944599a0f6bf5fe75ab644356fd7795998b5d", func := "loop.example/g01043/laws.FnExactAddWear", spec := "fnExactAddWear", apart := false, narrowed := true }
def FnExactAddWearUptoSaid : Prop := fnExactAddWearUptoRow.holds Try.pinned (OpenSpec.upto fnExactAddWearSpec)

/-- 'laws.FnExactCentreOfWear', WHERE WHAT IT READS IS OF BULK AT MOST 1048576: true; the input reads as it did. -/
def fnExactCentreOfWearUptoRow : OpenClaim := { program := "ytoljnpoiclklpaa", sum := "755c0ae9398ed79538f27067569944599a0f6bf5fe75ab644356fd7795998b5d", func := "loop.example/g01043/laws.FnExactCentreOfWear", spec := "fnExactCentreOfWear", apart := false, narrowed := true }
def FnExactCentreOfWearUptoSaid : Prop := fnExactCentreOfWearUptoRow.holds Try.pinned (OpenSpec.upto fnExactCentreOfWearSpec)

/-- 'laws.FnExactDiagnoseWear', WHERE WHAT IT READS IS OF BULK AT MOST 1048576: true; the input reads as it did. -/
def fnExactDiagnoseWearUptoRow : OpenClaim := { program := "ytoljnpoiclklpaa", sum := "755c0ae9398ed79538f27067569944599a0f6bf5fe75ab644356fd7795998b5d", func := "loop.example/g01043/laws.FnExactDiagnoseWear", spec := "fnExactDiagnoseWear", apart := false, narrowed := true }
def FnExactDiagnoseWearUptoSaid : Prop := fnExactDiagnoseWearUptoRow.holds Try.pinned (OpenSpec.upto fnExactDiagnoseWearSpec)

/-- 'laws.FnExactQuarterSums', WHERE WHAT IT READS IS OF BULK AT MOST 1048576: true; the input reads as it did. -/
def fnExactQuarterSumsUptoRow : OpenClaim := { program := "ytoljnpoiclklpaa", sum := "755c0ae9398ed79538f27067569944599a0f6bf5fe75ab644356fd7795998b5d", func := "loop.example/g01043/laws.FnExactQuarterSums", spec := "fnExactQuarterSums", apart := false, narrowed := true }
def FnExactQuarterSumsUptoSaid : Prop := fnExactQuarterSumsUptoRow.holds Try.pinned (OpenSpec.upto fnExactQuarterSumsSpec)

/-- 'laws.FnExactPatchFor', WHERE WHAT IT READS IS OF BULK AT MOST 1048576: true; the input reads as it did. -/
def fnExactPatchForUptoRow : OpenClaim := { program := "ytoljnpoiclklpaa", sum := "755c0ae9398ed79538f27067569944599a0f6bf5fe75ab644356fd7795998b5d", func := "loop.example/g01043/laws.FnExactPatchFor", spec := "fnExactPatchFor", apart := false, narrowed := true }
def FnExactPatchForUptoSaid : Prop := fnExactPatchForUptoRow.holds Try.pinned (OpenSpec.upto fnExactPatchForSpec)

/-- 'laws.FnWearSides', WHERE WHAT IT READS IS OF BULK AT MOST 1048576: true; the input reads as it did. -/
def fnWearSidesUptoRow : OpenClaim := { program := "ytoljnpoiclklpaa", sum := "755c0ae9398ed79538f27067569944599a0f6bf5fe75ab644356fd7795998b5d", func := "loop.example/g01043/laws.FnWearSides", spec := "fnWearSides", apart := false, narrowed := true }
def FnWearSidesUptoSaid : Prop := fnWearSidesUptoRow.holds Try.pinned (OpenSpec.upto fnWearSidesSpec)

/-- 'laws.FnExactStrangeFields', WHERE WHAT IT READS IS OF BULK AT MOST 1048576: true; the input reads as it did. -/
def fnExactStrangeFieldsUptoRow : OpenClaim := { program := "ytoljnpoiclklpaa", sum := "755c0ae9398ed79538f27067569944599a0f6bf5fe75ab644356fd7795998b5d", func := "loop.example/g01043/laws.FnExactStrangeFields", spec := "fnExactStrangeFields", apart := false, narrowed := true }
def FnExactStrangeFieldsUptoSaid : Prop := fnExactStrangeFieldsUptoRow.holds Try.pinned (OpenSpec.upto fnExactStrangeFieldsSpec)

/-- 'laws.FnExactWornAreas', WHERE WHAT IT READS IS OF BULK AT MOST 1048576: true; the input reads as it did. -/
def fnExactWornAreasUptoRow : OpenClaim := { program := "ytoljnpoiclklpaa", sum := "755c0ae9398ed79538f27067569944599a0f6bf5fe75ab644356fd7795998b5d", func := "loop.example/g01043/laws.FnExactWornAreas", spec := "fnExactWornAreas", recurses := true, apart := false, narrowed := true }
def FnExactWornAreasUptoSaid : Prop := fnExactWornAreasUptoRow.holds Try.pinned (OpenSpec.upto fnExactWornAreasSpec)

/-- 'laws.FnWearAreas', WHERE WHAT IT READS IS OF BULK AT MOST 1048576: true; the input reads as it did. -/
def fnWearAreasUptoRow : OpenClaim := { program := "ytoljnpoiclklpaa", sum := "755c0ae9398ed79538f27067569944599a0f6bf5fe75ab644356fd7795998b5d", func := "loop.example/g01043/laws.FnWearAreas", spec := "fnWearAreas", recurses := true, apart := false, narrowed := true }
def FnWearAreasUptoSaid : Prop := fnWearAreasUptoRow.holds Try.pinned (OpenSpec.upto fnWearAreasSpec)

end Rows
end Go.Proofs.Ytoljnpoiclklpaa
