/-
  No cell of these rows narrows 'for every input' (looked for: loops, veiled, ifaces, maps, wideKeys, modest, calm, conditions, laid).
  DERIVED. THE GIVEN ROWS OF THIS SEAT. 12 by the template 'for every input the law returns true; each argument reads behind the call as it read before'; 0 by the template 'total and deterministic' (their statements: YtkglfbcelaphhaaTotals.lean).
  GIVEN WITH THE SEED: the statements are not yours to turn. If you find one false, say at which input.
  Laid BY PROGRAM, IN A SANDBOX (cutbox-rows.mjs): the forced cells as the released guide's own fill.sh prints them over the translation 9c08081df84d8e1d… (all of the seat's roots in one cut). By AI agents, Wed Nov 11 2026. No macro, syntax, notation, axiom, sorry.
-/
import Derived.Test.YtkglfbcelaphhaaChecked
import GoSem.Claim
import GoSem.ClaimJoined
import GoSem.ClaimMapViews
import Derived.JoinedTies
import Derived.KernelRfl
namespace Go.Proofs.Ytkglfbcelaphhaa
/- THE CELL 'sum', in the pinned program and in every row, IS THE sha256 OF THE DUMP (.gsa) THAT YtkglfbcelaphhaaProg.lean LOADS. Nothing in Lean hashes anything: it is a label: what it is worth is what the hold of that sum in a sandbox is worth. -/
noncomputable def Try.pinned : Pinned := { name := "ytkglfbcelaphhaa", sum := "9c08081df84d8e1d6021accb46a5c38f0b516a20d90401ccf53ea6dd7daaa6de", checked := Try.checked }
namespace Rows
def none {H : Type} : Left H := { results := [], args := [] }

/-- 'laws.FnCheapRepairs': WHATEVER THE INPUT: true; the input reads as it did. -/
def fnCheapRepairsSpec : ChangeSpec := { name := "fnCheapRepairs", fn := fun _ => fun
  | [d] => { results := [.lit (.bool true)], args := [d] }
  | _ => none }
def fnCheapRepairsRow : OpenClaim := { program := "ytkglfbcelaphhaa", sum := "9c08081df84d8e1d6021accb46a5c38f0b516a20d90401ccf53ea6dd7daaa6de", func := "loop.example/g01043/laws.FnCheapRepairs", spec := "fnCheapRepairs", unfollowed := true, recurses := true, apart := false }
def FnCheapRepairsSaid : Prop := fnCheapRepairsRow.holds Try.pinned (OpenSpec.ofChange fnCheapRepairsSpec)

/-- ITS FALSE NEIGHBOUR: 'it returns false'. Refute it at one input. -/
def fnCheapRepairsWrong : ChangeSpec := { name := "fnCheapRepairs", fn := fun _ => fun
  | [d] => { results := [.lit (.bool false)], args := [d] }
  | _ => none }
def FnCheapRepairsWrongFalsely : Prop := fnCheapRepairsRow.holds Try.pinned (OpenSpec.ofChange fnCheapRepairsWrong)

/-- 'laws.FnExactSameRepairs': WHATEVER THE INPUT: true; the input reads as it did. -/
def fnExactSameRepairsSpec : ChangeSpec := { name := "fnExactSameRepairs", fn := fun _ => fun
  | [d1, d2] => { results := [.lit (.bool true)], args := [d1, d2] }
  | _ => none }
def fnExactSameRepairsRow : OpenClaim := { program := "ytkglfbcelaphhaa", sum := "9c08081df84d8e1d6021accb46a5c38f0b516a20d90401ccf53ea6dd7daaa6de", func := "loop.example/g01043/laws.FnExactSameRepairs", spec := "fnExactSameRepairs", unfollowed := true, recurses := true, apart := false }
def FnExactSameRepairsSaid : Prop := fnExactSameRepairsRow.holds Try.pinned (OpenSpec.ofChange fnExactSameRepairsSpec)

/-- ITS FALSE NEIGHBOUR: 'it returns false'. Refute it at one input. -/
def fnExactSameRepairsWrong : ChangeSpec := { name := "fnExactSameRepairs", fn := fun _ => fun
  | [d1, d2] => { results := [.lit (.bool false)], args := [d1, d2] }
  | _ => none }
def FnExactSameRepairsWrongFalsely : Prop := fnExactSameRepairsRow.holds Try.pinned (OpenSpec.ofChange fnExactSameRepairsWrong)

/-- 'laws.FnExactValidRepairs': WHATEVER THE INPUT: true; the input reads as it did. -/
def fnExactValidRepairsSpec : ChangeSpec := { name := "fnExactValidRepairs", fn := fun _ => fun
  | [d] => { results := [.lit (.bool true)], args := [d] }
  | _ => none }
def fnExactValidRepairsRow : OpenClaim := { program := "ytkglfbcelaphhaa", sum := "9c08081df84d8e1d6021accb46a5c38f0b516a20d90401ccf53ea6dd7daaa6de", func := "loop.example/g01043/laws.FnExactValidRepairs", spec := "fnExactValidRepairs", unfollowed := true, recurses := true, apart := false }
def FnExactValidRepairsSaid : Prop := fnExactValidRepairsRow.holds Try.pinned (OpenSpec.ofChange fnExactValidRepairsSpec)

/-- ITS FALSE NEIGHBOUR: 'it returns false'. Refute it at one input. -/
def fnExactValidRepairsWrong : ChangeSpec := { name := "fnExactValidRepairs", fn := fun _ => fun
  | [d] => { results := [.lit (.bool false)], args := [d] }
  | _ => none }
def FnExactValidRepairsWrongFalsely : Prop := fnExactValidRepairsRow.holds Try.pinned (OpenSpec.ofChange fnExactValidRepairsWrong)

/-- 'laws.FnExactHoursOfRepairs': WHATEVER THE INPUT: true; the input reads as it did. -/
def fnExactHoursOfRepairsSpec : ChangeSpec := { name := "fnExactHoursOfRepairs", fn := fun _ => fun
  | [d1, d2] => { results := [.lit (.bool true)], args := [d1, d2] }
  | _ => none }
def fnExactHoursOfRepairsRow : OpenClaim := { program := "ytkglfbcelaphhaa", sum := "9c08081df84d8e1d6021accb46a5c38f0b516a20d90401ccf53ea6dd7daaa6de", func := "loop.example/g01043/laws.FnExactHoursOfRepairs", spec := "fnExactHoursOfRepairs", unfollowed := true, recurses := true, apart := false }
def FnExactHoursOfRepairsSaid : Prop := fnExactHoursOfRepairsRow.holds Try.pinned (OpenSpec.ofChange fnExactHoursOfRepairsSpec)

/-- ITS FALSE NEIGHBOUR: 'it returns false'. Refute it at one input. -/
def fnExactHoursOfRepairsWrong : ChangeSpec := { name := "fnExactHoursOfRepairs", fn := fun _ => fun
  | [d1, d2] => { results := [.lit (.bool false)], args := [d1, d2] }
  | _ => none }
def FnExactHoursOfRepairsWrongFalsely : Prop := fnExactHoursOfRepairsRow.holds Try.pinned (OpenSpec.ofChange fnExactHoursOfRepairsWrong)

/-- 'laws.FnExactPriceOfRepairs': WHATEVER THE INPUT: true; the input reads as it did. -/
def fnExactPriceOfRepairsSpec : ChangeSpec := { name := "fnExactPriceOfRepairs", fn := fun _ => fun
  | [d1, d2] => { results := [.lit (.bool true)], args := [d1, d2] }
  | _ => none }
def fnExactPriceOfRepairsRow : OpenClaim := { program := "ytkglfbcelaphhaa", sum := "9c08081df84d8e1d6021accb46a5c38f0b516a20d90401ccf53ea6dd7daaa6de", func := "loop.example/g01043/laws.FnExactPriceOfRepairs", spec := "fnExactPriceOfRepairs", unfollowed := true, recurses := true, apart := false }
def FnExactPriceOfRepairsSaid : Prop := fnExactPriceOfRepairsRow.holds Try.pinned (OpenSpec.ofChange fnExactPriceOfRepairsSpec)

/-- ITS FALSE NEIGHBOUR: 'it returns false'. Refute it at one input. -/
def fnExactPriceOfRepairsWrong : ChangeSpec := { name := "fnExactPriceOfRepairs", fn := fun _ => fun
  | [d1, d2] => { results := [.lit (.bool false)], args := [d1, d2] }
  | _ => none }
def FnExactPriceOfRepairsWrongFalsely : Prop := fnExactPriceOfRepairsRow.holds Try.pinned (OpenSpec.ofChange fnExactPriceOfRepairsWrong)

/-- 'laws.FnExactRepairsFor': WHATEVER THE INPUT: true; the input reads as it did. -/
def fnExactRepairsForSpec : ChangeSpec := { name := "fnExactRepairsFor", fn := fun _ => fun
  | [d1, d2] => { results := [.lit (.bool true)], args := [d1, d2] }
  | _ => none }
def fnExactRepairsForRow : OpenClaim := { program := "ytkglfbcelaphhaa", sum := "9c08081df84d8e1d6021accb46a5c38f0b516a20d90401ccf53ea6dd7daaa6de", func := "loop.example/g01043/laws.FnExactRepairsFor", spec := "fnExactRepairsFor", unfollowed := true, recurses := true, apart := false }
def FnExactRepairsForSaid : Prop := fnExactRepairsForRow.holds Try.pinned (OpenSpec.ofChange fnExactRepairsForSpec)

/-- ITS FALSE NEIGHBOUR: 'it returns false'. Refute it at one input. -/
def fnExactRepairsForWrong : ChangeSpec := { name := "fnExactRepairsFor", fn := fun _ => fun
  | [d1, d2] => { results := [.lit (.bool false)], args := [d1, d2] }
  | _ => none }
def FnExactRepairsForWrongFalsely : Prop := fnExactRepairsForRow.holds Try.pinned (OpenSpec.ofChange fnExactRepairsForWrong)

/-- 'laws.FnExactMendsAll': WHATEVER THE INPUT: true; the input reads as it did. -/
def fnExactMendsAllSpec : ChangeSpec := { name := "fnExactMendsAll", fn := fun _ => fun
  | [d1, d2, d3] => { results := [.lit (.bool true)], args := [d1, d2, d3] }
  | _ => none }
def fnExactMendsAllRow : OpenClaim := { program := "ytkglfbcelaphhaa", sum := "9c08081df84d8e1d6021accb46a5c38f0b516a20d90401ccf53ea6dd7daaa6de", func := "loop.example/g01043/laws.FnExactMendsAll", spec := "fnExactMendsAll", unfollowed := true, recurses := true, apart := false }
def FnExactMendsAllSaid : Prop := fnExactMendsAllRow.holds Try.pinned (OpenSpec.ofChange fnExactMendsAllSpec)

/-- ITS FALSE NEIGHBOUR: 'it returns false'. Refute it at one input. -/
def fnExactMendsAllWrong : ChangeSpec := { name := "fnExactMendsAll", fn := fun _ => fun
  | [d1, d2, d3] => { results := [.lit (.bool false)], args := [d1, d2, d3] }
  | _ => none }
def FnExactMendsAllWrongFalsely : Prop := fnExactMendsAllRow.holds Try.pinned (OpenSpec.ofChange fnExactMendsAllWrong)

/-- 'laws.FnExactWithFirst': WHATEVER THE INPUT: true; the input reads as it did. -/
def fnExactWithFirstSpec : ChangeSpec := { name := "fnExactWithFirst", fn := fun _ => fun
  | [d1, d2] => { results := [.lit (.bool true)], args := [d1, d2] }
  | _ => none }
def fnExactWithFirstRow : OpenClaim := { program := "ytkglfbcelaphhaa", sum := "9c08081df84d8e1d6021accb46a5c38f0b516a20d90401ccf53ea6dd7daaa6de", func := "loop.example/g01043/laws.FnExactWithFirst", spec := "fnExactWithFirst", unfollowed := true, recurses := true, apart := false }
def FnExactWithFirstSaid : Prop := fnExactWithFirstRow.holds Try.pinned (OpenSpec.ofChange fnExactWithFirstSpec)

/-- ITS FALSE NEIGHBOUR: 'it returns false'. Refute it at one input. -/
def fnExactWithFirstWrong : ChangeSpec := { name := "fnExactWithFirst", fn := fun _ => fun
  | [d1, d2] => { results := [.lit (.bool false)], args := [d1, d2] }
  | _ => none }
def FnExactWithFirstWrongFalsely : Prop := fnExactWithFirstRow.holds Try.pinned (OpenSpec.ofChange fnExactWithFirstWrong)

/-- 'laws.FnExactHopelessFaults': WHATEVER THE INPUT: true; the input reads as it did. -/
def fnExactHopelessFaultsSpec : ChangeSpec := { name := "fnExactHopelessFaults", fn := fun _ => fun
  | [d1, d2] => { results := [.lit (.bool true)], args := [d1, d2] }
  | _ => none }
def fnExactHopelessFaultsRow : OpenClaim := { program := "ytkglfbcelaphhaa", sum := "9c08081df84d8e1d6021accb46a5c38f0b516a20d90401ccf53ea6dd7daaa6de", func := "loop.example/g01043/laws.FnExactHopelessFaults", spec := "fnExactHopelessFaults", unfollowed := true, recurses := true, apart := false }
def FnExactHopelessFaultsSaid : Prop := fnExactHopelessFaultsRow.holds Try.pinned (OpenSpec.ofChange fnExactHopelessFaultsSpec)

/-- ITS FALSE NEIGHBOUR: 'it returns false'. Refute it at one input. -/
def fnExactHopelessFaultsWrong : ChangeSpec := { name := "fnExactHopelessFaults", fn := fun _ => fun
  | [d1, d2] => { results := [.lit (.bool false)], args := [d1, d2] }
  | _ => none }
def FnExactHopelessFaultsWrongFalsely : Prop := fnExactHopelessFaultsRow.holds Try.pinned (OpenSpec.ofChange fnExactHopelessFaultsWrong)

/-- 'laws.FnExactNeedlessRepairs': WHATEVER THE INPUT: true; the input reads as it did. -/
def fnExactNeedlessRepairsSpec : ChangeSpec := { name := "fnExactNeedlessRepairs", fn := fun _ => fun
  | [d1, d2, d3] => { results := [.lit (.bool true)], args := [d1, d2, d3] }
  | _ => none }
def fnExactNeedlessRepairsRow : OpenClaim := { program := "ytkglfbcelaphhaa", sum := "9c08081df84d8e1d6021accb46a5c38f0b516a20d90401ccf53ea6dd7daaa6de", func := "loop.example/g01043/laws.FnExactNeedlessRepairs", spec := "fnExactNeedlessRepairs", unfollowed := true, recurses := true, apart := false }
def FnExactNeedlessRepairsSaid : Prop := fnExactNeedlessRepairsRow.holds Try.pinned (OpenSpec.ofChange fnExactNeedlessRepairsSpec)

/-- ITS FALSE NEIGHBOUR: 'it returns false'. Refute it at one input. -/
def fnExactNeedlessRepairsWrong : ChangeSpec := { name := "fnExactNeedlessRepairs", fn := fun _ => fun
  | [d1, d2, d3] => { results := [.lit (.bool false)], args := [d1, d2, d3] }
  | _ => none }
def FnExactNeedlessRepairsWrongFalsely : Prop := fnExactNeedlessRepairsRow.holds Try.pinned (OpenSpec.ofChange fnExactNeedlessRepairsWrong)

/-- 'laws.FnExactIsWorthwhile': WHATEVER THE INPUT: true; the input reads as it did. -/
def fnExactIsWorthwhileSpec : ChangeSpec := { name := "fnExactIsWorthwhile", fn := fun _ => fun
  | [d1, d2, d3, d4] => { results := [.lit (.bool true)], args := [d1, d2, d3, d4] }
  | _ => none }
def fnExactIsWorthwhileRow : OpenClaim := { program := "ytkglfbcelaphhaa", sum := "9c08081df84d8e1d6021accb46a5c38f0b516a20d90401ccf53ea6dd7daaa6de", func := "loop.example/g01043/laws.FnExactIsWorthwhile", spec := "fnExactIsWorthwhile", unfollowed := true, recurses := true, apart := false }
def FnExactIsWorthwhileSaid : Prop := fnExactIsWorthwhileRow.holds Try.pinned (OpenSpec.ofChange fnExactIsWorthwhileSpec)

/-- ITS FALSE NEIGHBOUR: 'it returns false'. Refute it at one input. -/
def fnExactIsWorthwhileWrong : ChangeSpec := { name := "fnExactIsWorthwhile", fn := fun _ => fun
  | [d1, d2, d3, d4] => { results := [.lit (.bool false)], args := [d1, d2, d3, d4] }
  | _ => none }
def FnExactIsWorthwhileWrongFalsely : Prop := fnExactIsWorthwhileRow.holds Try.pinned (OpenSpec.ofChange fnExactIsWorthwhileWrong)

/-- 'laws.FnExactCheapestRepairs': WHATEVER THE INPUT: true; the input reads as it did. -/
def fnExactCheapestRepairsSpec : ChangeSpec := { name := "fnExactCheapestRepairs", fn := fun _ => fun
  | [d1, d2] => { results := [.lit (.bool true)], args := [d1, d2] }
  | _ => none }
def fnExactCheapestRepairsRow : OpenClaim := { program := "ytkglfbcelaphhaa", sum := "9c08081df84d8e1d6021accb46a5c38f0b516a20d90401ccf53ea6dd7daaa6de", func := "loop.example/g01043/laws.FnExactCheapestRepairs", spec := "fnExactCheapestRepairs", unfollowed := true, recurses := true, apart := false }
def FnExactCheapestRepairsSaid : Prop := fnExactCheapestRepairsRow.holds Try.pinned (OpenSpec.ofChange fnExactCheapestRepairsSpec)

/-- ITS FALSE NEIGHBOUR: 'it returns false'. Refute it at one input. -/
def fnExactCheapestRepairsWrong : ChangeSpec := { name := "fnExactCheapestRepairs", fn := fun _ => fun
  | [d1, d2] => { results := [.lit (.bool false)], args := [d1, d2] }
  | _ => none }
def FnExactCheapestRepairsWrongFalsely : Prop := fnExactCheapestRepairsRow.holds Try.pinned (OpenSpec.ofChange fnExactCheapestRepairsWrong)

/- THE SECOND FORM. 'bulk': how many values and letters a reading holds, each counted each time it is reached (what is shared counts as often as it is met; a slice's spare places count too). A statement '..UptoSaid' is the law's where the arguments, and the package variables that the reading takes, are together of bulk at most 1048576: NARROWER than '..Said'. Prove '..Said' where nothing that the law and all that it calls make is longer than what came in: it says more and counts as full. Else prove '..UptoSaid'. A law counts once. -/
mutual
def uptoBulk {H : Type} : DataW H → Nat
  | .lit (.string bytes) => bytes.length + 1
  | .lit _ => 1
  | .nil => 1
  | .ptr d => uptoBulk d + 1
  | .slice elems spare => uptoBulkAll elems + uptoBulkAll spare + 1
  | .agg parts => uptoBulkAll parts + 1
  | .iface _ d => uptoBulk d + 1
  | .map entries => uptoBulkEntries entries + 1
  | .held _ => 1
def uptoBulkAll {H : Type} : List (DataW H) → Nat
  | [] => 0
  | d :: r => uptoBulk d + uptoBulkAll r
def uptoBulkEntries {H : Type} : List (Lit × DataW H) → Nat
  | [] => 0
  | x :: r => uptoBulkEntry x + uptoBulkEntries r
def uptoBulkEntry {H : Type} : Lit × DataW H → Nat
  | (.string bytes, d) => bytes.length + uptoBulk d + 1
  | (_, d) => uptoBulk d + 1
 end
def uptoSmall : (H : Type) → List (DataW H) → Bool := fun _ ds => decide (uptoBulkAll ds ≤ 1048576)
def OpenSpec.upto (s : _root_.Go.ChangeSpec) : _root_.Go.OpenSpec := { _root_.Go.OpenSpec.ofChange s with cond := some uptoSmall }

/-- 'laws.FnCheapRepairs', WHERE WHAT IT READS IS OF BULK AT MOST 1048576: true; the input reads as it did. -/
def fnCheapRepairsUptoRow : OpenClaim := { program := "ytkglfbcelaphhaa", sum := "9c08081df84d8e1d6021accb46a5c38f0b516a20d90401ccf53ea6dd7daaa6de", func := "loop.example/g01043/laws.FnCheapRepairs", spec := "fnCheapRepairs", unfollowed := true, recurses := true, apart := false, narrowed := true }
def FnCheapRepairsUptoSaid : Prop := fnCheapRepairsUptoRow.holds Try.pinned (OpenSpec.upto fnCheapRepairsSpec)

/-- 'laws.FnExactSameRepairs', WHERE WHAT IT READS IS OF BULK AT MOST 1048576: true; the input reads as it did. -/
def fnExactSameRepairsUptoRow : OpenClaim := { program := "ytkglfbcelaphhaa", sum := "9c08081df84d8e1d6021accb46a5c38f0b516a20d90401ccf53ea6dd7daaa6de", func := "loop.example/g01043/laws.FnExactSameRepairs", spec := "fnExactSameRepairs", unfollowed := true, recurses := true, apart := false, narrowed := true }
def FnExactSameRepairsUptoSaid : Prop := fnExactSameRepairsUptoRow.holds Try.pinned (OpenSpec.upto fnExactSameRepairsSpec)

/-- 'laws.FnExactValidRepairs', WHERE WHAT IT READS IS OF BULK AT MOST 1048576: true; the input reads as it did. -/
def fnExactValidRepairsUptoRow : OpenClaim := { program := "ytkglfbcelaphhaa", sum := "9c08081df84d8e1d6021accb46a5c38f0b516a20d90401ccf53ea6dd7daaa6de", func := "loop.example/g01043/laws.FnExactValidRepairs", spec := "fnExactValidRepairs", unfollowed := true, recurses := true, apart := false, narrowed := true }
def FnExactValidRepairsUptoSaid : Prop := fnExactValidRepairsUptoRow.holds Try.pinned (OpenSpec.upto fnExactValidRepairsSpec)

/-- 'laws.FnExactHoursOfRepairs', WHERE WHAT IT READS IS OF BULK AT MOST 1048576: true; the input reads as it did. -/
def fnExactHoursOfRepairsUptoRow : OpenClaim := { program := "ytkglfbcelaphhaa", sum := "9c08081df84d8e1d6021accb46a5c38f0b516a20d90401ccf53ea6dd7daaa6de", func := "loop.example/g01043/laws.FnExactHoursOfRepairs", spec := "fnExactHoursOfRepairs", unfollowed := true, recurses := true, apart := false, narrowed := true }
def FnExactHoursOfRepairsUptoSaid : Prop := fnExactHoursOfRepairsUptoRow.holds Try.pinned (OpenSpec.upto fnExactHoursOfRepairsSpec)

/-- 'laws.FnExactPriceOfRepairs', WHERE WHAT IT READS IS OF BULK AT MOST 1048576: true; the input reads as it did. -/
def fnExactPriceOfRepairsUptoRow : OpenClaim := { program := "ytkglfbcelaphhaa", sum := "9c08081df84d8e1d6021accb46a5c38f0b516a20d90401ccf53ea6dd7daaa6de", func := "loop.example/g01043/laws.FnExactPriceOfRepairs", spec := "fnExactPriceOfRepairs", unfollowed := true, recurses := true, apart := false, narrowed := true }
def FnExactPriceOfRepairsUptoSaid : Prop := fnExactPriceOfRepairsUptoRow.holds Try.pinned (OpenSpec.upto fnExactPriceOfRepairsSpec)

/-- 'laws.FnExactRepairsFor', WHERE WHAT IT READS IS OF BULK AT MOST 1048576: true; the input reads as it did. -/
def fnExactRepairsForUptoRow : OpenClaim := { program := "ytkglfbcelaphhaa", sum := "9c08081df84d8e1d6021accb46a5c38f0b516a20d90401ccf53ea6dd7daaa6de", func := "loop.example/g01043/laws.FnExactRepairsFor", spec := "fnExactRepairsFor", unfollowed := true, recurses := true, apart := false, narrowed := true }
def FnExactRepairsForUptoSaid : Prop := fnExactRepairsForUptoRow.holds Try.pinned (OpenSpec.upto fnExactRepairsForSpec)

/-- 'laws.FnExactMendsAll', WHERE WHAT IT READS IS OF BULK AT MOST 1048576: true; the input reads as it did. -/
def fnExactMendsAllUptoRow : OpenClaim := { program := "ytkglfbcelaphhaa", sum := "9c08081df84d8e1d6021accb46a5c38f0b516a20d90401ccf53ea6dd7daaa6de", func := "loop.example/g01043/laws.FnExactMendsAll", spec := "fnExactMendsAll", unfollowed := true, recurses := true, apart := false, narrowed := true }
def FnExactMendsAllUptoSaid : Prop := fnExactMendsAllUptoRow.holds Try.pinned (OpenSpec.upto fnExactMendsAllSpec)

/-- 'laws.FnExactWithFirst', WHERE WHAT IT READS IS OF BULK AT MOST 1048576: true; the input reads as it did. -/
def fnExactWithFirstUptoRow : OpenClaim := { program := "ytkglfbcelaphhaa", sum := "9c08081df84d8e1d6021accb46a5c38f0b516a20d90401ccf53ea6dd7daaa6de", func := "loop.example/g01043/laws.FnExactWithFirst", spec := "fnExactWithFirst", unfollowed := true, recurses := true, apart := false, narrowed := true }
def FnExactWithFirstUptoSaid : Prop := fnExactWithFirstUptoRow.holds Try.pinned (OpenSpec.upto fnExactWithFirstSpec)

/-- 'laws.FnExactHopelessFaults', WHERE WHAT IT READS IS OF BULK AT MOST 1048576: true; the input reads as it did. -/
def fnExactHopelessFaultsUptoRow : OpenClaim := { program := "ytkglfbcelaphhaa", sum := "9c08081df84d8e1d6021accb46a5c38f0b516a20d90401ccf53ea6dd7daaa6de", func := "loop.example/g01043/laws.FnExactHopelessFaults", spec := "fnExactHopelessFaults", unfollowed := true, recurses := true, apart := false, narrowed := true }
def FnExactHopelessFaultsUptoSaid : Prop := fnExactHopelessFaultsUptoRow.holds Try.pinned (OpenSpec.upto fnExactHopelessFaultsSpec)

/-- 'laws.FnExactNeedlessRepairs', WHERE WHAT IT READS IS OF BULK AT MOST 1048576: true; the input reads as it did. -/
def fnExactNeedlessRepairsUptoRow : OpenClaim := { program := "ytkglfbcelaphhaa", sum := "9c08081df84d8e1d6021accb46a5c38f0b516a20d90401ccf53ea6dd7daaa6de", func := "loop.example/g01043/laws.FnExactNeedlessRepairs", spec := "fnExactNeedlessRepairs", unfollowed := true, recurses := true, apart := false, narrowed := true }
def FnExactNeedlessRepairsUptoSaid : Prop := fnExactNeedlessRepairsUptoRow.holds Try.pinned (OpenSpec.upto fnExactNeedlessRepairsSpec)

/-- 'laws.FnExactIsWorthwhile', WHERE WHAT IT READS IS OF BULK AT MOST 1048576: true; the input reads as it did. -/
def fnExactIsWorthwhileUptoRow : OpenClaim := { program := "ytkglfbcelaphhaa", sum := "9c08081df84d8e1d6021accb46a5c38f0b516a20d90401ccf53ea6dd7daaa6de", func := "loop.example/g01043/laws.FnExactIsWorthwhile", spec := "fnExactIsWorthwhile", unfollowed := true, recurses := true, apart := false, narrowed := true }
def FnExactIsWorthwhileUptoSaid : Prop := fnExactIsWorthwhileUptoRow.holds Try.pinned (OpenSpec.upto fnExactIsWorthwhileSpec)

/-- 'laws.FnExactCheapestRepairs', WHERE WHAT IT READS IS OF BULK AT MOST 1048576: true; the input reads as it did. -/
def fnExactCheapestRepairsUptoRow : OpenClaim := { program := "ytkglfbcelaphhaa", sum := "9c08081df84d8e1d6021accb46a5c38f0b516a20d90401ccf53ea6dd7daaa6de", func := "loop.example/g01043/laws.FnExactCheapestRepairs", spec := "fnExactCheapestRepairs", unfollowed := true, recurses := true, apart := false, narrowed := true }
def FnExactCheapestRepairsUptoSaid : Prop := fnExactCheapestRepairsUptoRow.holds Try.pinned (OpenSpec.upto fnExactCheapestRepairsSpec)

end Rows
end Go.Proofs.Ytkglfbcelaphhaa
