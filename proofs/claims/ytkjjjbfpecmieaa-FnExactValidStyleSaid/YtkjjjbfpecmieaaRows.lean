/-
  No cell of these rows narrows 'for every input' (looked for: loops, veiled, ifaces, maps, wideKeys, modest, calm, conditions, laid).
  DERIVED. THE GIVEN ROWS OF THIS SEAT. 3 by the template 'for every input the law returns true; each argument reads behind the call as it read before'; 0 by the template 'total and deterministic' (their statements: YtkjjjbfpecmieaaTotals.lean).
  GIVEN WITH THE SEED: the statements are not yours to turn. If you find one false, say at which input.
  Laid BY PROGRAM, IN A SANDBOX (cutbox-rows.mjs): the forced cells as the released guide's own fill.sh prints them over the translation 1f180700b2416f6a… (all of the seat's roots in one cut). By AI agents, Wed Nov 11 2026. No macro, syntax, notation, axiom, sorry.
-/
import Derived.Test.YtkjjjbfpecmieaaChecked
import GoSem.Claim
import GoSem.ClaimJoined
import GoSem.ClaimMapViews
import Derived.JoinedTies
import Derived.KernelRfl
namespace Go.Proofs.Ytkjjjbfpecmieaa
/- THE CELL 'sum', in the pinned program and in every row, IS THE sha256 OF THE DUMP (.gsa) THAT YtkjjjbfpecmieaaProg.lean LOADS. Nothing in Lean hashes anything: it is a label: what it is worth is what the hold of that sum in a sandbox is worth. -/
noncomputable def Try.pinned : Pinned := { name := "ytkjjjbfpecmieaa", sum := "1f180700b2416f6a99ec9e1096a05f1d9a25b6baeb889e51033d57af6913ab69", checked := Try.checked }
namespace Rows
def none {H : Type} : Left H := { results := [], args := [] }

/-- 'laws.FnExactTroubleName': WHATEVER THE INPUT: true; the input reads as it did. -/
def fnExactTroubleNameSpec : ChangeSpec := { name := "fnExactTroubleName", fn := fun _ => fun
  | [d] => { results := [.lit (.bool true)], args := [d] }
  | _ => none }
def fnExactTroubleNameRow : OpenClaim := { program := "ytkjjjbfpecmieaa", sum := "1f180700b2416f6a99ec9e1096a05f1d9a25b6baeb889e51033d57af6913ab69", func := "loop.example/g01043/laws.FnExactTroubleName", spec := "fnExactTroubleName", apart := false }
def FnExactTroubleNameSaid : Prop := fnExactTroubleNameRow.holds Try.pinned (OpenSpec.ofChange fnExactTroubleNameSpec)

/-- ITS FALSE NEIGHBOUR: 'it returns false'. Refute it at one input. -/
def fnExactTroubleNameWrong : ChangeSpec := { name := "fnExactTroubleName", fn := fun _ => fun
  | [d] => { results := [.lit (.bool false)], args := [d] }
  | _ => none }
def FnExactTroubleNameWrongFalsely : Prop := fnExactTroubleNameRow.holds Try.pinned (OpenSpec.ofChange fnExactTroubleNameWrong)

/-- 'laws.FnExactStyleWords': WHATEVER THE INPUT: true; the input reads as it did. -/
def fnExactStyleWordsSpec : ChangeSpec := { name := "fnExactStyleWords", fn := fun _ => fun
  | [] => { results := [.lit (.bool true)], args := [] }
  | _ => none }
def fnExactStyleWordsRow : OpenClaim := { program := "ytkjjjbfpecmieaa", sum := "1f180700b2416f6a99ec9e1096a05f1d9a25b6baeb889e51033d57af6913ab69", func := "loop.example/g01043/laws.FnExactStyleWords", spec := "fnExactStyleWords", apart := false }
def FnExactStyleWordsSaid : Prop := fnExactStyleWordsRow.holds Try.pinned (OpenSpec.ofChange fnExactStyleWordsSpec)

/-- ITS FALSE NEIGHBOUR: 'it returns false'. Refute it at one input. -/
def fnExactStyleWordsWrong : ChangeSpec := { name := "fnExactStyleWords", fn := fun _ => fun
  | [] => { results := [.lit (.bool false)], args := [] }
  | _ => none }
def FnExactStyleWordsWrongFalsely : Prop := fnExactStyleWordsRow.holds Try.pinned (OpenSpec.ofChange fnExactStyleWordsWrong)

/-- 'laws.FnExactValidStyle': WHATEVER THE INPUT: true; the input reads as it did. -/
def fnExactValidStyleSpec : ChangeSpec := { name := "fnExactValidStyle", fn := fun _ => fun
  | [d] => { results := [.lit (.bool true)], args := [d] }
  | _ => none }
def fnExactValidStyleRow : OpenClaim := { program := "ytkjjjbfpecmieaa", sum := "1f180700b2416f6a99ec9e1096a05f1d9a25b6baeb889e51033d57af6913ab69", func := "loop.example/g01043/laws.FnExactValidStyle", spec := "fnExactValidStyle", apart := false }
def FnExactValidStyleSaid : Prop := fnExactValidStyleRow.holds Try.pinned (OpenSpec.ofChange fnExactValidStyleSpec)

/-- ITS FALSE NEIGHBOUR: 'it returns false'. Refute it at one input. -/
def fnExactValidStyleWrong : ChangeSpec := { name := "fnExactValidStyle", fn := fun _ => fun
  | [d] => { results := [.lit (.bool false)], args := [d] }
  | _ => none }
def FnExactValidStyleWrongFalsely : Prop := fnExactValidStyleRow.holds Try.pinned (OpenSpec.ofChange fnExactValidStyleWrong)

/- THE SECOND FORM. 'bulk': how many values and letters a reading holds, each counted each time it is reached (what is shared counts as often as it is met; a slice's spare places count too). A statement '..UptoSaid' is the law's where the arguments, and the package variables that the reading takes, are together of bulk at most 1048576: NARROWER than '..Said'. Prove '..Said' where nothing that the law and all that it calls make is longer than what came in: it says more and counts as full. Else prove '..UptoSaid'. A law counts once. -/
mutual
def uptoBulk {H : Type} : DataW H → Nat
  | .lit (.string bytes) => bytes.length + 1
  | .lit _ => 1
  | .nil => 1
  | .ptr d => uptoBulk d + 1
  | .slice elems spare => uptoBulkAll elems + uptoBulkAll spare + 1
  | .agg parts => uptoBulkAll parts + 1
  | .iface _ d => uptoBulk d + 1
  | .map entries => uptoBulkEntries entries + 1
  | .held _ => 1
def uptoBulkAll {H : Type} : List (DataW H) → Nat
  | [] => 0
  | d :: r => uptoBulk d + uptoBulkAll r
def uptoBulkEntries {H : Type} : List (Lit × DataW H) → Nat
  | [] => 0
  | x :: r => uptoBulkEntry x + uptoBulkEntries r
def uptoBulkEntry {H : Type} : Lit × DataW H → Nat
  | (.string bytes, d) => bytes.length + uptoBulk d + 1
  | (_, d) => uptoBulk d + 1
 end
def uptoSmall : (H : Type) → List (DataW H) → Bool := fun _ ds => decide (uptoBulkAll ds ≤ 1048576)
def OpenSpec.upto (s : _root_.Go.ChangeSpec) : _root_.Go.OpenSpec := { _root_.Go.OpenSpec.ofChange s with cond := some uptoSmall }

/-- 'laws.FnExactTroubleName', WHERE WHAT IT READS IS OF BULK AT MOST 1048576: true; the input reads as it did. -/
def fnExactTroubleNameUptoRow : OpenClaim := { program := "ytkjjjbfpecmieaa", sum := "1f180700b2416f6a99ec9e1096a05f1d9a25b6baeb889e51033d57af6913ab69", func := "loop.example/g01043/laws.FnExactTroubleName", spec := "fnExactTroubleName", apart := false, narrowed := true }
def FnExactTroubleNameUptoSaid : Prop := fnExactTroubleNameUptoRow.holds Try.pinned (OpenSpec.upto fnExactTroubleNameSpec)

/-- 'laws.FnExactStyleWords', WHERE WHAT IT READS IS OF BULK AT MOST 1048576: true; the input reads as it did. -/
def fnExactStyleWordsUptoRow : OpenClaim := { program := "ytkjjjbfpecmieaa", sum := "1f180700b2416f6a99ec9e1096a05f1d9a25b6baeb889e51033d57af6913ab69", func := "loop.example/g01043/laws.FnExactStyleWords", spec := "fnExactStyleWords", apart := false, narrowed := true }
def FnExactStyleWordsUptoSaid : Prop := fnExactStyleWordsUptoRow.holds Try.pinned (OpenSpec.upto fnExactStyleWordsSpec)

/-- 'laws.FnExactValidStyle', WHERE WHAT IT READS IS OF BULK AT MOST 1048576: true; the input reads as it did. -/
def fnExactValidStyleUptoRow : OpenClaim := { program := "ytkjjjbfpecmieaa", sum := "1f180700b2416f6a99ec9e1096a05f1d9a25b6baeb889e51033d57af6913ab69", func := "loop.example/g01043/laws.FnExactValidStyle", spec := "fnExactValidStyle", apart := false, narrowed := true }
def FnExactValidStyleUptoSaid : Prop := fnExactValidStyleUptoRow.holds Try.pinned (OpenSpec.upto fnExactValidStyleSpec)

end Rows
end Go.Proofs.Ytkjjjbfpecmieaa
