/-
  No cell of these rows narrows 'for every input' (looked for: loops, veiled, ifaces, maps, wideKeys, modest, calm, conditions, laid).
  DERIVED. THE GIVEN ROWS OF THIS SEAT. 10 by the template 'for every input the law returns true; each argument reads behind the call as it read before'; 0 by the template 'total and deterministic' (their statements: YtkpdicajinionaaTotals.lean).
  GIVEN WITH THE SEED: the statements are not yours to turn. If you find one false, say at which input.
  Laid BY PROGRAM, IN A SANDBOX (cutbox-rows.mjs): the forced cells as the released guide's own fill.sh prints them over the translation 2a57905ecbeeacb2… (all of the seat's roots in one cut). By AI agents, Wed Nov 11 2026. No macro, syntax, notation, axiom, sorry.
-/
import Derived.Test.YtkpdicajinionaaChecked
import GoSem.Claim
import GoSem.ClaimJoined
import GoSem.ClaimMapViews
import Derived.JoinedTies
import Derived.KernelRfl
namespace Go.Proofs.Ytkpdicajinionaa
/- THE CELL 'sum', in the pinned program and in every row, IS THE sha256 OF THE DUMP (.gsa) THAT YtkpdicajinionaaProg.lean LOADS. Nothing in Lean hashes anything: it is a label: what it is worth is what the hold of that sum in a sandbox is worth. -/
noncomputable def Try.pinned : Pinned := { name := "ytkpdicajinionaa", sum := "2a57905ecbeeacb2be9ef7e3346829712d6a3b7bf4bdef77324d60850d749fca", checked := Try.checked }
namespace Rows
def none {H : Type} : Left H := { results := [], args := [] }

/-- 'laws.FnExactSameGoods': WHATEVER THE INPUT: true; the input reads as it did. -/
def fnExactSameGoodsSpec : ChangeSpec := { name := "fnExactSameGoods", fn := fun _ => fun
  | [d1, d2] => { results := [.lit (.bool true)], args := [d1, d2] }
  | _ => none }
def fnExactSameGoodsRow : OpenClaim := { program := "ytkpdicajinionaa", sum := "2a57905ecbeeacb2be9ef7e3346829712d6a3b7bf4bdef77324d60850d749fca", func := "loop.example/g01043/laws.FnExactSameGoods", spec := "fnExactSameGoods", apart := false }
def FnExactSameGoodsSaid : Prop := fnExactSameGoodsRow.holds Try.pinned (OpenSpec.ofChange fnExactSameGoodsSpec)

/-- ITS FALSE NEIGHBOUR: 'it returns false'. Refute it at one input. -/
def fnExactSameGoodsWrong : ChangeSpec := { name := "fnExactSameGoods", fn := fun _ => fun
  | [d1, d2] => { results := [.lit (.bool false)], args := [d1, d2] }
  | _ => none }
def FnExactSameGoodsWrongFalsely : Prop := fnExactSameGoodsRow.holds Try.pinned (OpenSpec.ofChange fnExactSameGoodsWrong)

/-- 'laws.FnExactValidGoods': WHATEVER THE INPUT: true; the input reads as it did. -/
def fnExactValidGoodsSpec : ChangeSpec := { name := "fnExactValidGoods", fn := fun _ => fun
  | [d] => { results := [.lit (.bool true)], args := [d] }
  | _ => none }
def fnExactValidGoodsRow : OpenClaim := { program := "ytkpdicajinionaa", sum := "2a57905ecbeeacb2be9ef7e3346829712d6a3b7bf4bdef77324d60850d749fca", func := "loop.example/g01043/laws.FnExactValidGoods", spec := "fnExactValidGoods", apart := false }
def FnExactValidGoodsSaid : Prop := fnExactValidGoodsRow.holds Try.pinned (OpenSpec.ofChange fnExactValidGoodsSpec)

/-- ITS FALSE NEIGHBOUR: 'it returns false'. Refute it at one input. -/
def fnExactValidGoodsWrong : ChangeSpec := { name := "fnExactValidGoods", fn := fun _ => fun
  | [d] => { results := [.lit (.bool false)], args := [d] }
  | _ => none }
def FnExactValidGoodsWrongFalsely : Prop := fnExactValidGoodsRow.holds Try.pinned (OpenSpec.ofChange fnExactValidGoodsWrong)

/-- 'laws.FnExactShortGoods': WHATEVER THE INPUT: true; the input reads as it did. -/
def fnExactShortGoodsSpec : ChangeSpec := { name := "fnExactShortGoods", fn := fun _ => fun
  | [d] => { results := [.lit (.bool true)], args := [d] }
  | _ => none }
def fnExactShortGoodsRow : OpenClaim := { program := "ytkpdicajinionaa", sum := "2a57905ecbeeacb2be9ef7e3346829712d6a3b7bf4bdef77324d60850d749fca", func := "loop.example/g01043/laws.FnExactShortGoods", spec := "fnExactShortGoods", apart := false }
def FnExactShortGoodsSaid : Prop := fnExactShortGoodsRow.holds Try.pinned (OpenSpec.ofChange fnExactShortGoodsSpec)

/-- ITS FALSE NEIGHBOUR: 'it returns false'. Refute it at one input. -/
def fnExactShortGoodsWrong : ChangeSpec := { name := "fnExactShortGoods", fn := fun _ => fun
  | [d] => { results := [.lit (.bool false)], args := [d] }
  | _ => none }
def FnExactShortGoodsWrongFalsely : Prop := fnExactShortGoodsRow.holds Try.pinned (OpenSpec.ofChange fnExactShortGoodsWrong)

/-- 'laws.FnExactReserveGood': WHATEVER THE INPUT: true; the input reads as it did. -/
def fnExactReserveGoodSpec : ChangeSpec := { name := "fnExactReserveGood", fn := fun _ => fun
  | [d1, d2, d3] => { results := [.lit (.bool true)], args := [d1, d2, d3] }
  | _ => none }
def fnExactReserveGoodRow : OpenClaim := { program := "ytkpdicajinionaa", sum := "2a57905ecbeeacb2be9ef7e3346829712d6a3b7bf4bdef77324d60850d749fca", func := "loop.example/g01043/laws.FnExactReserveGood", spec := "fnExactReserveGood", unfollowed := true, recurses := true, apart := false }
def FnExactReserveGoodSaid : Prop := fnExactReserveGoodRow.holds Try.pinned (OpenSpec.ofChange fnExactReserveGoodSpec)

/-- ITS FALSE NEIGHBOUR: 'it returns false'. Refute it at one input. -/
def fnExactReserveGoodWrong : ChangeSpec := { name := "fnExactReserveGood", fn := fun _ => fun
  | [d1, d2, d3] => { results := [.lit (.bool false)], args := [d1, d2, d3] }
  | _ => none }
def FnExactReserveGoodWrongFalsely : Prop := fnExactReserveGoodRow.holds Try.pinned (OpenSpec.ofChange fnExactReserveGoodWrong)

/-- 'laws.FnExactUseReserved': WHATEVER THE INPUT: true; the input reads as it did. -/
def fnExactUseReservedSpec : ChangeSpec := { name := "fnExactUseReserved", fn := fun _ => fun
  | [d1, d2, d3] => { results := [.lit (.bool true)], args := [d1, d2, d3] }
  | _ => none }
def fnExactUseReservedRow : OpenClaim := { program := "ytkpdicajinionaa", sum := "2a57905ecbeeacb2be9ef7e3346829712d6a3b7bf4bdef77324d60850d749fca", func := "loop.example/g01043/laws.FnExactUseReserved", spec := "fnExactUseReserved", unfollowed := true, recurses := true, apart := false }
def FnExactUseReservedSaid : Prop := fnExactUseReservedRow.holds Try.pinned (OpenSpec.ofChange fnExactUseReservedSpec)

/-- ITS FALSE NEIGHBOUR: 'it returns false'. Refute it at one input. -/
def fnExactUseReservedWrong : ChangeSpec := { name := "fnExactUseReserved", fn := fun _ => fun
  | [d1, d2, d3] => { results := [.lit (.bool false)], args := [d1, d2, d3] }
  | _ => none }
def FnExactUseReservedWrongFalsely : Prop := fnExactUseReservedRow.holds Try.pinned (OpenSpec.ofChange fnExactUseReservedWrong)

/-- 'laws.FnExactChangeGood': WHATEVER THE INPUT: true; the input reads as it did. -/
def fnExactChangeGoodSpec : ChangeSpec := { name := "fnExactChangeGood", fn := fun _ => fun
  | [d1, d2] => { results := [.lit (.bool true)], args := [d1, d2] }
  | _ => none }
def fnExactChangeGoodRow : OpenClaim := { program := "ytkpdicajinionaa", sum := "2a57905ecbeeacb2be9ef7e3346829712d6a3b7bf4bdef77324d60850d749fca", func := "loop.example/g01043/laws.FnExactChangeGood", spec := "fnExactChangeGood", unfollowed := true, recurses := true, apart := false }
def FnExactChangeGoodSaid : Prop := fnExactChangeGoodRow.holds Try.pinned (OpenSpec.ofChange fnExactChangeGoodSpec)

/-- ITS FALSE NEIGHBOUR: 'it returns false'. Refute it at one input. -/
def fnExactChangeGoodWrong : ChangeSpec := { name := "fnExactChangeGood", fn := fun _ => fun
  | [d1, d2] => { results := [.lit (.bool false)], args := [d1, d2] }
  | _ => none }
def FnExactChangeGoodWrongFalsely : Prop := fnExactChangeGoodRow.holds Try.pinned (OpenSpec.ofChange fnExactChangeGoodWrong)

/-- 'laws.FnExactCanMake': WHATEVER THE INPUT: true; the input reads as it did. -/
def fnExactCanMakeSpec : ChangeSpec := { name := "fnExactCanMake", fn := fun _ => fun
  | [d1, d2] => { results := [.lit (.bool true)], args := [d1, d2] }
  | _ => none }
def fnExactCanMakeRow : OpenClaim := { program := "ytkpdicajinionaa", sum := "2a57905ecbeeacb2be9ef7e3346829712d6a3b7bf4bdef77324d60850d749fca", func := "loop.example/g01043/laws.FnExactCanMake", spec := "fnExactCanMake", unfollowed := true, recurses := true, apart := false }
def FnExactCanMakeSaid : Prop := fnExactCanMakeRow.holds Try.pinned (OpenSpec.ofChange fnExactCanMakeSpec)

/-- ITS FALSE NEIGHBOUR: 'it returns false'. Refute it at one input. -/
def fnExactCanMakeWrong : ChangeSpec := { name := "fnExactCanMake", fn := fun _ => fun
  | [d1, d2] => { results := [.lit (.bool false)], args := [d1, d2] }
  | _ => none }
def FnExactCanMakeWrongFalsely : Prop := fnExactCanMakeRow.holds Try.pinned (OpenSpec.ofChange fnExactCanMakeWrong)

/-- 'laws.FnExactAddGood': WHATEVER THE INPUT: true; the input reads as it did. -/
def fnExactAddGoodSpec : ChangeSpec := { name := "fnExactAddGood", fn := fun _ => fun
  | [d1, d2] => { results := [.lit (.bool true)], args := [d1, d2] }
  | _ => none }
def fnExactAddGoodRow : OpenClaim := { program := "ytkpdicajinionaa", sum := "2a57905ecbeeacb2be9ef7e3346829712d6a3b7bf4bdef77324d60850d749fca", func := "loop.example/g01043/laws.FnExactAddGood", spec := "fnExactAddGood", inPlace := ["slices.overlaps[loop.example/g01043/impl.Good]"], unfollowed := true, recurses := true, apart := false }
def FnExactAddGoodSaid : Prop := fnExactAddGoodRow.holds Try.pinned (OpenSpec.ofChange fnExactAddGoodSpec)

/-- ITS FALSE NEIGHBOUR: 'it returns false'. Refute it at one input. -/
def fnExactAddGoodWrong : ChangeSpec := { name := "fnExactAddGood", fn := fun _ => fun
  | [d1, d2] => { results := [.lit (.bool false)], args := [d1, d2] }
  | _ => none }
def FnExactAddGoodWrongFalsely : Prop := fnExactAddGoodRow.holds Try.pinned (OpenSpec.ofChange fnExactAddGoodWrong)

/-- 'laws.FnExactChangeGoods': WHATEVER THE INPUT: true; the input reads as it did. -/
def fnExactChangeGoodsSpec : ChangeSpec := { name := "fnExactChangeGoods", fn := fun _ => fun
  | [d1, d2] => { results := [.lit (.bool true)], args := [d1, d2] }
  | _ => none }
def fnExactChangeGoodsRow : OpenClaim := { program := "ytkpdicajinionaa", sum := "2a57905ecbeeacb2be9ef7e3346829712d6a3b7bf4bdef77324d60850d749fca", func := "loop.example/g01043/laws.FnExactChangeGoods", spec := "fnExactChangeGoods", unfollowed := true, recurses := true, apart := false }
def FnExactChangeGoodsSaid : Prop := fnExactChangeGoodsRow.holds Try.pinned (OpenSpec.ofChange fnExactChangeGoodsSpec)

/-- ITS FALSE NEIGHBOUR: 'it returns false'. Refute it at one input. -/
def fnExactChangeGoodsWrong : ChangeSpec := { name := "fnExactChangeGoods", fn := fun _ => fun
  | [d1, d2] => { results := [.lit (.bool false)], args := [d1, d2] }
  | _ => none }
def FnExactChangeGoodsWrongFalsely : Prop := fnExactChangeGoodsRow.holds Try.pinned (OpenSpec.ofChange fnExactChangeGoodsWrong)

/-- 'laws.FnReserves': WHATEVER THE INPUT: true; the input reads as it did. -/
def fnReservesSpec : ChangeSpec := { name := "fnReserves", fn := fun _ => fun
  | [d] => { results := [.lit (.bool true)], args := [d] }
  | _ => none }
def fnReservesRow : OpenClaim := { program := "ytkpdicajinionaa", sum := "2a57905ecbeeacb2be9ef7e3346829712d6a3b7bf4bdef77324d60850d749fca", func := "loop.example/g01043/laws.FnReserves", spec := "fnReserves", unfollowed := true, recurses := true, apart := false }
def FnReservesSaid : Prop := fnReservesRow.holds Try.pinned (OpenSpec.ofChange fnReservesSpec)

/-- ITS FALSE NEIGHBOUR: 'it returns false'. Refute it at one input. -/
def fnReservesWrong : ChangeSpec := { name := "fnReserves", fn := fun _ => fun
  | [d] => { results := [.lit (.bool false)], args := [d] }
  | _ => none }
def FnReservesWrongFalsely : Prop := fnReservesRow.holds Try.pinned (OpenSpec.ofChange fnReservesWrong)

/- THE SECOND FORM. 'bulk': how many values and letters a reading holds, each counted each time it is reached (what is shared counts as often as it is met; a slice's spare places count too). A statement '..UptoSaid' is the law's where the arguments, and the package variables that the reading takes, are together of bulk at most 1048576: NARROWER than '..Said'. Prove '..Said' where nothing that the law and all that it calls make is longer than what came in: it says more and counts as full. Else prove '..UptoSaid'. A law counts once. -/
mutual
def uptoBulk {H : Type} : DataW H → Nat
  | .lit (.string bytes) => bytes.length + 1
  | .lit _ => 1
  | .nil => 1
  | .ptr d => uptoBulk d + 1
  | .slice elems spare => uptoBulkAll elems + uptoBulkAll spare + 1
  | .agg parts => uptoBulkAll parts + 1
  | .iface _ d => uptoBulk d + 1
  | .map entries => uptoBulkEntries entries + 1
  | .held _ => 1
def uptoBulkAll {H : Type} : List (DataW H) → Nat
  | [] => 0
  | d :: r => uptoBulk d + uptoBulkAll r
def uptoBulkEntries {H : Type} : List (Lit × DataW H) → Nat
  | [] => 0
  | x :: r => uptoBulkEntry x + uptoBulkEntries r
def uptoBulkEntry {H : Type} : Lit × DataW H → Nat
  | (.string bytes, d) => bytes.length + uptoBulk d + 1
  | (_, d) => uptoBulk d + 1
 end
def uptoSmall : (H : Type) → List (DataW H) → Bool := fun _ ds => decide (uptoBulkAll ds ≤ 1048576)
def OpenSpec.upto (s : _root_.Go.ChangeSpec) : _root_.Go.OpenSpec := { _root_.Go.OpenSpec.ofChange s with cond := some uptoSmall }

/-- 'laws.FnExactSameGoods', WHERE WHAT IT READS IS OF BULK AT MOST 1048576: true; the input reads as it did. -/
def fnExactSameGoodsUptoRow : OpenClaim := { program := "ytkpdicajinionaa", sum := "2a57905ecbeeacb2be9ef7e3346829712d6a3b7bf4bdef77324d60850d749fca", func := "loop.example/g01043/laws.FnExactSameGoods", spec := "fnExactSameGoods", apart := false, narrowed := true }
def FnExactSameGoodsUptoSaid : Prop := fnExactSameGoodsUptoRow.holds Try.pinned (OpenSpec.upto fnExactSameGoodsSpec)

/-- 'laws.FnExactValidGoods', WHERE WHAT IT READS IS OF BULK AT MOST 1048576: true; the input reads as it did. -/
def fnExactValidGoodsUptoRow : OpenClaim := { program := "ytkpdicajinionaa", sum := "2a57905ecbeeacb2be9ef7e3346829712d6a3b7bf4bdef77324d60850d749fca", func := "loop.example/g01043/laws.FnExactValidGoods", spec := "fnExactValidGoods", apart := false, narrowed := true }
def FnExactValidGoodsUptoSaid : Prop := fnExactValidGoodsUptoRow.holds Try.pinned (OpenSpec.upto fnExactValidGoodsSpec)

/-- 'laws.FnExactShortGoods', WHERE WHAT IT READS IS OF BULK AT MOST 1048576: true; the input reads as it did. -/
def fnExactShortGoodsUptoRow : OpenClaim := { program := "ytkpdicajinionaa", sum := "2a57905ecbeeacb2be9ef7e3346829712d6a3b7bf4bdef77324d60850d749fca", func := "loop.example/g01043/laws.FnExactShortGoods", spec := "fnExactShortGoods", apart := false, narrowed := true }
def FnExactShortGoodsUptoSaid : Prop := fnExactShortGoodsUptoRow.holds Try.pinned (OpenSpec.upto fnExactShortGoodsSpec)

/-- 'laws.FnExactReserveGood', WHERE WHAT IT READS IS OF BULK AT MOST 1048576: true; the input reads as it did. -/
def fnExactReserveGoodUptoRow : OpenClaim := { program := "ytkpdicajinionaa", sum := "2a57905ecbeeacb2be9ef7e3346829712d6a3b7bf4bdef77324d60850d749fca", func := "loop.example/g01043/laws.FnExactReserveGood", spec := "fnExactReserveGood", unfollowed := true, recurses := true, apart := false, narrowed := true }
def FnExactReserveGoodUptoSaid : Prop := fnExactReserveGoodUptoRow.holds Try.pinned (OpenSpec.upto fnExactReserveGoodSpec)

/-- 'laws.FnExactUseReserved', WHERE WHAT IT READS IS OF BULK AT MOST 1048576: true; the input reads as it did. -/
def fnExactUseReservedUptoRow : OpenClaim := { program := "ytkpdicajinionaa", sum := "2a57905ecbeeacb2be9ef7e3346829712d6a3b7bf4bdef77324d60850d749fca", func := "loop.example/g01043/laws.FnExactUseReserved", spec := "fnExactUseReserved", unfollowed := true, recurses := true, apart := false, narrowed := true }
def FnExactUseReservedUptoSaid : Prop := fnExactUseReservedUptoRow.holds Try.pinned (OpenSpec.upto fnExactUseReservedSpec)

/-- 'laws.FnExactChangeGood', WHERE WHAT IT READS IS OF BULK AT MOST 1048576: true; the input reads as it did. -/
def fnExactChangeGoodUptoRow : OpenClaim := { program := "ytkpdicajinionaa", sum := "2a57905ecbeeacb2be9ef7e3346829712d6a3b7bf4bdef77324d60850d749fca", func := "loop.example/g01043/laws.FnExactChangeGood", spec := "fnExactChangeGood", unfollowed := true, recurses := true, apart := false, narrowed := true }
def FnExactChangeGoodUptoSaid : Prop := fnExactChangeGoodUptoRow.holds Try.pinned (OpenSpec.upto fnExactChangeGoodSpec)

/-- 'laws.FnExactCanMake', WHERE WHAT IT READS IS OF BULK AT MOST 1048576: true; the input reads as it did. -/
def fnExactCanMakeUptoRow : OpenClaim := { program := "ytkpdicajinionaa", sum := "2a57905ecbeeacb2be9ef7e3346829712d6a3b7bf4bdef77324d60850d749fca", func := "loop.example/g01043/laws.FnExactCanMake", spec := "fnExactCanMake", unfollowed := true, recurses := true, apart := false, narrowed := true }
def FnExactCanMakeUptoSaid : Prop := fnExactCanMakeUptoRow.holds Try.pinned (OpenSpec.upto fnExactCanMakeSpec)

/-- 'laws.FnExactAddGood', WHERE WHAT IT READS IS OF BULK AT MOST 1048576: true; the input reads as it did. -/
def fnExactAddGoodUptoRow : OpenClaim := { program := "ytkpdicajinionaa", sum := "2a57905ecbeeacb2be9ef7e3346829712d6a3b7bf4bdef77324d60850d749fca", func := "loop.example/g01043/laws.FnExactAddGood", spec := "fnExactAddGood", inPlace := ["slices.overlaps[loop.example/g01043/impl.Good]"], unfollowed := true, recurses := true, apart := false, narrowed := true }
def FnExactAddGoodUptoSaid : Prop := fnExactAddGoodUptoRow.holds Try.pinned (OpenSpec.upto fnExactAddGoodSpec)

/-- 'laws.FnExactChangeGoods', WHERE WHAT IT READS IS OF BULK AT MOST 1048576: true; the input reads as it did. -/
def fnExactChangeGoodsUptoRow : OpenClaim := { program := "ytkpdicajinionaa", sum := "2a57905ecbeeacb2be9ef7e3346829712d6a3b7bf4bdef77324d60850d749fca", func := "loop.example/g01043/laws.FnExactChangeGoods", spec := "fnExactChangeGoods", unfollowed := true, recurses := true, apart := false, narrowed := true }
def FnExactChangeGoodsUptoSaid : Prop := fnExactChangeGoodsUptoRow.holds Try.pinned (OpenSpec.upto fnExactChangeGoodsSpec)

/-- 'laws.FnReserves', WHERE WHAT IT READS IS OF BULK AT MOST 1048576: true; the input reads as it did. -/
def fnReservesUptoRow : OpenClaim := { program := "ytkpdicajinionaa", sum := "2a57905ecbeeacb2be9ef7e3346829712d6a3b7bf4bdef77324d60850d749fca", func := "loop.example/g01043/laws.FnReserves", spec := "fnReserves", unfollowed := true, recurses := true, apart := false, narrowed := true }
def FnReservesUptoSaid : Prop := fnReservesUptoRow.holds Try.pinned (OpenSpec.upto fnReservesSpec)

end Rows
end Go.Proofs.Ytkpdicajinionaa
