/-
  DERIVED. GIVEN WITH THE SEED: THE CARDS: each row of YtkpdicajinionaaDoorRows.lean that lists a variable, with what it lists TIED to the program's text (the seventh form; the later family's looks); each row that meets fmt, with fmt's text TOLD by the authors' own Lean function (tested against real Go, not proved from fmt's source: count such statements apart). THE CARD IS WHAT COUNTS. Prove the row's statement (the work); the ties are given (YtkpdicajinionaaDoorTie.lean); close each card by the builder's one call (the guide's Derived/Test/ToyasCard.lean, 'card_holds'). Laid BY PROGRAM, IN A SANDBOX (cutbox-door.mjs). By AI agents, Wed Nov 11 2026. No macro, syntax, notation, axiom, sorry.
-/
import Derived.Test.YtkpdicajinionaaDoorRows
import GoSem.ClaimSeven
namespace Go.Proofs.YtkpdicajinionaaDoor
namespace Rows

/-- THE TIED CARD OF 'laws.FnExactGoodText'. -/
def fnExactGoodTextCard : Claim7 := { stood := { row := fnExactGoodTextRow, standIns := [], harness := (true, "9a4deee766b792d24f9418dcba3ef7c50abe38c4ac5b4c55bd1ec2dfb2e7a6b3"), looks := true }, kinds := [], alts := [], laidByText := true, laidKinds := [.data, .data, .data], laidTests := true, laidLooks := .later }
def FnExactGoodTextCardSaid : Prop := Claim7.holds Tryd.pinned (.plain (OpenSpec.ofChange fnExactGoodTextSpec)) fnExactGoodTextCard

/-- THE TIED CARD OF 'laws.FnExactReadGood'. -/
def fnExactReadGoodCard : Claim7 := { stood := { row := fnExactReadGoodRow, standIns := [], harness := (true, "9a4deee766b792d24f9418dcba3ef7c50abe38c4ac5b4c55bd1ec2dfb2e7a6b3"), looks := true }, kinds := [], alts := [], laidByText := true, laidKinds := [.data, .data, .data, .data, .sentinel, .sentinel, .pinned], laidTests := true, laidLooks := .later }
def FnExactReadGoodCardSaid : Prop := Claim7.holds Tryd.pinned (.plain (OpenSpec.ofChange fnExactReadGoodSpec)) fnExactReadGoodCard

/-- THE SECOND FORM's CARD OF 'laws.FnExactGoodText'. -/
def fnExactGoodTextUptoCard : Claim7 := { stood := { row := fnExactGoodTextUptoRow, standIns := [], harness := (true, "9a4deee766b792d24f9418dcba3ef7c50abe38c4ac5b4c55bd1ec2dfb2e7a6b3"), looks := true }, kinds := [], alts := [], laidByText := true, laidKinds := [.data, .data, .data], laidTests := true, laidLooks := .later }
def FnExactGoodTextUptoCardSaid : Prop := Claim7.holds Tryd.pinned (.plain (OpenSpec.upto fnExactGoodTextSpec)) fnExactGoodTextUptoCard

/-- THE SECOND FORM's CARD OF 'laws.FnExactReadGood'. -/
def fnExactReadGoodUptoCard : Claim7 := { stood := { row := fnExactReadGoodUptoRow, standIns := [], harness := (true, "9a4deee766b792d24f9418dcba3ef7c50abe38c4ac5b4c55bd1ec2dfb2e7a6b3"), looks := true }, kinds := [], alts := [], laidByText := true, laidKinds := [.data, .data, .data, .data, .sentinel, .sentinel, .pinned], laidTests := true, laidLooks := .later }
def FnExactReadGoodUptoCardSaid : Prop := Claim7.holds Tryd.pinned (.plain (OpenSpec.upto fnExactReadGoodSpec)) fnExactReadGoodUptoCard
end Rows
end Go.Proofs.YtkpdicajinionaaDoor
