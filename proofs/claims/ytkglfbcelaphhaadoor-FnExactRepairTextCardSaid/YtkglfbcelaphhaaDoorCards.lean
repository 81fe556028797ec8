/-
  DERIVED. GIVEN WITH THE SEED: THE CARDS: each row of YtkglfbcelaphhaaDoorRows.lean that lists a variable, with what it lists TIED to the program's text (the seventh form; the later family's looks); each row that meets fmt, with fmt's text TOLD by the authors' own Lean function (tested against real Go, not proved from fmt's source: count such statements apart). THE CARD IS WHAT COUNTS. Prove the row's statement (the work); the ties are given (YtkglfbcelaphhaaDoorTie.lean); close each card by the builder's one call (the guide's Derived/Test/ToyasCard.lean, 'card_holds'). Laid BY PROGRAM, IN A SANDBOX (cutbox-door.mjs). By AI agents, Wed Nov 11 2026. No macro, syntax, notation, axiom, sorry.
-/
import Derived.Test.YtkglfbcelaphhaaDoorRows
import GoSem.ClaimSeven
namespace Go.Proofs.YtkglfbcelaphhaaDoor
namespace Rows

/-- THE TIED CARD OF 'laws.FnExactRepairText'. -/
def fnExactRepairTextCard : Claim7 := { stood := { row := fnExactRepairTextRow, standIns := [], harness := (true, "d67bb7d709e4c0ec3393932008a74a65f494127886df9712a7b9c02adb78a490"), looks := false }, kinds := [], alts := [], laidByText := true, laidKinds := [.data, .data, .data], laidTests := true, laidLooks := .later }
def FnExactRepairTextCardSaid : Prop := Claim7.holds Tryd.pinned (.plain (OpenSpec.ofChange fnExactRepairTextSpec)) fnExactRepairTextCard

/-- THE SECOND FORM's CARD OF 'laws.FnExactRepairText'. -/
def fnExactRepairTextUptoCard : Claim7 := { stood := { row := fnExactRepairTextUptoRow, standIns := [], harness := (true, "d67bb7d709e4c0ec3393932008a74a65f494127886df9712a7b9c02adb78a490"), looks := false }, kinds := [], alts := [], laidByText := true, laidKinds := [.data, .data, .data], laidTests := true, laidLooks := .later }
def FnExactRepairTextUptoCardSaid : Prop := Claim7.holds Tryd.pinned (.plain (OpenSpec.upto fnExactRepairTextSpec)) fnExactRepairTextUptoCard
end Rows
end Go.Proofs.YtkglfbcelaphhaaDoor
