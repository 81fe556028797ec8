/-
  DERIVED. GIVEN WITH THE SEED: THE CARDS: each row of YtkjjjbfpecmieaaDoorRows.lean that lists a variable, with what it lists TIED to the program's text (the seventh form; the later family's looks); each row that meets fmt, with fmt's text TOLD by the authors' own Lean function (tested against real Go, not proved from fmt's source: count such statements apart). THE CARD IS WHAT COUNTS. Prove the row's statement (the work); the ties are given (YtkjjjbfpecmieaaDoorTie.lean); close each card by the builder's one call (the guide's Derived/Test/ToyasCard.lean, 'card_holds'). Laid BY PROGRAM, IN A SANDBOX (cutbox-door.mjs). By AI agents, Wed Nov 11 2026. No macro, syntax, notation, axiom, sorry.
-/
import Derived.Test.YtkjjjbfpecmieaaDoorRows
import GoSem.ClaimSeven
namespace Go.Proofs.YtkjjjbfpecmieaaDoor
namespace Rows

/-- THE TIED CARD OF 'laws.FnExactClausesOf'. -/
def fnExactClausesOfCard : Claim7 := { stood := { row := fnExactClausesOfRow, standIns := [], harness := (true, "21a82ab5af9187f0ae5c926a918356c01a2ae930fd8bc9d87c39c5ff30fa42de"), looks := true }, kinds := [], alts := [], laidByText := true, laidKinds := [.data, .pinned], laidTests := true, laidLooks := .later }
def FnExactClausesOfCardSaid : Prop := Claim7.holds Tryd.pinned (.plain (OpenSpec.ofChange fnExactClausesOfSpec)) fnExactClausesOfCard

/-- THE TIED CARD OF 'laws.FnExactDiffStyles'. -/
def fnExactDiffStylesCard : Claim7 := { stood := { row := fnExactDiffStylesRow, standIns := [], harness := (true, "21a82ab5af9187f0ae5c926a918356c01a2ae930fd8bc9d87c39c5ff30fa42de"), looks := true }, kinds := [], alts := [], laidByText := true, laidKinds := [.data, .data, .data], laidTests := true, laidLooks := .later }
def FnExactDiffStylesCardSaid : Prop := Claim7.holds Tryd.pinned (.plain (OpenSpec.ofChange fnExactDiffStylesSpec)) fnExactDiffStylesCard

/-- THE TIED CARD OF 'laws.FnExactStyleText'. -/
def fnExactStyleTextCard : Claim7 := { stood := { row := fnExactStyleTextRow, standIns := [], harness := (true, "21a82ab5af9187f0ae5c926a918356c01a2ae930fd8bc9d87c39c5ff30fa42de"), looks := true }, kinds := [], alts := [], laidByText := true, laidKinds := [.data, .data, .data], laidTests := true, laidLooks := .later }
def FnExactStyleTextCardSaid : Prop := Claim7.holds Tryd.pinned (.plain (OpenSpec.ofChange fnExactStyleTextSpec)) fnExactStyleTextCard

/-- THE TIED CARD OF 'laws.FnExactCheckStyle'. -/
def fnExactCheckStyleCard : Claim7 := { stood := { row := fnExactCheckStyleRow, standIns := [], harness := (true, "21a82ab5af9187f0ae5c926a918356c01a2ae930fd8bc9d87c39c5ff30fa42de"), looks := true }, kinds := [], alts := [], laidByText := true, laidKinds := [.data, .data, .data, .data, .sentinel, .sentinel, .pinned], laidTests := true, laidLooks := .later }
def FnExactCheckStyleCardSaid : Prop := Claim7.holds Tryd.pinned (.plain (OpenSpec.ofChange fnExactCheckStyleSpec)) fnExactCheckStyleCard

/-- THE TIED CARD OF 'laws.FnExactReadStyle'. -/
def fnExactReadStyleCard : Claim7 := { stood := { row := fnExactReadStyleRow, standIns := [], harness := (true, "21a82ab5af9187f0ae5c926a918356c01a2ae930fd8bc9d87c39c5ff30fa42de"), looks := true }, kinds := [], alts := [], laidByText := true, laidKinds := [.data, .data, .data, .data, .sentinel, .sentinel, .pinned], laidTests := true, laidLooks := .later }
def FnExactReadStyleCardSaid : Prop := Claim7.holds Tryd.pinned (.plain (OpenSpec.ofChange fnExactReadStyleSpec)) fnExactReadStyleCard

/-- THE SECOND FORM's CARD OF 'laws.FnExactClausesOf'. -/
def fnExactClausesOfUptoCard : Claim7 := { stood := { row := fnExactClausesOfUptoRow, standIns := [], harness := (true, "21a82ab5af9187f0ae5c926a918356c01a2ae930fd8bc9d87c39c5ff30fa42de"), looks := true }, kinds := [], alts := [], laidByText := true, laidKinds := [.data, .pinned], laidTests := true, laidLooks := .later }
def FnExactClausesOfUptoCardSaid : Prop := Claim7.holds Tryd.pinned (.plain (OpenSpec.upto fnExactClausesOfSpec)) fnExactClausesOfUptoCard

/-- THE SECOND FORM's CARD OF 'laws.FnExactDiffStyles'. -/
def fnExactDiffStylesUptoCard : Claim7 := { stood := { row := fnExactDiffStylesUptoRow, standIns := [], harness := (true, "21a82ab5af9187f0ae5c926a918356c01a2ae930fd8bc9d87c39c5ff30fa42de"), looks := true }, kinds := [], alts := [], laidByText := true, laidKinds := [.data, .data, .data], laidTests := true, laidLooks := .later }
def FnExactDiffStylesUptoCardSaid : Prop := Claim7.holds Tryd.pinned (.plain (OpenSpec.upto fnExactDiffStylesSpec)) fnExactDiffStylesUptoCard

/-- THE SECOND FORM's CARD OF 'laws.FnExactStyleText'. -/
def fnExactStyleTextUptoCard : Claim7 := { stood := { row := fnExactStyleTextUptoRow, standIns := [], harness := (true, "21a82ab5af9187f0ae5c926a918356c01a2ae930fd8bc9d87c39c5ff30fa42de"), looks := true }, kinds := [], alts := [], laidByText := true, laidKinds := [.data, .data, .data], laidTests := true, laidLooks := .later }
def FnExactStyleTextUptoCardSaid : Prop := Claim7.holds Tryd.pinned (.plain (OpenSpec.upto fnExactStyleTextSpec)) fnExactStyleTextUptoCard

/-- THE SECOND FORM's CARD OF 'laws.FnExactCheckStyle'. -/
def fnExactCheckStyleUptoCard : Claim7 := { stood := { row := fnExactCheckStyleUptoRow, standIns := [], harness := (true, "21a82ab5af9187f0ae5c926a918356c01a2ae930fd8bc9d87c39c5ff30fa42de"), looks := true }, kinds := [], alts := [], laidByText := true, laidKinds := [.data, .data, .data, .data, .sentinel, .sentinel, .pinned], laidTests := true, laidLooks := .later }
def FnExactCheckStyleUptoCardSaid : Prop := Claim7.holds Tryd.pinned (.plain (OpenSpec.upto fnExactCheckStyleSpec)) fnExactCheckStyleUptoCard

/-- THE SECOND FORM's CARD OF 'laws.FnExactReadStyle'. -/
def fnExactReadStyleUptoCard : Claim7 := { stood := { row := fnExactReadStyleUptoRow, standIns := [], harness := (true, "21a82ab5af9187f0ae5c926a918356c01a2ae930fd8bc9d87c39c5ff30fa42de"), looks := true }, kinds := [], alts := [], laidByText := true, laidKinds := [.data, .data, .data, .data, .sentinel, .sentinel, .pinned], laidTests := true, laidLooks := .later }
def FnExactReadStyleUptoCardSaid : Prop := Claim7.holds Tryd.pinned (.plain (OpenSpec.upto fnExactReadStyleSpec)) fnExactReadStyleUptoCard
end Rows
end Go.Proofs.YtkjjjbfpecmieaaDoor
