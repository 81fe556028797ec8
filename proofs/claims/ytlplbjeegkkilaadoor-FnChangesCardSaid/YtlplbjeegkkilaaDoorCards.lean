/-
  DERIVED. GIVEN WITH THE SEED: THE CARDS: each row of YtlplbjeegkkilaaDoorRows.lean that lists a variable, with what it lists TIED to the program's text (the seventh form; the later family's looks); each row that meets fmt, with fmt's text TOLD by the authors' own Lean function (tested against real Go, not proved from fmt's source: count such statements apart). THE CARD IS WHAT COUNTS. Prove the row's statement (the work); the ties are given (YtlplbjeegkkilaaDoorTie.lean); close each card by the builder's one call (the guide's Derived/Test/ToyasCard.lean, 'card_holds'). Laid BY PROGRAM, IN A SANDBOX (cutbox-door.mjs). By AI agents, Wed Nov 11 2026. No macro, syntax, notation, axiom, sorry.
-/
import Derived.Test.YtlplbjeegkkilaaDoorRows
import GoSem.ClaimSeven
namespace Go.Proofs.YtlplbjeegkkilaaDoor
namespace Rows

/-- THE TIED CARD OF 'laws.FnExactChangeText'. -/
def fnExactChangeTextCard : Claim7 := { stood := { row := fnExactChangeTextRow, standIns := [], harness := (true, "2b78fa2a62f1c1eb5828838037fa6ea035327ec3e7aea279af6a9a2595c43ce4"), looks := true }, kinds := [], alts := [], laidByText := true, laidKinds := [.data, .data, .data, .widerDeep], laidTests := true, laidLooks := .later }
def FnExactChangeTextCardSaid : Prop := Claim7.holds Tryd.pinned (.plain (OpenSpec.ofChange fnExactChangeTextSpec)) fnExactChangeTextCard

/-- THE TIED CARD OF 'laws.FnExactReadChange'. -/
def fnExactReadChangeCard : Claim7 := { stood := { row := fnExactReadChangeRow, standIns := [], harness := (true, "2b78fa2a62f1c1eb5828838037fa6ea035327ec3e7aea279af6a9a2595c43ce4"), looks := true }, kinds := [], alts := [], laidByText := true, laidKinds := [.data, .data, .data, .sentinel, .sentinel, .widerDeep], laidTests := true, laidLooks := .later }
def FnExactReadChangeCardSaid : Prop := Claim7.holds Tryd.pinned (.plain (OpenSpec.ofChange fnExactReadChangeSpec)) fnExactReadChangeCard

/-- THE TIED CARD OF 'laws.FnChanges'. -/
def fnChangesCard : Claim7 := { stood := { row := fnChangesRow, standIns := [], harness := (true, "2b78fa2a62f1c1eb5828838037fa6ea035327ec3e7aea279af6a9a2595c43ce4"), looks := true }, kinds := [], alts := [], laidByText := true, laidKinds := [.data, .data, .data, .sentinel, .sentinel, .widerDeep], laidTests := true, laidLooks := .later }
def FnChangesCardSaid : Prop := Claim7.holds Tryd.pinned (.plain (OpenSpec.ofChange fnChangesSpec)) fnChangesCard

/-- THE SECOND FORM's CARD OF 'laws.FnExactChangeText'. -/
def fnExactChangeTextUptoCard : Claim7 := { stood := { row := fnExactChangeTextUptoRow, standIns := [], harness := (true, "2b78fa2a62f1c1eb5828838037fa6ea035327ec3e7aea279af6a9a2595c43ce4"), looks := true }, kinds := [], alts := [], laidByText := true, laidKinds := [.data, .data, .data, .widerDeep], laidTests := true, laidLooks := .later }
def FnExactChangeTextUptoCardSaid : Prop := Claim7.holds Tryd.pinned (.plain (OpenSpec.upto fnExactChangeTextSpec)) fnExactChangeTextUptoCard

/-- THE SECOND FORM's CARD OF 'laws.FnExactReadChange'. -/
def fnExactReadChangeUptoCard : Claim7 := { stood := { row := fnExactReadChangeUptoRow, standIns := [], harness := (true, "2b78fa2a62f1c1eb5828838037fa6ea035327ec3e7aea279af6a9a2595c43ce4"), looks := true }, kinds := [], alts := [], laidByText := true, laidKinds := [.data, .data, .data, .sentinel, .sentinel, .widerDeep], laidTests := true, laidLooks := .later }
def FnExactReadChangeUptoCardSaid : Prop := Claim7.holds Tryd.pinned (.plain (OpenSpec.upto fnExactReadChangeSpec)) fnExactReadChangeUptoCard

/-- THE SECOND FORM's CARD OF 'laws.FnChanges'. -/
def fnChangesUptoCard : Claim7 := { stood := { row := fnChangesUptoRow, standIns := [], harness := (true, "2b78fa2a62f1c1eb5828838037fa6ea035327ec3e7aea279af6a9a2595c43ce4"), looks := true }, kinds := [], alts := [], laidByText := true, laidKinds := [.data, .data, .data, .sentinel, .sentinel, .widerDeep], laidTests := true, laidLooks := .later }
def FnChangesUptoCardSaid : Prop := Claim7.holds Tryd.pinned (.plain (OpenSpec.upto fnChangesSpec)) fnChangesUptoCard
end Rows
end Go.Proofs.YtlplbjeegkkilaaDoor
