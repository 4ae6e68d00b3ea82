/-
  DERIVED. GIVEN WITH THE SEED: THE CARDS: each row of YtpnchponfnbmiaaGreatDoorRows.lean that lists a variable, with what it lists TIED to the program's text (the seventh form; the later family's looks); each row that meets fmt, with fmt's text TOLD by the authors' own Lean function (tested against real Go, not proved from fmt's source: count such statements apart). THE CARD IS WHAT COUNTS. Prove the row's statement (the work); the ties are given (YtpnchponfnbmiaaGreatDoorTie.lean); close each card by the builder's one call (the guide's Derived/Test/ToyasCard.lean, 'card_holds'). Laid BY PROGRAM, IN A SANDBOX (cutbox-door.mjs). By AI agents, Wed Nov 11 2026. No macro, syntax, notation, axiom, sorry.
-/
import Derived.Test.YtpnchponfnbmiaaGreatDoorRows
import GoSem.ClaimSeven
namespace Go.Proofs.YtpnchponfnbmiaaGreatDoor
namespace Rows

/-- THE TIED CARD OF 'laws.FnExactSchemaMapFunctor'. -/
def fnExactSchemaMapFunctorCard : Claim7 := { stood := { row := fnExactSchemaMapFunctorRow, standIns := [], harness := (true, "6769ceaaa9c9dc44b0c7b2cae48d0b421724b6f89ce4a0c11f1e844e3023073e"), looks := true }, kinds := [], alts := [], laidByText := true, laidKinds := [.handle], laidTests := true, laidLooks := .later }
def FnExactSchemaMapFunctorCardSaid : Prop := Claim7.holds Tryz.pinned (.plain (OpenSpec.ofChange fnExactSchemaMapFunctorSpec)) fnExactSchemaMapFunctorCard

/-- THE TIED CARD OF 'laws.FnExactThenSchemaMaps'. -/
def fnExactThenSchemaMapsCard : Claim7 := { stood := { row := fnExactThenSchemaMapsRow, standIns := [], harness := (true, "6769ceaaa9c9dc44b0c7b2cae48d0b421724b6f89ce4a0c11f1e844e3023073e"), looks := true }, kinds := [], alts := [], laidByText := true, laidKinds := [.data, .data, .data, .handle], laidTests := true, laidLooks := .later }
def FnExactThenSchemaMapsCardSaid : Prop := Claim7.holds Tryz.pinned (.plain (OpenSpec.ofChange fnExactThenSchemaMapsSpec)) fnExactThenSchemaMapsCard

/-- THE TIED CARD OF 'laws.FnExactJournalSets'. -/
def fnExactJournalSetsCard : Claim7 := { stood := { row := fnExactJournalSetsRow, standIns := [], harness := (true, "6769ceaaa9c9dc44b0c7b2cae48d0b421724b6f89ce4a0c11f1e844e3023073e"), looks := true }, kinds := [], alts := [], laidByText := true, laidKinds := [.data, .data, .data, .data, .handle, .sentinel, .sentinel, .sentinel, .pinned], laidTests := true, laidLooks := .later }
def FnExactJournalSetsCardSaid : Prop := Claim7.holds Tryz.pinned (.plain (OpenSpec.ofChange fnExactJournalSetsSpec)) fnExactJournalSetsCard

/-- THE SECOND FORM's CARD OF 'laws.FnExactSchemaMapFunctor'. -/
def fnExactSchemaMapFunctorUptoCard : Claim7 := { stood := { row := fnExactSchemaMapFunctorUptoRow, standIns := [], harness := (true, "6769ceaaa9c9dc44b0c7b2cae48d0b421724b6f89ce4a0c11f1e844e3023073e"), looks := true }, kinds := [], alts := [], laidByText := true, laidKinds := [.handle], laidTests := true, laidLooks := .later }
def FnExactSchemaMapFunctorUptoCardSaid : Prop := Claim7.holds Tryz.pinned (.plain (OpenSpec.upto fnExactSchemaMapFunctorSpec)) fnExactSchemaMapFunctorUptoCard

/-- THE SECOND FORM's CARD OF 'laws.FnExactThenSchemaMaps'. -/
def fnExactThenSchemaMapsUptoCard : Claim7 := { stood := { row := fnExactThenSchemaMapsUptoRow, standIns := [], harness := (true, "6769ceaaa9c9dc44b0c7b2cae48d0b421724b6f89ce4a0c11f1e844e3023073e"), looks := true }, kinds := [], alts := [], laidByText := true, laidKinds := [.data, .data, .data, .handle], laidTests := true, laidLooks := .later }
def FnExactThenSchemaMapsUptoCardSaid : Prop := Claim7.holds Tryz.pinned (.plain (OpenSpec.upto fnExactThenSchemaMapsSpec)) fnExactThenSchemaMapsUptoCard

/-- THE SECOND FORM's CARD OF 'laws.FnExactJournalSets'. -/
def fnExactJournalSetsUptoCard : Claim7 := { stood := { row := fnExactJournalSetsUptoRow, standIns := [], harness := (true, "6769ceaaa9c9dc44b0c7b2cae48d0b421724b6f89ce4a0c11f1e844e3023073e"), looks := true }, kinds := [], alts := [], laidByText := true, laidKinds := [.data, .data, .data, .data, .handle, .sentinel, .sentinel, .sentinel, .pinned], laidTests := true, laidLooks := .later }
def FnExactJournalSetsUptoCardSaid : Prop := Claim7.holds Tryz.pinned (.plain (OpenSpec.upto fnExactJournalSetsSpec)) fnExactJournalSetsUptoCard
end Rows
end Go.Proofs.YtpnchponfnbmiaaGreatDoor
