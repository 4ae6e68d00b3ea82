/-
  DERIVED. GIVEN WITH THE SEED: THE CARDS: each row of YtgieggnpnepkfaaGreatDoorRows.lean that lists a variable, with what it lists TIED to the program's text (the seventh form; the later family's looks); each row that meets fmt, with fmt's text TOLD by the authors' own Lean function (tested against real Go, not proved from fmt's source: count such statements apart). THE CARD IS WHAT COUNTS. Prove the row's statement (the work); the ties are given (YtgieggnpnepkfaaGreatDoorTie.lean); close each card by the builder's one call (the guide's Derived/Test/ToyasCard.lean, 'card_holds'). Laid BY PROGRAM, IN A SANDBOX (cutbox-door.mjs). By AI agents, Wed Nov 11 2026. No macro, syntax, notation, axiom, sorry.
-/
import Derived.Test.YtgieggnpnepkfaaGreatDoorRows
import GoSem.ClaimSeven
namespace Go.Proofs.YtgieggnpnepkfaaGreatDoor
namespace Rows

/-- THE TIED CARD OF 'laws.FnExactReadJournal'. -/
def fnExactReadJournalCard : Claim7 := { stood := { row := fnExactReadJournalRow, standIns := [], harness := (true, "c5799dda6c71236342bc9d0858a4201faa89f9381070a536533131dbbf781174"), looks := true }, kinds := [], alts := [], laidByText := true, laidKinds := [.data, .data, .data, .data, .sentinel, .sentinel, .sentinel, .pinned], laidTests := true, laidLooks := .later }
def FnExactReadJournalCardSaid : Prop := Claim7.holds Tryz.pinned (.plain (OpenSpec.ofChange fnExactReadJournalSpec)) fnExactReadJournalCard

/-- THE TIED CARD OF 'laws.FnExactJournalAt'. -/
def fnExactJournalAtCard : Claim7 := { stood := { row := fnExactJournalAtRow, standIns := [], harness := (true, "c5799dda6c71236342bc9d0858a4201faa89f9381070a536533131dbbf781174"), looks := true }, kinds := [], alts := [], laidByText := true, laidKinds := [.data, .data, .data, .data, .sentinel, .sentinel, .sentinel, .pinned], laidTests := true, laidLooks := .later }
def FnExactJournalAtCardSaid : Prop := Claim7.holds Tryz.pinned (.plain (OpenSpec.ofChange fnExactJournalAtSpec)) fnExactJournalAtCard

/-- THE TIED CARD OF 'laws.FnExactCompactJournal'. -/
def fnExactCompactJournalCard : Claim7 := { stood := { row := fnExactCompactJournalRow, standIns := [], harness := (true, "c5799dda6c71236342bc9d0858a4201faa89f9381070a536533131dbbf781174"), looks := true }, kinds := [], alts := [], laidByText := true, laidKinds := [.data, .data, .data, .data, .sentinel, .sentinel, .sentinel, .pinned], laidTests := true, laidLooks := .later }
def FnExactCompactJournalCardSaid : Prop := Claim7.holds Tryz.pinned (.plain (OpenSpec.ofChange fnExactCompactJournalSpec)) fnExactCompactJournalCard

/-- THE TIED CARD OF 'laws.FnExactCommitChanges'. -/
def fnExactCommitChangesCard : Claim7 := { stood := { row := fnExactCommitChangesRow, standIns := [], harness := (true, "c5799dda6c71236342bc9d0858a4201faa89f9381070a536533131dbbf781174"), looks := true }, kinds := [], alts := [], laidByText := true, laidKinds := [.data, .data, .data, .data, .sentinel, .sentinel, .sentinel, .pinned], laidTests := true, laidLooks := .later }
def FnExactCommitChangesCardSaid : Prop := Claim7.holds Tryz.pinned (.plain (OpenSpec.ofChange fnExactCommitChangesSpec)) fnExactCommitChangesCard

/-- THE SECOND FORM's CARD OF 'laws.FnExactReadJournal'. -/
def fnExactReadJournalUptoCard : Claim7 := { stood := { row := fnExactReadJournalUptoRow, standIns := [], harness := (true, "c5799dda6c71236342bc9d0858a4201faa89f9381070a536533131dbbf781174"), looks := true }, kinds := [], alts := [], laidByText := true, laidKinds := [.data, .data, .data, .data, .sentinel, .sentinel, .sentinel, .pinned], laidTests := true, laidLooks := .later }
def FnExactReadJournalUptoCardSaid : Prop := Claim7.holds Tryz.pinned (.plain (OpenSpec.upto fnExactReadJournalSpec)) fnExactReadJournalUptoCard

/-- THE SECOND FORM's CARD OF 'laws.FnExactJournalAt'. -/
def fnExactJournalAtUptoCard : Claim7 := { stood := { row := fnExactJournalAtUptoRow, standIns := [], harness := (true, "c5799dda6c71236342bc9d0858a4201faa89f9381070a536533131dbbf781174"), looks := true }, kinds := [], alts := [], laidByText := true, laidKinds := [.data, .data, .data, .data, .sentinel, .sentinel, .sentinel, .pinned], laidTests := true, laidLooks := .later }
def FnExactJournalAtUptoCardSaid : Prop := Claim7.holds Tryz.pinned (.plain (OpenSpec.upto fnExactJournalAtSpec)) fnExactJournalAtUptoCard

/-- THE SECOND FORM's CARD OF 'laws.FnExactCompactJournal'. -/
def fnExactCompactJournalUptoCard : Claim7 := { stood := { row := fnExactCompactJournalUptoRow, standIns := [], harness := (true, "c5799dda6c71236342bc9d0858a4201faa89f9381070a536533131dbbf781174"), looks := true }, kinds := [], alts := [], laidByText := true, laidKinds := [.data, .data, .data, .data, .sentinel, .sentinel, .sentinel, .pinned], laidTests := true, laidLooks := .later }
def FnExactCompactJournalUptoCardSaid : Prop := Claim7.holds Tryz.pinned (.plain (OpenSpec.upto fnExactCompactJournalSpec)) fnExactCompactJournalUptoCard

/-- THE SECOND FORM's CARD OF 'laws.FnExactCommitChanges'. -/
def fnExactCommitChangesUptoCard : Claim7 := { stood := { row := fnExactCommitChangesUptoRow, standIns := [], harness := (true, "c5799dda6c71236342bc9d0858a4201faa89f9381070a536533131dbbf781174"), looks := true }, kinds := [], alts := [], laidByText := true, laidKinds := [.data, .data, .data, .data, .sentinel, .sentinel, .sentinel, .pinned], laidTests := true, laidLooks := .later }
def FnExactCommitChangesUptoCardSaid : Prop := Claim7.holds Tryz.pinned (.plain (OpenSpec.upto fnExactCommitChangesSpec)) fnExactCommitChangesUptoCard
end Rows
end Go.Proofs.YtgieggnpnepkfaaGreatDoor
