/-
  DERIVED. GIVEN WITH THE SEED: THE CARDS: each row of YtaknpcdnmecblaaGreatDoorRows.lean that lists a variable, with what it lists TIED to the program's text (the seventh form; the later family's looks); each row that meets fmt, with fmt's text TOLD by the authors' own Lean function (tested against real Go, not proved from fmt's source: count such statements apart). THE CARD IS WHAT COUNTS. Prove the row's statement (the work); the ties are given (YtaknpcdnmecblaaGreatDoorTie.lean); close each card by the builder's one call (the guide's Derived/Test/ToyasCard.lean, 'card_holds'). Laid BY PROGRAM, IN A SANDBOX (cutbox-door.mjs). By AI agents, Wed Nov 11 2026. No macro, syntax, notation, axiom, sorry.
-/
import Derived.Test.YtaknpcdnmecblaaGreatDoorRows
import GoSem.ClaimSeven
namespace Go.Proofs.YtaknpcdnmecblaaGreatDoor
namespace Rows

/-- THE TIED CARD OF 'laws.FnInstances'. -/
def fnInstancesCard : Claim7 := { stood := { row := fnInstancesRow, standIns := [], harness := (true, "30e9df63f99acb661a66e68cdee2d3cf6d56501d084e59bdfc2b05dd93490884"), looks := true }, kinds := [], alts := [], laidByText := true, laidKinds := [.handle], laidTests := true, laidLooks := .later }
def FnInstancesCardSaid : Prop := Claim7.holds Tryz.pinned (.plain (OpenSpec.ofChange fnInstancesSpec)) fnInstancesCard

/-- THE TIED CARD OF 'laws.FnExactDeltaInstance'. -/
def fnExactDeltaInstanceCard : Claim7 := { stood := { row := fnExactDeltaInstanceRow, standIns := [], harness := (true, "30e9df63f99acb661a66e68cdee2d3cf6d56501d084e59bdfc2b05dd93490884"), looks := true }, kinds := [], alts := [], laidByText := true, laidKinds := [.data, .data, .data, .handle], laidTests := true, laidLooks := .later }
def FnExactDeltaInstanceCardSaid : Prop := Claim7.holds Tryz.pinned (.plain (OpenSpec.ofChange fnExactDeltaInstanceSpec)) fnExactDeltaInstanceCard

/-- THE TIED CARD OF 'laws.FnExactParseInstance'. -/
def fnExactParseInstanceCard : Claim7 := { stood := { row := fnExactParseInstanceRow, standIns := [], harness := (true, "30e9df63f99acb661a66e68cdee2d3cf6d56501d084e59bdfc2b05dd93490884"), looks := true }, kinds := [], alts := [], laidByText := true, laidKinds := [.data, .data, .data, .data, .handle, .pinned], laidTests := true, laidLooks := .later }
def FnExactParseInstanceCardSaid : Prop := Claim7.holds Tryz.pinned (.plain (OpenSpec.ofChange fnExactParseInstanceSpec)) fnExactParseInstanceCard

/-- THE SECOND FORM's CARD OF 'laws.FnInstances'. -/
def fnInstancesUptoCard : Claim7 := { stood := { row := fnInstancesUptoRow, standIns := [], harness := (true, "30e9df63f99acb661a66e68cdee2d3cf6d56501d084e59bdfc2b05dd93490884"), looks := true }, kinds := [], alts := [], laidByText := true, laidKinds := [.handle], laidTests := true, laidLooks := .later }
def FnInstancesUptoCardSaid : Prop := Claim7.holds Tryz.pinned (.plain (OpenSpec.upto fnInstancesSpec)) fnInstancesUptoCard

/-- THE SECOND FORM's CARD OF 'laws.FnExactDeltaInstance'. -/
def fnExactDeltaInstanceUptoCard : Claim7 := { stood := { row := fnExactDeltaInstanceUptoRow, standIns := [], harness := (true, "30e9df63f99acb661a66e68cdee2d3cf6d56501d084e59bdfc2b05dd93490884"), looks := true }, kinds := [], alts := [], laidByText := true, laidKinds := [.data, .data, .data, .handle], laidTests := true, laidLooks := .later }
def FnExactDeltaInstanceUptoCardSaid : Prop := Claim7.holds Tryz.pinned (.plain (OpenSpec.upto fnExactDeltaInstanceSpec)) fnExactDeltaInstanceUptoCard

/-- THE SECOND FORM's CARD OF 'laws.FnExactParseInstance'. -/
def fnExactParseInstanceUptoCard : Claim7 := { stood := { row := fnExactParseInstanceUptoRow, standIns := [], harness := (true, "30e9df63f99acb661a66e68cdee2d3cf6d56501d084e59bdfc2b05dd93490884"), looks := true }, kinds := [], alts := [], laidByText := true, laidKinds := [.data, .data, .data, .data, .handle, .pinned], laidTests := true, laidLooks := .later }
def FnExactParseInstanceUptoCardSaid : Prop := Claim7.holds Tryz.pinned (.plain (OpenSpec.upto fnExactParseInstanceSpec)) fnExactParseInstanceUptoCard
end Rows
end Go.Proofs.YtaknpcdnmecblaaGreatDoor
