/- The row of 'FnExactJournalSets': the closed facts about the program, by themselves (they take much memory). -/
import Derived.Test.YtpnchponfnbmiaaGreatDoorRows
import Derived.JoinedCond
import Derived.KernelRfl
namespace Go.Proofs.YtpnchponfnbmiaaGreatDoor
open Go
namespace fnExactJournalSets
theorem OS:joinedFacts Go.Proofs.Tryz.prog 5 Go.Proofs.Tryz.f5 (OpenSpec.ofChange Rows.fnExactJournalSetsSpec).bare Rows.fnExactJournalSetsRow=true:=by kernel_rfl
end fnExactJournalSets
end Go.Proofs.YtpnchponfnbmiaaGreatDoor
