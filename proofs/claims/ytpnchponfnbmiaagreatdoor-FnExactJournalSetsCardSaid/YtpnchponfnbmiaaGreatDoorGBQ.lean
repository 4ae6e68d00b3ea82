/- 'FnExactJournalSets': whatever the text, the program's JournalSets answers as the reference does, and shares no memory. The card: the package-level variables that are listed (errors, tables of numbers, the type 'error') hold at the start what the program's text lays. No further conditions. -/
import Derived.Test.YtpnchponfnbmiaaGreatDoorGBM
import Derived.Test.YtpnchponfnbmiaaGreatDoorGBP
namespace Go.Proofs.YtpnchponfnbmiaaGreatDoor
open Go
theorem fnExactJournalSets_proved:Rows.FnExactJournalSetsCardSaid:=fnExactJournalSets.OD D3.Yn
#print axioms fnExactJournalSets_proved
end Go.Proofs.YtpnchponfnbmiaaGreatDoor
