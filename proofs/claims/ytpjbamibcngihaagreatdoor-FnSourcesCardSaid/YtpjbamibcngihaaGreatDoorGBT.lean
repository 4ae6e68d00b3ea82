/- 'FnSources': whatever the code that a journal and a place in it are drawn from,the program's SetBy answers as the reference does,and from the transaction that it tells on all states have the value of now. The card: package-level variables hold at the start what the program's text lays. No further conditions. -/
import Derived.Test.YtpjbamibcngihaaGreatDoorGBQ
import Derived.Test.YtpjbamibcngihaaGreatDoorGBS
namespace Go.Proofs.YtpjbamibcngihaaGreatDoor
open Go
theorem fnSources_proved:Rows.FnSourcesCardSaid:=fnSources.V1 D3.KT
#print axioms fnSources_proved
end Go.Proofs.YtpjbamibcngihaaGreatDoor
