/- 'FnInstances': whatever bytes are drawn from, the answers of the program about the instance that is drawn fit together. The card: the package-level variable of the type 'error' holds at the start what the program's own initialisation gives it. -/
import Derived.Test.YtaknpcdnmecblaaGreatDoorGBS
import Derived.Test.YtaknpcdnmecblaaGreatDoorGBT
namespace Go.Proofs.YtaknpcdnmecblaaGreatDoor
open Go
theorem fnInstances_proved:Rows.FnInstancesCardSaid:=fnInstances.O6 D3.Yz
#print axioms fnInstances_proved
end Go.Proofs.YtaknpcdnmecblaaGreatDoor
