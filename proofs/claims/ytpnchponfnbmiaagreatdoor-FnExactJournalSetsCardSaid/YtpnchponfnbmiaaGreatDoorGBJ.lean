/- CONTRACTS: functors of maps of schemas: the reference's side, the code and the end. -/
import Derived.Test.YtpnchponfnbmiaaGreatDoorGBI
namespace Go.D3
open Go
set_option maxHeartbeats 4000000
set_option maxRecDepth 100000
end Go.D3
