/- CONTRACTS: functors of maps of schemas: the reference's side, from opening on. -/
import Derived.Test.YtpnchponfnbmiaaGreatDoorGAO
namespace Go.D3
open Go
set_option maxHeartbeats 4000000
set_option maxRecDepth 100000
end Go.D3
