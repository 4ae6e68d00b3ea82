/- errors.Is, errors.Join, strings.IndexFunc: contracts. The walks of errors.Is are turned from the kit's worked SentryIs. -/
import Derived.Test.YtpnchponfnbmiaaGreatDoorGAS
import Derived.Test.YtpnchponfnbmiaaGreatDoorChecked
import Derived.WalkKit
import Derived.LaidEql
import Derived.Stop.Asserts
import Derived.RowKitTokens
namespace Go.D3
open Go Go.RowKit Go.Extern.Stop Go.Stop Go.Extern
set_option maxRecDepth 100000
end Go.D3
