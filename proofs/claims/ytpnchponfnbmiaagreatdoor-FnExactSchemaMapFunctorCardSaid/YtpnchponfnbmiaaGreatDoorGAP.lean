/- The row of 'FnExactSchemaMapFunctor': the closed facts about the program, by themselves (they take much memory). -/
import Derived.Test.YtpnchponfnbmiaaGreatDoorRows
import Derived.JoinedCond
import Derived.KernelRfl
namespace Go.Proofs.YtpnchponfnbmiaaGreatDoor
open Go
namespace fnExactSchemaMapFunctor
theorem closedF:joinedFacts Go.Proofs.Tryz.prog 3 Go.Proofs.Tryz.f3 (OpenSpec.ofChange Rows.fnExactSchemaMapFunctorSpec).bare Rows.fnExactSchemaMapFunctorRow=true:=by kernel_rfl
end fnExactSchemaMapFunctor
end Go.Proofs.YtpnchponfnbmiaaGreatDoor
