/- Walks of package odometer and of its reference: what each function returns. -/
import Derived.Test.YthkknagicdanfaaWTrain
import Derived.Test.YthkknagicdanfaaTail
set_option linter.unusedVariables false
set_option linter.unusedSimpArgs false
namespace Go.Proofs.Ythkknagicdanfaa
open Go.ChangeShapes Go.WideShapes Go.ChangeAt Go.RowKit
open Sg

end Go.Proofs.Ythkknagicdanfaa
