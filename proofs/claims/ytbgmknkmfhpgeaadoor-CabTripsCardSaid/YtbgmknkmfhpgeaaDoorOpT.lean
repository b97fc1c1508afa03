/- What is known of the arguments, and of the table. -/
import Derived.Test.YtbgmknkmfhpgeaaDoorOpenCab
import Derived.Test.YtbgmknkmfhpgeaaDoorTabC
namespace Go.Proofs.YtbgmknkmfhpgeaaDoor
theorem opt_ok : True := trivial
end Go.Proofs.YtbgmknkmfhpgeaaDoor
