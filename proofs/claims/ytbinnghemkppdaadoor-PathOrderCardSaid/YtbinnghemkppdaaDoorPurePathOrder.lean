import Derived.Test.YtbinnghemkppdaaDoorPureO
namespace Go.Proofs.YtbinnghemkppdaaDoor.Pure
theorem PathOrder : Go.Proofs.YtbinnghemkppdaaDoor.PHDPathOrder.shalelaw16_PathOrder.Pure := Go.Proofs.YtbinnghemkppdaaDoor.PHDPathOrder.law_true
end Go.Proofs.YtbinnghemkppdaaDoor.Pure
