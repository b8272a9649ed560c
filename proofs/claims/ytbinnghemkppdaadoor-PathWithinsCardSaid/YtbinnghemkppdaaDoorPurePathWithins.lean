import Derived.Test.YtbinnghemkppdaaDoorPureW
namespace Go.Proofs.YtbinnghemkppdaaDoor.Pure
theorem PathWithins : Go.Proofs.YtbinnghemkppdaaDoor.PHDPathWithins.shalelaw16_PathWithins.Pure := Go.Proofs.YtbinnghemkppdaaDoor.PHDPathWithins.law_true
end Go.Proofs.YtbinnghemkppdaaDoor.Pure
