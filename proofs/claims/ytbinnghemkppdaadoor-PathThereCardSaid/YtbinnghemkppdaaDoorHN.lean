/- Contracts that the rest is written over: node.Name too. -/
import Derived.Test.YtbinnghemkppdaaDoorHD
import Derived.Test.YtbinnghemkppdaaDoorName
namespace Go.Proofs.YtbinnghemkppdaaDoor
open Go.RowKit Go.Proofs.YtbinnghemkppdaaDoorW.PrintWords
def node_Name.f (a0 : ByteArray) : Option Int := some (nameNo a0.data.toList)
theorem node_Name.calls (a0 : ByteArray) (r : Int) (w : World) (h : node_Name.f a0 = some r) :
    Calls Tryd.prog 36 #[.string a0] w fun e w' => e = .returned (.int .i64 r) ∧ Below w.heap.size w w' := by
  cases h
  exact name_calls a0 w
end Go.Proofs.YtbinnghemkppdaaDoor
