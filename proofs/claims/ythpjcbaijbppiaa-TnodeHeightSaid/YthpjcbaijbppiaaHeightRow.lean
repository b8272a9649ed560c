/- TnodeHeight, its arguments in the order of the row. -/
import Derived.Test.YthpjcbaijbppiaaHeight
import Derived.Test.YthpjcbaijbppiaaOpenArgs
namespace Go.Proofs.Ythpjcbaijbppiaa
open Go.RowKit
set_option linter.unusedVariables false
theorem height_row (A : Option Addr) (c : Nat) (ks : List Int) {w : World} (hA : IntsAt w A ks) (hks : ks.length ≤ 17592186044416) (fr : Int) (_h : (Lit.int .i64 fr).wf = true) :
    Calls Try.prog 6 #[.slice A ks.length c, .int .i64 fr] w (HeadsEnd w) := height_walk ks hks A c fr w hA
end Go.Proofs.Ythpjcbaijbppiaa
