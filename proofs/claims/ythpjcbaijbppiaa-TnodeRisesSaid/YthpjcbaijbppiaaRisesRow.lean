/- TnodeRises, its arguments in the order of the row. -/
import Derived.Test.YthpjcbaijbppiaaRises
import Derived.Test.YthpjcbaijbppiaaOpenArgs
namespace Go.Proofs.Ythpjcbaijbppiaa
open Go.RowKit
set_option linter.unusedVariables false
theorem rises_row (A : Option Addr) (c : Nat) (ks : List Int) {w : World} (hA : IntsAt w A ks) (hks : ks.length ≤ 17592186044416) :
    Calls Try.prog 5 #[.slice A ks.length c] w (HeadsEnd w) := rises_walk ks hks A c w hA
end Go.Proofs.Ythpjcbaijbppiaa
