/- TnodePlays, its arguments in the order of the row. -/
import Derived.Test.YthpjcbaijbppiaaPlaysWalk
import Derived.Test.YthpjcbaijbppiaaOpenOps
namespace Go.Proofs.Ythpjcbaijbppiaa
open Go.RowKit
set_option linter.unusedVariables false
theorem plays_row (A : Option Addr) (c : Nat) (os : List (Int × Int × Int)) {w : World} (hA : OpsAt w A os) (hos : os.length ≤ 17592186044416) (T : Option Addr) (ct : Nat) (ts : List (Int × Int × Int)) (hT : OpsAt w T ts) (hts : ts.length ≤ 17592186044416) :
    Calls Try.prog 3 #[.slice A os.length c, .slice T ts.length ct] w (HeadsEnd w) := plays_walk os ts hos hts A c T ct w hA hT
end Go.Proofs.Ythpjcbaijbppiaa
