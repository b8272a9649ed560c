/- TnodeCut, its arguments in the order of the row. -/
import Derived.Test.YthpjcbaijbppiaaCutLaw
import Derived.Test.YthpjcbaijbppiaaOpenArgs
namespace Go.Proofs.Ythpjcbaijbppiaa
open Go.RowKit
set_option linter.unusedVariables false
theorem cut_row (A : Option Addr) (c : Nat) (ks : List Int) {w : World} (hA : IntsAt w A ks) (hks : ks.length ≤ 17592186044416) (fr : Int) (_h : (Lit.int .i64 fr).wf = true)
    (M : Option Addr) (cm : Nat) (ms : List Int) (hM : IntsAt w M ms) (hms : ms.length ≤ 17592186044416) :
    Calls Try.prog 7 #[.slice A ks.length c, .int .i64 fr, .slice M ms.length cm] w (HeadsEnd w) := cut_law ks ms hks hms A M c cm fr w hA hM
end Go.Proofs.Ythpjcbaijbppiaa
