/- TnodeLast, its arguments in the order of the row. -/
import Derived.Test.YthpjcbaijbppiaaLast
import Derived.Test.YthpjcbaijbppiaaOpenArgs
namespace Go.Proofs.Ythpjcbaijbppiaa
open Go.RowKit
set_option linter.unusedVariables false
theorem last_row (A : Option Addr) (c : Nat) (ks : List Int) {w : World} (hA : IntsAt w A ks) (hks : ks.length ≤ 17592186044416) (ask : Int) (_h : (Lit.int .i64 ask).wf = true) :
    Calls Try.prog 4 #[.slice A ks.length c, .int .i64 ask] w (HeadsEnd w) := last_walk ks hks A c ask w hA
end Go.Proofs.Ythpjcbaijbppiaa
