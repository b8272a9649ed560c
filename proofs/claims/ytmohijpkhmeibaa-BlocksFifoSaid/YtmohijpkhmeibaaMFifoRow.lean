/- BlocksFifo's walk, its arguments in the order of the row. -/
import Derived.Test.YtmohijpkhmeibaaMFifoLaw
import Derived.Test.YtmohijpkhmeibaaMArgs
namespace Go.Proofs.Ytmohijpkhmeibaa
open Go.RowKit Go.Proofs.YtmohijpkhmeibaaW.PrintWords
open PBlocksRound
set_option linter.unusedVariables false
theorem fifo_row (B P S : Int) (A : Option Addr) (c : Nat) (l : List S34) {w : World} (hl : Kd.C k34 w A l.length l) (hc : l.length ≤ c) (hreach : l.length * 32 ≤ 140737488351232) (hwf : ∀ x, x ∈ l → 0 ≤ x.f1)
    (cursor : Int) (_h2 : (Lit.int .i64 cursor).wf = true) (last : Int) (_h3 : (Lit.int .i64 last).wf = true) :
    Calls Try.prog 4 #[.agg #[.int .i64 B, .int .i64 P, .int .i64 S], .slice A l.length c, .int .i64 cursor, .int .i64 last] w (LawEnd w) :=
  fifo_walk B P S A l c cursor last w hl hc hreach hwf
end Go.Proofs.Ytmohijpkhmeibaa
