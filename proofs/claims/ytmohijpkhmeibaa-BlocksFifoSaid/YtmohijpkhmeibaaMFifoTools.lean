/- BlocksFifo: what its walk borrows (the same lines stand in Plays and in MayWalk; the claim of BlocksFifo has no room for those texts whole). -/
import Derived.Test.YtmohijpkhmeibaaMDo
import Derived.Test.YtmohijpkhmeibaaMAct
import Derived.Deep.DeepCutAuto
namespace Go.Proofs.Ytmohijpkhmeibaa
open Go.RowKit Go.Proofs Go.Proofs.YtmohijpkhmeibaaW.PrintWords
open PBlocksRound
def LawEnd (w : World) (e : Ending) (W : World) : Prop := e = .returned (.bool true) ∧ Below w.heap.size w W
theorem list_at (p q cap n : Nat) (b : Bks) (w : World) (hI : IsB w p q cap b) (hn : b.all.length = n) :
    Calls Try.prog 16 #[.pointer (some ⟨p, 0, none⟩)] w fun e w' => ∃ g c, e = .returned (.slice (some ⟨g, 0, none⟩) n c) ∧ w.heap.size ≤ g ∧ Rows4 w' g b.all ∧ n ≤ c ∧ Below w.heap.size w w' := by
  subst hn
  exact list_shape p q cap b w hI
end Go.Proofs.Ytmohijpkhmeibaa
