/- Good of the program's book. -/
import Derived.Test.YtmohijpkhmeibaaBad
import Derived.Deep.RegionWith
import Derived.IntWalk
namespace Go.Proofs.Ytmohijpkhmeibaa
open Go.RowKit Go.Proofs
set_option linter.unusedVariables false
set_option linter.unusedSimpArgs false

def goodN (b : Bks) : Int := b.all.length - (cnt (inL [6, 4]) b.all : Nat)

set_option maxHeartbeats 2000000 in
theorem good_calls (p q cap : Nat) (b : Bks) (w : World) (hI : IsB w p q cap b) :
    Calls Try.prog 11 #[.pointer (some ⟨p, 0, none⟩)] w fun e w' => e = .returned (.int .i64 (goodN b)) ∧ Below w.heap.size w w' := by
  have c1 := hI.c1
  have hp := hI.plt
  have hle := hI.le
  have hcl := cnt_le (inL [6, 4]) b.all
  have HI := Lib.hid hI
  have HW : Hid (goodN b = b.all.length - (cnt (inL [6, 4]) b.all : Nat)) := Lib.hid rfl
  have hcon : ∀ W, Below w.heap.size w W → W.heap[w.heap.size]? = some (.cells #[.int .i64 6, .int .i64 4] 3 (0, 0)) → Calls Try.prog 35 #[.pointer (some ⟨p, 0, none⟩), .slice (some ⟨w.heap.size, 0, none⟩) 2 2] W fun e w' => e = .returned (.int .i64 (cnt (inL [6, 4]) b.all : Nat)) ∧ Below w.heap.size w w' ∧ w'.cell? ⟨p, 1, none⟩ = some (.slice (some ⟨q, 0, none⟩) b.all.length cap) := fun W hB ho => by
    refine Calls.mono (R := fun e w' => e = .returned (.int .i64 (cnt (inL [6, 4]) b.all : Nat)) ∧ Below W.heap.size W w') ?_ (fun e w' ⟨h1, h2⟩ => ⟨h1, hB.trans (h2.mono hB.size), (HI.out.below (hB.trans (h2.mono hB.size))).c1⟩)
    refine count_calls p q cap b w.heap.size 2 2 [6, 4] _ (HI.out.below hB) rfl (by omega) (fun j hj => ?_) (lt_of_heap ho)
    have hj' : j < 2 := hj
    refine cell_of ho ?_
    match j, hj' with
    | 0, _ => rfl
    | 1, _ => rfl
  have HC := Lib.hid hcon
  clear hI hcon
  go_enter Try.func11, Try.ntmps11
  go_wp2
  go_region_with (go_at_call 35; refine (HC.out _ (by exact (((Below.refl _ _).alloc (Nat.le_refl _) _).drew)) (by exact heap_alloc_new w _)).mono ?_; rintro e w1 ⟨rfl, hb, hc⟩)
  all_goals
    go_wp2
    refine bodyPost_ret (v := .int .i64 ((b.all.length : Int) - (cnt (inL [6, 4]) b.all : Nat))) (by simp [results, Try.results11, go_sem]; exact IntWalk.i64_in _ (by omega)) rfl ?_
    exact ⟨by rw [HW.out], hb⟩
end Go.Proofs.Ytmohijpkhmeibaa
