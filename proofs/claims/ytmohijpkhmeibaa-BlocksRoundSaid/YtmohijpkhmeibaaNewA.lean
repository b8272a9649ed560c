import Derived.Test.YtmohijpkhmeibaaNew
import Derived.BigQuiet
import Derived.Deep.QuietTactic
import Derived.Deep.RegionWith
namespace Go.Proofs.Ytmohijpkhmeibaa
open Go.RowKit Go.Proofs Go.Proofs.YtmohijpkhmeibaaW.PrintWords
open PBlocksRound
set_option linter.unusedVariables false
set_option linter.unusedSimpArgs false
set_option maxRecDepth 100000
attribute [local go_sem high] PBlocksRound.eqA34
def placeB (B : Int) (n : Nat) (cursor last : Int) : Bool := !((n : Int) != B || decide (cursor < -1) || decide (cursor ≥ B) || decide (last < -1) || decide (last ≥ B))

set_option maxHeartbeats 4000000 in
theorem new_shape (B P S : Int) (A : Option Addr) (n c : Nat) (cursor last : Int) (w : World) (hf : fitsB B P S = false) :
    Calls Try.prog 26 #[.agg #[.int .i64 B, .int .i64 P, .int .i64 S], .slice A n c, .int .i64 cursor, .int .i64 last] w fun e w' => e = .returned (.tuple #[.pointer none, .int .i64 40]) ∧ Below w.heap.size w w' := by
  have V := Lib.hid (fun w => fits_calls B P S w)
  have HV := Lib.hid hf
  clear hf
  go_enter Try.func26, Try.ntmps26
  go_wp2_with (go_at_call 46; fail)
  refine (V.out _).mono ?_
  rw [HV.out]
  rintro e w1 ⟨rfl, hb⟩
  go_wp2
  refine bodyPost_ret (v := .tuple #[.pointer none, .int .i64 40]) (by simp [results, Try.results26, go_sem]) rfl ?_
  exact ⟨rfl, ((Below.refl _ _).alloc (Nat.le_refl _) _).trans (hb.mono (by rw [World.size_alloc]; omega))⟩

set_option maxHeartbeats 4000000 in
theorem new_place (B P S : Int) (A : Option Addr) (n c : Nat) (cursor last : Int) (w : World) (hf : fitsB B P S = true) (hp : placeB B n cursor last = false) :
    Calls Try.prog 26 #[.agg #[.int .i64 B, .int .i64 P, .int .i64 S], .slice A n c, .int .i64 cursor, .int .i64 last] w fun e w' => e = .returned (.tuple #[.pointer none, .int .i64 41]) ∧ Below w.heap.size w w' := by
  have V := Lib.hid (fun w => fits_calls B P S w)
  have HV := Lib.hid hf
  clear hf
  have all5 : ∀ b0 b1 b2 b3 b4 : Bool, ((n : Int) != B) = b0 → decide (cursor < -1) = b1 → decide (cursor ≥ B) = b2 → decide (last < -1) = b3 → decide (last ≥ B) = b4 → (b0 || b1 || b2 || b3 || b4) = true → Calls Try.prog 26 #[.agg #[.int .i64 B, .int .i64 P, .int .i64 S], .slice A n c, .int .i64 cursor, .int .i64 last] w fun e w' => e = .returned (.tuple #[.pointer none, .int .i64 41]) ∧ Below w.heap.size w w' := by
    intro b0 b1 b2 b3 b4 h0 h1 h2 h3 h4 hor
    have HO := Lib.hid hor
    clear hor hp
    go_enter Try.func26, Try.ntmps26
    go_wp2_with (go_at_call 46; fail)
    refine (V.out _).mono ?_
    rw [HV.out]
    rintro e w1 ⟨rfl, hb⟩
    have kb : Below w.heap.size w w1 := ((Below.refl _ _).alloc (Nat.le_refl _) _).trans (hb.mono (by rw [World.size_alloc]; omega))
    have kh := (hb.block w.heap.size (by rw [World.size_alloc]; omega)).trans (heap_alloc_new w _)
    have z0 := cell_of (o := 0) kh rfl
    have z1 := cell_of (o := 1) kh rfl
    have z2 := cell_of (o := 2) kh rfl
    have KB := Lib.hid kb
    clear kb kh hb
    go_wp2
    all_goals first
      | (exfalso
         have ho := HO.out
         simp only [Bool.or_eq_true] at ho
         rcases ho with (((h | h) | h) | h) | h <;> first | (exact absurd h (by assumption)) | (have h9 := h.symm.trans ‹b4 = false›; cases h9)
         done)
      | (refine bodyPost_ret (v := .tuple #[.pointer none, .int .i64 41]) (by simp [results, Try.results26, go_sem]) rfl ?_
         exact ⟨rfl, KB.out⟩)
  unfold placeB at hp
  simp only [Bool.not_eq_false'] at hp
  exact all5 _ _ _ _ _ rfl rfl rfl rfl rfl hp
end Go.Proofs.Ytmohijpkhmeibaa
