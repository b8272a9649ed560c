/- The law NodeChecks' walk: node.Check and the reference tell the same of every header. -/
import Derived.Test.YtljamhpdgmelcaaRefCheck
import Derived.Lib.QuietBelow
namespace Go.Proofs.Ytljamhpdgmelcaa
open Go.RowKit Go.Proofs Go.Sort
set_option linter.unusedVariables false
set_option linter.unusedSimpArgs false

set_option maxHeartbeats 1000000 in
theorem checks_calls (n : Nd) (w : World) :
    Calls Try.prog 4 #[n.v] w fun e w' => e = .returned (.bool true) ∧ Below w.heap.size w w' := by
  have c1 : ∀ W0 d os, Calls Try.prog 7 #[n.v] (grow (redrawn W0 d) os) fun e w'' => e = .returned (.int .i64 (checkNo n)) ∧ ∃ p : Regrown, w'' = grow (redrawn W0 p.d) p.os := fun W0 d os => Calls.regrown_of (check_calls n _)
  have c2 : ∀ W0 d os, Calls Try.prog 8 #[n.v] (grow (redrawn W0 d) os) fun e w'' => e = .returned (.int .i64 (checkNo n)) ∧ ∃ p : Regrown, w'' = grow (redrawn W0 p.d) p.os := fun W0 d os => Calls.regrown_of (refCheck_calls n _)
  unfold Nd.v at *
  go_enter Try.func4, Try.ntmps4
  go_wp2
  obtain ⟨W0, hW⟩ : ∃ W0, W0 = w.alloc (.cells #[.int .i64 n.ty, .int .i64 n.parent, .string n.name, .int .i64 n.size, .int .i64 n.mode, .int .u64 n.stamp, .int .i64 n.shadow, .string n.target] 28) := ⟨_, rfl⟩
  have hb : Below w.heap.size w W0 := hW ▸ (Below.refl _ _).alloc (Nat.le_refl _) _
  have hat : ∀ j v, (#[Value.int .i64 n.ty, .int .i64 n.parent, .string n.name, .int .i64 n.size, .int .i64 n.mode, .int .u64 n.stamp, .int .i64 n.shadow, .string n.target])[j]? = some v → W0.cell? ⟨w.heap.size, j, none⟩ = some v := fun j v h => by rw [hW, World.cell?_alloc_at _ _ _ _ rfl]; exact h
  have k0 := cell_regrown (hat 0 _ rfl)
  have k1 := cell_regrown (hat 1 _ rfl)
  have k2 := cell_regrown (hat 2 _ rfl)
  have k3 := cell_regrown (hat 3 _ rfl)
  have k4 := cell_regrown (hat 4 _ rfl)
  have k5 := cell_regrown (hat 5 _ rfl)
  have k6 := cell_regrown (hat 6 _ rfl)
  have k7 := cell_regrown (hat 7 _ rfl)
  rw [← hW]
  clear hW hat
  have c1' := c1 W0
  have c2' := c2 W0
  clear c1 c2
  refine wp_region_quiet_below (by kernel_rfl) (by kernel_rfl) ?_
  repeat (quiet_step (first | exact c1' _ _ | exact c2' _ _))
  refine wpQuiet_nil ?_
  intro _ hw'
  obtain ⟨⟨dq, osq⟩, hw''⟩ := hw'
  subst hw''
  go_wp2
  go_ret
  exact ⟨rfl, hb.trans ((below_regrown W0 dq osq).mono hb.size)⟩
end Go.Proofs.Ytljamhpdgmelcaa
