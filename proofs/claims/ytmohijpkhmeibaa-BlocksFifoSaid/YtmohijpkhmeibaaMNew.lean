/- sound: is a block as its state wants? -/
import Derived.Test.YtmohijpkhmeibaaMBase
import Derived.Test.YtmohijpkhmeibaaPBlocksRoundx1
import Derived.Test.YtmohijpkhmeibaaPBlocksRoundx2
import Derived.BigQuiet
import Derived.Deep.QuietTactic
import Derived.Maps.Views
import Derived.Maps.OwnSet
import Derived.Deep.DeepCutAuto
import Derived.Deep.LoopGhost
import Derived.Deep.RegionLaw
import Derived.Maps.Own
import Derived.Deep.RegionWith
import Derived.Test.YtmohijpkhmeibaaPBlocksRoundx5
import Derived.Test.YtmohijpkhmeibaaPBlocksRoundx4
import Derived.Test.YtmohijpkhmeibaaWMore
namespace Go.Proofs.Ytmohijpkhmeibaa
open Go.RowKit Go.Proofs Go.Proofs.YtmohijpkhmeibaaW.PrintWords
open PBlocksRound
set_option linter.unusedVariables false
set_option linter.unusedSimpArgs false
attribute [local go_sem high] PBlocksRound.eqA34

def PBlocksRound.S34.v (x : S34) : Value := .agg #[.int .i64 x.f0, .int .u64 x.f1, .bool x.f2, .int .i64 x.f3]
theorem lt_of_cell {w : World} {a : Addr} {v : Value} (h : w.cell? a = some v) : a.block < w.heap.size := by
  unfold World.cell? at h
  by_cases hlt : a.block < w.heap.size
  · exact hlt
  · rw [Array.getElem?_eq_none (by omega)] at h
    cases h
def vacB (s : Int) : Bool := s == 0 || s == 5 || s == 6
def soundB (pages : Int) (x : S34) : Bool :=
  if vacB x.f0 then x.f1 == 0 && (!x.f2 && x.f3 == 0)
  else if x.f0 < 0 ∨ 6 < x.f0 ∨ x.f1 = 0 ∨ 281474976710655 < x.f1 ∨ x.f3 < 0 ∨ pages ≤ x.f3 then false
  else if x.f0 = 1 then x.f2 || decide (0 < x.f3) else if x.f0 = 3 then x.f3 == 0 else true
theorem vac_calls (s : Int) (w : World) : Calls Try.prog 48 #[.int .i64 s] w fun e w' => e = .returned (.bool (vacB s)) ∧ ∃ n, w' = w.drewN n := by
  refine (blocks_vacant.calls s (vacB s) w ?_).mono fun e w' h => ?_
  · unfold blocks_vacant.f vacB
    by_cases h0 : s = 0
    · rw [if_pos h0]; simp [h0]
    by_cases h5 : s = 5
    · rw [if_neg h0, if_pos h5]; simp [h5]
    · rw [if_neg h0, if_neg h5]; simp [h0, h5]
  · exact ⟨h.1, h.2.out⟩
def Told (b : Bool) (w : World) (e : Ending) (w' : World) : Prop := e = .returned (.bool b) ∧ Below w.heap.size w w'

set_option maxHeartbeats 2000000 in
theorem sound_vac (p : Nat) (x : S34) (w : World) (hv : vacB x.f0 = true) : Calls Try.prog 47 #[.pointer (some ⟨p, 0, none⟩), x.v] w (Told (x.f1 == 0 && (!x.f2 && x.f3 == 0)) w) := by
  obtain ⟨a, b, c, d⟩ := x
  unfold PBlocksRound.S34.v
  simp only at hv ⊢
  have V := Lib.hid (fun w => vac_calls a w)
  have HV := Lib.hid hv
  clear hv
  go_enter Try.func47, Try.ntmps47
  go_wp2_with (go_at_call 48; fail)
  refine (V.out _).mono ?_
  rw [HV.out]
  rintro e w1 ⟨rfl, n, rfl⟩
  go_wp2
  go_ret
  exact ⟨by simp, pw_below_drewN ((Below.refl _ _).alloc (Nat.le_refl _) _) _⟩

set_option maxHeartbeats 4000000 in
theorem sound_non (p : Nat) (pages : Int) (x : S34) (w : World) (hp : w.cell? ⟨p, 0, none⟩ = some (.int .i64 pages)) (hv : vacB x.f0 = false) : Calls Try.prog 47 #[.pointer (some ⟨p, 0, none⟩), x.v] w (Told (soundB pages x) w) := by
  obtain ⟨s, hs⟩ : ∃ s, soundB pages x = s := ⟨_, rfl⟩
  rw [hs]
  unfold soundB at hs
  rw [hv] at hs
  obtain ⟨a, b, c, d⟩ := x
  unfold PBlocksRound.S34.v
  simp only [Bool.false_eq_true, if_false] at hs hv ⊢
  have V := Lib.hid (fun w => vac_calls a w)
  have HV := Lib.hid hv
  have HS := Lib.hid hs
  have hpn := World.new_ne w ⟨p, 0, none⟩ hp
  clear hv hs
  have HP := Lib.hid hp
  clear hp hpn
  by_cases h0 : a < 0
  · have hs' : s = false := by rw [← HS.out, if_pos (by simp only [h0, true_or, or_true])]
    have e0 : decide (a < 0) = true := decide_eq_true h0
    subst hs'
    clear HS h0
    go_enter Try.func47, Try.ntmps47
    go_wp2_with (go_at_call 48; fail)
    refine (V.out _).mono ?_
    rw [HV.out]
    rintro e w1 ⟨rfl, n, rfl⟩
    have kb : Below w.heap.size w ((w.alloc (.cells #[.int .i64 a, .int .u64 b, .bool c, .int .i64 d] 34)).drewN n) := pw_below_drewN ((Below.refl _ _).alloc (Nat.le_refl _) _) _
    have kp := (kb.cell (lt_of_cell HP.out)).trans HP.out
    have kh : ((w.alloc (.cells #[.int .i64 a, .int .u64 b, .bool c, .int .i64 d] 34)).drewN n).heap[w.heap.size]? = some (.cells #[.int .i64 a, .int .u64 b, .bool c, .int .i64 d] 34 (0, 0)) := heap_alloc_new w _
    have KB := Lib.hid kb
    have z0 := cell_of (o := 0) kh rfl
    have z1 := cell_of (o := 1) kh rfl
    have z2 := cell_of (o := 2) kh rfl
    have z3 := cell_of (o := 3) kh rfl
    clear kb kh
    revert KB kp z0 z1 z2 z3
    generalize (w.alloc (.cells #[.int .i64 a, .int .u64 b, .bool c, .int .i64 d] 34)).drewN n = W1
    intro kp KB z0 z1 z2 z3
    go_wp2
    go_quiet (fail)
    go_wp2
    go_ret
    exact ⟨rfl, pw_below_drewN KB.out _⟩
  have e0 : decide (a < 0) = false := decide_eq_false h0
  by_cases h1 : 6 < a
  · have hs' : s = false := by rw [← HS.out, if_pos (by simp only [h1, true_or, or_true])]
    have e1 : decide (6 < a) = true := decide_eq_true h1
    subst hs'
    clear HS h1
    go_enter Try.func47, Try.ntmps47
    go_wp2_with (go_at_call 48; fail)
    refine (V.out _).mono ?_
    rw [HV.out]
    rintro e w1 ⟨rfl, n, rfl⟩
    have kb : Below w.heap.size w ((w.alloc (.cells #[.int .i64 a, .int .u64 b, .bool c, .int .i64 d] 34)).drewN n) := pw_below_drewN ((Below.refl _ _).alloc (Nat.le_refl _) _) _
    have kp := (kb.cell (lt_of_cell HP.out)).trans HP.out
    have kh : ((w.alloc (.cells #[.int .i64 a, .int .u64 b, .bool c, .int .i64 d] 34)).drewN n).heap[w.heap.size]? = some (.cells #[.int .i64 a, .int .u64 b, .bool c, .int .i64 d] 34 (0, 0)) := heap_alloc_new w _
    have KB := Lib.hid kb
    have z0 := cell_of (o := 0) kh rfl
    have z1 := cell_of (o := 1) kh rfl
    have z2 := cell_of (o := 2) kh rfl
    have z3 := cell_of (o := 3) kh rfl
    clear kb kh
    revert KB kp z0 z1 z2 z3
    generalize (w.alloc (.cells #[.int .i64 a, .int .u64 b, .bool c, .int .i64 d] 34)).drewN n = W1
    intro kp KB z0 z1 z2 z3
    go_wp2
    go_quiet (fail)
    go_wp2
    go_ret
    exact ⟨rfl, pw_below_drewN KB.out _⟩
  have e1 : decide (6 < a) = false := decide_eq_false h1
  by_cases h2 : b = 0
  · have hs' : s = false := by rw [← HS.out, if_pos (by simp only [h2, true_or, or_true])]
    have e2 : (b == 0) = true := by rw [h2]; rfl
    subst hs'
    clear HS h2
    go_enter Try.func47, Try.ntmps47
    go_wp2_with (go_at_call 48; fail)
    refine (V.out _).mono ?_
    rw [HV.out]
    rintro e w1 ⟨rfl, n, rfl⟩
    have kb : Below w.heap.size w ((w.alloc (.cells #[.int .i64 a, .int .u64 b, .bool c, .int .i64 d] 34)).drewN n) := pw_below_drewN ((Below.refl _ _).alloc (Nat.le_refl _) _) _
    have kp := (kb.cell (lt_of_cell HP.out)).trans HP.out
    have kh : ((w.alloc (.cells #[.int .i64 a, .int .u64 b, .bool c, .int .i64 d] 34)).drewN n).heap[w.heap.size]? = some (.cells #[.int .i64 a, .int .u64 b, .bool c, .int .i64 d] 34 (0, 0)) := heap_alloc_new w _
    have KB := Lib.hid kb
    have z0 := cell_of (o := 0) kh rfl
    have z1 := cell_of (o := 1) kh rfl
    have z2 := cell_of (o := 2) kh rfl
    have z3 := cell_of (o := 3) kh rfl
    clear kb kh
    revert KB kp z0 z1 z2 z3
    generalize (w.alloc (.cells #[.int .i64 a, .int .u64 b, .bool c, .int .i64 d] 34)).drewN n = W1
    intro kp KB z0 z1 z2 z3
    go_wp2
    go_quiet (fail)
    go_wp2
    go_ret
    exact ⟨rfl, pw_below_drewN KB.out _⟩
  have e2 : (b == 0) = false := by rw [beq_eq_false_iff_ne]; exact h2
  by_cases h3 : 281474976710655 < b
  · have hs' : s = false := by rw [← HS.out, if_pos (by simp only [h3, true_or, or_true])]
    have e3 : decide (281474976710655 < b) = true := decide_eq_true h3
    subst hs'
    clear HS h3
    go_enter Try.func47, Try.ntmps47
    go_wp2_with (go_at_call 48; fail)
    refine (V.out _).mono ?_
    rw [HV.out]
    rintro e w1 ⟨rfl, n, rfl⟩
    have kb : Below w.heap.size w ((w.alloc (.cells #[.int .i64 a, .int .u64 b, .bool c, .int .i64 d] 34)).drewN n) := pw_below_drewN ((Below.refl _ _).alloc (Nat.le_refl _) _) _
    have kp := (kb.cell (lt_of_cell HP.out)).trans HP.out
    have kh : ((w.alloc (.cells #[.int .i64 a, .int .u64 b, .bool c, .int .i64 d] 34)).drewN n).heap[w.heap.size]? = some (.cells #[.int .i64 a, .int .u64 b, .bool c, .int .i64 d] 34 (0, 0)) := heap_alloc_new w _
    have KB := Lib.hid kb
    have z0 := cell_of (o := 0) kh rfl
    have z1 := cell_of (o := 1) kh rfl
    have z2 := cell_of (o := 2) kh rfl
    have z3 := cell_of (o := 3) kh rfl
    clear kb kh
    revert KB kp z0 z1 z2 z3
    generalize (w.alloc (.cells #[.int .i64 a, .int .u64 b, .bool c, .int .i64 d] 34)).drewN n = W1
    intro kp KB z0 z1 z2 z3
    go_wp2
    go_quiet (fail)
    go_wp2
    go_ret
    exact ⟨rfl, pw_below_drewN KB.out _⟩
  have e3 : decide (281474976710655 < b) = false := decide_eq_false h3
  by_cases h4 : d < 0
  · have hs' : s = false := by rw [← HS.out, if_pos (by simp only [h4, true_or, or_true])]
    have e4 : decide (d < 0) = true := decide_eq_true h4
    subst hs'
    clear HS h4
    go_enter Try.func47, Try.ntmps47
    go_wp2_with (go_at_call 48; fail)
    refine (V.out _).mono ?_
    rw [HV.out]
    rintro e w1 ⟨rfl, n, rfl⟩
    have kb : Below w.heap.size w ((w.alloc (.cells #[.int .i64 a, .int .u64 b, .bool c, .int .i64 d] 34)).drewN n) := pw_below_drewN ((Below.refl _ _).alloc (Nat.le_refl _) _) _
    have kp := (kb.cell (lt_of_cell HP.out)).trans HP.out
    have kh : ((w.alloc (.cells #[.int .i64 a, .int .u64 b, .bool c, .int .i64 d] 34)).drewN n).heap[w.heap.size]? = some (.cells #[.int .i64 a, .int .u64 b, .bool c, .int .i64 d] 34 (0, 0)) := heap_alloc_new w _
    have KB := Lib.hid kb
    have z0 := cell_of (o := 0) kh rfl
    have z1 := cell_of (o := 1) kh rfl
    have z2 := cell_of (o := 2) kh rfl
    have z3 := cell_of (o := 3) kh rfl
    clear kb kh
    revert KB kp z0 z1 z2 z3
    generalize (w.alloc (.cells #[.int .i64 a, .int .u64 b, .bool c, .int .i64 d] 34)).drewN n = W1
    intro kp KB z0 z1 z2 z3
    go_wp2
    go_quiet (fail)
    go_wp2
    go_ret
    exact ⟨rfl, pw_below_drewN KB.out _⟩
  have e4 : decide (d < 0) = false := decide_eq_false h4
  by_cases h5 : pages ≤ d
  · have hs' : s = false := by rw [← HS.out, if_pos (by simp only [h5, true_or, or_true])]
    have e5 : decide (pages ≤ d) = true := decide_eq_true h5
    subst hs'
    clear HS h5
    go_enter Try.func47, Try.ntmps47
    go_wp2_with (go_at_call 48; fail)
    refine (V.out _).mono ?_
    rw [HV.out]
    rintro e w1 ⟨rfl, n, rfl⟩
    have kb : Below w.heap.size w ((w.alloc (.cells #[.int .i64 a, .int .u64 b, .bool c, .int .i64 d] 34)).drewN n) := pw_below_drewN ((Below.refl _ _).alloc (Nat.le_refl _) _) _
    have kp := (kb.cell (lt_of_cell HP.out)).trans HP.out
    have kh : ((w.alloc (.cells #[.int .i64 a, .int .u64 b, .bool c, .int .i64 d] 34)).drewN n).heap[w.heap.size]? = some (.cells #[.int .i64 a, .int .u64 b, .bool c, .int .i64 d] 34 (0, 0)) := heap_alloc_new w _
    have KB := Lib.hid kb
    have z0 := cell_of (o := 0) kh rfl
    have z1 := cell_of (o := 1) kh rfl
    have z2 := cell_of (o := 2) kh rfl
    have z3 := cell_of (o := 3) kh rfl
    clear kb kh
    revert KB kp z0 z1 z2 z3
    generalize (w.alloc (.cells #[.int .i64 a, .int .u64 b, .bool c, .int .i64 d] 34)).drewN n = W1
    intro kp KB z0 z1 z2 z3
    go_wp2
    go_quiet (fail)
    go_wp2
    go_ret
    exact ⟨rfl, pw_below_drewN KB.out _⟩
  have e5 : decide (pages ≤ d) = false := decide_eq_false h5
  have hs' : s = if a = 1 then c || decide (0 < d) else if a = 3 then d == 0 else true := by rw [← HS.out, if_neg (by simp only [h0, h1, h2, h3, h4, h5, or_self, not_false_eq_true])]
  have HS2 := Lib.hid hs'
  clear HS hs' h0 h1 h2 h3 h4 h5
  by_cases h6 : a = 1
  · subst h6
    cases c
    ·
      go_enter Try.func47, Try.ntmps47
      go_wp2_with (go_at_call 48; fail)
      refine (V.out _).mono ?_
      rw [HV.out]
      rintro e w1 ⟨rfl, n, rfl⟩
      have kb : Below w.heap.size w ((w.alloc (.cells #[.int .i64 1, .int .u64 b, .bool false, .int .i64 d] 34)).drewN n) := pw_below_drewN ((Below.refl _ _).alloc (Nat.le_refl _) _) _
      have kp := (kb.cell (lt_of_cell HP.out)).trans HP.out
      have kh : ((w.alloc (.cells #[.int .i64 1, .int .u64 b, .bool false, .int .i64 d] 34)).drewN n).heap[w.heap.size]? = some (.cells #[.int .i64 1, .int .u64 b, .bool false, .int .i64 d] 34 (0, 0)) := heap_alloc_new w _
      have KB := Lib.hid kb
      have z0 := cell_of (o := 0) kh rfl
      have z1 := cell_of (o := 1) kh rfl
      have z2 := cell_of (o := 2) kh rfl
      have z3 := cell_of (o := 3) kh rfl
      clear kb kh
      revert KB kp z0 z1 z2 z3
      generalize (w.alloc (.cells #[.int .i64 1, .int .u64 b, .bool false, .int .i64 d] 34)).drewN n = W1
      intro kp KB z0 z1 z2 z3
      go_wp2
      go_quiet (fail)
      go_wp2
      go_ret
      exact ⟨by rw [HS2.out]; simp, pw_below_drewN KB.out _⟩
    ·
      go_enter Try.func47, Try.ntmps47
      go_wp2_with (go_at_call 48; fail)
      refine (V.out _).mono ?_
      rw [HV.out]
      rintro e w1 ⟨rfl, n, rfl⟩
      have kb : Below w.heap.size w ((w.alloc (.cells #[.int .i64 1, .int .u64 b, .bool true, .int .i64 d] 34)).drewN n) := pw_below_drewN ((Below.refl _ _).alloc (Nat.le_refl _) _) _
      have kp := (kb.cell (lt_of_cell HP.out)).trans HP.out
      have kh : ((w.alloc (.cells #[.int .i64 1, .int .u64 b, .bool true, .int .i64 d] 34)).drewN n).heap[w.heap.size]? = some (.cells #[.int .i64 1, .int .u64 b, .bool true, .int .i64 d] 34 (0, 0)) := heap_alloc_new w _
      have KB := Lib.hid kb
      have z0 := cell_of (o := 0) kh rfl
      have z1 := cell_of (o := 1) kh rfl
      have z2 := cell_of (o := 2) kh rfl
      have z3 := cell_of (o := 3) kh rfl
      clear kb kh
      revert KB kp z0 z1 z2 z3
      generalize (w.alloc (.cells #[.int .i64 1, .int .u64 b, .bool true, .int .i64 d] 34)).drewN n = W1
      intro kp KB z0 z1 z2 z3
      go_wp2
      go_quiet (fail)
      go_wp2
      go_ret
      exact ⟨by rw [HS2.out]; simp, pw_below_drewN KB.out _⟩
  by_cases h7 : a = 3
  · subst h7
    go_enter Try.func47, Try.ntmps47
    go_wp2_with (go_at_call 48; fail)
    refine (V.out _).mono ?_
    rw [HV.out]
    rintro e w1 ⟨rfl, n, rfl⟩
    have kb : Below w.heap.size w ((w.alloc (.cells #[.int .i64 3, .int .u64 b, .bool c, .int .i64 d] 34)).drewN n) := pw_below_drewN ((Below.refl _ _).alloc (Nat.le_refl _) _) _
    have kp := (kb.cell (lt_of_cell HP.out)).trans HP.out
    have kh : ((w.alloc (.cells #[.int .i64 3, .int .u64 b, .bool c, .int .i64 d] 34)).drewN n).heap[w.heap.size]? = some (.cells #[.int .i64 3, .int .u64 b, .bool c, .int .i64 d] 34 (0, 0)) := heap_alloc_new w _
    have KB := Lib.hid kb
    have z0 := cell_of (o := 0) kh rfl
    have z1 := cell_of (o := 1) kh rfl
    have z2 := cell_of (o := 2) kh rfl
    have z3 := cell_of (o := 3) kh rfl
    clear kb kh
    revert KB kp z0 z1 z2 z3
    generalize (w.alloc (.cells #[.int .i64 3, .int .u64 b, .bool c, .int .i64 d] 34)).drewN n = W1
    intro kp KB z0 z1 z2 z3
    go_wp2
    go_quiet (fail)
    go_wp2
    go_ret
    exact ⟨by rw [HS2.out]; simp, pw_below_drewN KB.out _⟩
  · have g6 : (a == 1) = false := by rw [beq_eq_false_iff_ne]; exact h6
    have g7 : (a == 3) = false := by rw [beq_eq_false_iff_ne]; exact h7
    have HS3 := Lib.hid (show s = true by rw [HS2.out, if_neg h6, if_neg h7])
    clear h6 h7 HS2
    go_enter Try.func47, Try.ntmps47
    go_wp2_with (go_at_call 48; fail)
    refine (V.out _).mono ?_
    rw [HV.out]
    rintro e w1 ⟨rfl, n, rfl⟩
    have kb : Below w.heap.size w ((w.alloc (.cells #[.int .i64 a, .int .u64 b, .bool c, .int .i64 d] 34)).drewN n) := pw_below_drewN ((Below.refl _ _).alloc (Nat.le_refl _) _) _
    have kp := (kb.cell (lt_of_cell HP.out)).trans HP.out
    have kh : ((w.alloc (.cells #[.int .i64 a, .int .u64 b, .bool c, .int .i64 d] 34)).drewN n).heap[w.heap.size]? = some (.cells #[.int .i64 a, .int .u64 b, .bool c, .int .i64 d] 34 (0, 0)) := heap_alloc_new w _
    have KB := Lib.hid kb
    have z0 := cell_of (o := 0) kh rfl
    have z1 := cell_of (o := 1) kh rfl
    have z2 := cell_of (o := 2) kh rfl
    have z3 := cell_of (o := 3) kh rfl
    clear kb kh
    revert KB kp z0 z1 z2 z3
    generalize (w.alloc (.cells #[.int .i64 a, .int .u64 b, .bool c, .int .i64 d] 34)).drewN n = W1
    intro kp KB z0 z1 z2 z3
    go_wp2
    go_quiet (fail)
    go_wp2
    go_ret
    exact ⟨by rw [HS3.out]; rfl, pw_below_drewN KB.out _⟩
theorem sound_calls (p : Nat) (pages : Int) (x : S34) (w : World) (hp : w.cell? ⟨p, 0, none⟩ = some (.int .i64 pages)) : Calls Try.prog 47 #[.pointer (some ⟨p, 0, none⟩), x.v] w (Told (soundB pages x) w) := by
  cases hv : vacB x.f0
  · exact sound_non p pages x w hp hv
  · have e : soundB pages x = (x.f1 == 0 && (!x.f2 && x.f3 == 0)) := by unfold soundB; rw [if_pos hv]
    rw [e]
    exact sound_vac p x w hv
end Go.Proofs.Ytmohijpkhmeibaa
/- What blocks.New asks of a list, entry by entry. -/
namespace Go.Proofs.Ytmohijpkhmeibaa
open Go.RowKit Go.Proofs Go.Proofs.YtmohijpkhmeibaaW.PrintWords
open PBlocksRound
set_option linter.unusedVariables false
set_option linter.unusedSimpArgs false

/-- The statement that asks whether an entry may be: its state, its place. -/
def badPlace (pages last : Int) (k : Nat) (x : S34) : Bool := !soundB pages x || ((x.f0 == 5) && (k : Int) != last) || ((k : Int) == last && vacB x.f0 && !(x.f0 == 5))
def headIn (pre : List S34) (h : Int) : Bool := pre.any fun y => y.f1 != 0 && y.f1 == h
/-- The open block so far: -1 if none. -/
def openIdx : Nat → List S34 → Int
  | _, [] => -1
  | k, x :: r => if x.f0 = 2 then (k : Int) else openIdx (k + 1) r
def entryOk (pages last : Int) (pre : List S34) (opn : Int) (x : S34) : Bool :=
  !badPlace pages last pre.length x && !((x.f0 == 2) && opn != -1) && !((x.f1 != 0) && headIn pre x.f1)
/-- All entries may be; what is open behind them. -/
def newFrom (pages last : Int) (pre : List S34) (opn : Int) : List S34 → Option Int
  | [] => some opn
  | x :: r => if entryOk pages last pre opn x then newFrom pages last (pre ++ [x]) (if x.f0 = 2 then (pre.length : Int) else opn) r else none
def blkOf (x : S34) : S71 := ⟨x, false⟩

/-- The map of the heads that came. -/
def Heads {H : Type} (D : DataW H) (pre : List S34) : Prop := Maps.IsMap D ∧ ∀ h : Int, Maps.has D (.int .u64 h) = headIn pre h
theorem Heads.nil {H : Type} : Heads (H := H) (.map []) [] := ⟨⟨_, rfl⟩, fun h => by
  unfold headIn
  rfl⟩
theorem Heads.skip {H : Type} {D : DataW H} {pre : List S34} {x : S34} (h : Heads D pre) (hx : x.f1 = 0) : Heads D (pre ++ [x]) := ⟨h.1, fun k => by
  rw [h.2 k]
  unfold headIn
  rw [List.any_append]
  simp [hx]⟩
theorem Heads.put {H : Type} {D d : DataW H} {pre : List S34} {x : S34} (h : Heads D pre) (hx : x.f1 ≠ 0) : Heads (D.put (.int .u64 x.f1) d) (pre ++ [x]) := by
  refine ⟨?_, fun k => ?_⟩
  · exact h.1.put _ _
  · unfold headIn
    rw [List.any_append]
    by_cases e : k = x.f1
    · subst e
      rw [Maps.has_put_same h.1 (show WideAt.IsKeyLit (.int .u64 x.f1) from trivial)]
      have e2 : (x.f1 != 0) = true := by rw [bne_iff_ne]; exact hx
      simp [e2]
    · rw [Maps.has_put_other (fun he => e (by injection he)), h.2 k]
      have e2 : (x.f1 == k) = false := by rw [beq_eq_false_iff_ne]; exact fun h => e h.symm
      unfold headIn
      simp [e2]
end Go.Proofs.Ytmohijpkhmeibaa
/- blocks.New: the walk. -/
namespace Go.Proofs.Ytmohijpkhmeibaa
open Go.RowKit Go.Proofs Go.Proofs.YtmohijpkhmeibaaW.PrintWords
open PBlocksRound
set_option linter.unusedVariables false
set_option linter.unusedSimpArgs false
attribute [local go_sem high] PBlocksRound.eqA34

theorem info71 : (Try.prog.info? 71).map (fun i => (i.zero, i.size, i.bytes)) = some (some (.agg #[(.int .i64 0), (.int .u64 0), (.bool false), (.int .i64 0), .bool false]), 5, 40) := by kernel_rfl
def fitsB (B P S : Int) : Bool := decide (8 ≤ B ∧ B ≤ 4096 ∧ 4 ≤ P ∧ P ≤ 256 ∧ 1 ≤ S ∧ S ≤ 8 ∧ B * P ≤ 65536)
theorem fits_calls (B P S : Int) (w : World) : Calls Try.prog 46 #[.agg #[.int .i64 B, .int .i64 P, .int .i64 S]] w fun e w' => e = .returned (.bool (fitsB B P S)) ∧ Below w.heap.size w w' := by
  refine (blocks_fits.calls B P S (fitsB B P S) w ?_).mono fun e w' h => ?_
  · unfold blocks_fits.f fitsB
    by_cases h1 : B ≥ 8
    case neg => rw [if_neg h1]; simp; omega
    by_cases h2 : B ≤ 4096
    case neg => rw [if_pos h1, if_neg h2]; simp; omega
    by_cases h3 : P ≥ 4
    case neg => rw [if_pos h1, if_pos h2, if_neg h3]; simp; omega
    by_cases h4 : P ≤ 256
    case neg => rw [if_pos h1, if_pos h2, if_pos h3, if_neg h4]; simp; omega
    by_cases h5 : S ≥ 1
    case neg => rw [if_pos h1, if_pos h2, if_pos h3, if_pos h4, if_neg h5]; simp; omega
    by_cases h6 : S ≤ 8
    case neg => rw [if_pos h1, if_pos h2, if_pos h3, if_pos h4, if_pos h5, if_neg h6]; simp; omega
    rw [if_pos h1, if_pos h2, if_pos h3, if_pos h4, if_pos h5, if_pos h6]
    have e : wrap64 (B * P) = B * P := by
      have hb1 : B * P ≤ 4096 * P := Int.mul_le_mul_of_nonneg_right h2 (by omega)
      have hb2 : 0 ≤ B * P := Int.mul_nonneg (by omega) (by omega)
      unfold wrap64
      omega
    rw [e]
    refine congrArg some (decide_eq_decide.2 ?_)
    exact ⟨fun h => ⟨h1, h2, h3, h4, h5, h6, h⟩, fun h => h.2.2.2.2.2.2⟩
  · exact ⟨h.1, h.2⟩

theorem kd_rows {w : World} {A : Option Addr} {l : List S34} {n : Nat} (h : Kd.C k34 w A n l) (hpos : 0 < n) : ∃ g o, A = some ⟨g, o, none⟩ ∧ ∀ i x, l[i]? = some x → w.cell? ⟨g, o + i * 4, none⟩ = some (.int .i64 x.f0) ∧ w.cell? ⟨g, o + i * 4 + 1, none⟩ = some (.int .u64 x.f1) ∧ w.cell? ⟨g, o + i * 4 + 2, none⟩ = some (.bool x.f2) ∧ w.cell? ⟨g, o + i * 4 + 3, none⟩ = some (.int .i64 x.f3) := by
  have hn := Kd.C_len h
  subst hn
  obtain ⟨ad, rfl, hc0, _⟩ := at_T34 h 0 (by omega) (by omega)
  obtain ⟨g, o, s⟩ := ad
  have hs : s = none := by
    cases s with
    | none => rfl
    | some x =>
      exfalso
      unfold World.cell? at hc0
      simp only [Addr.add, Int.toNat_zero, Nat.zero_mul, if_true] at hc0
      split at hc0
      · simp at hc0
      · cases hc0
  subst hs
  refine ⟨g, o, rfl, fun i x hx => ?_⟩
  have hi : i < l.length := (List.getElem?_eq_some_iff.1 hx).1
  obtain ⟨ad, e, a0, a1, a2, a3⟩ := at_T34 h (i : Int) (by omega) (by omega)
  cases e
  have ex : rd_T34 l (i : Int) = x := by
    show l.getD (i : Int).toNat z34 = x
    rw [Int.toNat_natCast, List.getD_eq_getElem?_getD, hx]
    rfl
  rw [ex] at a0 a1 a2 a3
  rw [Int.toNat_natCast, Addr.add_lit] at a0 a1 a2 a3
  exact ⟨a0, a1, a2, a3⟩

/-- While New runs: the book so far, the heads so far. -/
structure NSt (w : World) (l : List S34) (pages cursor last : Int) (p mb k : Nat) (v : Value) (D : DataW Unit) (opn : Int) (W : World) : Prop where
  head : W.heap[p]? = some (.cells #[.int .i64 pages, v, .int .i64 cursor, .int .i64 last, .int .i64 (-1), .int .i64 opn] 69 (0, 0))
  row : Kd.R k71 71 W w.heap.size (fun _ => True) v ((l.take k).map blkOf)
  map : W.ownsMap Try.prog 32 (plainElem Try.prog 3) mb k D
  heads : Heads D (l.take k)
  below : Below w.heap.size w W
  pb : w.heap.size ≤ p
  mbb : w.heap.size ≤ mb
section
variable {w : World} {l : List S34} {pages cursor last : Int} {p mb k : Nat} {v : Value} {D : DataW Unit} {opn : Int} {W W' : World}
theorem NSt.pm (h : NSt w l pages cursor last p mb k v D opn W) : p ≠ mb := by
  rintro rfl
  obtain ⟨es, clock, hm, _⟩ := h.map
  have := h.head
  rw [hm] at this
  injection this with this
  cases this
theorem NSt.of_below (h : NSt w l pages cursor last p mb k v D opn W) (hb : Below W.heap.size W W') : NSt w l pages cursor last p mb k v D opn W' :=
  ⟨(hb.block _ (lt_of_heap h.head)).trans h.head, Kd.R_below h.row hb, by obtain ⟨es, clock, hm, r⟩ := h.map; exact ⟨es, clock, (hb.block _ (lt_of_heap hm)).trans hm, r⟩, h.heads, h.below.trans (hb.mono h.below.size), h.pb, h.mbb⟩
theorem NSt.cell (h : NSt w l pages cursor last p mb k v D opn W) : W.cell? ⟨p, 0, none⟩ = some (.int .i64 pages) ∧ W.cell? ⟨p, 1, none⟩ = some v ∧ W.cell? ⟨p, 5, none⟩ = some (.int .i64 opn) ∧ ∀ j, W.frozen? ⟨p, j, none⟩ = false :=
  ⟨cell_of h.head rfl, cell_of h.head rfl, cell_of h.head rfl, fun j => free_of h.head⟩
theorem NSt.setOpn (h : NSt w l pages cursor last p mb k v D opn W) (x : Int) : NSt w l pages cursor last p mb k v D x (W.setCell ⟨p, 5, none⟩ (.int .i64 x)) :=
  ⟨heap_set_same h.head _, Kd.R_mono (Kd.R_far (Kd.R_types h.row h.head (by decide)) (fun k hk => hk.2) _) (fun _ _ => trivial), World.ownsMap.setCell h.map (Ne.symm h.pm) _, h.heads, h.below.setCell (p := ⟨p, 5, none⟩) h.pb _, h.pb, h.mbb⟩
theorem NSt.put {D' : DataW Unit} (h : NSt w l pages cursor last p mb k v D opn W) {k' : Nat} (hg : W.grownBy W' (some mb)) (hm : W'.ownsMap Try.prog 32 (plainElem Try.prog 3) mb k' D') :
    W'.heap[p]? = some (.cells #[.int .i64 pages, v, .int .i64 cursor, .int .i64 last, .int .i64 (-1), .int .i64 opn] 69 (0, 0)) ∧ Kd.R k71 71 W' w.heap.size (fun _ => True) v ((l.take k).map blkOf) ∧ Below w.heap.size w W' :=
  ⟨(hg.block p (lt_of_heap h.head) (fun e => h.pm (Option.some.inj e))).trans h.head, (by
    refine Kd.R_mono (Kd.R_grown (Kd.R_mono (Kd.R_bound h.row) (ok' := fun k => k ≠ mb) (fun j hj => ?_)) hg (fun j hj e => hj (Option.some.inj e))) (fun _ _ => trivial)
    rintro rfl
    obtain ⟨_, _, _, q, hq, cells, hc⟩ := hj
    obtain ⟨es, clock, hmm, _⟩ := h.map
    rw [hmm] at hc
    injection hc with hc
    cases hc), h.below.grown hg h.below.size (fun j hj => by cases hj; exact h.mbb)⟩
end
def NewEnd (w : World) (l : List S34) (pages cursor last : Int) (e : Ending) (W : World) : Prop :=
  Below w.heap.size w W ∧ match newFrom pages last [] (-1) l with
    | none => e = .returned (.tuple #[.pointer none, .int .i64 110])
    | some opn => ∃ p v, e = .returned (.tuple #[.pointer (some ⟨p, 0, none⟩), .int .i64 0]) ∧ w.heap.size ≤ p ∧ W.heap[p]? = some (.cells #[.int .i64 pages, v, .int .i64 cursor, .int .i64 last, .int .i64 (-1), .int .i64 opn] 69 (0, 0)) ∧ Kd.R k71 71 W w.heap.size (fun _ => True) v (l.map blkOf)
def NRel (w : World) (l : List S34) (pages cursor last : Int) (p mb k : Nat) (W : World) : Prop :=
  ∃ v D opn, NSt w l pages cursor last p mb k v D opn W ∧ newFrom pages last [] (-1) l = newFrom pages last (l.take k) opn (l.drop k)
end Go.Proofs.Ytmohijpkhmeibaa
namespace Go.Proofs.Ytmohijpkhmeibaa
open Go.RowKit Go.Proofs Go.Proofs.YtmohijpkhmeibaaW.PrintWords
open PBlocksRound
set_option linter.unusedVariables false
set_option linter.unusedSimpArgs false
set_option maxRecDepth 100000
attribute [local go_sem high] PBlocksRound.eqA34
def placeB (B : Int) (n : Nat) (cursor last : Int) : Bool := !((n : Int) != B || decide (cursor < -1) || decide (cursor ≥ B) || decide (last < -1) || decide (last ≥ B))

set_option maxHeartbeats 4000000 in
theorem new_shape (B P S : Int) (A : Option Addr) (n c : Nat) (cursor last : Int) (w : World) (hf : fitsB B P S = false) :
    Calls Try.prog 26 #[.agg #[.int .i64 B, .int .i64 P, .int .i64 S], .slice A n c, .int .i64 cursor, .int .i64 last] w fun e w' => e = .returned (.tuple #[.pointer none, .int .i64 40]) ∧ Below w.heap.size w w' := by
  have V := Lib.hid (fun w => fits_calls B P S w)
  have HV := Lib.hid hf
  clear hf
  go_enter Try.func26, Try.ntmps26
  go_wp2_with (go_at_call 46; fail)
  refine (V.out _).mono ?_
  rw [HV.out]
  rintro e w1 ⟨rfl, hb⟩
  go_wp2
  refine bodyPost_ret (v := .tuple #[.pointer none, .int .i64 40]) (by simp [results, Try.results26, go_sem]) rfl ?_
  exact ⟨rfl, ((Below.refl _ _).alloc (Nat.le_refl _) _).trans (hb.mono (by rw [World.size_alloc]; omega))⟩

set_option maxHeartbeats 4000000 in
theorem new_place (B P S : Int) (A : Option Addr) (n c : Nat) (cursor last : Int) (w : World) (hf : fitsB B P S = true) (hp : placeB B n cursor last = false) :
    Calls Try.prog 26 #[.agg #[.int .i64 B, .int .i64 P, .int .i64 S], .slice A n c, .int .i64 cursor, .int .i64 last] w fun e w' => e = .returned (.tuple #[.pointer none, .int .i64 41]) ∧ Below w.heap.size w w' := by
  have V := Lib.hid (fun w => fits_calls B P S w)
  have HV := Lib.hid hf
  clear hf
  have all5 : ∀ b0 b1 b2 b3 b4 : Bool, ((n : Int) != B) = b0 → decide (cursor < -1) = b1 → decide (cursor ≥ B) = b2 → decide (last < -1) = b3 → decide (last ≥ B) = b4 → (b0 || b1 || b2 || b3 || b4) = true → Calls Try.prog 26 #[.agg #[.int .i64 B, .int .i64 P, .int .i64 S], .slice A n c, .int .i64 cursor, .int .i64 last] w fun e w' => e = .returned (.tuple #[.pointer none, .int .i64 41]) ∧ Below w.heap.size w w' := by
    intro b0 b1 b2 b3 b4 h0 h1 h2 h3 h4 hor
    have HO := Lib.hid hor
    clear hor hp
    go_enter Try.func26, Try.ntmps26
    go_wp2_with (go_at_call 46; fail)
    refine (V.out _).mono ?_
    rw [HV.out]
    rintro e w1 ⟨rfl, hb⟩
    have kb : Below w.heap.size w w1 := ((Below.refl _ _).alloc (Nat.le_refl _) _).trans (hb.mono (by rw [World.size_alloc]; omega))
    have kh := (hb.block w.heap.size (by rw [World.size_alloc]; omega)).trans (heap_alloc_new w _)
    have z0 := cell_of (o := 0) kh rfl
    have z1 := cell_of (o := 1) kh rfl
    have z2 := cell_of (o := 2) kh rfl
    have KB := Lib.hid kb
    clear kb kh hb
    go_wp2
    all_goals first
      | (exfalso
         have ho := HO.out
         simp only [Bool.or_eq_true] at ho
         rcases ho with (((h | h) | h) | h) | h <;> first | (exact absurd h (by assumption)) | (have h9 := h.symm.trans ‹b4 = false›; cases h9)
         done)
      | (refine bodyPost_ret (v := .tuple #[.pointer none, .int .i64 41]) (by simp [results, Try.results26, go_sem]) rfl ?_
         exact ⟨rfl, KB.out⟩)
  unfold placeB at hp
  simp only [Bool.not_eq_false'] at hp
  exact all5 _ _ _ _ _ rfl rfl rfl rfl rfl hp
end Go.Proofs.Ytmohijpkhmeibaa
namespace Go.Proofs.Ytmohijpkhmeibaa
open Go.RowKit Go.Proofs Go.Proofs.YtmohijpkhmeibaaW.PrintWords
open PBlocksRound
set_option linter.unusedVariables false
set_option linter.unusedSimpArgs false
set_option maxRecDepth 100000
attribute [local go_sem high] PBlocksRound.eqA34

structure RS (w : World) (l : List S34) (P cursor last : Int) (p mb k : Nat) (v : Value) (D : DataW Unit) (opn : Int) (bx : Nat) (x : S34) (W : World) : Prop where
  n : NSt w l P cursor last p mb k v D opn W
  b : W.heap[bx]? = some (.cells #[.int .i64 x.f0, .int .u64 x.f1, .bool x.f2, .int .i64 x.f3] 34 (0, 0))
  g : w.heap.size ≤ bx
section
variable {w : World} {l : List S34} {P cursor last : Int} {p mb k : Nat} {v : Value} {D : DataW Unit} {opn : Int} {bx : Nat} {x : S34} {W W' : World}
theorem RS.of_below (h : RS w l P cursor last p mb k v D opn bx x W) (hb : Below W.heap.size W W') : RS w l P cursor last p mb k v D opn bx x W' :=
  ⟨h.n.of_below hb, (hb.block _ (lt_of_heap h.b)).trans h.b, h.g⟩
theorem RS.ne (h : RS w l P cursor last p mb k v D opn bx x W) : bx ≠ p := by
  rintro rfl
  have := h.b
  rw [h.n.head] at this
  injection this with this
  injection this with _ this
  cases this
theorem RS.neb (h : RS w l P cursor last p mb k v D opn bx x W) : bx ≠ mb := by
  rintro rfl
  obtain ⟨es, clock, hm, _⟩ := h.n.map
  have := h.b
  rw [hm] at this
  injection this with this
  cases this
theorem RS.cell (h : RS w l P cursor last p mb k v D opn bx x W) : W.cell? ⟨bx, 0, none⟩ = some (.int .i64 x.f0) ∧ W.cell? ⟨bx, 1, none⟩ = some (.int .u64 x.f1) ∧ W.cell? ⟨bx, 2, none⟩ = some (.bool x.f2) ∧ W.cell? ⟨bx, 3, none⟩ = some (.int .i64 x.f3) :=
  ⟨cell_of h.b rfl, cell_of h.b rfl, cell_of h.b rfl, cell_of h.b rfl⟩
theorem RS.setOpn (h : RS w l P cursor last p mb k v D opn bx x W) (y : Int) : RS w l P cursor last p mb k v D y bx x (W.setCell ⟨p, 5, none⟩ (.int .i64 y)) :=
  ⟨h.n.setOpn y, (heap_set_ne _ h.ne).trans h.b, h.g⟩
theorem NewEnd.none (hb : Below w.heap.size w W) (h : newFrom P last [] (-1) l = none) : NewEnd w l P cursor last (.returned (.tuple #[.pointer .none, .int .i64 110])) W := by
  refine ⟨hb, ?_⟩
  rw [h]
theorem newFrom_cons (P last : Int) (pre : List S34) (opn : Int) (x : S34) (r : List S34) : newFrom P last pre opn (x :: r) = if entryOk P last pre opn x then newFrom P last (pre ++ [x]) (if x.f0 = 2 then (pre.length : Int) else opn) r else none := rfl
end

structure Mid (w : World) (l : List S34) (P cursor last : Int) (p mb k : Nat) (v : Value) (D : DataW Unit) (opn : Int) (bx : Nat) (x : S34) (W : World) : Prop where
  head : W.heap[p]? = some (.cells #[.int .i64 P, v, .int .i64 cursor, .int .i64 last, .int .i64 (-1), .int .i64 opn] 69 (0, 0))
  row : Kd.R k71 71 W w.heap.size (fun _ => True) v ((l.take k).map blkOf)
  map : W.ownsMap Try.prog 32 (plainElem Try.prog 3) mb (k + 1) D
  heads : Heads D (l.take (k + 1))
  below : Below w.heap.size w W
  pb : w.heap.size ≤ p
  mbb : w.heap.size ≤ mb
  b : W.heap[bx]? = some (.cells #[.int .i64 x.f0, .int .u64 x.f1, .bool x.f2, .int .i64 x.f3] 34 (0, 0))
theorem Mid.sep {w : World} {l : List S34} {P cursor last : Int} {p mb k : Nat} {v : Value} {D : DataW Unit} {opn : Int} {bx : Nat} {x : S34} {W : World} (h : Mid w l P cursor last p mb k v D opn bx x W) : p ≠ mb ∧ some p ≠ v.ownBlock ∧ some mb ≠ v.ownBlock := by
  refine ⟨?_, Kd.R_ne h.row h.head (by decide), ?_⟩
  · rintro rfl
    obtain ⟨es, clock, hm, _⟩ := h.map
    have := h.head
    rw [hm] at this
    injection this with this
    cases this
  · intro e
    obtain ⟨es, clock, hm, _⟩ := h.map
    obtain ⟨inner, ho⟩ := Kd.R_own h.row
    obtain ⟨cells, hc⟩ := own_typed ho mb e.symm
    rw [hm] at hc
    injection hc with hc
    cases hc
theorem Mid.next {w : World} {l : List S34} {P cursor last : Int} {p mb k : Nat} {v : Value} {D : DataW Unit} {opn : Int} {bx : Nat} {x : S34} {W w5 : World} {A1 : Option Addr} {n1 k1 : Nat} (h : Mid w l P cursor last p mb k v D opn bx x W) (hx : l[k]? = some x)
    (hr : Kd.R k71 71 w5 w.heap.size (fun _ => True) (.slice A1 n1 k1) ((l.take k).map blkOf ++ [blkOf x])) (hg : W.drew.grownBy w5 v.ownBlock) (hb : Below w.heap.size w w5) :
    NSt w l P cursor last p mb (k + 1) (.slice A1 n1 k1) D opn (w5.setCell ⟨p, 1, none⟩ (.slice A1 n1 k1)) := by
  obtain ⟨s1, s2, s3⟩ := h.sep
  have hh : w5.heap[p]? = some (.cells #[.int .i64 P, v, .int .i64 cursor, .int .i64 last, .int .i64 (-1), .int .i64 opn] 69 (0, 0)) := (hg.block p (lt_of_heap h.head) s2).trans h.head
  have hm : w5.ownsMap Try.prog 32 (plainElem Try.prog 3) mb (k + 1) D := World.ownsMap.kept (w := W.drew) h.map hg s3
  refine ⟨heap_set_same hh _, ?_, World.ownsMap.setCell hm (Ne.symm s1) _, h.heads, hb.setCell (p := ⟨p, 1, none⟩) h.pb _, h.pb, h.mbb⟩
  rw [take_snoc hx, List.map_append]
  exact Kd.R_mono (Kd.R_far (Kd.R_types hr hh (by decide)) (fun k hk => hk.2) _) (fun _ _ => trivial)
theorem wf_of_sound {P last : Int} {k : Nat} {x : S34} (h : badPlace P last k x = false) (h0 : 0 ≤ x.f1) : (Lit.int .u64 x.f1).wf = true := by
  have hs : soundB P x = true := by
    unfold badPlace at h
    cases hs : soundB P x
    · rw [hs] at h; simp at h
    · rfl
  have hle : x.f1 ≤ 281474976710655 := by
    unfold soundB at hs
    split at hs
    · simp only [Bool.and_eq_true, beq_iff_eq] at hs; omega
    · split at hs
      · cases hs
      · rename_i hn
        omega
  simp only [Lit.wf]
  simp [IntKind.min, IntKind.max, IntKind.signed, IntKind.bits]
  omega
theorem wf_i64_of {k : Int} (h0 : 0 ≤ k) (h1 : k ≤ 9223372036854775807) : (Lit.int .i64 k).wf = true := by
  simp only [Lit.wf]
  simp [IntKind.min, IntKind.max, IntKind.signed, IntKind.bits]
  omega
theorem zero3 (w : World) : (zeroValue 3).run Try.prog w = .ok (.int .i64 0) w := by kernel_rfl
theorem law32 : Maps.Keyed Try.prog 32 := Maps.int_keyed Try.underlying32

set_option maxHeartbeats 4000000 in
theorem new_walk (B P S : Int) (A : Option Addr) (l : List S34) (c : Nat) (cursor last : Int) (w : World) (hf : fitsB B P S = true) (hp : placeB B l.length cursor last = true) (hl : Kd.C k34 w A l.length l) (hwf : ∀ x, x ∈ l → 0 ≤ x.f1) :
    Calls Try.prog 26 #[.agg #[.int .i64 B, .int .i64 P, .int .i64 S], .slice A l.length c, .int .i64 cursor, .int .i64 last] w (NewEnd w l P cursor last) := by
  have V := Lib.hid (fun w => fits_calls B P S w)
  have HV := Lib.hid hf
  unfold placeB at hp
  simp only [Bool.not_eq_true', Bool.or_eq_false_iff] at hp
  obtain ⟨⟨⟨⟨h0, h1⟩, h2⟩, h3⟩, h4⟩ := hp
  have hpos : 8 ≤ B ∧ B ≤ 4096 ∧ 4 ≤ P ∧ P ≤ 256 := by
    have := hf
    unfold fitsB at this
    have := of_decide_eq_true this
    omega
  have hlen : (l.length : Int) = B := by simpa using h0
  obtain ⟨g, o, rfl, rows⟩ := kd_rows hl (by omega)
  have HR := Lib.hid rows
  have HWF := Lib.hid hwf
  have HP := Lib.hid hpos
  have HLEN := Lib.hid hlen
  clear hf hl rows hwf hpos
  have hmm := @run_makeMap Try.prog
  go_enter Try.func26, Try.ntmps26
  go_wp2_with (go_at_call 46; fail)
  refine (V.out _).mono ?_
  rw [HV.out]
  rintro e w1 ⟨rfl, hb⟩
  have kb : Below w.heap.size w w1 := ((Below.refl _ _).alloc (Nat.le_refl _) _).trans (hb.mono (by rw [World.size_alloc]; omega))
  have kh := (hb.block w.heap.size (by rw [World.size_alloc]; omega)).trans (heap_alloc_new w _)
  have z0 := cell_of (o := 0) kh rfl
  have z1 := cell_of (o := 1) kh rfl
  have z2 := cell_of (o := 2) kh rfl
  have KB := Lib.hid kb
  clear kb kh hb
  go_wp2
  clear z0 z1 z2
  have hN : NSt w l P cursor last w1.heap.size (w1.heap.size + 1) 0 (.slice none 0 0) (.map []) (-1) ((w1.alloc (.cells #[.int .i64 P, .slice none 0 0, .int .i64 cursor, .int .i64 last, .int .i64 (-1), .int .i64 (-1)] 69)).alloc (.map #[] 0)) := by
    refine ⟨?_, Kd.R_nil _ _ _ _ _, ?_, Heads.nil, ((KB.out.alloc KB.out.size _).alloc (by rw [World.size_alloc]; have := KB.out.size; omega) _), KB.out.size, by have := KB.out.size; omega⟩
    · rw [Below.heap_alloc _ _ _ (by rw [World.size_alloc]; omega)]
      exact heap_alloc_new _ _
    · have := World.ownsMap_made (w1.alloc (.cells #[.int .i64 P, .slice none 0 0, .int .i64 cursor, .int .i64 last, .int .i64 (-1), .int .i64 (-1)] 69)) Try.prog 32 (plainElem (H := Unit) Try.prog 3)
      rw [World.size_alloc] at this
      exact this
  have HN := Lib.hid hN
  clear hN
  revert HN
  generalize ((w1.alloc (.cells #[.int .i64 P, .slice none 0 0, .int .i64 cursor, .int .i64 last, .int .i64 (-1), .int .i64 (-1)] 69)).alloc (.map #[] 0)) = W0
  generalize w1.heap.size + 1 = mb
  generalize w1.heap.size = p
  intro HN
  clear KB
  go_loopg [54] l.length (fun gk s wx => ∃ k : Nat, s = .int .i64 k ∧ k + gk = l.length ∧ NRel w l P cursor last p mb k wx)
  case atStart => exact ⟨0, rfl, by omega, _, _, _, HN.out, by simp⟩
  case round =>
    obtain ⟨k, rfl, hk, v, D, opn, hN, hnew⟩ := hrel
    have HK := Lib.hid hk
    have HN1 := Lib.hid hN
    have HNEW := Lib.hid hnew
    clear HN hk hN hnew
    by_cases hlt : k < l.length
    · have hki : (k : Int) < B := by rw [← HLEN.out]; omega
      have hki' : decide ((k : Int) < B) = true := decide_eq_true hki
      obtain ⟨x, hx⟩ : ∃ x, l[k]? = some x := ⟨_, List.getElem?_eq_getElem hlt⟩
      obtain ⟨r0, r1, r2, r3⟩ := HR.out k x hx
      have c0 := (HN1.out.below.cell (lt_of_cell r0)).trans r0
      have c1 := (HN1.out.below.cell (lt_of_cell r1)).trans r1
      have c2 := (HN1.out.below.cell (lt_of_cell r2)).trans r2
      have c3 := (HN1.out.below.cell (lt_of_cell r3)).trans r3
      have HX := Lib.hid hx
      clear r0 r1 r2 r3 hx
      go_upto_region 11 with (fail)
      have hRS : RS w l P cursor last p mb k v D opn wr.heap.size x (wr.alloc (.cells #[.int .i64 x.f0, .int .u64 x.f1, .bool x.f2, .int .i64 x.f3] 34)) :=
        ⟨HN1.out.of_below ((Below.refl _ _).alloc (Nat.le_refl _) _), heap_alloc_new wr _, HN1.out.below.size⟩
      have HRS := Lib.hid hRS
      clear hRS c0 c1 c2 c3 HN1
      revert HRS
      generalize (wr.alloc (.cells #[.int .i64 x.f0, .int .u64 x.f1, .bool x.f2, .int .i64 x.f3] 34)) = W1
      generalize wr.heap.size = bx
      intro HRS
      obtain ⟨x0, x1, x2, x3⟩ := HRS.out.cell
      obtain ⟨hd, hhd⟩ : ∃ hd, (x.f0 == 5) = hd := ⟨_, rfl⟩
      rw [hhd]
      go_cut [87] (fun s wz => s = .bool (badPlace P last k x) ∧ Aside0 (RS w l P cursor last p mb k v D opn bx x wz))
      case first =>
        obtain ⟨sb, hsb⟩ : ∃ sb, soundB P x = sb := ⟨_, rfl⟩
        obtain ⟨vb, hvb⟩ : ∃ vb, vacB x.f0 = vb := ⟨_, rfl⟩
        obtain ⟨kl, hkl⟩ : ∃ kl, decide ((k : Int) = last) = kl := ⟨_, rfl⟩
        have eq1 : ((k : Int) == last) = kl := hkl
        have eq2 : ((k : Int) != last) = !kl := by rw [bne, eq1]
        have SO : ∀ W, RS w l P cursor last p mb k v D opn bx x W → Calls Try.prog 47 #[.pointer (some ⟨p, 0, none⟩), .agg #[.int .i64 x.f0, .int .u64 x.f1, .bool x.f2, .int .i64 x.f3]] W (Told sb W) := fun W h => by
          rw [← hsb]
          exact sound_calls p P x W h.n.cell.1
        have VO : ∀ W, Calls Try.prog 48 #[.int .i64 x.f0] W fun e w' => e = .returned (.bool vb) ∧ ∃ n, w' = W.drewN n := fun W => by
          rw [← hvb]
          exact vac_calls _ _
        have HBP : Hid (badPlace P last k x = (!sb || (hd && !kl) || (kl && vb && !hd))) := Lib.hid (by unfold badPlace; rw [hsb, hvb, eq1, eq2, hhd])
        have HSO := Lib.hid SO
        have HVO := Lib.hid VO
        clear SO VO hsb hvb hkl
        cases sb
        · go_wp2_with (first | (go_at_call 47; refine (HSO.out _ HRS.out).mono ?_; rintro e w2 ⟨rfl, hb⟩; have R2 := Lib.hid (HRS.out.of_below hb); clear hb))
          go_meet
          case rel => exact ⟨by rw [HBP.out]; rfl, ⟨R2.out⟩⟩
        · cases hd <;> cases kl <;> cases vb
          all_goals
            go_wp2_with (first | (go_at_call 47; refine (HSO.out _ HRS.out).mono ?_; rintro e w2 ⟨rfl, hb⟩; have R2 := Lib.hid (HRS.out.of_below hb); clear hb; have y0 := R2.out.cell.1) | (go_at_call 48; refine (HVO.out _).mono ?_; rintro e w3 ⟨rfl, nn, rfl⟩))
            go_meet
            case rel => first
              | exact ⟨by rw [HBP.out]; rfl, ⟨R2.out⟩⟩
              | exact ⟨by rw [HBP.out]; rfl, ⟨R2.out.of_below (pw_below_drewN (Below.refl _ _) _)⟩⟩
      case rest =>
        obtain ⟨rfl, ⟨hz⟩⟩ := hcut
        have HZ := Lib.hid hz
        clear hz HRS x0 x1 x2 x3
        obtain ⟨x0, x1, x2, x3⟩ := HZ.out.cell
        have hxe : l[k] = x := by have := HX.out; rw [List.getElem?_eq_getElem hlt] at this; exact Option.some.inj this
        have hkl : (l.take k).length = k := by rw [List.length_take]; omega
        have hne : entryOk P last (l.take k) opn x = false → newFrom P last [] (-1) l = none := fun h => by
          rw [HNEW.out, List.drop_eq_getElem_cons hlt, newFrom_cons, hxe, h]
          rfl
        have hye : entryOk P last (l.take k) opn x = true → newFrom P last [] (-1) l = newFrom P last (l.take (k + 1)) (if x.f0 = 2 then (k : Int) else opn) (l.drop (k + 1)) := fun h => by
          rw [HNEW.out, List.drop_eq_getElem_cons hlt, newFrom_cons, hxe, h, if_pos rfl, hkl, take_snoc HX.out]
        have HNE := Lib.hid hne
        have HYE := Lib.hid hye
        have HKL := Lib.hid hkl
        clear hne hye hkl hxe
        cases hbad : badPlace P last k x
        · have HBAD := Lib.hid hbad
          clear hbad
          go_upto_if 90 with (fail)
          go_cut [] (fun wz => (x.f0 == 2 && opn != -1) = false ∧ Aside0 (RS w l P cursor last p mb k v D (if x.f0 = 2 then (k : Int) else opn) bx x wz))
          case first =>
            by_cases h2 : x.f0 = 2
            · have e2 : (x.f0 == 2) = true := by rw [h2]; rfl
              have y5 := HZ.out.n.cell.2.2.1
              have f5 := HZ.out.n.cell.2.2.2 5
              rw [e2]
              by_cases ho : opn = -1
              · subst ho
                go_wp2
                go_meet
                case rel => exact ⟨by rw [e2]; rfl, ⟨by rw [if_pos h2]; exact HZ.out.setOpn _⟩⟩
              · have eo : (opn != -1) = true := by rw [bne_iff_ne]; exact ho
                go_wp2
                refine bodyPost_ret (v := .tuple #[.pointer none, .int .i64 110]) (by simp [results, Try.results26, go_sem]) rfl ?_
                refine NewEnd.none HZ.out.n.below (HNE.out ?_)
                unfold entryOk
                rw [e2, eo]
                simp
            · have e2 : (x.f0 == 2) = false := by rw [beq_eq_false_iff_ne]; exact h2
              rw [e2]
              go_wp2
              go_meet
              case rel => exact ⟨by rw [e2]; rfl, ⟨by rw [if_neg h2]; exact HZ.out⟩⟩
          case rest =>
            obtain ⟨hq, ⟨hz⟩⟩ := hcut
            have HQ := Lib.hid hq
            have HZ1 := Lib.hid hz
            clear hz hq HZ x0 x1 x2 x3
            revert HZ1
            generalize hop : (if x.f0 = 2 then (k : Int) else opn) = opn'
            have HOP := Lib.hid hop
            clear hop
            intro HZ1
            obtain ⟨x0, x1, x2, x3⟩ := HZ1.out.cell
            go_upto_if 102 with (fail)
            have hwfx : (Lit.int .u64 x.f1).wf = true := wf_of_sound HBAD.out (HWF.out x (List.mem_of_getElem? HX.out))
            have hkey := Maps.keyOf_int_mk Try.underlying32 hwfx
            go_cut [] (fun wz => (x.f1 != 0 && headIn (l.take k) x.f1) = false ∧ ∃ D', Aside0 (Mid w l P cursor last p mb k v D' opn' bx x wz))
            case first =>
              by_cases h1 : x.f1 = 0
              · have e1 : (x.f1 != 0) = false := by rw [h1]; rfl
                rw [e1]
                go_wp2
                go_meet
                case rel => exact ⟨by rw [e1]; rfl, D, ⟨HZ1.out.n.head, HZ1.out.n.row, HZ1.out.n.map.mono (Nat.le_succ _), by rw [take_snoc HX.out]; exact HZ1.out.n.heads.skip h1, HZ1.out.n.below, HZ1.out.n.pb, HZ1.out.n.mbb, HZ1.out.b⟩⟩
              · have e1 : (x.f1 != 0) = true := by rw [bne_iff_ne]; exact h1
                rw [e1]
                obtain ⟨hh, hhh⟩ : ∃ hh, headIn (l.take k) x.f1 = hh := ⟨_, rfl⟩
                have hhas := (HZ1.out.n.heads.2 x.f1).trans hhh
                have hown := HZ1.out.n.map
                cases hh
                · go_wp2_with (first
                    | (at_lookup; refine wpList_lookup_own_ok_int _ rfl _ _ 82 rfl 32 3 .i64 law32 Try.underlying82 Try.underlying3 (zero3 _) mb k D rfl hown _ _ rfl hkey ?_; intro cL hat hwc; rw [hhas])
                    | (at_mapUpdate; refine wpList_mapUpdate_own _ rfl _ _ _ 82 rfl 32 3 law32 Try.underlying82 _ mb k _ rfl hown (by unfold maxLen; have := HP.out; have := HLEN.out; omega) _ _ _ rfl rfl hkey _ [] (plainElem_int Try.underlying3 (wf_i64_of (by omega) (by have := HP.out; have := HLEN.out; omega))) ?_; intro w4 hown1 hgrow1))
                  go_meet
                  case rel =>
                    have hput := HZ1.out.n.put hgrow1 hown1
                    exact ⟨by rw [hhh]; simp, _, ⟨hput.1, hput.2.1, hown1, by rw [take_snoc HX.out]; exact HZ1.out.n.heads.put h1, hput.2.2, HZ1.out.n.pb, HZ1.out.n.mbb, (hgrow1.block bx (lt_of_heap HZ1.out.b) (fun e => HZ1.out.neb (Option.some.inj e))).trans HZ1.out.b⟩⟩
                · go_wp2_with (first
                    | (at_lookup; refine wpList_lookup_own_ok_int _ rfl _ _ 82 rfl 32 3 .i64 law32 Try.underlying82 Try.underlying3 (zero3 _) mb k D rfl hown _ _ rfl hkey ?_; intro cL hat hwc; rw [hhas]))
                  refine bodyPost_ret (v := .tuple #[.pointer none, .int .i64 110]) (by simp [results, Try.results26, go_sem]) rfl ?_
                  refine NewEnd.none HZ1.out.n.below (HNE.out ?_)
                  unfold entryOk
                  rw [e1, hhh]
                  simp
            case rest =>
              obtain ⟨hq2, D', ⟨hm⟩⟩ := hcut
              have hent : entryOk P last (l.take k) opn x = true := by
                unfold entryOk
                rw [HKL.out, HBAD.out, HQ.out, hq2]
                rfl
              have HFIN := Lib.hid (HYE.out hent)
              have HM := Lib.hid hm
              rw [HOP.out] at HFIN
              clear hq2 hent hm HZ1 HNE HYE x0 x1 x2 x3 hkey
              have x0 := cell_of (o := 0) HM.out.b rfl
              have x1 := cell_of (o := 1) HM.out.b rfl
              have x2 := cell_of (o := 2) HM.out.b rfl
              have x3 := cell_of (o := 3) HM.out.b rfl
              have y1 := cell_of (o := 1) HM.out.head rfl
              have y1n : ∀ ob, (wc.alloc ob).cell? ⟨p, 1, none⟩ = some v := fun ob => (((Below.refl wc.heap.size wc).alloc (Nat.le_refl _) ob).cell (lt_of_cell y1)).trans y1
              go_wp2
              go_region_law (refine Kd.R_append_step k71 (w0 := w) (W := wc.drew) w.heap.size ?aW (.tmp 119) (.tmp 122) 67 71 (.agg #[(.int .i64 0), (.int .u64 0), (.bool false), (.int .i64 0), .bool false]) 40 rfl Try.underlying67 info71 rfl (by decide) (by decide) v ((l.take k).map blkOf) (blkOf x) [.int .i64 x.f0, .int .u64 x.f1, .bool x.f2, .int .i64 x.f3, .bool false] (fun _ => True) (fun _ => False) ?aX ?aY ?aP (fun _ hk => hk.elim) ?aF ?aO ?aB ?aS ?aL ?_; (case aW => rfl); (case aX => rfl); (case aY => rfl); (case aP => exact k71_mkM _ _ _ (blkOf x)); (case aB => exact HM.out.below.drew); (case aF => exact (fun _ _ => trivial)); (case aO => exact Kd.R_drew HM.out.row); (case aS => exact HM.out.below.size); (case aL => rw [List.length_map, HKL.out]; have := HP.out; have := HLEN.out; omega); intro v1 w5 ho hb hg hat; have R1 := Lib.hid ho; have B1 := Lib.hid hb; have G1 := Lib.hid hg; obtain ⟨A1, n1, k1, rfl⟩ : ∃ A n c, v1 = .slice A n c := (by obtain ⟨A, c, h⟩ := Kd.R_slice ho; exact ⟨A, _, c, h⟩); have hh5 := (hg.block p (lt_of_heap HM.out.head) HM.out.sep.2.1).trans HM.out.head; have q1 := cell_of (o := 1) hh5 rfl; have f1 := free_of (o := 1) hh5; clear ho hb hg hat)
              all_goals
                have HN2 := Lib.hid (Mid.next HM.out HX.out R1.out G1.out B1.out)
                clear R1 G1 B1 hh5 q1 f1
                revert HN2
                generalize w5.setCell ⟨p, 1, none⟩ (.slice A1 n1 k1) = W6
                intro HN2
                go_wp2
                go_roundg (gk - 1)
                case measure => have := HK.out; omega
                case rel => exact ⟨k + 1, by (have e64 : wrap64 ((k : Int) + 1) = ((k + 1 : Nat) : Int) := (by have := HP.out; have := HLEN.out; unfold wrap64; omega)); first | rfl | (rw [e64]; done) | (simp [e64]; done), by have := HK.out; omega, _, _, _, HN2.out, HFIN.out⟩
        · go_wp2
          refine bodyPost_ret (v := .tuple #[.pointer none, .int .i64 110]) (by simp [results, Try.results26, go_sem]) rfl ?_
          refine NewEnd.none HZ.out.n.below (HNE.out ?_)
          unfold entryOk
          rw [HKL.out, hbad]
          rfl
    · have hki : ¬ (k : Int) < B := by rw [← HLEN.out]; omega
      have hki' : decide ((k : Int) < B) = false := decide_eq_false hki
      go_wp2
      refine bodyPost_ret (v := .tuple #[.pointer (some ⟨p, 0, none⟩), .int .i64 0]) (by simp [results, Try.results26, go_sem]) rfl ?_
      refine ⟨HN1.out.below, ?_⟩
      have hkl : l.take k = l := List.take_of_length_le (by omega)
      rw [HNEW.out, List.drop_eq_nil_of_le (by omega)]
      refine ⟨p, v, rfl, HN1.out.pb, HN1.out.head, ?_⟩
      have := HN1.out.row
      rw [hkl] at this
      exact this

def newRes (B P S : Int) (l : List S34) (cursor last : Int) : Option Int := if fitsB B P S && placeB B l.length cursor last then newFrom P last [] (-1) l else none
theorem new_calls (B P S : Int) (A : Option Addr) (l : List S34) (c : Nat) (cursor last : Int) (w : World) (hl : Kd.C k34 w A l.length l) (hwf : ∀ x, x ∈ l → 0 ≤ x.f1) :
    Calls Try.prog 26 #[.agg #[.int .i64 B, .int .i64 P, .int .i64 S], .slice A l.length c, .int .i64 cursor, .int .i64 last] w fun e W => Below w.heap.size w W ∧ match newRes B P S l cursor last with
      | none => ∃ er : Int, er ≠ 0 ∧ e = .returned (.tuple #[.pointer none, .int .i64 er])
      | some opn => ∃ p v, e = .returned (.tuple #[.pointer (some ⟨p, 0, none⟩), .int .i64 0]) ∧ w.heap.size ≤ p ∧ W.heap[p]? = some (.cells #[.int .i64 P, v, .int .i64 cursor, .int .i64 last, .int .i64 (-1), .int .i64 opn] 69 (0, 0)) ∧ Kd.R k71 71 W w.heap.size (fun _ => True) v (l.map blkOf) := by
  cases hf : fitsB B P S
  · have hn : newRes B P S l cursor last = none := by unfold newRes; rw [hf]; rfl
    refine (new_shape B P S A l.length c cursor last w hf).mono fun e W h => ⟨h.2, ?_⟩
    rw [hn]
    exact ⟨40, by decide, h.1⟩
  cases hp : placeB B l.length cursor last
  · have hn : newRes B P S l cursor last = none := by unfold newRes; rw [hf, hp]; rfl
    refine (new_place B P S A l.length c cursor last w hf hp).mono fun e W h => ⟨h.2, ?_⟩
    rw [hn]
    exact ⟨41, by decide, h.1⟩
  · have hn : newRes B P S l cursor last = newFrom P last [] (-1) l := by unfold newRes; rw [hf, hp]; rfl
    refine (new_walk B P S A l c cursor last w hf hp hl hwf).mono fun e W h => ⟨h.1, ?_⟩
    rw [hn]
    have h2 := h.2
    cases hv : newFrom P last [] (-1) l with
    | none => rw [hv] at h2; exact ⟨110, by decide, h2⟩
    | some opn => rw [hv] at h2; exact h2
end Go.Proofs.Ytmohijpkhmeibaa
/- copied of the law, with the two marks behind (the kit's print turned: what is kept of the row). -/
namespace Go.Proofs.Ytmohijpkhmeibaa.PBlocksRound
open Go.RowKit Go.Proofs.YtmohijpkhmeibaaW.PrintWords Go.Proofs.YtmohijpkhmeibaaW.PrintLast Go.Proofs.YtmohijpkhmeibaaW.PrintMore
set_option linter.unusedVariables false
set_option linter.unusedSimpArgs false
attribute [local go_sem] max2_int min2_int max_two min_two max_three min_three max_four min_four
attribute [local go_sem high] eqA34

set_option maxHeartbeats 8000000 in
set_option maxRecDepth 100000 in
theorem copied_marks (A0 : Option Addr) (c0 : Nat) (l0 : List (S34)) (r : List (S34)) (w : World) (hr0 : Kd.C k34 w A0 l0.length l0) (hc0 : l0.length ≤ c0) (h : shalelaw11_copied.f l0 = some r) :
    Calls Try.prog 27 #[.slice A0 l0.length c0] w fun e w' => ∃ A c, e = .returned (.slice A l0.length c) ∧ Kd.R k34 34 w' w.heap.size (fun _ => True) (.slice A (l0.length + 2) c) (l0 ++ [(⟨71, 0, false, 0⟩ : S34), (⟨72, 0, false, 0⟩ : S34)]) ∧ Below w.heap.size w w' := by
  have hu34 := Try.underlying34
  have HR0 := Aside0.mk hr0
  have HC0 := Aside0.mk hc0
  clear hr0 hc0
  have HB := Aside0.mk (Below.refl w.heap.size w)
  have H : ((some (([] : List (S34)) : List (S34))).bind fun y104 => (if y104.length + l0.length < 4398046511104 then ((some (y104 ++ l0 : List (S34))).bind fun y107 => ((some (([(⟨71, 0, false, 0⟩ : S34), (⟨72, 0, false, 0⟩ : S34)] : List (S34)) : List (S34))).bind fun y110 => (if y107.length + y110.length < 4398046511104 then ((some (y107 ++ y110 : List (S34))).bind fun y113 => (if 0 ≤ (l0.length : Int) then (if (l0.length : Int) ≤ (y113.length : Int) then (some (y113.take ((l0.length : Int) : Int).toNat)) else (none)) else (none))) else (none)))) else (none))) = some r := h
  clear h
  obtain ⟨y104, hy104⟩ : ∃ y_ : List (S34), y_ = (([] : List (S34))) := ⟨_, rfl⟩
  replace H : (if y104.length + l0.length < 4398046511104 then ((some (y104 ++ l0 : List (S34))).bind fun y107 => ((some (([(⟨71, 0, false, 0⟩ : S34), (⟨72, 0, false, 0⟩ : S34)] : List (S34)) : List (S34))).bind fun y110 => (if y107.length + y110.length < 4398046511104 then ((some (y107 ++ y110 : List (S34))).bind fun y113 => (if 0 ≤ (l0.length : Int) then (if (l0.length : Int) ≤ (y113.length : Int) then (some (y113.take ((l0.length : Int) : Int).toNat)) else (none)) else (none))) else (none)))) else (none)) = some r := by first | (rw [hy104]; with_reducible exact H) | (have H2_ := (Option.bind_some _ _).symm.trans H; rw [hy104]; with_reducible exact H2_) | (have H2_ := (Option.bind_some _ _).symm.trans H; with_reducible exact H2_) | with_reducible exact H | (rw [hy104]; exact H) | exact H
  have Ny104 := Aside0.mk hy104
  clear hy104
  by_cases c2 : y104.length + l0.length < 4398046511104
  · rw [if_pos c2] at H
    have LMc2 := Aside0.mk c2
    clear c2
    obtain ⟨y107, hy107⟩ : ∃ y_ : List (S34), y_ = (y104 ++ l0) := ⟨_, rfl⟩
    replace H : ((some (([(⟨71, 0, false, 0⟩ : S34), (⟨72, 0, false, 0⟩ : S34)] : List (S34)) : List (S34))).bind fun y110 => (if y107.length + y110.length < 4398046511104 then ((some (y107 ++ y110 : List (S34))).bind fun y113 => (if 0 ≤ (l0.length : Int) then (if (l0.length : Int) ≤ (y113.length : Int) then (some (y113.take ((l0.length : Int) : Int).toNat)) else (none)) else (none))) else (none))) = some r := by first | (rw [hy107]; with_reducible exact H) | (have H2_ := (Option.bind_some _ _).symm.trans H; rw [hy107]; with_reducible exact H2_) | (have H2_ := (Option.bind_some _ _).symm.trans H; with_reducible exact H2_) | with_reducible exact H | (rw [hy107]; exact H) | exact H
    have Ny107 := Aside0.mk hy107
    clear hy107
    obtain ⟨y110, hy110⟩ : ∃ y_ : List (S34), y_ = (([(⟨71, 0, false, 0⟩ : S34), (⟨72, 0, false, 0⟩ : S34)] : List (S34))) := ⟨_, rfl⟩
    replace H : (if y107.length + y110.length < 4398046511104 then ((some (y107 ++ y110 : List (S34))).bind fun y113 => (if 0 ≤ (l0.length : Int) then (if (l0.length : Int) ≤ (y113.length : Int) then (some (y113.take ((l0.length : Int) : Int).toNat)) else (none)) else (none))) else (none)) = some r := by first | (rw [hy110]; with_reducible exact H) | (have H2_ := (Option.bind_some _ _).symm.trans H; rw [hy110]; with_reducible exact H2_) | (have H2_ := (Option.bind_some _ _).symm.trans H; with_reducible exact H2_) | with_reducible exact H | (rw [hy110]; exact H) | exact H
    have Ny110 := Aside0.mk hy110
    clear hy110
    by_cases c3 : y107.length + y110.length < 4398046511104
    · rw [if_pos c3] at H
      have LMc3 := Aside0.mk c3
      clear c3
      obtain ⟨y113, hy113⟩ : ∃ y_ : List (S34), y_ = (y107 ++ y110) := ⟨_, rfl⟩
      replace H : (if 0 ≤ (l0.length : Int) then (if (l0.length : Int) ≤ (y113.length : Int) then (some (y113.take ((l0.length : Int) : Int).toNat)) else (none)) else (none)) = some r := by first | (rw [hy113]; with_reducible exact H) | (have H2_ := (Option.bind_some _ _).symm.trans H; rw [hy113]; with_reducible exact H2_) | (have H2_ := (Option.bind_some _ _).symm.trans H; with_reducible exact H2_) | with_reducible exact H | (rw [hy113]; exact H) | exact H
      have Ny113 := Aside0.mk hy113
      clear hy113
      by_cases c4 : 0 ≤ (l0.length : Int)
      · rw [if_pos c4] at H
        have c4b0 := eq_true c4
        have c4b1 : decide (0 ≤ (l0.length : Int)) = true := decide_eq_true c4
        clear c4
        by_cases c5 : (l0.length : Int) ≤ (y113.length : Int)
        · rw [if_pos c5] at H
          have c5b0 := eq_true c5
          have c5b1 : decide ((l0.length : Int) ≤ (y113.length : Int)) = true := decide_eq_true c5
          clear c5
          obtain ⟨y116, hy116⟩ : ∃ y_ : List (S34), y_ = (y113.take ((l0.length : Int) : Int).toNat) := ⟨_, rfl⟩
          replace H : (some y116) = some r := by first | (rw [hy116]; with_reducible exact H) | (have H2_ := (Option.bind_some _ _).symm.trans H; rw [hy116]; with_reducible exact H2_) | (have H2_ := (Option.bind_some _ _).symm.trans H; with_reducible exact H2_) | with_reducible exact H | (rw [hy116]; exact H) | exact H
          have Ny116 := Aside0.mk hy116
          clear hy116
          obtain rfl := Option.some.inj H
          go_enter Try.func27, Try.ntmps27
          go_wp2_with (first | ((with_reducible refine gate_dst (N := 4) rfl ?_); refine Kd.R_lit k34 _ 34 ?hg (N := 4) ?hd (xs := ([] : List (S34))) (inner := []) (ok := fun _ => True) (okp := fun _ => True) ?hr ?hp (fun _ hk => hk) trivial (Below.refl _ _) (Nat.le_refl _) (by simp) ?_; (case hd => rfl); (case hg => rfl); (case hr => first | (go_simp; done) | (go_simp; rfl)); (case hp => exact (Reps.none _ _)); intro v105 w6 ho7 hb hg_ hnew_; clear hg_ hnew_; (first | rw [← Ny104.out] at ho7 | (simp only [Int.reduceToNat] at ho7; rw [← Ny104.out] at ho7)); have n0_ := Aside0.mk (Kd.R_lower ho7 (below_size (by repeat (first | (with_reducible first | exact HB.out | apply below_alloc | apply pw_below_drewN | apply below_drew1) | exact HB.out)))); have n1_ := Aside0.mk (below_step (by repeat (first | (with_reducible first | exact HB.out | apply below_alloc | apply pw_below_drewN | apply below_drew1) | exact HB.out)) hb); clear HB; have HO106 := n0_; have HB := n1_; clear n0_ n1_; clear hb ho7) | ((with_reducible refine gate_builtin (b := .append) (xs := #[.tmp 4, .tmp 5]) rfl ?_); at_builtin; refine Kd.R_append_rows k34 (w0 := w) w.heap.size rfl (.tmp 4) (.tmp 5) 24 34 (.agg #[(.int .i64 0), (.int .u64 0), (.bool false), (.int .i64 0)]) 32 rfl Try.underlying24 info34 rfl (by decide) (by omega) v105 y104 l0 _ _ _ (fun _ => True) (fun _ => False) rfl rfl ?aO ?aR (fun _ _ h => h) (fun _ h => h.elim) ?aF ?aB ?aS ?aL ?_; (case aR => repeat (first | exact (Kd.C_below HR0.out HB.out) | (with_reducible refine Kd.C_alloc ?_ _) | (with_reducible refine Kd.C_drewN ?_ _) | (with_reducible refine Kd.C_drew ?_))); (case aB => exact (by repeat (first | (with_reducible first | exact HB.out | apply below_alloc | apply pw_below_drewN | apply below_drew1) | exact HB.out))); (case aF => exact (fun _ _ => trivial)); (case aO => exact (by (with_reducible repeat (first | apply Kd.R_alloc | apply Kd.R_drewN | apply Kd.R_drew)); exact HO106.out)); (case aS => exact (below_size (by repeat (first | (with_reducible first | exact HB.out | apply below_alloc | apply pw_below_drewN | apply below_drew1) | exact HB.out)))); (case aL => have := LMc2.out; omega); intro v108 w8 ho hb hg hat; rw [← Ny107.out] at ho; have n0_ := Aside0.mk (hb); have n1_ := Aside0.mk (ho); clear HB; clear HO106; have HB := n0_; have HO109 := n1_; clear n0_ n1_; clear ho hb hg hat) | ((with_reducible refine gate_dst (N := 9) rfl ?_); refine Kd.R_lit k34 _ 34 ?hg (N := 9) ?hd (xs := ([(⟨71, 0, false, 0⟩ : S34), (⟨72, 0, false, 0⟩ : S34)] : List (S34))) (inner := [.int .i64 71, .int .u64 0, .bool false, .int .i64 0, .int .i64 72, .int .u64 0, .bool false, .int .i64 0]) (ok := fun _ => True) (okp := fun _ => True) ?hr ?hp (fun _ hk => hk) trivial (Below.refl _ _) (Nat.le_refl _) (by simp) ?_; (case hd => rfl); (case hg => rfl); (case hr => first | (go_simp; done) | (go_simp; rfl)); (case hp => exact (Reps.c4 (show Kd.M k34 _ _ _ (⟨71, 0, false, 0⟩ : S34) [.int .i64 71, .int .u64 0, .bool false, .int .i64 0] from (k34_mkM _ _ _ (⟨71, 0, false, 0⟩ : S34) )) (Reps.c4 (show Kd.M k34 _ _ _ (⟨72, 0, false, 0⟩ : S34) [.int .i64 72, .int .u64 0, .bool false, .int .i64 0] from (k34_mkM _ _ _ (⟨72, 0, false, 0⟩ : S34) )) (Reps.none _ _)))); intro v111 w9 ho10 hb hg_ hnew_; clear hg_ hnew_; (first | rw [← Ny110.out] at ho10 | (simp only [Int.reduceToNat] at ho10; rw [← Ny110.out] at ho10)); have n0_ := Aside0.mk (Kd.R_elder' (by (with_reducible repeat (first | apply Kd.R_alloc | apply Kd.R_drewN | apply Kd.R_drew)); exact HO109.out) (Kd.R_base ho10) hb); have n1_ := Aside0.mk (Kd.R_lower (Kd.R_new' ho10 (Kd.R_lt (by (with_reducible repeat (first | apply Kd.R_alloc | apply Kd.R_drewN | apply Kd.R_drew)); exact HO109.out))) (below_size (by repeat (first | (with_reducible first | exact HB.out | apply below_alloc | apply pw_below_drewN | apply below_drew1) | exact HB.out)))); have n2_ := Aside0.mk (below_step (by repeat (first | (with_reducible first | exact HB.out | apply below_alloc | apply pw_below_drewN | apply below_drew1) | exact HB.out)) hb); clear HO109; clear HB; have HO109 := n0_; have HO112 := n1_; have HB := n2_; clear n0_ n1_ n2_; clear hb ho10; obtain ⟨Ao12, co12, eo12⟩ := Kd.R_slice HO112.out; subst eo12) | ((with_reducible refine gate_builtin (b := .append) (xs := #[.tmp 6, .tmp 9]) rfl ?_); at_builtin; refine Kd.R_append_rows k34 (w0 := w) w.heap.size rfl (.tmp 6) (.tmp 9) 24 34 (.agg #[(.int .i64 0), (.int .u64 0), (.bool false), (.int .i64 0)]) 32 rfl Try.underlying24 info34 rfl (by decide) (by omega) v108 y107 y110 _ _ _ (fun k_ => some k_ ≠ (.slice Ao12 y110.length co12 : Value).ownBlock) (fun _ => False) rfl rfl ?aO ?aR (fun _ _ h => h) (fun _ h => h.elim) ?aF ?aB ?aS ?aL ?_; (case aR => repeat (first | exact (Kd.R_reads' HO112.out).2.2 | (with_reducible refine Kd.C_alloc ?_ _) | (with_reducible refine Kd.C_drewN ?_ _) | (with_reducible refine Kd.C_drew ?_))); (case aB => exact (by repeat (first | (with_reducible first | exact HB.out | apply below_alloc | apply pw_below_drewN | apply below_drew1) | exact HB.out))); (case aF => exact (fun k_ hk => Kd.fresh' (Kd.R_lt (by (with_reducible repeat (first | apply Kd.R_alloc | apply Kd.R_drewN | apply Kd.R_drew)); exact HO112.out)) k_ hk)); (case aO => exact (by (with_reducible repeat (first | apply Kd.R_alloc | apply Kd.R_drewN | apply Kd.R_drew)); exact Kd.R_mono HO109.out (fun _ hk => hk.2))); (case aS => exact (below_size (by repeat (first | (with_reducible first | exact HB.out | apply below_alloc | apply pw_below_drewN | apply below_drew1) | exact HB.out)))); (case aL => have := LMc3.out; omega); intro v114 w11 ho hb hg hat; rw [← Ny113.out] at ho; have n0_ := Aside0.mk (Kd.R_after (ok := (fun _ => True)) (by (with_reducible repeat (first | apply Kd.R_alloc | apply Kd.R_drewN | apply Kd.R_drew)); exact HO112.out) hg hat); have n1_ := Aside0.mk (hb); have n2_ := Aside0.mk (ho); clear HO112; clear HB; clear HO109; have HO112 := n0_; have HB := n1_; have HO115 := n2_; clear n0_ n1_ n2_; clear ho hb hg hat; obtain ⟨Ao13, co13, eo13⟩ := Kd.R_slice HO115.out; subst eo13; have q14 : ((l0.length : Int) : Int) ≤ ((y113.length : Int) : Int) := of_decide_eq_true (by first | (with_reducible assumption) | assumption); obtain ⟨i014, hi014, _, hsz14, _⟩ := info_parts info34; have hcut14 := cut_to (P := Try.prog) 24 34 .i64 Try.underlying24 hi014 Ao13 y113.length co13 (l0.length : Int) (of_decide_eq_true (by first | (with_reducible assumption) | assumption)) q14 (Kd.R_reads' HO115.out).2.1; have hr14 := Kd.R_take (m := ((l0.length : Int) : Int).toNat) HO115.out (by omega); have hy14 : y116.length = ((l0.length : Int) : Int).toNat := (by rw [Ny116.out, List.length_take]; omega); rw [← Ny116.out] at hr14; rw [← hy14] at hr14 hcut14; clear hy14 hi014 hsz14; have HX115 := HO115; clear HO115; have HO118 := Aside0.mk hr14; clear hr14; replace q14 := eq_true q14))
          go_ret
          have e113 : y113 = l0 ++ [(⟨71, 0, false, 0⟩ : S34), (⟨72, 0, false, 0⟩ : S34)] := by rw [Ny113.out, Ny107.out, Ny104.out, Ny110.out]; rfl
          have e116 : y116.length = l0.length := by rw [Ny116.out, e113, List.length_take, List.length_append]; simp
          have e113l : y113.length = l0.length + 2 := by rw [e113, List.length_append]; rfl
          have hX := HX115.out
          rw [e113l, e113] at hX
          exact ⟨Ao13, co13, by first | rfl | (rw [e116]; done) | (rw [e116]; rfl), by (with_reducible repeat (first | apply Kd.R_alloc | apply Kd.R_drewN | apply Kd.R_drew)); exact Kd.R_mono hX (fun _ hk => trivial), by repeat (first | (with_reducible first | exact HB.out | apply below_alloc | apply pw_below_drewN | apply below_drew1) | exact HB.out)⟩
        · rw [if_neg c5] at H
          exact absurd H (by simp)
      · rw [if_neg c4] at H
        exact absurd H (by simp)
    · rw [if_neg c3] at H
      exact absurd H (by simp)
  · rw [if_neg c2] at H
    exact absurd H (by simp)


theorem copied_f (l0 : List S34) (hl : l0.length * 32 ≤ 140737488351232) : shalelaw11_copied.f l0 = some l0 := by
  unfold shalelaw11_copied.f
  simp only [Option.bind_some, List.nil_append, List.length_nil, List.length_append, List.length_cons]
  rw [if_pos (by omega), if_pos (by omega), if_pos (by omega), if_pos (by omega)]
  simp
theorem copied_calls (A0 : Option Addr) (c0 : Nat) (l0 : List S34) (w : World) (hr0 : Kd.C k34 w A0 l0.length l0) (hc0 : l0.length ≤ c0) (hl : l0.length * 32 ≤ 140737488351232) :
    Calls Try.prog 27 #[.slice A0 l0.length c0] w fun e w' => ∃ A c, e = .returned (.slice A l0.length c) ∧ Kd.R k34 34 w' w.heap.size (fun _ => True) (.slice A (l0.length + 2) c) (l0 ++ [(⟨71, 0, false, 0⟩ : S34), (⟨72, 0, false, 0⟩ : S34)]) ∧ Below w.heap.size w w' :=
  copied_marks A0 c0 l0 l0 w hr0 hc0 (copied_f l0 hl)
end Go.Proofs.Ytmohijpkhmeibaa.PBlocksRound
/- kept of the law: the marks stand. -/
namespace Go.Proofs.Ytmohijpkhmeibaa
open Go.RowKit Go.Proofs Go.Proofs.YtmohijpkhmeibaaW.PrintWords Go.Proofs.YtmohijpkhmeibaaW.PrintLast Go.Proofs.YtmohijpkhmeibaaW.PrintMore
open PBlocksRound
set_option linter.unusedVariables false
set_option linter.unusedSimpArgs false
attribute [local go_sem high] PBlocksRound.eqA34

theorem same_l0 (l : List S34) (hl : l.length * 32 ≤ 140737488351232) : ∀ n (i : Nat), i + n = l.length → shalelaw11_same.l0 (n + 1) l l i = some true := by
  intro n
  induction n with
  | zero =>
    intro i hi
    unfold shalelaw11_same.l0
    rw [if_neg (by omega)]
  | succ n ih =>
    intro i hi
    unfold shalelaw11_same.l0
    rw [if_pos (by omega), if_pos (by omega), if_pos (by omega)]
    have e : wrap64 ((i : Int) + 1) = ((i + 1 : Nat) : Int) := by unfold wrap64; omega
    rw [e]
    simp only [beq_self_eq_true, Bool.not_true, Bool.or_false, Bool.false_eq_true, if_false]
    exact ih (i + 1) (by omega)
theorem same_f (l : List S34) (hl : l.length * 32 ≤ 140737488351232) : shalelaw11_same.f (l.length + 1) l l = some true := by
  unfold shalelaw11_same.f
  rw [if_pos rfl]
  exact same_l0 l hl l.length 0 (by omega)
abbrev marks (l : List S34) : List S34 := l ++ [(⟨71, 0, false, 0⟩ : S34), (⟨72, 0, false, 0⟩ : S34)]

set_option maxHeartbeats 4000000 in
set_option maxRecDepth 100000 in
theorem kept_calls (A A1 : Option Addr) (c c1 base : Nat) (l : List S34) (w : World) (hr : Kd.R k34 34 w base (fun _ => True) (.slice A (l.length + 2) c) (marks l)) (hl : Kd.C k34 w A1 l.length l) (hc1 : l.length ≤ c1) (hlen : l.length * 32 ≤ 140737488351232) :
    Calls Try.prog 34 #[.slice A l.length c, .slice A1 l.length c1] w fun e w' => e = .returned (.bool true) ∧ Drawn0 w w' := by
  have hml : (marks l).length = l.length + 2 := by unfold marks; rw [List.length_append]; rfl
  obtain ⟨_, hcap, hC⟩ := Kd.R_reads' (by rw [← hml] at hr; exact hr)
  rw [hml] at hC hcap
  obtain ⟨g, o, rfl, rows⟩ := kd_rows hC (by omega)
  have m1 := (rows l.length ⟨71, 0, false, 0⟩ (by unfold marks; rw [List.getElem?_append_right (Nat.le_refl _), Nat.sub_self]; rfl)).1
  have m2 := (rows (l.length + 1) ⟨72, 0, false, 0⟩ (by unfold marks; rw [List.getElem?_append_right (by omega), show l.length + 1 - l.length = 1 by omega]; rfl)).1
  have hP : Kd.C k34 w (some ⟨g, o, none⟩) l.length l := by
    have := Kd.R_take (m := l.length) (by rw [← hml] at hr; exact hr) (by omega)
    have e : (marks l).take l.length = l := by unfold marks; rw [List.take_left']; rfl
    rw [e] at this
    exact (Kd.R_reads' this).2.2
  have SA := Lib.hid (shalelaw11_same.calls (l.length + 1) (some ⟨g, o, none⟩) c l A1 c1 l true w hP (by omega) hl hc1 (same_f l hlen))
  clear hr hl hC rows hP
  have hw2 : wrap64 ((l.length : Int) + 2) = (l.length : Int) + 2 := by unfold wrap64; omega
  have hw1 : wrap64 ((l.length : Int) + 1) = (l.length : Int) + 1 := by unfold wrap64; omega
  go_enter Try.func34, Try.ntmps34
  go_wp2_with (go_at_call 23; refine SA.out.mono ?_; rintro e w1 ⟨rfl, ⟨⟨nn, rfl⟩⟩⟩)
  go_ret
  exact ⟨rfl, ⟨nn, rfl⟩⟩
end Go.Proofs.Ytmohijpkhmeibaa
/- New of the document's book. -/
namespace Go.Proofs.Ytmohijpkhmeibaa
open Go.RowKit Go.Proofs Go.Proofs.YtmohijpkhmeibaaW.PrintWords
open PBlocksRound
set_option linter.unusedVariables false
set_option linter.unusedSimpArgs false
set_option maxRecDepth 100000
attribute [local go_sem high] PBlocksRound.eqA34

theorem rfits_calls (B P S : Int) (w : World) : Calls Try.prog 66 #[.agg #[.int .i64 B, .int .i64 P, .int .i64 S]] w fun e w' => e = .returned (.bool (fitsB B P S)) ∧ Below w.heap.size w w' := by
  refine (shaleref05_Fits.calls B P S (fitsB B P S) w ?_).mono fun e w' h => ?_
  · unfold shaleref05_Fits.f fitsB
    by_cases h1 : B ≥ 8
    case neg => rw [if_neg h1]; simp; omega
    by_cases h2 : B ≤ 4096
    case neg => rw [if_pos h1, if_neg h2]; simp; omega
    by_cases h3 : P ≥ 4
    case neg => rw [if_pos h1, if_pos h2, if_neg h3]; simp; omega
    by_cases h4 : P ≤ 256
    case neg => rw [if_pos h1, if_pos h2, if_pos h3, if_neg h4]; simp; omega
    by_cases h5 : S ≥ 1
    case neg => rw [if_pos h1, if_pos h2, if_pos h3, if_pos h4, if_neg h5]; simp; omega
    by_cases h6 : S ≤ 8
    case neg => rw [if_pos h1, if_pos h2, if_pos h3, if_pos h4, if_pos h5, if_neg h6]; simp; omega
    rw [if_pos h1, if_pos h2, if_pos h3, if_pos h4, if_pos h5, if_pos h6]
    have e : wrap64 (B * P) = B * P := by
      have hb1 : B * P ≤ 4096 * P := Int.mul_le_mul_of_nonneg_right h2 (by omega)
      have hb2 : 0 ≤ B * P := Int.mul_nonneg (by omega) (by omega)
      unfold wrap64
      omega
    rw [e]
    refine congrArg some (decide_eq_decide.2 ?_)
    exact ⟨fun h => ⟨h1, h2, h3, h4, h5, h6, h⟩, fun h => h.2.2.2.2.2.2⟩
  · exact ⟨h.1, h.2⟩

set_option maxHeartbeats 4000000 in
theorem rnew_shape (B P S : Int) (A : Option Addr) (n c : Nat) (cursor last : Int) (w : World) (hf : fitsB B P S = false) :
    Calls Try.prog 33 #[.agg #[.int .i64 B, .int .i64 P, .int .i64 S], .slice A n c, .int .i64 cursor, .int .i64 last] w fun e w' => e = .returned (.tuple #[.pointer none, .int .i64 40]) ∧ Below w.heap.size w w' := by
  have V := Lib.hid (fun w => rfits_calls B P S w)
  have HV := Lib.hid hf
  clear hf
  go_enter Try.func33, Try.ntmps33
  go_wp2_with (go_at_call 66; fail)
  refine (V.out _).mono ?_
  rw [HV.out]
  rintro e w1 ⟨rfl, hb⟩
  go_wp2
  refine bodyPost_ret (v := .tuple #[.pointer none, .int .i64 40]) (by simp [results, Try.results33, go_sem]) rfl ?_
  exact ⟨rfl, ((Below.refl _ _).alloc (Nat.le_refl _) _).trans (hb.mono (by rw [World.size_alloc]; omega))⟩

set_option maxHeartbeats 4000000 in
theorem rnew_place (B P S : Int) (A : Option Addr) (n c : Nat) (cursor last : Int) (w : World) (hf : fitsB B P S = true) (hp : placeB B n cursor last = false) :
    Calls Try.prog 33 #[.agg #[.int .i64 B, .int .i64 P, .int .i64 S], .slice A n c, .int .i64 cursor, .int .i64 last] w fun e w' => e = .returned (.tuple #[.pointer none, .int .i64 41]) ∧ Below w.heap.size w w' := by
  have V := Lib.hid (fun w => rfits_calls B P S w)
  have HV := Lib.hid hf
  clear hf
  have all5 : ∀ b0 b1 b2 b3 b4 : Bool, ((n : Int) != B) = b0 → decide (cursor < -1) = b1 → decide (cursor ≥ B) = b2 → decide (last < -1) = b3 → decide (last ≥ B) = b4 → (b0 || b1 || b2 || b3 || b4) = true → Calls Try.prog 33 #[.agg #[.int .i64 B, .int .i64 P, .int .i64 S], .slice A n c, .int .i64 cursor, .int .i64 last] w fun e w' => e = .returned (.tuple #[.pointer none, .int .i64 41]) ∧ Below w.heap.size w w' := by
    intro b0 b1 b2 b3 b4 h0 h1 h2 h3 h4 hor
    have HO := Lib.hid hor
    clear hor hp
    go_enter Try.func33, Try.ntmps33
    go_wp2_with (go_at_call 66; fail)
    refine (V.out _).mono ?_
    rw [HV.out]
    rintro e w1 ⟨rfl, hb⟩
    have kb : Below w.heap.size w w1 := ((Below.refl _ _).alloc (Nat.le_refl _) _).trans (hb.mono (by rw [World.size_alloc]; omega))
    have kh := (hb.block w.heap.size (by rw [World.size_alloc]; omega)).trans (heap_alloc_new w _)
    have z0 := cell_of (o := 0) kh rfl
    have z1 := cell_of (o := 1) kh rfl
    have z2 := cell_of (o := 2) kh rfl
    have KB := Lib.hid kb
    clear kb kh hb
    go_wp2_with (go_at_call 25; fail)
    all_goals first
      | (exfalso
         have ho := HO.out
         simp only [Bool.or_eq_true] at ho
         rcases ho with (((h | h) | h) | h) | h <;> first | (exact absurd h (by assumption)) | (have h9 := h.symm.trans ‹b4 = false›; cases h9)
         done)
      | (refine bodyPost_ret (v := .tuple #[.pointer none, .int .i64 41]) (by simp [results, Try.results33, go_sem]) rfl ?_
         exact ⟨rfl, KB.out⟩)
  unfold placeB at hp
  simp only [Bool.not_eq_false'] at hp
  exact all5 _ _ _ _ _ rfl rfl rfl rfl rfl hp

structure RN (w : World) (l : List S34) (P cursor last : Int) (rb lb k : Nat) (v : Value) (W : World) : Prop where
  head : W.heap[rb]? = some (.cells #[.int .i64 P, v, .slice (some ⟨lb, 0, none⟩) l.length l.length, .int .i64 cursor, .int .i64 last, .int .i64 (-1)] 31 (0, 0))
  row : Kd.R k34 34 W w.heap.size (fun _ => True) v (l.take k)
  left : W.heap[lb]? = some (.cells (madeCells #[.bool false] l.length) 4 (0, 0))
  below : Below w.heap.size w W
  rbb : w.heap.size ≤ rb
  lbb : w.heap.size ≤ lb
theorem RN.sep {w : World} {l : List S34} {P cursor last : Int} {rb lb k : Nat} {v : Value} {W : World} (h : RN w l P cursor last rb lb k v W) : some rb ≠ v.ownBlock ∧ some lb ≠ v.ownBlock ∧ rb ≠ lb := by
  refine ⟨Kd.R_ne h.row h.head (by decide), Kd.R_ne h.row h.left (by decide), ?_⟩
  rintro rfl
  have := h.head
  rw [h.left] at this
  injection this with this
  injection this with _ this
  cases this
theorem RN.next {w : World} {l : List S34} {P cursor last : Int} {rb lb k : Nat} {v : Value} {x : S34} {W w5 : World} {A1 : Option Addr} {n1 k1 : Nat} (h : RN w l P cursor last rb lb k v W) (hx : l[k]? = some x)
    (hr : Kd.R k34 34 w5 w.heap.size (fun _ => True) (.slice A1 n1 k1) (l.take k ++ [x])) (hg : W.drew.grownBy w5 v.ownBlock) (hb : Below w.heap.size w w5) :
    RN w l P cursor last rb lb (k + 1) (.slice A1 n1 k1) (w5.setCell ⟨rb, 1, none⟩ (.slice A1 n1 k1)) := by
  obtain ⟨s1, s2, s3⟩ := h.sep
  have hh : w5.heap[rb]? = some (.cells #[.int .i64 P, v, .slice (some ⟨lb, 0, none⟩) l.length l.length, .int .i64 cursor, .int .i64 last, .int .i64 (-1)] 31 (0, 0)) := (hg.block rb (lt_of_heap h.head) s1).trans h.head
  have hl : w5.heap[lb]? = _ := (hg.block lb (lt_of_heap h.left) s2).trans h.left
  refine ⟨heap_set_same hh _, ?_, (heap_set_ne _ (Ne.symm s3)).trans hl, hb.setCell (p := ⟨rb, 1, none⟩) h.rbb _, h.rbb, h.lbb⟩
  rw [take_snoc hx]
  exact Kd.R_mono (Kd.R_far (Kd.R_types hr hh (by decide)) (fun k hk => hk.2) _) (fun _ _ => trivial)

set_option maxHeartbeats 4000000 in
theorem rnew_may (B P S : Int) (A : Option Addr) (l : List S34) (c : Nat) (cursor last : Int) (w : World) (hf : fitsB B P S = true) (hp : placeB B l.length cursor last = true) (hl : Kd.C k34 w A l.length l) (hc : l.length ≤ c) (kk : Nat) (hm : shaleref11_May.f kk l P last = some false) :
    Calls Try.prog 33 #[.agg #[.int .i64 B, .int .i64 P, .int .i64 S], .slice A l.length c, .int .i64 cursor, .int .i64 last] w fun e w' => e = .returned (.tuple #[.pointer none, .int .i64 110]) ∧ Below w.heap.size w w' := by
  have V := Lib.hid (fun w => rfits_calls B P S w)
  have HV := Lib.hid hf
  unfold placeB at hp
  simp only [Bool.not_eq_true', Bool.or_eq_false_iff] at hp
  obtain ⟨⟨⟨⟨h0, h1⟩, h2⟩, h3⟩, h4⟩ := hp
  have MC := Lib.hid (fun W (hB : Below w.heap.size w W) => shaleref11_May.calls kk A c l P last false W (Kd.C_below hl hB) hc hm)
  clear hf hl hm
  go_enter Try.func33, Try.ntmps33
  go_wp2_with (go_at_call 66; fail)
  refine (V.out _).mono ?_
  rw [HV.out]
  rintro e w1 ⟨rfl, hb⟩
  have kb : Below w.heap.size w w1 := ((Below.refl _ _).alloc (Nat.le_refl _) _).trans (hb.mono (by rw [World.size_alloc]; omega))
  have kh := (hb.block w.heap.size (by rw [World.size_alloc]; omega)).trans (heap_alloc_new w _)
  have z0 := cell_of (o := 0) kh rfl
  have z1 := cell_of (o := 1) kh rfl
  have z2 := cell_of (o := 2) kh rfl
  have KB := Lib.hid kb
  clear kb kh hb
  go_wp2_with (go_at_call 25; fail)
  refine (MC.out _ KB.out).mono ?_
  rintro e w2 ⟨rfl, hb2⟩
  go_wp2
  refine bodyPost_ret (v := .tuple #[.pointer none, .int .i64 110]) (by simp [results, Try.results33, go_sem]) rfl ?_
  exact ⟨rfl, KB.out.trans (hb2.mono KB.out.size)⟩

def RNewEnd (w : World) (l : List S34) (P cursor last : Int) (e : Ending) (W : World) : Prop := ∃ rb lb v, e = .returned (.tuple #[.pointer (some ⟨rb, 0, none⟩), .int .i64 0]) ∧ RN w l P cursor last rb lb l.length v W
set_option maxHeartbeats 4000000 in
theorem rnew_walk (B P S : Int) (A : Option Addr) (l : List S34) (c : Nat) (cursor last : Int) (w : World) (hf : fitsB B P S = true) (hp : placeB B l.length cursor last = true) (hl : Kd.C k34 w A l.length l) (hc : l.length ≤ c) (kk : Nat) (hm : shaleref11_May.f kk l P last = some true) :
    Calls Try.prog 33 #[.agg #[.int .i64 B, .int .i64 P, .int .i64 S], .slice A l.length c, .int .i64 cursor, .int .i64 last] w (RNewEnd w l P cursor last) := by
  have V := Lib.hid (fun w => rfits_calls B P S w)
  have HV := Lib.hid hf
  unfold placeB at hp
  simp only [Bool.not_eq_true', Bool.or_eq_false_iff] at hp
  obtain ⟨⟨⟨⟨h0, h1⟩, h2⟩, h3⟩, h4⟩ := hp
  have hpos : 8 ≤ B ∧ B ≤ 4096 ∧ 4 ≤ P ∧ P ≤ 256 := by
    have := hf
    unfold fitsB at this
    have := of_decide_eq_true this
    omega
  have hlen : (l.length : Int) = B := by simpa using h0
  have MC := Lib.hid (fun W (hB : Below w.heap.size w W) => shaleref11_May.calls kk A c l P last true W (Kd.C_below hl hB) hc hm)
  obtain ⟨g, o, rfl, rows⟩ := kd_rows hl (by omega)
  have HR := Lib.hid rows
  have HP := Lib.hid hpos
  have HLEN := Lib.hid hlen
  have info4b : (Try.prog.info? 4).map (fun i => (i.zero, i.size, i.bytes)) = some (some (.bool false), 1, 1) := by kernel_rfl
  have hmk : ∀ W : World, (Instr.makeSlice 29 (.int .i64 B) (.int .i64 B)).run Try.prog W = .ok (.slice (some ⟨W.heap.size, 0, none⟩) l.length l.length) (W.alloc (.cells (madeCells #[.bool false] l.length) 4)) := by
    rw [← hlen]
    exact print_make_of (P := Try.prog) 29 4 (.bool false) 1 Try.underlying29 info4b rfl (by decide) l.length (by omega)
  clear hf hl hm rows hpos
  go_enter Try.func33, Try.ntmps33
  go_wp2_with (go_at_call 66; fail)
  refine (V.out _).mono ?_
  rw [HV.out]
  rintro e w1 ⟨rfl, hb⟩
  have kb : Below w.heap.size w w1 := ((Below.refl _ _).alloc (Nat.le_refl _) _).trans (hb.mono (by rw [World.size_alloc]; omega))
  have kh := (hb.block w.heap.size (by rw [World.size_alloc]; omega)).trans (heap_alloc_new w _)
  have z0 := cell_of (o := 0) kh rfl
  have z1 := cell_of (o := 1) kh rfl
  have z2 := cell_of (o := 2) kh rfl
  have KH := Lib.hid kh
  have KB := Lib.hid kb
  clear kb kh hb
  go_wp2_with (go_at_call 25; fail)
  refine (MC.out _ KB.out).mono ?_
  rintro e w2 ⟨rfl, hb2⟩
  have kh := (hb2.block w.heap.size (lt_of_heap KH.out)).trans KH.out
  have kb := KB.out.trans (hb2.mono KB.out.size)
  clear z0 z1 z2 KB KH hb2
  have z0 := cell_of (o := 0) kh rfl
  have z1 := cell_of (o := 1) kh rfl
  have z2 := cell_of (o := 2) kh rfl
  have z1n : ∀ ob, (w2.alloc ob).cell? ⟨w.heap.size, 1, none⟩ = some (.int .i64 P) := fun ob => (((Below.refl w2.heap.size w2).alloc (Nat.le_refl _) ob).cell (lt_of_cell z1)).trans z1
  have KH := Lib.hid kh
  have KB := Lib.hid kb
  clear kh kb
  go_upto_region 8 with (fail)
  go_region
  clear z0 z1 z2 z1n hmk
  have hN : RN w l P cursor last (w2.heap.size + 1) w2.heap.size 0 (.slice none 0 0) ((w2.alloc (.cells (madeCells #[.bool false] l.length) 4)).alloc (.cells #[.int .i64 P, .slice none 0 0, .slice (some ⟨w2.heap.size, 0, none⟩) l.length l.length, .int .i64 cursor, .int .i64 last, .int .i64 (-1)] 31)).drew := by
    refine ⟨?_, Kd.R_drew (Kd.R_nil _ _ _ _ _), ?_, ((KB.out.alloc KB.out.size _).alloc (by rw [World.size_alloc]; have := KB.out.size; omega) _).drew, by have := KB.out.size; omega, KB.out.size⟩
    · have := heap_alloc_new (w2.alloc (.cells (madeCells #[.bool false] l.length) 4)) (.cells #[.int .i64 P, .slice none 0 0, .slice (some ⟨w2.heap.size, 0, none⟩) l.length l.length, .int .i64 cursor, .int .i64 last, .int .i64 (-1)] 31)
      rw [World.size_alloc] at this
      exact this
    · exact (Below.heap_alloc _ _ _ (by rw [World.size_alloc]; omega)).trans (heap_alloc_new w2 _)
  have HN := Lib.hid hN
  clear hN
  revert HN
  generalize ((w2.alloc (.cells (madeCells #[.bool false] l.length) 4)).alloc (.cells #[.int .i64 P, .slice none 0 0, .slice (some ⟨w2.heap.size, 0, none⟩) l.length l.length, .int .i64 cursor, .int .i64 last, .int .i64 (-1)] 31)).drew = W0
  generalize w2.heap.size + 1 = rb
  generalize w2.heap.size = lb
  intro HN
  clear KB KH
  go_wp2
  go_loopg [12] l.length (fun gk s wx => ∃ (k : Nat) (v : Value), s = .int .i64 k ∧ k + gk = l.length ∧ RN w l P cursor last rb lb k v wx)
  case atStart => exact ⟨0, _, rfl, by omega, HN.out⟩
  case round =>
    obtain ⟨k, v, rfl, hk, hN⟩ := hrel
    have HK := Lib.hid hk
    have HN1 := Lib.hid hN
    clear HN hk hN
    by_cases hlt : k < l.length
    · have hki : (k : Int) < B := by rw [← HLEN.out]; omega
      have hki' : decide ((k : Int) < B) = true := decide_eq_true hki
      obtain ⟨x, hx⟩ : ∃ x, l[k]? = some x := ⟨_, List.getElem?_eq_getElem hlt⟩
      obtain ⟨r0, r1, r2, r3⟩ := HR.out k x hx
      have c0 := (HN1.out.below.cell (lt_of_cell r0)).trans r0
      have c1 := (HN1.out.below.cell (lt_of_cell r1)).trans r1
      have c2 := (HN1.out.below.cell (lt_of_cell r2)).trans r2
      have c3 := (HN1.out.below.cell (lt_of_cell r3)).trans r3
      have HX := Lib.hid hx
      have y1 := cell_of (o := 1) HN1.out.head rfl
      have y1n : ∀ ob, (wr.alloc ob).cell? ⟨rb, 1, none⟩ = some v := fun ob => (((Below.refl wr.heap.size wr).alloc (Nat.le_refl _) ob).cell (lt_of_cell y1)).trans y1
      clear r0 r1 r2 r3 hx
      go_wp2
      go_region_law (refine Kd.R_append_step k34 (w0 := w) (W := wr.drew) w.heap.size ?aW (.tmp 63) (.tmp 68) 24 34 (.agg #[(.int .i64 0), (.int .u64 0), (.bool false), (.int .i64 0)]) 32 rfl Try.underlying24 info34 rfl (by decide) (by decide) v (l.take k) x [.int .i64 x.f0, .int .u64 x.f1, .bool x.f2, .int .i64 x.f3] (fun _ => True) (fun _ => False) ?aX ?aY ?aP (fun _ hk => hk.elim) ?aF ?aO ?aB ?aS ?aL ?_; (case aW => rfl); (case aX => rfl); (case aY => rfl); (case aP => exact k34_mkM _ _ _ x); (case aB => exact HN1.out.below.drew); (case aF => exact (fun _ _ => trivial)); (case aO => exact Kd.R_drew HN1.out.row); (case aS => exact HN1.out.below.size); (case aL => rw [List.length_take]; have := HP.out; have := HLEN.out; omega); intro v1 w5 ho hb hg hat; have R1 := Lib.hid ho; have B1 := Lib.hid hb; have G1 := Lib.hid hg; obtain ⟨A1, n1, k1, rfl⟩ : ∃ A n c, v1 = .slice A n c := (by obtain ⟨A, c, h⟩ := Kd.R_slice ho; exact ⟨A, _, c, h⟩); have hh5 := (hg.block rb (lt_of_heap HN1.out.head) HN1.out.sep.1).trans HN1.out.head; have q1 := cell_of (o := 1) hh5 rfl; have f1 := free_of (o := 1) hh5; clear ho hb hg hat)
      all_goals
        have HN2 := Lib.hid (RN.next HN1.out HX.out R1.out G1.out B1.out)
        clear R1 G1 B1 hh5 q1 f1 y1n
        revert HN2
        generalize w5.setCell ⟨rb, 1, none⟩ (.slice A1 n1 k1) = W6
        intro HN2
        go_wp2
        go_roundg (gk - 1)
        case measure => have := HK.out; omega
        case rel => exact ⟨k + 1, _, by (have e64 : wrap64 ((k : Int) + 1) = ((k + 1 : Nat) : Int) := (by have := HP.out; have := HLEN.out; unfold wrap64; omega); first | rfl | (rw [e64]; done) | (simp [e64]; done)), by have := HK.out; omega, HN2.out⟩
    · have hki : ¬ (k : Int) < B := by rw [← HLEN.out]; omega
      have hki' : decide ((k : Int) < B) = false := decide_eq_false hki
      go_wp2
      refine bodyPost_ret (v := .tuple #[.pointer (some ⟨rb, 0, none⟩), .int .i64 0]) (by simp [results, Try.results33, go_sem]) rfl ?_
      obtain rfl : k = l.length := by have := HK.out; omega
      exact ⟨rb, lb, v, rfl, HN1.out⟩

/-- The error of the document's New, given what May says. -/
def rnewErr (B P S : Int) (l : List S34) (cursor last : Int) (m : Bool) : Int := if fitsB B P S then if placeB B l.length cursor last then if m then 0 else 110 else 41 else 40
theorem rnew_calls (B P S : Int) (A : Option Addr) (l : List S34) (c : Nat) (cursor last : Int) (w : World) (hl : Kd.C k34 w A l.length l) (hc : l.length ≤ c) (kk : Nat) (m : Bool) (hm : shaleref11_May.f kk l P last = some m) :
    Calls Try.prog 33 #[.agg #[.int .i64 B, .int .i64 P, .int .i64 S], .slice A l.length c, .int .i64 cursor, .int .i64 last] w fun e W => Below w.heap.size w W ∧
      ((rnewErr B P S l cursor last m = 0 ∧ RNewEnd w l P cursor last e W) ∨ (rnewErr B P S l cursor last m ≠ 0 ∧ e = .returned (.tuple #[.pointer none, .int .i64 (rnewErr B P S l cursor last m)]))) := by
  cases hf : fitsB B P S
  · have hn : rnewErr B P S l cursor last m = 40 := by unfold rnewErr; rw [hf]; rfl
    refine (rnew_shape B P S A l.length c cursor last w hf).mono fun e W h => ⟨h.2, .inr ?_⟩
    rw [hn]
    exact ⟨by decide, h.1⟩
  cases hp : placeB B l.length cursor last
  · have hn : rnewErr B P S l cursor last m = 41 := by unfold rnewErr; rw [hf, hp]; rfl
    refine (rnew_place B P S A l.length c cursor last w hf hp).mono fun e W h => ⟨h.2, .inr ?_⟩
    rw [hn]
    exact ⟨by decide, h.1⟩
  cases m
  · have hn : rnewErr B P S l cursor last false = 110 := by unfold rnewErr; rw [hf, hp]; rfl
    refine (rnew_may B P S A l c cursor last w hf hp hl hc kk hm).mono fun e W h => ⟨h.2, .inr ?_⟩
    rw [hn]
    exact ⟨by decide, h.1⟩
  · have hn : rnewErr B P S l cursor last true = 0 := by unfold rnewErr; rw [hf, hp]; rfl
    refine (rnew_walk B P S A l c cursor last w hf hp hl hc kk hm).mono fun e W h => ⟨?_, .inl ⟨hn, h⟩⟩
    obtain ⟨rb, lb, v, _, h⟩ := h
    exact h.below
end Go.Proofs.Ytmohijpkhmeibaa
/- May of the document says what New of the program asks. -/
namespace Go.Proofs.Ytmohijpkhmeibaa
open Go.RowKit Go.Proofs Go.Proofs.YtmohijpkhmeibaaW.PrintWords
open PBlocksRound
set_option linter.unusedVariables false
set_option linter.unusedSimpArgs false

def mayFrom (P last : Int) (pre : List S34) (n : Nat) : List S34 → Bool
  | [] => decide (n ≤ 1)
  | x :: r => if badPlace P last pre.length x then false else if (x.f1 != 0) && headIn pre x.f1 then false else mayFrom P last (pre ++ [x]) (if x.f0 = 2 then n + 1 else n) r

theorem mayFrom_many (P last : Int) : ∀ (r pre : List S34) (n : Nat), 2 ≤ n → mayFrom P last pre n r = false := by
  intro r
  induction r with
  | nil => intro pre n hn; unfold mayFrom; simp; omega
  | cons x r ih =>
    intro pre n hn
    unfold mayFrom
    split
    · rfl
    · split
      · rfl
      · exact ih _ _ (by split <;> omega)
theorem new_may (P last : Int) : ∀ (r pre : List S34) (n : Nat) (opn : Int), (n = 0 ∧ opn = -1) ∨ (n = 1 ∧ opn ≠ -1) → (newFrom P last pre opn r).isSome = mayFrom P last pre n r := by
  intro r
  induction r with
  | nil =>
    intro pre n opn h
    unfold newFrom mayFrom
    rcases h with ⟨rfl, _⟩ | ⟨rfl, _⟩ <;> rfl
  | cons x r ih =>
    intro pre n opn h
    rw [newFrom_cons]
    unfold mayFrom entryOk
    cases hb : badPlace P last pre.length x
    · cases hh : (x.f1 != 0 && headIn pre x.f1)
      · by_cases h2 : x.f0 = 2
        · have e2 : (x.f0 == 2) = true := by rw [h2]; rfl
          rcases h with ⟨rfl, rfl⟩ | ⟨rfl, ho⟩
          · rw [if_pos h2, if_pos h2]
            simpa [e2] using ih (pre ++ [x]) 1 (pre.length : Int) (.inr ⟨rfl, by omega⟩)
          · have eo : (opn != -1) = true := by rw [bne_iff_ne]; exact ho
            rw [if_pos h2, if_pos h2, mayFrom_many P last r (pre ++ [x]) (1 + 1) (by omega)]
            simp [e2, eo]
        · have e2 : (x.f0 == 2) = false := by rw [beq_eq_false_iff_ne]; exact h2
          rw [if_neg h2, if_neg h2]
          simpa [e2] using ih (pre ++ [x]) n opn h
      · simp
    · simp

theorem rd_eq {l : List S34} {i : Nat} {x : S34} (h : l[i]? = some x) : rd_T34 l (i : Int) = x := by
  show l.getD (i : Int).toNat z34 = x
  rw [Int.toNat_natCast, List.getD_eq_getElem?_getD, h]
  rfl
theorem row_ok (k : Nat) (P : Int) (x : S34) (hP : 4 ≤ P ∧ P ≤ 256) (h0 : 0 ≤ x.f1) : shaleref11_row.f (k + 1) x.f0 x.f1 x.f2 x.f3 P = some (soundB P x) := by
  obtain ⟨a, b, c, d⟩ := x
  have ew : wrap64 (P - 1) = P - 1 := by unfold wrap64; omega
  unfold shaleref11_row.f
  simp only at h0 ⊢
  by_cases hv : vacB a = true
  · have e : (if a = 0 then shaleref11_row.j0 (k + 1) P true a b c d else if a = 5 then shaleref11_row.j0 (k + 1) P true a b c d else shaleref11_row.j0 (k + 1) P (a == 6) a b c d) = shaleref11_row.j0 (k + 1) P true a b c d := by
      unfold vacB at hv
      simp only [Bool.or_eq_true, beq_iff_eq] at hv
      split
      · rfl
      · split
        · rfl
        · have : a = 6 := by omega
          subst this
          rfl
    rw [e, shaleref11_row.j0]
    unfold soundB
    rw [if_pos rfl, if_pos hv]
    by_cases hb : b = 0
    · subst hb
      rw [if_pos rfl]
      cases c <;> simp
    · rw [if_neg hb]
      have : (b == 0) = false := by rw [beq_eq_false_iff_ne]; exact hb
      simp [this]
  · have hv' : ¬ a = 0 ∧ ¬ a = 5 ∧ ¬ a = 6 := by
      unfold vacB at hv
      simp only [Bool.or_eq_true, beq_iff_eq] at hv
      omega
    have e6 : (a == 6) = false := by rw [beq_eq_false_iff_ne]; exact hv'.2.2
    rw [if_neg hv'.1, if_neg hv'.2.1, e6]
    rw [shaleref11_row.j0]
    unfold soundB
    rw [if_neg Bool.false_ne_true, if_neg hv, ew]
    simp only
    by_cases c1 : a < 1
    · rw [if_pos c1, if_pos (by omega)]
    rw [if_neg c1]
    by_cases c2 : a > 4
    · rw [if_pos c2, if_pos (by omega)]
    rw [if_neg c2]
    by_cases c3 : b < 1
    · rw [if_pos c3, if_pos (by omega)]
    rw [if_neg c3]
    by_cases c4 : b > 281474976710655
    · rw [if_pos c4, if_pos (by omega)]
    rw [if_neg c4]
    by_cases c5 : d < 0
    · rw [if_pos c5, if_pos (by omega)]
    rw [if_neg c5]
    by_cases c6 : d > P - 1
    · rw [if_pos c6, if_pos (by omega)]
    rw [if_neg c6]
    have hcond : ¬ (a < 0 ∨ 6 < a ∨ b = 0 ∨ 281474976710655 < b ∨ d < 0 ∨ P ≤ d) := by omega
    rw [if_neg hcond]
    by_cases c7 : a = 1
    · subst c7
      rw [if_pos rfl, if_pos rfl]
      cases c
      · by_cases c8 : d > 0
        · rw [if_neg Bool.false_ne_true, if_pos c8, if_neg (show ¬ (1 : Int) = 3 by omega)]; simp; omega
        · rw [if_neg Bool.false_ne_true, if_neg c8]; simp; omega
      · rfl
    · rw [if_neg c7, if_neg c7]
      by_cases c8 : a = 3
      · rw [if_pos c8, if_pos c8]
      · rw [if_neg c8, if_neg c8]

theorem may_step (k : Nat) (l : List S34) (P last : Int) (n i : Nat) (x : S34) (hx : l[i]? = some x) (hP : 4 ≤ P ∧ P ≤ 256) (h0 : 0 ≤ x.f1) :
    shaleref11_May.l0 (k + 2) l P last n i = shaleref11_May.j1 (k + 1) l P last n i (badPlace P last i x) x.f0 x.f1 x.f2 x.f3 := by
  have hlt : i < l.length := (List.getElem?_eq_some_iff.1 hx).1
  rw [shaleref11_May.l0]
  rw [if_pos (by omega), if_pos (by omega), rd_eq hx, row_ok k P x hP h0, Option.bind_some]
  unfold badPlace
  cases hs : soundB P x
  · simp
  · rw [if_pos rfl]
    by_cases h5 : x.f0 = 5
    · have e5 : (x.f0 == 5) = true := by rw [h5]; rfl
      rw [if_pos h5, e5]
      by_cases hi : (i : Int) = last
      · rw [if_pos hi, if_neg (by omega)]
        have e6 : (x.f0 == 6) = false := by rw [h5]; rfl
        rw [e6, hi]
        simp
      · rw [if_neg hi]
        have hi' : ((i : Int) != last) = true := by rw [bne_iff_ne]; exact hi
        simp [hi']
    · have e5 : (x.f0 == 5) = false := by rw [beq_eq_false_iff_ne]; exact h5
      rw [if_neg h5, e5]
      by_cases hi : (i : Int) = last
      · rw [if_pos hi]
        by_cases hz : x.f0 = 0
        · rw [if_pos hz]
          simp [hi, hz, vacB]
        · rw [if_neg hz]
          have ez : (x.f0 == 0) = false := by rw [beq_eq_false_iff_ne]; exact hz
          simp [hi, vacB, ez, e5]
      · rw [if_neg hi]
        have hi' : ((i : Int) == last) = false := by rw [beq_eq_false_iff_ne]; exact hi
        simp [hi']
theorem may_heads (l : List S34) (P last : Int) (n i : Nat) (x : S34) (b : Bool) (k : Nat) (hi : i ≤ l.length) (hlen : l.length ≤ 4096) (hk : shaleref11_May.l0 k l P last n ((i + 1 : Nat) : Int) = some b) :
    ∀ m j, j + m = i → ∃ k', shaleref11_May.l1 k' l P last n i j x.f0 x.f1 x.f2 x.f3 = some (if (x.f1 != 0) && headIn ((l.take i).drop j) x.f1 then false else b) := by
  intro m
  induction m with
  | zero =>
    intro j hj
    refine ⟨k + 1, ?_⟩
    rw [shaleref11_May.l1, if_neg (by omega)]
    have e : wrap64 ((i : Int) + 1) = ((i + 1 : Nat) : Int) := by unfold wrap64; omega
    rw [e, hk]
    have : (l.take i).drop j = [] := List.drop_eq_nil_of_le (by rw [List.length_take]; omega)
    rw [this]
    simp [headIn]
  | succ m ih =>
    intro j hj
    obtain ⟨k', h'⟩ := ih (j + 1) (by omega)
    refine ⟨k' + 1, ?_⟩
    have e : wrap64 ((j : Int) + 1) = ((j + 1 : Nat) : Int) := by unfold wrap64; omega
    obtain ⟨y, hy⟩ : ∃ y, l[j]? = some y := ⟨_, List.getElem?_eq_getElem (by omega)⟩
    have hd : (l.take i).drop j = y :: (l.take i).drop (j + 1) := by
      rw [List.drop_eq_getElem_cons (by rw [List.length_take]; omega)]
      congr 1
      rw [List.getElem_take]
      have := hy
      rw [List.getElem?_eq_getElem (by omega)] at this
      exact Option.some.inj this
    rw [shaleref11_May.l1, if_pos (by omega), e, h', hd]
    by_cases h1 : x.f1 = 0
    · have e1 : (x.f1 != 0) = false := by rw [h1]; rfl
      rw [if_pos h1, e1]
      rfl
    · have e1 : (x.f1 != 0) = true := by rw [bne_iff_ne]; exact h1
      rw [if_neg h1, if_pos (by omega), if_pos (by omega), rd_eq hy, e1]
      by_cases hq : y.f1 = x.f1
      · have e2 : (y.f1 != 0 && y.f1 == x.f1) = true := by rw [hq, e1]; simp
        rw [if_pos hq]
        unfold headIn
        rw [List.any_cons, e2]
        rfl
      · have e2 : (y.f1 == x.f1) = false := by rw [beq_eq_false_iff_ne]; exact hq
        rw [if_neg hq]
        unfold headIn
        rw [List.any_cons, e2]
        simp
theorem may_ok (l : List S34) (P last : Int) (hP : 4 ≤ P ∧ P ≤ 256) (hlen : l.length ≤ 4096) (hw : ∀ x, x ∈ l → 0 ≤ x.f1) :
    ∀ r i n, i + r = l.length → n ≤ i → ∃ k, shaleref11_May.l0 k l P last (n : Nat) (i : Nat) = some (mayFrom P last (l.take i) n (l.drop i)) := by
  intro r
  induction r with
  | zero =>
    intro i n hi hn
    refine ⟨1, ?_⟩
    rw [shaleref11_May.l0, if_neg (by omega), List.drop_eq_nil_of_le (by omega)]
    unfold mayFrom
    refine congrArg some (decide_eq_decide.2 (by omega))
  | succ r ih =>
    intro i n hi hn
    obtain ⟨x, hx⟩ : ∃ x, l[i]? = some x := ⟨_, List.getElem?_eq_getElem (by omega)⟩
    have hxe : l[i] = x := by have := hx; rw [List.getElem?_eq_getElem (by omega)] at this; exact Option.some.inj this
    have h0 := hw x (List.mem_of_getElem? hx)
    have hkl : (l.take i).length = i := by rw [List.length_take]; omega
    rw [List.drop_eq_getElem_cons (by omega), hxe, mayFrom, hkl]
    cases hb : badPlace P last i x
    · obtain ⟨k, hk⟩ := ih (i + 1) (if x.f0 = 2 then n + 1 else n) (by omega) (by split <;> omega)
      obtain ⟨k', hk'⟩ := may_heads l P last (if x.f0 = 2 then n + 1 else n) i x _ k (by omega) hlen hk i 0 (by omega)
      refine ⟨k' + 3, ?_⟩
      rw [may_step (k' + 1) l P last n i x hx hP h0, hb, shaleref11_May.j1, if_neg Bool.false_ne_true]
      have ew : wrap64 ((n : Int) + 1) = ((n + 1 : Nat) : Int) := by unfold wrap64; omega
      have hj : shaleref11_May.j2 (k' + 1) l P last ((if x.f0 = 2 then n + 1 else n : Nat) : Int) i x.f0 x.f1 x.f2 x.f3 = some (if (x.f1 != 0) && headIn (l.take i) x.f1 then false else mayFrom P last (l.take i ++ [x]) (if x.f0 = 2 then n + 1 else n) (l.drop (i + 1))) := by
        rw [shaleref11_May.j2]
        have := hk'
        rw [List.drop_zero, take_snoc hx] at this
        exact this
      rw [if_neg Bool.false_ne_true]
      by_cases h2 : x.f0 = 2
      · rw [if_pos h2] at hj ⊢
        rw [ew]
        rw [if_pos h2]
        exact hj
      · rw [if_neg h2] at hj ⊢
        rw [if_neg h2]
        exact hj
    · refine ⟨2, ?_⟩
      rw [may_step 0 l P last n i x hx hP h0, hb, shaleref11_May.j1, if_pos rfl, if_pos rfl]
theorem may_is (l : List S34) (P last : Int) (hP : 4 ≤ P ∧ P ≤ 256) (hlen : l.length ≤ 4096) (hw : ∀ x, x ∈ l → 0 ≤ x.f1) :
    ∃ k, shaleref11_May.f k l P last = some (newFrom P last [] (-1) l).isSome := by
  obtain ⟨k, hk⟩ := may_ok l P last hP hlen hw l.length 0 0 (by omega) (by omega)
  refine ⟨k, ?_⟩
  unfold shaleref11_May.f
  rw [new_may P last l [] 0 (-1) (.inl ⟨rfl, rfl⟩)]
  exact hk
end Go.Proofs.Ytmohijpkhmeibaa
/- begun of the law. -/
namespace Go.Proofs.Ytmohijpkhmeibaa
open Go.RowKit Go.Proofs Go.Proofs.YtmohijpkhmeibaaW.PrintWords
open PBlocksRound
set_option linter.unusedVariables false
set_option linter.unusedSimpArgs false
set_option maxRecDepth 100000
attribute [local go_sem high] PBlocksRound.eqA34

def newErr (B P S : Int) (n : Nat) (cursor last : Int) : Int := if fitsB B P S then if placeB B n cursor last then 110 else 41 else 40
theorem newErr_ne (B P S : Int) (n : Nat) (cursor last : Int) : newErr B P S n cursor last ≠ 0 := by
  unfold newErr
  split
  · split <;> decide
  · decide
/-- A book of the program that stands in W. -/
structure PBook (w : World) (l : List S34) (P cursor last opn : Int) (p : Nat) (v : Value) (W : World) : Prop where
  head : W.heap[p]? = some (.cells #[.int .i64 P, v, .int .i64 cursor, .int .i64 last, .int .i64 (-1), .int .i64 opn] 69 (0, 0))
  row : Kd.R k71 71 W w.heap.size (fun _ => True) v (l.map blkOf)
  pb : w.heap.size ≤ p
theorem PBook.of_below {w : World} {l : List S34} {P cursor last opn : Int} {p : Nat} {v : Value} {W W' : World} (h : PBook w l P cursor last opn p v W) (hb : Below W.heap.size W W') : PBook w l P cursor last opn p v W' :=
  ⟨(hb.block _ (lt_of_heap h.head)).trans h.head, Kd.R_below h.row hb, h.pb⟩
theorem RN.of_below {w : World} {l : List S34} {P cursor last : Int} {rb lb k : Nat} {v : Value} {W W' : World} (h : RN w l P cursor last rb lb k v W) (hb : Below W.heap.size W W') : RN w l P cursor last rb lb k v W' :=
  ⟨(hb.block _ (lt_of_heap h.head)).trans h.head, Kd.R_below h.row hb, (hb.block _ (lt_of_heap h.left)).trans h.left, h.below.trans (hb.mono h.below.size), h.rbb, h.lbb⟩
theorem ne_of_type {W : World} {a b : Nat} {c d : Array Value} {s t : TypeId} (ha : W.heap[a]? = some (.cells c s (0, 0))) (hb : W.heap[b]? = some (.cells d t (0, 0))) (h : s ≠ t) : a ≠ b := by
  rintro rfl
  rw [ha] at hb
  injection hb with hb
  injection hb with _ hb
  exact h hb
theorem PBook.grown {w : World} {l : List S34} {P cursor last opn : Int} {p g : Nat} {v : Value} {cs : Array Value} {W W' : World} (h : PBook w l P cursor last opn p v W) (hg : W.heap[g]? = some (.cells cs 34 (0, 0))) (hw : W.grownBy W' (some g)) : PBook w l P cursor last opn p v W' :=
  ⟨(hw.block _ (lt_of_heap h.head) (fun e => ne_of_type h.head hg (by decide) (Option.some.inj e))).trans h.head, Kd.R_grown1 h.row rfl hw (Kd.R_ne h.row hg (by decide)), h.pb⟩
theorem RN.grown {w : World} {l : List S34} {P cursor last : Int} {rb lb k g : Nat} {v : Value} {cs : Array Value} {W W' : World} (h : RN w l P cursor last rb lb k v W) (hg : W.heap[g]? = some (.cells cs 34 (0, 0))) (hw : W.grownBy W' (some g)) (hne : some g ≠ v.ownBlock) (hgb : w.heap.size ≤ g) : RN w l P cursor last rb lb k v W' :=
  ⟨(hw.block _ (lt_of_heap h.head) (fun e => ne_of_type h.head hg (by decide) (Option.some.inj e))).trans h.head, Kd.R_grown1 h.row rfl hw hne, (hw.block _ (lt_of_heap h.left) (fun e => ne_of_type h.left hg (by decide) (Option.some.inj e))).trans h.left, h.below.grown hw h.below.size (fun j hj => by cases hj; exact hgb), h.rbb, h.lbb⟩

theorem new_all (B P S : Int) (A : Option Addr) (l : List S34) (c : Nat) (cursor last : Int) (w : World) (hl : Kd.C k34 w A l.length l) (hwf : ∀ x, x ∈ l → 0 ≤ x.f1) :
    Calls Try.prog 26 #[.agg #[.int .i64 B, .int .i64 P, .int .i64 S], .slice A l.length c, .int .i64 cursor, .int .i64 last] w fun e W => Below w.heap.size w W ∧
      ((newRes B P S l cursor last = none ∧ e = .returned (.tuple #[.pointer none, .int .i64 (newErr B P S l.length cursor last)])) ∨
       (∃ opn p v, newRes B P S l cursor last = some opn ∧ e = .returned (.tuple #[.pointer (some ⟨p, 0, none⟩), .int .i64 0]) ∧ PBook w l P cursor last opn p v W)) := by
  unfold newRes newErr
  cases hf : fitsB B P S
  · exact (new_shape B P S A l.length c cursor last w hf).mono fun e W h => ⟨h.2, .inl ⟨rfl, h.1⟩⟩
  cases hp : placeB B l.length cursor last
  · exact (new_place B P S A l.length c cursor last w hf hp).mono fun e W h => ⟨h.2, .inl ⟨rfl, h.1⟩⟩
  · refine (new_walk B P S A l c cursor last w hf hp hl hwf).mono fun e W h => ⟨h.1, ?_⟩
    have h2 := h.2
    show (newFrom P last [] (-1) l = none ∧ _) ∨ _
    cases hv : newFrom P last [] (-1) l with
    | none => rw [hv] at h2; exact .inl ⟨rfl, h2⟩
    | some opn =>
      rw [hv] at h2
      obtain ⟨p, v, he, hpb, hh, hr⟩ := h2
      exact .inr ⟨opn, p, v, rfl, he, hh, hr, hpb⟩
theorem rnew_all (B P S : Int) (A : Option Addr) (l : List S34) (c : Nat) (cursor last : Int) (w : World) (hl : Kd.C k34 w A l.length l) (hc : l.length ≤ c) (hwf : ∀ x, x ∈ l → 0 ≤ x.f1) :
    Calls Try.prog 33 #[.agg #[.int .i64 B, .int .i64 P, .int .i64 S], .slice A l.length c, .int .i64 cursor, .int .i64 last] w fun e W => Below w.heap.size w W ∧
      ((newRes B P S l cursor last = none ∧ e = .returned (.tuple #[.pointer none, .int .i64 (newErr B P S l.length cursor last)])) ∨
       (∃ opn, newRes B P S l cursor last = some opn ∧ RNewEnd w l P cursor last e W)) := by
  unfold newRes newErr
  cases hf : fitsB B P S
  · exact (rnew_shape B P S A l.length c cursor last w hf).mono fun e W h => ⟨h.2, .inl ⟨rfl, h.1⟩⟩
  cases hp : placeB B l.length cursor last
  · exact (rnew_place B P S A l.length c cursor last w hf hp).mono fun e W h => ⟨h.2, .inl ⟨rfl, h.1⟩⟩
  · have hpos : 8 ≤ B ∧ B ≤ 4096 ∧ 4 ≤ P ∧ P ≤ 256 := by
      have := hf
      unfold fitsB at this
      have := of_decide_eq_true this
      omega
    have hlen : (l.length : Int) = B := by
      have := hp
      unfold placeB at this
      simp only [Bool.not_eq_true', Bool.or_eq_false_iff] at this
      simpa using this.1.1.1.1
    obtain ⟨kk, hm⟩ := may_is l P last ⟨hpos.2.2.1, hpos.2.2.2⟩ (by omega) hwf
    show Calls Try.prog 33 _ w fun e W => _ ∧ ((newFrom P last [] (-1) l = none ∧ _) ∨ (∃ opn, newFrom P last [] (-1) l = some opn ∧ _))
    cases hv : newFrom P last [] (-1) l with
    | none =>
      rw [hv] at hm
      exact (rnew_may B P S A l c cursor last w hf hp hl hc kk hm).mono fun e W h => ⟨h.2, .inl ⟨rfl, h.1⟩⟩
    | some opn =>
      rw [hv] at hm
      refine (rnew_walk B P S A l c cursor last w hf hp hl hc kk hm).mono fun e W h => ⟨?_, .inr ⟨opn, rfl, h⟩⟩
      obtain ⟨rb, lb, v, _, h⟩ := h
      exact h.below

/-- The array of the copy while it is written over. -/
structure Over (g N : Nat) (W1 W : World) : Prop where
  off : W1.grownBy W (some g)
  cells : ∃ cs : Array Value, W.heap[g]? = some (.cells cs 34 (0, 0)) ∧ cs.size = N
theorem grownBy_set {a w : World} {g o : Nat} (h : a.grownBy w (some g)) (u : Value) : a.grownBy (w.setCell ⟨g, o, none⟩ u) (some g) :=
  ⟨h.os, h.tape, h.output, by simpa [World.setCell] using h.size, fun k hk hs => (Below.heap_setCell _ _ _ _ (fun e => hs (by rw [e]))).trans (h.block k hk hs)⟩
theorem Over.set {g N : Nat} {W1 W : World} (h : Over g N W1 W) (o : Nat) (u : Value) : Over g N W1 (W.setCell ⟨g, o, none⟩ u) := by
  obtain ⟨cs, hc, hn⟩ := h.cells
  exact ⟨grownBy_set h.off u, _, heap_set_same hc u, by rw [Array.size_setIfInBounds]; exact hn⟩
theorem Over.cell {g N : Nat} {W1 W : World} (h : Over g N W1 W) (o : Nat) (ho : o < N) : (∃ u, W.cell? ⟨g, o, none⟩ = some u) ∧ W.frozen? ⟨g, o, none⟩ = false := by
  obtain ⟨cs, hc, hn⟩ := h.cells
  exact ⟨⟨cs[o]'(by omega), cell_of hc (Array.getElem?_eq_getElem (by omega))⟩, free_of hc⟩
theorem grownBy_refl (w : World) (r : Option Nat) : w.grownBy w r := ⟨rfl, rfl, rfl, Nat.le_refl _, fun _ _ _ => rfl⟩

def BegunEnd (w : World) (B P S : Int) (l : List S34) (cursor last : Int) (e : Ending) (W : World) : Prop :=
  Below w.heap.size w W ∧ ((newRes B P S l cursor last = none ∧ e = .returned (.tuple #[.pointer none, .pointer none, .bool true])) ∨
    (∃ opn p v rb lb rv, newRes B P S l cursor last = some opn ∧ e = .returned (.tuple #[.pointer (some ⟨p, 0, none⟩), .pointer (some ⟨rb, 0, none⟩), .bool true]) ∧ PBook w l P cursor last opn p v W ∧ RN w l P cursor last rb lb l.length rv W))

theorem marks_shape {A : Option Addr} {c base : Nat} {l : List S34} {W : World} (hr : Kd.R k34 34 W base (fun _ => True) (.slice A (l.length + 2) c) (marks l)) :
    ∃ g cs, A = some ⟨g, 0, none⟩ ∧ base ≤ g ∧ W.heap[g]? = some (.cells cs 34 (0, 0)) ∧ l.length * 4 ≤ cs.size := by
  have hml : (marks l).length = l.length + 2 := by unfold marks; rw [List.length_append]; rfl
  obtain ⟨inner, ho⟩ := Kd.R_own hr
  obtain ⟨_, hcap, hC⟩ := Kd.R_reads' (by rw [← hml] at hr; exact hr)
  rw [hml] at hC
  rcases ho.2 with ⟨e, _⟩ | ⟨g, cap, cur, e, hg, hh, r⟩
  · injection e with _ e _
    omega
  · injection e with e _ _
    subst e
    obtain ⟨g', o', e, rows⟩ := kd_rows hC (by omega)
    injection e with e
    injection e with e1 e2
    subst e1 e2
    refine ⟨g, cur, rfl, hg, hh, ?_⟩
    have := (rows (l.length + 1) ⟨72, 0, false, 0⟩ (by unfold marks; rw [List.getElem?_append_right (by omega), show l.length + 1 - l.length = 1 by omega]; rfl)).1
    by_cases hlt : 0 + (l.length + 1) * 4 < cur.size
    · omega
    · unfold World.cell? at this
      rw [hh] at this
      simp only at this
      rw [Array.getElem?_eq_none (by omega)] at this
      cases this
theorem marks_copy {A : Option Addr} {c base : Nat} {l : List S34} {W : World} (hr : Kd.R k34 34 W base (fun _ => True) (.slice A (l.length + 2) c) (marks l)) : Kd.C k34 W A l.length l := by
  have hml : (marks l).length = l.length + 2 := by unfold marks; rw [List.length_append]; rfl
  have := Kd.R_take (m := l.length) (by rw [← hml] at hr; exact hr) (by omega)
  have e : (marks l).take l.length = l := by unfold marks; rw [List.take_left']; rfl
  rw [e] at this
  exact (Kd.R_reads' this).2.2

theorem PBook.lower {w w0 : World} {l : List S34} {P cursor last opn : Int} {p : Nat} {v : Value} {W : World} (h : PBook w0 l P cursor last opn p v W) (hb : w.heap.size ≤ w0.heap.size) : PBook w l P cursor last opn p v W :=
  ⟨h.head, Kd.R_lower h.row hb, Nat.le_trans hb h.pb⟩
theorem RN.lower {w w0 : World} {l : List S34} {P cursor last : Int} {rb lb k : Nat} {v : Value} {W : World} (h : RN w0 l P cursor last rb lb k v W) (hb : Below w.heap.size w w0) : RN w l P cursor last rb lb k v W :=
  ⟨h.head, Kd.R_lower h.row hb.size, h.left, hb.trans (h.below.mono hb.size), Nat.le_trans hb.size h.rbb, Nat.le_trans hb.size h.lbb⟩

set_option maxHeartbeats 4000000 in
theorem begun_no (B P S : Int) (A : Option Addr) (l : List S34) (c : Nat) (cursor last : Int) (w : World) (hl : Kd.C k34 w A l.length l) (hc : l.length ≤ c) (hreach : l.length * 32 ≤ 140737488351232) (hwf : ∀ x, x ∈ l → 0 ≤ x.f1) (hres : newRes B P S l cursor last = none) :
    Calls Try.prog 8 #[.agg #[.int .i64 B, .int .i64 P, .int .i64 S], .slice A l.length c, .int .i64 cursor, .int .i64 last] w (BegunEnd w B P S l cursor last) := by
  have RC := Lib.hid (fun W (hB : Below w.heap.size w W) => rnew_all B P S A l c cursor last W (Kd.C_below hl hB) hc hwf)
  have CC := Lib.hid (fun W (hB : Below w.heap.size w W) => copied_calls A c l W (Kd.C_below hl hB) hc hreach)
  have NC := Lib.hid (fun A' c' W (h : Kd.C k34 W A' l.length l) => new_all B P S A' l c' cursor last W h hwf)
  have KC := Lib.hid (fun A' c' base W (hB : Below w.heap.size w W) (h : Kd.R k34 34 W base (fun _ => True) (.slice A' (l.length + 2) c') (marks l)) => kept_calls A' A c' c base l W h (Kd.C_below hl hB) hc hreach)
  have HRES := Lib.hid hres
  have HREACH := Lib.hid hreach
  have herr : (newErr B P S l.length cursor last != 0) = true := by rw [bne_iff_ne]; exact newErr_ne B P S l.length cursor last
  clear hl hreach hwf hres
  go_enter Try.func8, Try.ntmps8
  go_wp2_with (go_at_call 33; fail)
  refine (RC.out _ ((Below.refl _ _).alloc (Nat.le_refl _) _)).mono ?_
  rintro e w1 ⟨hb1, h⟩
  have kh := (hb1.block w.heap.size (by rw [World.size_alloc]; omega)).trans (heap_alloc_new w _)
  have kb : Below w.heap.size w w1 := ((Below.refl _ _).alloc (Nat.le_refl _) _).trans (hb1.mono (by rw [World.size_alloc]; omega))
  have KH := Lib.hid kh
  have KB := Lib.hid kb
  clear kh kb hb1
  rcases h with ⟨_, rfl⟩ | ⟨opn, ho, _⟩
  case inr => rw [HRES.out] at ho; cases ho
  go_wp2_with (go_at_call 27; fail)
  refine (CC.out _ KB.out).mono ?_
  rintro e w2 ⟨A2, c2, rfl, hR, hb2⟩
  have kh := (hb2.block w.heap.size (lt_of_heap KH.out)).trans KH.out
  have kb := KB.out.trans (hb2.mono KB.out.size)
  have z0 := cell_of (o := 0) kh rfl
  have z1 := cell_of (o := 1) kh rfl
  have z2 := cell_of (o := 2) kh rfl
  have HRR := Lib.hid hR
  have KB2 := Lib.hid kb
  clear kh kb hb2 hR
  go_wp2_with (go_at_call 26; fail)
  refine (NC.out A2 c2 w2 (marks_copy HRR.out)).mono ?_
  rintro e w3 ⟨hb3, h⟩
  have KB3 := Lib.hid (KB2.out.trans (hb3.mono KB2.out.size))
  have HR3 := Lib.hid (Kd.R_below HRR.out hb3)
  clear z0 z1 z2 hb3
  rcases h with ⟨_, rfl⟩ | ⟨opn, p, v, ho, _⟩
  case inr => rw [HRES.out] at ho; cases ho
  go_wp2_with (go_at_call 34; refine (KC.out A2 c2 _ _ KB3.out HR3.out).mono ?_; rintro e w4 ⟨rfl, ⟨⟨nn, rfl⟩⟩⟩)
  obtain ⟨g, cs, rfl, hgb, hgc, hgn⟩ := marks_shape HR3.out
  have HOV := Lib.hid (show Over g cs.size (w3.drewN nn) (w3.drewN nn) from ⟨grownBy_refl _ _, cs, hgc, rfl⟩)
  have HGB := Lib.hid hgb
  have HGC := Lib.hid (show (w3.drewN nn).heap[g]? = some (.cells cs 34 (0, 0)) from hgc)
  have HGN := Lib.hid hgn
  have KB4 := Lib.hid (pw_below_drewN KB3.out nn)
  clear hgb hgc hgn HR3 herr
  revert HOV HGC KB4
  generalize w3.drewN nn = W4
  intro HOV HGC KB4
  go_loopg [17] l.length (fun gk s wx => ∃ k : Nat, s = .int .i64 k ∧ k + gk = l.length ∧ Over g cs.size W4 wx)
  case atStart => exact ⟨0, rfl, by omega, HOV.out⟩
  case round =>
    obtain ⟨k, rfl, hk, hN⟩ := hrel
    have HK := Lib.hid hk
    have HN1 := Lib.hid hN
    clear hk hN
    by_cases hlt : k < l.length
    · obtain ⟨⟨u0, e0⟩, f0⟩ := HN1.out.cell (k * 4) (by have := HGN.out; omega)
      obtain ⟨⟨u1, e1⟩, f1⟩ := HN1.out.cell (k * 4 + 1) (by have := HGN.out; omega)
      obtain ⟨⟨u2, e2⟩, f2⟩ := HN1.out.cell (k * 4 + 2) (by have := HGN.out; omega)
      obtain ⟨⟨u3, e3⟩, f3⟩ := HN1.out.cell (k * 4 + 3) (by have := HGN.out; omega)
      have HOK : ∀ b d e f, Over g cs.size W4 ((((wr.setCell ⟨g, k * 4, none⟩ b).setCell ⟨g, k * 4 + 1, none⟩ d).setCell ⟨g, k * 4 + 2, none⟩ e).setCell ⟨g, k * 4 + 3, none⟩ f) := fun b d e f => (((HN1.out.set _ _).set _ _).set _ _).set _ _
      have HOK' := Lib.hid HOK
      clear HOK
      have hki : (k : Int) < (l.length : Int) := by omega
      go_wp2
      go_roundg (gk - 1)
      case measure => have := HK.out; omega
      case rel => exact ⟨k + 1, by (have e64 : wrap64 ((k : Int) + 1) = ((k + 1 : Nat) : Int) := (by have := HREACH.out; unfold wrap64; omega); first | rfl | (rw [e64]; done) | (simp [e64]; done)), by have := HK.out; omega, HOK'.out _ _ _ _⟩
    · have hki : ¬ (k : Int) < (l.length : Int) := by omega
      go_wp2
      refine bodyPost_ret (v := .tuple #[.pointer none, .pointer none, .bool true]) (by simp [results, Try.results8, go_sem]) rfl ?_
      exact ⟨KB4.out.grown HN1.out.off KB4.out.size (fun j hj => by cases hj; have := HGB.out; have := KB.out.size; omega), .inl ⟨HRES.out, rfl⟩⟩

set_option maxHeartbeats 4000000 in
theorem begun_yes (B P S : Int) (A : Option Addr) (l : List S34) (c : Nat) (cursor last : Int) (w : World) (hl : Kd.C k34 w A l.length l) (hc : l.length ≤ c) (hreach : l.length * 32 ≤ 140737488351232) (hwf : ∀ x, x ∈ l → 0 ≤ x.f1) (opn : Int) (hres : newRes B P S l cursor last = some opn) :
    Calls Try.prog 8 #[.agg #[.int .i64 B, .int .i64 P, .int .i64 S], .slice A l.length c, .int .i64 cursor, .int .i64 last] w (BegunEnd w B P S l cursor last) := by
  have RC := Lib.hid (fun W (hB : Below w.heap.size w W) => rnew_all B P S A l c cursor last W (Kd.C_below hl hB) hc hwf)
  have CC := Lib.hid (fun W (hB : Below w.heap.size w W) => copied_calls A c l W (Kd.C_below hl hB) hc hreach)
  have NC := Lib.hid (fun A' c' W (h : Kd.C k34 W A' l.length l) => new_all B P S A' l c' cursor last W h hwf)
  have KC := Lib.hid (fun A' c' base W (hB : Below w.heap.size w W) (h : Kd.R k34 34 W base (fun _ => True) (.slice A' (l.length + 2) c') (marks l)) => kept_calls A' A c' c base l W h (Kd.C_below hl hB) hc hreach)
  have HRES := Lib.hid hres
  have HREACH := Lib.hid hreach
  clear hl hreach hwf hres
  go_enter Try.func8, Try.ntmps8
  go_wp2_with (go_at_call 33; fail)
  refine (RC.out _ ((Below.refl _ _).alloc (Nat.le_refl _) _)).mono ?_
  rintro e w1 ⟨hb1, h⟩
  have kh := (hb1.block w.heap.size (by rw [World.size_alloc]; omega)).trans (heap_alloc_new w _)
  have kb : Below w.heap.size w w1 := ((Below.refl _ _).alloc (Nat.le_refl _) _).trans (hb1.mono (by rw [World.size_alloc]; omega))
  have KH := Lib.hid kh
  have KB := Lib.hid kb
  clear kh kb hb1
  rcases h with ⟨ho, _⟩ | ⟨opn', ho, rb, lb, rv, rfl, hrn⟩
  case inl => rw [HRES.out] at ho; cases ho
  clear ho
  have HRN := Lib.hid (hrn.lower (w := w) ((Below.refl _ _).alloc (Nat.le_refl _) _))
  clear hrn
  have hrlt := Kd.R_lt HRN.out.row
  go_wp2_with (go_at_call 27; fail)
  refine (CC.out _ KB.out).mono ?_
  rintro e w2 ⟨A2, c2, rfl, hR, hb2⟩
  have kh := (hb2.block w.heap.size (lt_of_heap KH.out)).trans KH.out
  have kb := KB.out.trans (hb2.mono KB.out.size)
  have z0 := cell_of (o := 0) kh rfl
  have z1 := cell_of (o := 1) kh rfl
  have z2 := cell_of (o := 2) kh rfl
  have HRR := Lib.hid hR
  have HRN2 := Lib.hid (HRN.out.of_below hb2)
  have KB2 := Lib.hid kb
  clear kh kb hb2 hR
  go_wp2_with (go_at_call 26; fail)
  refine (NC.out A2 c2 w2 (marks_copy HRR.out)).mono ?_
  rintro e w3 ⟨hb3, h⟩
  have KB3 := Lib.hid (KB2.out.trans (hb3.mono KB2.out.size))
  have HR3 := Lib.hid (Kd.R_below HRR.out hb3)
  have HRN3 := Lib.hid (HRN2.out.of_below hb3)
  clear z0 z1 z2 hb3
  rcases h with ⟨ho, _⟩ | ⟨opn', p, v, ho, rfl, hpb⟩
  case inl => rw [HRES.out] at ho; cases ho
  obtain rfl : opn = opn' := Option.some.inj (HRES.out.symm.trans ho)
  clear ho
  have HPB3 := Lib.hid (hpb.lower (w := w) KB2.out.size)
  clear hpb
  go_wp2_with (go_at_call 34; refine (KC.out A2 c2 _ _ KB3.out HR3.out).mono ?_; rintro e w4 ⟨rfl, ⟨⟨nn, rfl⟩⟩⟩)
  obtain ⟨g, cs, rfl, hgb, hgc, hgn⟩ := marks_shape HR3.out
  have HOV := Lib.hid (show Over g cs.size (w3.drewN nn) (w3.drewN nn) from ⟨grownBy_refl _ _, cs, hgc, rfl⟩)
  have HGB := Lib.hid hgb
  have HGC := Lib.hid (show (w3.drewN nn).heap[g]? = some (.cells cs 34 (0, 0)) from hgc)
  have HGN := Lib.hid hgn
  have KB4 := Lib.hid (pw_below_drewN KB3.out nn)
  have HPB4 := Lib.hid (HPB3.out.of_below (W' := w3.drewN nn) (pw_below_drewN (Below.refl _ _) nn))
  have HRN4 := Lib.hid (HRN3.out.of_below (W' := w3.drewN nn) (pw_below_drewN (Below.refl _ _) nn))
  have HNE := Lib.hid (show some g ≠ rv.ownBlock from fun e => by have := hrlt g e.symm; omega)
  clear HPB3 HRN3 HRN2 HRN hrlt
  clear hgb hgc hgn HR3
  revert HOV HGC KB4 HPB4 HRN4
  generalize w3.drewN nn = W4
  intro HOV HGC KB4 HPB4 HRN4
  go_loopg [17] l.length (fun gk s wx => ∃ k : Nat, s = .int .i64 k ∧ k + gk = l.length ∧ Over g cs.size W4 wx)
  case atStart => exact ⟨0, rfl, by omega, HOV.out⟩
  case round =>
    obtain ⟨k, rfl, hk, hN⟩ := hrel
    have HK := Lib.hid hk
    have HN1 := Lib.hid hN
    clear hk hN
    by_cases hlt : k < l.length
    · obtain ⟨⟨u0, e0⟩, f0⟩ := HN1.out.cell (k * 4) (by have := HGN.out; omega)
      obtain ⟨⟨u1, e1⟩, f1⟩ := HN1.out.cell (k * 4 + 1) (by have := HGN.out; omega)
      obtain ⟨⟨u2, e2⟩, f2⟩ := HN1.out.cell (k * 4 + 2) (by have := HGN.out; omega)
      obtain ⟨⟨u3, e3⟩, f3⟩ := HN1.out.cell (k * 4 + 3) (by have := HGN.out; omega)
      have HOK : ∀ b d e f, Over g cs.size W4 ((((wr.setCell ⟨g, k * 4, none⟩ b).setCell ⟨g, k * 4 + 1, none⟩ d).setCell ⟨g, k * 4 + 2, none⟩ e).setCell ⟨g, k * 4 + 3, none⟩ f) := fun b d e f => (((HN1.out.set _ _).set _ _).set _ _).set _ _
      have HOK' := Lib.hid HOK
      clear HOK
      have hki : (k : Int) < (l.length : Int) := by omega
      go_wp2
      go_roundg (gk - 1)
      case measure => have := HK.out; omega
      case rel => exact ⟨k + 1, by (have e64 : wrap64 ((k : Int) + 1) = ((k + 1 : Nat) : Int) := (by have := HREACH.out; unfold wrap64; omega); first | rfl | (rw [e64]; done) | (simp [e64]; done)), by have := HK.out; omega, HOK'.out _ _ _ _⟩
    · have hki : ¬ (k : Int) < (l.length : Int) := by omega
      go_wp2
      refine bodyPost_ret (v := .tuple #[.pointer (some ⟨p, 0, none⟩), .pointer (some ⟨rb, 0, none⟩), .bool true]) (by simp [results, Try.results8, go_sem]) rfl ?_
      exact ⟨KB4.out.grown HN1.out.off KB4.out.size (fun j hj => by cases hj; have := HGB.out; have := KB.out.size; omega), .inr ⟨opn, p, v, rb, lb, rv, HRES.out, rfl, HPB4.out.grown HGC.out HN1.out.off, HRN4.out.grown HGC.out HN1.out.off HNE.out (by have := HGB.out; have := KB.out.size; omega)⟩⟩

theorem begun_calls (B P S : Int) (A : Option Addr) (l : List S34) (c : Nat) (cursor last : Int) (w : World) (hl : Kd.C k34 w A l.length l) (hc : l.length ≤ c) (hreach : l.length * 32 ≤ 140737488351232) (hwf : ∀ x, x ∈ l → 0 ≤ x.f1) :
    Calls Try.prog 8 #[.agg #[.int .i64 B, .int .i64 P, .int .i64 S], .slice A l.length c, .int .i64 cursor, .int .i64 last] w (BegunEnd w B P S l cursor last) := by
  cases hres : newRes B P S l cursor last with
  | none => exact begun_no B P S A l c cursor last w hl hc hreach hwf hres
  | some opn => exact begun_yes B P S A l c cursor last w hl hc hreach hwf opn hres
end Go.Proofs.Ytmohijpkhmeibaa
