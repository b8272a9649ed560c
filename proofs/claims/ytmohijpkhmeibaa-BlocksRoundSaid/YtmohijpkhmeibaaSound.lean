/- sound: is a block as its state wants? -/
import Derived.Test.YtmohijpkhmeibaaState
import Derived.Test.YtmohijpkhmeibaaPBlocksRoundx1
import Derived.Test.YtmohijpkhmeibaaPBlocksRoundx2
import Derived.BigQuiet
import Derived.Deep.QuietTactic
namespace Go.Proofs.Ytmohijpkhmeibaa
open Go.RowKit Go.Proofs Go.Proofs.YtmohijpkhmeibaaW.PrintWords
open PBlocksRound
set_option linter.unusedVariables false
set_option linter.unusedSimpArgs false
attribute [local go_sem high] PBlocksRound.eqA34

def PBlocksRound.S34.v (x : S34) : Value := .agg #[.int .i64 x.f0, .int .u64 x.f1, .bool x.f2, .int .i64 x.f3]
theorem lt_of_cell {w : World} {a : Addr} {v : Value} (h : w.cell? a = some v) : a.block < w.heap.size := by
  unfold World.cell? at h
  by_cases hlt : a.block < w.heap.size
  · exact hlt
  · rw [Array.getElem?_eq_none (by omega)] at h
    cases h
def vacB (s : Int) : Bool := s == 0 || s == 5 || s == 6
def soundB (pages : Int) (x : S34) : Bool :=
  if vacB x.f0 then x.f1 == 0 && (!x.f2 && x.f3 == 0)
  else if x.f0 < 0 ∨ 6 < x.f0 ∨ x.f1 = 0 ∨ 281474976710655 < x.f1 ∨ x.f3 < 0 ∨ pages ≤ x.f3 then false
  else if x.f0 = 1 then x.f2 || decide (0 < x.f3) else if x.f0 = 3 then x.f3 == 0 else true
theorem vac_calls (s : Int) (w : World) : Calls Try.prog 48 #[.int .i64 s] w fun e w' => e = .returned (.bool (vacB s)) ∧ ∃ n, w' = w.drewN n := by
  refine (blocks_vacant.calls s (vacB s) w ?_).mono fun e w' h => ?_
  · unfold blocks_vacant.f vacB
    by_cases h0 : s = 0
    · rw [if_pos h0]; simp [h0]
    by_cases h5 : s = 5
    · rw [if_neg h0, if_pos h5]; simp [h5]
    · rw [if_neg h0, if_neg h5]; simp [h0, h5]
  · exact ⟨h.1, h.2.out⟩
def Told (b : Bool) (w : World) (e : Ending) (w' : World) : Prop := e = .returned (.bool b) ∧ Below w.heap.size w w'

set_option maxHeartbeats 2000000 in
theorem sound_vac (p : Nat) (x : S34) (w : World) (hv : vacB x.f0 = true) : Calls Try.prog 47 #[.pointer (some ⟨p, 0, none⟩), x.v] w (Told (x.f1 == 0 && (!x.f2 && x.f3 == 0)) w) := by
  obtain ⟨a, b, c, d⟩ := x
  unfold PBlocksRound.S34.v
  simp only at hv ⊢
  have V := Lib.hid (fun w => vac_calls a w)
  have HV := Lib.hid hv
  clear hv
  go_enter Try.func47, Try.ntmps47
  go_wp2_with (go_at_call 48; fail)
  refine (V.out _).mono ?_
  rw [HV.out]
  rintro e w1 ⟨rfl, n, rfl⟩
  go_wp2
  go_ret
  exact ⟨by simp, pw_below_drewN ((Below.refl _ _).alloc (Nat.le_refl _) _) _⟩

set_option maxHeartbeats 4000000 in
theorem sound_non (p : Nat) (pages : Int) (x : S34) (w : World) (hp : w.cell? ⟨p, 0, none⟩ = some (.int .i64 pages)) (hv : vacB x.f0 = false) : Calls Try.prog 47 #[.pointer (some ⟨p, 0, none⟩), x.v] w (Told (soundB pages x) w) := by
  obtain ⟨s, hs⟩ : ∃ s, soundB pages x = s := ⟨_, rfl⟩
  rw [hs]
  unfold soundB at hs
  rw [hv] at hs
  obtain ⟨a, b, c, d⟩ := x
  unfold PBlocksRound.S34.v
  simp only [Bool.false_eq_true, if_false] at hs hv ⊢
  have V := Lib.hid (fun w => vac_calls a w)
  have HV := Lib.hid hv
  have HS := Lib.hid hs
  have hpn := World.new_ne w ⟨p, 0, none⟩ hp
  clear hv hs
  have HP := Lib.hid hp
  clear hp hpn
  by_cases h0 : a < 0
  · have hs' : s = false := by rw [← HS.out, if_pos (by simp only [h0, true_or, or_true])]
    have e0 : decide (a < 0) = true := decide_eq_true h0
    subst hs'
    clear HS h0
    go_enter Try.func47, Try.ntmps47
    go_wp2_with (go_at_call 48; fail)
    refine (V.out _).mono ?_
    rw [HV.out]
    rintro e w1 ⟨rfl, n, rfl⟩
    have kb : Below w.heap.size w ((w.alloc (.cells #[.int .i64 a, .int .u64 b, .bool c, .int .i64 d] 34)).drewN n) := pw_below_drewN ((Below.refl _ _).alloc (Nat.le_refl _) _) _
    have kp := (kb.cell (lt_of_cell HP.out)).trans HP.out
    have kh : ((w.alloc (.cells #[.int .i64 a, .int .u64 b, .bool c, .int .i64 d] 34)).drewN n).heap[w.heap.size]? = some (.cells #[.int .i64 a, .int .u64 b, .bool c, .int .i64 d] 34 (0, 0)) := heap_alloc_new w _
    have KB := Lib.hid kb
    have z0 := cell_of (o := 0) kh rfl
    have z1 := cell_of (o := 1) kh rfl
    have z2 := cell_of (o := 2) kh rfl
    have z3 := cell_of (o := 3) kh rfl
    clear kb kh
    revert KB kp z0 z1 z2 z3
    generalize (w.alloc (.cells #[.int .i64 a, .int .u64 b, .bool c, .int .i64 d] 34)).drewN n = W1
    intro kp KB z0 z1 z2 z3
    go_wp2
    go_quiet (fail)
    go_wp2
    go_ret
    exact ⟨rfl, pw_below_drewN KB.out _⟩
  have e0 : decide (a < 0) = false := decide_eq_false h0
  by_cases h1 : 6 < a
  · have hs' : s = false := by rw [← HS.out, if_pos (by simp only [h1, true_or, or_true])]
    have e1 : decide (6 < a) = true := decide_eq_true h1
    subst hs'
    clear HS h1
    go_enter Try.func47, Try.ntmps47
    go_wp2_with (go_at_call 48; fail)
    refine (V.out _).mono ?_
    rw [HV.out]
    rintro e w1 ⟨rfl, n, rfl⟩
    have kb : Below w.heap.size w ((w.alloc (.cells #[.int .i64 a, .int .u64 b, .bool c, .int .i64 d] 34)).drewN n) := pw_below_drewN ((Below.refl _ _).alloc (Nat.le_refl _) _) _
    have kp := (kb.cell (lt_of_cell HP.out)).trans HP.out
    have kh : ((w.alloc (.cells #[.int .i64 a, .int .u64 b, .bool c, .int .i64 d] 34)).drewN n).heap[w.heap.size]? = some (.cells #[.int .i64 a, .int .u64 b, .bool c, .int .i64 d] 34 (0, 0)) := heap_alloc_new w _
    have KB := Lib.hid kb
    have z0 := cell_of (o := 0) kh rfl
    have z1 := cell_of (o := 1) kh rfl
    have z2 := cell_of (o := 2) kh rfl
    have z3 := cell_of (o := 3) kh rfl
    clear kb kh
    revert KB kp z0 z1 z2 z3
    generalize (w.alloc (.cells #[.int .i64 a, .int .u64 b, .bool c, .int .i64 d] 34)).drewN n = W1
    intro kp KB z0 z1 z2 z3
    go_wp2
    go_quiet (fail)
    go_wp2
    go_ret
    exact ⟨rfl, pw_below_drewN KB.out _⟩
  have e1 : decide (6 < a) = false := decide_eq_false h1
  by_cases h2 : b = 0
  · have hs' : s = false := by rw [← HS.out, if_pos (by simp only [h2, true_or, or_true])]
    have e2 : (b == 0) = true := by rw [h2]; rfl
    subst hs'
    clear HS h2
    go_enter Try.func47, Try.ntmps47
    go_wp2_with (go_at_call 48; fail)
    refine (V.out _).mono ?_
    rw [HV.out]
    rintro e w1 ⟨rfl, n, rfl⟩
    have kb : Below w.heap.size w ((w.alloc (.cells #[.int .i64 a, .int .u64 b, .bool c, .int .i64 d] 34)).drewN n) := pw_below_drewN ((Below.refl _ _).alloc (Nat.le_refl _) _) _
    have kp := (kb.cell (lt_of_cell HP.out)).trans HP.out
    have kh : ((w.alloc (.cells #[.int .i64 a, .int .u64 b, .bool c, .int .i64 d] 34)).drewN n).heap[w.heap.size]? = some (.cells #[.int .i64 a, .int .u64 b, .bool c, .int .i64 d] 34 (0, 0)) := heap_alloc_new w _
    have KB := Lib.hid kb
    have z0 := cell_of (o := 0) kh rfl
    have z1 := cell_of (o := 1) kh rfl
    have z2 := cell_of (o := 2) kh rfl
    have z3 := cell_of (o := 3) kh rfl
    clear kb kh
    revert KB kp z0 z1 z2 z3
    generalize (w.alloc (.cells #[.int .i64 a, .int .u64 b, .bool c, .int .i64 d] 34)).drewN n = W1
    intro kp KB z0 z1 z2 z3
    go_wp2
    go_quiet (fail)
    go_wp2
    go_ret
    exact ⟨rfl, pw_below_drewN KB.out _⟩
  have e2 : (b == 0) = false := by rw [beq_eq_false_iff_ne]; exact h2
  by_cases h3 : 281474976710655 < b
  · have hs' : s = false := by rw [← HS.out, if_pos (by simp only [h3, true_or, or_true])]
    have e3 : decide (281474976710655 < b) = true := decide_eq_true h3
    subst hs'
    clear HS h3
    go_enter Try.func47, Try.ntmps47
    go_wp2_with (go_at_call 48; fail)
    refine (V.out _).mono ?_
    rw [HV.out]
    rintro e w1 ⟨rfl, n, rfl⟩
    have kb : Below w.heap.size w ((w.alloc (.cells #[.int .i64 a, .int .u64 b, .bool c, .int .i64 d] 34)).drewN n) := pw_below_drewN ((Below.refl _ _).alloc (Nat.le_refl _) _) _
    have kp := (kb.cell (lt_of_cell HP.out)).trans HP.out
    have kh : ((w.alloc (.cells #[.int .i64 a, .int .u64 b, .bool c, .int .i64 d] 34)).drewN n).heap[w.heap.size]? = some (.cells #[.int .i64 a, .int .u64 b, .bool c, .int .i64 d] 34 (0, 0)) := heap_alloc_new w _
    have KB := Lib.hid kb
    have z0 := cell_of (o := 0) kh rfl
    have z1 := cell_of (o := 1) kh rfl
    have z2 := cell_of (o := 2) kh rfl
    have z3 := cell_of (o := 3) kh rfl
    clear kb kh
    revert KB kp z0 z1 z2 z3
    generalize (w.alloc (.cells #[.int .i64 a, .int .u64 b, .bool c, .int .i64 d] 34)).drewN n = W1
    intro kp KB z0 z1 z2 z3
    go_wp2
    go_quiet (fail)
    go_wp2
    go_ret
    exact ⟨rfl, pw_below_drewN KB.out _⟩
  have e3 : decide (281474976710655 < b) = false := decide_eq_false h3
  by_cases h4 : d < 0
  · have hs' : s = false := by rw [← HS.out, if_pos (by simp only [h4, true_or, or_true])]
    have e4 : decide (d < 0) = true := decide_eq_true h4
    subst hs'
    clear HS h4
    go_enter Try.func47, Try.ntmps47
    go_wp2_with (go_at_call 48; fail)
    refine (V.out _).mono ?_
    rw [HV.out]
    rintro e w1 ⟨rfl, n, rfl⟩
    have kb : Below w.heap.size w ((w.alloc (.cells #[.int .i64 a, .int .u64 b, .bool c, .int .i64 d] 34)).drewN n) := pw_below_drewN ((Below.refl _ _).alloc (Nat.le_refl _) _) _
    have kp := (kb.cell (lt_of_cell HP.out)).trans HP.out
    have kh : ((w.alloc (.cells #[.int .i64 a, .int .u64 b, .bool c, .int .i64 d] 34)).drewN n).heap[w.heap.size]? = some (.cells #[.int .i64 a, .int .u64 b, .bool c, .int .i64 d] 34 (0, 0)) := heap_alloc_new w _
    have KB := Lib.hid kb
    have z0 := cell_of (o := 0) kh rfl
    have z1 := cell_of (o := 1) kh rfl
    have z2 := cell_of (o := 2) kh rfl
    have z3 := cell_of (o := 3) kh rfl
    clear kb kh
    revert KB kp z0 z1 z2 z3
    generalize (w.alloc (.cells #[.int .i64 a, .int .u64 b, .bool c, .int .i64 d] 34)).drewN n = W1
    intro kp KB z0 z1 z2 z3
    go_wp2
    go_quiet (fail)
    go_wp2
    go_ret
    exact ⟨rfl, pw_below_drewN KB.out _⟩
  have e4 : decide (d < 0) = false := decide_eq_false h4
  by_cases h5 : pages ≤ d
  · have hs' : s = false := by rw [← HS.out, if_pos (by simp only [h5, true_or, or_true])]
    have e5 : decide (pages ≤ d) = true := decide_eq_true h5
    subst hs'
    clear HS h5
    go_enter Try.func47, Try.ntmps47
    go_wp2_with (go_at_call 48; fail)
    refine (V.out _).mono ?_
    rw [HV.out]
    rintro e w1 ⟨rfl, n, rfl⟩
    have kb : Below w.heap.size w ((w.alloc (.cells #[.int .i64 a, .int .u64 b, .bool c, .int .i64 d] 34)).drewN n) := pw_below_drewN ((Below.refl _ _).alloc (Nat.le_refl _) _) _
    have kp := (kb.cell (lt_of_cell HP.out)).trans HP.out
    have kh : ((w.alloc (.cells #[.int .i64 a, .int .u64 b, .bool c, .int .i64 d] 34)).drewN n).heap[w.heap.size]? = some (.cells #[.int .i64 a, .int .u64 b, .bool c, .int .i64 d] 34 (0, 0)) := heap_alloc_new w _
    have KB := Lib.hid kb
    have z0 := cell_of (o := 0) kh rfl
    have z1 := cell_of (o := 1) kh rfl
    have z2 := cell_of (o := 2) kh rfl
    have z3 := cell_of (o := 3) kh rfl
    clear kb kh
    revert KB kp z0 z1 z2 z3
    generalize (w.alloc (.cells #[.int .i64 a, .int .u64 b, .bool c, .int .i64 d] 34)).drewN n = W1
    intro kp KB z0 z1 z2 z3
    go_wp2
    go_quiet (fail)
    go_wp2
    go_ret
    exact ⟨rfl, pw_below_drewN KB.out _⟩
  have e5 : decide (pages ≤ d) = false := decide_eq_false h5
  have hs' : s = if a = 1 then c || decide (0 < d) else if a = 3 then d == 0 else true := by rw [← HS.out, if_neg (by simp only [h0, h1, h2, h3, h4, h5, or_self, not_false_eq_true])]
  have HS2 := Lib.hid hs'
  clear HS hs' h0 h1 h2 h3 h4 h5
  by_cases h6 : a = 1
  · subst h6
    cases c
    ·
      go_enter Try.func47, Try.ntmps47
      go_wp2_with (go_at_call 48; fail)
      refine (V.out _).mono ?_
      rw [HV.out]
      rintro e w1 ⟨rfl, n, rfl⟩
      have kb : Below w.heap.size w ((w.alloc (.cells #[.int .i64 1, .int .u64 b, .bool false, .int .i64 d] 34)).drewN n) := pw_below_drewN ((Below.refl _ _).alloc (Nat.le_refl _) _) _
      have kp := (kb.cell (lt_of_cell HP.out)).trans HP.out
      have kh : ((w.alloc (.cells #[.int .i64 1, .int .u64 b, .bool false, .int .i64 d] 34)).drewN n).heap[w.heap.size]? = some (.cells #[.int .i64 1, .int .u64 b, .bool false, .int .i64 d] 34 (0, 0)) := heap_alloc_new w _
      have KB := Lib.hid kb
      have z0 := cell_of (o := 0) kh rfl
      have z1 := cell_of (o := 1) kh rfl
      have z2 := cell_of (o := 2) kh rfl
      have z3 := cell_of (o := 3) kh rfl
      clear kb kh
      revert KB kp z0 z1 z2 z3
      generalize (w.alloc (.cells #[.int .i64 1, .int .u64 b, .bool false, .int .i64 d] 34)).drewN n = W1
      intro kp KB z0 z1 z2 z3
      go_wp2
      go_quiet (fail)
      go_wp2
      go_ret
      exact ⟨by rw [HS2.out]; simp, pw_below_drewN KB.out _⟩
    ·
      go_enter Try.func47, Try.ntmps47
      go_wp2_with (go_at_call 48; fail)
      refine (V.out _).mono ?_
      rw [HV.out]
      rintro e w1 ⟨rfl, n, rfl⟩
      have kb : Below w.heap.size w ((w.alloc (.cells #[.int .i64 1, .int .u64 b, .bool true, .int .i64 d] 34)).drewN n) := pw_below_drewN ((Below.refl _ _).alloc (Nat.le_refl _) _) _
      have kp := (kb.cell (lt_of_cell HP.out)).trans HP.out
      have kh : ((w.alloc (.cells #[.int .i64 1, .int .u64 b, .bool true, .int .i64 d] 34)).drewN n).heap[w.heap.size]? = some (.cells #[.int .i64 1, .int .u64 b, .bool true, .int .i64 d] 34 (0, 0)) := heap_alloc_new w _
      have KB := Lib.hid kb
      have z0 := cell_of (o := 0) kh rfl
      have z1 := cell_of (o := 1) kh rfl
      have z2 := cell_of (o := 2) kh rfl
      have z3 := cell_of (o := 3) kh rfl
      clear kb kh
      revert KB kp z0 z1 z2 z3
      generalize (w.alloc (.cells #[.int .i64 1, .int .u64 b, .bool true, .int .i64 d] 34)).drewN n = W1
      intro kp KB z0 z1 z2 z3
      go_wp2
      go_quiet (fail)
      go_wp2
      go_ret
      exact ⟨by rw [HS2.out]; simp, pw_below_drewN KB.out _⟩
  by_cases h7 : a = 3
  · subst h7
    go_enter Try.func47, Try.ntmps47
    go_wp2_with (go_at_call 48; fail)
    refine (V.out _).mono ?_
    rw [HV.out]
    rintro e w1 ⟨rfl, n, rfl⟩
    have kb : Below w.heap.size w ((w.alloc (.cells #[.int .i64 3, .int .u64 b, .bool c, .int .i64 d] 34)).drewN n) := pw_below_drewN ((Below.refl _ _).alloc (Nat.le_refl _) _) _
    have kp := (kb.cell (lt_of_cell HP.out)).trans HP.out
    have kh : ((w.alloc (.cells #[.int .i64 3, .int .u64 b, .bool c, .int .i64 d] 34)).drewN n).heap[w.heap.size]? = some (.cells #[.int .i64 3, .int .u64 b, .bool c, .int .i64 d] 34 (0, 0)) := heap_alloc_new w _
    have KB := Lib.hid kb
    have z0 := cell_of (o := 0) kh rfl
    have z1 := cell_of (o := 1) kh rfl
    have z2 := cell_of (o := 2) kh rfl
    have z3 := cell_of (o := 3) kh rfl
    clear kb kh
    revert KB kp z0 z1 z2 z3
    generalize (w.alloc (.cells #[.int .i64 3, .int .u64 b, .bool c, .int .i64 d] 34)).drewN n = W1
    intro kp KB z0 z1 z2 z3
    go_wp2
    go_quiet (fail)
    go_wp2
    go_ret
    exact ⟨by rw [HS2.out]; simp, pw_below_drewN KB.out _⟩
  · have g6 : (a == 1) = false := by rw [beq_eq_false_iff_ne]; exact h6
    have g7 : (a == 3) = false := by rw [beq_eq_false_iff_ne]; exact h7
    have HS3 := Lib.hid (show s = true by rw [HS2.out, if_neg h6, if_neg h7])
    clear h6 h7 HS2
    go_enter Try.func47, Try.ntmps47
    go_wp2_with (go_at_call 48; fail)
    refine (V.out _).mono ?_
    rw [HV.out]
    rintro e w1 ⟨rfl, n, rfl⟩
    have kb : Below w.heap.size w ((w.alloc (.cells #[.int .i64 a, .int .u64 b, .bool c, .int .i64 d] 34)).drewN n) := pw_below_drewN ((Below.refl _ _).alloc (Nat.le_refl _) _) _
    have kp := (kb.cell (lt_of_cell HP.out)).trans HP.out
    have kh : ((w.alloc (.cells #[.int .i64 a, .int .u64 b, .bool c, .int .i64 d] 34)).drewN n).heap[w.heap.size]? = some (.cells #[.int .i64 a, .int .u64 b, .bool c, .int .i64 d] 34 (0, 0)) := heap_alloc_new w _
    have KB := Lib.hid kb
    have z0 := cell_of (o := 0) kh rfl
    have z1 := cell_of (o := 1) kh rfl
    have z2 := cell_of (o := 2) kh rfl
    have z3 := cell_of (o := 3) kh rfl
    clear kb kh
    revert KB kp z0 z1 z2 z3
    generalize (w.alloc (.cells #[.int .i64 a, .int .u64 b, .bool c, .int .i64 d] 34)).drewN n = W1
    intro kp KB z0 z1 z2 z3
    go_wp2
    go_quiet (fail)
    go_wp2
    go_ret
    exact ⟨by rw [HS3.out]; rfl, pw_below_drewN KB.out _⟩
theorem sound_calls (p : Nat) (pages : Int) (x : S34) (w : World) (hp : w.cell? ⟨p, 0, none⟩ = some (.int .i64 pages)) : Calls Try.prog 47 #[.pointer (some ⟨p, 0, none⟩), x.v] w (Told (soundB pages x) w) := by
  cases hv : vacB x.f0
  · exact sound_non p pages x w hp hv
  · have e : soundB pages x = (x.f1 == 0 && (!x.f2 && x.f3 == 0)) := by unfold soundB; rw [if_pos hv]
    rw [e]
    exact sound_vac p x w hv
end Go.Proofs.Ytmohijpkhmeibaa
