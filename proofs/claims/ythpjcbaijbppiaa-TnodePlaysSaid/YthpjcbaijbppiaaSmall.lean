/- no, may, same, filled. -/
import Derived.Test.YthpjcbaijbppiaaOwn
namespace Go.Proofs.Ythpjcbaijbppiaa
open Go.RowKit Go.Proofs
set_option linter.unusedVariables false
set_option linter.unusedSimpArgs false
set_option maxRecDepth 100000
theorem no_calls (n : Int) (w : World) : Calls Try.prog 23 #[.int .i64 n] w fun e w' => e = .returned (.int .i64 n) ∧ w = w' := by
  go_enter Try.func23, Try.ntmps23
  go_wp2
  go_ret
  exact ⟨rfl, rfl⟩
theorem may_calls (k : Int) (w : World) : Calls Try.prog 19 #[.int .i64 k] w fun e w' => e = .returned (.bool (mayB k)) ∧ w = w' := by
  unfold mayB
  by_cases h0 : 0 ≤ k
  · by_cases h1 : k ≤ 1048575
    · have hb : decide (0 ≤ k ∧ k ≤ 1048575) = true := decide_eq_true ⟨h0, h1⟩
      rw [hb]
      go_enter Try.func19, Try.ntmps19
      go_wp2
      go_ret
      exact ⟨by simp [h1], rfl⟩
    · have hb : decide (0 ≤ k ∧ k ≤ 1048575) = false := decide_eq_false (by omega)
      rw [hb]
      go_enter Try.func19, Try.ntmps19
      go_wp2
      go_ret
      exact ⟨by simp [h1], rfl⟩
  · have hb : decide (0 ≤ k ∧ k ≤ 1048575) = false := decide_eq_false (by omega)
    rw [hb]
    go_enter Try.func19, Try.ntmps19
    go_wp2
    go_ret
    exact ⟨by simp [h0], rfl⟩
theorem same_yes (l : List (Nat × Int)) (hl : l.length ≤ 1048576) (a b : Value) (w : World) (ha : PRow w a l) (hb : PRow w b l) :
    Calls Try.prog 14 #[a, b] w fun e w' => e = .returned (.bool true) ∧ ∃ m, w' = w.drewN m := by
  obtain ⟨A, ca, rfl⟩ := ha.form
  obtain ⟨B, cb, rfl⟩ := hb.form
  by_cases h0 : l = []
  · subst h0
    clear ha hb hl
    go_enter Try.func14, Try.ntmps14
    go_wp2
    go_loop [5] (fun i => i = .int .i64 0) (fun _ => 0)
    case atStart => exact rfl
    case round =>
      obtain rfl := hrel
      go_wp2
      go_ret
      exact ⟨rfl, 0, rfl⟩
  · have hpos : 0 < l.length := List.length_pos_iff.2 h0
    obtain ⟨ga, rfl, ra⟩ : ∃ g, A = some ⟨g, 0, none⟩ ∧ ∀ i x, l[i]? = some x → w.cell? ⟨g, i * 2, none⟩ = some (.int .i64 (x.1 : Int)) ∧ w.cell? ⟨g, i * 2 + 1, none⟩ = some (.int .i64 x.2) := by
      rcases ha with ⟨cap, _, rfl⟩ | ⟨g, cap, e, h⟩
      · exact absurd rfl h0
      · injection e with e1 e2 e3; exact ⟨g, e1, h⟩
    obtain ⟨gb, rfl, rb⟩ : ∃ g, B = some ⟨g, 0, none⟩ ∧ ∀ i x, l[i]? = some x → w.cell? ⟨g, i * 2, none⟩ = some (.int .i64 (x.1 : Int)) ∧ w.cell? ⟨g, i * 2 + 1, none⟩ = some (.int .i64 x.2) := by
      rcases hb with ⟨cap, _, rfl⟩ | ⟨g, cap, e, h⟩
      · exact absurd rfl h0
      · injection e with e1 e2 e3; exact ⟨g, e1, h⟩
    have RA := Lib.hid ra
    have RB := Lib.hid rb
    clear ra rb ha hb h0
    go_enter Try.func14, Try.ntmps14
    go_wp2
    go_loopw [5] (fun s5 wr => ∃ i m : Nat, s5 = .int .i64 (i : Int) ∧ i ≤ l.length ∧ wr = w.drewN m) (fun s5 _ => l.length - (intOf s5).toNat)
    case atStart => exact ⟨0, 0, rfl, by omega, rfl⟩
    case round =>
      obtain ⟨i, m, rfl, hi, rfl⟩ := hrel
      by_cases hlt : i < l.length
      · obtain ⟨x, hx⟩ : ∃ x, l[i]? = some x := ⟨_, List.getElem?_eq_getElem hlt⟩
        obtain ⟨a1, a2⟩ := RA.out i x hx
        obtain ⟨b1, b2⟩ := RB.out i x hx
        have hil : (i : Int) < (l.length : Int) := by omega
        have n1 : ((x.1 : Int) != (x.1 : Int)) = false := by rw [bne, beq_self_eq_true]; rfl
        have n2 : (x.2 != x.2) = false := by rw [bne, beq_self_eq_true]; rfl
        clear hx
        go_wp2
        go_quiet (fail)
        go_wp2
        go_roundw
        case rel => exact ⟨i + 1, _, by go_num, by omega, by first | rfl | exact World.drewN_drewN _ _ _⟩
        case measure => simp [intOf]; omega
      · obtain rfl : i = l.length := by omega
        go_wp2
        go_ret
        exact ⟨rfl, _, rfl⟩
end Go.Proofs.Ythpjcbaijbppiaa
