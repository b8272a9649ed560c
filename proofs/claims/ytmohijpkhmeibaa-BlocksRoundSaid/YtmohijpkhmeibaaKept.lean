/- kept of the law: the marks stand. -/
import Derived.Test.YtmohijpkhmeibaaNewB
import Derived.Test.YtmohijpkhmeibaaCopied
import Derived.Test.YtmohijpkhmeibaaPBlocksRoundx5
namespace Go.Proofs.Ytmohijpkhmeibaa
open Go.RowKit Go.Proofs Go.Proofs.YtmohijpkhmeibaaW.PrintWords Go.Proofs.YtmohijpkhmeibaaW.PrintLast Go.Proofs.YtmohijpkhmeibaaW.PrintMore
open PBlocksRound
set_option linter.unusedVariables false
set_option linter.unusedSimpArgs false
attribute [local go_sem high] PBlocksRound.eqA34

theorem same_l0 (l : List S34) (hl : l.length * 32 ≤ 140737488351232) : ∀ n (i : Nat), i + n = l.length → shalelaw11_same.l0 (n + 1) l l i = some true := by
  intro n
  induction n with
  | zero =>
    intro i hi
    unfold shalelaw11_same.l0
    rw [if_neg (by omega)]
  | succ n ih =>
    intro i hi
    unfold shalelaw11_same.l0
    rw [if_pos (by omega), if_pos (by omega), if_pos (by omega)]
    have e : wrap64 ((i : Int) + 1) = ((i + 1 : Nat) : Int) := by unfold wrap64; omega
    rw [e]
    simp only [beq_self_eq_true, Bool.not_true, Bool.or_false, Bool.false_eq_true, if_false]
    exact ih (i + 1) (by omega)
theorem same_f (l : List S34) (hl : l.length * 32 ≤ 140737488351232) : shalelaw11_same.f (l.length + 1) l l = some true := by
  unfold shalelaw11_same.f
  rw [if_pos rfl]
  exact same_l0 l hl l.length 0 (by omega)
abbrev marks (l : List S34) : List S34 := l ++ [(⟨71, 0, false, 0⟩ : S34), (⟨72, 0, false, 0⟩ : S34)]

set_option maxHeartbeats 4000000 in
set_option maxRecDepth 100000 in
theorem kept_calls (A A1 : Option Addr) (c c1 base : Nat) (l : List S34) (w : World) (hr : Kd.R k34 34 w base (fun _ => True) (.slice A (l.length + 2) c) (marks l)) (hl : Kd.C k34 w A1 l.length l) (hc1 : l.length ≤ c1) (hlen : l.length * 32 ≤ 140737488351232) :
    Calls Try.prog 34 #[.slice A l.length c, .slice A1 l.length c1] w fun e w' => e = .returned (.bool true) ∧ Drawn0 w w' := by
  have hml : (marks l).length = l.length + 2 := by unfold marks; rw [List.length_append]; rfl
  obtain ⟨_, hcap, hC⟩ := Kd.R_reads' (by rw [← hml] at hr; exact hr)
  rw [hml] at hC hcap
  obtain ⟨g, o, rfl, rows⟩ := kd_rows hC (by omega)
  have m1 := (rows l.length ⟨71, 0, false, 0⟩ (by unfold marks; rw [List.getElem?_append_right (Nat.le_refl _), Nat.sub_self]; rfl)).1
  have m2 := (rows (l.length + 1) ⟨72, 0, false, 0⟩ (by unfold marks; rw [List.getElem?_append_right (by omega), show l.length + 1 - l.length = 1 by omega]; rfl)).1
  have hP : Kd.C k34 w (some ⟨g, o, none⟩) l.length l := by
    have := Kd.R_take (m := l.length) (by rw [← hml] at hr; exact hr) (by omega)
    have e : (marks l).take l.length = l := by unfold marks; rw [List.take_left']; rfl
    rw [e] at this
    exact (Kd.R_reads' this).2.2
  have SA := Lib.hid (shalelaw11_same.calls (l.length + 1) (some ⟨g, o, none⟩) c l A1 c1 l true w hP (by omega) hl hc1 (same_f l hlen))
  clear hr hl hC rows hP
  have hw2 : wrap64 ((l.length : Int) + 2) = (l.length : Int) + 2 := by unfold wrap64; omega
  have hw1 : wrap64 ((l.length : Int) + 1) = (l.length : Int) + 1 := by unfold wrap64; omega
  go_enter Try.func34, Try.ntmps34
  go_wp2_with (go_at_call 23; refine SA.out.mono ?_; rintro e w1 ⟨rfl, ⟨⟨nn, rfl⟩⟩⟩)
  go_ret
  exact ⟨rfl, ⟨nn, rfl⟩⟩
end Go.Proofs.Ytmohijpkhmeibaa
