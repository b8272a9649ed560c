/- slices.ContainsFunc with "longer than 63". -/
import Derived.Test.YtbinnghemkppdaaDoorSeq
import Derived.Test.YtbinnghemkppdaaDoorWWords
namespace Go.Proofs.YtbinnghemkppdaaDoor
open Go.RowKit Go.Proofs Go.Proofs.YtbinnghemkppdaaDoorW.PrintWords
set_option linter.unusedVariables false
set_option linter.unusedSimpArgs false
attribute [local go_sem] Oper.semAt_some

theorem far_calls (s : ByteArray) (w : World) : Calls Tryd.prog 43 #[.string s] w fun e w' => e = .returned (.bool (decide ((63 : Int) < (s.size : Int)))) ∧ w' = w := by
  go_enter Tryd.func43, Tryd.ntmps43
  go_wp2
  go_ret
  exact ⟨rfl, rfl⟩

def farB (x : ByteArray) : Bool := decide ((63 : Int) < (x.size : Int))

theorem any_take {L : List ByteArray} {k : Nat} {x : ByteArray} (h : L[k]? = some x) : (L.take (k + 1)).any farB = ((L.take k).any farB || farB x) := by
  rw [List.take_add_one, h, List.any_append]
  simp

set_option maxHeartbeats 2000000 in
theorem indexFar_calls (A : Addr) (L : List ByteArray) (c : Nat) (w : World) (hl : L.length ≤ 4096) (hc : ∀ j x, L[j]? = some x → w.cell? (A.add j) = some (.string x)) :
    Calls Tryd.prog 51 #[.slice (some A) L.length c, .func (.func 43) #[] #[]] w fun e w' => ∃ k : Int, e = .returned (.int .i64 k) ∧ decide (0 ≤ k) = L.any farB ∧ w' = w := by
  have HC := Lib.hid hc
  clear hc
  go_enter Tryd.func51, Tryd.ntmps51
  go_wp2
  go_loopg [5, 8] L.length (fun gg _ s8 wr => ∃ kk : Nat, kk ≤ L.length ∧ L.length - kk ≤ gg ∧ s8 = .int .i64 kk ∧ wr = w ∧ Aside ((L.take kk).any farB = false))
  case atStart => exact ⟨0, Nat.zero_le _, by omega, rfl, rfl, rfl⟩
  case round =>
    obtain ⟨kk, hkk, hg, rfl, rfl, A0⟩ := hrel
    by_cases hlt : kk < L.length
    · have hltz : (kk : Int) < (L.length : Int) := by omega
      obtain ⟨x, hx⟩ : ∃ x, L[kk]? = some x := ⟨_, List.getElem?_eq_getElem hlt⟩
      have hcx := HC.out kk x hx
      have HX := Lib.hid hx
      clear hx
      cases hq : decide ((63 : Int) < (x.size : Int)) with
      | true =>
        go_wp2_with (go_at_call 43; refine (far_calls x _).mono ?_; rintro e w' ⟨rfl, rfl⟩; rw [hq])
        go_ret
        refine ⟨_, rfl, ?_, rfl⟩
        have : L.any farB = true := List.any_eq_true.2 ⟨x, List.mem_of_getElem? HX.out, hq⟩
        rw [this]
        simp
      | false =>
        go_wp2_with (go_at_call 43; refine (far_calls x _).mono ?_; rintro e w' ⟨rfl, rfl⟩; rw [hq])
        go_roundg (L.length - (kk + 1))
        case measure => omega
        case rel =>
          refine ⟨kk + 1, by omega, by omega, by go_num, rfl, (show Aside _ from ?_)⟩
          show (L.take (kk + 1)).any farB = false
          rw [any_take HX.out, A0.out]
          exact hq
    · have hltz : ¬ (kk : Int) < (L.length : Int) := by omega
      have hkl : kk = L.length := by omega
      go_wp2
      go_ret
      refine ⟨_, rfl, ?_, rfl⟩
      have := A0.out
      rw [hkl, List.take_length] at this
      rw [this]
      rfl
theorem cFar_calls (A : Addr) (L : List ByteArray) (c : Nat) (w : World) (hl : L.length ≤ 4096) (hc : ∀ j x, L[j]? = some x → w.cell? (A.add j) = some (.string x)) :
    Calls Tryd.prog 42 #[.slice (some A) L.length c, .func (.func 43) #[] #[]] w fun e w' => e = .returned (.bool (L.any farB)) ∧ w' = w := by
  go_enter Tryd.func42, Tryd.ntmps42
  go_wp2_with (go_at_call 51; refine (indexFar_calls A L c _ hl hc).mono ?_; rintro e w' ⟨k, rfl, hk, rfl⟩)
  go_ret
  exact ⟨by rw [← hk]; rfl, rfl⟩
theorem cFar_nil (w : World) : Calls Tryd.prog 42 #[.slice none 0 0, .func (.func 43) #[] #[]] w fun e w' => e = .returned (.bool false) ∧ w' = w := by
  have h : Calls Tryd.prog 51 #[.slice none 0 0, .func (.func 43) #[] #[]] w fun e w' => e = .returned (.int .i64 (-1)) ∧ w' = w := by
    go_enter Tryd.func51, Tryd.ntmps51
    go_wp2
    go_loopg [5, 8] 0 (fun gg _ s8 wr => s8 = .int .i64 0 ∧ wr = w)
    case atStart => exact ⟨rfl, rfl⟩
    case round =>
      obtain ⟨rfl, rfl⟩ := hrel
      go_wp2
      go_ret
      exact ⟨rfl, rfl⟩
  go_enter Tryd.func42, Tryd.ntmps42
  go_wp2_with (go_at_call 51; refine h.mono ?_; rintro e w' ⟨rfl, rfl⟩)
  go_ret
  exact ⟨rfl, rfl⟩
end Go.Proofs.YtbinnghemkppdaaDoor
