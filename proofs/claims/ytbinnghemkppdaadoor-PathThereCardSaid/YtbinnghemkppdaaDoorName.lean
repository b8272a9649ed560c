/- node.Name and the reference's Name tell the same: whether a text may be a name. -/
import Derived.Test.YtbinnghemkppdaaDoorAny
namespace Go.Proofs.YtbinnghemkppdaaDoor
open Go.RowKit Go.Proofs
set_option linter.unusedVariables false
set_option linter.unusedSimpArgs false

/-- May it be a name? -/
def nameOk (l : List UInt8) : Bool := !l.isEmpty && decide (l.length ≤ 63) && !(l == [46]) && !(l == [46, 46]) && !hasBad l
def nameNo (l : List UInt8) : Int := if nameOk l then 0 else 81

set_option maxHeartbeats 1000000 in
theorem name_calls (s : ByteArray) (w : World) :
    Calls Tryd.prog 36 #[.string s] w fun e w' => e = .returned (.int .i64 (nameNo s.data.toList)) ∧ Below w.heap.size w w' := by
  have hl : s.toList = s.data.toList := Lib.toList_data s
  have hsz : s.size = s.data.toList.length := Lib.size_eq s
  by_cases h0 : s.data.toList = []
  · have h1 : nameNo s.data.toList = 81 := by rw [h0]; rfl
    rw [h1]
    have h2 : s.toList.isEmpty = true := by rw [hl, h0]; rfl
    clear hl hsz h0 h1
    go_enter Tryd.func36, Tryd.ntmps36
    go_wp2
    go_ret
    exact ⟨rfl, Below.refl _ _⟩
  have h2 : s.toList.isEmpty = false := by rw [hl]; simpa using h0
  by_cases h63 : 63 < s.size
  · have h1 : nameNo s.data.toList = 81 := by
      have : nameOk s.data.toList = false := by simp [nameOk, decide_eq_false (show ¬ s.data.toList.length ≤ 63 by omega)]; omega
      rw [nameNo, this]; rfl
    rw [h1]
    have h3 : decide ((63 : Int) < (s.size : Int)) = true := decide_eq_true (by omega)
    clear hl hsz h0 h1
    go_enter Tryd.func36, Tryd.ntmps36
    go_wp2
    go_ret
    exact ⟨rfl, Below.refl _ _⟩
  have h3 : decide ((63 : Int) < (s.size : Int)) = false := decide_eq_false (by omega)
  by_cases hd : s.data.toList = [46]
  · have h1 : nameNo s.data.toList = 81 := by rw [hd]; rfl
    rw [h1]
    have h4 : (s.toList == [46]) = true := by rw [hl, hd]; rfl
    clear hl hsz h0 h1 hd
    go_enter Tryd.func36, Tryd.ntmps36
    go_wp2
    go_ret
    exact ⟨rfl, Below.refl _ _⟩
  have h4 : (s.toList == [46]) = false := by rw [hl]; simpa using hd
  by_cases hdd : s.data.toList = [46, 46]
  · have h1 : nameNo s.data.toList = 81 := by rw [hdd]; rfl
    rw [h1]
    have h5 : (s.toList == [46, 46]) = true := by rw [hl, hdd]; rfl
    clear hl hsz h0 h1 hd hdd
    go_enter Tryd.func36, Tryd.ntmps36
    go_wp2
    go_ret
    exact ⟨rfl, Below.refl _ _⟩
  have h5 : (s.toList == [46, 46]) = false := by rw [hl]; simpa using hdd
  have h1 : Hid (nameNo s.data.toList = if hasBad s.data.toList then 81 else 0) := by
    refine Lib.hid ?_
    unfold nameNo
    have e : nameOk s.data.toList = !hasBad s.data.toList := by
      unfold nameOk
      have e1 : s.data.toList.isEmpty = false := by rw [← hl]; exact h2
      have e2 : (s.data.toList == [46]) = false := by rw [← hl]; exact h4
      have e3 : (s.data.toList == [46, 46]) = false := by rw [← hl]; exact h5
      rw [e1, e2, e3, decide_eq_true (show s.data.toList.length ≤ 63 by omega)]
      rfl
    rw [e]
    cases hasBad s.data.toList <;> rfl
  clear hl hsz h0 hd hdd
  have hs : s.size < 4294967281 := by omega
  cases hb : hasBad s.data.toList
  all_goals
    rw [hb] at h1
    go_enter Tryd.func36, Tryd.ntmps36
    go_wp2_with (go_at_call 48; refine (contains_any s _ hs).mono ?_; rintro e w' ⟨rfl, hw⟩; rw [hb])
    go_ret
    exact ⟨by rw [h1.out]; rfl, hw⟩
end Go.Proofs.YtbinnghemkppdaaDoor
