/- node.Name and the reference's Name tell the same: whether a text may be a name. -/
import Derived.Test.YtljamhpdgmelcaaDoorAny
namespace Go.Proofs.YtljamhpdgmelcaaDoor
open Go.RowKit Go.Proofs
set_option linter.unusedVariables false
set_option linter.unusedSimpArgs false

/-- May it be a name? -/
def nameOk (l : List UInt8) : Bool := !l.isEmpty && decide (l.length ≤ 63) && !(l == [46]) && !(l == [46, 46]) && !hasBad l
def nameNo (l : List UInt8) : Int := if nameOk l then 0 else 81

set_option maxHeartbeats 1000000 in
theorem name_calls (s : ByteArray) (w : World) :
    Calls Tryd.prog 29 #[.string s] w fun e w' => e = .returned (.int .i64 (nameNo s.data.toList)) ∧ Below w.heap.size w w' := by
  have hl : s.toList = s.data.toList := Lib.toList_data s
  have hsz : s.size = s.data.toList.length := Lib.size_eq s
  by_cases h0 : s.data.toList = []
  · have h1 : nameNo s.data.toList = 81 := by rw [h0]; rfl
    rw [h1]
    have h2 : s.toList.isEmpty = true := by rw [hl, h0]; rfl
    clear hl hsz h0 h1
    go_enter Tryd.func29, Tryd.ntmps29
    go_wp2
    go_ret
    exact ⟨rfl, Below.refl _ _⟩
  have h2 : s.toList.isEmpty = false := by rw [hl]; simpa using h0
  by_cases h63 : 63 < s.size
  · have h1 : nameNo s.data.toList = 81 := by
      have : nameOk s.data.toList = false := by simp [nameOk, decide_eq_false (show ¬ s.data.toList.length ≤ 63 by omega)]; omega
      rw [nameNo, this]; rfl
    rw [h1]
    have h3 : decide ((63 : Int) < (s.size : Int)) = true := decide_eq_true (by omega)
    clear hl hsz h0 h1
    go_enter Tryd.func29, Tryd.ntmps29
    go_wp2
    go_ret
    exact ⟨rfl, Below.refl _ _⟩
  have h3 : decide ((63 : Int) < (s.size : Int)) = false := decide_eq_false (by omega)
  by_cases hd : s.data.toList = [46]
  · have h1 : nameNo s.data.toList = 81 := by rw [hd]; rfl
    rw [h1]
    have h4 : (s.toList == [46]) = true := by rw [hl, hd]; rfl
    clear hl hsz h0 h1 hd
    go_enter Tryd.func29, Tryd.ntmps29
    go_wp2
    go_ret
    exact ⟨rfl, Below.refl _ _⟩
  have h4 : (s.toList == [46]) = false := by rw [hl]; simpa using hd
  by_cases hdd : s.data.toList = [46, 46]
  · have h1 : nameNo s.data.toList = 81 := by rw [hdd]; rfl
    rw [h1]
    have h5 : (s.toList == [46, 46]) = true := by rw [hl, hdd]; rfl
    clear hl hsz h0 h1 hd hdd
    go_enter Tryd.func29, Tryd.ntmps29
    go_wp2
    go_ret
    exact ⟨rfl, Below.refl _ _⟩
  have h5 : (s.toList == [46, 46]) = false := by rw [hl]; simpa using hdd
  have h1 : Hid (nameNo s.data.toList = if hasBad s.data.toList then 81 else 0) := by
    refine Lib.hid ?_
    unfold nameNo
    have e : nameOk s.data.toList = !hasBad s.data.toList := by
      unfold nameOk
      have e1 : s.data.toList.isEmpty = false := by rw [← hl]; exact h2
      have e2 : (s.data.toList == [46]) = false := by rw [← hl]; exact h4
      have e3 : (s.data.toList == [46, 46]) = false := by rw [← hl]; exact h5
      rw [e1, e2, e3, decide_eq_true (show s.data.toList.length ≤ 63 by omega)]
      rfl
    rw [e]
    cases hasBad s.data.toList <;> rfl
  clear hl hsz h0 hd hdd
  have hs : s.size < 4294967281 := by omega
  cases hb : hasBad s.data.toList
  all_goals
    rw [hb] at h1
    go_enter Tryd.func29, Tryd.ntmps29
    go_wp2_with (go_at_call 32; refine (contains_any s _ hs).mono ?_; rintro e w' ⟨rfl, hw⟩; rw [hb])
    go_ret
    exact ⟨by rw [h1.out]; rfl, hw⟩

theorem byte_zero {b : UInt8} : ((b.toNat : Int) == 0) = (b == 0) := by
  rw [Bool.eq_iff_iff, beq_iff_eq, beq_iff_eq, ← UInt8.toNat_inj]
  exact ⟨fun h => Int.ofNat.inj h, fun h => congrArg Int.ofNat h⟩
theorem byte_slash {b : UInt8} : ((b.toNat : Int) == 47) = (b == 47) := by
  rw [Bool.eq_iff_iff, beq_iff_eq, beq_iff_eq, ← UInt8.toNat_inj]
  exact ⟨fun h => Int.ofNat.inj h, fun h => congrArg Int.ofNat h⟩

set_option maxHeartbeats 1000000 in
theorem refName_calls (s : ByteArray) (w : World) :
    Calls Tryd.prog 26 #[.string s] w fun e w' => e = .returned (.int .i64 (nameNo s.data.toList)) ∧ w = w' := by
  have hl : s.toList = s.data.toList := Lib.toList_data s
  have hsz : s.size = s.data.toList.length := Lib.size_eq s
  by_cases h0 : s.data.toList = []
  · have h1 : nameNo s.data.toList = 81 := by rw [h0]; rfl
    rw [h1]
    have h2 : decide ((s.size : Int) < 1) = true := decide_eq_true (by rw [hsz, h0]; decide)
    have h2' : decide (s.size < 1) = true := decide_eq_true (by rw [hsz, h0]; decide)
    clear hl hsz h0 h1
    go_enter Tryd.func26, Tryd.ntmps26
    go_wp2
    go_ret
    exact ⟨rfl, rfl⟩
  have hpos : 0 < s.size := by rw [hsz]; exact List.length_pos_iff.2 h0
  have h2 : decide ((s.size : Int) < 1) = false := decide_eq_false (by omega)
  have h2' : decide (s.size < 1) = false := decide_eq_false (by omega)
  by_cases h63 : 63 < s.size
  · have h1 : nameNo s.data.toList = 81 := by
      have : nameOk s.data.toList = false := by simp [nameOk, decide_eq_false (show ¬ s.data.toList.length ≤ 63 by omega)]; omega
      rw [nameNo, this]; rfl
    rw [h1]
    have h3 : decide ((63 : Int) < (s.size : Int)) = true := decide_eq_true (by omega)
    clear hl hsz h0 h1
    go_enter Tryd.func26, Tryd.ntmps26
    go_wp2
    go_ret
    exact ⟨rfl, rfl⟩
  have h3 : decide ((63 : Int) < (s.size : Int)) = false := decide_eq_false (by omega)
  by_cases hd : s.data.toList = [46]
  · have h1 : nameNo s.data.toList = 81 := by rw [hd]; rfl
    rw [h1]
    have h4 : (s.toList == [46]) = true := by rw [hl, hd]; rfl
    clear hl hsz h0 h1 hd
    go_enter Tryd.func26, Tryd.ntmps26
    go_wp2
    go_ret
    exact ⟨rfl, rfl⟩
  have h4 : (s.toList == [46]) = false := by rw [hl]; simpa using hd
  by_cases hdd : s.data.toList = [46, 46]
  · have h1 : nameNo s.data.toList = 81 := by rw [hdd]; rfl
    rw [h1]
    have h5 : (s.toList == [46, 46]) = true := by rw [hl, hdd]; rfl
    clear hl hsz h0 h1 hd hdd
    go_enter Tryd.func26, Tryd.ntmps26
    go_wp2
    go_ret
    exact ⟨rfl, rfl⟩
  have h5 : (s.toList == [46, 46]) = false := by rw [hl]; simpa using hdd
  have h1 : Hid (nameNo s.data.toList = if hasBad s.data.toList then 81 else 0) := by
    refine Lib.hid ?_
    unfold nameNo
    have e : nameOk s.data.toList = !hasBad s.data.toList := by
      unfold nameOk
      have e1 : s.data.toList.isEmpty = false := by simpa using h0
      have e2 : (s.data.toList == [46]) = false := by rw [← hl]; exact h4
      have e3 : (s.data.toList == [46, 46]) = false := by rw [← hl]; exact h5
      rw [e1, e2, e3, decide_eq_true (show s.data.toList.length ≤ 63 by omega)]
      rfl
    rw [e]
    cases hasBad s.data.toList <;> rfl
  clear hl hsz h0 hd hdd
  go_enter Tryd.func26, Tryd.ntmps26
  go_wp2
  go_loop [3] (fun i => ∃ k : Nat, k ≤ s.size ∧ i = .int .i64 k ∧ Hid (NoBad s k)) (fun i => s.size - (intOf i).toNat)
  case atStart => exact ⟨0, Nat.zero_le _, rfl, Lib.hid (fun j _ h => absurd h (Nat.not_lt_zero _))⟩
  case round =>
    obtain ⟨k, hk, rfl, HN⟩ := hrel
    by_cases hlt : k < s.size
    · have e0 := byte_zero (b := s[k]'hlt)
      have e47 := byte_slash (b := s[k]'hlt)
      cases hz : (s[k]'hlt == 0)
      · cases hs : (s[k]'hlt == 47)
        · have H : Hid (badB (s[k]'hlt) = false) := Lib.hid (by unfold badB; rw [hz, hs]; rfl)
          rw [hz] at e0; rw [hs] at e47
          clear hz hs
          go_wp2
          go_round
          case rel =>
            refine ⟨k + 1, by omega, by go_num, Lib.hid (fun j hj h => ?_)⟩
            by_cases hjp : j < k
            · exact HN.out j hj hjp
            · obtain rfl : j = k := by omega
              exact H.out
          case measure => simp [intOf]; omega
        · have H : Hid (badB (s[k]'hlt) = true) := Lib.hid (by unfold badB; rw [hz, hs]; rfl)
          rw [hz] at e0; rw [hs] at e47
          clear hz hs
          go_wp2
          go_ret
          exact ⟨by rw [h1.out, hasBad_yes hlt H.out]; rfl, rfl⟩
      · have H : Hid (badB (s[k]'hlt) = true) := Lib.hid (by unfold badB; rw [hz]; rfl)
        rw [hz] at e0
        clear hz e47
        go_wp2
        go_ret
        exact ⟨by rw [h1.out, hasBad_yes hlt H.out]; rfl, rfl⟩
    · obtain rfl : k = s.size := by omega
      have H := HN
      go_wp2
      go_ret
      exact ⟨by rw [h1.out, hasBad_no H.out]; rfl, rfl⟩

end Go.Proofs.YtljamhpdgmelcaaDoor
