/- node.Check tells checkNo of every header; so does the reference. -/
import Derived.Test.YtljamhpdgmelcaaDoorCheck
namespace Go.Proofs.YtljamhpdgmelcaaDoor
open Go.RowKit Go.Proofs
set_option linter.unusedVariables false
set_option linter.unusedSimpArgs false

def NoZero (s : ByteArray) (n : Nat) : Prop := ∀ j (h : j < s.size), j < n → ((s[j]'h) == 0) = false
theorem hasZero_no {s : ByteArray} (h : NoZero s s.size) : hasZero s.data.toList = false := by
  unfold hasZero
  rw [List.any_eq_false]
  intro x hx
  obtain ⟨i, hi, rfl⟩ := List.getElem_of_mem hx
  have : ((s[i]'(by simpa using hi)) == 0) = false := h i (by simpa using hi) (by simpa using hi)
  intro hb
  exact Bool.false_ne_true (this.symm.trans hb)
theorem hasZero_yes {s : ByteArray} {i : Nat} (hi : i < s.size) (h : ((s[i]'hi) == 0) = true) : hasZero s.data.toList = true := by
  unfold hasZero
  rw [List.any_eq_true]
  exact ⟨s[i]'hi, by have : s[i]'hi = s.data.toList[i]'(by simpa using hi) := rfl; rw [this]; exact List.getElem_mem _, h⟩

set_option maxHeartbeats 1000000 in
theorem refTarget_calls (ty : Int) (s : ByteArray) (w : World) :
    Calls Tryd.prog 27 #[.int .i64 ty, .string s] w fun e w' => e = .returned (.bool (tgtOk ty s)) ∧ w = w' := by
  cases ht : (ty == 3)
  · have h1 : (ty != 3) = true := by rw [bne, ht]; rfl
    have hk : Hid (tgtOk ty s = s.toList.isEmpty) := Lib.hid (by unfold tgtOk; rw [ht]; rfl)
    go_enter Tryd.func27, Tryd.ntmps27
    go_wp2
    go_ret
    exact ⟨by rw [hk.out]; rfl, rfl⟩
  have h1 : (ty != 3) = false := by rw [bne, ht]; rfl
  have hk : Hid (tgtOk ty s = (inB s.size 1 127 && !hasZero s.data.toList)) := Lib.hid (by unfold tgtOk; rw [ht]; rfl)
  by_cases hlo : s.size < 1
  · have h2 : decide (s.size < 1) = true := decide_eq_true hlo
    have h2i : decide ((s.size : Int) < 1) = true := decide_eq_true (by omega)
    have h3 : Hid (inB s.size 1 127 = false) := Lib.hid (decide_eq_false (by omega))
    clear hlo
    go_enter Tryd.func27, Tryd.ntmps27
    go_wp2
    go_ret
    exact ⟨by rw [hk.out, h3.out]; rfl, rfl⟩
  have h2 : decide (s.size < 1) = false := decide_eq_false hlo
  have h2i : decide ((s.size : Int) < 1) = false := decide_eq_false (by omega)
  by_cases hhi : 127 < s.size
  · have h2' : decide ((127 : Int) < (s.size : Int)) = true := decide_eq_true (by omega)
    have h3 : Hid (inB s.size 1 127 = false) := Lib.hid (decide_eq_false (by omega))
    go_enter Tryd.func27, Tryd.ntmps27
    go_wp2
    go_ret
    exact ⟨by rw [hk.out, h3.out]; rfl, rfl⟩
  have h2' : decide ((127 : Int) < (s.size : Int)) = false := decide_eq_false (by omega)
  have h3 : Hid (inB s.size 1 127 = true) := Lib.hid (decide_eq_true (by omega))
  go_enter Tryd.func27, Tryd.ntmps27
  go_wp2
  go_loop [5] (fun i => ∃ k : Nat, k ≤ s.size ∧ i = .int .i64 k ∧ Hid (NoZero s k)) (fun i => s.size - (intOf i).toNat)
  case atStart => exact ⟨0, Nat.zero_le _, rfl, Lib.hid (fun j _ h => absurd h (Nat.not_lt_zero _))⟩
  case round =>
    obtain ⟨k, hkk, rfl, HN⟩ := hrel
    by_cases hlt : k < s.size
    · have e0 := byte_zero (b := s[k]'hlt)
      cases hz : (s[k]'hlt == 0)
      · have H := Lib.hid hz
        rw [hz] at e0
        clear hz
        go_wp2
        go_round
        case rel =>
          refine ⟨k + 1, by omega, by go_num, Lib.hid (fun j hj h => ?_)⟩
          by_cases hjp : j < k
          · exact HN.out j hj hjp
          · obtain rfl : j = k := by omega
            exact H.out
        case measure => simp [intOf]; omega
      · have H := Lib.hid hz
        rw [hz] at e0
        clear hz
        go_wp2
        go_ret
        exact ⟨by rw [hk.out, h3.out, hasZero_yes hlt H.out]; rfl, rfl⟩
    · obtain rfl : k = s.size := by omega
      have H := HN
      go_wp2
      go_ret
      exact ⟨by rw [hk.out, h3.out, hasZero_no H.out]; rfl, rfl⟩

set_option maxHeartbeats 1000000 in
theorem r_ty1 (n : Nd) (w : World) (h : n.ty < 1) :
    Calls Tryd.prog 14 #[n.v] w (Told 80 w) := by
  unfold Nd.v
  go_enter Tryd.func14, Tryd.ntmps14
  go_wp2
  go_ret
  exact ⟨rfl, (Below.refl _ _).alloc (Nat.le_refl _) _⟩
set_option maxHeartbeats 1000000 in
theorem r_ty2 (n : Nd) (w : World) (h1 : 1 ≤ n.ty) (h : 3 < n.ty) :
    Calls Tryd.prog 14 #[n.v] w (Told 80 w) := by
  unfold Nd.v
  go_enter Tryd.func14, Tryd.ntmps14
  go_wp2
  go_ret
  exact ⟨rfl, (Below.refl _ _).alloc (Nat.le_refl _) _⟩
set_option maxHeartbeats 1000000 in
theorem r_pa1 (n : Nd) (w : World) (hty1 : 1 ≤ n.ty) (hty2 : n.ty ≤ 3) (h : n.parent < 0) :
    Calls Tryd.prog 14 #[n.v] w (Told 80 w) := by
  unfold Nd.v
  go_enter Tryd.func14, Tryd.ntmps14
  go_wp2
  go_ret
  exact ⟨rfl, (Below.refl _ _).alloc (Nat.le_refl _) _⟩
set_option maxHeartbeats 1000000 in
theorem r_pa2 (n : Nd) (w : World) (hty1 : 1 ≤ n.ty) (hty2 : n.ty ≤ 3) (h1 : 0 ≤ n.parent) (h : 1048575 < n.parent) :
    Calls Tryd.prog 14 #[n.v] w (Told 80 w) := by
  unfold Nd.v
  go_enter Tryd.func14, Tryd.ntmps14
  go_wp2
  go_ret
  exact ⟨rfl, (Below.refl _ _).alloc (Nat.le_refl _) _⟩
set_option maxHeartbeats 1000000 in
theorem r_nm (n : Nd) (w : World) (hty1 : 1 ≤ n.ty) (hty2 : n.ty ≤ 3) (hpa1 : 0 ≤ n.parent) (hpa2 : n.parent ≤ 1048575) (hnm : nameNo n.name.data.toList = 81) :
    Calls Tryd.prog 14 #[n.v] w (Told 81 w) := by
  unfold Nd.v
  go_enter Tryd.func14, Tryd.ntmps14
  go_wp2_with (first | (go_at_call 26; refine (refName_calls _ _).mono ?_; rintro e w' ⟨rfl, rfl⟩; rw [hnm]))
  go_ret
  exact ⟨rfl, (Below.refl _ _).alloc (Nat.le_refl _) _⟩
set_option maxHeartbeats 1000000 in
theorem r_sz1 (n : Nd) (w : World) (hty1 : 1 ≤ n.ty) (hty2 : n.ty ≤ 3) (hpa1 : 0 ≤ n.parent) (hpa2 : n.parent ≤ 1048575) (hnm : nameNo n.name.data.toList = 0) (h : n.size < 0) :
    Calls Tryd.prog 14 #[n.v] w (Told 80 w) := by
  unfold Nd.v
  go_enter Tryd.func14, Tryd.ntmps14
  go_wp2_with (first | (go_at_call 26; refine (refName_calls _ _).mono ?_; rintro e w' ⟨rfl, rfl⟩; rw [hnm]))
  go_ret
  exact ⟨rfl, (Below.refl _ _).alloc (Nat.le_refl _) _⟩
set_option maxHeartbeats 1000000 in
theorem r_sz2 (n : Nd) (w : World) (hty1 : 1 ≤ n.ty) (hty2 : n.ty ≤ 3) (hpa1 : 0 ≤ n.parent) (hpa2 : n.parent ≤ 1048575) (hnm : nameNo n.name.data.toList = 0) (h1 : 0 ≤ n.size) (h : 2147483648 < n.size) :
    Calls Tryd.prog 14 #[n.v] w (Told 80 w) := by
  unfold Nd.v
  go_enter Tryd.func14, Tryd.ntmps14
  go_wp2_with (first | (go_at_call 26; refine (refName_calls _ _).mono ?_; rintro e w' ⟨rfl, rfl⟩; rw [hnm]))
  go_ret
  exact ⟨rfl, (Below.refl _ _).alloc (Nat.le_refl _) _⟩
set_option maxHeartbeats 1000000 in
theorem r_szn (n : Nd) (w : World) (hty1 : 1 ≤ n.ty) (hty2 : n.ty ≤ 3) (hpa1 : 0 ≤ n.parent) (hpa2 : n.parent ≤ 1048575) (hnm : nameNo n.name.data.toList = 0) (hsz1 : 0 ≤ n.size) (hsz2 : n.size ≤ 2147483648) (ht1 : (n.ty != 1) = true) (h : (n.size != 0) = true) :
    Calls Tryd.prog 14 #[n.v] w (Told 80 w) := by
  unfold Nd.v
  go_enter Tryd.func14, Tryd.ntmps14
  go_wp2_with (first | (go_at_call 26; refine (refName_calls _ _).mono ?_; rintro e w' ⟨rfl, rfl⟩; rw [hnm]))
  go_ret
  exact ⟨rfl, (Below.refl _ _).alloc (Nat.le_refl _) _⟩
set_option maxHeartbeats 1000000 in
theorem r_mo1a (n : Nd) (w : World) (hty1 : 1 ≤ n.ty) (hty2 : n.ty ≤ 3) (hpa1 : 0 ≤ n.parent) (hpa2 : n.parent ≤ 1048575) (hnm : nameNo n.name.data.toList = 0) (hsz1 : 0 ≤ n.size) (hsz2 : n.size ≤ 2147483648) (ht1 : (n.ty != 1) = false) (h : n.mode < 0) :
    Calls Tryd.prog 14 #[n.v] w (Told 80 w) := by
  unfold Nd.v
  go_enter Tryd.func14, Tryd.ntmps14
  go_wp2_with (first | (go_at_call 26; refine (refName_calls _ _).mono ?_; rintro e w' ⟨rfl, rfl⟩; rw [hnm]))
  go_ret
  exact ⟨rfl, (Below.refl _ _).alloc (Nat.le_refl _) _⟩
set_option maxHeartbeats 1000000 in
theorem r_mo2a (n : Nd) (w : World) (hty1 : 1 ≤ n.ty) (hty2 : n.ty ≤ 3) (hpa1 : 0 ≤ n.parent) (hpa2 : n.parent ≤ 1048575) (hnm : nameNo n.name.data.toList = 0) (hsz1 : 0 ≤ n.size) (hsz2 : n.size ≤ 2147483648) (ht1 : (n.ty != 1) = false) (h1 : 0 ≤ n.mode) (h : 4095 < n.mode) :
    Calls Tryd.prog 14 #[n.v] w (Told 80 w) := by
  unfold Nd.v
  go_enter Tryd.func14, Tryd.ntmps14
  go_wp2_with (first | (go_at_call 26; refine (refName_calls _ _).mono ?_; rintro e w' ⟨rfl, rfl⟩; rw [hnm]))
  go_ret
  exact ⟨rfl, (Below.refl _ _).alloc (Nat.le_refl _) _⟩
set_option maxHeartbeats 1000000 in
theorem r_sh1a (n : Nd) (w : World) (hty1 : 1 ≤ n.ty) (hty2 : n.ty ≤ 3) (hpa1 : 0 ≤ n.parent) (hpa2 : n.parent ≤ 1048575) (hnm : nameNo n.name.data.toList = 0) (hsz1 : 0 ≤ n.size) (hsz2 : n.size ≤ 2147483648) (ht1 : (n.ty != 1) = false) (hmo1 : 0 ≤ n.mode) (hmo2 : n.mode ≤ 4095) (h : n.shadow < 0) :
    Calls Tryd.prog 14 #[n.v] w (Told 80 w) := by
  unfold Nd.v
  go_enter Tryd.func14, Tryd.ntmps14
  go_wp2_with (first | (go_at_call 26; refine (refName_calls _ _).mono ?_; rintro e w' ⟨rfl, rfl⟩; rw [hnm]))
  go_ret
  exact ⟨rfl, (Below.refl _ _).alloc (Nat.le_refl _) _⟩
set_option maxHeartbeats 1000000 in
theorem r_sh2a (n : Nd) (w : World) (hty1 : 1 ≤ n.ty) (hty2 : n.ty ≤ 3) (hpa1 : 0 ≤ n.parent) (hpa2 : n.parent ≤ 1048575) (hnm : nameNo n.name.data.toList = 0) (hsz1 : 0 ≤ n.size) (hsz2 : n.size ≤ 2147483648) (ht1 : (n.ty != 1) = false) (hmo1 : 0 ≤ n.mode) (hmo2 : n.mode ≤ 4095) (h1 : 0 ≤ n.shadow) (h : (n.shadow == 1) = true) :
    Calls Tryd.prog 14 #[n.v] w (Told 80 w) := by
  unfold Nd.v
  go_enter Tryd.func14, Tryd.ntmps14
  go_wp2_with (first | (go_at_call 26; refine (refName_calls _ _).mono ?_; rintro e w' ⟨rfl, rfl⟩; rw [hnm]))
  go_ret
  exact ⟨rfl, (Below.refl _ _).alloc (Nat.le_refl _) _⟩
set_option maxHeartbeats 1000000 in
theorem r_sh3a (n : Nd) (w : World) (hty1 : 1 ≤ n.ty) (hty2 : n.ty ≤ 3) (hpa1 : 0 ≤ n.parent) (hpa2 : n.parent ≤ 1048575) (hnm : nameNo n.name.data.toList = 0) (hsz1 : 0 ≤ n.size) (hsz2 : n.size ≤ 2147483648) (ht1 : (n.ty != 1) = false) (hmo1 : 0 ≤ n.mode) (hmo2 : n.mode ≤ 4095) (h1 : 0 ≤ n.shadow) (h2 : (n.shadow == 1) = false) (h : 1048575 < n.shadow) :
    Calls Tryd.prog 14 #[n.v] w (Told 80 w) := by
  unfold Nd.v
  go_enter Tryd.func14, Tryd.ntmps14
  go_wp2_with (first | (go_at_call 26; refine (refName_calls _ _).mono ?_; rintro e w' ⟨rfl, rfl⟩; rw [hnm]))
  go_ret
  exact ⟨rfl, (Below.refl _ _).alloc (Nat.le_refl _) _⟩
set_option maxHeartbeats 1000000 in
theorem r_tfa (n : Nd) (w : World) (hty1 : 1 ≤ n.ty) (hty2 : n.ty ≤ 3) (hpa1 : 0 ≤ n.parent) (hpa2 : n.parent ≤ 1048575) (hnm : nameNo n.name.data.toList = 0) (hsz1 : 0 ≤ n.size) (hsz2 : n.size ≤ 2147483648) (ht1 : (n.ty != 1) = false) (hmo1 : 0 ≤ n.mode) (hmo2 : n.mode ≤ 4095) (hsh1 : 0 ≤ n.shadow) (hsh2 : (n.shadow == 1) = false) (hsh3 : n.shadow ≤ 1048575) (htg : tgtOk n.ty n.target = false) :
    Calls Tryd.prog 14 #[n.v] w (Told 82 w) := by
  unfold Nd.v
  go_enter Tryd.func14, Tryd.ntmps14
  go_wp2_with (first | (go_at_call 26; refine (refName_calls _ _).mono ?_; rintro e w' ⟨rfl, rfl⟩; rw [hnm]) | (go_at_call 27; refine (refTarget_calls _ _ _).mono ?_; rintro e w' ⟨rfl, rfl⟩; rw [htg]))
  go_ret
  exact ⟨rfl, (Below.refl _ _).alloc (Nat.le_refl _) _⟩
set_option maxHeartbeats 1000000 in
theorem r_tta (n : Nd) (w : World) (hty1 : 1 ≤ n.ty) (hty2 : n.ty ≤ 3) (hpa1 : 0 ≤ n.parent) (hpa2 : n.parent ≤ 1048575) (hnm : nameNo n.name.data.toList = 0) (hsz1 : 0 ≤ n.size) (hsz2 : n.size ≤ 2147483648) (ht1 : (n.ty != 1) = false) (hmo1 : 0 ≤ n.mode) (hmo2 : n.mode ≤ 4095) (hsh1 : 0 ≤ n.shadow) (hsh2 : (n.shadow == 1) = false) (hsh3 : n.shadow ≤ 1048575) (htg : tgtOk n.ty n.target = true) :
    Calls Tryd.prog 14 #[n.v] w (Told 0 w) := by
  unfold Nd.v
  go_enter Tryd.func14, Tryd.ntmps14
  go_wp2_with (first | (go_at_call 26; refine (refName_calls _ _).mono ?_; rintro e w' ⟨rfl, rfl⟩; rw [hnm]) | (go_at_call 27; refine (refTarget_calls _ _ _).mono ?_; rintro e w' ⟨rfl, rfl⟩; rw [htg]))
  go_ret
  exact ⟨rfl, (Below.refl _ _).alloc (Nat.le_refl _) _⟩
set_option maxHeartbeats 1000000 in
theorem r_mo1b (n : Nd) (w : World) (hty1 : 1 ≤ n.ty) (hty2 : n.ty ≤ 3) (hpa1 : 0 ≤ n.parent) (hpa2 : n.parent ≤ 1048575) (hnm : nameNo n.name.data.toList = 0) (hsz1 : 0 ≤ n.size) (hsz2 : n.size ≤ 2147483648) (ht1 : (n.ty != 1) = true) (hs0 : (n.size != 0) = false) (h : n.mode < 0) :
    Calls Tryd.prog 14 #[n.v] w (Told 80 w) := by
  unfold Nd.v
  go_enter Tryd.func14, Tryd.ntmps14
  go_wp2_with (first | (go_at_call 26; refine (refName_calls _ _).mono ?_; rintro e w' ⟨rfl, rfl⟩; rw [hnm]))
  go_ret
  exact ⟨rfl, (Below.refl _ _).alloc (Nat.le_refl _) _⟩
set_option maxHeartbeats 1000000 in
theorem r_mo2b (n : Nd) (w : World) (hty1 : 1 ≤ n.ty) (hty2 : n.ty ≤ 3) (hpa1 : 0 ≤ n.parent) (hpa2 : n.parent ≤ 1048575) (hnm : nameNo n.name.data.toList = 0) (hsz1 : 0 ≤ n.size) (hsz2 : n.size ≤ 2147483648) (ht1 : (n.ty != 1) = true) (hs0 : (n.size != 0) = false) (h1 : 0 ≤ n.mode) (h : 4095 < n.mode) :
    Calls Tryd.prog 14 #[n.v] w (Told 80 w) := by
  unfold Nd.v
  go_enter Tryd.func14, Tryd.ntmps14
  go_wp2_with (first | (go_at_call 26; refine (refName_calls _ _).mono ?_; rintro e w' ⟨rfl, rfl⟩; rw [hnm]))
  go_ret
  exact ⟨rfl, (Below.refl _ _).alloc (Nat.le_refl _) _⟩
set_option maxHeartbeats 1000000 in
theorem r_sh1b (n : Nd) (w : World) (hty1 : 1 ≤ n.ty) (hty2 : n.ty ≤ 3) (hpa1 : 0 ≤ n.parent) (hpa2 : n.parent ≤ 1048575) (hnm : nameNo n.name.data.toList = 0) (hsz1 : 0 ≤ n.size) (hsz2 : n.size ≤ 2147483648) (ht1 : (n.ty != 1) = true) (hs0 : (n.size != 0) = false) (hmo1 : 0 ≤ n.mode) (hmo2 : n.mode ≤ 4095) (h : n.shadow < 0) :
    Calls Tryd.prog 14 #[n.v] w (Told 80 w) := by
  unfold Nd.v
  go_enter Tryd.func14, Tryd.ntmps14
  go_wp2_with (first | (go_at_call 26; refine (refName_calls _ _).mono ?_; rintro e w' ⟨rfl, rfl⟩; rw [hnm]))
  go_ret
  exact ⟨rfl, (Below.refl _ _).alloc (Nat.le_refl _) _⟩
set_option maxHeartbeats 1000000 in
theorem r_sh2b (n : Nd) (w : World) (hty1 : 1 ≤ n.ty) (hty2 : n.ty ≤ 3) (hpa1 : 0 ≤ n.parent) (hpa2 : n.parent ≤ 1048575) (hnm : nameNo n.name.data.toList = 0) (hsz1 : 0 ≤ n.size) (hsz2 : n.size ≤ 2147483648) (ht1 : (n.ty != 1) = true) (hs0 : (n.size != 0) = false) (hmo1 : 0 ≤ n.mode) (hmo2 : n.mode ≤ 4095) (h1 : 0 ≤ n.shadow) (h : (n.shadow == 1) = true) :
    Calls Tryd.prog 14 #[n.v] w (Told 80 w) := by
  unfold Nd.v
  go_enter Tryd.func14, Tryd.ntmps14
  go_wp2_with (first | (go_at_call 26; refine (refName_calls _ _).mono ?_; rintro e w' ⟨rfl, rfl⟩; rw [hnm]))
  go_ret
  exact ⟨rfl, (Below.refl _ _).alloc (Nat.le_refl _) _⟩
set_option maxHeartbeats 1000000 in
theorem r_sh3b (n : Nd) (w : World) (hty1 : 1 ≤ n.ty) (hty2 : n.ty ≤ 3) (hpa1 : 0 ≤ n.parent) (hpa2 : n.parent ≤ 1048575) (hnm : nameNo n.name.data.toList = 0) (hsz1 : 0 ≤ n.size) (hsz2 : n.size ≤ 2147483648) (ht1 : (n.ty != 1) = true) (hs0 : (n.size != 0) = false) (hmo1 : 0 ≤ n.mode) (hmo2 : n.mode ≤ 4095) (h1 : 0 ≤ n.shadow) (h2 : (n.shadow == 1) = false) (h : 1048575 < n.shadow) :
    Calls Tryd.prog 14 #[n.v] w (Told 80 w) := by
  unfold Nd.v
  go_enter Tryd.func14, Tryd.ntmps14
  go_wp2_with (first | (go_at_call 26; refine (refName_calls _ _).mono ?_; rintro e w' ⟨rfl, rfl⟩; rw [hnm]))
  go_ret
  exact ⟨rfl, (Below.refl _ _).alloc (Nat.le_refl _) _⟩
set_option maxHeartbeats 1000000 in
theorem r_tfb (n : Nd) (w : World) (hty1 : 1 ≤ n.ty) (hty2 : n.ty ≤ 3) (hpa1 : 0 ≤ n.parent) (hpa2 : n.parent ≤ 1048575) (hnm : nameNo n.name.data.toList = 0) (hsz1 : 0 ≤ n.size) (hsz2 : n.size ≤ 2147483648) (ht1 : (n.ty != 1) = true) (hs0 : (n.size != 0) = false) (hmo1 : 0 ≤ n.mode) (hmo2 : n.mode ≤ 4095) (hsh1 : 0 ≤ n.shadow) (hsh2 : (n.shadow == 1) = false) (hsh3 : n.shadow ≤ 1048575) (htg : tgtOk n.ty n.target = false) :
    Calls Tryd.prog 14 #[n.v] w (Told 82 w) := by
  unfold Nd.v
  go_enter Tryd.func14, Tryd.ntmps14
  go_wp2_with (first | (go_at_call 26; refine (refName_calls _ _).mono ?_; rintro e w' ⟨rfl, rfl⟩; rw [hnm]) | (go_at_call 27; refine (refTarget_calls _ _ _).mono ?_; rintro e w' ⟨rfl, rfl⟩; rw [htg]))
  go_ret
  exact ⟨rfl, (Below.refl _ _).alloc (Nat.le_refl _) _⟩
set_option maxHeartbeats 1000000 in
theorem r_ttb (n : Nd) (w : World) (hty1 : 1 ≤ n.ty) (hty2 : n.ty ≤ 3) (hpa1 : 0 ≤ n.parent) (hpa2 : n.parent ≤ 1048575) (hnm : nameNo n.name.data.toList = 0) (hsz1 : 0 ≤ n.size) (hsz2 : n.size ≤ 2147483648) (ht1 : (n.ty != 1) = true) (hs0 : (n.size != 0) = false) (hmo1 : 0 ≤ n.mode) (hmo2 : n.mode ≤ 4095) (hsh1 : 0 ≤ n.shadow) (hsh2 : (n.shadow == 1) = false) (hsh3 : n.shadow ≤ 1048575) (htg : tgtOk n.ty n.target = true) :
    Calls Tryd.prog 14 #[n.v] w (Told 0 w) := by
  unfold Nd.v
  go_enter Tryd.func14, Tryd.ntmps14
  go_wp2_with (first | (go_at_call 26; refine (refName_calls _ _).mono ?_; rintro e w' ⟨rfl, rfl⟩; rw [hnm]) | (go_at_call 27; refine (refTarget_calls _ _ _).mono ?_; rintro e w' ⟨rfl, rfl⟩; rw [htg]))
  go_ret
  exact ⟨rfl, (Below.refl _ _).alloc (Nat.le_refl _) _⟩

theorem refCheck_calls (n : Nd) (w : World) : Calls Tryd.prog 14 #[n.v] w (Told (checkNo n) w) := by
  by_cases hty1 : 1 ≤ n.ty
  case neg => exact told_mono (r_ty1 n w (by omega)) (by have : inB n.ty 1 3 = false := decide_eq_false (by omega); simp [checkNo, this])
  by_cases hty2 : n.ty ≤ 3
  case neg => exact told_mono (r_ty2 n w hty1 (by omega)) (by have : inB n.ty 1 3 = false := decide_eq_false (by omega); simp [checkNo, this])
  have ety : inB n.ty 1 3 = true := decide_eq_true ⟨hty1, hty2⟩
  by_cases hpa1 : 0 ≤ n.parent
  case neg => exact told_mono (r_pa1 n w hty1 hty2 (by omega)) (by have : inB n.parent 0 1048575 = false := decide_eq_false (by omega); simp [checkNo, this])
  by_cases hpa2 : n.parent ≤ 1048575
  case neg => exact told_mono (r_pa2 n w hty1 hty2 hpa1 (by omega)) (by have : inB n.parent 0 1048575 = false := decide_eq_false (by omega); simp [checkNo, this])
  have epa : inB n.parent 0 1048575 = true := decide_eq_true ⟨hpa1, hpa2⟩
  rcases nameNo_two n.name.data.toList with hnm | hnm
  case inr => exact told_mono (r_nm n w hty1 hty2 hpa1 hpa2 hnm) (by simp [checkNo, ety, epa, hnm])
  have any80 : (inB n.size 0 (if n.ty == 1 then 2147483648 else 0) && inB n.mode 0 4095 && (n.shadow == 0 || inB n.shadow 2 1048575)) = false → (80 : Int) = checkNo n := by
    intro h
    unfold checkNo
    rw [ety, epa, hnm]
    have : (!inB n.size 0 (if n.ty == 1 then 2147483648 else 0) || !inB n.mode 0 4095 || (n.shadow != 0 && !inB n.shadow 2 1048575)) = true := by
      rw [bne]
      revert h
      cases inB n.size 0 (if n.ty == 1 then 2147483648 else 0) <;> cases inB n.mode 0 4095 <;> cases (n.shadow == 0) <;> cases inB n.shadow 2 1048575 <;> decide
    rw [this]
    rfl
  have szbad : ∀ x : Int, n.size < 0 ∨ x < n.size → inB n.size 0 x = false := fun x h => decide_eq_false (by omega)
  by_cases hsz1 : 0 ≤ n.size
  case neg => exact told_mono (r_sz1 n w hty1 hty2 hpa1 hpa2 hnm (by omega)) (any80 (by rw [szbad _ (by omega)]; rfl))
  by_cases hsz2 : n.size ≤ 2147483648
  case neg => exact told_mono (r_sz2 n w hty1 hty2 hpa1 hpa2 hnm hsz1 (by omega)) (any80 (by rw [szbad _ (by split <;> omega)]; rfl))
  have mobad : n.mode < 0 ∨ 4095 < n.mode → (80 : Int) = checkNo n := fun h => any80 (by rw [show inB n.mode 0 4095 = false from decide_eq_false (by omega), Bool.and_false]; rfl)
  have shbad : n.shadow < 0 ∨ n.shadow = 1 ∨ 1048575 < n.shadow → (80 : Int) = checkNo n := fun h => any80 (by rw [show inB n.shadow 2 1048575 = false from decide_eq_false (by omega), show (n.shadow == 0) = false from beq_eq_false_iff_ne.2 (by omega)]; exact Bool.and_false _)
  have fin : inB n.size 0 (if n.ty == 1 then 2147483648 else 0) = true → inB n.mode 0 4095 = true → (n.shadow == 0 || inB n.shadow 2 1048575) = true → checkNo n = if tgtOk n.ty n.target then 0 else 82 := by
    intro a b c
    unfold checkNo
    rw [ety, epa, hnm, a, b]
    have : (n.shadow != 0 && !inB n.shadow 2 1048575) = false := by
      rw [bne]
      revert c
      cases (n.shadow == 0) <;> cases inB n.shadow 2 1048575 <;> decide
    rw [this]
    rfl
  have shok : 0 ≤ n.shadow → (n.shadow == 1) = false → n.shadow ≤ 1048575 → (n.shadow == 0 || inB n.shadow 2 1048575) = true := by
    intro a b c
    have b' := beq_eq_false_iff_ne.1 b
    by_cases h0 : n.shadow = 0
    · rw [h0]; rfl
    · rw [show inB n.shadow 2 1048575 = true from decide_eq_true (by omega)]; exact Bool.or_true _
  cases ht1 : (n.ty != 1)
  · have et : (n.ty == 1) = true := by rw [bne, Bool.not_eq_false'] at ht1; exact ht1
    have esz : inB n.size 0 (if n.ty == 1 then 2147483648 else 0) = true := by rw [et]; exact decide_eq_true ⟨hsz1, hsz2⟩
    by_cases hmo1 : 0 ≤ n.mode
    case neg => exact told_mono (r_mo1a n w hty1 hty2 hpa1 hpa2 hnm hsz1 hsz2 ht1 (by omega)) (mobad (by omega))
    by_cases hmo2 : n.mode ≤ 4095
    case neg => exact told_mono (r_mo2a n w hty1 hty2 hpa1 hpa2 hnm hsz1 hsz2 ht1 hmo1 (by omega)) (mobad (by omega))
    by_cases hsh1 : 0 ≤ n.shadow
    case neg => exact told_mono (r_sh1a n w hty1 hty2 hpa1 hpa2 hnm hsz1 hsz2 ht1 hmo1 hmo2 (by omega)) (shbad (by omega))
    cases hsh2 : (n.shadow == 1)
    case true => exact told_mono (r_sh2a n w hty1 hty2 hpa1 hpa2 hnm hsz1 hsz2 ht1 hmo1 hmo2 hsh1 hsh2) (shbad (by have := beq_iff_eq.1 hsh2; omega))
    by_cases hsh3 : n.shadow ≤ 1048575
    case neg => exact told_mono (r_sh3a n w hty1 hty2 hpa1 hpa2 hnm hsz1 hsz2 ht1 hmo1 hmo2 hsh1 hsh2 (by omega)) (shbad (by omega))
    have ef := fin esz (decide_eq_true ⟨hmo1, hmo2⟩) (shok hsh1 hsh2 hsh3)
    cases htg : tgtOk n.ty n.target
    · exact told_mono (r_tfa n w hty1 hty2 hpa1 hpa2 hnm hsz1 hsz2 ht1 hmo1 hmo2 hsh1 hsh2 hsh3 htg) (by rw [ef, htg]; rfl)
    · exact told_mono (r_tta n w hty1 hty2 hpa1 hpa2 hnm hsz1 hsz2 ht1 hmo1 hmo2 hsh1 hsh2 hsh3 htg) (by rw [ef, htg]; rfl)
  · have et : (n.ty == 1) = false := by rw [bne, Bool.not_eq_true'] at ht1; exact ht1
    cases hs0 : (n.size != 0)
    case true => exact told_mono (r_szn n w hty1 hty2 hpa1 hpa2 hnm hsz1 hsz2 ht1 hs0) (any80 (by have := bne_iff_ne.1 hs0; rw [et, szbad _ (by right; show (0 : Int) < n.size; omega)]; rfl))
    have esz : inB n.size 0 (if n.ty == 1 then 2147483648 else 0) = true := by
      have : n.size = 0 := by simpa using hs0
      rw [et, this]; rfl
    by_cases hmo1 : 0 ≤ n.mode
    case neg => exact told_mono (r_mo1b n w hty1 hty2 hpa1 hpa2 hnm hsz1 hsz2 ht1 hs0 (by omega)) (mobad (by omega))
    by_cases hmo2 : n.mode ≤ 4095
    case neg => exact told_mono (r_mo2b n w hty1 hty2 hpa1 hpa2 hnm hsz1 hsz2 ht1 hs0 hmo1 (by omega)) (mobad (by omega))
    by_cases hsh1 : 0 ≤ n.shadow
    case neg => exact told_mono (r_sh1b n w hty1 hty2 hpa1 hpa2 hnm hsz1 hsz2 ht1 hs0 hmo1 hmo2 (by omega)) (shbad (by omega))
    cases hsh2 : (n.shadow == 1)
    case true => exact told_mono (r_sh2b n w hty1 hty2 hpa1 hpa2 hnm hsz1 hsz2 ht1 hs0 hmo1 hmo2 hsh1 hsh2) (shbad (by have := beq_iff_eq.1 hsh2; omega))
    by_cases hsh3 : n.shadow ≤ 1048575
    case neg => exact told_mono (r_sh3b n w hty1 hty2 hpa1 hpa2 hnm hsz1 hsz2 ht1 hs0 hmo1 hmo2 hsh1 hsh2 (by omega)) (shbad (by omega))
    have ef := fin esz (decide_eq_true ⟨hmo1, hmo2⟩) (shok hsh1 hsh2 hsh3)
    cases htg : tgtOk n.ty n.target
    · exact told_mono (r_tfb n w hty1 hty2 hpa1 hpa2 hnm hsz1 hsz2 ht1 hs0 hmo1 hmo2 hsh1 hsh2 hsh3 htg) (by rw [ef, htg]; rfl)
    · exact told_mono (r_ttb n w hty1 hty2 hpa1 hpa2 hnm hsz1 hsz2 ht1 hs0 hmo1 hmo2 hsh1 hsh2 hsh3 htg) (by rw [ef, htg]; rfl)

end Go.Proofs.YtljamhpdgmelcaaDoor

