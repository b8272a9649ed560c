/- node.Check and the reference's Check tell the same of every header. -/
import Derived.Test.YtljamhpdgmelcaaDoorName
import Derived.Lib.SmallJoins
namespace Go.Proofs.YtljamhpdgmelcaaDoor
open Go.RowKit Go.Proofs
set_option linter.unusedVariables false
set_option linter.unusedSimpArgs false

theorem bcell {W w1 : World} (hb : Below W.heap.size W w1) : (∀ b o, b < W.heap.size → w1.cell? ⟨b, o, none⟩ = W.cell? ⟨b, o, none⟩) ∧ (∀ b o, b < W.heap.size → w1.frozen? ⟨b, o, none⟩ = W.frozen? ⟨b, o, none⟩) :=
  ⟨fun b o h => hb.cell (p := ⟨b, o, none⟩) h, fun b o h => hb.frozen (p := ⟨b, o, none⟩) h⟩

/-- A header as the program has it. -/
structure Nd where
  ty : Int
  parent : Int
  name : ByteArray
  size : Int
  mode : Int
  stamp : Int
  shadow : Int
  target : ByteArray
def Nd.v (n : Nd) : Value := .agg #[.int .i64 n.ty, .int .i64 n.parent, .string n.name, .int .i64 n.size, .int .i64 n.mode, .int .u64 n.stamp, .int .i64 n.shadow, .string n.target]

def inB (a lo hi : Int) : Bool := decide (lo ≤ a ∧ a ≤ hi)
def hasZero (l : List UInt8) : Bool := l.any (· == 0)
def tgtOk (ty : Int) (t : ByteArray) : Bool := if ty == 3 then inB t.size 1 127 && !hasZero t.data.toList else t.toList.isEmpty
def checkNo (n : Nd) : Int :=
  if !inB n.ty 1 3 || !inB n.parent 0 1048575 then 80 else if nameNo n.name.data.toList == 81 then 81 else
  if !inB n.size 0 (if n.ty == 1 then 2147483648 else 0) || !inB n.mode 0 4095 || (n.shadow != 0 && !inB n.shadow 2 1048575) then 80 else
  if tgtOk n.ty n.target then 0 else 82

theorem nameNo_two (l : List UInt8) : nameNo l = 0 ∨ nameNo l = 81 := by unfold nameNo; split; exact .inl rfl; exact .inr rfl

theorem in_calls (a lo hi : Int) (w : World) : Calls Tryd.prog 28 #[.int .i64 a, .int .i64 lo, .int .i64 hi] w fun e w' => e = .returned (.bool (inB a lo hi)) ∧ w = w' := by
  by_cases h1 : lo ≤ a
  · have h2 : decide (lo ≤ a) = true := decide_eq_true h1
    by_cases h3 : a ≤ hi
    · have h4 : decide (a ≤ hi) = true := decide_eq_true h3
      have h5 : inB a lo hi = true := decide_eq_true ⟨h1, h3⟩
      rw [h5]
      clear h1 h3 h5
      go_enter Tryd.func28, Tryd.ntmps28
      go_wp2
      go_ret
      exact ⟨rfl, rfl⟩
    · have h4 : decide (a ≤ hi) = false := decide_eq_false h3
      have h5 : inB a lo hi = false := decide_eq_false (fun h => h3 h.2)
      rw [h5]
      clear h1 h3 h5
      go_enter Tryd.func28, Tryd.ntmps28
      go_wp2
      go_ret
      exact ⟨rfl, rfl⟩
  · have h2 : decide (lo ≤ a) = false := decide_eq_false h1
    have h5 : inB a lo hi = false := decide_eq_false (fun h => h1 h.1)
    rw [h5]
    clear h1 h5
    go_enter Tryd.func28, Tryd.ntmps28
    go_wp2
    go_ret
    exact ⟨rfl, rfl⟩

theorem zero_index : ∀ l : List UInt8, decide (0 ≤ Lib.indexByte l 0) = hasZero l
  | [] => rfl
  | b :: l => by
    have ih := zero_index l
    have hge := Lib.indexByte_ge l 0
    unfold hasZero at ih ⊢
    rw [List.any_cons, Lib.indexByte]
    cases hb : b == 0
    · rw [if_neg (by simp), Bool.false_or, ← ih]
      by_cases h1 : Lib.indexByte l 0 = -1
      · rw [if_pos (by rw [h1]; rfl), h1]
      · rw [if_neg (by rw [beq_iff_eq]; exact h1)]
        rw [decide_eq_true (by omega), decide_eq_true (by omega)]
    · rw [if_pos rfl]; rfl

def Told (k : Int) (w : World) (e : Ending) (w' : World) : Prop := e = .returned (.int .i64 k) ∧ Below w.heap.size w w'

set_option maxHeartbeats 1000000 in
theorem c_ty (n : Nd) (w : World) (hty : (inB n.ty 1 3) = false) :
    Calls Tryd.prog 15 #[n.v] w (Told 80 w) := by
  unfold Nd.v
  go_enter Tryd.func15, Tryd.ntmps15
  go_wp2_with (first | (go_at_call 28; refine (in_calls _ _ _ _).mono ?_; rintro e w' ⟨rfl, rfl⟩) | (go_at_call 29; refine (name_calls _ _).mono ?_; rintro e w1 ⟨rfl, hb⟩; obtain ⟨hc, hf⟩ := bcell hb; have hB := Lib.hid hb; clear hb hf) | (go_at_call 30; refine (Tryd.strings_Contains_one _ _ _).mono ?_; rintro e w' ⟨rfl, hw⟩; rw [hw, zero_index]))
  go_ret
  exact ⟨rfl, (Below.refl _ _).alloc (Nat.le_refl _) _⟩
set_option maxHeartbeats 1000000 in
theorem c_pa (n : Nd) (w : World) (hty : (inB n.ty 1 3) = true) (hpa : (inB n.parent 0 1048575) = false) :
    Calls Tryd.prog 15 #[n.v] w (Told 80 w) := by
  unfold Nd.v
  go_enter Tryd.func15, Tryd.ntmps15
  go_wp2_with (first | (go_at_call 28; refine (in_calls _ _ _ _).mono ?_; rintro e w' ⟨rfl, rfl⟩) | (go_at_call 29; refine (name_calls _ _).mono ?_; rintro e w1 ⟨rfl, hb⟩; obtain ⟨hc, hf⟩ := bcell hb; have hB := Lib.hid hb; clear hb hf) | (go_at_call 30; refine (Tryd.strings_Contains_one _ _ _).mono ?_; rintro e w' ⟨rfl, hw⟩; rw [hw, zero_index]))
  go_ret
  exact ⟨rfl, (Below.refl _ _).alloc (Nat.le_refl _) _⟩
set_option maxHeartbeats 1000000 in
theorem c_nm (n : Nd) (w : World) (hty : (inB n.ty 1 3) = true) (hpa : (inB n.parent 0 1048575) = true) (hnm : nameNo n.name.data.toList = 81) :
    Calls Tryd.prog 15 #[n.v] w (Told 81 w) := by
  unfold Nd.v
  go_enter Tryd.func15, Tryd.ntmps15
  go_wp2_with (first | (go_at_call 28; refine (in_calls _ _ _ _).mono ?_; rintro e w' ⟨rfl, rfl⟩) | (go_at_call 29; refine (name_calls _ _).mono ?_; rintro e w1 ⟨rfl, hb⟩; obtain ⟨hc, hf⟩ := bcell hb; have hB := Lib.hid hb; clear hb hf) | (go_at_call 30; refine (Tryd.strings_Contains_one _ _ _).mono ?_; rintro e w' ⟨rfl, hw⟩; rw [hw, zero_index]))
  go_ret
  exact ⟨rfl, ((Below.refl _ _).alloc (Nat.le_refl _) _).trans (hB.out.mono (by simp))⟩
set_option maxHeartbeats 1000000 in
theorem c_sza (n : Nd) (w : World) (hty : (inB n.ty 1 3) = true) (hpa : (inB n.parent 0 1048575) = true) (hnm : nameNo n.name.data.toList = 0) (ht1 : (n.ty == 1) = true) (ht3 : (n.ty == 3) = false) (hsz1 : (inB n.size 0 2147483648) = false) :
    Calls Tryd.prog 15 #[n.v] w (Told 80 w) := by
  unfold Nd.v
  go_enter Tryd.func15, Tryd.ntmps15
  go_wp2_with (first | (go_at_call 28; refine (in_calls _ _ _ _).mono ?_; rintro e w' ⟨rfl, rfl⟩) | (go_at_call 29; refine (name_calls _ _).mono ?_; rintro e w1 ⟨rfl, hb⟩; obtain ⟨hc, hf⟩ := bcell hb; have hB := Lib.hid hb; clear hb hf) | (go_at_call 30; refine (Tryd.strings_Contains_one _ _ _).mono ?_; rintro e w' ⟨rfl, hw⟩; rw [hw, zero_index]))
  go_ret
  exact ⟨rfl, ((Below.refl _ _).alloc (Nat.le_refl _) _).trans (hB.out.mono (by simp))⟩
set_option maxHeartbeats 1000000 in
theorem c_moa (n : Nd) (w : World) (hty : (inB n.ty 1 3) = true) (hpa : (inB n.parent 0 1048575) = true) (hnm : nameNo n.name.data.toList = 0) (ht1 : (n.ty == 1) = true) (ht3 : (n.ty == 3) = false) (hsz1 : (inB n.size 0 2147483648) = true) (hmo : (inB n.mode 0 4095) = false) :
    Calls Tryd.prog 15 #[n.v] w (Told 80 w) := by
  unfold Nd.v
  go_enter Tryd.func15, Tryd.ntmps15
  go_wp2_with (first | (go_at_call 28; refine (in_calls _ _ _ _).mono ?_; rintro e w' ⟨rfl, rfl⟩) | (go_at_call 29; refine (name_calls _ _).mono ?_; rintro e w1 ⟨rfl, hb⟩; obtain ⟨hc, hf⟩ := bcell hb; have hB := Lib.hid hb; clear hb hf) | (go_at_call 30; refine (Tryd.strings_Contains_one _ _ _).mono ?_; rintro e w' ⟨rfl, hw⟩; rw [hw, zero_index]))
  go_ret
  exact ⟨rfl, ((Below.refl _ _).alloc (Nat.le_refl _) _).trans (hB.out.mono (by simp))⟩
set_option maxHeartbeats 1000000 in
theorem c_sha (n : Nd) (w : World) (hty : (inB n.ty 1 3) = true) (hpa : (inB n.parent 0 1048575) = true) (hnm : nameNo n.name.data.toList = 0) (ht1 : (n.ty == 1) = true) (ht3 : (n.ty == 3) = false) (hsz1 : (inB n.size 0 2147483648) = true) (hmo : (inB n.mode 0 4095) = true) (hs0 : (n.shadow != 0) = true) (hsh : (inB n.shadow 2 1048575) = false) :
    Calls Tryd.prog 15 #[n.v] w (Told 80 w) := by
  unfold Nd.v
  go_enter Tryd.func15, Tryd.ntmps15
  go_wp2_with (first | (go_at_call 28; refine (in_calls _ _ _ _).mono ?_; rintro e w' ⟨rfl, rfl⟩) | (go_at_call 29; refine (name_calls _ _).mono ?_; rintro e w1 ⟨rfl, hb⟩; obtain ⟨hc, hf⟩ := bcell hb; have hB := Lib.hid hb; clear hb hf) | (go_at_call 30; refine (Tryd.strings_Contains_one _ _ _).mono ?_; rintro e w' ⟨rfl, hw⟩; rw [hw, zero_index]))
  go_ret
  exact ⟨rfl, ((Below.refl _ _).alloc (Nat.le_refl _) _).trans (hB.out.mono (by simp))⟩
set_option maxHeartbeats 1000000 in
theorem c_tea0 (n : Nd) (w : World) (hty : (inB n.ty 1 3) = true) (hpa : (inB n.parent 0 1048575) = true) (hnm : nameNo n.name.data.toList = 0) (ht1 : (n.ty == 1) = true) (ht3 : (n.ty == 3) = false) (hsz1 : (inB n.size 0 2147483648) = true) (hmo : (inB n.mode 0 4095) = true) (hs0 : (n.shadow != 0) = false) (hte : (n.target.toList.isEmpty) = false) :
    Calls Tryd.prog 15 #[n.v] w (Told 82 w) := by
  unfold Nd.v
  go_enter Tryd.func15, Tryd.ntmps15
  go_wp2_with (first | (go_at_call 28; refine (in_calls _ _ _ _).mono ?_; rintro e w' ⟨rfl, rfl⟩) | (go_at_call 29; refine (name_calls _ _).mono ?_; rintro e w1 ⟨rfl, hb⟩; obtain ⟨hc, hf⟩ := bcell hb; have hB := Lib.hid hb; clear hb hf) | (go_at_call 30; refine (Tryd.strings_Contains_one _ _ _).mono ?_; rintro e w' ⟨rfl, hw⟩; rw [hw, zero_index]))
  go_ret
  exact ⟨rfl, ((Below.refl _ _).alloc (Nat.le_refl _) _).trans (hB.out.mono (by simp))⟩
set_option maxHeartbeats 1000000 in
theorem c_oka0 (n : Nd) (w : World) (hty : (inB n.ty 1 3) = true) (hpa : (inB n.parent 0 1048575) = true) (hnm : nameNo n.name.data.toList = 0) (ht1 : (n.ty == 1) = true) (ht3 : (n.ty == 3) = false) (hsz1 : (inB n.size 0 2147483648) = true) (hmo : (inB n.mode 0 4095) = true) (hs0 : (n.shadow != 0) = false) (hte : (n.target.toList.isEmpty) = true) :
    Calls Tryd.prog 15 #[n.v] w (Told 0 w) := by
  unfold Nd.v
  go_enter Tryd.func15, Tryd.ntmps15
  go_wp2_with (first | (go_at_call 28; refine (in_calls _ _ _ _).mono ?_; rintro e w' ⟨rfl, rfl⟩) | (go_at_call 29; refine (name_calls _ _).mono ?_; rintro e w1 ⟨rfl, hb⟩; obtain ⟨hc, hf⟩ := bcell hb; have hB := Lib.hid hb; clear hb hf) | (go_at_call 30; refine (Tryd.strings_Contains_one _ _ _).mono ?_; rintro e w' ⟨rfl, hw⟩; rw [hw, zero_index]))
  go_ret
  exact ⟨rfl, ((Below.refl _ _).alloc (Nat.le_refl _) _).trans (hB.out.mono (by simp))⟩
set_option maxHeartbeats 1000000 in
theorem c_tea1 (n : Nd) (w : World) (hty : (inB n.ty 1 3) = true) (hpa : (inB n.parent 0 1048575) = true) (hnm : nameNo n.name.data.toList = 0) (ht1 : (n.ty == 1) = true) (ht3 : (n.ty == 3) = false) (hsz1 : (inB n.size 0 2147483648) = true) (hmo : (inB n.mode 0 4095) = true) (hs0 : (n.shadow != 0) = true) (hsh : (inB n.shadow 2 1048575) = true) (hte : (n.target.toList.isEmpty) = false) :
    Calls Tryd.prog 15 #[n.v] w (Told 82 w) := by
  unfold Nd.v
  go_enter Tryd.func15, Tryd.ntmps15
  go_wp2_with (first | (go_at_call 28; refine (in_calls _ _ _ _).mono ?_; rintro e w' ⟨rfl, rfl⟩) | (go_at_call 29; refine (name_calls _ _).mono ?_; rintro e w1 ⟨rfl, hb⟩; obtain ⟨hc, hf⟩ := bcell hb; have hB := Lib.hid hb; clear hb hf) | (go_at_call 30; refine (Tryd.strings_Contains_one _ _ _).mono ?_; rintro e w' ⟨rfl, hw⟩; rw [hw, zero_index]))
  go_ret
  exact ⟨rfl, ((Below.refl _ _).alloc (Nat.le_refl _) _).trans (hB.out.mono (by simp))⟩
set_option maxHeartbeats 1000000 in
theorem c_oka1 (n : Nd) (w : World) (hty : (inB n.ty 1 3) = true) (hpa : (inB n.parent 0 1048575) = true) (hnm : nameNo n.name.data.toList = 0) (ht1 : (n.ty == 1) = true) (ht3 : (n.ty == 3) = false) (hsz1 : (inB n.size 0 2147483648) = true) (hmo : (inB n.mode 0 4095) = true) (hs0 : (n.shadow != 0) = true) (hsh : (inB n.shadow 2 1048575) = true) (hte : (n.target.toList.isEmpty) = true) :
    Calls Tryd.prog 15 #[n.v] w (Told 0 w) := by
  unfold Nd.v
  go_enter Tryd.func15, Tryd.ntmps15
  go_wp2_with (first | (go_at_call 28; refine (in_calls _ _ _ _).mono ?_; rintro e w' ⟨rfl, rfl⟩) | (go_at_call 29; refine (name_calls _ _).mono ?_; rintro e w1 ⟨rfl, hb⟩; obtain ⟨hc, hf⟩ := bcell hb; have hB := Lib.hid hb; clear hb hf) | (go_at_call 30; refine (Tryd.strings_Contains_one _ _ _).mono ?_; rintro e w' ⟨rfl, hw⟩; rw [hw, zero_index]))
  go_ret
  exact ⟨rfl, ((Below.refl _ _).alloc (Nat.le_refl _) _).trans (hB.out.mono (by simp))⟩
set_option maxHeartbeats 1000000 in
theorem c_szb (n : Nd) (w : World) (hty : (inB n.ty 1 3) = true) (hpa : (inB n.parent 0 1048575) = true) (hnm : nameNo n.name.data.toList = 0) (ht1 : (n.ty == 1) = false) (ht3 : (n.ty == 3) = false) (hsz0 : (inB n.size 0 0) = false) :
    Calls Tryd.prog 15 #[n.v] w (Told 80 w) := by
  unfold Nd.v
  go_enter Tryd.func15, Tryd.ntmps15
  go_wp2_with (first | (go_at_call 28; refine (in_calls _ _ _ _).mono ?_; rintro e w' ⟨rfl, rfl⟩) | (go_at_call 29; refine (name_calls _ _).mono ?_; rintro e w1 ⟨rfl, hb⟩; obtain ⟨hc, hf⟩ := bcell hb; have hB := Lib.hid hb; clear hb hf) | (go_at_call 30; refine (Tryd.strings_Contains_one _ _ _).mono ?_; rintro e w' ⟨rfl, hw⟩; rw [hw, zero_index]))
  go_ret
  exact ⟨rfl, ((Below.refl _ _).alloc (Nat.le_refl _) _).trans (hB.out.mono (by simp))⟩
set_option maxHeartbeats 1000000 in
theorem c_mob (n : Nd) (w : World) (hty : (inB n.ty 1 3) = true) (hpa : (inB n.parent 0 1048575) = true) (hnm : nameNo n.name.data.toList = 0) (ht1 : (n.ty == 1) = false) (ht3 : (n.ty == 3) = false) (hsz0 : (inB n.size 0 0) = true) (hmo : (inB n.mode 0 4095) = false) :
    Calls Tryd.prog 15 #[n.v] w (Told 80 w) := by
  unfold Nd.v
  go_enter Tryd.func15, Tryd.ntmps15
  go_wp2_with (first | (go_at_call 28; refine (in_calls _ _ _ _).mono ?_; rintro e w' ⟨rfl, rfl⟩) | (go_at_call 29; refine (name_calls _ _).mono ?_; rintro e w1 ⟨rfl, hb⟩; obtain ⟨hc, hf⟩ := bcell hb; have hB := Lib.hid hb; clear hb hf) | (go_at_call 30; refine (Tryd.strings_Contains_one _ _ _).mono ?_; rintro e w' ⟨rfl, hw⟩; rw [hw, zero_index]))
  go_ret
  exact ⟨rfl, ((Below.refl _ _).alloc (Nat.le_refl _) _).trans (hB.out.mono (by simp))⟩
set_option maxHeartbeats 1000000 in
theorem c_shb (n : Nd) (w : World) (hty : (inB n.ty 1 3) = true) (hpa : (inB n.parent 0 1048575) = true) (hnm : nameNo n.name.data.toList = 0) (ht1 : (n.ty == 1) = false) (ht3 : (n.ty == 3) = false) (hsz0 : (inB n.size 0 0) = true) (hmo : (inB n.mode 0 4095) = true) (hs0 : (n.shadow != 0) = true) (hsh : (inB n.shadow 2 1048575) = false) :
    Calls Tryd.prog 15 #[n.v] w (Told 80 w) := by
  unfold Nd.v
  go_enter Tryd.func15, Tryd.ntmps15
  go_wp2_with (first | (go_at_call 28; refine (in_calls _ _ _ _).mono ?_; rintro e w' ⟨rfl, rfl⟩) | (go_at_call 29; refine (name_calls _ _).mono ?_; rintro e w1 ⟨rfl, hb⟩; obtain ⟨hc, hf⟩ := bcell hb; have hB := Lib.hid hb; clear hb hf) | (go_at_call 30; refine (Tryd.strings_Contains_one _ _ _).mono ?_; rintro e w' ⟨rfl, hw⟩; rw [hw, zero_index]))
  go_ret
  exact ⟨rfl, ((Below.refl _ _).alloc (Nat.le_refl _) _).trans (hB.out.mono (by simp))⟩
set_option maxHeartbeats 1000000 in
theorem c_teb0 (n : Nd) (w : World) (hty : (inB n.ty 1 3) = true) (hpa : (inB n.parent 0 1048575) = true) (hnm : nameNo n.name.data.toList = 0) (ht1 : (n.ty == 1) = false) (ht3 : (n.ty == 3) = false) (hsz0 : (inB n.size 0 0) = true) (hmo : (inB n.mode 0 4095) = true) (hs0 : (n.shadow != 0) = false) (hte : (n.target.toList.isEmpty) = false) :
    Calls Tryd.prog 15 #[n.v] w (Told 82 w) := by
  unfold Nd.v
  go_enter Tryd.func15, Tryd.ntmps15
  go_wp2_with (first | (go_at_call 28; refine (in_calls _ _ _ _).mono ?_; rintro e w' ⟨rfl, rfl⟩) | (go_at_call 29; refine (name_calls _ _).mono ?_; rintro e w1 ⟨rfl, hb⟩; obtain ⟨hc, hf⟩ := bcell hb; have hB := Lib.hid hb; clear hb hf) | (go_at_call 30; refine (Tryd.strings_Contains_one _ _ _).mono ?_; rintro e w' ⟨rfl, hw⟩; rw [hw, zero_index]))
  go_ret
  exact ⟨rfl, ((Below.refl _ _).alloc (Nat.le_refl _) _).trans (hB.out.mono (by simp))⟩
set_option maxHeartbeats 1000000 in
theorem c_okb0 (n : Nd) (w : World) (hty : (inB n.ty 1 3) = true) (hpa : (inB n.parent 0 1048575) = true) (hnm : nameNo n.name.data.toList = 0) (ht1 : (n.ty == 1) = false) (ht3 : (n.ty == 3) = false) (hsz0 : (inB n.size 0 0) = true) (hmo : (inB n.mode 0 4095) = true) (hs0 : (n.shadow != 0) = false) (hte : (n.target.toList.isEmpty) = true) :
    Calls Tryd.prog 15 #[n.v] w (Told 0 w) := by
  unfold Nd.v
  go_enter Tryd.func15, Tryd.ntmps15
  go_wp2_with (first | (go_at_call 28; refine (in_calls _ _ _ _).mono ?_; rintro e w' ⟨rfl, rfl⟩) | (go_at_call 29; refine (name_calls _ _).mono ?_; rintro e w1 ⟨rfl, hb⟩; obtain ⟨hc, hf⟩ := bcell hb; have hB := Lib.hid hb; clear hb hf) | (go_at_call 30; refine (Tryd.strings_Contains_one _ _ _).mono ?_; rintro e w' ⟨rfl, hw⟩; rw [hw, zero_index]))
  go_ret
  exact ⟨rfl, ((Below.refl _ _).alloc (Nat.le_refl _) _).trans (hB.out.mono (by simp))⟩
set_option maxHeartbeats 1000000 in
theorem c_teb1 (n : Nd) (w : World) (hty : (inB n.ty 1 3) = true) (hpa : (inB n.parent 0 1048575) = true) (hnm : nameNo n.name.data.toList = 0) (ht1 : (n.ty == 1) = false) (ht3 : (n.ty == 3) = false) (hsz0 : (inB n.size 0 0) = true) (hmo : (inB n.mode 0 4095) = true) (hs0 : (n.shadow != 0) = true) (hsh : (inB n.shadow 2 1048575) = true) (hte : (n.target.toList.isEmpty) = false) :
    Calls Tryd.prog 15 #[n.v] w (Told 82 w) := by
  unfold Nd.v
  go_enter Tryd.func15, Tryd.ntmps15
  go_wp2_with (first | (go_at_call 28; refine (in_calls _ _ _ _).mono ?_; rintro e w' ⟨rfl, rfl⟩) | (go_at_call 29; refine (name_calls _ _).mono ?_; rintro e w1 ⟨rfl, hb⟩; obtain ⟨hc, hf⟩ := bcell hb; have hB := Lib.hid hb; clear hb hf) | (go_at_call 30; refine (Tryd.strings_Contains_one _ _ _).mono ?_; rintro e w' ⟨rfl, hw⟩; rw [hw, zero_index]))
  go_ret
  exact ⟨rfl, ((Below.refl _ _).alloc (Nat.le_refl _) _).trans (hB.out.mono (by simp))⟩
set_option maxHeartbeats 1000000 in
theorem c_okb1 (n : Nd) (w : World) (hty : (inB n.ty 1 3) = true) (hpa : (inB n.parent 0 1048575) = true) (hnm : nameNo n.name.data.toList = 0) (ht1 : (n.ty == 1) = false) (ht3 : (n.ty == 3) = false) (hsz0 : (inB n.size 0 0) = true) (hmo : (inB n.mode 0 4095) = true) (hs0 : (n.shadow != 0) = true) (hsh : (inB n.shadow 2 1048575) = true) (hte : (n.target.toList.isEmpty) = true) :
    Calls Tryd.prog 15 #[n.v] w (Told 0 w) := by
  unfold Nd.v
  go_enter Tryd.func15, Tryd.ntmps15
  go_wp2_with (first | (go_at_call 28; refine (in_calls _ _ _ _).mono ?_; rintro e w' ⟨rfl, rfl⟩) | (go_at_call 29; refine (name_calls _ _).mono ?_; rintro e w1 ⟨rfl, hb⟩; obtain ⟨hc, hf⟩ := bcell hb; have hB := Lib.hid hb; clear hb hf) | (go_at_call 30; refine (Tryd.strings_Contains_one _ _ _).mono ?_; rintro e w' ⟨rfl, hw⟩; rw [hw, zero_index]))
  go_ret
  exact ⟨rfl, ((Below.refl _ _).alloc (Nat.le_refl _) _).trans (hB.out.mono (by simp))⟩
set_option maxHeartbeats 1000000 in
theorem c_szc (n : Nd) (w : World) (hty : (inB n.ty 1 3) = true) (hpa : (inB n.parent 0 1048575) = true) (hnm : nameNo n.name.data.toList = 0) (ht1 : (n.ty == 1) = false) (ht3 : (n.ty == 3) = true) (hsz0 : (inB n.size 0 0) = false) :
    Calls Tryd.prog 15 #[n.v] w (Told 80 w) := by
  unfold Nd.v
  go_enter Tryd.func15, Tryd.ntmps15
  go_wp2_with (first | (go_at_call 28; refine (in_calls _ _ _ _).mono ?_; rintro e w' ⟨rfl, rfl⟩) | (go_at_call 29; refine (name_calls _ _).mono ?_; rintro e w1 ⟨rfl, hb⟩; obtain ⟨hc, hf⟩ := bcell hb; have hB := Lib.hid hb; clear hb hf) | (go_at_call 30; refine (Tryd.strings_Contains_one _ _ _).mono ?_; rintro e w' ⟨rfl, hw⟩; rw [hw, zero_index]))
  go_ret
  exact ⟨rfl, ((Below.refl _ _).alloc (Nat.le_refl _) _).trans (hB.out.mono (by simp))⟩
set_option maxHeartbeats 1000000 in
theorem c_moc (n : Nd) (w : World) (hty : (inB n.ty 1 3) = true) (hpa : (inB n.parent 0 1048575) = true) (hnm : nameNo n.name.data.toList = 0) (ht1 : (n.ty == 1) = false) (ht3 : (n.ty == 3) = true) (hsz0 : (inB n.size 0 0) = true) (hmo : (inB n.mode 0 4095) = false) :
    Calls Tryd.prog 15 #[n.v] w (Told 80 w) := by
  unfold Nd.v
  go_enter Tryd.func15, Tryd.ntmps15
  go_wp2_with (first | (go_at_call 28; refine (in_calls _ _ _ _).mono ?_; rintro e w' ⟨rfl, rfl⟩) | (go_at_call 29; refine (name_calls _ _).mono ?_; rintro e w1 ⟨rfl, hb⟩; obtain ⟨hc, hf⟩ := bcell hb; have hB := Lib.hid hb; clear hb hf) | (go_at_call 30; refine (Tryd.strings_Contains_one _ _ _).mono ?_; rintro e w' ⟨rfl, hw⟩; rw [hw, zero_index]))
  go_ret
  exact ⟨rfl, ((Below.refl _ _).alloc (Nat.le_refl _) _).trans (hB.out.mono (by simp))⟩
set_option maxHeartbeats 1000000 in
theorem c_shc (n : Nd) (w : World) (hty : (inB n.ty 1 3) = true) (hpa : (inB n.parent 0 1048575) = true) (hnm : nameNo n.name.data.toList = 0) (ht1 : (n.ty == 1) = false) (ht3 : (n.ty == 3) = true) (hsz0 : (inB n.size 0 0) = true) (hmo : (inB n.mode 0 4095) = true) (hs0 : (n.shadow != 0) = true) (hsh : (inB n.shadow 2 1048575) = false) :
    Calls Tryd.prog 15 #[n.v] w (Told 80 w) := by
  unfold Nd.v
  go_enter Tryd.func15, Tryd.ntmps15
  go_wp2_with (first | (go_at_call 28; refine (in_calls _ _ _ _).mono ?_; rintro e w' ⟨rfl, rfl⟩) | (go_at_call 29; refine (name_calls _ _).mono ?_; rintro e w1 ⟨rfl, hb⟩; obtain ⟨hc, hf⟩ := bcell hb; have hB := Lib.hid hb; clear hb hf) | (go_at_call 30; refine (Tryd.strings_Contains_one _ _ _).mono ?_; rintro e w' ⟨rfl, hw⟩; rw [hw, zero_index]))
  go_ret
  exact ⟨rfl, ((Below.refl _ _).alloc (Nat.le_refl _) _).trans (hB.out.mono (by simp))⟩
set_option maxHeartbeats 1000000 in
theorem c_tlc0 (n : Nd) (w : World) (hty : (inB n.ty 1 3) = true) (hpa : (inB n.parent 0 1048575) = true) (hnm : nameNo n.name.data.toList = 0) (ht1 : (n.ty == 1) = false) (ht3 : (n.ty == 3) = true) (hsz0 : (inB n.size 0 0) = true) (hmo : (inB n.mode 0 4095) = true) (hs0 : (n.shadow != 0) = false) (htl : (inB n.target.size 1 127) = false) :
    Calls Tryd.prog 15 #[n.v] w (Told 82 w) := by
  unfold Nd.v
  go_enter Tryd.func15, Tryd.ntmps15
  go_wp2_with (first | (go_at_call 28; refine (in_calls _ _ _ _).mono ?_; rintro e w' ⟨rfl, rfl⟩) | (go_at_call 29; refine (name_calls _ _).mono ?_; rintro e w1 ⟨rfl, hb⟩; obtain ⟨hc, hf⟩ := bcell hb; have hB := Lib.hid hb; clear hb hf) | (go_at_call 30; refine (Tryd.strings_Contains_one _ _ _).mono ?_; rintro e w' ⟨rfl, hw⟩; rw [hw, zero_index]))
  go_ret
  exact ⟨rfl, ((Below.refl _ _).alloc (Nat.le_refl _) _).trans (hB.out.mono (by simp))⟩
set_option maxHeartbeats 1000000 in
theorem c_tzc0 (n : Nd) (w : World) (hty : (inB n.ty 1 3) = true) (hpa : (inB n.parent 0 1048575) = true) (hnm : nameNo n.name.data.toList = 0) (ht1 : (n.ty == 1) = false) (ht3 : (n.ty == 3) = true) (hsz0 : (inB n.size 0 0) = true) (hmo : (inB n.mode 0 4095) = true) (hs0 : (n.shadow != 0) = false) (htl : (inB n.target.size 1 127) = true) (htz : (hasZero n.target.data.toList) = true) :
    Calls Tryd.prog 15 #[n.v] w (Told 82 w) := by
  unfold Nd.v
  go_enter Tryd.func15, Tryd.ntmps15
  go_wp2_with (first | (go_at_call 28; refine (in_calls _ _ _ _).mono ?_; rintro e w' ⟨rfl, rfl⟩) | (go_at_call 29; refine (name_calls _ _).mono ?_; rintro e w1 ⟨rfl, hb⟩; obtain ⟨hc, hf⟩ := bcell hb; have hB := Lib.hid hb; clear hb hf) | (go_at_call 30; refine (Tryd.strings_Contains_one _ _ _).mono ?_; rintro e w' ⟨rfl, hw⟩; rw [hw, zero_index]))
  go_ret
  exact ⟨rfl, ((Below.refl _ _).alloc (Nat.le_refl _) _).trans (hB.out.mono (by simp))⟩
set_option maxHeartbeats 1000000 in
theorem c_okc0 (n : Nd) (w : World) (hty : (inB n.ty 1 3) = true) (hpa : (inB n.parent 0 1048575) = true) (hnm : nameNo n.name.data.toList = 0) (ht1 : (n.ty == 1) = false) (ht3 : (n.ty == 3) = true) (hsz0 : (inB n.size 0 0) = true) (hmo : (inB n.mode 0 4095) = true) (hs0 : (n.shadow != 0) = false) (htl : (inB n.target.size 1 127) = true) (htz : (hasZero n.target.data.toList) = false) :
    Calls Tryd.prog 15 #[n.v] w (Told 0 w) := by
  unfold Nd.v
  go_enter Tryd.func15, Tryd.ntmps15
  go_wp2_with (first | (go_at_call 28; refine (in_calls _ _ _ _).mono ?_; rintro e w' ⟨rfl, rfl⟩) | (go_at_call 29; refine (name_calls _ _).mono ?_; rintro e w1 ⟨rfl, hb⟩; obtain ⟨hc, hf⟩ := bcell hb; have hB := Lib.hid hb; clear hb hf) | (go_at_call 30; refine (Tryd.strings_Contains_one _ _ _).mono ?_; rintro e w' ⟨rfl, hw⟩; rw [hw, zero_index]))
  go_ret
  exact ⟨rfl, ((Below.refl _ _).alloc (Nat.le_refl _) _).trans (hB.out.mono (by simp))⟩
set_option maxHeartbeats 1000000 in
theorem c_tlc1 (n : Nd) (w : World) (hty : (inB n.ty 1 3) = true) (hpa : (inB n.parent 0 1048575) = true) (hnm : nameNo n.name.data.toList = 0) (ht1 : (n.ty == 1) = false) (ht3 : (n.ty == 3) = true) (hsz0 : (inB n.size 0 0) = true) (hmo : (inB n.mode 0 4095) = true) (hs0 : (n.shadow != 0) = true) (hsh : (inB n.shadow 2 1048575) = true) (htl : (inB n.target.size 1 127) = false) :
    Calls Tryd.prog 15 #[n.v] w (Told 82 w) := by
  unfold Nd.v
  go_enter Tryd.func15, Tryd.ntmps15
  go_wp2_with (first | (go_at_call 28; refine (in_calls _ _ _ _).mono ?_; rintro e w' ⟨rfl, rfl⟩) | (go_at_call 29; refine (name_calls _ _).mono ?_; rintro e w1 ⟨rfl, hb⟩; obtain ⟨hc, hf⟩ := bcell hb; have hB := Lib.hid hb; clear hb hf) | (go_at_call 30; refine (Tryd.strings_Contains_one _ _ _).mono ?_; rintro e w' ⟨rfl, hw⟩; rw [hw, zero_index]))
  go_ret
  exact ⟨rfl, ((Below.refl _ _).alloc (Nat.le_refl _) _).trans (hB.out.mono (by simp))⟩
set_option maxHeartbeats 1000000 in
theorem c_tzc1 (n : Nd) (w : World) (hty : (inB n.ty 1 3) = true) (hpa : (inB n.parent 0 1048575) = true) (hnm : nameNo n.name.data.toList = 0) (ht1 : (n.ty == 1) = false) (ht3 : (n.ty == 3) = true) (hsz0 : (inB n.size 0 0) = true) (hmo : (inB n.mode 0 4095) = true) (hs0 : (n.shadow != 0) = true) (hsh : (inB n.shadow 2 1048575) = true) (htl : (inB n.target.size 1 127) = true) (htz : (hasZero n.target.data.toList) = true) :
    Calls Tryd.prog 15 #[n.v] w (Told 82 w) := by
  unfold Nd.v
  go_enter Tryd.func15, Tryd.ntmps15
  go_wp2_with (first | (go_at_call 28; refine (in_calls _ _ _ _).mono ?_; rintro e w' ⟨rfl, rfl⟩) | (go_at_call 29; refine (name_calls _ _).mono ?_; rintro e w1 ⟨rfl, hb⟩; obtain ⟨hc, hf⟩ := bcell hb; have hB := Lib.hid hb; clear hb hf) | (go_at_call 30; refine (Tryd.strings_Contains_one _ _ _).mono ?_; rintro e w' ⟨rfl, hw⟩; rw [hw, zero_index]))
  go_ret
  exact ⟨rfl, ((Below.refl _ _).alloc (Nat.le_refl _) _).trans (hB.out.mono (by simp))⟩
set_option maxHeartbeats 1000000 in
theorem c_okc1 (n : Nd) (w : World) (hty : (inB n.ty 1 3) = true) (hpa : (inB n.parent 0 1048575) = true) (hnm : nameNo n.name.data.toList = 0) (ht1 : (n.ty == 1) = false) (ht3 : (n.ty == 3) = true) (hsz0 : (inB n.size 0 0) = true) (hmo : (inB n.mode 0 4095) = true) (hs0 : (n.shadow != 0) = true) (hsh : (inB n.shadow 2 1048575) = true) (htl : (inB n.target.size 1 127) = true) (htz : (hasZero n.target.data.toList) = false) :
    Calls Tryd.prog 15 #[n.v] w (Told 0 w) := by
  unfold Nd.v
  go_enter Tryd.func15, Tryd.ntmps15
  go_wp2_with (first | (go_at_call 28; refine (in_calls _ _ _ _).mono ?_; rintro e w' ⟨rfl, rfl⟩) | (go_at_call 29; refine (name_calls _ _).mono ?_; rintro e w1 ⟨rfl, hb⟩; obtain ⟨hc, hf⟩ := bcell hb; have hB := Lib.hid hb; clear hb hf) | (go_at_call 30; refine (Tryd.strings_Contains_one _ _ _).mono ?_; rintro e w' ⟨rfl, hw⟩; rw [hw, zero_index]))
  go_ret
  exact ⟨rfl, ((Below.refl _ _).alloc (Nat.le_refl _) _).trans (hB.out.mono (by simp))⟩

theorem told_mono {f : FuncId} {args : Array Value} {w : World} {k j : Int} (h : Calls Tryd.prog f args w (Told k w)) (e : k = j) : Calls Tryd.prog f args w (Told j w) := e ▸ h

theorem check_calls (n : Nd) (w : World) : Calls Tryd.prog 15 #[n.v] w (Told (checkNo n) w) := by
  cases hty : inB n.ty 1 3
  · exact told_mono (c_ty n w hty) (by simp [checkNo, hty])
  cases hpa : inB n.parent 0 1048575
  · exact told_mono (c_pa n w hty hpa) (by simp [checkNo, hpa])
  rcases nameNo_two n.name.data.toList with hnm | hnm
  case inr => exact told_mono (c_nm n w hty hpa hnm) (by simp [checkNo, hty, hpa, hnm])
  cases ht1 : (n.ty == 1)
  · cases ht3 : (n.ty == 3)
    · cases hsz : inB n.size 0 0
      · exact told_mono (c_szb n w hty hpa hnm ht1 ht3 hsz) (by simp [checkNo, hty, hpa, hnm, ht1, hsz])
      cases hmo : inB n.mode 0 4095
      · exact told_mono (c_mob n w hty hpa hnm ht1 ht3 hsz hmo) (by simp [checkNo, hty, hpa, hnm, ht1, hsz, hmo])
      cases hs0 : (n.shadow != 0)
      · cases hte : n.target.toList.isEmpty
        · exact told_mono (c_teb0 n w hty hpa hnm ht1 ht3 hsz hmo hs0 hte) (by simp [checkNo, hty, hpa, hnm, ht1, hsz, hmo, hs0, tgtOk, ht3, hte])
        · exact told_mono (c_okb0 n w hty hpa hnm ht1 ht3 hsz hmo hs0 hte) (by simp [checkNo, hty, hpa, hnm, ht1, hsz, hmo, hs0, tgtOk, ht3, hte])
      · cases hsh : inB n.shadow 2 1048575
        · exact told_mono (c_shb n w hty hpa hnm ht1 ht3 hsz hmo hs0 hsh) (by simp [checkNo, hty, hpa, hnm, ht1, hsz, hmo, hs0, hsh])
        cases hte : n.target.toList.isEmpty
        · exact told_mono (c_teb1 n w hty hpa hnm ht1 ht3 hsz hmo hs0 hsh hte) (by simp [checkNo, hty, hpa, hnm, ht1, hsz, hmo, hs0, hsh, tgtOk, ht3, hte])
        · exact told_mono (c_okb1 n w hty hpa hnm ht1 ht3 hsz hmo hs0 hsh hte) (by simp [checkNo, hty, hpa, hnm, ht1, hsz, hmo, hs0, hsh, tgtOk, ht3, hte])
    · cases hsz : inB n.size 0 0
      · exact told_mono (c_szc n w hty hpa hnm ht1 ht3 hsz) (by simp [checkNo, hty, hpa, hnm, ht1, hsz])
      cases hmo : inB n.mode 0 4095
      · exact told_mono (c_moc n w hty hpa hnm ht1 ht3 hsz hmo) (by simp [checkNo, hty, hpa, hnm, ht1, hsz, hmo])
      cases hs0 : (n.shadow != 0)
      · cases htl : inB n.target.size 1 127
        · exact told_mono (c_tlc0 n w hty hpa hnm ht1 ht3 hsz hmo hs0 htl) (by simp [checkNo, hty, hpa, hnm, ht1, hsz, hmo, hs0, tgtOk, ht3, htl])
        cases htz : hasZero n.target.data.toList
        · exact told_mono (c_okc0 n w hty hpa hnm ht1 ht3 hsz hmo hs0 htl htz) (by simp [checkNo, hty, hpa, hnm, ht1, hsz, hmo, hs0, tgtOk, ht3, htl, htz])
        · exact told_mono (c_tzc0 n w hty hpa hnm ht1 ht3 hsz hmo hs0 htl htz) (by simp [checkNo, hty, hpa, hnm, ht1, hsz, hmo, hs0, tgtOk, ht3, htl, htz])
      · cases hsh : inB n.shadow 2 1048575
        · exact told_mono (c_shc n w hty hpa hnm ht1 ht3 hsz hmo hs0 hsh) (by simp [checkNo, hty, hpa, hnm, ht1, hsz, hmo, hs0, hsh])
        cases htl : inB n.target.size 1 127
        · exact told_mono (c_tlc1 n w hty hpa hnm ht1 ht3 hsz hmo hs0 hsh htl) (by simp [checkNo, hty, hpa, hnm, ht1, hsz, hmo, hs0, hsh, tgtOk, ht3, htl])
        cases htz : hasZero n.target.data.toList
        · exact told_mono (c_okc1 n w hty hpa hnm ht1 ht3 hsz hmo hs0 hsh htl htz) (by simp [checkNo, hty, hpa, hnm, ht1, hsz, hmo, hs0, hsh, tgtOk, ht3, htl, htz])
        · exact told_mono (c_tzc1 n w hty hpa hnm ht1 ht3 hsz hmo hs0 hsh htl htz) (by simp [checkNo, hty, hpa, hnm, ht1, hsz, hmo, hs0, hsh, tgtOk, ht3, htl, htz])
  · have ht3 : (n.ty == 3) = false := by rw [beq_eq_false_iff_ne]; have := beq_iff_eq.1 ht1; omega
    cases hsz : inB n.size 0 2147483648
    · exact told_mono (c_sza n w hty hpa hnm ht1 ht3 hsz) (by simp [checkNo, hty, hpa, hnm, ht1, hsz])
    cases hmo : inB n.mode 0 4095
    · exact told_mono (c_moa n w hty hpa hnm ht1 ht3 hsz hmo) (by simp [checkNo, hty, hpa, hnm, ht1, hsz, hmo])
    cases hs0 : (n.shadow != 0)
    · cases hte : n.target.toList.isEmpty
      · exact told_mono (c_tea0 n w hty hpa hnm ht1 ht3 hsz hmo hs0 hte) (by simp [checkNo, hty, hpa, hnm, ht1, hsz, hmo, hs0, tgtOk, ht3, hte])
      · exact told_mono (c_oka0 n w hty hpa hnm ht1 ht3 hsz hmo hs0 hte) (by simp [checkNo, hty, hpa, hnm, ht1, hsz, hmo, hs0, tgtOk, ht3, hte])
    · cases hsh : inB n.shadow 2 1048575
      · exact told_mono (c_sha n w hty hpa hnm ht1 ht3 hsz hmo hs0 hsh) (by simp [checkNo, hty, hpa, hnm, ht1, hsz, hmo, hs0, hsh])
      cases hte : n.target.toList.isEmpty
      · exact told_mono (c_tea1 n w hty hpa hnm ht1 ht3 hsz hmo hs0 hsh hte) (by simp [checkNo, hty, hpa, hnm, ht1, hsz, hmo, hs0, hsh, tgtOk, ht3, hte])
      · exact told_mono (c_oka1 n w hty hpa hnm ht1 ht3 hsz hmo hs0 hsh hte) (by simp [checkNo, hty, hpa, hnm, ht1, hsz, hmo, hs0, hsh, tgtOk, ht3, hte])


end Go.Proofs.YtljamhpdgmelcaaDoor

