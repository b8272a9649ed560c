/- node.Check and the reference's Check tell the same of every header. -/
import Derived.Test.YtljamhpdgmelcaaName
import Derived.Lib.SmallJoins
namespace Go.Proofs.Ytljamhpdgmelcaa
open Go.RowKit Go.Proofs
set_option linter.unusedVariables false
set_option linter.unusedSimpArgs false

theorem bcell {W w1 : World} (hb : Below W.heap.size W w1) : (∀ b o, b < W.heap.size → w1.cell? ⟨b, o, none⟩ = W.cell? ⟨b, o, none⟩) ∧ (∀ b o, b < W.heap.size → w1.frozen? ⟨b, o, none⟩ = W.frozen? ⟨b, o, none⟩) :=
  ⟨fun b o h => hb.cell (p := ⟨b, o, none⟩) h, fun b o h => hb.frozen (p := ⟨b, o, none⟩) h⟩

/-- A header as the program has it. -/
structure Nd where
  ty : Int
  parent : Int
  name : ByteArray
  size : Int
  mode : Int
  stamp : Int
  shadow : Int
  target : ByteArray
def Nd.v (n : Nd) : Value := .agg #[.int .i64 n.ty, .int .i64 n.parent, .string n.name, .int .i64 n.size, .int .i64 n.mode, .int .u64 n.stamp, .int .i64 n.shadow, .string n.target]

def inB (a lo hi : Int) : Bool := decide (lo ≤ a ∧ a ≤ hi)
def hasZero (l : List UInt8) : Bool := l.any (· == 0)
def tgtOk (ty : Int) (t : ByteArray) : Bool := if ty == 3 then inB t.size 1 127 && !hasZero t.data.toList else t.toList.isEmpty
def checkNo (n : Nd) : Int :=
  if !inB n.ty 1 3 || !inB n.parent 0 1048575 then 80 else if nameNo n.name.data.toList == 81 then 81 else
  if !inB n.size 0 (if n.ty == 1 then 2147483648 else 0) || !inB n.mode 0 4095 || (n.shadow != 0 && !inB n.shadow 2 1048575) then 80 else
  if tgtOk n.ty n.target then 0 else 82

theorem nameNo_two (l : List UInt8) : nameNo l = 0 ∨ nameNo l = 81 := by unfold nameNo; split; exact .inl rfl; exact .inr rfl

theorem in_calls (a lo hi : Int) (w : World) : Calls Try.prog 10 #[.int .i64 a, .int .i64 lo, .int .i64 hi] w fun e w' => e = .returned (.bool (inB a lo hi)) ∧ w = w' := by
  by_cases h1 : lo ≤ a
  · have h2 : decide (lo ≤ a) = true := decide_eq_true h1
    by_cases h3 : a ≤ hi
    · have h4 : decide (a ≤ hi) = true := decide_eq_true h3
      have h5 : inB a lo hi = true := decide_eq_true ⟨h1, h3⟩
      rw [h5]
      clear h1 h3 h5
      go_enter Try.func10, Try.ntmps10
      go_wp2
      go_ret
      exact ⟨rfl, rfl⟩
    · have h4 : decide (a ≤ hi) = false := decide_eq_false h3
      have h5 : inB a lo hi = false := decide_eq_false (fun h => h3 h.2)
      rw [h5]
      clear h1 h3 h5
      go_enter Try.func10, Try.ntmps10
      go_wp2
      go_ret
      exact ⟨rfl, rfl⟩
  · have h2 : decide (lo ≤ a) = false := decide_eq_false h1
    have h5 : inB a lo hi = false := decide_eq_false (fun h => h1 h.1)
    rw [h5]
    clear h1 h5
    go_enter Try.func10, Try.ntmps10
    go_wp2
    go_ret
    exact ⟨rfl, rfl⟩

theorem zero_index : ∀ l : List UInt8, decide (0 ≤ Lib.indexByte l 0) = hasZero l
  | [] => rfl
  | b :: l => by
    have ih := zero_index l
    have hge := Lib.indexByte_ge l 0
    unfold hasZero at ih ⊢
    rw [List.any_cons, Lib.indexByte]
    cases hb : b == 0
    · rw [if_neg (by simp), Bool.false_or, ← ih]
      by_cases h1 : Lib.indexByte l 0 = -1
      · rw [if_pos (by rw [h1]; rfl), h1]
      · rw [if_neg (by rw [beq_iff_eq]; exact h1)]
        rw [decide_eq_true (by omega), decide_eq_true (by omega)]
    · rw [if_pos rfl]; rfl

def Told (k : Int) (w : World) (e : Ending) (w' : World) : Prop := e = .returned (.int .i64 k) ∧ Below w.heap.size w w'

set_option maxHeartbeats 1000000 in
theorem c_ty (n : Nd) (w : World) (hty : (inB n.ty 1 3) = false) :
    Calls Try.prog 7 #[n.v] w (Told 80 w) := by
  unfold Nd.v
  go_enter Try.func7, Try.ntmps7
  go_wp2_with (first | (go_at_call 10; refine (in_calls _ _ _ _).mono ?_; rintro e w' ⟨rfl, rfl⟩) | (go_at_call 5; refine (name_calls _ _).mono ?_; rintro e w1 ⟨rfl, hb⟩; obtain ⟨hc, hf⟩ := bcell hb; have hB := Lib.hid hb; clear hb hf) | (go_at_call 11; refine (Try.strings_Contains_one _ _ _).mono ?_; rintro e w' ⟨rfl, hw⟩; rw [hw, zero_index]))
  go_ret
  exact ⟨rfl, (Below.refl _ _).alloc (Nat.le_refl _) _⟩
set_option maxHeartbeats 1000000 in
theorem c_pa (n : Nd) (w : World) (hty : (inB n.ty 1 3) = true) (hpa : (inB n.parent 0 1048575) = false) :
    Calls Try.prog 7 #[n.v] w (Told 80 w) := by
  unfold Nd.v
  go_enter Try.func7, Try.ntmps7
  go_wp2_with (first | (go_at_call 10; refine (in_calls _ _ _ _).mono ?_; rintro e w' ⟨rfl, rfl⟩) | (go_at_call 5; refine (name_calls _ _).mono ?_; rintro e w1 ⟨rfl, hb⟩; obtain ⟨hc, hf⟩ := bcell hb; have hB := Lib.hid hb; clear hb hf) | (go_at_call 11; refine (Try.strings_Contains_one _ _ _).mono ?_; rintro e w' ⟨rfl, hw⟩; rw [hw, zero_index]))
  go_ret
  exact ⟨rfl, (Below.refl _ _).alloc (Nat.le_refl _) _⟩
set_option maxHeartbeats 1000000 in
theorem c_nm (n : Nd) (w : World) (hty : (inB n.ty 1 3) = true) (hpa : (inB n.parent 0 1048575) = true) (hnm : nameNo n.name.data.toList = 81) :
    Calls Try.prog 7 #[n.v] w (Told 81 w) := by
  unfold Nd.v
  go_enter Try.func7, Try.ntmps7
  go_wp2_with (first | (go_at_call 10; refine (in_calls _ _ _ _).mono ?_; rintro e w' ⟨rfl, rfl⟩) | (go_at_call 5; refine (name_calls _ _).mono ?_; rintro e w1 ⟨rfl, hb⟩; obtain ⟨hc, hf⟩ := bcell hb; have hB := Lib.hid hb; clear hb hf) | (go_at_call 11; refine (Try.strings_Contains_one _ _ _).mono ?_; rintro e w' ⟨rfl, hw⟩; rw [hw, zero_index]))
  go_ret
  exact ⟨rfl, ((Below.refl _ _).alloc (Nat.le_refl _) _).trans (hB.out.mono (by simp))⟩
set_option maxHeartbeats 1000000 in
theorem c_sza (n : Nd) (w : World) (hty : (inB n.ty 1 3) = true) (hpa : (inB n.parent 0 1048575) = true) (hnm : nameNo n.name.data.toList = 0) (ht1 : (n.ty == 1) = true) (ht3 : (n.ty == 3) = false) (hsz1 : (inB n.size 0 2147483648) = false) :
    Calls Try.prog 7 #[n.v] w (Told 80 w) := by
  unfold Nd.v
  go_enter Try.func7, Try.ntmps7
  go_wp2_with (first | (go_at_call 10; refine (in_calls _ _ _ _).mono ?_; rintro e w' ⟨rfl, rfl⟩) | (go_at_call 5; refine (name_calls _ _).mono ?_; rintro e w1 ⟨rfl, hb⟩; obtain ⟨hc, hf⟩ := bcell hb; have hB := Lib.hid hb; clear hb hf) | (go_at_call 11; refine (Try.strings_Contains_one _ _ _).mono ?_; rintro e w' ⟨rfl, hw⟩; rw [hw, zero_index]))
  go_ret
  exact ⟨rfl, ((Below.refl _ _).alloc (Nat.le_refl _) _).trans (hB.out.mono (by simp))⟩
set_option maxHeartbeats 1000000 in
theorem c_moa (n : Nd) (w : World) (hty : (inB n.ty 1 3) = true) (hpa : (inB n.parent 0 1048575) = true) (hnm : nameNo n.name.data.toList = 0) (ht1 : (n.ty == 1) = true) (ht3 : (n.ty == 3) = false) (hsz1 : (inB n.size 0 2147483648) = true) (hmo : (inB n.mode 0 4095) = false) :
    Calls Try.prog 7 #[n.v] w (Told 80 w) := by
  unfold Nd.v
  go_enter Try.func7, Try.ntmps7
  go_wp2_with (first | (go_at_call 10; refine (in_calls _ _ _ _).mono ?_; rintro e w' ⟨rfl, rfl⟩) | (go_at_call 5; refine (name_calls _ _).mono ?_; rintro e w1 ⟨rfl, hb⟩; obtain ⟨hc, hf⟩ := bcell hb; have hB := Lib.hid hb; clear hb hf) | (go_at_call 11; refine (Try.strings_Contains_one _ _ _).mono ?_; rintro e w' ⟨rfl, hw⟩; rw [hw, zero_index]))
  go_ret
  exact ⟨rfl, ((Below.refl _ _).alloc (Nat.le_refl _) _).trans (hB.out.mono (by simp))⟩
set_option maxHeartbeats 1000000 in
theorem c_sha (n : Nd) (w : World) (hty : (inB n.ty 1 3) = true) (hpa : (inB n.parent 0 1048575) = true) (hnm : nameNo n.name.data.toList = 0) (ht1 : (n.ty == 1) = true) (ht3 : (n.ty == 3) = false) (hsz1 : (inB n.size 0 2147483648) = true) (hmo : (inB n.mode 0 4095) = true) (hs0 : (n.shadow != 0) = true) (hsh : (inB n.shadow 2 1048575) = false) :
    Calls Try.prog 7 #[n.v] w (Told 80 w) := by
  unfold Nd.v
  go_enter Try.func7, Try.ntmps7
  go_wp2_with (first | (go_at_call 10; refine (in_calls _ _ _ _).mono ?_; rintro e w' ⟨rfl, rfl⟩) | (go_at_call 5; refine (name_calls _ _).mono ?_; rintro e w1 ⟨rfl, hb⟩; obtain ⟨hc, hf⟩ := bcell hb; have hB := Lib.hid hb; clear hb hf) | (go_at_call 11; refine (Try.strings_Contains_one _ _ _).mono ?_; rintro e w' ⟨rfl, hw⟩; rw [hw, zero_index]))
  go_ret
  exact ⟨rfl, ((Below.refl _ _).alloc (Nat.le_refl _) _).trans (hB.out.mono (by simp))⟩
set_option maxHeartbeats 1000000 in
theorem c_tea0 (n : Nd) (w : World) (hty : (inB n.ty 1 3) = true) (hpa : (inB n.parent 0 1048575) = true) (hnm : nameNo n.name.data.toList = 0) (ht1 : (n.ty == 1) = true) (ht3 : (n.ty == 3) = false) (hsz1 : (inB n.size 0 2147483648) = true) (hmo : (inB n.mode 0 4095) = true) (hs0 : (n.shadow != 0) = false) (hte : (n.target.toList.isEmpty) = false) :
    Calls Try.prog 7 #[n.v] w (Told 82 w) := by
  unfold Nd.v
  go_enter Try.func7, Try.ntmps7
  go_wp2_with (first | (go_at_call 10; refine (in_calls _ _ _ _).mono ?_; rintro e w' ⟨rfl, rfl⟩) | (go_at_call 5; refine (name_calls _ _).mono ?_; rintro e w1 ⟨rfl, hb⟩; obtain ⟨hc, hf⟩ := bcell hb; have hB := Lib.hid hb; clear hb hf) | (go_at_call 11; refine (Try.strings_Contains_one _ _ _).mono ?_; rintro e w' ⟨rfl, hw⟩; rw [hw, zero_index]))
  go_ret
  exact ⟨rfl, ((Below.refl _ _).alloc (Nat.le_refl _) _).trans (hB.out.mono (by simp))⟩
set_option maxHeartbeats 1000000 in
theorem c_oka0 (n : Nd) (w : World) (hty : (inB n.ty 1 3) = true) (hpa : (inB n.parent 0 1048575) = true) (hnm : nameNo n.name.data.toList = 0) (ht1 : (n.ty == 1) = true) (ht3 : (n.ty == 3) = false) (hsz1 : (inB n.size 0 2147483648) = true) (hmo : (inB n.mode 0 4095) = true) (hs0 : (n.shadow != 0) = false) (hte : (n.target.toList.isEmpty) = true) :
    Calls Try.prog 7 #[n.v] w (Told 0 w) := by
  unfold Nd.v
  go_enter Try.func7, Try.ntmps7
  go_wp2_with (first | (go_at_call 10; refine (in_calls _ _ _ _).mono ?_; rintro e w' ⟨rfl, rfl⟩) | (go_at_call 5; refine (name_calls _ _).mono ?_; rintro e w1 ⟨rfl, hb⟩; obtain ⟨hc, hf⟩ := bcell hb; have hB := Lib.hid hb; clear hb hf) | (go_at_call 11; refine (Try.strings_Contains_one _ _ _).mono ?_; rintro e w' ⟨rfl, hw⟩; rw [hw, zero_index]))
  go_ret
  exact ⟨rfl, ((Below.refl _ _).alloc (Nat.le_refl _) _).trans (hB.out.mono (by simp))⟩
set_option maxHeartbeats 1000000 in
theorem c_tea1 (n : Nd) (w : World) (hty : (inB n.ty 1 3) = true) (hpa : (inB n.parent 0 1048575) = true) (hnm : nameNo n.name.data.toList = 0) (ht1 : (n.ty == 1) = true) (ht3 : (n.ty == 3) = false) (hsz1 : (inB n.size 0 2147483648) = true) (hmo : (inB n.mode 0 4095) = true) (hs0 : (n.shadow != 0) = true) (hsh : (inB n.shadow 2 1048575) = true) (hte : (n.target.toList.isEmpty) = false) :
    Calls Try.prog 7 #[n.v] w (Told 82 w) := by
  unfold Nd.v
  go_enter Try.func7, Try.ntmps7
  go_wp2_with (first | (go_at_call 10; refine (in_calls _ _ _ _).mono ?_; rintro e w' ⟨rfl, rfl⟩) | (go_at_call 5; refine (name_calls _ _).mono ?_; rintro e w1 ⟨rfl, hb⟩; obtain ⟨hc, hf⟩ := bcell hb; have hB := Lib.hid hb; clear hb hf) | (go_at_call 11; refine (Try.strings_Contains_one _ _ _).mono ?_; rintro e w' ⟨rfl, hw⟩; rw [hw, zero_index]))
  go_ret
  exact ⟨rfl, ((Below.refl _ _).alloc (Nat.le_refl _) _).trans (hB.out.mono (by simp))⟩
set_option maxHeartbeats 1000000 in
theorem c_oka1 (n : Nd) (w : World) (hty : (inB n.ty 1 3) = true) (hpa : (inB n.parent 0 1048575) = true) (hnm : nameNo n.name.data.toList = 0) (ht1 : (n.ty == 1) = true) (ht3 : (n.ty == 3) = false) (hsz1 : (inB n.size 0 2147483648) = true) (hmo : (inB n.mode 0 4095) = true) (hs0 : (n.shadow != 0) = true) (hsh : (inB n.shadow 2 1048575) = true) (hte : (n.target.toList.isEmpty) = true) :
    Calls Try.prog 7 #[n.v] w (Told 0 w) := by
  unfold Nd.v
  go_enter Try.func7, Try.ntmps7
  go_wp2_with (first | (go_at_call 10; refine (in_calls _ _ _ _).mono ?_; rintro e w' ⟨rfl, rfl⟩) | (go_at_call 5; refine (name_calls _ _).mono ?_; rintro e w1 ⟨rfl, hb⟩; obtain ⟨hc, hf⟩ := bcell hb; have hB := Lib.hid hb; clear hb hf) | (go_at_call 11; refine (Try.strings_Contains_one _ _ _).mono ?_; rintro e w' ⟨rfl, hw⟩; rw [hw, zero_index]))
  go_ret
  exact ⟨rfl, ((Below.refl _ _).alloc (Nat.le_refl _) _).trans (hB.out.mono (by simp))⟩
set_option maxHeartbeats 1000000 in
theorem c_szb (n : Nd) (w : World) (hty : (inB n.ty 1 3) = true) (hpa : (inB n.parent 0 1048575) = true) (hnm : nameNo n.name.data.toList = 0) (ht1 : (n.ty == 1) = false) (ht3 : (n.ty == 3) = false) (hsz0 : (inB n.size 0 0) = false) :
    Calls Try.prog 7 #[n.v] w (Told 80 w) := by
  unfold Nd.v
  go_enter Try.func7, Try.ntmps7
  go_wp2_with (first | (go_at_call 10; refine (in_calls _ _ _ _).mono ?_; rintro e w' ⟨rfl, rfl⟩) | (go_at_call 5; refine (name_calls _ _).mono ?_; rintro e w1 ⟨rfl, hb⟩; obtain ⟨hc, hf⟩ := bcell hb; have hB := Lib.hid hb; clear hb hf) | (go_at_call 11; refine (Try.strings_Contains_one _ _ _).mono ?_; rintro e w' ⟨rfl, hw⟩; rw [hw, zero_index]))
  go_ret
  exact ⟨rfl, ((Below.refl _ _).alloc (Nat.le_refl _) _).trans (hB.out.mono (by simp))⟩
set_option maxHeartbeats 1000000 in
theorem c_mob (n : Nd) (w : World) (hty : (inB n.ty 1 3) = true) (hpa : (inB n.parent 0 1048575) = true) (hnm : nameNo n.name.data.toList = 0) (ht1 : (n.ty == 1) = false) (ht3 : (n.ty == 3) = false) (hsz0 : (inB n.size 0 0) = true) (hmo : (inB n.mode 0 4095) = false) :
    Calls Try.prog 7 #[n.v] w (Told 80 w) := by
  unfold Nd.v
  go_enter Try.func7, Try.ntmps7
  go_wp2_with (first | (go_at_call 10; refine (in_calls _ _ _ _).mono ?_; rintro e w' ⟨rfl, rfl⟩) | (go_at_call 5; refine (name_calls _ _).mono ?_; rintro e w1 ⟨rfl, hb⟩; obtain ⟨hc, hf⟩ := bcell hb; have hB := Lib.hid hb; clear hb hf) | (go_at_call 11; refine (Try.strings_Contains_one _ _ _).mono ?_; rintro e w' ⟨rfl, hw⟩; rw [hw, zero_index]))
  go_ret
  exact ⟨rfl, ((Below.refl _ _).alloc (Nat.le_refl _) _).trans (hB.out.mono (by simp))⟩
set_option maxHeartbeats 1000000 in
theorem c_shb (n : Nd) (w : World) (hty : (inB n.ty 1 3) = true) (hpa : (inB n.parent 0 1048575) = true) (hnm : nameNo n.name.data.toList = 0) (ht1 : (n.ty == 1) = false) (ht3 : (n.ty == 3) = false) (hsz0 : (inB n.size 0 0) = true) (hmo : (inB n.mode 0 4095) = true) (hs0 : (n.shadow != 0) = true) (hsh : (inB n.shadow 2 1048575) = false) :
    Calls Try.prog 7 #[n.v] w (Told 80 w) := by
  unfold Nd.v
  go_enter Try.func7, Try.ntmps7
  go_wp2_with (first | (go_at_call 10; refine (in_calls _ _ _ _).mono ?_; rintro e w' ⟨rfl, rfl⟩) | (go_at_call 5; refine (name_calls _ _).mono ?_; rintro e w1 ⟨rfl, hb⟩; obtain ⟨hc, hf⟩ := bcell hb; have hB := Lib.hid hb; clear hb hf) | (go_at_call 11; refine (Try.strings_Contains_one _ _ _).mono ?_; rintro e w' ⟨rfl, hw⟩; rw [hw, zero_index]))
  go_ret
  exact ⟨rfl, ((Below.refl _ _).alloc (Nat.le_refl _) _).trans (hB.out.mono (by simp))⟩
set_option maxHeartbeats 1000000 in
theorem c_teb0 (n : Nd) (w : World) (hty : (inB n.ty 1 3) = true) (hpa : (inB n.parent 0 1048575) = true) (hnm : nameNo n.name.data.toList = 0) (ht1 : (n.ty == 1) = false) (ht3 : (n.ty == 3) = false) (hsz0 : (inB n.size 0 0) = true) (hmo : (inB n.mode 0 4095) = true) (hs0 : (n.shadow != 0) = false) (hte : (n.target.toList.isEmpty) = false) :
    Calls Try.prog 7 #[n.v] w (Told 82 w) := by
  unfold Nd.v
  go_enter Try.func7, Try.ntmps7
  go_wp2_with (first | (go_at_call 10; refine (in_calls _ _ _ _).mono ?_; rintro e w' ⟨rfl, rfl⟩) | (go_at_call 5; refine (name_calls _ _).mono ?_; rintro e w1 ⟨rfl, hb⟩; obtain ⟨hc, hf⟩ := bcell hb; have hB := Lib.hid hb; clear hb hf) | (go_at_call 11; refine (Try.strings_Contains_one _ _ _).mono ?_; rintro e w' ⟨rfl, hw⟩; rw [hw, zero_index]))
  go_ret
  exact ⟨rfl, ((Below.refl _ _).alloc (Nat.le_refl _) _).trans (hB.out.mono (by simp))⟩
set_option maxHeartbeats 1000000 in
theorem c_okb0 (n : Nd) (w : World) (hty : (inB n.ty 1 3) = true) (hpa : (inB n.parent 0 1048575) = true) (hnm : nameNo n.name.data.toList = 0) (ht1 : (n.ty == 1) = false) (ht3 : (n.ty == 3) = false) (hsz0 : (inB n.size 0 0) = true) (hmo : (inB n.mode 0 4095) = true) (hs0 : (n.shadow != 0) = false) (hte : (n.target.toList.isEmpty) = true) :
    Calls Try.prog 7 #[n.v] w (Told 0 w) := by
  unfold Nd.v
  go_enter Try.func7, Try.ntmps7
  go_wp2_with (first | (go_at_call 10; refine (in_calls _ _ _ _).mono ?_; rintro e w' ⟨rfl, rfl⟩) | (go_at_call 5; refine (name_calls _ _).mono ?_; rintro e w1 ⟨rfl, hb⟩; obtain ⟨hc, hf⟩ := bcell hb; have hB := Lib.hid hb; clear hb hf) | (go_at_call 11; refine (Try.strings_Contains_one _ _ _).mono ?_; rintro e w' ⟨rfl, hw⟩; rw [hw, zero_index]))
  go_ret
  exact ⟨rfl, ((Below.refl _ _).alloc (Nat.le_refl _) _).trans (hB.out.mono (by simp))⟩
set_option maxHeartbeats 1000000 in
theorem c_teb1 (n : Nd) (w : World) (hty : (inB n.ty 1 3) = true) (hpa : (inB n.parent 0 1048575) = true) (hnm : nameNo n.name.data.toList = 0) (ht1 : (n.ty == 1) = false) (ht3 : (n.ty == 3) = false) (hsz0 : (inB n.size 0 0) = true) (hmo : (inB n.mode 0 4095) = true) (hs0 : (n.shadow != 0) = true) (hsh : (inB n.shadow 2 1048575) = true) (hte : (n.target.toList.isEmpty) = false) :
    Calls Try.prog 7 #[n.v] w (Told 82 w) := by
  unfold Nd.v
  go_enter Try.func7, Try.ntmps7
  go_wp2_with (first | (go_at_call 10; refine (in_calls _ _ _ _).mono ?_; rintro e w' ⟨rfl, rfl⟩) | (go_at_call 5; refine (name_calls _ _).mono ?_; rintro e w1 ⟨rfl, hb⟩; obtain ⟨hc, hf⟩ := bcell hb; have hB := Lib.hid hb; clear hb hf) | (go_at_call 11; refine (Try.strings_Contains_one _ _ _).mono ?_; rintro e w' ⟨rfl, hw⟩; rw [hw, zero_index]))
  go_ret
  exact ⟨rfl, ((Below.refl _ _).alloc (Nat.le_refl _) _).trans (hB.out.mono (by simp))⟩
set_option maxHeartbeats 1000000 in
theorem c_okb1 (n : Nd) (w : World) (hty : (inB n.ty 1 3) = true) (hpa : (inB n.parent 0 1048575) = true) (hnm : nameNo n.name.data.toList = 0) (ht1 : (n.ty == 1) = false) (ht3 : (n.ty == 3) = false) (hsz0 : (inB n.size 0 0) = true) (hmo : (inB n.mode 0 4095) = true) (hs0 : (n.shadow != 0) = true) (hsh : (inB n.shadow 2 1048575) = true) (hte : (n.target.toList.isEmpty) = true) :
    Calls Try.prog 7 #[n.v] w (Told 0 w) := by
  unfold Nd.v
  go_enter Try.func7, Try.ntmps7
  go_wp2_with (first | (go_at_call 10; refine (in_calls _ _ _ _).mono ?_; rintro e w' ⟨rfl, rfl⟩) | (go_at_call 5; refine (name_calls _ _).mono ?_; rintro e w1 ⟨rfl, hb⟩; obtain ⟨hc, hf⟩ := bcell hb; have hB := Lib.hid hb; clear hb hf) | (go_at_call 11; refine (Try.strings_Contains_one _ _ _).mono ?_; rintro e w' ⟨rfl, hw⟩; rw [hw, zero_index]))
  go_ret
  exact ⟨rfl, ((Below.refl _ _).alloc (Nat.le_refl _) _).trans (hB.out.mono (by simp))⟩
set_option maxHeartbeats 1000000 in
theorem c_szc (n : Nd) (w : World) (hty : (inB n.ty 1 3) = true) (hpa : (inB n.parent 0 1048575) = true) (hnm : nameNo n.name.data.toList = 0) (ht1 : (n.ty == 1) = false) (ht3 : (n.ty == 3) = true) (hsz0 : (inB n.size 0 0) = false) :
    Calls Try.prog 7 #[n.v] w (Told 80 w) := by
  unfold Nd.v
  go_enter Try.func7, Try.ntmps7
  go_wp2_with (first | (go_at_call 10; refine (in_calls _ _ _ _).mono ?_; rintro e w' ⟨rfl, rfl⟩) | (go_at_call 5; refine (name_calls _ _).mono ?_; rintro e w1 ⟨rfl, hb⟩; obtain ⟨hc, hf⟩ := bcell hb; have hB := Lib.hid hb; clear hb hf) | (go_at_call 11; refine (Try.strings_Contains_one _ _ _).mono ?_; rintro e w' ⟨rfl, hw⟩; rw [hw, zero_index]))
  go_ret
  exact ⟨rfl, ((Below.refl _ _).alloc (Nat.le_refl _) _).trans (hB.out.mono (by simp))⟩
set_option maxHeartbeats 1000000 in
theorem c_moc (n : Nd) (w : World) (hty : (inB n.ty 1 3) = true) (hpa : (inB n.parent 0 1048575) = true) (hnm : nameNo n.name.data.toList = 0) (ht1 : (n.ty == 1) = false) (ht3 : (n.ty == 3) = true) (hsz0 : (inB n.size 0 0) = true) (hmo : (inB n.mode 0 4095) = false) :
    Calls Try.prog 7 #[n.v] w (Told 80 w) := by
  unfold Nd.v
  go_enter Try.func7, Try.ntmps7
  go_wp2_with (first | (go_at_call 10; refine (in_calls _ _ _ _).mono ?_; rintro e w' ⟨rfl, rfl⟩) | (go_at_call 5; refine (name_calls _ _).mono ?_; rintro e w1 ⟨rfl, hb⟩; obtain ⟨hc, hf⟩ := bcell hb; have hB := Lib.hid hb; clear hb hf) | (go_at_call 11; refine (Try.strings_Contains_one _ _ _).mono ?_; rintro e w' ⟨rfl, hw⟩; rw [hw, zero_index]))
  go_ret
  exact ⟨rfl, ((Below.refl _ _).alloc (Nat.le_refl _) _).trans (hB.out.mono (by simp))⟩
set_option maxHeartbeats 1000000 in
theorem c_shc (n : Nd) (w : World) (hty : (inB n.ty 1 3) = true) (hpa : (inB n.parent 0 1048575) = true) (hnm : nameNo n.name.data.toList = 0) (ht1 : (n.ty == 1) = false) (ht3 : (n.ty == 3) = true) (hsz0 : (inB n.size 0 0) = true) (hmo : (inB n.mode 0 4095) = true) (hs0 : (n.shadow != 0) = true) (hsh : (inB n.shadow 2 1048575) = false) :
    Calls Try.prog 7 #[n.v] w (Told 80 w) := by
  unfold Nd.v
  go_enter Try.func7, Try.ntmps7
  go_wp2_with (first | (go_at_call 10; refine (in_calls _ _ _ _).mono ?_; rintro e w' ⟨rfl, rfl⟩) | (go_at_call 5; refine (name_calls _ _).mono ?_; rintro e w1 ⟨rfl, hb⟩; obtain ⟨hc, hf⟩ := bcell hb; have hB := Lib.hid hb; clear hb hf) | (go_at_call 11; refine (Try.strings_Contains_one _ _ _).mono ?_; rintro e w' ⟨rfl, hw⟩; rw [hw, zero_index]))
  go_ret
  exact ⟨rfl, ((Below.refl _ _).alloc (Nat.le_refl _) _).trans (hB.out.mono (by simp))⟩
set_option maxHeartbeats 1000000 in
theorem c_tlc0 (n : Nd) (w : World) (hty : (inB n.ty 1 3) = true) (hpa : (inB n.parent 0 1048575) = true) (hnm : nameNo n.name.data.toList = 0) (ht1 : (n.ty == 1) = false) (ht3 : (n.ty == 3) = true) (hsz0 : (inB n.size 0 0) = true) (hmo : (inB n.mode 0 4095) = true) (hs0 : (n.shadow != 0) = false) (htl : (inB n.target.size 1 127) = false) :
    Calls Try.prog 7 #[n.v] w (Told 82 w) := by
  unfold Nd.v
  go_enter Try.func7, Try.ntmps7
  go_wp2_with (first | (go_at_call 10; refine (in_calls _ _ _ _).mono ?_; rintro e w' ⟨rfl, rfl⟩) | (go_at_call 5; refine (name_calls _ _).mono ?_; rintro e w1 ⟨rfl, hb⟩; obtain ⟨hc, hf⟩ := bcell hb; have hB := Lib.hid hb; clear hb hf) | (go_at_call 11; refine (Try.strings_Contains_one _ _ _).mono ?_; rintro e w' ⟨rfl, hw⟩; rw [hw, zero_index]))
  go_ret
  exact ⟨rfl, ((Below.refl _ _).alloc (Nat.le_refl _) _).trans (hB.out.mono (by simp))⟩
set_option maxHeartbeats 1000000 in
theorem c_tzc0 (n : Nd) (w : World) (hty : (inB n.ty 1 3) = true) (hpa : (inB n.parent 0 1048575) = true) (hnm : nameNo n.name.data.toList = 0) (ht1 : (n.ty == 1) = false) (ht3 : (n.ty == 3) = true) (hsz0 : (inB n.size 0 0) = true) (hmo : (inB n.mode 0 4095) = true) (hs0 : (n.shadow != 0) = false) (htl : (inB n.target.size 1 127) = true) (htz : (hasZero n.target.data.toList) = true) :
    Calls Try.prog 7 #[n.v] w (Told 82 w) := by
  unfold Nd.v
  go_enter Try.func7, Try.ntmps7
  go_wp2_with (first | (go_at_call 10; refine (in_calls _ _ _ _).mono ?_; rintro e w' ⟨rfl, rfl⟩) | (go_at_call 5; refine (name_calls _ _).mono ?_; rintro e w1 ⟨rfl, hb⟩; obtain ⟨hc, hf⟩ := bcell hb; have hB := Lib.hid hb; clear hb hf) | (go_at_call 11; refine (Try.strings_Contains_one _ _ _).mono ?_; rintro e w' ⟨rfl, hw⟩; rw [hw, zero_index]))
  go_ret
  exact ⟨rfl, ((Below.refl _ _).alloc (Nat.le_refl _) _).trans (hB.out.mono (by simp))⟩
set_option maxHeartbeats 1000000 in
theorem c_okc0 (n : Nd) (w : World) (hty : (inB n.ty 1 3) = true) (hpa : (inB n.parent 0 1048575) = true) (hnm : nameNo n.name.data.toList = 0) (ht1 : (n.ty == 1) = false) (ht3 : (n.ty == 3) = true) (hsz0 : (inB n.size 0 0) = true) (hmo : (inB n.mode 0 4095) = true) (hs0 : (n.shadow != 0) = false) (htl : (inB n.target.size 1 127) = true) (htz : (hasZero n.target.data.toList) = false) :
    Calls Try.prog 7 #[n.v] w (Told 0 w) := by
  unfold Nd.v
  go_enter Try.func7, Try.ntmps7
  go_wp2_with (first | (go_at_call 10; refine (in_calls _ _ _ _).mono ?_; rintro e w' ⟨rfl, rfl⟩) | (go_at_call 5; refine (name_calls _ _).mono ?_; rintro e w1 ⟨rfl, hb⟩; obtain ⟨hc, hf⟩ := bcell hb; have hB := Lib.hid hb; clear hb hf) | (go_at_call 11; refine (Try.strings_Contains_one _ _ _).mono ?_; rintro e w' ⟨rfl, hw⟩; rw [hw, zero_index]))
  go_ret
  exact ⟨rfl, ((Below.refl _ _).alloc (Nat.le_refl _) _).trans (hB.out.mono (by simp))⟩
set_option maxHeartbeats 1000000 in
theorem c_tlc1 (n : Nd) (w : World) (hty : (inB n.ty 1 3) = true) (hpa : (inB n.parent 0 1048575) = true) (hnm : nameNo n.name.data.toList = 0) (ht1 : (n.ty == 1) = false) (ht3 : (n.ty == 3) = true) (hsz0 : (inB n.size 0 0) = true) (hmo : (inB n.mode 0 4095) = true) (hs0 : (n.shadow != 0) = true) (hsh : (inB n.shadow 2 1048575) = true) (htl : (inB n.target.size 1 127) = false) :
    Calls Try.prog 7 #[n.v] w (Told 82 w) := by
  unfold Nd.v
  go_enter Try.func7, Try.ntmps7
  go_wp2_with (first | (go_at_call 10; refine (in_calls _ _ _ _).mono ?_; rintro e w' ⟨rfl, rfl⟩) | (go_at_call 5; refine (name_calls _ _).mono ?_; rintro e w1 ⟨rfl, hb⟩; obtain ⟨hc, hf⟩ := bcell hb; have hB := Lib.hid hb; clear hb hf) | (go_at_call 11; refine (Try.strings_Contains_one _ _ _).mono ?_; rintro e w' ⟨rfl, hw⟩; rw [hw, zero_index]))
  go_ret
  exact ⟨rfl, ((Below.refl _ _).alloc (Nat.le_refl _) _).trans (hB.out.mono (by simp))⟩
set_option maxHeartbeats 1000000 in
theorem c_tzc1 (n : Nd) (w : World) (hty : (inB n.ty 1 3) = true) (hpa : (inB n.parent 0 1048575) = true) (hnm : nameNo n.name.data.toList = 0) (ht1 : (n.ty == 1) = false) (ht3 : (n.ty == 3) = true) (hsz0 : (inB n.size 0 0) = true) (hmo : (inB n.mode 0 4095) = true) (hs0 : (n.shadow != 0) = true) (hsh : (inB n.shadow 2 1048575) = true) (htl : (inB n.target.size 1 127) = true) (htz : (hasZero n.target.data.toList) = true) :
    Calls Try.prog 7 #[n.v] w (Told 82 w) := by
  unfold Nd.v
  go_enter Try.func7, Try.ntmps7
  go_wp2_with (first | (go_at_call 10; refine (in_calls _ _ _ _).mono ?_; rintro e w' ⟨rfl, rfl⟩) | (go_at_call 5; refine (name_calls _ _).mono ?_; rintro e w1 ⟨rfl, hb⟩; obtain ⟨hc, hf⟩ := bcell hb; have hB := Lib.hid hb; clear hb hf) | (go_at_call 11; refine (Try.strings_Contains_one _ _ _).mono ?_; rintro e w' ⟨rfl, hw⟩; rw [hw, zero_index]))
  go_ret
  exact ⟨rfl, ((Below.refl _ _).alloc (Nat.le_refl _) _).trans (hB.out.mono (by simp))⟩
set_option maxHeartbeats 1000000 in
theorem c_okc1 (n : Nd) (w : World) (hty : (inB n.ty 1 3) = true) (hpa : (inB n.parent 0 1048575) = true) (hnm : nameNo n.name.data.toList = 0) (ht1 : (n.ty == 1) = false) (ht3 : (n.ty == 3) = true) (hsz0 : (inB n.size 0 0) = true) (hmo : (inB n.mode 0 4095) = true) (hs0 : (n.shadow != 0) = true) (hsh : (inB n.shadow 2 1048575) = true) (htl : (inB n.target.size 1 127) = true) (htz : (hasZero n.target.data.toList) = false) :
    Calls Try.prog 7 #[n.v] w (Told 0 w) := by
  unfold Nd.v
  go_enter Try.func7, Try.ntmps7
  go_wp2_with (first | (go_at_call 10; refine (in_calls _ _ _ _).mono ?_; rintro e w' ⟨rfl, rfl⟩) | (go_at_call 5; refine (name_calls _ _).mono ?_; rintro e w1 ⟨rfl, hb⟩; obtain ⟨hc, hf⟩ := bcell hb; have hB := Lib.hid hb; clear hb hf) | (go_at_call 11; refine (Try.strings_Contains_one _ _ _).mono ?_; rintro e w' ⟨rfl, hw⟩; rw [hw, zero_index]))
  go_ret
  exact ⟨rfl, ((Below.refl _ _).alloc (Nat.le_refl _) _).trans (hB.out.mono (by simp))⟩

end Go.Proofs.Ytljamhpdgmelcaa

