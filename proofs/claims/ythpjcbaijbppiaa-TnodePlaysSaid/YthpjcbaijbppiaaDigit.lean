/- digit, room. -/
import Derived.Test.YthpjcbaijbppiaaState
import Derived.Laws.BitsLemmas
namespace Go.Proofs.Ythpjcbaijbppiaa
open Go.RowKit Go.Proofs
set_option linter.unusedVariables false
set_option linter.unusedSimpArgs false
theorem qadd {P : Program} {f : FuncId} {args : Array Value} {w : World} {a n : Nat} {v : Value}
    (h : Calls P f args (w.drewN (a + n)) fun e w' => e = .returned v ∧ w' = w.drewN (a + n)) :
    Calls P f args (w.drewN (a + n)) fun e w'' => e = .returned v ∧ ∃ m, w'' = w.drewN (a + m) :=
  h.mono fun _ _ ⟨he, hm⟩ => ⟨he, n, hm⟩
theorem and15 (n : Int) : bits .and .i64 n 15 = n % 16 := by
  have h15 : (BitVec.ofInt 64 15).toNat = 2 ^ 4 - 1 := by decide
  have key : (BitVec.ofInt 64 n &&& BitVec.ofInt 64 15).toNat = (n % ((2 ^ 64 : Nat) : Int)).toNat % 2 ^ 4 := by
    rw [BitVec.toNat_and, BitVec.toNat_ofInt, h15, Nat.and_two_pow_sub_one_eq_mod]
  show IntKind.i64.wrap ((BitVec.ofInt 64 n &&& BitVec.ofInt 64 15).toNat : Nat) = n % 16
  rw [key, IntKind.wrap_i64]
  omega
theorem room_calls (h : Nat) (hh : h ≤ 5) (w : World) : Calls Try.prog 54 #[.int .i64 (h : Int)] w fun e w' => e = .returned (.int .i64 ((16 ^ h : Nat) : Int)) ∧ w = w' := by
  obtain rfl | rfl | rfl | rfl | rfl | rfl : h = 0 ∨ h = 1 ∨ h = 2 ∨ h = 3 ∨ h = 4 ∨ h = 5 := by omega
  all_goals
    go_enter Try.func54, Try.ntmps54
    go_wp2
    go_ret
    exact ⟨rfl, rfl⟩
theorem ret_int {k : IntKind} {a b : Int} (h : a = b) : Ending.returned (.int k a) = .returned (.int k b) := by rw [h]
theorem digit_calls (k L : Nat) (hk : k < 1048576) (hL : L ≤ 4) (w : World) : Calls Try.prog 44 #[.int .i64 (k : Int), .int .i64 (L : Int)] w fun e w' => e = .returned (.int .i64 ((k / 16 ^ L % 16 : Nat) : Int)) ∧ w = w' := by
  obtain rfl | rfl | rfl | rfl | rfl : L = 0 ∨ L = 1 ∨ L = 2 ∨ L = 3 ∨ L = 4 := by omega
  all_goals
    go_enter Try.func44, Try.ntmps44
    go_wp2
    go_ret
    refine ⟨ret_int ?_, rfl⟩
    rw [and15]
    simp
theorem digit_q (k L : Nat) (hk : k < 1048576) (hL : L ≤ 4) (w : World) : Calls Try.prog 44 #[.int .i64 (k : Int), .int .i64 (L : Int)] w fun e w' => e = .returned (.int .i64 ((k / 16 ^ L % 16 : Nat) : Int)) ∧ w' = w :=
  (digit_calls k L hk hL w).mono fun _ _ ⟨a, b⟩ => ⟨a, b.symm⟩
theorem digit0_q (k : Nat) (hk : k < 1048576) (w : World) : Calls Try.prog 44 #[.int .i64 (k : Int), .int .i64 0] w fun e w' => e = .returned (.int .i64 ((k % 16 : Nat) : Int)) ∧ w' = w := by
  have := digit_q k 0 hk (by omega) w
  rw [Nat.pow_zero, Nat.div_one] at this
  exact this
end Go.Proofs.Ythpjcbaijbppiaa
