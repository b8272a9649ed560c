/- strings.IndexRune over the two bytes of slash and zero tells -1 at every rune of 128 or above. -/
import Derived.Test.YtljamhpdgmelcaaDoorShelf
import Derived.WalkKit
import Derived.WalkSpells
import Derived.WalkLawsBesides
import Derived.Laws.RangeAny
import Derived.Lib.OthersKept
import Derived.BigQuiet
import Derived.Deep.QuietTactic
import Derived.Lib.Hide
namespace Go.Proofs.YtljamhpdgmelcaaDoor
open Go.RowKit Go.Proofs
set_option linter.unusedVariables false
set_option linter.unusedSimpArgs false

def two : ByteArray := ⟨#[47, 0]⟩

set_option maxHeartbeats 1000000 in
set_option maxRecDepth 100000 in
theorem rune_bad (w : World) :
    Calls Tryd.prog 36 #[.string ⟨#[47, 0]⟩, .int .i32 65533] w fun e w' => e = .returned (.int .i64 (-1)) ∧ Below w.heap.size w w' := by
  have n0 : ∀ ty, (Instr.next (.pointer (some ⟨w.heap.size, 0, none⟩)) true ty).run Tryd.prog (w.iter ⟨#[47, 0]⟩ 0) = _ := fun ty => run_next_ascii (P := Tryd.prog) w ⟨#[47, 0]⟩ 0 ty (by decide) (by decide)
  have n1 : ∀ ty, (Instr.next (.pointer (some ⟨w.heap.size, 0, none⟩)) true ty).run Tryd.prog (w.iter ⟨#[47, 0]⟩ 1) = _ := fun ty => run_next_ascii (P := Tryd.prog) w ⟨#[47, 0]⟩ 1 ty (by decide) (by decide)
  have n2 : ∀ ty, (Instr.next (.pointer (some ⟨w.heap.size, 0, none⟩)) true ty).run Tryd.prog (w.iter ⟨#[47, 0]⟩ 2) = _ := fun ty => run_next_end (P := Tryd.prog) w ⟨#[47, 0]⟩ 2 ty (by decide)
  go_enter Tryd.func36, Tryd.ntmps36
  go_wp2
  go_loopg [5, 6] 2 (fun g _ _ wx => ∃ i : Nat, i + g = 2 ∧ wx = w.iter ⟨#[47, 0]⟩ i)
  case atStart => exact ⟨0, rfl, rfl⟩
  case round =>
    obtain ⟨i, hi, rfl⟩ := hrel
    obtain rfl | rfl | rfl : gk = 0 ∨ gk = 1 ∨ gk = 2 := by omega
    · obtain rfl : i = 2 := by omega
      go_wp2
      go_ret
      exact ⟨rfl, (Below.refl _ _).alloc (Nat.le_refl _) _⟩
    · obtain rfl : i = 1 := by omega
      go_wp2
      go_roundg 0
      case measure => omega
      case rel => exact ⟨2, rfl, rfl⟩
    · obtain rfl : i = 0 := by omega
      go_wp2
      go_roundg 1
      case measure => omega
      case rel => exact ⟨1, rfl, rfl⟩

theorem enc_two {r : Int} (h0 : 128 ≤ r) (h1 : r < 2048) : ∃ a b : UInt8, Utf8.encode r = ⟨#[a, b]⟩ ∧ 128 ≤ b.toNat := by
  have hv : Utf8.valid r = true := by simp [Utf8.valid]; omega
  have e1 : ¬ r.toNat < 0x80 := by omega
  have e2 : r.toNat < 0x800 := by omega
  refine ⟨UInt8.ofNat (0xC0 + r.toNat / 64), UInt8.ofNat (0x80 + r.toNat % 64), ?_, ?_⟩
  · simp only [Utf8.encode, hv, if_true, e1, e2, if_false]
  · rw [UInt8.toNat_ofNat']; omega
theorem enc_three {r : Int} (h0 : 2048 ≤ r) (h1 : r < 65536) : ∃ a b c : UInt8, Utf8.encode r = ⟨#[a, b, c]⟩ := by
  by_cases hv : Utf8.valid r = true
  · have e1 : ¬ r.toNat < 0x80 := by omega
    have e2 : ¬ r.toNat < 0x800 := by omega
    have e3 : r.toNat < 0x10000 := by omega
    exact ⟨_, _, _, by simp only [Utf8.encode, hv, if_true, e1, e2, e3, if_false]; rfl⟩
  · exact ⟨_, _, _, by simp only [Utf8.encode, hv]; rfl⟩
theorem enc_four {r : Int} (h0 : 65536 ≤ r) (h1 : r ≤ 1114111) : ∃ a b c d : UInt8, Utf8.encode r = ⟨#[a, b, c, d]⟩ := by
  have hv : Utf8.valid r = true := by simp [Utf8.valid]; omega
  have e1 : ¬ r.toNat < 0x80 := by omega
  have e2 : ¬ r.toNat < 0x800 := by omega
  have e3 : ¬ r.toNat < 0x10000 := by omega
  exact ⟨_, _, _, _, by simp only [Utf8.encode, hv, if_true, e1, e2, e3, if_false]; rfl⟩

set_option maxHeartbeats 1000000 in
set_option maxRecDepth 100000 in
theorem rune_two (r : Int) (w : World) (h0 : 128 ≤ r) (h1 : r < 2048) :
    Calls Tryd.prog 36 #[.string ⟨#[47, 0]⟩, .int .i32 r] w fun e w' => e = .returned (.int .i64 (-1)) ∧ Below w.heap.size w w' := by
  have a1 : decide (r < 128) = false := decide_eq_false (by omega)
  have a2 : (r == 65533) = false := beq_eq_false_iff_ne.2 (by omega)
  have hv : Lib.validRune r = true := by simp [Lib.validRune]; omega
  obtain ⟨a, b, he, hb⟩ := enc_two h0 h1
  go_enter Tryd.func36, Tryd.ntmps36
  go_wp2_with (go_at_call 45; refine (Tryd.utf8_ValidRune _ _).mono ?_; rintro e w' ⟨rfl, hw⟩; rw [hw, hv])
  go_step3
  go_wp2
  refine wp_loop_rounds 1 ?_
  rw [rounds_succ]
  have hb0 : ((((⟨#[47, 0]⟩ : ByteArray)[1]'(by decide)).toNat : Int) != (((⟨#[a, b]⟩ : ByteArray)[1]'(by simp [ByteArray.size])).toNat : Int)) = true := by
    rw [bne_iff_ne]
    show ((0 : Nat) : Int) ≠ (b.toNat : Int)
    omega
  have hs : ((-1 : Int) < 0) := by decide
  go_wp2
  go_step3
  go_wp2
  go_quiet (fail)
  have hw1 : Below w.heap.size w (w.drewN nq) := below_drewN (Below.refl _ _) nq
  generalize w.drewN nq = w1 at *
  have hx : Lib.indexByte [] b = -1 := rfl
  go_wp2
  go_quiet ((go_at_call 44; exact Calls.quiet_of_same (Tryd.strings_IndexByte _ _ _)))
  go_wp2
  simp only [Exit.noGoto, Exit.inBlock, Exit.then]
  go_ret
  exact ⟨rfl, below_drewN hw1 _⟩

set_option maxHeartbeats 1000000 in
set_option maxRecDepth 100000 in
theorem rune_three (r : Int) (w : World) (h0 : 2048 ≤ r) (h1 : r < 65536) (h2 : r ≠ 65533) :
    Calls Tryd.prog 36 #[.string ⟨#[47, 0]⟩, .int .i32 r] w fun e w' => e = .returned (.int .i64 (-1)) ∧ Below w.heap.size w w' := by
  have a1 : decide (r < 128) = false := decide_eq_false (by omega)
  have a2 : (r == 65533) = false := beq_eq_false_iff_ne.2 (by omega)
  obtain ⟨a, b, c, he⟩ := enc_three h0 h1
  cases hv : Lib.validRune r
  · go_enter Tryd.func36, Tryd.ntmps36
    go_wp2_with (go_at_call 45; refine (Tryd.utf8_ValidRune _ _).mono ?_; rintro e w' ⟨rfl, hw⟩; rw [hw, hv])
    go_ret
    exact ⟨rfl, Below.refl _ _⟩
  · go_enter Tryd.func36, Tryd.ntmps36
    go_wp2_with (go_at_call 45; refine (Tryd.utf8_ValidRune _ _).mono ?_; rintro e w' ⟨rfl, hw⟩; rw [hw, hv])
    go_step3
    go_wp2
    refine wp_loop_rounds 1 ?_
    rw [rounds_succ]
    go_wp2
    rw [Exit.noGoto_ret]
    go_ret
    exact ⟨rfl, Below.refl _ _⟩

set_option maxHeartbeats 1000000 in
set_option maxRecDepth 100000 in
theorem rune_four (r : Int) (w : World) (h0 : 65536 ≤ r) (h1 : r ≤ 1114111) :
    Calls Tryd.prog 36 #[.string ⟨#[47, 0]⟩, .int .i32 r] w fun e w' => e = .returned (.int .i64 (-1)) ∧ Below w.heap.size w w' := by
  have a1 : decide (r < 128) = false := decide_eq_false (by omega)
  have a2 : (r == 65533) = false := beq_eq_false_iff_ne.2 (by omega)
  obtain ⟨a, b, c, d, he⟩ := enc_four h0 h1
  have hv : Lib.validRune r = true := by simp [Lib.validRune]; omega
  go_enter Tryd.func36, Tryd.ntmps36
  go_wp2_with (go_at_call 45; refine (Tryd.utf8_ValidRune _ _).mono ?_; rintro e w' ⟨rfl, hw⟩; rw [hw, hv])
  go_step3
  go_wp2
  refine wp_loop_rounds 1 ?_
  rw [rounds_succ]
  go_wp2
  rw [Exit.noGoto_ret]
  go_ret
  exact ⟨rfl, Below.refl _ _⟩

set_option maxHeartbeats 1000000 in
set_option maxRecDepth 100000 in
theorem rune_far (r : Int) (w : World) (h0 : 1114111 < r) :
    Calls Tryd.prog 36 #[.string ⟨#[47, 0]⟩, .int .i32 r] w fun e w' => e = .returned (.int .i64 (-1)) ∧ Below w.heap.size w w' := by
  have a1 : decide (r < 128) = false := decide_eq_false (by omega)
  have a2 : (r == 65533) = false := beq_eq_false_iff_ne.2 (by omega)
  have hv : Lib.validRune r = false := by simp [Lib.validRune]; omega
  go_enter Tryd.func36, Tryd.ntmps36
  go_wp2_with (go_at_call 45; refine (Tryd.utf8_ValidRune _ _).mono ?_; rintro e w' ⟨rfl, hw⟩; rw [hw, hv])
  go_ret
  exact ⟨rfl, Below.refl _ _⟩

/-- At every rune of 128 or above. -/
theorem rune_high (r : Int) (w : World) (h0 : 128 ≤ r) :
    Calls Tryd.prog 36 #[.string ⟨#[47, 0]⟩, .int .i32 r] w fun e w' => e = .returned (.int .i64 (-1)) ∧ Below w.heap.size w w' := by
  by_cases h1 : r < 2048
  · exact rune_two r w h0 h1
  by_cases h2 : r < 65536
  · by_cases h3 : r = 65533
    · subst h3; exact rune_bad w
    · exact rune_three r w (by omega) h2 h3
  by_cases h4 : r ≤ 1114111
  · exact rune_four r w (by omega) h4
  · exact rune_far r w (by omega)

/-- At a rune below 128: whether it is a slash or zero. -/
theorem rune_low (r : Int) (w : World) (h0 : 0 ≤ r) (h1 : r < 128) :
    Calls Tryd.prog 36 #[.string ⟨#[47, 0]⟩, .int .i32 r] w fun e w' => e = .returned (.int .i64 (if r = 47 then 0 else if r = 0 then 1 else -1)) ∧ Below w.heap.size w w' := by
  refine (Tryd.strings_IndexRune_ascii _ r w h0 h1).mono fun e w' ⟨he, hw⟩ => ⟨?_, hw ▸ Below.refl _ _⟩
  rw [he]
  have : Lib.indexByte [47, 0] r.toNat.toUInt8 = (if r = 47 then 0 else if r = 0 then 1 else -1) := by
    obtain ⟨n, rfl⟩ := Int.eq_ofNat_of_zero_le h0
    have hn : n < 128 := by omega
    have key : ∀ n : Fin 128, Lib.indexByte [47, 0] ((n.val : Int)).toNat.toUInt8 = (if (n.val : Int) = 47 then 0 else if (n.val : Int) = 0 then 1 else -1) := by decide +kernel
    exact key ⟨n, hn⟩
  exact congrArg (fun x => Ending.returned (Value.int IntKind.i64 x)) this

end Go.Proofs.YtljamhpdgmelcaaDoor
