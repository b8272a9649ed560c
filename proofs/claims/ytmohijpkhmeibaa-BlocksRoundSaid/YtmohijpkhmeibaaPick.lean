/- Pick, at, done, Bad, Cursor of the program's book. -/
import Derived.Test.YtmohijpkhmeibaaState
namespace Go.Proofs.Ytmohijpkhmeibaa
open Go.RowKit Go.Proofs
set_option linter.unusedVariables false
set_option linter.unusedSimpArgs false

def pickAt (b : Bks) (k : Nat) : Nat := ((b.cursor + 1 + k) % b.all.length).toNat

theorem pickAt_lt {b : Bks} (h : 0 < b.all.length) (k : Nat) : pickAt b k < b.all.length := by
  unfold pickAt
  have := Int.emod_lt_of_pos (b.cursor + 1 + k) (show (0 : Int) < b.all.length by omega)
  have := Int.emod_nonneg (b.cursor + 1 + k) (show (b.all.length : Int) ≠ 0 by omega)
  omega
/-- k-th above the cursor is not free. -/
def Taken (b : Bks) (k : Nat) : Prop := ∃ x, b.all[pickAt b k]? = some x ∧ x.state ≠ 0
def PickNo (b : Bks) (n : Nat) : Prop := ∀ k, k < n → Taken b k

def PickEnd (p q cap : Nat) (b : Bks) (k : Nat) (w : World) (e : Ending) (w' : World) : Prop :=
  e = .returned (.tuple #[.int .i64 (pickAt b k), .bool true]) ∧ IsB w' p q cap { b with cursor := pickAt b k } ∧ Off (· = p) w w'

set_option maxHeartbeats 1000000 in
theorem pick_yes (p q cap : Nat) (b : Bks) (k : Nat) (w : World) (hI : IsB w p q cap b) (hc1 : -1 ≤ b.cursor) (hc2 : b.cursor < b.all.length) (hk : k < b.all.length) (hno : PickNo b k)
    (x : Blk) (hx : b.all[pickAt b k]? = some x) (hs : x.state = 0) :
    Calls Try.prog 10 #[.pointer (some ⟨p, 0, none⟩)] w (PickEnd p q cap b k w) := by
  have c1 := hI.c1
  have c2 := hI.c2
  have hf := hI.cf 2
  have hpos := hI.pos
  have hle := hI.le
  have HI := Lib.hid hI
  have HN := Lib.hid hno
  clear hI hno
  go_enter Try.func10, Try.ntmps10
  go_wp2
  go_loopw [11] (fun i wr => ∃ j m : Nat, j ≤ k ∧ i = .int .i64 j ∧ wr = w.drewN m) (fun i _ => b.all.length - (intOf i).toNat)
  case atStart => exact ⟨0, 0, by omega, rfl, rfl⟩
  case round =>
    obtain ⟨j, m, hj, rfl, rfl⟩ := hrel
    have hlt : j < b.all.length := by omega
    have b1 := Int.emod_lt_of_pos (b.cursor + 1 + j) (show (0 : Int) < b.all.length by omega)
    have b0 := Int.emod_nonneg (b.cursor + 1 + j) (show (b.all.length : Int) ≠ 0 by omega)
    by_cases hjk : j = k
    · subst hjk
      have hcell : w.cell? ⟨q, ((b.cursor + 1 + j) % b.all.length).toNat * 5, none⟩ = some (.int .i64 0) := by rw [← hs]; exact HI.out.e0 hx
      have hbk : Hid ((b.cursor + 1 + j) % b.all.length = (pickAt b j : Nat)) := Lib.hid (by unfold pickAt; omega)
      clear hx hs
      go_wp2
      go_quiet (fail)
      go_wp2
      refine bodyPost_ret (v := .tuple #[.int .i64 ((b.cursor + 1 + j) % b.all.length), .bool true]) (by simp [results, Try.results10, go_sem]) rfl ?_
      rw [hbk.out]
      exact ⟨rfl, (HI.out.drewN _).setHead rfl rfl, ((Off.refl (· = p) w).drewN _).setCell (p := ⟨p, 2, none⟩) (.inl rfl) _⟩
    · obtain ⟨y, hy, hys⟩ := HN.out j (by omega)
      have hcell : w.cell? ⟨q, ((b.cursor + 1 + j) % b.all.length).toNat * 5, none⟩ = some (.int .i64 y.state) := HI.out.e0 hy
      have hz : (y.state == 0) = false := beq_eq_false_iff_ne.2 hys
      clear hy hys hx hs
      go_wp2
      go_quiet (fail)
      go_wp2
      go_roundw
      case rel => exact ⟨j + 1, _, by omega, by go_num, rfl⟩
      case measure => simp [intOf]; omega

set_option maxHeartbeats 1000000 in
theorem pick_no (p q cap : Nat) (b : Bks) (w : World) (hI : IsB w p q cap b) (hc1 : -1 ≤ b.cursor) (hc2 : b.cursor < b.all.length) (hno : PickNo b b.all.length) :
    Calls Try.prog 10 #[.pointer (some ⟨p, 0, none⟩)] w fun e w' => e = .returned (.tuple #[.int .i64 0, .bool false]) ∧ ∃ m, w' = w.drewN m := by
  have c1 := hI.c1
  have c2 := hI.c2
  have hpos := hI.pos
  have hle := hI.le
  have HI := Lib.hid hI
  have HN := Lib.hid hno
  clear hI hno
  go_enter Try.func10, Try.ntmps10
  go_wp2
  go_loopw [11] (fun i wr => ∃ j m : Nat, j ≤ b.all.length ∧ i = .int .i64 j ∧ wr = w.drewN m) (fun i _ => b.all.length - (intOf i).toNat)
  case atStart => exact ⟨0, 0, by omega, rfl, rfl⟩
  case round =>
    obtain ⟨j, m, hj, rfl, rfl⟩ := hrel
    by_cases hlt : j < b.all.length
    · have b1 := Int.emod_lt_of_pos (b.cursor + 1 + j) (show (0 : Int) < b.all.length by omega)
      have b0 := Int.emod_nonneg (b.cursor + 1 + j) (show (b.all.length : Int) ≠ 0 by omega)
      obtain ⟨y, hy, hys⟩ := HN.out j (by omega)
      have hcell : w.cell? ⟨q, ((b.cursor + 1 + j) % b.all.length).toNat * 5, none⟩ = some (.int .i64 y.state) := HI.out.e0 hy
      have hz : (y.state == 0) = false := beq_eq_false_iff_ne.2 hys
      clear hy hys
      go_wp2
      go_quiet (fail)
      go_wp2
      go_roundw
      case rel => exact ⟨j + 1, _, by omega, by go_num, rfl⟩
      case measure => simp [intOf]; omega
    · obtain rfl : j = b.all.length := by omega
      go_wp2
      go_ret2
      exact ⟨rfl, _, rfl⟩

theorem cursor_calls (p q cap : Nat) (b : Bks) (w : World) (hI : IsB w p q cap b) :
    Calls Try.prog 9 #[.pointer (some ⟨p, 0, none⟩)] w fun e w' => e = .returned (.int .i64 b.cursor) ∧ w = w' := by
  have c2 := hI.c2
  clear hI
  go_enter Try.func9, Try.ntmps9
  go_wp2
  go_ret
  exact ⟨rfl, rfl⟩

theorem at_yes (p q cap : Nat) (b : Bks) (k : Int) (w : World) (hI : IsB w p q cap b) (h0 : 0 ≤ k) (hk : k < b.all.length) :
    Calls Try.prog 36 #[.pointer (some ⟨p, 0, none⟩), .int .i64 k] w fun e w' => e = .returned (.pointer (some ⟨q, k.toNat * 5, none⟩)) ∧ w = w' := by
  have c1 := hI.c1
  have hle := hI.le
  clear hI
  go_enter Try.func36, Try.ntmps36
  go_wp2
  go_ret
  exact ⟨rfl, rfl⟩
theorem at_no (p q cap : Nat) (b : Bks) (k : Int) (w : World) (hI : IsB w p q cap b) (h : k < 0 ∨ b.all.length ≤ k) :
    Calls Try.prog 36 #[.pointer (some ⟨p, 0, none⟩), .int .i64 k] w fun e w' => e = .returned (.pointer none) ∧ w = w' := by
  have c1 := hI.c1
  have hle := hI.le
  clear hI
  by_cases h0 : k < 0
  · clear h
    go_enter Try.func36, Try.ntmps36
    go_wp2
    go_ret
    exact ⟨rfl, rfl⟩
  · have h1 : (b.all.length : Int) ≤ k := by omega
    have h2 : ¬ k < 0 := h0
    clear h h0
    go_enter Try.func36, Try.ntmps36
    go_wp2
    go_ret
    exact ⟨rfl, rfl⟩
end Go.Proofs.Ytmohijpkhmeibaa
