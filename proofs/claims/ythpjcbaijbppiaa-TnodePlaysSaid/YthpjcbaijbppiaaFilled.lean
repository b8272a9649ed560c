/- filled: a tree of keys, the i-th with the thing i. -/
import Derived.Test.YthpjcbaijbppiaaHeads
namespace Go.Proofs.Ythpjcbaijbppiaa
open Go.RowKit Go.Proofs
set_option linter.unusedVariables false
set_option linter.unusedSimpArgs false
set_option maxRecDepth 100000
/-- A slice of numbers. -/
def IntsAt (w : World) (A : Option Addr) (ks : List Int) : Prop := 0 < ks.length → ∃ g o, A = some ⟨g, o, none⟩ ∧ ∀ i k, ks[i]? = some k → w.cell? ⟨g, o + i, none⟩ = some (.int .i64 k)
theorem IntsAt.below {w w' : World} {B : Nat} {A : Option Addr} {ks : List Int} (h : IntsAt w A ks) (hB : B = w.heap.size) (hb : Below B w w') : IntsAt w' A ks := fun hp => by
  subst hB
  obtain ⟨g, o, rfl, hc⟩ := h hp
  exact ⟨g, o, rfl, fun i k hk => (hb.cell (p := ⟨g, o + i, none⟩) (World.block_lt_of_cell? w _ (hc i k hk))).trans (hc i k hk)⟩
/-- The list behind n puts; how many went well. -/
def fillN (ks : List Int) : Nat → List (Nat × Int)
  | 0 => []
  | n + 1 => match ks[n]? with
    | some k => putL (fillN ks n) k (n : Int)
    | none => fillN ks n
def okN (ks : List Int) : Nat → Nat
  | 0 => 0
  | n + 1 => match ks[n]? with
    | some k => okN ks n + (if mayB k = true then 1 else 0)
    | none => okN ks n
theorem fillN_succ {ks : List Int} {n : Nat} {k : Int} (h : ks[n]? = some k) : fillN ks (n + 1) = putL (fillN ks n) k (n : Int) := by
  show (match ks[n]? with | some k => _ | none => _) = _
  rw [h]
theorem okN_succ {ks : List Int} {n : Nat} {k : Int} (h : ks[n]? = some k) : okN ks (n + 1) = okN ks n + (if mayB k = true then 1 else 0) := by
  show (match ks[n]? with | some k => _ | none => _) = _
  rw [h]
theorem okN_le (ks : List Int) : ∀ n, okN ks n ≤ n
  | 0 => Nat.le_refl _
  | n + 1 => by
    have := okN_le ks n
    cases h : ks[n]? with
    | none => show (match ks[n]? with | some k => _ | none => _) ≤ _; rw [h]; show okN ks n ≤ n + 1; omega
    | some k => rw [okN_succ h]; split <;> omega
def FilledEnd (ks : List Int) (w0 : World) (e : Ending) (w' : World) : Prop :=
  ∃ p, e = .returned (.tuple #[.pointer (some ⟨p, 0, none⟩), .int .i64 (okN ks ks.length : Nat)]) ∧ OT w0 w' p (fillN ks ks.length)
theorem filled_calls (ks : List Int) (hks : ks.length ≤ 17592186044416) (A : Option Addr) (c : Nat) (w0 w : World) (hA : IntsAt w0 A ks) (hB : Below w0.heap.size w0 w) :
    Calls Try.prog 17 #[.slice A ks.length c] w (FilledEnd ks w0) := by
  have HA := Lib.hid hA
  have HB := Lib.hid hB
  clear hA hB
  by_cases h0 : ks.length = 0
  · obtain rfl : ks = [] := List.eq_nil_of_length_eq_zero h0
    clear HA h0 hks
    go_enter Try.func17, Try.ntmps17
    go_wp2_with fail
    refine (OT.new w0 w HB.out).mono ?_
    rintro e w1 ⟨rfl, h1, _⟩
    have H1 := Lib.hid h1
    clear h1
    go_wp2_with fail
    go_loop [5, 6] (fun n i => i = .int .i64 0 ∧ n = .int .i64 0) (fun _ _ => 0)
    case atStart => exact ⟨rfl, rfl⟩
    case round =>
      obtain ⟨rfl, rfl⟩ := hrel
      go_wp2_with fail
      go_ret2
      exact ⟨_, rfl, H1.out⟩
  · obtain ⟨g, o, rfl, hc⟩ := HA.out (by omega)
    have HC := Lib.hid hc
    clear HA h0 hc
    go_enter Try.func17, Try.ntmps17
    go_wp2_with fail
    refine (OT.new w0 w HB.out).mono ?_
    rintro e w1 ⟨rfl, h1, _⟩
    have H1 := Lib.hid h1
    clear h1
    go_wp2_with fail
    go_loopw [5, 6] (fun s5 s6 wx => ∃ i : Nat, s6 = .int .i64 (i : Int) ∧ i ≤ ks.length ∧ s5 = .int .i64 (okN ks i : Nat) ∧ OT w0 wx w.heap.size (fillN ks i)) (fun _ s6 _ => ks.length - (intOf s6).toNat)
    case atStart => exact ⟨0, rfl, by omega, rfl, H1.out⟩
    case round =>
      obtain ⟨i, rfl, hi, rfl, hT⟩ := hrel
      have HT := Lib.hid hT
      have hok := okN_le ks i
      by_cases hlt : i < ks.length
      · obtain ⟨k, hk⟩ : ∃ k, ks[i]? = some k := ⟨_, List.getElem?_eq_getElem hlt⟩
        have c0 := HC.out i k hk
        have c1 : wr.cell? ⟨g, o + i, none⟩ = some (.int .i64 k) := (hT.B.cell (p := ⟨g, o + i, none⟩) (World.block_lt_of_cell? w0 _ c0)).trans c0
        have HF := Lib.hid (fillN_succ hk)
        have hO := okN_succ hk
        have hil : (i : Int) < (ks.length : Int) := by omega
        by_cases hm : mayB k = true
        · have HP := Lib.hid (show putR k = 0 by unfold putR; rw [if_pos hm])
          rw [if_pos hm] at hO
          have HO := Lib.hid hO
          clear hT hk c0 hm hO
          go_wp2_with (first | (go_at_call 21; refine (HT.out.put k (i : Int)).mono ?_; rintro e w2 ⟨rfl, h2, _⟩; rw [HP.out]; have H2 := Lib.hid h2; clear h2) | (go_at_call 23; refine (no_calls _ _).mono ?_; rintro e w' ⟨rfl, rfl⟩))
          go_roundw
          case rel => exact ⟨i + 1, by go_num, by omega, by rw [HO.out]; go_num, by rw [HF.out]; exact H2.out⟩
          case measure => simp [intOf]; omega
        · have HP := Lib.hid (show putR k = 90 by unfold putR; rw [if_neg hm])
          rw [if_neg hm] at hO
          have HO := Lib.hid hO
          clear hT hk c0 hm hO
          go_wp2_with (first | (go_at_call 21; refine (HT.out.put k (i : Int)).mono ?_; rintro e w2 ⟨rfl, h2, _⟩; rw [HP.out]; have H2 := Lib.hid h2; clear h2) | (go_at_call 23; refine (no_calls _ _).mono ?_; rintro e w' ⟨rfl, rfl⟩))
          go_roundw
          case rel => exact ⟨i + 1, by go_num, by omega, by rw [HO.out]; rfl, by rw [HF.out]; exact H2.out⟩
          case measure => simp [intOf]; omega
      · obtain rfl : i = ks.length := by omega
        clear hT
        go_wp2_with fail
        go_ret2
        exact ⟨_, rfl, HT.out⟩
end Go.Proofs.Ythpjcbaijbppiaa
