/- strings.ContainsAny over the two bytes of slash and zero: whether the text has one of them. -/
import Derived.Test.YtljamhpdgmelcaaDoorRune
namespace Go.Proofs.YtljamhpdgmelcaaDoor
open Go.RowKit Go.Proofs
set_option linter.unusedVariables false
set_option linter.unusedSimpArgs false

def badB (b : UInt8) : Bool := b == 0 || b == 47
def hasBad (l : List UInt8) : Bool := l.any badB
def NoBad (s : ByteArray) (n : Nat) : Prop := ∀ j (h : j < s.size), j < n → badB (s[j]'h) = false

theorem hasBad_no {s : ByteArray} (h : NoBad s s.size) : hasBad s.data.toList = false := by
  unfold hasBad
  rw [List.any_eq_false]
  intro x hx
  obtain ⟨i, hi, rfl⟩ := List.getElem_of_mem hx
  have : badB (s[i]'(by simpa using hi)) = false := h i (by simpa using hi) (by simpa using hi)
  intro hb
  exact Bool.false_ne_true (this.symm.trans hb)
theorem hasBad_yes {s : ByteArray} {i : Nat} (hi : i < s.size) (h : badB (s[i]'hi) = true) : hasBad s.data.toList = true := by
  unfold hasBad
  rw [List.any_eq_true]
  exact ⟨s[i]'hi, by have : s[i]'hi = s.data.toList[i]'(by simpa using hi) := rfl; rw [this]; exact List.getElem_mem _, h⟩
theorem badB_high {b : UInt8} (h : 128 ≤ b.toNat) : badB b = false := by
  unfold badB
  rw [Bool.or_eq_false_iff]
  constructor <;> (rw [beq_eq_false_iff_ne]; rintro rfl; revert h; decide)
theorem badB_low {b : UInt8} : badB b = true ↔ (b.toNat : Int) = 47 ∨ (b.toNat : Int) = 0 := by
  unfold badB
  rw [Bool.or_eq_true, beq_iff_eq, beq_iff_eq, ← UInt8.toNat_inj, ← UInt8.toNat_inj]
  constructor
  · rintro (h | h)
    · right; rw [h]; rfl
    · left; rw [h]; rfl
  · rintro (h | h)
    · right; exact Int.ofNat.inj h
    · left; exact Int.ofNat.inj h

theorem decode_low (s : ByteArray) (pos : Nat) (h : pos < s.size) (ha : (s[pos]'h).toNat < 128) : Utf8.decode s pos = ((s[pos]'h).toNat, 1) := by
  simp only [Utf8.decode, get_at s pos h, ha, if_true]
theorem get_off (s : ByteArray) (i : Nat) (h : i < s.size) : s.get! i = s[i]'h := by
  have := get_at s i h
  simpa using this
theorem decode_cont (s : ByteArray) (pos : Nat) (h : pos < s.size) (ha : 128 ≤ (s[pos]'h).toNat) :
    1 ≤ (Utf8.decode s pos).2 ∧ pos + (Utf8.decode s pos).2 ≤ s.size ∧ ∀ j (hj : j < s.size), pos ≤ j → j < pos + (Utf8.decode s pos).2 → 128 ≤ (s[j]'hj).toNat := by
  have hn : ¬ (s[pos]'h).toNat < 128 := by omega
  have one : 1 ≤ 1 ∧ pos + 1 ≤ s.size ∧ ∀ j (hj : j < s.size), pos ≤ j → j < pos + 1 → 128 ≤ (s[j]'hj).toNat := by
    refine ⟨by omega, by omega, fun j hj h1 h2 => ?_⟩
    obtain rfl : j = pos := by omega
    exact ha
  have cont : ∀ k, (decide (pos + k < s.size) && (s.get! (pos + k)).toNat / 64 == 2) = true → ∃ hk : pos + k < s.size, 128 ≤ (s[pos + k]'hk).toNat := by
    intro k hk
    rw [Bool.and_eq_true, decide_eq_true_eq, beq_iff_eq] at hk
    refine ⟨hk.1, ?_⟩
    rw [get_off s _ hk.1] at hk
    omega
  simp only [Utf8.decode, get_at s pos h, hn, if_false]
  split
  · rename_i hc
    rw [Bool.and_eq_true] at hc
    obtain ⟨k1, c1⟩ := cont 1 hc.2
    split
    · refine ⟨by omega, by omega, fun j hj h1 h2 => ?_⟩
      obtain rfl | rfl : j = pos ∨ j = pos + 1 := by omega
      · exact ha
      · exact c1
    · exact one
  · split
    · rename_i hc
      rw [Bool.and_eq_true, Bool.and_eq_true] at hc
      obtain ⟨k1, c1⟩ := cont 1 hc.1.2
      obtain ⟨k2, c2⟩ := cont 2 hc.2
      split
      · refine ⟨by omega, by omega, fun j hj h1 h2 => ?_⟩
        obtain rfl | rfl | rfl : j = pos ∨ j = pos + 1 ∨ j = pos + 2 := by omega
        · exact ha
        · exact c1
        · exact c2
      · exact one
    · split
      · rename_i hc
        rw [Bool.and_eq_true, Bool.and_eq_true, Bool.and_eq_true] at hc
        obtain ⟨k1, c1⟩ := cont 1 hc.1.1.2
        obtain ⟨k2, c2⟩ := cont 2 hc.1.2
        obtain ⟨k3, c3⟩ := cont 3 hc.2
        split
        · refine ⟨by omega, by omega, fun j hj h1 h2 => ?_⟩
          obtain rfl | rfl | rfl | rfl : j = pos ∨ j = pos + 1 ∨ j = pos + 2 ∨ j = pos + 3 := by omega
          · exact ha
          · exact c1
          · exact c2
          · exact c3
        · exact one
      · exact one

def AnyTold (s : ByteArray) (w : World) (e : Ending) (w' : World) : Prop := (∃ v : Int, e = .returned (.int .i64 v) ∧ decide (0 ≤ v) = hasBad s.data.toList) ∧ Below w.heap.size w w'

set_option maxHeartbeats 1000000 in
set_option maxRecDepth 100000 in
theorem any_short (s : ByteArray) (w : World) (h8 : s.size ≤ 8) :
    Calls Tryd.prog 34 #[.string s, .string ⟨#[47, 0]⟩] w (AnyTold s w) := by
  have h8z : decide ((8 : Int) < (s.size : Int)) = false := decide_eq_false (by omega)
  go_enter Tryd.func34, Tryd.ntmps34
  go_wp2_with (go_at_call 37; refine (Tryd.strings_shouldUseASCIISet _ _).mono ?_; rintro e w' ⟨rfl, hw⟩; rw [hw, h8z])
  go_loopg [9, 10] s.size (fun gf _ _ wx => ∃ pos : Nat, wx.heap[w.heap.size]? = some (.stringIter s pos) ∧ Below w.heap.size w wx ∧ Hid (NoBad s pos) ∧ pos ≤ s.size ∧ s.size ≤ pos + gf)
  case atStart => exact ⟨0, World.iter_heap w s 0, (Below.refl _ w).alloc (Nat.le_refl _) _, Lib.hid (fun j _ h => absurd h (Nat.not_lt_zero _)), by omega, by omega⟩
  case round =>
    obtain ⟨pos, hit, hbw, HN, hps', hfu⟩ := hrel
    by_cases hps : pos < s.size
    · obtain ⟨g', rfl⟩ : ∃ g', gk = g' + 1 := ⟨gk - 1, by omega⟩
      have hnx : ∀ ty, (Instr.next (.pointer (some ⟨w.heap.size, 0, none⟩)) true ty).run Tryd.prog wr = _ := fun ty => Lib.run_next_any_at wr w.heap.size s pos ty hit hps
      have H2 : Hid ((Utf8.decode s pos).1 < 128 ∧ (Utf8.decode s pos).2 = 1 ∧ (s[pos]'hps).toNat = (Utf8.decode s pos).1 ∨ 128 ≤ (Utf8.decode s pos).1 ∧ 1 ≤ (Utf8.decode s pos).2 ∧ pos + (Utf8.decode s pos).2 ≤ s.size ∧ NoBad s (pos + (Utf8.decode s pos).2)) := by
        by_cases ha : (s[pos]'hps).toNat < 128
        · left
          rw [decode_low s pos hps ha]
          exact ⟨ha, rfl, rfl⟩
        · right
          have hc := decode_cont s pos hps (by omega)
          refine ⟨(decode_high s pos hps (by omega)).1, hc.1, hc.2.1, fun j hj h1 => ?_⟩
          by_cases hjp : j < pos
          · exact HN.out j hj hjp
          · exact badB_high (hc.2.2 j hj (by omega) h1)
      obtain ⟨R, hR⟩ : ∃ R, (Utf8.decode s pos).1 = R := ⟨_, rfl⟩
      obtain ⟨K, hK⟩ : ∃ K, (Utf8.decode s pos).2 = K := ⟨_, rfl⟩
      rw [hR, hK] at H2
      rw [hR, hK] at hnx
      have hit2 := Lib.iterAt_heap wr w.heap.size s pos (pos + K) hit
      have hbw2 := Lib.below_iterAt hbw (k := w.heap.size) (Nat.le_refl _) s (pos + K)
      obtain ⟨W, hWd⟩ : ∃ W, wr.iterAt w.heap.size s (pos + K) = W := ⟨_, rfl⟩
      rw [hWd] at hnx hit2 hbw2
      clear hR hK hWd
      have hlt : w.heap.size < W.heap.size := (Array.getElem?_eq_some_iff.1 hit2).1
      rcases H2.out with ⟨h1, rfl, h3⟩ | ⟨h1, h2, h4, h3⟩
      · have hb := badB_low (b := s[pos]'hps)
        by_cases h47 : R = 47
        · subst h47
          have H := Lib.hid (hb.2 (by omega)); clear hb h3 H2 h1
          go_wp2_with (go_at_call 36; refine (rune_low _ _ (by omega) (by omega)).mono ?_; rintro e W' ⟨rfl, hW⟩)
          go_ret
          exact ⟨⟨pos, rfl, by rw [hasBad_yes hps H.out]; simp⟩, hbw2.trans (hW.mono (by omega))⟩
        · by_cases h00 : R = 0
          · subst h00
            have H := Lib.hid (hb.2 (by omega)); clear hb h3 H2 h1
            go_wp2_with (go_at_call 36; refine (rune_low _ _ (by omega) (by omega)).mono ?_; rintro e W' ⟨rfl, hW⟩)
            go_ret
            exact ⟨⟨pos, rfl, by rw [hasBad_yes hps H.out]; simp⟩, hbw2.trans (hW.mono (by omega))⟩
          · have H : Hid (badB (s[pos]'hps) = false) := by
              refine Lib.hid ?_
              rw [Bool.eq_false_iff]
              intro hbb
              have := hb.1 hbb
              omega
            have e1 : (if (R : Int) = 47 then (0 : Int) else if (R : Int) = 0 then 1 else -1) = -1 := by rw [if_neg (by omega), if_neg (by omega)]
            clear hb h3 H2 h47 h00
            go_wp2_with (go_at_call 36; refine (rune_low _ _ (by omega) (by omega)).mono ?_; rintro e W' ⟨rfl, hW⟩; rw [e1])
            go_roundg g'
            case measure => omega
            case rel =>
              refine ⟨pos + 1, (hW.block _ hlt).trans hit2, hbw2.trans (hW.mono (by omega)), Lib.hid (fun j hj h => ?_), by omega, by omega⟩
              by_cases hjp : j < pos
              · exact HN.out j hj hjp
              · obtain rfl : j = pos := by omega
                exact H.out
      · have H := Lib.hid h3; clear h3 H2
        go_wp2_with (go_at_call 36; refine (rune_high _ _ (by omega)).mono ?_; rintro e W' ⟨rfl, hW⟩)
        go_roundg g'
        case measure => omega
        case rel => exact ⟨pos + K, (hW.block _ hlt).trans hit2, hbw2.trans (hW.mono (by omega)), H, by omega, by omega⟩
    · have hnx : ∀ ty, (Instr.next (.pointer (some ⟨w.heap.size, 0, none⟩)) true ty).run Tryd.prog wr = _ := fun ty => Lib.run_next_end_at wr w.heap.size s pos ty hit hps
      obtain rfl : pos = s.size := by omega
      go_wp2
      go_ret
      exact ⟨⟨-1, rfl, by rw [hasBad_no HN.out]; rfl⟩, hbw⟩

theorem indexAny_bad : ∀ l : List UInt8, decide (0 ≤ Lib.indexAny l [47, 0]) = hasBad l
  | [] => rfl
  | b :: l => by
    have ih := indexAny_bad l
    have hge := Lib.indexAny_ge [47, 0] l
    have hb : ([47, 0] : List UInt8).contains b = badB b := by
      simp only [List.contains_cons, List.contains_nil, Bool.or_false, badB]
      exact Bool.or_comm _ _
    unfold Lib.indexAny
    rw [hb]
    unfold hasBad at ih ⊢
    rw [List.any_cons]
    cases hbb : badB b
    · rw [if_neg (by simp), Bool.false_or, ← ih]
      by_cases h1 : Lib.indexAny l [47, 0] = -1
      · rw [if_pos (by rw [h1]; rfl), h1]
      · rw [if_neg (by rw [beq_iff_eq]; exact h1)]
        rw [decide_eq_true (by omega), decide_eq_true (by omega)]
    · rw [if_pos rfl]; rfl

set_option maxHeartbeats 1000000 in
theorem any_calls (s : ByteArray) (w : World) (hs : s.size < 4294967281) :
    Calls Tryd.prog 34 #[.string s, .string ⟨#[47, 0]⟩] w (AnyTold s w) := by
  by_cases h8 : s.size ≤ 8
  · exact any_short s w h8
  · refine (Tryd.strings_IndexAny_long (fun _ => by kernel_rfl) s ⟨#[47, 0]⟩ w (by decide) (by omega) hs (by decide) (fun j b hj => ?_)).mono fun e w' ⟨he, hw⟩ => ⟨⟨_, he, indexAny_bad _⟩, ?_⟩
    · match j, hj with
      | 0, hj => cases hj; decide
      | 1, hj => cases hj; decide
    · rw [hw]
      exact ((Below.refl _ _).alloc (Nat.le_refl _) _).alloc (by simp) _

set_option maxHeartbeats 1000000 in
theorem contains_any (s : ByteArray) (w : World) (hs : s.size < 4294967281) :
    Calls Tryd.prog 32 #[.string s, .string ⟨#[47, 0]⟩] w fun e w' => e = .returned (.bool (hasBad s.data.toList)) ∧ Below w.heap.size w w' := by
  go_enter Tryd.func32, Tryd.ntmps32
  go_wp2_with (go_at_call 34; refine (any_calls s _ hs).mono ?_; rintro e w' ⟨⟨v, rfl, hv⟩, hw⟩)
  go_ret
  exact ⟨by rw [← hv]; rfl, hw⟩

end Go.Proofs.YtljamhpdgmelcaaDoor
