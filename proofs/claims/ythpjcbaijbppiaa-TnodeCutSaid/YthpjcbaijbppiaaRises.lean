/- TnodeRises, walked. -/
import Derived.Test.YthpjcbaijbppiaaFilled
namespace Go.Proofs.Ythpjcbaijbppiaa
open Go.RowKit Go.Proofs
set_option linter.unusedVariables false
set_option linter.unusedSimpArgs false
set_option maxRecDepth 100000
theorem valAt_get {l : List (Nat × Int)} (hs : Srt l) {i : Nat} {x : Nat × Int} (hx : l[i]? = some x) : valAt l (x.1 : Int) = some x.2 := by
  have hm : x ∈ l := List.mem_of_getElem? hx
  unfold valAt
  cases e : l.find? (fun y => (y.1 : Int) == (x.1 : Int)) with
  | none =>
    have := List.find?_eq_none.1 e x hm
    simp at this
  | some y =>
    have h1 := List.mem_of_find?_eq_some e
    have h2 := List.find?_some e
    simp at h2
    have : y = x := by
      by_cases e2 : y = x
      · exact e2
      · exfalso
        obtain ⟨j, hj⟩ := List.getElem?_of_mem h1
        obtain ⟨hi', e3⟩ := List.getElem?_eq_some_iff.1 hx
        obtain ⟨hj', e4⟩ := List.getElem?_eq_some_iff.1 hj
        have hp := List.pairwise_iff_getElem.1 hs
        rcases Nat.lt_trichotomy i j with h | h | h
        · have := hp i j hi' hj' h; rw [e3, e4] at this; omega
        · subst h; rw [hj] at hx; cases hx; exact e2 rfl
        · have := hp j i hj' hi' h; rw [e3, e4] at this; omega
    rw [this]; rfl
theorem rising {l : List (Nat × Int)} (hs : Srt l) {i : Nat} {x y : Nat × Int} (hx : l[i]? = some x) (hy : l[i + 1]? = some y) : x.1 < y.1 := by
  obtain ⟨h1, e1⟩ := List.getElem?_eq_some_iff.1 hx
  obtain ⟨h2, e2⟩ := List.getElem?_eq_some_iff.1 hy
  have := List.pairwise_iff_getElem.1 hs i (i + 1) h1 h2 (by omega)
  rw [e1, e2] at this
  exact this
theorem may_q (k : Int) (w : World) : Calls Try.prog 19 #[.int .i64 k] w fun e w' => e = .returned (.bool (mayB k)) ∧ w' = w := (may_calls k w).mono fun _ _ ⟨a, b⟩ => ⟨a, b.symm⟩
theorem firstN_all (l : List (Nat × Int)) : firstN l (-1) = l := rfl
theorem OT.keys {w0 w : World} {p : Nat} {l : List (Nat × Int)} (h : OT w0 w p l) {x : Nat × Int} (hx : x ∈ l) : x.1 < 1048576 := by obtain ⟨_, h1, _⟩ := h; exact h1.key hx
theorem OT.drewN {w0 w : World} {p : Nat} {l : List (Nat × Int)} (h : OT w0 w p l) (m : Nat) : OT w0 (w.drewN m) p l := h.below (below_drewN' _ _)
theorem PRow.drewN {w : World} {v : Value} {l : List (Nat × Int)} (h : PRow w v l) (m : Nat) : PRow (w.drewN m) v l := h.below (below_drewN' _ _)
theorem rises_walk (ks : List Int) (hks : ks.length ≤ 17592186044416) (A : Option Addr) (c : Nat) (w : World) (hA : IntsAt w A ks) :
    Calls Try.prog 5 #[.slice A ks.length c] w (HeadsEnd w) := by
  have HA := Lib.hid hA
  clear hA
  go_enter Try.func5, Try.ntmps5
  go_wp2_with fail
  refine (heads_calls w).mono ?_
  rintro e w1 ⟨rfl, h1⟩
  have H1 := Lib.hid h1
  clear h1
  go_wp2_with fail
  refine (filled_calls ks hks A c w w1 HA.out H1.out).mono ?_
  rintro e w2 ⟨p, rfl, h2⟩
  revert h2
  generalize fillN ks ks.length = L
  intro h2
  have H2 := Lib.hid h2
  clear h2
  go_wp2_with fail
  refine (H2.out.pairs (-1)).mono ?_
  rintro e w3 ⟨v3, rfl, ⟨hp3, _⟩, h3, _⟩
  rw [firstN_all] at hp3
  obtain ⟨A3, c3, rfl⟩ := hp3.form
  have H3 := Lib.hid h3
  have P3 := Lib.hid hp3
  have hlen := h3.lenb
  clear h3 hp3
  go_wp2_with fail
  refine (H3.out.len).mono ?_
  rintro e w4 ⟨rfl, rfl⟩
  have hne : ((L.length : Int) != (L.length : Int)) = false := by rw [bne, beq_self_eq_true]; rfl
  go_wp2_with fail
  refine (H3.out.pairs (-1)).mono ?_
  rintro e w4 ⟨v4, rfl, ⟨hp4, _⟩, h4, hb4⟩
  rw [firstN_all] at hp4
  have H4 := Lib.hid h4
  have P4 := Lib.hid (P3.out.below hb4)
  have Q4 := Lib.hid hp4
  clear h4 hp4 hb4
  go_wp2_with fail
  refine (same_yes L hlen _ _ _ P4.out Q4.out).mono ?_
  rintro e w5 ⟨rfl, m, rfl⟩
  have H5 := Lib.hid (H4.out.drewN m)
  have P5 := Lib.hid (P4.out.drewN m)
  revert H5 P5
  generalize w4.drewN m = w5
  intro H5 P5
  clear P4 H4 Q4 P3 H3 H2 H1
  go_wp2_with fail
  go_loopw [6] (fun s6 wx => ∃ i : Nat, s6 = .int .i64 (i : Int) ∧ i ≤ L.length ∧ OT w wx p L ∧ PRow wx (.slice A3 L.length c3) L) (fun s6 _ => L.length - (intOf s6).toNat)
  case atStart => exact ⟨0, rfl, by omega, H5.out, P5.out⟩
  case round =>
    clear H5 P5
    obtain ⟨i, rfl, hi, hT, hP⟩ := hrel
    have HT := Lib.hid hT
    have HP := Lib.hid hP
    by_cases hlt : i < L.length
    · obtain ⟨x, hx⟩ : ∃ x, L[i]? = some x := ⟨_, List.getElem?_eq_getElem hlt⟩
      obtain ⟨g, rfl, hc⟩ : ∃ g, A3 = some ⟨g, 0, none⟩ ∧ ∀ i x, L[i]? = some x → wr.cell? ⟨g, i * 2, none⟩ = some (.int .i64 (x.1 : Int)) ∧ wr.cell? ⟨g, i * 2 + 1, none⟩ = some (.int .i64 x.2) := by
        rcases hP with ⟨cap, _, h⟩ | ⟨g, cap, e, h⟩
        · rw [h] at hlt; simp at hlt
        · injection e with e1 e2 e3; exact ⟨g, e1, h⟩
      obtain ⟨a1, a2⟩ := hc i x hx
      have hV := valAt_get hT.srt hx
      have hkey := hT.keys (List.mem_of_getElem? hx)
      have hmay : mayB (x.1 : Int) = true := decide_eq_true (by omega)
      have n2 : (x.2 != x.2) = false := by rw [bne, beq_self_eq_true]; rfl
      have hil : (i : Int) < (L.length : Int) := by omega
      have GC := hT.get (x.1 : Int)
      rw [hV] at GC
      have GC := Lib.hid GC
      have MC := Lib.hid (fun W => may_q (x.1 : Int) W)
      rw [hmay] at MC
      by_cases hz : i = 0
      · subst hz
        clear hT hP hc hx hV hkey hmay
        go_wp2_with fail
        refine GC.out.mono ?_
        rintro e w6 ⟨rfl, h6, hb6⟩
        have H6 := Lib.hid h6
        have P6 := Lib.hid (HP.out.below hb6)
        have a1' := (hb6.cell (World.block_lt_of_cell? wr _ a1)).trans a1
        have a2' := (hb6.cell (World.block_lt_of_cell? wr _ a2)).trans a2
        clear h6 hb6 a1 a2 GC HT HP
        go_wp2_with fail
        go_quiet ((go_at_call 19; exact Calls.quiet_of_same (MC.out _)))
        go_wp2_with fail
        go_roundw
        case rel => exact ⟨0 + 1, by go_num, by omega, H6.out.drewN _, P6.out.drewN _⟩
        case measure => simp [intOf]; omega
      · obtain ⟨j, hj⟩ : ∃ j, i = j + 1 := ⟨i - 1, by omega⟩
        have hx' := hx
        rw [hj] at hx'
        obtain ⟨y, hy⟩ : ∃ y, L[j]? = some y := ⟨_, List.getElem?_eq_getElem (by omega)⟩
        obtain ⟨b1, b2⟩ := hc j y hy
        have hr := rising hT.srt hy hx'
        have hr3 : decide (x.1 ≤ y.1) = false := decide_eq_false (by omega)
        have hr2 : decide ((x.1 : Int) ≤ (y.1 : Int)) = false := decide_eq_false (by omega)
        have hm1 : (i : Int) - 1 = (j : Int) := by omega
        have hp1 : (0 : Int) < (i : Int) := by omega
        have hp3 : 0 < i := by omega
        have hwi : IntKind.i64.wrap (j : Int) = (j : Int) := by rw [IntKind.wrap_i64]; omega
        have hp4 : decide (0 < i) = true := decide_eq_true hp3
        have hp5 : decide ((0 : Int) < (i : Int)) = true := decide_eq_true hp1
        have hjl : (j : Int) < (L.length : Int) := by omega
        clear hT hP hc hx hV hkey hmay hy hr hx' hj
        go_wp2_with fail
        refine GC.out.mono ?_
        rintro e w6 ⟨rfl, h6, hb6⟩
        have H6 := Lib.hid h6
        have P6 := Lib.hid (HP.out.below hb6)
        have a1' := (hb6.cell (World.block_lt_of_cell? wr _ a1)).trans a1
        have a2' := (hb6.cell (World.block_lt_of_cell? wr _ a2)).trans a2
        have b1' := (hb6.cell (World.block_lt_of_cell? wr _ b1)).trans b1
        clear h6 hb6 a1 a2 GC HT HP b1 b2
        go_wp2_with fail
        go_quiet ((go_at_call 19; exact Calls.quiet_of_same (MC.out _)))
        go_wp2_with fail
        go_roundw
        case rel => exact ⟨i + 1, by go_num, by omega, H6.out.drewN _, P6.out.drewN _⟩
        case measure => simp [intOf]; omega
    · obtain rfl : i = L.length := by omega
      clear hT hP
      go_wp2_with fail
      go_ret
      exact ⟨rfl, HT.out.B⟩
end Go.Proofs.Ythpjcbaijbppiaa
