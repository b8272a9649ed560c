/- The document's tree: Height, Cut. -/
import Derived.Test.YthpjcbaijbppiaaRef
namespace Go.Proofs.Ythpjcbaijbppiaa
open Go.RowKit Go.Proofs
set_option linter.unusedVariables false
set_option linter.unusedSimpArgs false
set_option maxRecDepth 100000
theorem set28 {w : World} {r : Nat} {x : Value} (h : w.heap[r]? = some (.cells #[x] 28 (0, 0))) (u : Value) : (w.setCell ⟨r, 0, none⟩ u).heap[r]? = some (.cells #[u] 28 (0, 0)) := heap_set_same h u
theorem own_short {w : World} {xs ys : List (Nat × Int)} {g cap : Nat} (h : w.ownsRow 0 45 2 (.slice (some ⟨g, 0, none⟩) (xs ++ ys).length cap) (xs ++ ys).length (encP (xs ++ ys))) :
    w.ownsRow 0 45 2 (.slice (some ⟨g, 0, none⟩) xs.length cap) xs.length (encP xs) := by
  rcases h.2 with ⟨h, _⟩ | ⟨g', cap', cur, hv, hg, hh, hc, hm, hs, ht⟩
  · cases h
  · injection hv with e1 e2 e3
    cases e1
    cases e3
    refine ⟨encP_length xs, .inr ⟨g, cap, cur, rfl, hg, hh, by rw [List.length_append] at hc; omega, hm, hs, ?_⟩⟩
    rw [encP_append, List.length_append] at ht
    have := congrArg (List.take (xs.length * 2)) ht
    rw [List.take_take, Nat.min_eq_left (by omega), List.take_left' (encP_length xs)] at this
    exact this
theorem rcut_calls (w : World) (r : Nat) (v : Value) (l : List (Nat × Int)) (h : RF w r l v) (hlen : l.length ≤ 1048576) (hs : Srt l) (k : Int) :
    Calls Try.prog 37 #[.pointer (some ⟨r, 0, none⟩), .int .i64 k] w fun e w' => e = .returned (.int .i64 ((l.length : Int) - ((cutL l k).length : Int))) ∧ RTurn w r v (cutL l k) w' := by
  obtain ⟨a, b, rfl, ha, hb⟩ := split_at hs k
  rw [cutL_split ha hb]
  have PC := Lib.hid (place_calls w r v a b h hlen k ha hb)
  have c0 := h.cell
  have z0 := h.c
  have f0 : w.frozen? ⟨r, 0, none⟩ = false := free_of z0
  rcases h.o.2 with ⟨rfl, h0⟩ | ⟨g, cap, cur, rfl, hg, hh, hc, hm, hs2, ht⟩
  · have e : a ++ b = [] := List.eq_nil_of_length_eq_zero h0
    obtain ⟨rfl, rfl⟩ := List.append_eq_nil_iff.1 e
    have H := Lib.hid h
    clear ha hb hs h e h0
    go_enter Try.func37, Try.ntmps37
    go_wp2_with fail
    refine PC.out.mono ?_
    rintro e w' ⟨rfl, rfl⟩
    go_wp2
    go_ret
    refine ⟨rfl, .slice none 0 0, ⟨set28 z0 _, ?_⟩, (Off.refl (RB r _) w).setCell (p := ⟨r, 0, none⟩) (.inl (.inl rfl)) _, fun b hb => .inl hb⟩
    exact own_kept H.out.o fun b c hb _ => by cases hb
  · have H := Lib.hid h
    have hne : g ≠ r := fun e => h.ne (by rw [← e]; rfl)
    have NE := Lib.hid hne
    rw [List.length_append] at hlen
    have hl2 : (a.length : Int) + (b.length : Int) ≤ cap := by rw [List.length_append] at hc; omega
    rw [List.length_append] at c0
    have e1 : wrap64 (((a.length : Int) + (b.length : Int)) - (a.length : Int)) = (b.length : Int) := by unfold wrap64; omega
    have Z := Lib.hid z0
    have Q := Lib.hid (And.intro hh ht)
    clear ha hb hs h hc hm hs2 hg hne hh ht z0
    unfold maxLen at *
    go_enter Try.func37, Try.ntmps37
    go_wp2_with fail
    refine PC.out.mono ?_
    rintro e w' ⟨rfl, rfl⟩
    go_wp2
    go_ret
    refine ⟨by rw [List.length_append, Int.natCast_add]; rfl, .slice (some ⟨g, 0, none⟩) a.length cap, ⟨set28 Z.out _, ?_⟩, (Off.refl (RB r _) w).setCell (p := ⟨r, 0, none⟩) (.inl (.inl rfl)) _, fun b hb => .inl hb⟩
    refine own_kept (w := w) (own_short H.out.o) fun b c hb hc => ?_
    cases hb
    rw [heap_set_ne]
    · exact hc
    · exact NE.out
theorem rheight_calls (w : World) (r : Nat) (v : Value) (l : List (Nat × Int)) (h : RF w r l v) (hlen : l.length ≤ 1048576) (hk : ∀ x ∈ l, x.1 < 1048576) (n : Nat) (hn : HtR l n) :
    Calls Try.prog 13 #[.pointer (some ⟨r, 0, none⟩)] w fun e w' => e = .returned (.int .i64 (n : Int)) ∧ Below w.heap.size w w' := by
  have c0 := h.cell
  rcases List.eq_nil_or_concat l with rfl | ⟨a, x, rfl⟩
  · obtain ⟨A, cap, rfl⟩ := h.form
    obtain rfl : n = 0 := hn.uniq (.inl ⟨rfl, rfl⟩)
    clear h hk hn
    go_enter Try.func13, Try.ntmps13
    go_wp2
    go_ret
    exact ⟨rfl, Below.refl _ _⟩
  · rw [List.concat_eq_append] at *
    obtain ⟨g, cap, cur, rfl, _, _, _, _, _, hc⟩ := h.row (by rw [List.length_append]; simp)
    obtain ⟨c1, c2⟩ := hc a.length x (by rw [List.getElem?_append_right (Nat.le_refl _)]; simp)
    have hlast : (a ++ [x]).getLast? = some x := by simp
    have hx := hk x (by simp)
    have HN := Lib.hid hn
    have HL := Lib.hid hlast
    rw [List.length_append, show [x].length = 1 from rfl] at c0 hlen
    have e1 : wrap64 (((a.length : Int) + 1) - 1) = (a.length : Int) := by unfold wrap64; omega
    have e2 : IntKind.i64.wrap (((a.length : Int) + 1) - 1) = (a.length : Int) := by rw [IntKind.wrap_i64]; omega
    have hz : ((a.length : Int) + 1 == 0) = false := beq_eq_false_iff_ne.2 (by omega)
    have hl2 : a.length < a.length + 1 := by omega
    clear h hk hn hlast hc
    go_enter Try.func13, Try.ntmps13
    go_wp2
    go_quiet (fail)
    go_wp2
    go_loop [3, 4] (fun s3 s4 => ∃ i : Nat, s3 = .int .i64 (i : Int) ∧ s4 = .int .i64 ((x.1 / 16 ^ i : Nat) : Int) ∧ 1 ≤ i ∧ i ≤ 5 ∧ (i = 1 ∨ 16 ^ (i - 1) ≤ x.1)) (fun _ s4 => (intOf s4).toNat)
    case atStart => exact ⟨1, rfl, by rw [Nat.pow_one, Int.natCast_ediv]; rfl, Nat.le_refl _, by omega, .inl rfl⟩
    case round =>
      obtain ⟨i, rfl, rfl, h1, h5, h16⟩ := hrel
      obtain ⟨D, hD⟩ : ∃ D, x.1 / 16 ^ i = D := ⟨_, rfl⟩
      have hDx : D < 1048576 := by rw [← hD]; exact Nat.lt_of_le_of_lt (Nat.div_le_self _ _) hx
      rw [hD]
      have H16 := Lib.hid h16
      have HD := Lib.hid hD
      clear h16 hD
      by_cases h0 : 0 < D
      · have hle : 16 ^ i ≤ x.1 := by
          have := HD.out
          by_cases e : 16 ^ i ≤ x.1
          · exact e
          · rw [Nat.div_eq_of_lt (by omega)] at this; omega
        have h4 : i < 5 := by
          by_cases e : i < 5
          · exact e
          · have := Nat.pow_le_pow_right (n := 16) (by decide) (show 5 ≤ i by omega)
            have : (16 : Nat) ^ 5 = 1048576 := by decide
            omega
        have hDi : (0 : Int) < (D : Int) := by omega
        have HLE := Lib.hid hle
        clear hle
        go_wp2
        go_roundw
        case rel => exact ⟨i + 1, by go_num, by rw [div16, HD.out, Int.natCast_ediv]; rfl, by omega, by omega, .inr (by rw [Nat.add_sub_cancel]; exact HLE.out)⟩
        case measure => simp [intOf]; omega
      · obtain rfl : D = 0 := by omega
        have hz := HN.out.uniq (HtR.of_div HL.out h1 H16.out HD.out)
        subst hz
        go_wp2
        go_ret
        exact ⟨rfl, below_drewN' _ _⟩
end Go.Proofs.Ythpjcbaijbppiaa
