/- The document's tree: Drop. -/
import Derived.Test.YthpjcbaijbppiaaRef3
namespace Go.Proofs.Ythpjcbaijbppiaa
open Go.RowKit Go.Proofs
set_option linter.unusedVariables false
set_option linter.unusedSimpArgs false
set_option maxRecDepth 100000
theorem rdrop_no (w : World) (r : Nat) (v : Value) (a b : List (Nat × Int)) (h : RF w r (a ++ b) v) (hlen : (a ++ b).length ≤ 1048576) (k : Int) (ha : ∀ x ∈ a, (x.1 : Int) < k) (hb : ∀ x ∈ b, k < (x.1 : Int)) :
    Calls Try.prog 36 #[.pointer (some ⟨r, 0, none⟩), .int .i64 k] w fun e w' => e = .returned (.bool false) ∧ w = w' := by
  have HC := Lib.hid (has_none w r v a b h hlen k ha hb)
  clear h ha hb hlen
  go_enter Try.func36, Try.ntmps36
  go_wp2_with fail
  refine HC.out.mono ?_
  rintro e w' ⟨rfl, rfl⟩
  go_wp2
  go_ret
  exact ⟨rfl, rfl⟩
/-- What is left of the first so many. -/
def keptN (a t : List (Nat × Int)) (m : Nat) : List (Nat × Int) := if m ≤ a.length then a.take m else a ++ t.take (m - a.length - 1)
theorem rdrop_yes (w : World) (r : Nat) (v : Value) (a t : List (Nat × Int)) (y : Nat × Int) (h : RF w r (a ++ y :: t) v) (hlen : (a ++ y :: t).length ≤ 1048576) (ha : ∀ x ∈ a, (x.1 : Int) < (y.1 : Int)) (hb : ∀ x ∈ t, (y.1 : Int) < (x.1 : Int)) :
    Calls Try.prog 36 #[.pointer (some ⟨r, 0, none⟩), .int .i64 (y.1 : Int)] w fun e w' => e = .returned (.bool true) ∧ RNew w r (a ++ t) w' := by
  obtain ⟨i0, hi, hz0, hz1, hz2⟩ := info_parts info45
  have HC := Lib.hid (has_some w r v a t y h hlen ha hb)
  have PC := Lib.hid (place_calls w r v a (y :: t) h hlen y.1 ha fun x hx => by
    rcases List.mem_cons.1 hx with rfl | hx
    · exact Int.le_refl _
    · exact Int.le_of_lt (hb x hx))
  have HR := Lib.hid h
  have c0 := h.cell
  obtain ⟨A, cap, rfl⟩ := h.form
  obtain ⟨L, hL⟩ : ∃ L, (a ++ y :: t).length = L := ⟨_, rfl⟩
  have hLa : a.length + t.length + 1 = L := by rw [← hL, List.length_append, List.length_cons]; omega
  rw [hL] at c0 hlen HR
  clear h hL ha hb
  have CC : ∀ W, Below w.heap.size w W → W.cell? ⟨r, 0, none⟩ = some (.slice A L cap) := fun W hB => (HR.out.below hB).cell
  have CC := Lib.hid CC
  go_enter Try.func36, Try.ntmps36
  go_wp2_with fail
  refine HC.out.mono ?_
  rintro e w' ⟨rfl, rfl⟩
  go_wp2_with fail
  refine PC.out.mono ?_
  rintro e w' ⟨rfl, rfl⟩
  go_wp2_with (at_make; refine wpList_make_own _ rfl _ _ 26 rfl w.heap.size 45 i0 (.agg #[.int .i64 0, .int .i64 0]) 2 Try.underlying26 hi hz0 hz1 _ _ _ L rfl rfl (by omega) (by rw [hz2]; omega) (by unfold maxLen; omega) (Nat.le_refl _) ?_; intro w1 hown hgrow; have G0 := Lib.hid (show Grow w w1 (.slice (some ⟨w.heap.size, 0, none⟩) 0 L) [] from ⟨hown, (Below.refl _ _).grown hgrow (Nat.le_refl _) fun k e => (by cases e)⟩); clear hown hgrow)
  have CR : ∀ W, Below w.heap.size w W → ∀ (i : Nat) x, (a ++ y :: t)[i]? = some x → ∃ g, A = some ⟨g, 0, none⟩ ∧ W.cell? ⟨g, i * 2, none⟩ = some (.int .i64 (x.1 : Int)) ∧ W.cell? ⟨g, i * 2 + 1, none⟩ = some (.int .i64 x.2) := fun W hB i x hx => by
    obtain ⟨g, cap', cur, hv, _, _, _, _, _, hc⟩ := (HR.out.below hB).row (by have := (List.getElem?_eq_some_iff.1 hx).1; omega)
    injection hv with e1 e2 e3
    exact ⟨g, e1, hc i x hx⟩
  have CR := Lib.hid CR
  have cc0 := CC.out w1 G0.out.2
  clear PC HC c0
  go_loopw [6, 7] (fun s6 s7 wx => ∃ (m : Nat) (v8 : Value), v8 = s6 ∧ s7 = .int .i64 (m : Int) ∧ m ≤ L ∧ Grow w wx s6 (keptN a t m)) (fun _ s7 _ => L - (intOf s7).toNat)
  case atStart => exact ⟨0, _, rfl, rfl, by omega, by unfold keptN; rw [if_pos (Nat.zero_le _)]; exact G0.out⟩
  case round =>
    obtain ⟨m, v8, rfl, rfl, hmL, hG⟩ := hrel
    have c0 := CC.out wr hG.2
    clear cc0
    by_cases hlt : m < L
    · by_cases hma : m < a.length
      · obtain ⟨x, hx⟩ : ∃ x, a[m]? = some x := ⟨_, List.getElem?_eq_getElem hma⟩
        obtain ⟨g, rfl, c1, c2⟩ := CR.out wr hG.2 m x (by rw [List.getElem?_append_left hma]; exact hx)
        have e1 : keptN a t m = a.take m := by unfold keptN; rw [if_pos (by omega)]
        have e2 : keptN a t (m + 1) = a.take m ++ [x] := by unfold keptN; rw [if_pos (by omega), take_succ' hx]
        rw [e1] at hG
        have G := Lib.hid hG
        have E2 := Lib.hid e2
        have htk := Lib.hid (show (a.take m).length = m by rw [List.length_take]; omega)
        have n1 : ((m : Int) != (a.length : Int)) = true := by rw [bne_iff_ne]; omega
        clear hG hx e1 e2
        go_wp2_with (at_builtin; refine wpList_append_own _ rfl _ _ 26 rfl w.heap.size 45 i0 (.agg #[.int .i64 0, .int .i64 0]) 2 16 Try.underlying26 hi hz0 hz1 hz2 rfl (by decide) v8 _ _ (by rfl) (G.out.1.alloc _) ⟨wr.heap.size, 0, none⟩ 1 1 [.int .i64 (x.1 : Int), .int .i64 x.2] rfl rfl (World.news_of_block (heap_alloc_new _ _)) (by simp [Value.oneCell']) (by have := htk.out; unfold maxLen; omega) (by have := htk.out; omega) (by have := G.out.2.size; rw [World.size_alloc]; omega) ?_; intro v' w2 hown' hgrow _; have G2 := Lib.hid (G.out.next hown' hgrow); clear hown' hgrow)
        go_roundw
        case rel => exact ⟨m + 1, _, rfl, by go_num, by omega, by rw [E2.out]; exact G2.out⟩
        case measure => simp [intOf]; omega
      · by_cases hme : m = a.length
        · subst hme
          have e1 : keptN a t (a.length + 1) = keptN a t a.length := by
            unfold keptN
            rw [if_neg (by omega), if_pos (Nat.le_refl _), List.take_length, show a.length + 1 - a.length - 1 = 0 by omega, List.take_zero, List.append_nil]
          have G := Lib.hid hG
          have E1 := Lib.hid e1
          have n1 : ((a.length : Int) != (a.length : Int)) = false := by rw [bne, beq_self_eq_true]; rfl
          clear hG e1
          go_wp2
          go_roundw
          case rel => exact ⟨a.length + 1, _, rfl, by go_num, by omega, by rw [E1.out]; exact G.out⟩
          case measure => simp [intOf]; omega
        · obtain ⟨x, hx⟩ : ∃ x, t[m - a.length - 1]? = some x := ⟨_, List.getElem?_eq_getElem (by omega)⟩
          obtain ⟨g, rfl, c1, c2⟩ := CR.out wr hG.2 m x (by rw [List.getElem?_append_right (by omega), show m - a.length = m - a.length - 1 + 1 by omega, List.getElem?_cons_succ]; exact hx)
          have e1 : keptN a t m = a ++ t.take (m - a.length - 1) := by unfold keptN; rw [if_neg (by omega)]
          have e2 : keptN a t (m + 1) = a ++ t.take (m - a.length - 1) ++ [x] := by
            unfold keptN; rw [if_neg (by omega), show m + 1 - a.length - 1 = m - a.length - 1 + 1 by omega, take_succ' hx, List.append_assoc]
          rw [e1] at hG
          have G := Lib.hid hG
          have E2 := Lib.hid e2
          have htk := Lib.hid (show (a ++ t.take (m - a.length - 1)).length = m - 1 by rw [List.length_append, List.length_take]; omega)
          have n1 : ((m : Int) != (a.length : Int)) = true := by rw [bne_iff_ne]; omega
          clear hG hx e1 e2
          go_wp2_with (at_builtin; refine wpList_append_own _ rfl _ _ 26 rfl w.heap.size 45 i0 (.agg #[.int .i64 0, .int .i64 0]) 2 16 Try.underlying26 hi hz0 hz1 hz2 rfl (by decide) v8 _ _ (by rfl) (G.out.1.alloc _) ⟨wr.heap.size, 0, none⟩ 1 1 [.int .i64 (x.1 : Int), .int .i64 x.2] rfl rfl (World.news_of_block (heap_alloc_new _ _)) (by simp [Value.oneCell']) (by have := htk.out; unfold maxLen; omega) (by have := htk.out; omega) (by have := G.out.2.size; rw [World.size_alloc]; omega) ?_; intro v' w2 hown' hgrow _; have G2 := Lib.hid (G.out.next hown' hgrow); clear hown' hgrow)
          go_roundw
          case rel => exact ⟨m + 1, _, rfl, by go_num, by omega, by rw [E2.out]; exact G2.out⟩
          case measure => simp [intOf]; omega
    · obtain rfl : m = L := by omega
      have e : keptN a t m = a ++ t := by unfold keptN; rw [if_neg (by omega), List.take_of_length_le (by omega)]
      rw [e] at hG
      have hR := HR.out.below hG.2
      have z0 := hR.c
      have f0 : wr.frozen? ⟨r, 0, none⟩ = false := free_of z0
      have GG := Lib.hid (And.intro hG z0)
      obtain ⟨A8, c8, e8⟩ := (PRow.of_own hG.1).form
      generalize (a ++ t).length = N at e8
      subst e8
      clear hG hR z0 e
      go_wp2
      go_ret
      obtain ⟨⟨ho, hB⟩, z0⟩ := GG.out
      refine ⟨rfl, _, ⟨set28 z0 _, own_kept (own_down ho (Nat.zero_le _)) fun b' c hb hc => ?_⟩, (Off.of_below (S := fun b => b = r) hB).setCell (p := ⟨r, 0, none⟩) (.inl rfl) _, fun b' hb => (ho.lt b' hb).1⟩
      rw [heap_set_ne]
      · exact hc
      · rintro rfl
        rw [hc] at z0
        cases z0
/-- Drop: where the key is there, a new row is laid in. -/
theorem rdrop_calls (w : World) (r : Nat) (v : Value) (l : List (Nat × Int)) (h : RF w r l v) (hlen : l.length ≤ 1048576) (hs : Srt l) (k : Int) :
    Calls Try.prog 36 #[.pointer (some ⟨r, 0, none⟩), .int .i64 k] w fun e w' => e = .returned (.bool (valAt l k).isSome) ∧ RTurn w r v (dropL l k) w' ∧ ((valAt l k).isSome = true → RNew w r (dropL l k) w') := by
  rcases key_ways hs k with ⟨a, b, rfl, ha, hb, hv⟩ | ⟨a, x, t, rfl, rfl, ha, hb, hv⟩
  · rw [dropL_none hv, hv]
    refine (rdrop_no w r v a b h hlen k ha hb).mono ?_
    rintro e w' ⟨rfl, rfl⟩
    exact ⟨rfl, RTurn.same h (Below.refl _ _), fun h => by cases h⟩
  · rw [dropL_split ha rfl hb, hv]
    refine (rdrop_yes w r v a t x h hlen ha hb).mono ?_
    rintro e w' ⟨rfl, ht⟩
    exact ⟨rfl, ht.turn, fun _ => ht⟩
end Go.Proofs.Ythpjcbaijbppiaa
