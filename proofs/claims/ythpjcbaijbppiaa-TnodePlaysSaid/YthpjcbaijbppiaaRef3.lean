/- The document's tree: Put. -/
import Derived.Test.YthpjcbaijbppiaaRef2
namespace Go.Proofs.Ythpjcbaijbppiaa
open Go.RowKit Go.Proofs
set_option linter.unusedVariables false
set_option linter.unusedSimpArgs false
set_option maxRecDepth 100000
theorem encP_set (a t : List (Nat × Int)) (x : Nat × Int) (u : Int) : (encP (a ++ x :: t)).set (a.length * 2 + 1) (.int .i64 u) = encP (a ++ (x.1, u) :: t) := by
  rw [encP_append, encP_append, ← encP_length a, List.set_append_right _ _ (by omega), show (encP a).length + 1 - (encP a).length = 1 by omega]
  rfl
theorem rput_bad (w : World) (r : Nat) (k u : Int) (hk : k < 0 ∨ 1048575 < k) :
    Calls Try.prog 34 #[.pointer (some ⟨r, 0, none⟩), .int .i64 k, .int .i64 u] w fun e w' => e = .returned (.int .i64 90) ∧ w = w' := by
  by_cases h0 : k < 0
  · go_enter Try.func34, Try.ntmps34
    go_wp2
    go_ret
    exact ⟨rfl, rfl⟩
  · have h1 : 1048575 < k := by omega
    clear hk
    go_enter Try.func34, Try.ntmps34
    go_wp2
    go_ret
    exact ⟨rfl, rfl⟩
theorem rput_there (w : World) (r : Nat) (v : Value) (a t : List (Nat × Int)) (x : Nat × Int) (h : RF w r (a ++ x :: t) v) (hlen : (a ++ x :: t).length ≤ 1048576) (hx : x.1 < 1048576) (ha : ∀ y ∈ a, (y.1 : Int) < (x.1 : Int)) (hb : ∀ y ∈ t, (x.1 : Int) < (y.1 : Int)) (u : Int) :
    Calls Try.prog 34 #[.pointer (some ⟨r, 0, none⟩), .int .i64 (x.1 : Int), .int .i64 u] w fun e w' => e = .returned (.int .i64 0) ∧ RTurn w r v (a ++ (x.1, u) :: t) w' := by
  have HC := Lib.hid (has_some w r v a t x h hlen ha hb)
  have PC := Lib.hid (place_calls w r v a (x :: t) h hlen x.1 ha fun y hy => by
    rcases List.mem_cons.1 hy with rfl | hy
    · exact Int.le_refl _
    · exact Int.le_of_lt (hb y hy))
  have c0 := h.cell
  have z0 := h.c
  have hne := h.ne
  obtain ⟨g, cap, cur, rfl, hh, hcap, hm, hs, ht, hc⟩ := h.row (by rw [List.length_append, List.length_cons]; omega)
  obtain ⟨c1, c2⟩ := hc a.length x (by rw [List.getElem?_append_right (Nat.le_refl _)]; simp)
  have f0 : w.frozen? ⟨g, a.length * 2 + 1, none⟩ = false := free_of hh
  have Z := Lib.hid (And.intro z0 (And.intro hh (And.intro ht (And.intro (fun e => hne (by rw [e]; rfl) : g ≠ r) (And.intro hs (And.intro hcap hm))))))
  rw [List.length_append, List.length_cons] at c0 hlen
  have hl2 : a.length < a.length + (t.length + 1) := by omega
  have hl3 : (a.length : Int) < (a.length : Int) + ((t.length : Int) + 1) := by omega
  clear h ha hb hc hh hcap hm hs ht hne z0
  go_enter Try.func34, Try.ntmps34
  go_wp2_with fail
  refine PC.out.mono ?_
  rintro e w' ⟨rfl, rfl⟩
  go_wp2_with fail
  refine HC.out.mono ?_
  rintro e w' ⟨rfl, rfl⟩
  go_wp2
  go_ret
  obtain ⟨z0, hh, ht, hne, hs, hcap, hm⟩ := Z.out
  refine ⟨rfl, .slice (some ⟨g, 0, none⟩) (a ++ x :: t).length cap, ⟨(heap_set_ne _ (fun e => hne e.symm)).trans z0, encP_length _, .inr ⟨g, cap, _, by rw [List.length_append, List.length_append, List.length_cons, List.length_cons], Nat.zero_le _, heap_set_same hh _, by rw [List.length_append, List.length_cons] at hcap ⊢; exact hcap, hm, by simpa using hs, ?_⟩⟩, (Off.refl (RB r _) w).setCell (p := ⟨g, a.length * 2 + 1, none⟩) (.inl (.inr rfl)) _, fun b hb => .inl hb⟩
  rw [Array.toList_setIfInBounds, List.take_set, show (a ++ (x.1, u) :: t).length = (a ++ x :: t).length by rw [List.length_append, List.length_append, List.length_cons, List.length_cons], ht, encP_set]
/-- A new row that grows, nothing else. -/
def Grow (w wx : World) (v : Value) (xs : List (Nat × Int)) : Prop := wx.ownsRow w.heap.size 45 2 v xs.length (encP xs) ∧ Below w.heap.size w wx
theorem Grow.next {w wr w1 : World} {v v' : Value} {xs : List (Nat × Int)} {x : Nat × Int} {tmp : Obj} (h : Grow w wr v xs) (hn : w1.ownsRow w.heap.size 45 2 v' (xs.length + 1) (encP xs ++ [.int .i64 (x.1 : Int), .int .i64 x.2])) (hg : (wr.alloc tmp).grownBy w1 v.ownBlock) : Grow w w1 v' (xs ++ [x]) := by
  refine ⟨by rw [List.length_append, encP_append, encP_one]; exact hn, (h.2.alloc h.2.size _).grown hg (by rw [World.size_alloc]; have := h.2.size; omega) fun k e => (h.1.lt k e).1⟩
theorem rput_new (w : World) (r : Nat) (v : Value) (a b : List (Nat × Int)) (h : RF w r (a ++ b) v) (hlen : (a ++ b).length ≤ 1048576) (k : Nat) (hk : k < 1048576) (ha : ∀ x ∈ a, (x.1 : Int) < (k : Int)) (hb : ∀ x ∈ b, (k : Int) < (x.1 : Int)) (u : Int) :
    Calls Try.prog 34 #[.pointer (some ⟨r, 0, none⟩), .int .i64 (k : Int), .int .i64 u] w fun e w' => e = .returned (.int .i64 0) ∧ RNew w r (a ++ (k, u) :: b) w' := by
  obtain ⟨i0, hi, hz0, hz1, hz2⟩ := info_parts info45
  have HC := Lib.hid (has_none w r v a b h hlen k ha hb)
  have PC := Lib.hid (place_calls w r v a b h hlen k ha fun x hx => Int.le_of_lt (hb x hx))
  have HR := Lib.hid h
  have c0 := h.cell
  obtain ⟨A, cap, rfl⟩ := h.form
  obtain ⟨L, hL⟩ : ∃ L, (a ++ b).length = L := ⟨_, rfl⟩
  have hLa : a.length + b.length = L := by rw [← hL, List.length_append]
  rw [hL] at c0 hlen HR
  clear h hL ha hb
  have CC : ∀ W, Below w.heap.size w W → W.cell? ⟨r, 0, none⟩ = some (.slice A L cap) := fun W hB => (HR.out.below hB).cell
  have CC := Lib.hid CC
  go_enter Try.func34, Try.ntmps34
  go_wp2_with fail
  refine PC.out.mono ?_
  rintro e w' ⟨rfl, rfl⟩
  go_wp2_with fail
  refine HC.out.mono ?_
  rintro e w' ⟨rfl, rfl⟩
  go_wp2_with (at_make; refine wpList_make_own _ rfl _ _ 26 rfl w.heap.size 45 i0 (.agg #[.int .i64 0, .int .i64 0]) 2 Try.underlying26 hi hz0 hz1 _ _ _ (L + 1) rfl rfl (by omega) (by rw [hz2]; omega) (by unfold maxLen; omega) (Nat.le_refl _) ?_; intro w1 hown hgrow; have G0 := Lib.hid (show Grow w w1 (.slice (some ⟨w.heap.size, 0, none⟩) 0 (L + 1)) [] from ⟨hown, (Below.refl _ _).grown hgrow (Nat.le_refl _) fun k e => (by cases e)⟩); clear hown hgrow)
  have CR : ∀ W, Below w.heap.size w W → ∀ (i : Nat) x, (a ++ b)[i]? = some x → ∃ g, A = some ⟨g, 0, none⟩ ∧ W.cell? ⟨g, i * 2, none⟩ = some (.int .i64 (x.1 : Int)) ∧ W.cell? ⟨g, i * 2 + 1, none⟩ = some (.int .i64 x.2) := fun W hB i x hx => by
    obtain ⟨g, cap', cur, hv, _, _, _, _, _, hc⟩ := (HR.out.below hB).row (by have := (List.getElem?_eq_some_iff.1 hx).1; omega)
    injection hv with e1 e2 e3
    exact ⟨g, e1, hc i x hx⟩
  have CR := Lib.hid CR
  have cc0 := CC.out w1 G0.out.2
  clear PC HC c0
  go_loopw [8, 9] (fun s8 s9 wx => ∃ (i : Nat) (v8 : Value), v8 = s8 ∧ s9 = .int .i64 (i : Int) ∧ i ≤ a.length ∧ Grow w wx s8 (a.take i)) (fun _ s9 _ => a.length - (intOf s9).toNat)
  case atStart => exact ⟨0, _, rfl, rfl, by omega, G0.out⟩
  case round =>
    obtain ⟨i, v8, rfl, rfl, hia, hG⟩ := hrel
    have G := Lib.hid hG
    have c0 := CC.out wr hG.2
    by_cases hlt : i < a.length
    · obtain ⟨x, hx⟩ : ∃ x, a[i]? = some x := ⟨_, List.getElem?_eq_getElem hlt⟩
      obtain ⟨g, rfl, c1, c2⟩ := CR.out wr hG.2 i x (by rw [List.getElem?_append_left hlt]; exact hx)
      have HT := Lib.hid (take_succ' hx)
      have hlt' : i < L := by omega
      have htk := Lib.hid (show (a.take i).length = i by rw [List.length_take]; omega)
      clear hG hx cc0
      go_wp2_with (at_builtin; refine wpList_append_own _ rfl _ _ 26 rfl w.heap.size 45 i0 (.agg #[.int .i64 0, .int .i64 0]) 2 16 Try.underlying26 hi hz0 hz1 hz2 rfl (by decide) v8 _ _ (by rfl) (G.out.1.alloc _) ⟨wr.heap.size, 0, none⟩ 1 1 [.int .i64 (x.1 : Int), .int .i64 x.2] rfl rfl (World.news_of_block (heap_alloc_new _ _)) (by simp [Value.oneCell']) (by have := htk.out; unfold maxLen; omega) (by have := htk.out; omega) (by have := G.out.2.size; rw [World.size_alloc]; omega) ?_; intro v' w2 hown' hgrow _; have G2 := Lib.hid (G.out.next hown' hgrow); clear hown' hgrow)
      go_roundw
      case rel => exact ⟨i + 1, _, rfl, by go_num, by omega, by rw [HT.out]; exact G2.out⟩
      case measure => simp [intOf]; omega
    · obtain rfl : i = a.length := by omega
      rw [List.take_length] at hG
      have G1 := Lib.hid hG
      clear hG G hlt cc0
      go_wp2_with (at_builtin; refine wpList_append_own _ rfl _ _ 26 rfl w.heap.size 45 i0 (.agg #[.int .i64 0, .int .i64 0]) 2 16 Try.underlying26 hi hz0 hz1 hz2 rfl (by decide) v8 _ _ (by rfl) (G1.out.1.alloc _) ⟨wr.heap.size, 0, none⟩ 1 1 [.int .i64 (k : Int), .int .i64 u] rfl rfl (World.news_of_block (heap_alloc_new _ _)) (by simp [Value.oneCell']) (by have := hLa; unfold maxLen; omega) (by have := hLa; omega) (by have := G1.out.2.size; rw [World.size_alloc]; omega) ?_; intro v' w2 hown' hgrow _; have G2 := Lib.hid (G1.out.next (x := (k, u)) hown' hgrow); clear hown' hgrow)
      have c0 := CC.out w2 G2.out.2
      go_wp2
      have G3 := Lib.hid G2.out
      go_loopw [8, 10] (fun s8 s10 wx => ∃ (m : Nat) (v8 : Value), v8 = s8 ∧ s10 = .int .i64 (m : Int) ∧ a.length ≤ m ∧ m ≤ L ∧ Grow w wx s8 (a ++ [(k, u)] ++ b.take (m - a.length))) (fun _ s10 _ => L - (intOf s10).toNat)
      case atStart => exact ⟨a.length, _, rfl, rfl, by omega, by omega, by rw [Nat.sub_self, List.take_zero, List.append_nil]; exact G3.out⟩
      case round =>
        clear G2 G3
        obtain ⟨m, v8, rfl, rfl, ham, hmL, hG⟩ := hrel
        have G := Lib.hid hG
        have c0 := CC.out wr hG.2
        by_cases hlt : m < L
        · obtain ⟨x, hx⟩ : ∃ x, b[m - a.length]? = some x := ⟨_, List.getElem?_eq_getElem (by omega)⟩
          obtain ⟨g, rfl, c1, c2⟩ := CR.out wr hG.2 m x (by rw [List.getElem?_append_right ham]; exact hx)
          have HT := Lib.hid (take_succ' hx)
          have htk := Lib.hid (show (a ++ [(k, u)] ++ b.take (m - a.length)).length = m + 1 by rw [List.length_append, List.length_append, List.length_take, List.length_cons, List.length_nil]; omega)
          clear hG hx
          go_wp2_with (at_builtin; refine wpList_append_own _ rfl _ _ 26 rfl w.heap.size 45 i0 (.agg #[.int .i64 0, .int .i64 0]) 2 16 Try.underlying26 hi hz0 hz1 hz2 rfl (by decide) v8 _ _ (by rfl) (G.out.1.alloc _) ⟨wr.heap.size, 0, none⟩ 1 1 [.int .i64 (x.1 : Int), .int .i64 x.2] rfl rfl (World.news_of_block (heap_alloc_new _ _)) (by simp [Value.oneCell']) (by have := htk.out; unfold maxLen; omega) (by have := htk.out; omega) (by have := G.out.2.size; rw [World.size_alloc]; omega) ?_; intro v' w2 hown' hgrow _; have G2 := Lib.hid (G.out.next hown' hgrow); clear hown' hgrow)
          go_roundw
          case rel => exact ⟨m + 1, _, rfl, by go_num, by omega, by omega, by rw [show m + 1 - a.length = m - a.length + 1 by omega, HT.out, ← List.append_assoc]; exact G2.out⟩
          case measure => simp [intOf]; omega
        · obtain rfl : m = L := by omega
          have e : b.take (m - a.length) = b := List.take_of_length_le (by omega)
          have e2 : a ++ [(k, u)] ++ b = a ++ (k, u) :: b := by rw [List.append_assoc]; rfl
          rw [e, e2] at hG
          have hR := HR.out.below hG.2
          have z0 := hR.c
          have f0 : wr.frozen? ⟨r, 0, none⟩ = false := free_of z0
          have GG := Lib.hid (And.intro hG z0)
          obtain ⟨A8, c8, e8⟩ := (PRow.of_own hG.1).form
          generalize (a ++ (k, u) :: b).length = N at e8
          subst e8
          clear hG G hR z0
          go_wp2
          go_ret
          obtain ⟨⟨ho, hB⟩, z0⟩ := GG.out
          refine ⟨rfl, _, ⟨set28 z0 _, own_kept (own_down ho (Nat.zero_le _)) fun b' c hb hc => ?_⟩, (Off.of_below (S := fun b => b = r) hB).setCell (p := ⟨r, 0, none⟩) (.inl rfl) _, fun b' hb => (ho.lt b' hb).1⟩
          rw [heap_set_ne]
          · exact hc
          · rintro rfl
            rw [hc] at z0
            cases z0
theorem rput_calls (w : World) (r : Nat) (v : Value) (l : List (Nat × Int)) (h : RF w r l v) (hlen : l.length ≤ 1048576) (hs : Srt l) (k u : Int) :
    Calls Try.prog 34 #[.pointer (some ⟨r, 0, none⟩), .int .i64 k, .int .i64 u] w fun e w' => e = .returned (.int .i64 (putR k)) ∧ RTurn w r v (putL l k u) w' := by
  unfold putL putR
  by_cases hm : mayB k = true
  · rw [if_pos hm, if_pos hm]
    have hm' := of_decide_eq_true hm
    obtain ⟨j, rfl⟩ : ∃ j : Nat, k = j := ⟨k.toNat, by omega⟩
    rw [Int.toNat_natCast]
    rcases key_ways hs j with ⟨a, b, rfl, ha, hb, hv⟩ | ⟨a, x, t, rfl, hx, ha, hb, hv⟩
    · rw [insL_split ha, insL_above hb]
      refine (rput_new w r v a b h hlen j (by omega) ha hb u).mono ?_
      rintro e w' ⟨rfl, ht⟩
      exact ⟨rfl, ht.turn⟩
    · obtain rfl : j = x.1 := by omega
      rw [insL_split ha, insL_head rfl]
      exact rput_there w r v a t x h hlen (by omega) ha hb u
  · rw [if_neg hm, if_neg hm]
    have hm' : k < 0 ∨ 1048575 < k := by
      have : ¬ (0 ≤ k ∧ k ≤ 1048575) := fun h => hm (decide_eq_true h)
      omega
    refine (rput_bad w r k u hm').mono ?_
    rintro e w' ⟨rfl, rfl⟩
    exact ⟨rfl, RTurn.same h (Below.refl _ _)⟩
end Go.Proofs.Ythpjcbaijbppiaa
