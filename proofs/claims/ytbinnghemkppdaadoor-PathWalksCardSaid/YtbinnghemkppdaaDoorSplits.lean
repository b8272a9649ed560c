/- PathSplits: the law's walk. -/
import Derived.Test.YtbinnghemkppdaaDoorPureHDPathSplits
import Derived.Test.YtbinnghemkppdaaDoorOwn
namespace Go.Proofs.YtbinnghemkppdaaDoor
open Go.RowKit Go.Proofs Go.Proofs.YtbinnghemkppdaaDoorW.PrintWords Go.Proofs.YtbinnghemkppdaaDoor.PHDPathSplits
set_option linter.unusedVariables false
set_option linter.unusedSimpArgs false
attribute [local go_sem] Oper.semAt_some

theorem SRow.of_R {W : World} {base : Nat} {ok : Nat → Prop} {v : Value} {L : List ByteArray} (h : Kd.R Kd.string 9 W base ok v L) : SRow W base v L := SRow.of_own (Kd.own_of_R h)
theorem SRow.below {W W' : World} {base B : Nat} {v : Value} {L : List ByteArray} (h : SRow W base v L) (hB : W.heap.size ≤ B) (hb : Below B W W') : SRow W' base v L :=
  h.of_heap fun b hv => hb.block b (Nat.lt_of_lt_of_le (h.lt hv) hB)
theorem SRow.mono {W : World} {base base' : Nat} {v : Value} {L : List ByteArray} (h : SRow W base v L) (hb : base' ≤ base) : SRow W base' v L :=
  h.imp id fun ⟨g, c, cur, hv, hg, r⟩ => ⟨g, c, cur, hv, Nat.le_trans hb hg, r⟩
theorem SRow.reads {W : World} {base c : Nat} {A : Option Addr} {L : List ByteArray} (h : SRow W base (.slice A L.length c) L) (hl : L.length ≤ 1024) : Kd.C Kd.string W A L.length L ∧ L.length ≤ c := by
  refine ⟨Kd.C_of_reads (d := ByteArray.empty) ⟨rfl, by omega, fun h0 => ?_⟩, ?_⟩
  · obtain ⟨g, c', e, _, _⟩ := h.cell (List.getElem?_eq_getElem h0)
    simp only [Value.slice.injEq] at e
    obtain ⟨rfl, _, _⟩ := e
    refine ⟨⟨g, 0, none⟩, rfl, fun j hj => ?_⟩
    obtain ⟨g', c'', e', hc, _⟩ := h.cell (List.getElem?_eq_getElem hj)
    simp only [Value.slice.injEq, Option.some.injEq, Addr.mk.injEq] at e'
    obtain ⟨⟨rfl, _⟩, _⟩ := e'
    rw [Addr.add_lit, Nat.zero_add, hc, List.getD_eq_getElem?_getD, List.getElem?_eq_getElem hj]
    rfl
  · rcases h with ⟨e, rfl⟩ | ⟨g, c', cur, e, _, _, h1, _⟩
    · simp
    · simp only [Value.slice.injEq] at e
      obtain ⟨_, _, rfl⟩ := e
      exact h1
theorem refSplit_row (s : ByteArray) (hs : s.size ≤ 140737488351232) (w : World) :
    Calls Tryd.prog 9 #[.string s] w fun e w' => ∃ v, e = .returned (.tuple #[v, .int .i64 (splitR s).2]) ∧ SRow w' w.heap.size v (splitR s).1 ∧ Below w.heap.size w w' := by
  obtain ⟨K, hK⟩ := refsplit_ev s hs
  exact (shaleref16_Split.calls K s (splitR s).1 (splitR s).2 w (hK K (Nat.le_refl _))).mono fun e w' ⟨v, he, hr, hb⟩ => ⟨v, he, SRow.of_R hr, hb⟩
theorem pathSplit_row (s : ByteArray) (w : World) :
    Calls Tryd.prog 10 #[.string s] w fun e w' => ∃ v, e = .returned (.tuple #[v, .int .i64 (splitR s).2]) ∧ SRow w' w.heap.size v (splitR s).1 ∧ Below w.heap.size w w' :=
  (path_Split.calls s (splitR s).1 (splitR s).2 w (split_eq s)).mono fun e w' ⟨v, he, hr, hb⟩ => ⟨v, he, SRow.of_R hr, hb⟩
theorem same_l0 (L : List ByteArray) (hL : L.length ≤ 64) : ∀ n i, i ≤ L.length → L.length - i = n → ∀ k, n < k → shalelaw16_same.l0 k L L (i : Int) = some true
  | n, i, hi, hn, 0, hk => absurd hk (by omega)
  | 0, i, hi, hn, k + 1, hk => by rw [shalelaw16_same.l0, if_neg (by omega)]
  | n + 1, i, hi, hn, k + 1, hk => by
    rw [shalelaw16_same.l0, if_pos (by omega), if_pos (by omega), if_pos (by omega), if_pos rfl, w1 i (by omega), same_l0 L hL n (i + 1) (by omega) (by omega) k (by omega)]
theorem same_row {A A' : Option Addr} {c c' b b' : Nat} {L : List ByteArray} {w : World} (h : SRow w b (.slice A L.length c) L) (h' : SRow w b' (.slice A' L.length c') L) (hL : L.length ≤ 64) :
    Calls Tryd.prog 11 #[.slice A L.length c, .slice A' L.length c'] w fun e w' => e = .returned (.bool true) ∧ Drawn0 w w' := by
  obtain ⟨r1, c1⟩ := h.reads (by omega)
  obtain ⟨r2, c2⟩ := h'.reads (by omega)
  exact shalelaw16_same.calls (L.length + 1) A c L A' c' L true w r1 c1 r2 c2 (by
    unfold shalelaw16_same.f
    rw [if_pos rfl]
    exact same_l0 L hL L.length 0 (by omega) (by omega) _ (by omega))

set_option maxHeartbeats 4000000 in
theorem splits_walk (s o : ByteArray) (w : World) (hs : s.size ≤ 140737488351232) (ho : o.size ≤ 140737488351232) :
    Calls Tryd.prog 3 #[.string s, .string o] w fun e w' => e = .returned (.bool true) ∧ Below w.heap.size w w' := by
  have l1 := splitR_len s
  have l2 := splitR_len o
  obtain ⟨S, hS⟩ : ∃ S, splitR s = S := ⟨_, rfl⟩
  obtain ⟨O, hO⟩ : ∃ O, splitR o = O := ⟨_, rfl⟩
  have c1 := fun w => refSplit_row s hs w
  have c2 := fun w => refSplit_row o ho w
  have c3 := fun w => pathSplit_row s w
  have c4 := fun w => pathSplit_row o w
  rw [hS] at l1
  rw [hO] at l2
  simp only [hS] at c1 c3
  simp only [hO] at c2 c4
  have HC1 := Lib.hid c1
  have HC2 := Lib.hid c2
  have HC3 := Lib.hid c3
  have HC4 := Lib.hid c4
  clear c1 c2 c3 c4 hS hO
  obtain ⟨S1, S2⟩ := S
  obtain ⟨O1, O2⟩ := O
  go_enter Tryd.func3, Tryd.ntmps3
  go_wp2_with (go_at_call 9; fail)
  refine (HC1.out w).mono ?_
  rintro e w1 ⟨v1, rfl, r1, b1⟩
  obtain ⟨g1, n1, rfl⟩ := r1.shape
  have R1 := Lib.hid r1
  have B1 := Lib.hid b1
  clear r1 b1
  go_wp2_with (go_at_call 9; fail)
  refine (HC2.out w1).mono ?_
  rintro e w2 ⟨v2, rfl, r2, b2⟩
  obtain ⟨g2, n2, rfl⟩ := r2.shape
  have R2 := Lib.hid r2
  have B2 := Lib.hid b2
  clear r2 b2
  go_wp2_with (go_at_call 10; fail)
  refine (HC3.out w2).mono ?_
  rintro e w3 ⟨v3, rfl, r3, b3⟩
  obtain ⟨g3, n3, rfl⟩ := r3.shape
  have R3 := Lib.hid r3
  have B3 := Lib.hid b3
  clear r3 b3
  go_wp2_with (go_at_call 10; fail)
  refine (HC3.out w3).mono ?_
  rintro e w4 ⟨v4, rfl, r4, b4⟩
  obtain ⟨g4, n4, rfl⟩ := r4.shape
  have R4 := Lib.hid r4
  have B4 := Lib.hid b4
  clear r4 b4
  go_wp2_with (go_at_call 10; fail)
  refine (HC4.out w4).mono ?_
  rintro e w5 ⟨v5, rfl, r5, b5⟩
  obtain ⟨g5, n5, rfl⟩ := r5.shape
  have R5 := Lib.hid r5
  have B5 := Lib.hid b5
  clear r5 b5
  go_wp2_with (go_at_call 10; fail)
  refine (HC3.out w5).mono ?_
  rintro e w6 ⟨v6, rfl, r6, b6⟩
  obtain ⟨g6, n6, rfl⟩ := r6.shape
  have R6 := Lib.hid r6
  have B6 := Lib.hid b6
  clear r6 b6
  go_wp2_with (go_at_call 11; fail)
  have L1 := Lib.hid l1
  have L2 := Lib.hid l2
  clear l1 l2
  have st : ∀ {W W' : World} {b : Nat} {v : Value} {L : List ByteArray}, Below W.heap.size W W' → SRow W b v L → SRow W' b v L := fun hb h => h.below (Nat.le_refl _) hb
  have q1 := Lib.hid (st B6.out (st B5.out (st B4.out (st B3.out (st B2.out R1.out)))))
  have q2 := Lib.hid (st B6.out (st B5.out (st B4.out (st B3.out R2.out))))
  have q3 := Lib.hid (st B6.out (st B5.out (st B4.out R3.out)))
  have q4 := Lib.hid (st B6.out (st B5.out R4.out))
  have q5 := Lib.hid (st B6.out R5.out)
  refine (same_row q3.out q1.out L1.out).mono ?_
  rintro e w7 ⟨rfl, d7⟩
  have D7 := Lib.hid d7.below
  clear d7
  go_wp2_with (go_at_call 11; fail)
  refine (same_row (st D7.out q4.out) (st D7.out q1.out) L1.out).mono ?_
  rintro e w8 ⟨rfl, d8⟩
  have D8 := Lib.hid d8.below
  clear d8
  go_wp2_with (go_at_call 11; fail)
  refine (same_row (st D8.out (st D7.out R6.out)) (st D8.out (st D7.out q1.out)) L1.out).mono ?_
  rintro e w9 ⟨rfl, d9⟩
  have D9 := Lib.hid d9.below
  clear d9
  go_wp2_with (go_at_call 11; fail)
  refine (same_row (st D9.out (st D8.out (st D7.out q5.out))) (st D9.out (st D8.out (st D7.out q2.out))) L2.out).mono ?_
  rintro e wx ⟨rfl, d10⟩
  have D10 := Lib.hid d10.below
  clear d10
  go_wp2_with (go_at_call 12; fail)
  have stx : ∀ {b : Nat} {v : Value} {L : List ByteArray}, SRow w6 b v L → SRow wx b v L := fun h => st D10.out (st D9.out (st D8.out (st D7.out h)))
  have z1 := B1.out.size
  have z2 := B2.out.size
  have z3 := B3.out.size
  have z4 := B4.out.size
  have z5 := B5.out.size
  have z6 := B6.out.size
  have z7 := D7.out.size
  have z8 := D8.out.size
  have z9 := D9.out.size
  have z10 := D10.out.size
  have l1 := L1.out
  have l2 := L2.out
  refine (own_four (stx q3.out) (stx q4.out) (stx q5.out) (stx R6.out) (fun b hb => R3.out.lt hb) (fun b hb => R4.out.lt hb) (fun b hb => R5.out.lt hb) (by omega) (by omega) (by omega) (by omega) (Nat.le_trans l1 (by decide)) (Nat.le_trans l1 (by decide)) (Nat.le_trans l2 (by decide)) (Nat.le_trans l1 (by decide))).mono ?_
  rintro e wz ⟨rfl, bz⟩
  have BZ := Lib.hid bz
  clear bz z1 z2 z3 z4 z5 z6 z7 z8 z9 z10 l1 l2
  have z1 := B1.out.size
  have z2 := B2.out.size
  have z3 := B3.out.size
  have z4 := B4.out.size
  have z5 := B5.out.size
  have z6 := B6.out.size
  have z7 := D7.out.size
  have z8 := D8.out.size
  have z9 := D9.out.size
  have f := ((((((((((B1.out.trans (B2.out.mono z1)).trans (B3.out.mono (by omega))).trans (B4.out.mono (by omega))).trans (B5.out.mono (by omega))).trans (B6.out.mono (by omega))).trans (D7.out.mono (by omega))).trans (D8.out.mono (by omega))).trans (D9.out.mono (by omega))).trans (D10.out.mono (by omega))).alloc
    (by have := D10.out.size; omega) (.cells #[.slice g3 S1.length n3, .slice g4 S1.length n4, .slice g5 O1.length n5, .slice g6 S1.length n6] 22)).trans (BZ.out.mono (by omega))
  have F := Lib.hid f
  clear z1 z2 z3 z4 z5 z6 z7 z8 z9 f
  go_wp2
  go_ret
  exact ⟨rfl, F.out⟩
end Go.Proofs.YtbinnghemkppdaaDoor
