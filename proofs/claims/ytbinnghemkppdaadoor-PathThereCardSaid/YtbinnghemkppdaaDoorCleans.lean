/- PathCleans: the law's walk. -/
import Derived.Test.YtbinnghemkppdaaDoorPureHDPathCleans
import Derived.Test.YtbinnghemkppdaaDoorParent
namespace Go.Proofs.YtbinnghemkppdaaDoor
open Go.RowKit Go.Proofs Go.Proofs.YtbinnghemkppdaaDoorW.PrintWords
set_option linter.unusedVariables false
set_option linter.unusedSimpArgs false
attribute [local go_sem] Oper.semAt_some

theorem refClean_row (s : ByteArray) (hs : s.size ≤ 140737488351232) (w : World) : Calls Tryd.prog 20 #[.string s] w fun e w' => e = .returned (.tuple #[.string (cleanR s).1, .int .i64 (cleanR s).2]) ∧ Below w.heap.size w w' := by
  obtain ⟨K, hK⟩ := PHDPathCleans.refClean_ev s hs
  exact PHDPathCleans.shaleref16_Clean.calls K s (cleanR s).1 (cleanR s).2 w (hK K (Nat.le_refl _))
theorem pathClean_row (s : ByteArray) (w : World) : Calls Tryd.prog 21 #[.string s] w fun e w' => e = .returned (.tuple #[.string (cleanR s).1, .int .i64 (cleanR s).2]) ∧ Below w.heap.size w w' := by
  obtain ⟨K, hK⟩ := PHDPathCleans.Clean_ev s
  exact PHDPathCleans.path_Clean.calls K s (cleanR s).1 (cleanR s).2 w (hK K (Nat.le_refl _))
theorem parentR_len (s : ByteArray) : (parentR s).1.length ≤ 64 := by
  have l1 := splitR_len s
  unfold parentR
  split
  · split
    · simp
    · split
      · simp
      · simp; omega
  · simp

set_option maxHeartbeats 4000000 in
theorem cleans_walk (s o : ByteArray) (w : World) (hs : s.size ≤ 140737488351232) (ho : o.size ≤ 140737488351232) :
    Calls Tryd.prog 6 #[.string s, .string o] w fun e w' => e = .returned (.bool true) ∧ Below w.heap.size w w' := by
  have l1 := parentR_len s
  have l2 := parentR_len o
  obtain ⟨C, hC⟩ : ∃ C, cleanR s = C := ⟨_, rfl⟩
  obtain ⟨S, hS⟩ : ∃ S, parentR s = S := ⟨_, rfl⟩
  obtain ⟨O, hO⟩ : ∃ O, parentR o = O := ⟨_, rfl⟩
  have c1 := fun w => refClean_row s hs w
  have c2 := fun w => pathClean_row s w
  have c3 := fun w => refParent_row s hs w
  have c4 := fun w => pathParent_row s w
  have c5 := fun w => refParent_row o ho w
  have c6 := fun w => pathParent_row o w
  rw [hS] at l1
  rw [hO] at l2
  simp only [hC] at c1 c2
  simp only [hS] at c3 c4
  simp only [hO] at c5 c6
  obtain ⟨C1, C2⟩ := C
  obtain ⟨S1, S2, S3⟩ := S
  obtain ⟨O1, O2, O3⟩ := O
  have HC1 := Lib.hid c1
  have HC2 := Lib.hid c2
  have HC3 := Lib.hid c3
  have HC4 := Lib.hid c4
  have HC5 := Lib.hid c5
  have HC6 := Lib.hid c6
  have L1 := Lib.hid l1
  have L2 := Lib.hid l2
  clear c1 c2 c3 c4 c5 c6 hC hS hO l1 l2
  go_enter Tryd.func6, Tryd.ntmps6
  go_wp2_with (go_at_call 20; fail)
  refine (HC1.out w).mono ?_
  rintro e wa ⟨rfl, ba⟩
  have BA := Lib.hid ba
  clear ba
  go_wp2_with (go_at_call 21; fail)
  refine (HC2.out wa).mono ?_
  rintro e wb ⟨rfl, bb⟩
  have BB := Lib.hid bb
  clear bb
  go_wp2_with (go_at_call 22; fail)
  refine (HC3.out wb).mono ?_
  rintro e w1 ⟨v1, rfl, r1, b1⟩
  obtain ⟨g1, n1, rfl⟩ := r1.shape
  have R1 := Lib.hid r1
  have B1 := Lib.hid b1
  clear r1 b1
  go_wp2_with (go_at_call 23; fail)
  refine (HC4.out w1).mono ?_
  rintro e w2 ⟨v2, rfl, r2, b2⟩
  obtain ⟨g2, n2, rfl⟩ := r2.shape
  have R2 := Lib.hid r2
  have B2 := Lib.hid b2
  clear r2 b2
  go_wp2_with (go_at_call 23; fail)
  refine (HC4.out w2).mono ?_
  rintro e w3 ⟨v3, rfl, r3, b3⟩
  obtain ⟨g3, n3, rfl⟩ := r3.shape
  have R3 := Lib.hid r3
  have B3 := Lib.hid b3
  clear r3 b3
  go_wp2_with (go_at_call 22; fail)
  refine (HC5.out w3).mono ?_
  rintro e w4 ⟨v4, rfl, r4, b4⟩
  obtain ⟨g4, n4, rfl⟩ := r4.shape
  have R4 := Lib.hid r4
  have B4 := Lib.hid b4
  clear r4 b4
  go_wp2_with (go_at_call 23; fail)
  refine (HC6.out w4).mono ?_
  rintro e w5 ⟨v5, rfl, r5, b5⟩
  obtain ⟨g5, n5, rfl⟩ := r5.shape
  have R5 := Lib.hid r5
  have B5 := Lib.hid b5
  clear r5 b5
  go_wp2_with (go_at_call 23; fail)
  refine (HC4.out w5).mono ?_
  rintro e w6 ⟨v6, rfl, r6, b6⟩
  obtain ⟨g6, n6, rfl⟩ := r6.shape
  have R6 := Lib.hid r6
  have B6 := Lib.hid b6
  clear r6 b6
  have st : ∀ {W W' : World} {b : Nat} {v : Value} {L : List ByteArray}, Below W.heap.size W W' → SRow W b v L → SRow W' b v L := fun hb h => h.below (Nat.le_refl _) hb
  have q1 := Lib.hid (st B6.out (st B5.out (st B4.out (st B3.out (st B2.out R1.out)))))
  have q2 := Lib.hid (st B6.out (st B5.out (st B4.out (st B3.out R2.out))))
  have q3 := Lib.hid (st B6.out (st B5.out (st B4.out R3.out)))
  have q4 := Lib.hid (st B6.out (st B5.out R4.out))
  have q5 := Lib.hid (st B6.out R5.out)
  go_wp2_with (go_at_call 11; fail)
  refine (same_row q2.out q1.out L1.out).mono ?_
  rintro e w7 ⟨rfl, d7⟩
  have D7 := Lib.hid d7.below
  clear d7
  go_wp2_with (go_at_call 11; fail)
  refine (same_row (st D7.out q3.out) (st D7.out q1.out) L1.out).mono ?_
  rintro e w8 ⟨rfl, d8⟩
  have D8 := Lib.hid d8.below
  clear d8
  go_wp2_with (go_at_call 11; fail)
  refine (same_row (st D8.out (st D7.out R6.out)) (st D8.out (st D7.out q1.out)) L1.out).mono ?_
  rintro e w9 ⟨rfl, d9⟩
  have D9 := Lib.hid d9.below
  clear d9
  go_wp2_with (go_at_call 11; fail)
  refine (same_row (st D9.out (st D8.out (st D7.out q5.out))) (st D9.out (st D8.out (st D7.out q4.out))) L2.out).mono ?_
  rintro e wx ⟨rfl, d10⟩
  have D10 := Lib.hid d10.below
  clear d10
  go_wp2_with (go_at_call 12; fail)
  have stx : ∀ {b : Nat} {v : Value} {L : List ByteArray}, SRow w6 b v L → SRow wx b v L := fun h => st D10.out (st D9.out (st D8.out (st D7.out h)))
  have za := BA.out.size
  have zb := BB.out.size
  have z1 := B1.out.size
  have z2 := B2.out.size
  have z3 := B3.out.size
  have z4 := B4.out.size
  have z5 := B5.out.size
  have z6 := B6.out.size
  have z7 := D7.out.size
  have z8 := D8.out.size
  have z9 := D9.out.size
  have z10 := D10.out.size
  have l1 := L1.out
  have l2 := L2.out
  refine (own_four (S1 := w2.heap.size) (S2 := w4.heap.size) (stx q2.out) (stx q3.out) (stx q5.out) (stx R6.out) (fun b hb => R2.out.lt hb) (fun b hb => Nat.lt_of_lt_of_le (R3.out.lt hb) z4) (fun b hb => R5.out.lt hb) (by omega) (by omega) (by omega) (by omega) (Nat.le_trans l1 (by decide)) (Nat.le_trans l1 (by decide)) (Nat.le_trans l2 (by decide)) (Nat.le_trans l1 (by decide))).mono ?_
  rintro e wz ⟨rfl, bz⟩
  have f := ((((((((((((BA.out.trans (BB.out.mono za)).trans (B1.out.mono (by omega))).trans (B2.out.mono (by omega))).trans (B3.out.mono (by omega))).trans (B4.out.mono (by omega))).trans (B5.out.mono (by omega))).trans (B6.out.mono (by omega))).trans (D7.out.mono (by omega))).trans (D8.out.mono (by omega))).trans (D9.out.mono (by omega))).trans (D10.out.mono (by omega))).alloc
    (by omega) (.cells #[.slice g2 S1.length n2, .slice g3 S1.length n3, .slice g5 O1.length n5, .slice g6 S1.length n6] 22)).trans (bz.mono (by omega))
  have F := Lib.hid f
  clear za zb z1 z2 z3 z4 z5 z6 z7 z8 z9 z10 f l1 l2 bz
  go_wp2
  go_ret
  exact ⟨rfl, F.out⟩
end Go.Proofs.YtbinnghemkppdaaDoor
