/- NodePacks: the law's walk. -/
import Derived.Test.YtljamhpdgmelcaaDoorRefPack
import Derived.Test.YtljamhpdgmelcaaDoorOwn
import Derived.Laws.BytesArg
namespace Go.Proofs.YtljamhpdgmelcaaDoor
open Go.RowKit Go.Proofs Go.Proofs.YtljamhpdgmelcaaDoorW.PrintWords
set_option linter.unusedVariables false
set_option linter.unusedSimpArgs false
attribute [local go_sem] Oper.semAt_some

theorem bytesB_len (n : Nd) : (bytesB n).length = 25 + n.name.size + n.target.size := by simp [bytesB, headB_len, textL, bytesOf_len]; omega
theorem packB_len (n : Nd) : (packB n).length ≤ 215 := by
  unfold packB
  split
  · rename_i h
    have F := fine_of h
    have := F.nl
    have := F.tl
    rw [bytesB_len]
    omega
  · simp
theorem SRow.conv {W : World} {base c n : Nat} {A : Option Addr} {L : List Int} (h : SRow W base (.slice A n c) L) :
    (Go.convert 22 9 (.slice A n c)).run Tryd.prog W = .ok (.string (strOfNums L)) W := by
  rcases h with ⟨e, rfl⟩ | ⟨g, c', cur, e, _, hg, h1, h2, h3⟩
  · simp only [Value.slice.injEq] at e
    obtain ⟨rfl, rfl, rfl⟩ := e
    exact run_convert_bytes_nil W 22 5 Tryd.underlying22 Tryd.underlying5 0 0 9 Tryd.underlying9
  · simp only [Value.slice.injEq] at e
    obtain ⟨rfl, rfl, rfl⟩ := e
    refine run_convert_bytes_arg W 22 5 Tryd.underlying22 Tryd.underlying5 g 0 L.length c L rfl (fun i hi => ?_) 9 Tryd.underlying9
    have : (cur.toList.take L.length)[i]? = some (.int .u8 (L.getD i 0)) := by
      rw [h3, List.getElem?_map, List.getElem?_eq_getElem hi, List.getD_eq_getElem?_getD, List.getElem?_eq_getElem hi]
      rfl
    rw [List.getElem?_take, if_pos hi, Array.getElem?_toList] at this
    rw [Nat.zero_add]
    simp [World.cell?, hg, this]
/-- A header lies boxed at b. -/
def BoxN (n : Nd) (b : Nat) (W : World) : Prop := (∀ (j : Nat) v, n.cs[j]? = some v → W.cell? ⟨b, j, none⟩ = some v)
theorem BoxN.below {n : Nd} {b : Nat} {W W' : World} (h : BoxN n b W) (hb : Below W.heap.size W W') : BoxN n b W' := fun j v hv => (hb.cell (lt_of_cell (h j v hv))).trans (h j v hv)
theorem BoxN.new (n : Nd) (W : World) : BoxN n W.heap.size (W.alloc (.cells n.cs.toArray 25)) := fun j v hv => by
  rw [World.cell?_alloc_at _ _ _ _ rfl]
  simpa using hv

set_option maxHeartbeats 4000000 in
theorem packs_walk (n m : Nd) (w : World) (hG : Gl w) (hn0 : 0 ≤ n.stamp) (hn1 : n.stamp < 18446744073709551616) (hm0 : 0 ≤ m.stamp) (hm1 : m.stamp < 18446744073709551616) :
    Calls Tryd.prog 4 #[n.v, m.v] w fun e w' => e = .returned (.bool true) ∧ Below w.heap.size w w' := by
  have l1 := packB_len n
  have l2 := packB_len m
  obtain ⟨S, hS⟩ : ∃ S, packB n = S := ⟨_, rfl⟩
  obtain ⟨O, hO⟩ : ∃ O, packB m = O := ⟨_, rfl⟩
  obtain ⟨s, hs⟩ : ∃ s, checkNo n = s := ⟨_, rfl⟩
  obtain ⟨t, ht⟩ : ∃ t, checkNo m = t := ⟨_, rfl⟩
  have c1 := fun w => refPack_row n hn0 hn1 w
  have c2 := fun w => refPack_row m hm0 hm1 w
  have c3 := fun w g => pack_row n hn0 hn1 w g
  have c4 := fun w g => pack_row m hm0 hm1 w g
  rw [hS] at l1
  rw [hO] at l2
  simp only [hS, hs] at c1 c3
  simp only [hO, ht] at c2 c4
  have HC1 := Lib.hid c1
  have HC2 := Lib.hid c2
  have HC3 := Lib.hid c3
  have HC4 := Lib.hid c4
  have L1 := Lib.hid l1
  have L2 := Lib.hid l2
  have HG := Lib.hid hG
  clear c1 c2 c3 c4 hS hO hs ht l1 l2 hG hn0 hn1 hm0 hm1
  obtain ⟨a0, a1, a2, a3, a4, a5, a6, a7⟩ := n
  obtain ⟨d0, d1, d2, d3, d4, d5, d6, d7⟩ := m
  unfold Nd.v at *
  simp only at HC1 HC2 HC3 HC4 ⊢
  have X0 := Lib.hid ((BoxN.new ⟨a0, a1, a2, a3, a4, a5, a6, a7⟩ w).below (W' := (w.alloc (.cells #[.int .i64 a0, .int .i64 a1, .string a2, .int .i64 a3, .int .i64 a4, .int .u64 a5, .int .i64 a6, .string a7] 25)).alloc (.cells #[.int .i64 d0, .int .i64 d1, .string d2, .int .i64 d3, .int .i64 d4, .int .u64 d5, .int .i64 d6, .string d7] 25)) ((Below.refl _ _).alloc (Nat.le_refl _) _))
  have Y0 : Hid (BoxN ⟨d0, d1, d2, d3, d4, d5, d6, d7⟩ (w.heap.size + 1) ((w.alloc (.cells #[.int .i64 a0, .int .i64 a1, .string a2, .int .i64 a3, .int .i64 a4, .int .u64 a5, .int .i64 a6, .string a7] 25)).alloc (.cells #[.int .i64 d0, .int .i64 d1, .string d2, .int .i64 d3, .int .i64 d4, .int .u64 d5, .int .i64 d6, .string d7] 25))) := Lib.hid (by
    have := BoxN.new ⟨d0, d1, d2, d3, d4, d5, d6, d7⟩ (w.alloc (.cells #[.int .i64 a0, .int .i64 a1, .string a2, .int .i64 a3, .int .i64 a4, .int .u64 a5, .int .i64 a6, .string a7] 25))
    rw [World.size_alloc] at this
    exact this)
  have B0 : Hid (Below w.heap.size w ((w.alloc (.cells #[.int .i64 a0, .int .i64 a1, .string a2, .int .i64 a3, .int .i64 a4, .int .u64 a5, .int .i64 a6, .string a7] 25)).alloc (.cells #[.int .i64 d0, .int .i64 d1, .string d2, .int .i64 d3, .int .i64 d4, .int .u64 d5, .int .i64 d6, .string d7] 25))) := Lib.hid (((Below.refl _ _).alloc (Nat.le_refl _) _).alloc (by rw [World.size_alloc]; omega) _)
  have G0 := Lib.hid (HG.out.below (Nat.le_trans HG.out.2 (Nat.le_refl _)) B0.out)
  go_enter Tryd.func4, Tryd.ntmps4
  go_upto_region 1 with (first | fail)
  revert X0 Y0 B0 G0
  generalize (w.alloc (.cells #[.int .i64 a0, .int .i64 a1, .string a2, .int .i64 a3, .int .i64 a4, .int .u64 a5, .int .i64 a6, .string a7] 25)).alloc (.cells #[.int .i64 d0, .int .i64 d1, .string d2, .int .i64 d3, .int .i64 d4, .int .u64 d5, .int .i64 d6, .string d7] 25) = w0
  intro X0 Y0 B0 G0
  have f0 := X0.out 0 _ rfl; have f1 := X0.out 1 _ rfl; have f2 := X0.out 2 _ rfl; have f3 := X0.out 3 _ rfl; have f4 := X0.out 4 _ rfl; have f5 := X0.out 5 _ rfl; have f6 := X0.out 6 _ rfl; have f7 := X0.out 7 _ rfl
  go_wp2_with (go_at_call 11; fail)
  refine (HC1.out w0).mono ?_
  rintro e w1 ⟨v1, rfl, r1, b1⟩
  obtain ⟨g1, n1, rfl⟩ := r1.shape
  have R1 := Lib.hid r1
  have E1 := Lib.hid b1
  have X1 := Lib.hid (X0.out.below b1)
  have Y1 := Lib.hid (Y0.out.below b1)
  have G1 := Lib.hid (G0.out.below G0.out.2 b1)
  clear r1 b1 f0 f1 f2 f3 f4 f5 f6 f7
  have f0 := Y1.out 0 _ rfl; have f1 := Y1.out 1 _ rfl; have f2 := Y1.out 2 _ rfl; have f3 := Y1.out 3 _ rfl; have f4 := Y1.out 4 _ rfl; have f5 := Y1.out 5 _ rfl; have f6 := Y1.out 6 _ rfl; have f7 := Y1.out 7 _ rfl
  go_wp2_with (go_at_call 11; fail)
  refine (HC2.out w1).mono ?_
  rintro e w2 ⟨v2, rfl, r2, b2⟩
  obtain ⟨g2, n2, rfl⟩ := r2.shape
  have R2 := Lib.hid r2
  have E2 := Lib.hid b2
  have X2 := Lib.hid (X1.out.below b2)
  have Y2 := Lib.hid (Y1.out.below b2)
  have G2 := Lib.hid (G1.out.below G1.out.2 b2)
  clear r2 b2 f0 f1 f2 f3 f4 f5 f6 f7
  have f0 := X2.out 0 _ rfl; have f1 := X2.out 1 _ rfl; have f2 := X2.out 2 _ rfl; have f3 := X2.out 3 _ rfl; have f4 := X2.out 4 _ rfl; have f5 := X2.out 5 _ rfl; have f6 := X2.out 6 _ rfl; have f7 := X2.out 7 _ rfl
  go_wp2_with (go_at_call 12; fail)
  refine (HC3.out w2 G2.out).mono ?_
  rintro e w3 ⟨v3, rfl, r3, b3⟩
  obtain ⟨g3, n3, rfl⟩ := r3.shape
  have R3 := Lib.hid r3
  have E3 := Lib.hid b3
  have X3 := Lib.hid (X2.out.below b3)
  have Y3 := Lib.hid (Y2.out.below b3)
  have G3 := Lib.hid (G2.out.below G2.out.2 b3)
  clear r3 b3 f0 f1 f2 f3 f4 f5 f6 f7
  have f0 := X3.out 0 _ rfl; have f1 := X3.out 1 _ rfl; have f2 := X3.out 2 _ rfl; have f3 := X3.out 3 _ rfl; have f4 := X3.out 4 _ rfl; have f5 := X3.out 5 _ rfl; have f6 := X3.out 6 _ rfl; have f7 := X3.out 7 _ rfl
  go_wp2_with (go_at_call 12; fail)
  refine (HC3.out w3 G3.out).mono ?_
  rintro e w4 ⟨v4, rfl, r4, b4⟩
  obtain ⟨g4, n4, rfl⟩ := r4.shape
  have R4 := Lib.hid r4
  have E4 := Lib.hid b4
  have X4 := Lib.hid (X3.out.below b4)
  have Y4 := Lib.hid (Y3.out.below b4)
  have G4 := Lib.hid (G3.out.below G3.out.2 b4)
  clear r4 b4 f0 f1 f2 f3 f4 f5 f6 f7
  have f0 := Y4.out 0 _ rfl; have f1 := Y4.out 1 _ rfl; have f2 := Y4.out 2 _ rfl; have f3 := Y4.out 3 _ rfl; have f4 := Y4.out 4 _ rfl; have f5 := Y4.out 5 _ rfl; have f6 := Y4.out 6 _ rfl; have f7 := Y4.out 7 _ rfl
  go_wp2_with (go_at_call 12; fail)
  refine (HC4.out w4 G4.out).mono ?_
  rintro e w5 ⟨v5, rfl, r5, b5⟩
  obtain ⟨g5, n5, rfl⟩ := r5.shape
  have R5 := Lib.hid r5
  have E5 := Lib.hid b5
  have X5 := Lib.hid (X4.out.below b5)
  have Y5 := Lib.hid (Y4.out.below b5)
  have G5 := Lib.hid (G4.out.below G4.out.2 b5)
  clear r5 b5 f0 f1 f2 f3 f4 f5 f6 f7
  have f0 := X5.out 0 _ rfl; have f1 := X5.out 1 _ rfl; have f2 := X5.out 2 _ rfl; have f3 := X5.out 3 _ rfl; have f4 := X5.out 4 _ rfl; have f5 := X5.out 5 _ rfl; have f6 := X5.out 6 _ rfl; have f7 := X5.out 7 _ rfl
  go_wp2_with (go_at_call 12; fail)
  refine (HC3.out w5 G5.out).mono ?_
  rintro e w6 ⟨v6, rfl, r6, b6⟩
  obtain ⟨g6, n6, rfl⟩ := r6.shape
  have R6 := Lib.hid r6
  have E6 := Lib.hid b6
  have X6 := Lib.hid (X5.out.below b6)
  have Y6 := Lib.hid (Y5.out.below b6)
  have G6 := Lib.hid (G5.out.below G5.out.2 b6)
  clear r6 b6 f0 f1 f2 f3 f4 f5 f6 f7
  have st : ∀ {W W' : World} {b : Nat} {v : Value} {L : List Int}, Below W.heap.size W W' → SRow W b v L → SRow W' b v L := fun hb h => h.below (Nat.le_refl _) hb
  have q1 := Lib.hid (st E6.out (st E5.out (st E4.out (st E3.out (st E2.out R1.out)))))
  have q2 := Lib.hid (st E6.out (st E5.out (st E4.out (st E3.out R2.out))))
  have q3 := Lib.hid (st E6.out (st E5.out (st E4.out R3.out)))
  have q4 := Lib.hid (st E6.out (st E5.out R4.out))
  have q5 := Lib.hid (st E6.out R5.out)
  have k1 := q1.out.conv
  have k2 := q2.out.conv
  have k3 := q3.out.conv
  have k4 := q4.out.conv
  have k5 := q5.out.conv
  have k6 := R6.out.conv
  go_wp2_with (go_at_call 13; fail)
  have z1 := E1.out.size
  have z2 := E2.out.size
  have z3 := E3.out.size
  have z4 := E4.out.size
  have z5 := E5.out.size
  have z6 := E6.out.size
  have l1 := L1.out
  have l2 := L2.out
  refine (own_four q3.out q4.out q5.out R6.out (fun b hb => R3.out.lt hb) (fun b hb => R4.out.lt hb) (fun b hb => R5.out.lt hb) (by omega) (by omega) (by omega) (by omega) (Nat.le_trans l1 (by decide)) (Nat.le_trans l1 (by decide)) (Nat.le_trans l2 (by decide)) (Nat.le_trans l1 (by decide))).mono ?_
  rintro e wz ⟨rfl, bz⟩
  have BZ := Lib.hid bz
  clear bz l1 l2
  have z0 := B0.out.size
  have f := ((((((((B0.out).trans (E1.out.mono z0)).trans (E2.out.mono (by omega))).trans (E3.out.mono (by omega))).trans (E4.out.mono (by omega))).trans (E5.out.mono (by omega))).trans (E6.out.mono (by omega))).alloc (by omega) (.cells #[.slice g3 S.length n3, .slice g4 S.length n4, .slice g5 O.length n5, .slice g6 S.length n6] 22)).trans (BZ.out.mono (by omega))
  have F := Lib.hid f
  clear z0 z1 z2 z3 z4 z5 z6 f k1 k2 k3 k4 k5 k6
  go_wp2
  go_ret
  exact ⟨rfl, F.out⟩
end Go.Proofs.YtljamhpdgmelcaaDoor
