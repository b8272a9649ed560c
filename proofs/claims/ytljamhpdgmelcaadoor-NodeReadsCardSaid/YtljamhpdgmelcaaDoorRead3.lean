/- node.Read of bytes that are shaped as a header. -/
import Derived.Test.YtljamhpdgmelcaaDoorRead2
namespace Go.Proofs.YtljamhpdgmelcaaDoor
open Go.RowKit Go.Proofs Go.Proofs.YtljamhpdgmelcaaDoorW.PrintWords
set_option linter.unusedVariables false
set_option linter.unusedSimpArgs false
attribute [local go_sem] Oper.semAt_some

set_option maxHeartbeats 4000000 in
theorem read_good (g o c : Nat) (L : List Int) (w : World) (hv : Vw w g o L) (hB : Byts L) (hc : L.length ≤ c) (hl : L.length ≤ 281474976710656) (ho : L.length ≤ 281474976710656) (hg : g < w.heap.size) (h23 : 23 ≤ L.length) (hG : Gl w) (hk : (cntK (L.drop 23) && cntK (cntL (L.drop 23))) = true) (hr : cntL (cntL (L.drop 23)) = []) (N : Nd) (hN : N = ⟨leV (L.take 23) 0 1, leV (L.take 23) 1 4, cntS (L.drop 23), leV (L.take 23) 5 4, leV (L.take 23) 9 2, leV (L.take 23) 11 8, leV (L.take 23) 19 4, cntS (cntL (L.drop 23))⟩) :
    Calls Tryd.prog 9 #[.slice (some ⟨g, o, none⟩) L.length c] w fun e w' => e = .returned (.tuple #[(if checkNo N = 0 then N else zeroNd).v, .int .i64 (checkNo N)]) ∧ Below w.heap.size w w' := by
  have chk := fun w => check_calls N w
  have HK := Lib.hid hk
  have HR := Lib.hid hr
  have HGl := Lib.hid hG
  have HBT := Lib.hid (hB.take 23)
  have HLT := Lib.hid (List.length_take_of_le h23)
  have HO : Hid ((0 : Nat) ≤ 281474976710656) := Lib.hid (by omega)
  have wr : ∀ a k, k ≤ 4 → IntKind.i64.wrap (leV (L.take 23) a k : Int) = (leV (L.take 23) a k : Int) := fun a k hk => by
    have h1 := leV_lt (hB.take 23) a k
    have h2 : 2 ^ (8 * k) ≤ 4294967296 := Nat.le_trans (Nat.pow_le_pow_right (by decide) (show 8 * k ≤ 32 by omega)) (by decide)
    rw [IntKind.wrap_i64]
    omega
  have w0 := wr 0 1 (by decide)
  have w1 := wr 1 4 (by decide)
  have w2 := wr 5 4 (by decide)
  have w3 := wr 9 2 (by decide)
  have w5 := wr 19 4 (by decide)
  obtain ⟨kk, hkk⟩ : ∃ kk, checkNo N = kk := ⟨_, rfl⟩
  rw [hkk] at chk ⊢
  have HKK := Lib.hid hkk
  have CHK := Lib.hid chk
  have HNN := Lib.hid hN
  clear hk hr hG wr chk hkk hN
  have R0 := RI.start g o c L w hv hB hc hl ho hg
  have hH : Vw ((((w.alloc (.cells zc 25)).alloc (.cells #[.slice (some ⟨g, o, none⟩) L.length c] 22)).alloc (.cells #[.bool true] 4)).alloc (.cells #[.func (.func 17) #[] #[.pointer (some ⟨w.heap.size + 1, 0, none⟩), .pointer (some ⟨w.heap.size + 1 + 1, 0, none⟩)]] 46)) g o (L.take 23) := (hv.take 23).below R0.below
  unfold zc at R0 hH
  have H23 := Lib.hid h23
  obtain ⟨m, hm⟩ : ∃ m, m = L.length := ⟨_, rfl⟩
  rw [← hm] at R0 hH ⊢
  clear hv hc hl hg h23 hm
  go_enter Tryd.func9, Tryd.ntmps9
  go_upto_region 5 with (first | fail)
  revert hH
  revert R0
  generalize ((((w.alloc (.cells #[.int .i64 0, .int .i64 0, .string ⟨#[]⟩, .int .i64 0, .int .i64 0, .int .u64 0, .int .i64 0, .string ⟨#[]⟩] 25)).alloc (.cells #[.slice (some ⟨g, o, none⟩) m c] 22)).alloc (.cells #[.bool true] 4)).alloc (.cells #[.func (.func 17) #[] #[.pointer (some ⟨w.heap.size + 1, 0, none⟩), .pointer (some ⟨w.heap.size + 1 + 1, 0, none⟩)]] 46)) = W0
  generalize w.heap.size + 1 + 1 + 1 = fb
  generalize w.heap.size + 1 + 1 = kb
  generalize w.heap.size + 1 = rb
  obtain ⟨rx, hrx⟩ : ∃ rx, rx = w.heap.size := ⟨_, rfl⟩
  rw [← hrx]
  intro R0 hH
  have HRX := Lib.hid hrx
  clear hrx
  obtain ⟨f0, _⟩ := cell_of_heap1 R0.st.f
  have V0 := Lib.hid hH
  have Q0 := Lib.hid R0
  clear R0 hH
  go_wp2_with (go_at_call 17; fail)
  refine (take_yes rb kb fb g o c 23 L true W0 Q0.out.st H23.out).mono ?_
  rintro e W1 ⟨rfl, ⟨o1, s1⟩, n1⟩
  have ba : Below W1.heap.size W1 (W1.alloc (.cells #[.slice (some ⟨g, o, none⟩) 23 c] 22)) := (Below.refl _ _).alloc (Nat.le_refl _) _
  have Q1 := Lib.hid ((Q0.out.near n1 s1).under ba)
  have V1 := Lib.hid ((Near.vw V0.out n1 Q0.out.st.hgr Q0.out.st.hgk).below ba)
  obtain ⟨hb, hhb⟩ : ∃ hb, hb = W1.heap.size := ⟨_, rfl⟩
  have hb1 : (W1.alloc (.cells #[.slice (some ⟨g, o, none⟩) 23 c] 22)).heap[hb]? = some (.cells #[.slice (some ⟨g, o, none⟩) 23 c] 22 (0, 0)) := alloc_new _ _ _ hhb
  have hb2 : hb ≠ rb := by have := (Array.getElem?_eq_some_iff.1 s1.r).1; omega
  have hb3 : hb ≠ kb := by have := (Array.getElem?_eq_some_iff.1 s1.k).1; omega
  have HX1 := Lib.hid hb1
  have HX2 := Lib.hid hb2
  have HX3 := Lib.hid hb3
  clear s1 n1 f0 Q0 V0 ba hb1 hb2 hb3
  go_wp2_with (go_at_call 18; fail)
  rw [← hhb]
  clear hhb
  refine (counted_calls rb kb fb g o1 _ (L.drop 23) true _ Q1.out.st).mono ?_
  rintro e W2 ⟨rfl, ⟨o2, c2, s2⟩, n2⟩
  have Q2 := Lib.hid (Q1.out.near n2 s2)
  have V2 := Lib.hid (Near.vw V1.out n2 Q1.out.st.hgr Q1.out.st.hgk)
  have HY1 := Lib.hid (n2.heap HX1.out HX2.out HX3.out)
  clear s2 n2 Q1 V1 HX1
  go_wp2_with (go_at_call 18; fail)
  refine (counted_calls rb kb fb g o2 c2 _ _ _ Q2.out.st).mono ?_
  rintro e W3 ⟨rfl, ⟨o3, c3, s3⟩, n3⟩
  rw [Bool.true_and] at s3
  rw [HK.out, HR.out] at s3
  have R3 := Q2.out.near n3 s3
  have HZ1 := n3.heap HY1.out HX2.out HX3.out
  obtain ⟨h3c, _⟩ := cell_of_heap1 HZ1
  have v3 := Near.vw V2.out n3 Q2.out.st.hgr Q2.out.st.hgk
  have G3 := HGl.out.below HGl.out.2 R3.below
  obtain ⟨k3, _⟩ := cell_of_heap1 R3.st.k
  obtain ⟨r3, _⟩ := cell_of_heap1 R3.st.r
  have p0 : W3.cell? ⟨0, 0, none⟩ = some (.int .i64 0) := (G3.1 0 (by decide)).1
  have q0 : W3.cell? ⟨0, 1, none⟩ = some (.int .i64 1) := (G3.1 0 (by decide)).2
  have p1 : W3.cell? ⟨1, 0, none⟩ = some (.int .i64 1) := (G3.1 1 (by decide)).1
  have q1 : W3.cell? ⟨1, 1, none⟩ = some (.int .i64 4) := (G3.1 1 (by decide)).2
  have p2 : W3.cell? ⟨2, 0, none⟩ = some (.int .i64 5) := (G3.1 2 (by decide)).1
  have q2 : W3.cell? ⟨2, 1, none⟩ = some (.int .i64 4) := (G3.1 2 (by decide)).2
  have p3 : W3.cell? ⟨3, 0, none⟩ = some (.int .i64 9) := (G3.1 3 (by decide)).1
  have q3 : W3.cell? ⟨3, 1, none⟩ = some (.int .i64 2) := (G3.1 3 (by decide)).2
  have p4 : W3.cell? ⟨4, 0, none⟩ = some (.int .i64 11) := (G3.1 4 (by decide)).1
  have q4 : W3.cell? ⟨4, 1, none⟩ = some (.int .i64 8) := (G3.1 4 (by decide)).2
  have p5 : W3.cell? ⟨5, 0, none⟩ = some (.int .i64 19) := (G3.1 5 (by decide)).1
  have q5 : W3.cell? ⟨5, 1, none⟩ = some (.int .i64 4) := (G3.1 5 (by decide)).2
  clear s3 n3 Q2 V2 HY1 HZ1 G3 HX2 HX3
  have V3 := Lib.hid v3
  have Q3 := Lib.hid R3
  clear v3 R3
  go_upto_region 11 with (first | fail)
  clear k3 r3
  go_cut [12] (fun s wx => ReadCut W3 N s wx)
  case first =>
   go_region_held3 (fun W => W.cell? ⟨0, 0, none⟩ = some (.int .i64 0) ∧ W.cell? ⟨0, 1, none⟩ = some (.int .i64 1) ∧ W.cell? ⟨1, 0, none⟩ = some (.int .i64 1) ∧ W.cell? ⟨1, 1, none⟩ = some (.int .i64 4) ∧ W.cell? ⟨2, 0, none⟩ = some (.int .i64 5) ∧ W.cell? ⟨2, 1, none⟩ = some (.int .i64 4) ∧ W.cell? ⟨3, 0, none⟩ = some (.int .i64 9) ∧ W.cell? ⟨3, 1, none⟩ = some (.int .i64 2) ∧ W.cell? ⟨4, 0, none⟩ = some (.int .i64 11) ∧ W.cell? ⟨4, 1, none⟩ = some (.int .i64 8) ∧ W.cell? ⟨5, 0, none⟩ = some (.int .i64 19) ∧ W.cell? ⟨5, 1, none⟩ = some (.int .i64 4) ∧ W.cell? ⟨hb, 0, none⟩ = some (.slice (some ⟨g, o, none⟩) 23 c) ∧ Below W3.heap.size W3 W)
    (first
      | (go_split_ands; with_reducible exact gs_from p0 q0 p1 q1 p2 q2 p3 q3 p4 q4 p5 q5 h3c (b_put (by assumption) (z_le zb)))
      | with_reducible exact gs_from p0 q0 p1 q1 p2 q2 p3 q3 p4 q4 p5 q5 h3c (Below.refl _ _).drew
      | (go_split_ands; with_reducible exact gs_from p0 q0 p1 q1 p2 q2 p3 q3 p4 q4 p5 q5 h3c (b_alloc (by assumption)))
      | (go_split_ands; with_reducible exact gs_from p0 q0 p1 q1 p2 q2 p3 q3 p4 q4 p5 q5 h3c (b_step (by assumption) (by assumption)))
      | (go_split_ands; with_reducible exact gs_from p0 q0 p1 q1 p2 q2 p3 q3 p4 q4 p5 q5 h3c (b_real (by assumption) (by first | assumption | exact Nat.le_refl _))))
    (first
      | (go_at_call 19; with_reducible refine (get0 g o c hb (L.take 23) _ (by go_split_ands; assumption) (V3.out.below (by go_split_ands; assumption)) HBT.out HLT.out HO.out).mono ?_; rintro e wa0 ⟨rfl, hb0⟩; have sz := b_size (W3 := W3) (by go_split_ands; assumption) hb0; try (first | ((with_reducible (have zz := z_fresh hb0 (by first | assumption | exact Nat.le_refl _))); obtain ⟨hn, hhn, zb⟩ := zz; rw [← hhn]; clear hhn) | ((with_reducible (have zz := z_freshd hb0 (Nat.le_refl _))); obtain ⟨hn, hhn, zb⟩ := zz; rw [← hhn]; clear hhn) | (with_reducible (have zb := z_old zb hb0))); try (obtain ⟨y0, y1, y2, y3, y4, y5, y6, y7, xf⟩ := z_cells zb))
      | (go_at_call 19; with_reducible refine (get1 g o c hb (L.take 23) _ (by go_split_ands; assumption) (V3.out.below (by go_split_ands; assumption)) HBT.out HLT.out HO.out).mono ?_; rintro e wa1 ⟨rfl, hb1⟩; have sz := b_size (W3 := W3) (by go_split_ands; assumption) hb1; try (first | ((with_reducible (have zz := z_fresh hb1 (by first | assumption | exact Nat.le_refl _))); obtain ⟨hn, hhn, zb⟩ := zz; rw [← hhn]; clear hhn) | ((with_reducible (have zz := z_freshd hb1 (Nat.le_refl _))); obtain ⟨hn, hhn, zb⟩ := zz; rw [← hhn]; clear hhn) | (with_reducible (have zb := z_old zb hb1))); try (obtain ⟨y0, y1, y2, y3, y4, y5, y6, y7, xf⟩ := z_cells zb))
      | (go_at_call 19; with_reducible refine (get2 g o c hb (L.take 23) _ (by go_split_ands; assumption) (V3.out.below (by go_split_ands; assumption)) HBT.out HLT.out HO.out).mono ?_; rintro e wa2 ⟨rfl, hb2⟩; have sz := b_size (W3 := W3) (by go_split_ands; assumption) hb2; try (first | ((with_reducible (have zz := z_fresh hb2 (by first | assumption | exact Nat.le_refl _))); obtain ⟨hn, hhn, zb⟩ := zz; rw [← hhn]; clear hhn) | ((with_reducible (have zz := z_freshd hb2 (Nat.le_refl _))); obtain ⟨hn, hhn, zb⟩ := zz; rw [← hhn]; clear hhn) | (with_reducible (have zb := z_old zb hb2))); try (obtain ⟨y0, y1, y2, y3, y4, y5, y6, y7, xf⟩ := z_cells zb))
      | (go_at_call 19; with_reducible refine (get3 g o c hb (L.take 23) _ (by go_split_ands; assumption) (V3.out.below (by go_split_ands; assumption)) HBT.out HLT.out HO.out).mono ?_; rintro e wa3 ⟨rfl, hb3⟩; have sz := b_size (W3 := W3) (by go_split_ands; assumption) hb3; try (first | ((with_reducible (have zz := z_fresh hb3 (by first | assumption | exact Nat.le_refl _))); obtain ⟨hn, hhn, zb⟩ := zz; rw [← hhn]; clear hhn) | ((with_reducible (have zz := z_freshd hb3 (Nat.le_refl _))); obtain ⟨hn, hhn, zb⟩ := zz; rw [← hhn]; clear hhn) | (with_reducible (have zb := z_old zb hb3))); try (obtain ⟨y0, y1, y2, y3, y4, y5, y6, y7, xf⟩ := z_cells zb))
      | (go_at_call 19; with_reducible refine (get4 g o c hb (L.take 23) _ (by go_split_ands; assumption) (V3.out.below (by go_split_ands; assumption)) HBT.out HLT.out HO.out).mono ?_; rintro e wa4 ⟨rfl, hb4⟩; have sz := b_size (W3 := W3) (by go_split_ands; assumption) hb4; try (first | ((with_reducible (have zz := z_fresh hb4 (by first | assumption | exact Nat.le_refl _))); obtain ⟨hn, hhn, zb⟩ := zz; rw [← hhn]; clear hhn) | ((with_reducible (have zz := z_freshd hb4 (Nat.le_refl _))); obtain ⟨hn, hhn, zb⟩ := zz; rw [← hhn]; clear hhn) | (with_reducible (have zb := z_old zb hb4))); try (obtain ⟨y0, y1, y2, y3, y4, y5, y6, y7, xf⟩ := z_cells zb))
      | (go_at_call 19; with_reducible refine (get5 g o c hb (L.take 23) _ (by go_split_ands; assumption) (V3.out.below (by go_split_ands; assumption)) HBT.out HLT.out HO.out).mono ?_; rintro e wa5 ⟨rfl, hb5⟩; have sz := b_size (W3 := W3) (by go_split_ands; assumption) hb5; try (first | ((with_reducible (have zz := z_fresh hb5 (by first | assumption | exact Nat.le_refl _))); obtain ⟨hn, hhn, zb⟩ := zz; rw [← hhn]; clear hhn) | ((with_reducible (have zz := z_freshd hb5 (Nat.le_refl _))); obtain ⟨hn, hhn, zb⟩ := zz; rw [← hhn]; clear hhn) | (with_reducible (have zb := z_old zb hb5))); try (obtain ⟨y0, y1, y2, y3, y4, y5, y6, y7, xf⟩ := z_cells zb)))
   all_goals (go_wp2_with fail; go_meet)
   all_goals rw [HNN.out]
   all_goals first
     | ((with_reducible refine cut_put zb ?_ ?_); (go_split_ands; with_reducible assumption); rfl)
     | ((with_reducible refine cut_alloc ?_ sz ?_); (go_split_ands; with_reducible assumption); rfl)
  case rest =>
   obtain ⟨hn, rfl, hle, hh, hbl⟩ := hcut
   have X4 := (hbl.block _ (Array.getElem?_eq_some_iff.1 Q3.out.x).1).trans Q3.out.x
   obtain ⟨z0, z1, z2, z3, z4, z5, z6, z7⟩ := nd_cells hh
   have hne : hn ≠ rx := by have := (Array.getElem?_eq_some_iff.1 Q3.out.x).1; omega
   have HH := Lib.hid hh
   have HX := Lib.hid X4
   have HBL := Lib.hid hbl
   have HNE := Lib.hid hne
   clear hh hbl hle X4 hne
   have CK := Lib.hid (fun W => (Nd.v.eq_1 N ▸ CHK.out W : Calls Tryd.prog 15 #[.agg #[.int .i64 N.ty, .int .i64 N.parent, .string N.name, .int .i64 N.size, .int .i64 N.mode, .int .u64 N.stamp, .int .i64 N.shadow, .string N.target]] W (Told kk W)))
   go_wp2_with (go_at_call 15; fail)
   refine (CK.out _).mono ?_
   rintro e w4 ⟨rfl, hb4⟩
   have HH4 := Lib.hid ((hb4.block _ (Array.getElem?_eq_some_iff.1 HH.out).1).trans HH.out)
   have HX4 := Lib.hid ((hb4.block _ (Array.getElem?_eq_some_iff.1 HX.out).1).trans HX.out)
   have HB4 := Lib.hid (HBL.out.trans (hb4.mono HBL.out.size))
   clear z0 z1 z2 z3 z4 z5 z6 z7 hb4 HH HX HBL CK
   obtain ⟨xc, xf⟩ := cells8 HX4.out
   have y0 := xc 0 _ rfl
   have y1 := xc 1 _ rfl
   have y2 := xc 2 _ rfl
   have y3 := xc 3 _ rfl
   have y4 := xc 4 _ rfl
   have y5 := xc 5 _ rfl
   have y6 := xc 6 _ rfl
   have y7 := xc 7 _ rfl
   clear xc
   obtain ⟨z0, z1, z2, z3, z4, z5, z6, z7⟩ := nd_cells HH4.out
   by_cases h0 : kk = 0
   · have hk0 : (kk != 0) = false := by rw [h0]; rfl
     have H0 := Lib.hid h0
     clear h0
     go_wp2
     have hp := put8_heap N HX4.out
     have hbb := put8_below N (Q3.out.below.trans (HB4.out.mono Q3.out.below.size)) (b := rx) (by rw [HRX.out]; exact Nat.le_refl _)
     refine bodyPost_ret (results_ct rfl _ _ _ _ _ _ _ rfl hp Tryd.underlying25 rfl (by kernel_rfl)) rfl ?_
     exact ⟨rfl, hbb⟩
   · have hk0 : (kk != 0) = true := by rw [bne_iff_ne]; exact h0
     have H0 := Lib.hid h0
     clear h0
     go_wp2
     have hp := put8_heap zeroNd HX4.out
     have hbb := put8_below zeroNd (Q3.out.below.trans (HB4.out.mono Q3.out.below.size)) (b := rx) (by rw [HRX.out]; exact Nat.le_refl _)
     refine bodyPost_ret (results_ct rfl _ _ _ _ _ _ _ rfl hp Tryd.underlying25 rfl (by kernel_rfl)) rfl ?_
     exact ⟨rfl, hbb⟩
end Go.Proofs.YtljamhpdgmelcaaDoor
