/- The reference's Read of bytes that are shaped as a header. -/
import Derived.Test.YtljamhpdgmelcaaDoorRead
import Derived.Test.YtljamhpdgmelcaaDoorRead2
namespace Go.Proofs.YtljamhpdgmelcaaDoor
open Go.RowKit Go.Proofs Go.Proofs.YtljamhpdgmelcaaDoorW.PrintWords
set_option linter.unusedVariables false
set_option linter.unusedSimpArgs false
attribute [local go_sem] Oper.semAt_some

theorem rget0 (g o c : Nat) (L : List Int) (m : Nat) (hm : m = L.length) (w : World) (hv : Vw w g o L) (hb : Byts L) (hc : m ≤ c) (h : 23 ≤ m) (hL : m ≤ 281474976710656) :
    Calls Tryd.prog 16 #[.slice (some ⟨g, o, none⟩) m c, .int .i64 1, .int .i64 4] w fun e w' => e = .returned (.int .u64 (leV L 1 4)) ∧ Below w.heap.size w w' := by
  subst hm
  exact (get16 g o c 1 4 L w hv hb hc (by decide) (by omega) hL).mono fun e w' ⟨h1, h2⟩ => ⟨h1, h2.below⟩
theorem rget1 (g o c : Nat) (L : List Int) (m : Nat) (hm : m = L.length) (w : World) (hv : Vw w g o L) (hb : Byts L) (hc : m ≤ c) (h : 23 ≤ m) (hL : m ≤ 281474976710656) :
    Calls Tryd.prog 16 #[.slice (some ⟨g, o, none⟩) m c, .int .i64 5, .int .i64 4] w fun e w' => e = .returned (.int .u64 (leV L 5 4)) ∧ Below w.heap.size w w' := by
  subst hm
  exact (get16 g o c 5 4 L w hv hb hc (by decide) (by omega) hL).mono fun e w' ⟨h1, h2⟩ => ⟨h1, h2.below⟩
theorem rget2 (g o c : Nat) (L : List Int) (m : Nat) (hm : m = L.length) (w : World) (hv : Vw w g o L) (hb : Byts L) (hc : m ≤ c) (h : 23 ≤ m) (hL : m ≤ 281474976710656) :
    Calls Tryd.prog 16 #[.slice (some ⟨g, o, none⟩) m c, .int .i64 9, .int .i64 2] w fun e w' => e = .returned (.int .u64 (leV L 9 2)) ∧ Below w.heap.size w w' := by
  subst hm
  exact (get16 g o c 9 2 L w hv hb hc (by decide) (by omega) hL).mono fun e w' ⟨h1, h2⟩ => ⟨h1, h2.below⟩
theorem rget3 (g o c : Nat) (L : List Int) (m : Nat) (hm : m = L.length) (w : World) (hv : Vw w g o L) (hb : Byts L) (hc : m ≤ c) (h : 23 ≤ m) (hL : m ≤ 281474976710656) :
    Calls Tryd.prog 16 #[.slice (some ⟨g, o, none⟩) m c, .int .i64 11, .int .i64 8] w fun e w' => e = .returned (.int .u64 (leV L 11 8)) ∧ Below w.heap.size w w' := by
  subst hm
  exact (get16 g o c 11 8 L w hv hb hc (by decide) (by omega) hL).mono fun e w' ⟨h1, h2⟩ => ⟨h1, h2.below⟩
theorem rget4 (g o c : Nat) (L : List Int) (m : Nat) (hm : m = L.length) (w : World) (hv : Vw w g o L) (hb : Byts L) (hc : m ≤ c) (h : 23 ≤ m) (hL : m ≤ 281474976710656) :
    Calls Tryd.prog 16 #[.slice (some ⟨g, o, none⟩) m c, .int .i64 19, .int .i64 4] w fun e w' => e = .returned (.int .u64 (leV L 19 4)) ∧ Below w.heap.size w w' := by
  subst hm
  exact (get16 g o c 19 4 L w hv hb hc (by decide) (by omega) hL).mono fun e w' ⟨h1, h2⟩ => ⟨h1, h2.below⟩

theorem rs_from_a {W3 W : World} {g o x0 K T : Nat} {A1 A2 : List Int} {s1 s2 : ByteArray} (h0 : W3.cell? ⟨g, o, none⟩ = some (.int .u8 x0)) (v1 : Vw W3 g (o + 24) A1) (l1 : A1.length = K) (e1 : s1 = strOfNums A1) (v2 : Vw W3 g (o + (25 + K)) A2) (l2 : A2.length = T) (e2 : s2 = strOfNums A2) (hbw : Below W3.heap.size W3 W) :
    W.cell? ⟨g, o, none⟩ = some (.int .u8 x0) ∧ (∀ cc, (Go.convert 22 9 (.slice (some ⟨g, o + 24, none⟩) K cc)).run Tryd.prog W = .ok (.string s1) W) ∧ (∀ cc, (Go.convert 22 9 (.slice (some ⟨g, o + (25 + K), none⟩) T cc)).run Tryd.prog W = .ok (.string s2) W) ∧ Below W3.heap.size W3 W :=
  ⟨(hbw.cell (lt_of_cell h0)).trans h0, fun cc => e1 ▸ vw_conv cc (v1.below hbw) l1, fun cc => e2 ▸ vw_conv cc (v2.below hbw) l2, hbw⟩

set_option maxHeartbeats 4000000 in
theorem ref_good_a (g o c : Nat) (L : List Int) (w : World) (hv : Vw w g o L) (hB : Byts L) (hc : L.length ≤ c) (hl : L.length ≤ 281474976710656) (ho : L.length ≤ 281474976710656) (hg : g < w.heap.size) (hs : shaped L = true) (hcc : c ≠ 25 + nlen L) :
    Calls Tryd.prog 7 #[.slice (some ⟨g, o, none⟩) L.length c] w fun e w' => e = .returned (.tuple #[(if checkNo (ndOf L) = 0 then ndOf L else zeroNd).v, .int .i64 (checkNo (ndOf L))]) ∧ Below w.heap.size w w' := by
  obtain ⟨h1, h2⟩ := shaped_len hs
  obtain ⟨N, hN⟩ : ∃ N, N = ndOf L := ⟨_, rfl⟩
  rw [← hN]
  have chk := fun w => refCheck_calls N w
  obtain ⟨b1, b2⟩ := byte_nat hB (show 23 < L.length by omega)
  obtain ⟨b3, b4⟩ := byte_nat hB (show 24 + nlen L < L.length by omega)
  obtain ⟨b5, b6⟩ := byte_nat hB (show 0 < L.length by omega)
  have hbl : Below w.heap.size w (w.alloc (.cells #[.int .i64 0, .int .i64 0, .string ⟨#[]⟩, .int .i64 0, .int .i64 0, .int .u64 0, .int .i64 0, .string ⟨#[]⟩] 25)) := (Below.refl _ _).alloc (Nat.le_refl _) _
  have c23 : (w.alloc (.cells #[.int .i64 0, .int .i64 0, .string ⟨#[]⟩, .int .i64 0, .int .i64 0, .int .u64 0, .int .i64 0, .string ⟨#[]⟩] 25)).cell? ⟨g, o + 23, none⟩ = some (.int .u8 (nlen L)) := (hv.below hbl) 23 _ b1
  have c24 : (w.alloc (.cells #[.int .i64 0, .int .i64 0, .string ⟨#[]⟩, .int .i64 0, .int .i64 0, .int .u64 0, .int .i64 0, .string ⟨#[]⟩] 25)).cell? ⟨g, o + (24 + nlen L), none⟩ = some (.int .u8 (tlen L)) := (hv.below hbl) (24 + nlen L) _ b3
  have c00 : (w.alloc (.cells #[.int .i64 0, .int .i64 0, .string ⟨#[]⟩, .int .i64 0, .int .i64 0, .int .u64 0, .int .i64 0, .string ⟨#[]⟩] 25)).cell? ⟨g, o, none⟩ = some (.int .u8 ((L.getD 0 0).toNat : Nat)) := (hv.below hbl) 0 _ b5
  have V := Lib.hid (hv.below hbl)
  have wr : ∀ a k, k ≤ 4 → IntKind.i64.wrap (leV L a k : Int) = (leV L a k : Int) := fun a k hk => by
    have h1 := leV_lt hB a k
    have h2 : 2 ^ (8 * k) ≤ 4294967296 := Nat.le_trans (Nat.pow_le_pow_right (by decide) (show 8 * k ≤ 32 by omega)) (by decide)
    rw [IntKind.wrap_i64]
    omega
  have q1 := wr 1 4 (by decide)
  have q2 := wr 5 4 (by decide)
  have q3 := wr 9 2 (by decide)
  have q5 := wr 19 4 (by decide)
  have hx00 : leV L 0 1 = (L.getD 0 0).toNat := by simp [leV]
  obtain ⟨kk, hkk⟩ : ∃ kk, checkNo N = kk := ⟨_, rfl⟩
  rw [hkk] at chk ⊢
  obtain ⟨s1, hs1⟩ : ∃ s1, s1 = strOfNums ((L.drop 24).take (nlen L)) := ⟨_, rfl⟩
  obtain ⟨s2, hs2⟩ : ∃ s2, s2 = strOfNums (L.drop (25 + nlen L)) := ⟨_, rfl⟩
  have hnd : N = ⟨((L.getD 0 0).toNat : Nat), leV L 1 4, s1, leV L 5 4, leV L 9 2, leV L 11 8, leV L 19 4, s2⟩ := by rw [hN, hs1, hs2, ← hx00]; rfl
  have CHK := Lib.hid chk
  have HS1 := Lib.hid hs1
  have HS2 := Lib.hid hs2
  obtain ⟨x0, hx0⟩ : ∃ x0, x0 = (L.getD 0 0).toNat := ⟨_, rfl⟩
  rw [← hx0] at hnd
  have HNN := Lib.hid hnd
  clear hN
  obtain ⟨m, hm⟩ : ∃ m, m = L.length := ⟨_, rfl⟩
  obtain ⟨K, hK⟩ : ∃ K, K = nlen L := ⟨_, rfl⟩
  obtain ⟨T, hT⟩ : ∃ T, T = tlen L := ⟨_, rfl⟩
  have hK2 : K < 256 := by rw [hK]; exact b2
  have hT2 : T < 256 := by rw [hT]; exact b4
  have hx2 : x0 < 256 := by rw [hx0]; exact b6
  have HM := Lib.hid hm
  have HKK := Lib.hid hK
  have HTT := Lib.hid hT
  have HX0 := Lib.hid hx0
  rw [← hm] at h1 h2 hl hc ⊢
  rw [← hK] at h1 h2 c23 c24 hcc
  rw [← hT] at h2 c24
  rw [← hx0] at c00
  have HC : Hid (m ≤ c) := Lib.hid hc
  have HLL : Hid (m ≤ 281474976710656) := Lib.hid hl
  have HM23 : Hid (23 ≤ m) := Lib.hid (by omega)
  have HBB := Lib.hid hB
  have hc24 : ¬ c = 24 := by omega
  have hmk : m - (25 + K) = T := by omega
  have hmk2 : 24 + K - 24 = K := by omega
  have hwK : IntKind.i64.wrap (K : Int) = (K : Int) := by rw [IntKind.wrap_i64]; omega
  have hwT : IntKind.i64.wrap (T : Int) = (T : Int) := by rw [IntKind.wrap_i64]; omega
  have hwX : IntKind.i64.wrap (x0 : Int) = (x0 : Int) := by rw [IntKind.wrap_i64]; omega
  have HH2 := Lib.hid h2
  subst h2
  have i1 : (24 : Int) ≤ 24 + (K : Int) := by omega
  have i2 : (24 : Int) + (K : Int) ≤ 25 + (K : Int) + (T : Int) := by omega
  have i3 : (25 : Int) + (K : Int) ≤ 25 + (K : Int) + (T : Int) := by omega
  have i4 : (0 : Int) ≤ 25 + (K : Int) := by omega
  have i5 : (0 : Int) ≤ 24 + (K : Int) := by omega
  have i6 : IntKind.i64.wrap (24 + (K : Int)) = 24 + (K : Int) := by rw [IntKind.wrap_i64]; omega
  have i7 : IntKind.i64.wrap (25 + (K : Int)) = 25 + (K : Int) := by rw [IntKind.wrap_i64]; omega
  have i9 : (24 : Int) + (K : Int) ≤ (c : Int) := by omega
  have ia : (25 : Int) + (K : Int) + (T : Int) ≤ (c : Int) := by omega
  have j2 : ((25 : Int) + (K : Int)).toNat = 25 + K := by omega
  have j3 : ((24 : Int) + (K : Int)).toNat = 24 + K := by omega
  have ib : 25 + K + T - (25 + K) = T := by omega
  have i8 : (0 : Int) < 25 + (K : Int) + (T : Int) := by omega
  clear hv hB hg hm hK hT hx0 hs1 hs2 hnd chk b1 b2 b3 b4 b5 b6 hx00 wr hkk ho hs
  go_enter Tryd.func7, Tryd.ntmps7
  go_upto_region 8 with (first | fail)
  have hx3 : (w.alloc (.cells #[.int .i64 0, .int .i64 0, .string ⟨#[]⟩, .int .i64 0, .int .i64 0, .int .u64 0, .int .i64 0, .string ⟨#[]⟩] 25)).heap[w.heap.size]? = some (.cells #[.int .i64 0, .int .i64 0, .string ⟨#[]⟩, .int .i64 0, .int .i64 0, .int .u64 0, .int .i64 0, .string ⟨#[]⟩] 25 (0, 0)) := alloc_new w _ _ rfl
  revert hx3
  revert hbl
  revert V
  revert c00
  clear c23 c24
  generalize w.alloc (.cells #[.int .i64 0, .int .i64 0, .string ⟨#[]⟩, .int .i64 0, .int .i64 0, .int .u64 0, .int .i64 0, .string ⟨#[]⟩] 25) = W3
  obtain ⟨rx, hrx⟩ : ∃ rx, rx = w.heap.size := ⟨_, rfl⟩
  rw [← hrx]
  intro c00 V3 hbl hx3
  rw [hrx] at hbl
  have HRX := Lib.hid hrx
  have HBW := Lib.hid hbl
  have X3 := Lib.hid (show W3.heap[rx]? = some (.cells zc 25 (0, 0)) from hx3)
  clear hrx hbl hx3
  have A1 := V3.out.drop 24 |>.take K
  have A2 := V3.out.drop (25 + K)
  have L1 : ((L.drop 24).take K).length = K := by
    have e1 := HM.out
    have e2 := True.intro
    rw [List.length_take, List.length_drop]
    omega
  have L2 : (L.drop (25 + K)).length = T := by
    have e1 := HM.out
    have e2 := True.intro
    rw [List.length_drop]
    omega
  have E1 : s1 = strOfNums ((L.drop 24).take K) := by rw [HS1.out, HKK.out]
  have E2 : s2 = strOfNums (L.drop (25 + K)) := by rw [HS2.out, HKK.out]
  go_cut [5] (fun s wx => ReadCut W3 N s wx)
  case first =>
   go_region_held3 (fun W => W.cell? ⟨g, o, none⟩ = some (.int .u8 x0) ∧ (∀ cc, (Go.convert 22 9 (.slice (some ⟨g, o + 24, none⟩) K cc)).run Tryd.prog W = .ok (.string s1) W) ∧ (∀ cc, (Go.convert 22 9 (.slice (some ⟨g, o + (25 + K), none⟩) T cc)).run Tryd.prog W = .ok (.string s2) W) ∧ Below W3.heap.size W3 W)
    (first
      | (go_split_ands; with_reducible exact rs_from_a c00 A1 L1 E1 A2 L2 E2 (b_put (by assumption) (z_le zb)))
      | with_reducible exact rs_from_a c00 A1 L1 E1 A2 L2 E2 (Below.refl _ _).drew
      | (go_split_ands; with_reducible exact rs_from_a c00 A1 L1 E1 A2 L2 E2 (by assumption))
      | (go_split_ands; with_reducible exact rs_from_a c00 A1 L1 E1 A2 L2 E2 (b_alloc (by assumption)))
      | (go_split_ands; with_reducible exact rs_from_a c00 A1 L1 E1 A2 L2 E2 (b_step (by assumption) (by assumption)))
      | (go_split_ands; with_reducible exact rs_from_a c00 A1 L1 E1 A2 L2 E2 (b_real (by assumption) (by first | assumption | exact Nat.le_refl _))))
    (first
      | (go_at_call 16; with_reducible refine (rget0 g o _ L _ HM.out _ (V3.out.below (by go_split_ands; assumption)) HBB.out HC.out HM23.out HLL.out).mono ?_; rintro e wa0 ⟨rfl, hb0⟩; have sz := b_size (W3 := W3) (by go_split_ands; assumption) hb0; try (first | ((with_reducible (have zz := z_fresh hb0 (by first | assumption | exact Nat.le_refl _))); obtain ⟨hn, hhn, zb⟩ := zz; rw [← hhn]; clear hhn) | ((with_reducible (have zz := z_freshd hb0 (Nat.le_refl _))); obtain ⟨hn, hhn, zb⟩ := zz; rw [← hhn]; clear hhn) | (with_reducible (have zb := z_old zb hb0))); try (obtain ⟨y0, y1, y2, y3, y4, y5, y6, y7, xf⟩ := z_cells zb))
      | (go_at_call 16; with_reducible refine (rget1 g o _ L _ HM.out _ (V3.out.below (by go_split_ands; assumption)) HBB.out HC.out HM23.out HLL.out).mono ?_; rintro e wa1 ⟨rfl, hb1⟩; have sz := b_size (W3 := W3) (by go_split_ands; assumption) hb1; try (first | ((with_reducible (have zz := z_fresh hb1 (by first | assumption | exact Nat.le_refl _))); obtain ⟨hn, hhn, zb⟩ := zz; rw [← hhn]; clear hhn) | ((with_reducible (have zz := z_freshd hb1 (Nat.le_refl _))); obtain ⟨hn, hhn, zb⟩ := zz; rw [← hhn]; clear hhn) | (with_reducible (have zb := z_old zb hb1))); try (obtain ⟨y0, y1, y2, y3, y4, y5, y6, y7, xf⟩ := z_cells zb))
      | (go_at_call 16; with_reducible refine (rget2 g o _ L _ HM.out _ (V3.out.below (by go_split_ands; assumption)) HBB.out HC.out HM23.out HLL.out).mono ?_; rintro e wa2 ⟨rfl, hb2⟩; have sz := b_size (W3 := W3) (by go_split_ands; assumption) hb2; try (first | ((with_reducible (have zz := z_fresh hb2 (by first | assumption | exact Nat.le_refl _))); obtain ⟨hn, hhn, zb⟩ := zz; rw [← hhn]; clear hhn) | ((with_reducible (have zz := z_freshd hb2 (Nat.le_refl _))); obtain ⟨hn, hhn, zb⟩ := zz; rw [← hhn]; clear hhn) | (with_reducible (have zb := z_old zb hb2))); try (obtain ⟨y0, y1, y2, y3, y4, y5, y6, y7, xf⟩ := z_cells zb))
      | (go_at_call 16; with_reducible refine (rget3 g o _ L _ HM.out _ (V3.out.below (by go_split_ands; assumption)) HBB.out HC.out HM23.out HLL.out).mono ?_; rintro e wa3 ⟨rfl, hb3⟩; have sz := b_size (W3 := W3) (by go_split_ands; assumption) hb3; try (first | ((with_reducible (have zz := z_fresh hb3 (by first | assumption | exact Nat.le_refl _))); obtain ⟨hn, hhn, zb⟩ := zz; rw [← hhn]; clear hhn) | ((with_reducible (have zz := z_freshd hb3 (Nat.le_refl _))); obtain ⟨hn, hhn, zb⟩ := zz; rw [← hhn]; clear hhn) | (with_reducible (have zb := z_old zb hb3))); try (obtain ⟨y0, y1, y2, y3, y4, y5, y6, y7, xf⟩ := z_cells zb))
      | (go_at_call 16; with_reducible refine (rget4 g o _ L _ HM.out _ (V3.out.below (by go_split_ands; assumption)) HBB.out HC.out HM23.out HLL.out).mono ?_; rintro e wa4 ⟨rfl, hb4⟩; have sz := b_size (W3 := W3) (by go_split_ands; assumption) hb4; try (first | ((with_reducible (have zz := z_fresh hb4 (by first | assumption | exact Nat.le_refl _))); obtain ⟨hn, hhn, zb⟩ := zz; rw [← hhn]; clear hhn) | ((with_reducible (have zz := z_freshd hb4 (Nat.le_refl _))); obtain ⟨hn, hhn, zb⟩ := zz; rw [← hhn]; clear hhn) | (with_reducible (have zb := z_old zb hb4))); try (obtain ⟨y0, y1, y2, y3, y4, y5, y6, y7, xf⟩ := z_cells zb)))
   all_goals (go_wp2_with fail; go_meet)
   all_goals rw [HNN.out, E1, E2]
   all_goals first
     | ((with_reducible refine cut_put zb ?_ ?_); (go_split_ands; with_reducible assumption); rfl)
     | ((with_reducible refine cut_alloc ?_ sz ?_); (go_split_ands; with_reducible assumption); rfl)
  case rest =>
   clear A1 A2 L1 L2 E1 E2 c00
   obtain ⟨hn, rfl, hle, hh, hbl⟩ := hcut
   have X4 := (hbl.block _ (Array.getElem?_eq_some_iff.1 X3.out).1).trans X3.out
   obtain ⟨z0, z1, z2, z3, z4, z5, z6, z7⟩ := nd_cells hh
   have hne : hn ≠ rx := by have := (Array.getElem?_eq_some_iff.1 X3.out).1; omega
   have HH := Lib.hid hh
   have HX := Lib.hid X4
   have HBL := Lib.hid hbl
   have HNE := Lib.hid hne
   clear hh hbl hle X4 hne
   have CK := Lib.hid (fun W => (Nd.v.eq_1 N ▸ CHK.out W : Calls Tryd.prog 14 #[.agg #[.int .i64 N.ty, .int .i64 N.parent, .string N.name, .int .i64 N.size, .int .i64 N.mode, .int .u64 N.stamp, .int .i64 N.shadow, .string N.target]] W (Told kk W)))
   go_wp2_with (go_at_call 14; fail)
   refine (CK.out _).mono ?_
   rintro e w4 ⟨rfl, hb4⟩
   have HH4 := Lib.hid ((hb4.block _ (Array.getElem?_eq_some_iff.1 HH.out).1).trans HH.out)
   have HX4 := Lib.hid ((hb4.block _ (Array.getElem?_eq_some_iff.1 HX.out).1).trans HX.out)
   have HB4 := Lib.hid (HBL.out.trans (hb4.mono HBL.out.size))
   clear z0 z1 z2 z3 z4 z5 z6 z7 hb4 HH HX HBL CK
   obtain ⟨xc, xf⟩ := cells8 HX4.out
   have y0 := xc 0 _ rfl
   have y1 := xc 1 _ rfl
   have y2 := xc 2 _ rfl
   have y3 := xc 3 _ rfl
   have y4 := xc 4 _ rfl
   have y5 := xc 5 _ rfl
   have y6 := xc 6 _ rfl
   have y7 := xc 7 _ rfl
   clear xc
   obtain ⟨z0, z1, z2, z3, z4, z5, z6, z7⟩ := nd_cells HH4.out
   by_cases h0 : kk = 0
   · have hk0 : (kk != 0) = false := by rw [h0]; rfl
     have H0 := Lib.hid h0
     clear h0
     go_wp2
     have hp := put8_heap N HX4.out
     have hbb := put8_below N (HBW.out.trans (HB4.out.mono HBW.out.size)) (b := rx) (by rw [HRX.out]; exact Nat.le_refl _)
     refine bodyPost_ret (results_ct rfl _ _ _ _ _ _ _ rfl hp Tryd.underlying25 rfl (by kernel_rfl)) rfl ?_
     exact ⟨rfl, hbb⟩
   · have hk0 : (kk != 0) = true := by rw [bne_iff_ne]; exact h0
     have H0 := Lib.hid h0
     clear h0
     go_wp2
     have hp := put8_heap zeroNd HX4.out
     have hbb := put8_below zeroNd (HBW.out.trans (HB4.out.mono HBW.out.size)) (b := rx) (by rw [HRX.out]; exact Nat.le_refl _)
     refine bodyPost_ret (results_ct rfl _ _ _ _ _ _ _ rfl hp Tryd.underlying25 rfl (by kernel_rfl)) rfl ?_
     exact ⟨rfl, hbb⟩


theorem rs_from_b {W3 W : World} {g o x0 K T : Nat} {A1 A2 : List Int} {s1 s2 : ByteArray} (h0 : W3.cell? ⟨g, o, none⟩ = some (.int .u8 x0)) (v1 : Vw W3 g (o + 24) A1) (l1 : A1.length = K) (e1 : s1 = strOfNums A1) (v2 : Vw W3 g (o) A2) (l2 : A2.length = T) (e2 : s2 = strOfNums A2) (hbw : Below W3.heap.size W3 W) :
    W.cell? ⟨g, o, none⟩ = some (.int .u8 x0) ∧ (∀ cc, (Go.convert 22 9 (.slice (some ⟨g, o + 24, none⟩) K cc)).run Tryd.prog W = .ok (.string s1) W) ∧ (∀ cc, (Go.convert 22 9 (.slice (some ⟨g, o, none⟩) T cc)).run Tryd.prog W = .ok (.string s2) W) ∧ Below W3.heap.size W3 W :=
  ⟨(hbw.cell (lt_of_cell h0)).trans h0, fun cc => e1 ▸ vw_conv cc (v1.below hbw) l1, fun cc => e2 ▸ vw_conv cc (v2.below hbw) l2, hbw⟩

set_option maxHeartbeats 4000000 in
theorem ref_good_b (g o c : Nat) (L : List Int) (w : World) (hv : Vw w g o L) (hB : Byts L) (hc : L.length ≤ c) (hl : L.length ≤ 281474976710656) (ho : L.length ≤ 281474976710656) (hg : g < w.heap.size) (hs : shaped L = true) (hcc : c = 25 + nlen L) :
    Calls Tryd.prog 7 #[.slice (some ⟨g, o, none⟩) L.length c] w fun e w' => e = .returned (.tuple #[(if checkNo (ndOf L) = 0 then ndOf L else zeroNd).v, .int .i64 (checkNo (ndOf L))]) ∧ Below w.heap.size w w' := by
  obtain ⟨h1, h2⟩ := shaped_len hs
  obtain ⟨N, hN⟩ : ∃ N, N = ndOf L := ⟨_, rfl⟩
  rw [← hN]
  have chk := fun w => refCheck_calls N w
  obtain ⟨b1, b2⟩ := byte_nat hB (show 23 < L.length by omega)
  obtain ⟨b3, b4⟩ := byte_nat hB (show 24 + nlen L < L.length by omega)
  obtain ⟨b5, b6⟩ := byte_nat hB (show 0 < L.length by omega)
  have hbl : Below w.heap.size w (w.alloc (.cells #[.int .i64 0, .int .i64 0, .string ⟨#[]⟩, .int .i64 0, .int .i64 0, .int .u64 0, .int .i64 0, .string ⟨#[]⟩] 25)) := (Below.refl _ _).alloc (Nat.le_refl _) _
  have c23 : (w.alloc (.cells #[.int .i64 0, .int .i64 0, .string ⟨#[]⟩, .int .i64 0, .int .i64 0, .int .u64 0, .int .i64 0, .string ⟨#[]⟩] 25)).cell? ⟨g, o + 23, none⟩ = some (.int .u8 (nlen L)) := (hv.below hbl) 23 _ b1
  have c24 : (w.alloc (.cells #[.int .i64 0, .int .i64 0, .string ⟨#[]⟩, .int .i64 0, .int .i64 0, .int .u64 0, .int .i64 0, .string ⟨#[]⟩] 25)).cell? ⟨g, o + (24 + nlen L), none⟩ = some (.int .u8 (tlen L)) := (hv.below hbl) (24 + nlen L) _ b3
  have c00 : (w.alloc (.cells #[.int .i64 0, .int .i64 0, .string ⟨#[]⟩, .int .i64 0, .int .i64 0, .int .u64 0, .int .i64 0, .string ⟨#[]⟩] 25)).cell? ⟨g, o, none⟩ = some (.int .u8 ((L.getD 0 0).toNat : Nat)) := (hv.below hbl) 0 _ b5
  have V := Lib.hid (hv.below hbl)
  have wr : ∀ a k, k ≤ 4 → IntKind.i64.wrap (leV L a k : Int) = (leV L a k : Int) := fun a k hk => by
    have h1 := leV_lt hB a k
    have h2 : 2 ^ (8 * k) ≤ 4294967296 := Nat.le_trans (Nat.pow_le_pow_right (by decide) (show 8 * k ≤ 32 by omega)) (by decide)
    rw [IntKind.wrap_i64]
    omega
  have q1 := wr 1 4 (by decide)
  have q2 := wr 5 4 (by decide)
  have q3 := wr 9 2 (by decide)
  have q5 := wr 19 4 (by decide)
  have hx00 : leV L 0 1 = (L.getD 0 0).toNat := by simp [leV]
  obtain ⟨kk, hkk⟩ : ∃ kk, checkNo N = kk := ⟨_, rfl⟩
  rw [hkk] at chk ⊢
  obtain ⟨s1, hs1⟩ : ∃ s1, s1 = strOfNums ((L.drop 24).take (nlen L)) := ⟨_, rfl⟩
  obtain ⟨s2, hs2⟩ : ∃ s2, s2 = strOfNums (L.drop (25 + nlen L)) := ⟨_, rfl⟩
  have hnd : N = ⟨((L.getD 0 0).toNat : Nat), leV L 1 4, s1, leV L 5 4, leV L 9 2, leV L 11 8, leV L 19 4, s2⟩ := by rw [hN, hs1, hs2, ← hx00]; rfl
  have CHK := Lib.hid chk
  have HS1 := Lib.hid hs1
  have HS2 := Lib.hid hs2
  obtain ⟨x0, hx0⟩ : ∃ x0, x0 = (L.getD 0 0).toNat := ⟨_, rfl⟩
  rw [← hx0] at hnd
  have HNN := Lib.hid hnd
  clear hN
  obtain ⟨m, hm⟩ : ∃ m, m = L.length := ⟨_, rfl⟩
  obtain ⟨K, hK⟩ : ∃ K, K = nlen L := ⟨_, rfl⟩
  obtain ⟨T, hT⟩ : ∃ T, T = tlen L := ⟨_, rfl⟩
  have hK2 : K < 256 := by rw [hK]; exact b2
  have hT2 : T < 256 := by rw [hT]; exact b4
  have hx2 : x0 < 256 := by rw [hx0]; exact b6
  have HM := Lib.hid hm
  have HKK := Lib.hid hK
  have HTT := Lib.hid hT
  have HX0 := Lib.hid hx0
  rw [← hm] at h1 h2 hl hc ⊢
  rw [← hK] at h1 h2 c23 c24 hcc
  rw [← hT] at h2 c24
  rw [← hx0] at c00
  have HC : Hid (m ≤ c) := Lib.hid hc
  have HLL : Hid (m ≤ 281474976710656) := Lib.hid hl
  have HM23 : Hid (23 ≤ m) := Lib.hid (by omega)
  have HBB := Lib.hid hB
  have hT0 : T = 0 := by omega
  subst hT0
  rw [Nat.add_zero] at h2
  subst hcc
  have hc24 : ¬ (25 + K = 24) := by omega
  have hmk : m - (25 + K) = 0 := by omega
  have hmk2 : 24 + K - 24 = K := by omega
  have hwK : IntKind.i64.wrap (K : Int) = (K : Int) := by rw [IntKind.wrap_i64]; omega
  have hwT : IntKind.i64.wrap (0 : Int) = (0 : Int) := by rw [IntKind.wrap_i64]; omega
  have hwX : IntKind.i64.wrap (x0 : Int) = (x0 : Int) := by rw [IntKind.wrap_i64]; omega
  have HH2 := Lib.hid h2
  subst h2
  have i1 : (24 : Int) ≤ 24 + (K : Int) := by omega
  have i2 : (24 : Int) + (K : Int) ≤ 25 + (K : Int) := by omega
  have i3 : (25 : Int) + (K : Int) ≤ 25 + (K : Int) := by omega
  have i4 : (0 : Int) ≤ 25 + (K : Int) := by omega
  have i5 : (0 : Int) ≤ 24 + (K : Int) := by omega
  have i6 : IntKind.i64.wrap (24 + (K : Int)) = 24 + (K : Int) := by rw [IntKind.wrap_i64]; omega
  have i7 : IntKind.i64.wrap (25 + (K : Int)) = 25 + (K : Int) := by rw [IntKind.wrap_i64]; omega
  have i9 : (24 : Int) + (K : Int) ≤ 25 + (K : Int) := by omega
  have ia : (25 : Int) + (K : Int) ≤ 25 + (K : Int) := by omega
  have j2 : ((25 : Int) + (K : Int)).toNat = 25 + K := by omega
  have j3 : ((24 : Int) + (K : Int)).toNat = 24 + K := by omega
  have ib : 25 + K - (25 + K) = 0 := by omega
  have i8 : (0 : Int) < 25 + (K : Int) := by omega
  clear hv hB hg hm hK hT hx0 hs1 hs2 hnd chk b1 b2 b3 b4 b5 b6 hx00 wr hkk ho hs
  go_enter Tryd.func7, Tryd.ntmps7
  go_upto_region 8 with (first | fail)
  have hx3 : (w.alloc (.cells #[.int .i64 0, .int .i64 0, .string ⟨#[]⟩, .int .i64 0, .int .i64 0, .int .u64 0, .int .i64 0, .string ⟨#[]⟩] 25)).heap[w.heap.size]? = some (.cells #[.int .i64 0, .int .i64 0, .string ⟨#[]⟩, .int .i64 0, .int .i64 0, .int .u64 0, .int .i64 0, .string ⟨#[]⟩] 25 (0, 0)) := alloc_new w _ _ rfl
  revert hx3
  revert hbl
  revert V
  revert c00
  clear c23 c24
  generalize w.alloc (.cells #[.int .i64 0, .int .i64 0, .string ⟨#[]⟩, .int .i64 0, .int .i64 0, .int .u64 0, .int .i64 0, .string ⟨#[]⟩] 25) = W3
  obtain ⟨rx, hrx⟩ : ∃ rx, rx = w.heap.size := ⟨_, rfl⟩
  rw [← hrx]
  intro c00 V3 hbl hx3
  rw [hrx] at hbl
  have HRX := Lib.hid hrx
  have HBW := Lib.hid hbl
  have X3 := Lib.hid (show W3.heap[rx]? = some (.cells zc 25 (0, 0)) from hx3)
  clear hrx hbl hx3
  have A1 := V3.out.drop 24 |>.take K
  have A2 := (show Vw W3 g o (L.drop (25 + K)) from fun i x hx => by rw [List.drop_eq_nil_of_le (by have e1 := HM.out; have e2 := HC.out; have e3 := HH2.out; omega)] at hx; simp at hx)
  have L1 : ((L.drop 24).take K).length = K := by
    have e1 := HM.out
    have e2 := True.intro
    rw [List.length_take, List.length_drop]
    omega
  have L2 : (L.drop (25 + K)).length = 0 := by
    have e1 := HM.out
    have e2 := True.intro
    rw [List.length_drop]
    omega
  have E1 : s1 = strOfNums ((L.drop 24).take K) := by rw [HS1.out, HKK.out]
  have E2 : s2 = strOfNums (L.drop (25 + K)) := by rw [HS2.out, HKK.out]
  go_cut [5] (fun s wx => ReadCut W3 N s wx)
  case first =>
   go_region_held3 (fun W => W.cell? ⟨g, o, none⟩ = some (.int .u8 x0) ∧ (∀ cc, (Go.convert 22 9 (.slice (some ⟨g, o + 24, none⟩) K cc)).run Tryd.prog W = .ok (.string s1) W) ∧ (∀ cc, (Go.convert 22 9 (.slice (some ⟨g, o, none⟩) 0 cc)).run Tryd.prog W = .ok (.string s2) W) ∧ Below W3.heap.size W3 W)
    (first
      | (go_split_ands; with_reducible exact rs_from_b c00 A1 L1 E1 A2 L2 E2 (b_put (by assumption) (z_le zb)))
      | with_reducible exact rs_from_b c00 A1 L1 E1 A2 L2 E2 (Below.refl _ _).drew
      | (go_split_ands; with_reducible exact rs_from_b c00 A1 L1 E1 A2 L2 E2 (by assumption))
      | (go_split_ands; with_reducible exact rs_from_b c00 A1 L1 E1 A2 L2 E2 (b_alloc (by assumption)))
      | (go_split_ands; with_reducible exact rs_from_b c00 A1 L1 E1 A2 L2 E2 (b_step (by assumption) (by assumption)))
      | (go_split_ands; with_reducible exact rs_from_b c00 A1 L1 E1 A2 L2 E2 (b_real (by assumption) (by first | assumption | exact Nat.le_refl _))))
    (first
      | (go_at_call 16; with_reducible refine (rget0 g o _ L _ HM.out _ (V3.out.below (by go_split_ands; assumption)) HBB.out HC.out HM23.out HLL.out).mono ?_; rintro e wa0 ⟨rfl, hb0⟩; have sz := b_size (W3 := W3) (by go_split_ands; assumption) hb0; try (first | ((with_reducible (have zz := z_fresh hb0 (by first | assumption | exact Nat.le_refl _))); obtain ⟨hn, hhn, zb⟩ := zz; rw [← hhn]; clear hhn) | ((with_reducible (have zz := z_freshd hb0 (Nat.le_refl _))); obtain ⟨hn, hhn, zb⟩ := zz; rw [← hhn]; clear hhn) | (with_reducible (have zb := z_old zb hb0))); try (obtain ⟨y0, y1, y2, y3, y4, y5, y6, y7, xf⟩ := z_cells zb))
      | (go_at_call 16; with_reducible refine (rget1 g o _ L _ HM.out _ (V3.out.below (by go_split_ands; assumption)) HBB.out HC.out HM23.out HLL.out).mono ?_; rintro e wa1 ⟨rfl, hb1⟩; have sz := b_size (W3 := W3) (by go_split_ands; assumption) hb1; try (first | ((with_reducible (have zz := z_fresh hb1 (by first | assumption | exact Nat.le_refl _))); obtain ⟨hn, hhn, zb⟩ := zz; rw [← hhn]; clear hhn) | ((with_reducible (have zz := z_freshd hb1 (Nat.le_refl _))); obtain ⟨hn, hhn, zb⟩ := zz; rw [← hhn]; clear hhn) | (with_reducible (have zb := z_old zb hb1))); try (obtain ⟨y0, y1, y2, y3, y4, y5, y6, y7, xf⟩ := z_cells zb))
      | (go_at_call 16; with_reducible refine (rget2 g o _ L _ HM.out _ (V3.out.below (by go_split_ands; assumption)) HBB.out HC.out HM23.out HLL.out).mono ?_; rintro e wa2 ⟨rfl, hb2⟩; have sz := b_size (W3 := W3) (by go_split_ands; assumption) hb2; try (first | ((with_reducible (have zz := z_fresh hb2 (by first | assumption | exact Nat.le_refl _))); obtain ⟨hn, hhn, zb⟩ := zz; rw [← hhn]; clear hhn) | ((with_reducible (have zz := z_freshd hb2 (Nat.le_refl _))); obtain ⟨hn, hhn, zb⟩ := zz; rw [← hhn]; clear hhn) | (with_reducible (have zb := z_old zb hb2))); try (obtain ⟨y0, y1, y2, y3, y4, y5, y6, y7, xf⟩ := z_cells zb))
      | (go_at_call 16; with_reducible refine (rget3 g o _ L _ HM.out _ (V3.out.below (by go_split_ands; assumption)) HBB.out HC.out HM23.out HLL.out).mono ?_; rintro e wa3 ⟨rfl, hb3⟩; have sz := b_size (W3 := W3) (by go_split_ands; assumption) hb3; try (first | ((with_reducible (have zz := z_fresh hb3 (by first | assumption | exact Nat.le_refl _))); obtain ⟨hn, hhn, zb⟩ := zz; rw [← hhn]; clear hhn) | ((with_reducible (have zz := z_freshd hb3 (Nat.le_refl _))); obtain ⟨hn, hhn, zb⟩ := zz; rw [← hhn]; clear hhn) | (with_reducible (have zb := z_old zb hb3))); try (obtain ⟨y0, y1, y2, y3, y4, y5, y6, y7, xf⟩ := z_cells zb))
      | (go_at_call 16; with_reducible refine (rget4 g o _ L _ HM.out _ (V3.out.below (by go_split_ands; assumption)) HBB.out HC.out HM23.out HLL.out).mono ?_; rintro e wa4 ⟨rfl, hb4⟩; have sz := b_size (W3 := W3) (by go_split_ands; assumption) hb4; try (first | ((with_reducible (have zz := z_fresh hb4 (by first | assumption | exact Nat.le_refl _))); obtain ⟨hn, hhn, zb⟩ := zz; rw [← hhn]; clear hhn) | ((with_reducible (have zz := z_freshd hb4 (Nat.le_refl _))); obtain ⟨hn, hhn, zb⟩ := zz; rw [← hhn]; clear hhn) | (with_reducible (have zb := z_old zb hb4))); try (obtain ⟨y0, y1, y2, y3, y4, y5, y6, y7, xf⟩ := z_cells zb)))
   all_goals (go_wp2_with fail; go_meet)
   all_goals rw [HNN.out, E1, E2]
   all_goals first
     | ((with_reducible refine cut_put zb ?_ ?_); (go_split_ands; with_reducible assumption); rfl)
     | ((with_reducible refine cut_alloc ?_ sz ?_); (go_split_ands; with_reducible assumption); rfl)
  case rest =>
   clear A1 A2 L1 L2 E1 E2 c00
   obtain ⟨hn, rfl, hle, hh, hbl⟩ := hcut
   have X4 := (hbl.block _ (Array.getElem?_eq_some_iff.1 X3.out).1).trans X3.out
   obtain ⟨z0, z1, z2, z3, z4, z5, z6, z7⟩ := nd_cells hh
   have hne : hn ≠ rx := by have := (Array.getElem?_eq_some_iff.1 X3.out).1; omega
   have HH := Lib.hid hh
   have HX := Lib.hid X4
   have HBL := Lib.hid hbl
   have HNE := Lib.hid hne
   clear hh hbl hle X4 hne
   have CK := Lib.hid (fun W => (Nd.v.eq_1 N ▸ CHK.out W : Calls Tryd.prog 14 #[.agg #[.int .i64 N.ty, .int .i64 N.parent, .string N.name, .int .i64 N.size, .int .i64 N.mode, .int .u64 N.stamp, .int .i64 N.shadow, .string N.target]] W (Told kk W)))
   go_wp2_with (go_at_call 14; fail)
   refine (CK.out _).mono ?_
   rintro e w4 ⟨rfl, hb4⟩
   have HH4 := Lib.hid ((hb4.block _ (Array.getElem?_eq_some_iff.1 HH.out).1).trans HH.out)
   have HX4 := Lib.hid ((hb4.block _ (Array.getElem?_eq_some_iff.1 HX.out).1).trans HX.out)
   have HB4 := Lib.hid (HBL.out.trans (hb4.mono HBL.out.size))
   clear z0 z1 z2 z3 z4 z5 z6 z7 hb4 HH HX HBL CK
   obtain ⟨xc, xf⟩ := cells8 HX4.out
   have y0 := xc 0 _ rfl
   have y1 := xc 1 _ rfl
   have y2 := xc 2 _ rfl
   have y3 := xc 3 _ rfl
   have y4 := xc 4 _ rfl
   have y5 := xc 5 _ rfl
   have y6 := xc 6 _ rfl
   have y7 := xc 7 _ rfl
   clear xc
   obtain ⟨z0, z1, z2, z3, z4, z5, z6, z7⟩ := nd_cells HH4.out
   by_cases h0 : kk = 0
   · have hk0 : (kk != 0) = false := by rw [h0]; rfl
     have H0 := Lib.hid h0
     clear h0
     go_wp2
     have hp := put8_heap N HX4.out
     have hbb := put8_below N (HBW.out.trans (HB4.out.mono HBW.out.size)) (b := rx) (by rw [HRX.out]; exact Nat.le_refl _)
     refine bodyPost_ret (results_ct rfl _ _ _ _ _ _ _ rfl hp Tryd.underlying25 rfl (by kernel_rfl)) rfl ?_
     exact ⟨rfl, hbb⟩
   · have hk0 : (kk != 0) = true := by rw [bne_iff_ne]; exact h0
     have H0 := Lib.hid h0
     clear h0
     go_wp2
     have hp := put8_heap zeroNd HX4.out
     have hbb := put8_below zeroNd (HBW.out.trans (HB4.out.mono HBW.out.size)) (b := rx) (by rw [HRX.out]; exact Nat.le_refl _)
     refine bodyPost_ret (results_ct rfl _ _ _ _ _ _ _ rfl hp Tryd.underlying25 rfl (by kernel_rfl)) rfl ?_
     exact ⟨rfl, hbb⟩

end Go.Proofs.YtljamhpdgmelcaaDoor
