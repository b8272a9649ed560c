/- BlocksRound: the walk of the law. -/
import Derived.Test.YtmohijpkhmeibaaRoundPure
namespace Go.Proofs.Ytmohijpkhmeibaa
open Go.RowKit Go.Proofs Go.Proofs.YtmohijpkhmeibaaW.PrintWords
open PBlocksRound
set_option linter.unusedVariables false
set_option linter.unusedSimpArgs false
set_option maxRecDepth 100000
attribute [local go_sem high] PBlocksRound.eqA34

theorem at71 {w : World} {g : Nat} {l : List S34} {cap : Nat} (h : Kd.C k71 w (some ⟨g, 0, none⟩) l.length (l.map blkOf)) {i : Nat} {x : S34} (hx : l[i]? = some x) :
    ∀ j v, (blkS x).cells[j]? = some v → w.cell? ⟨g, i * 5 + j, none⟩ = some v := by
  have hi : i < l.length := (List.getElem?_eq_some_iff.1 hx).1
  obtain ⟨ad, e, a0, a1, a2, a3, a4⟩ := at_T71 h (i : Int) (by omega) (by omega)
  cases e
  have ex : rd_T71 (l.map blkOf) (i : Int) = blkOf x := by
    show (l.map blkOf).getD (i : Int).toNat z71 = blkOf x
    rw [Int.toNat_natCast, List.getD_eq_getElem?_getD, List.getElem?_map, hx]
    rfl
  rw [ex] at a0 a1 a2 a3 a4
  rw [Int.toNat_natCast, Addr.add_lit] at a0 a1 a2 a3 a4
  simp only [Nat.zero_add] at a0 a1 a2 a3 a4
  intro j v hv
  match j, hv with
  | 0, hv => cases hv; exact a0
  | 1, hv => cases hv; exact a1
  | 2, hv => cases hv; exact a2
  | 3, hv => cases hv; exact a3
  | 4, hv => cases hv; exact a4
theorem PBook.isB {w : World} {l : List S34} {P cursor last opn : Int} {p : Nat} {v : Value} {W : World} (h : PBook w l P cursor last opn p v W) (hpos : 0 < l.length) (hle : l.length ≤ 4096) :
    ∃ q cap, IsB W p q cap ⟨P, l.map blkS, cursor, last, -1, opn⟩ ∧ w.heap.size ≤ q := by
  obtain ⟨A, cap, rfl⟩ := Kd.R_slice h.row
  obtain ⟨inner, ho⟩ := Kd.R_own h.row
  obtain ⟨_, hcap, hC⟩ := Kd.R_reads' h.row
  rcases ho.2 with ⟨e, _⟩ | ⟨g, cap', cur, e, hg, hh, r⟩
  · injection e with _ e _
    rw [List.length_map] at e
    omega
  · injection e with e _ _
    subst e
    refine ⟨g, cap, ⟨?_, ⟨cur, hh, ?_⟩, ?_, by simpa using hpos, by simpa using hle⟩, hg⟩
    · have := h.head
      rw [List.length_map] at this
      simpa using this
    · intro i y hy j u hu
      have hy' : (l.map blkS)[i]? = some y := hy
      rw [List.getElem?_map] at hy'
      cases hx : l[i]? with
      | none => rw [hx] at hy'; cases hy'
      | some x =>
        rw [hx] at hy'
        cases hy'
        have hC' : Kd.C k71 W (some ⟨g, 0, none⟩) l.length (l.map blkOf) := by rw [List.length_map] at hC; exact hC
        have := at71 (cap := cap) hC' hx j u hu
        by_cases hlt : i * 5 + j < cur.size
        · unfold World.cell? at this
          rw [hh] at this
          simpa using this
        · unfold World.cell? at this
          rw [hh] at this
          simp only at this
          rw [Array.getElem?_eq_none (by omega)] at this
          cases this
    · exact ne_of_type h.head hh (by decide)

/-- The law's state while the picks run. -/
structure RI (w : World) (p q cap sb : Nat) (b : Bks) (seen : List Bool) (W : World) : Prop where
  isB : IsB W p q cap b
  sn : W.heap[sb]? = some (.cells (seen.map Value.bool).toArray 4 (0, 0))
  below : Below w.heap.size w W
  pb : w.heap.size ≤ p
  qb : w.heap.size ≤ q
  sbb : w.heap.size ≤ sb
section
variable {w : World} {p q cap sb : Nat} {b b' : Bks} {seen : List Bool} {W W' : World}
theorem RI.ne (h : RI w p q cap sb b seen W) : sb ≠ p ∧ sb ≠ q := by
  obtain ⟨c, hc, _⟩ := h.isB.rows
  exact ⟨ne_of_type h.sn h.isB.head (by decide), ne_of_type h.sn hc (by decide)⟩
theorem RI.of_below (h : RI w p q cap sb b seen W) (hb : Below W.heap.size W W') : RI w p q cap sb b seen W' :=
  ⟨h.isB.below hb, (hb.block _ (lt_of_heap h.sn)).trans h.sn, h.below.trans (hb.mono h.below.size), h.pb, h.qb, h.sbb⟩
theorem RI.to_p (h : RI w p q cap sb b seen W) (hI : IsB W' p q cap b') (ho : Off (· = p) W W') : RI w p q cap sb b' seen W' :=
  ⟨hI, (ho.block _ (lt_of_heap h.sn) h.ne.1).trans h.sn, h.below.trans (ho.below h.below.size (fun i hi => by rw [hi]; exact h.pb)), h.pb, h.qb, h.sbb⟩
theorem RI.to_q (h : RI w p q cap sb b seen W) (hI : IsB W' p q cap b') (ho : Off (· = q) W W') : RI w p q cap sb b' seen W' :=
  ⟨hI, (ho.block _ (lt_of_heap h.sn) h.ne.2).trans h.sn, h.below.trans (ho.below h.below.size (fun i hi => by rw [hi]; exact h.qb)), h.pb, h.qb, h.sbb⟩
theorem RI.see (h : RI w p q cap sb b seen W) (i : Nat) : RI w p q cap sb b (seen.set i true) (W.setCell ⟨sb, i, none⟩ (.bool true)) := by
  have ho : Off (· = sb) W (W.setCell ⟨sb, i, none⟩ (.bool true)) := (Off.refl (· = sb) W).setCell (p := ⟨sb, i, none⟩) (.inl rfl) _
  refine ⟨h.isB.off ho (Ne.symm h.ne.1) (Ne.symm h.ne.2), ?_, h.below.trans (ho.below h.below.size (fun i hi => by rw [hi]; exact h.sbb)), h.pb, h.qb, h.sbb⟩
  rw [heap_set_same h.sn]
  congr 2
  simp [List.map_set]
theorem RI.cell (h : RI w p q cap sb b seen W) {i : Nat} {s : Bool} (hs : seen[i]? = some s) : W.cell? ⟨sb, i, none⟩ = some (.bool s) := cell_of h.sn (by simp [hs])
theorem RI.free (h : RI w p q cap sb b seen W) (i : Nat) : W.frozen? ⟨sb, i, none⟩ = false := free_of h.sn
end
theorem newRes_place {B P S : Int} {l : List S34} {cursor last opn : Int} (h : newRes B P S l cursor last = some opn) : 8 ≤ B ∧ B ≤ 4096 ∧ (l.length : Int) = B ∧ -1 ≤ cursor ∧ cursor < l.length := by
  unfold newRes at h
  by_cases hb : (fitsB B P S && placeB B l.length cursor last) = true
  · rw [Bool.and_eq_true] at hb
    have h1 := hb.1
    have h2 := hb.2
    unfold fitsB at h1
    have := of_decide_eq_true h1
    unfold placeB at h2
    simp only [Bool.not_eq_true', Bool.or_eq_false_iff, decide_eq_false_iff_not] at h2
    obtain ⟨⟨⟨⟨h3, h4⟩, h5⟩, h6⟩, h7⟩ := h2
    have hlen : (l.length : Int) = B := by simpa using h3
    omega
  · rw [if_neg hb] at h
    cases h
theorem freeL_take (l : List S34) {k : Nat} {x : S34} (hx : l[k]? = some x) : freeL (l.take (k + 1)) = freeL (l.take k) + if x.f0 = 0 then 1 else 0 := by
  rw [take_snoc hx]
  unfold freeL
  rw [List.filter_append, List.length_append, List.filter_cons]
  by_cases h : x.f0 = 0
  · have e : (x.f0 == 0) = true := by rw [h]; rfl
    rw [if_pos h, e]
    rfl
  · have e : (x.f0 == 0) = false := by rw [beq_eq_false_iff_ne]; exact h
    rw [if_neg h, e]
    rfl
theorem freeL_le (l : List S34) : freeL l ≤ l.length := List.length_filter_le _ _
theorem made_bools (n : Nat) : madeCells #[.bool false] n = ((List.replicate n false).map Value.bool).toArray := by
  apply Array.ext'
  apply List.ext_getElem
  · simp [madeCells]
  · intro i h1 h2
    simp [madeCells, Nat.mod_one]
theorem wrap_small {x : Int} (h0 : -100000 ≤ x) (h1 : x ≤ 100000) : wrap64 x = x := by unfold wrap64; omega
theorem step_facts (T k j n f : Nat) (hn : n ≤ 4096) (hT : T + k + 1 ≤ n) (hj : j < f) (hf : f ≤ n) : wrap64 ((k : Int) + 1) = (k : Int) + 1 ∧ wrap64 ((T : Int) + ((k : Int) + 1)) = ((T + k + 1 : Nat) : Int) ∧ wrap64 ((j : Int) + 1) = ((j + 1 : Nat) : Int) := by
  unfold wrap64
  omega
theorem wrap_nat {x : Int} {n : Nat} (h0 : -100000 ≤ x) (h1 : x ≤ 100000) (h : x = n) : wrap64 x = n := by rw [wrap_small h0 h1, h]
def RoundEnd (w : World) (e : Ending) (W : World) : Prop := e = .returned (.bool true) ∧ Below w.heap.size w W

set_option maxHeartbeats 8000000 in
theorem round_walk (B P S : Int) (A : Option Addr) (l : List S34) (c : Nat) (cursor last : Int) (w : World) (hl : Kd.C k34 w A l.length l) (hc : l.length ≤ c) (hreach : l.length * 32 ≤ 140737488351232) (hwf : ∀ x, x ∈ l → 0 ≤ x.f1) :
    Calls Try.prog 3 #[.agg #[.int .i64 B, .int .i64 P, .int .i64 S], .slice A l.length c, .int .i64 cursor, .int .i64 last] w (RoundEnd w) := by
  have BC := Lib.hid (fun W (hB : Below w.heap.size w W) => begun_calls B P S A l c cursor last W (Kd.C_below hl hB) hc hreach hwf)
  have HL := Lib.hid hl
  clear hl hreach hwf
  go_enter Try.func3, Try.ntmps3
  go_wp2_with (go_at_call 8; fail)
  refine (BC.out _ ((Below.refl _ _).alloc (Nat.le_refl _) _)).mono ?_
  rintro e w1 ⟨hb1, h⟩
  have KB := Lib.hid (show Below w.heap.size w w1 from ((Below.refl _ _).alloc (Nat.le_refl _) _).trans (hb1.mono (by rw [World.size_alloc]; omega)))
  rcases h with ⟨hres, rfl⟩ | ⟨opn, p, v, rb, lb, rv, hres, rfl, hpb, hrn⟩
  · go_wp2
    go_ret
    exact ⟨rfl, KB.out⟩
  have hplace := newRes_place hres
  obtain ⟨q, cap, hI, hq⟩ := hpb.isB (by omega) (by omega)
  have hpp := hpb.pb
  rw [World.size_alloc] at hq hpp
  have HRN := Lib.hid (hrn.lower (w := w) ((Below.refl _ _).alloc (Nat.le_refl _) _))
  have HI := Lib.hid hI
  have HPL := Lib.hid hplace
  have HLE := Lib.hid (show l.length ≤ 4096 by omega)
  have HQP := Lib.hid (show w.heap.size ≤ p ∧ w.heap.size ≤ q by omega)
  clear hb1 hpb hrn hI hplace hq hpp hres
  obtain ⟨RA, rc, rfl⟩ := Kd.R_slice HRN.out.row
  have ert : (l.take l.length).length = l.length := by rw [List.take_length]
  have HRL := Lib.hid (show Kd.C k34 w1 RA l.length l by have := (Kd.R_reads' HRN.out.row).2.2; rw [List.take_length] at this; exact this)
  have r1 := cell_of (o := 1) HRN.out.head rfl
  rw [ert] at r1
  obtain ⟨rg, ro, rfl, rrows⟩ := kd_rows HRL.out (by have := HPL.out; omega)
  have HRR := Lib.hid rrows
  obtain ⟨lg, lo, rfl, lrows⟩ := kd_rows HL.out (by have := HPL.out; omega)
  have HLR := Lib.hid lrows
  clear HRN HRL rrows lrows
  go_wp2
  go_loopg [12, 13] l.length (fun gk s12 s13 wx => ∃ k : Nat, s12 = .int .i64 (freeL (l.take k) : Nat) ∧ s13 = .int .i64 k ∧ k + gk = l.length ∧ wx = w1)
  case atStart => exact ⟨0, rfl, rfl, by omega, rfl⟩
  case round =>
    obtain ⟨k, rfl, rfl, hk, rfl⟩ := hrel
    have HK := Lib.hid hk
    clear hk
    by_cases hlt : k < l.length
    · obtain ⟨x, hx⟩ : ∃ x, l[k]? = some x := ⟨_, List.getElem?_eq_getElem hlt⟩
      have c0 := (HRR.out k x hx).1
      have hft := freeL_take l hx
      have hfl := freeL_le (l.take k)
      rw [List.length_take] at hfl
      have hki : (k : Int) < (l.length : Int) := by omega
      have e64 : wrap64 ((k : Int) + 1) = ((k + 1 : Nat) : Int) := by have := HPL.out; unfold wrap64; omega
      have f64 : wrap64 ((freeL (l.take k) : Int) + 1) = ((freeL (l.take k) + 1 : Nat) : Int) := by have := HPL.out; unfold wrap64; omega
      by_cases hz : x.f0 = 0
      · have ez : (x.f0 == 0) = true := by rw [hz]; rfl
        rw [if_pos hz] at hft
        have HFT := Lib.hid hft
        clear hft hfl hx hz
        go_wp2
        go_roundg (gk - 1)
        case measure => have := HK.out; omega
        case rel => exact ⟨k + 1, by rw [HFT.out]; (first | rfl | (rw [f64]; done) | (simp [f64]; done)), by (first | rfl | (rw [e64]; done) | (simp [e64]; done)), by have := HK.out; omega, rfl⟩
      · have ez : (x.f0 == 0) = false := by rw [beq_eq_false_iff_ne]; exact hz
        rw [if_neg hz] at hft
        have HFT := Lib.hid hft
        clear hft hfl hx hz
        go_wp2
        go_roundg (gk - 1)
        case measure => have := HK.out; omega
        case rel => exact ⟨k + 1, by rw [HFT.out]; rfl, by (first | rfl | (rw [e64]; done) | (simp [e64]; done)), by have := HK.out; omega, rfl⟩
    · have hki : ¬ (k : Int) < (l.length : Int) := by omega
      obtain rfl : k = l.length := by have := HK.out; omega
      have hmk : ∀ W : World, (Instr.makeSlice 29 (.int .i64 (l.length : Int)) (.int .i64 (l.length : Int))).run Try.prog W = .ok (.slice (some ⟨W.heap.size, 0, none⟩) l.length l.length) (W.alloc (.cells (madeCells #[.bool false] l.length) 4)) :=
        print_make_of (P := Try.prog) 29 4 (.bool false) 1 Try.underlying29 (by kernel_rfl) rfl (by decide) l.length (by have := HPL.out; omega)
      rw [List.take_length]
      clear HRR HK
      have hRI : RI w p q cap wr.heap.size ⟨P, l.map blkS, cursor, last, -1, opn⟩ (List.replicate l.length false) (wr.alloc (.cells (madeCells #[.bool false] l.length) 4)) :=
        ⟨HI.out.alloc _, by rw [heap_alloc_new, made_bools], KB.out.alloc KB.out.size _, HQP.out.1, HQP.out.2, KB.out.size⟩
      have HRI := Lib.hid hRI
      have HINV := Lib.hid (PInv.start l P cursor last opn HPL.out.2.2.2.1 HPL.out.2.2.2.2)
      clear hRI
      go_wp2_with (go_at_call 9; refine (cursor_calls p q cap _ _ HRI.out.isB).mono ?_; rintro e w2 ⟨rfl, rfl⟩)
      clear hmk r1 HI
      revert HRI
      generalize wr.alloc (.cells (madeCells #[.bool false] l.length) 4) = W1
      generalize wr.heap.size = sb
      intro HRI
      go_loopg [15, 16, 17] (freeL l) (fun gk s15 s16 s17 wx => ∃ (j T : Nat) (b : Bks) (seen : List Bool), s17 = .int .i64 j ∧ s15 = .int .i64 T ∧ s16 = .int .i64 b.cursor ∧ j + gk = freeL l ∧ PInv l cursor b seen T j ∧ RI w p q cap sb b seen wx)
      case atStart => exact ⟨0, 0, _, _, rfl, rfl, rfl, by omega, HINV.out, HRI.out⟩
      case round =>
        obtain ⟨j, T, b, seen, rfl, rfl, rfl, hj, hinv, hri⟩ := hrel
        have HJ := Lib.hid hj
        have HV := Lib.hid hinv
        have HR := Lib.hid hri
        clear HRI HINV hj hinv hri
        by_cases hlt : j < freeL l
        · obtain ⟨k, x, hk, hno, hx, hs⟩ := HV.out.pick hlt
          obtain ⟨hseen, y, hy, hy0⟩ := HV.out.free _ x hx hs
          have hstep := HV.out.step hk
          have hgood := HV.out.good hx hs
          have hnext := HV.out.next (by have := HPL.out; omega) hk hno hx hs
          have PC := pick_yes p q cap b k _ HR.out.isB HV.out.lo (by rw [HV.out.len]; exact HV.out.hi) hk hno x hx hs
          have BC2 : ∀ W, IsB W p q cap { b with cursor := pickAt b k } → Calls Try.prog 12 #[.pointer (some ⟨p, 0, none⟩), .int .i64 (pickAt b k)] W fun e w' => e = .returned (.int .i64 0) ∧ IsB w' p q cap (afterPick b k) ∧ Off (· = q) W w' := fun W h => bad_yes p q cap _ (pickAt b k) x W h hx (.inl hs)
          have hxl : pickAt b k < l.length := by have := pickAt_lt (b := b) (by omega) k; have := HV.out.len; omega
          unfold PickEnd at PC
          have lc := (HLR.out _ y hy).1
          have hki : (j : Int) < (freeL l : Int) := by omega
          have hGb : 0 ≤ goodN b ∧ goodN b ≤ 4096 := by
            have := cnt_le (inL [6, 4]) b.all
            have := HV.out.len
            have := HPL.out
            unfold goodN
            omega
          have hG1 : goodN { b with cursor := (pickAt b k : Int) } = goodN b := rfl
          have hlo := HV.out.lo
          have hhi := HV.out.hi
          have hTk := hnext.tle
          have HFACTS := step_facts T k j l.length (freeL l) HLE.out hTk hlt (freeL_le l)
          revert lc hxl BC2 PC hnext hgood hstep hseen hG1 hGb
          generalize goodN b = G
          generalize hb2 : afterPick b k = b2
          have hc2 : b2.cursor = (pickAt b k : Int) := by rw [← hb2]; rfl
          revert hc2
          generalize hb1 : ({ b with cursor := (pickAt b k : Int) } : Bks) = b1
          have hc1 : b1.cursor = (pickAt b k : Int) := by rw [← hb1]
          revert hc1
          generalize pickAt b k = xi
          intro hc1 hc2 hseen hstep hgood hnext PC BC2 hxl lc hGb hG1
          have HPC := Lib.hid PC
          have HBC := Lib.hid BC2
          have HNX := Lib.hid hnext
          have HC1 := Lib.hid hc1
          have HC2 := Lib.hid hc2
          have HG1 := Lib.hid hG1
          have HG2 := Lib.hid hgood
          have HSEEN := Lib.hid hseen
          have hw1 : wrap64 (G - 1) = G - 1 := wrap_small (by omega) (by omega)
          have hw2 : wrap64 ((xi : Int) - b.cursor) = (xi : Int) - b.cursor := by have := HPL.out; exact wrap_small (by omega) (by omega)
          have hxl0 : (xi : Int) < (l.length : Int) := by omega
          obtain ⟨hw3, hw4, hw6⟩ := HFACTS
          have HW4 := Lib.hid hw4
          have HW6 := Lib.hid hw6
          have HW3 := Lib.hid hw3
          clear hw4 hw6
          clear PC BC2 hnext hc1 hc2 hG1 hgood hseen hx hno hs hy hb1 hb2
          rw [hy0] at lc
          have hb0 : decide ((xi : Int) < 0) = false := decide_eq_false (by omega)
          have hb9 : decide ((xi : Int) ≥ (l.length : Int)) = false := decide_eq_false (by omega)
          have hb8 : ((xi : Int) != (xi : Int)) = false := by rw [bne, beq_self_eq_true]; rfl
          by_cases hst : (xi : Int) - b.cursor ≤ 0
          · rw [if_pos hst] at hstep
            go_wp2_with (first
              | (go_at_call 10; refine HPC.out.mono ?_; rintro e w2 ⟨rfl, hI1, ho1⟩; have HR1 := Lib.hid (HR.out.to_p hI1 ho1); clear hI1 ho1; have s0 := HR1.out.cell HSEEN.out; have sf := HR1.out.free xi; have lc1 := (HR1.out.below.cell (lt_of_cell lc)).trans lc)
              | (go_at_call 9; refine (cursor_calls p q cap _ _ HR1.out.isB).mono ?_; rintro e w3 ⟨rfl, rfl⟩; rw [HC1.out])
              | (go_at_call 12; refine (HBC.out _ HR3.out.isB).mono ?_; rintro e w6 ⟨rfl, hI2, ho2⟩; have HR4 := Lib.hid (HR3.out.to_q hI2 ho2); clear hI2 ho2)
              | (go_at_call 11; refine (good_calls p q cap _ _ HR4.out.isB).mono ?_; rintro e w7 ⟨rfl, hb7⟩; rw [HG2.out]; have HR5 := Lib.hid (HR4.out.of_below hb7); clear hb7)
              | (go_at_call 11; have HR2 := Lib.hid (HR1.out.see xi); refine (good_calls p q cap _ _ HR2.out.isB).mono ?_; rintro e w5 ⟨rfl, hb5⟩; rw [HG1.out]; have HR3 := Lib.hid (HR2.out.of_below hb5); clear hb5))
            all_goals try exact absurd ‹l.length ≤ xi› (Nat.not_le.2 hxl)
            go_roundg (gk - 1)
            case measure => have := HJ.out; omega
            case rel => exact ⟨j + 1, T + k + 1, b2, _, congrArg (Value.int .i64) HW6.out, congrArg (Value.int .i64) HW4.out, by (rw [HC2.out]), by have := HJ.out; omega, HNX.out, HR5.out⟩
          · rw [if_neg hst] at hstep
            go_wp2_with (first
              | (go_at_call 10; refine HPC.out.mono ?_; rintro e w2 ⟨rfl, hI1, ho1⟩; have HR1 := Lib.hid (HR.out.to_p hI1 ho1); clear hI1 ho1; have s0 := HR1.out.cell HSEEN.out; have sf := HR1.out.free xi; have lc1 := (HR1.out.below.cell (lt_of_cell lc)).trans lc)
              | (go_at_call 9; refine (cursor_calls p q cap _ _ HR1.out.isB).mono ?_; rintro e w3 ⟨rfl, rfl⟩; rw [HC1.out])
              | (go_at_call 12; refine (HBC.out _ HR3.out.isB).mono ?_; rintro e w6 ⟨rfl, hI2, ho2⟩; have HR4 := Lib.hid (HR3.out.to_q hI2 ho2); clear hI2 ho2)
              | (go_at_call 11; refine (good_calls p q cap _ _ HR4.out.isB).mono ?_; rintro e w7 ⟨rfl, hb7⟩; rw [HG2.out]; have HR5 := Lib.hid (HR4.out.of_below hb7); clear hb7)
              | (go_at_call 11; have HR2 := Lib.hid (HR1.out.see xi); refine (good_calls p q cap _ _ HR2.out.isB).mono ?_; rintro e w5 ⟨rfl, hb5⟩; rw [HG1.out]; have HR3 := Lib.hid (HR2.out.of_below hb5); clear hb5))
            all_goals try exact absurd ‹l.length ≤ xi› (Nat.not_le.2 hxl)
            go_roundg (gk - 1)
            case measure => have := HJ.out; omega
            case rel => exact ⟨j + 1, T + k + 1, b2, _, congrArg (Value.int .i64) HW6.out, congrArg (Value.int .i64) HW4.out, by (rw [HC2.out]), by have := HJ.out; omega, HNX.out, HR5.out⟩
        · obtain rfl : j = freeL l := by have := HJ.out; omega
          have PN := Lib.hid (pick_no p q cap b _ HR.out.isB HV.out.lo (by rw [HV.out.len]; exact HV.out.hi) (HV.out.done (by have := HPL.out; omega)))
          have htle := HV.out.tle
          have hw5 : wrap64 ((l.length : Int) + 1) = (l.length : Int) + 1 := by have := HPL.out; exact wrap_small (by omega) (by omega)
          have hfar : (T : Int) ≤ (l.length : Int) + 1 := by omega
          clear htle
          go_wp2_with (first
            | (go_at_call 10; refine PN.out.mono ?_; rintro e w2 ⟨rfl, mm, rfl⟩; have HR1 := Lib.hid (HR.out.of_below (pw_below_drewN (Below.refl _ _) mm)))
            | (go_at_call 9; refine (cursor_calls p q cap _ _ HR1.out.isB).mono ?_; rintro e w3 ⟨rfl, rfl⟩))
          go_ret
          exact ⟨by simp, HR1.out.below⟩
end Go.Proofs.Ytmohijpkhmeibaa
