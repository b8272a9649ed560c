/- BlocksMay: the walk of the law, its rounds. -/
import Derived.Test.YtmohijpkhmeibaaMMayWalk
namespace Go.Proofs.Ytmohijpkhmeibaa
open Go.RowKit Go.Proofs Go.Proofs.YtmohijpkhmeibaaW.PrintWords
open PBlocksRound
set_option linter.unusedVariables false
set_option linter.unusedSimpArgs false
set_option maxRecDepth 100000
theorem may_step1 {w0 W W' : World} {p q cap p' q' t' cap' : Nat} {b : Bks} (h : Duo w0 p q cap p' q' t' cap' b b W) (hb : Below W.heap.size W W') :
    W'.cell? ⟨p', 1, none⟩ = some (.slice (some ⟨q', 0, none⟩) b.all.length cap') ∧ Duo w0 p q cap p' q' t' cap' b b W' := ⟨(h.of_below hb).isR.c1, h.of_below hb⟩
set_option maxHeartbeats 16000000 in
theorem may_walk (B P S : Int) (A : Option Addr) (l : List S34) (c : Nat) (cursor last : Int) (A2 : Option Addr) (os : List Op4) (c2 : Nat) (w : World) (hl : Kd.C k34 w A l.length l) (hc : l.length ≤ c) (hreach : l.length * 32 ≤ 140737488351232) (hwf : ∀ x, x ∈ l → 0 ≤ x.f1) (hos : OpsAt w A2 os) (hok : OpsOk os) :
    Calls Try.prog 5 #[.agg #[.int .i64 B, .int .i64 P, .int .i64 S], .slice A l.length c, .int .i64 cursor, .int .i64 last, .slice A2 os.length c2] w (LawEnd w) := by
  have BC := Lib.hid (fun W (hB : Below w.heap.size w W) => start_all B P S A l c cursor last W (Kd.C_below hl hB) hc hreach hwf)
  have HOS := Lib.hid hos
  have HOK := Lib.hid hok
  have hlen := hok.len
  clear hl hreach hwf hos hok
  go_enter Try.func5, Try.ntmps5
  go_wp2_with (go_at_call 8; fail)
  refine (BC.out _ ((Below.refl _ _).alloc (Nat.le_refl _) _)).mono ?_
  rintro e w1 h
  rcases h with ⟨hb1, rfl⟩ | ⟨opn, p, q, cap, p', q', t', cap', hres, rfl, hD, hw, hnl, hcap⟩
  · have KB := Lib.hid (show Below w.heap.size w w1 from ((Below.refl _ _).alloc (Nat.le_refl _) _).trans (hb1.mono (by rw [World.size_alloc]; omega)))
    clear hb1
    go_wp2
    go_ret
    exact ⟨rfl, KB.out⟩
  have HW0 := Lib.hid (show Below w.heap.size w (w.alloc (.cells #[.int .i64 B, .int .i64 P, .int .i64 S] 23)) from (Below.refl _ _).alloc (Nat.le_refl _) _)
  have HS0 := Lib.hid (World.size_alloc w (.cells #[.int .i64 B, .int .i64 P, .int .i64 S] 23))
  have HBX := Lib.hid (heap_alloc_new w (.cells #[.int .i64 B, .int .i64 P, .int .i64 S] 23))
  have HD := Lib.hid hD
  have hfit : fitsB B P S = true ∧ (l.length : Int) = B := by
    have h1 := newRes_place hres
    unfold newRes at hres
    by_cases hb : (fitsB B P S && placeB B l.length cursor last) = true
    · rw [Bool.and_eq_true] at hb
      exact ⟨hb.1, h1.2.2.1⟩
    · rw [if_neg hb] at hres
      cases hres
  have HFIT := Lib.hid hfit
  have HM := Lib.hid (show MInv B P S l.length ⟨P, l.map blkS, cursor, last, -1, opn⟩ false from ⟨hw, List.length_map .., rfl, fun _ => hnl⟩)
  have HL := Lib.hid (show (⟨P, l.map blkS, cursor, last, -1, opn⟩ : Bks).last = last from rfl)
  have HN := Lib.hid (show 8 ≤ l.length ∧ l.length ≤ 4096 by have h1 := hw.pos; have h2 := hw.le; have h3 : (⟨P, l.map blkS, cursor, last, -1, opn⟩ : Bks).all.length = l.length := List.length_map ..; omega)
  clear hD hw hnl hcap hres hfit
  revert HW0 HS0 HD HM HBX HL
  generalize (w.alloc (.cells #[.int .i64 B, .int .i64 P, .int .i64 S] 23)) = w0
  generalize (⟨P, l.map blkS, cursor, last, -1, opn⟩ : Bks) = b0
  intro HW0 HS0 HBX HD HM HL
  have hn1 : l.length ≤ 4096 := HN.out.2
  have hlb : b0.all.length = l.length := HM.out.len
  have r1 := HD.out.isR.c1
  rw [hlb] at r1
  have HLB := Lib.hid hlb
  clear hlb
  go_wp2_with fail
  go_region_held3 (fun W => W.cell? ⟨p', 1, none⟩ = some (.slice (some ⟨q', 0, none⟩) l.length cap') ∧ Duo w0 p q cap p' q' t' cap' b0 b0 W)
    (first
      | (rw [← HLB.out]; exact may_step1 HD.out ((Below.refl _ _).drew))
      | (go_split_ands; rw [← HLB.out]; exact may_step1 (by assumption) (by assumption)))
    (first
      | (go_at_call 16; refine (list_at p q cap l.length b0 _ (by go_split_ands; exact Duo.isB (by assumption)) HLB.out).mono ?_; rintro e wa ⟨ga, ca, rfl, hga, hra, hca, hba⟩))
  all_goals
    rename_i hHeld
    have HSO := Lib.hid (Duo.solo hHeld.2)
    clear hHeld hga hra hca hba r1 HD
    go_wp2
    go_loopw [3, 14, 15, 16, 17, 18, 19, 20, 21, 22, 23, 24, 25, 26, 27, 28, 29] (fun s3 s14 s15 _ _ _ _ _ _ _ _ _ _ _ _ _ _ wr => ∃ (i : Nat) (b : Bks) (lf : Bool), s15 = .int .i64 (i : Int) ∧ i ≤ os.length ∧ s3 = .int .i64 b.last ∧ s14 = .bool lf ∧ Hid (MInv B P S l.length b lf) ∧ Hid (Solo w0 p q cap b wr)) (fun _ _ s15 _ _ _ _ _ _ _ _ _ _ _ _ _ _ _ => os.length - (intOf s15).toNat)
    case atStart => exact ⟨0, b0, false, rfl, by omega, by rw [HL.out], rfl, HM, HSO⟩
    case round =>
      obtain ⟨i, b, lf, rfl, hi, rfl, rfl, HMb, HSb⟩ := hrel
      clear HSO HM HL HLB
      by_cases hlt : i < os.length
      · obtain ⟨x, hx⟩ : ∃ x, os[i]? = some x := ⟨_, List.getElem?_eq_getElem hlt⟩
        have HX := Lib.hid hx
        have hil : (i : Int) < (os.length : Int) := by omega
        clear hx
        go_wp2_with fail
        refine (list_at p q cap l.length b wr HSb.out.isB HMb.out.len).mono ?_
        rintro e w3 ⟨gw, cw, rfl, hgw, hrw, hcw, hbw⟩
        have HS3 := Lib.hid (HSb.out.of_below hbw)
        have HRW := Lib.hid hrw
        have HGW := Lib.hid (show gw ≠ p ∧ gw ≠ q by have := HSb.out.isB.plt; have := HSb.out.isB.qlt; omega)
        clear hgw hrw hbw HSb
        go_wp2_with fail
        refine (cursor_calls p q cap b w3 HS3.out.isB).mono ?_
        rintro e w3' ⟨rfl, rfl⟩
        obtain ⟨g, o, rfl, d0, d1, d2, d3⟩ := (HOS.out.below (HW0.out.trans (HS3.out.below.mono (by rw [HS0.out]; omega)))).get HX.out
        obtain ⟨hm, hh⟩ := HOK.out.ok x (List.mem_of_getElem? HX.out)
        have HMH := Lib.hid (And.intro hm hh)
        clear hm hh
        go_upto_region 12 with fail
        go_cut [100] from 65 to 100 (fun v wx => ∃ cb : Bool, v = .bool cb ∧ (cb = false → ¬ LeavesW b x) ∧ wx = w3)
        case first =>
          by_cases k8 : x.kind = 8
          · have n8 : (x.kind == 8) = true := beq_iff_eq.2 k8
            rcases place b x.block with hn | ⟨k, y, hk, hy⟩
            · have HNO := Lib.hid (show ¬ LeavesW b x from fun h => by
                obtain ⟨_, k, y, h1, h2, _⟩ := h
                have := (List.getElem?_eq_some_iff.1 h2).1
                omega)
              rw [HMb.out.len] at hn
              by_cases h0 : x.block < 0
              · have e0 : decide (x.block ≥ 0) = false := decide_eq_false (by omega)
                clear k8 hn h0
                go_wp2
                go_meet
                case rel => exact ⟨false, rfl, fun _ => HNO.out, rfl⟩
              · have e0 : decide (x.block ≥ 0) = true := decide_eq_true (by omega)
                have e1 : decide (x.block < (l.length : Int)) = false := decide_eq_false (by omega)
                clear k8 hn h0
                go_wp2
                go_meet
                case rel => exact ⟨false, rfl, fun _ => HNO.out, rfl⟩
            · have hkl := (List.getElem?_eq_some_iff.1 hy).1
              rw [HMb.out.len] at hkl
              have c0 : w3.cell? ⟨gw, k * 4, none⟩ = some (.int .i64 y.state) := HRW.out k y hy 0 _ rfl
              have hki : (k : Int) < (l.length : Int) := by omega
              rw [hk] at d1
              by_cases h4 : y.state = 4
              · have e4 : (y.state == 4) = true := beq_iff_eq.2 h4
                clear k8 hk hy h4
                go_wp2
                go_meet
                case rel => exact ⟨true, rfl, fun h => (by cases h), rfl⟩
              · have e4 : (y.state == 4) = false := beq_eq_false_iff_ne.2 h4
                have HNO := Lib.hid (show ¬ LeavesW b x from fun h => by
                  obtain ⟨_, k2, y2, h1, h2, h3⟩ := h
                  have : k2 = k := by omega
                  subst this
                  rw [hy] at h2
                  cases h2
                  exact h4 h3)
                clear k8 hk hy h4
                go_wp2
                go_meet
                case rel => exact ⟨false, rfl, fun _ => HNO.out, rfl⟩
          · have n8 : (x.kind == 8) = false := beq_eq_false_iff_ne.2 k8
            have HNO := Lib.hid (show ¬ LeavesW b x from fun h => k8 h.1)
            clear k8
            go_wp2
            go_meet
            case rel => exact ⟨false, rfl, fun _ => HNO.out, rfl⟩
        case rest =>
          obtain ⟨cb, rfl, hcb, rfl⟩ := hcut
          have HCB := Lib.hid hcb
          clear hcb
          go_upto_if 100 with fail
          go_cut [14] from 100 to 100 (fun v wx => ∃ lf' : Bool, v = .bool lf' ∧ (lf' = false → lf = false ∧ cb = false) ∧ wx = wc)
          case first =>
            cases cb
            · go_wp2
              go_meet
              case rel => exact ⟨lf, rfl, fun h => ⟨h, by first | rfl | trivial⟩, rfl⟩
            · go_wp2
              go_meet
              case rel => exact ⟨true, rfl, fun h => (by cases h), rfl⟩
          case rest =>
            obtain ⟨lf', rfl, hlf, rfl⟩ := hcut
            have HLF := Lib.hid (show lf' = false → NoLeft b ∧ ¬ LeavesW b x from fun h => ⟨HMb.out.left (hlf h).1, HCB.out (hlf h).2⟩)
            clear hlf HCB
            go_wp2_with fail
            refine (act_calls w0 p q cap b x.kind x.block x.more x.head _ HS3.out HMb.out.wf HMH.out.1 HMH.out.2).mono ?_
            rintro e w4 ⟨er, b', rfl, hst, hs4, ho4⟩
            have HST := Lib.hid hst
            have HS4 := Lib.hid hs4
            have HRW4 := Lib.hid (HRW.out.off ho4 (by have := HGW.out; omega))
            have HM4 := Lib.hid (show MInv B P S l.length b' lf' from ⟨hst.wf, hst.len.trans HMb.out.len, hst.pages.trans HMb.out.pages, fun h => hst.noleft (HLF.out h).1 (HLF.out h).2⟩)
            have HLEN := Lib.hid HMb.out.len
            clear hst hs4 ho4 HS3 HRW HGW HLF d0 d1 d2 d3
            go_wp2_with fail
            refine (list_at p q cap l.length b' w4 HS4.out.isB HM4.out.len).mono ?_
            rintro e w5 ⟨gn, cn, rfl, hgn, hrn, hcn, hbn⟩
            have HS5 := Lib.hid (HS4.out.of_below hbn)
            have HRW5 := Lib.hid (HRW4.out.below hbn)
            have HRN := Lib.hid hrn
            clear hgn hrn hbn HS4 HRW4
            go_upto_region 16 with fail
            go_cut [122] from 109 to 122 (fun v wx => v = .bool false ∧ ∃ n, wx = w5.drewN n)
            case first =>
              by_cases her : er = 0
              · have ner : (er != 0) = false := by rw [her]; rfl
                clear her
                go_wp2
                go_meet
                case rel => exact ⟨rfl, 0, rfl⟩
              · have ner : (er != 0) = true := bne_iff_ne.2 her
                obtain ⟨hsall, hscur⟩ := HST.out.same her
                have HSA := Lib.hid hsall
                have HSC := Lib.hid hscur
                clear her hsall hscur
                go_wp2_with fail
                refine (same_at gw gn cw cn l.length b.all w5 HRW5.out (by rw [← HSA.out]; exact HRN.out) hcw hcn HLEN.out hn1).mono ?_
                rintro e w6 ⟨rfl, n6, rfl⟩
                go_wp2_with fail
                refine (cursor_calls p q cap b' _ (HS5.out.drewN n6).isB).mono ?_
                rintro e w7 ⟨rfl, rfl⟩
                rw [HSC.out]
                go_wp2
                go_meet
                case rel => exact ⟨rfl, n6, rfl⟩
            case rest =>
              obtain ⟨rfl, n6, hw6⟩ := hcut
              have HS6 := Lib.hid (show Solo w0 p q cap b' wc by rw [hw6]; exact HS5.out.drewN n6)
              have HRN6 := Lib.hid (show Rows4 wc gn b'.all by rw [hw6]; exact HRN.out)
              clear hw6 HS5 HRW5 HRN
              obtain ⟨g0, o0, e0, d0, d1, d2, d3⟩ := (HOS.out.below (HW0.out.trans (HS6.out.below.mono (by rw [HS0.out]; omega)))).get HX.out
              cases e0
              go_upto_region 18 with fail
              go_cut [132] from 123 to 132 (fun v wx => ∃ cm : Bool, v = .bool cm ∧ (cm = true ↔ er = 0 ∧ x.kind = 9) ∧ wx = wc)
              case first =>
                by_cases her : er = 0
                · have ner : (er == 0) = true := beq_iff_eq.2 her
                  by_cases h9 : x.kind = 9
                  · have n9 : (x.kind == 9) = true := beq_iff_eq.2 h9
                    have HE := Lib.hid (And.intro her h9)
                    clear her h9
                    go_wp2
                    go_meet
                    case rel => exact ⟨true, rfl, ⟨fun _ => HE.out, fun _ => rfl⟩, rfl⟩
                  · have n9 : (x.kind == 9) = false := beq_eq_false_iff_ne.2 h9
                    have HE := Lib.hid h9
                    clear her h9
                    go_wp2
                    go_meet
                    case rel => exact ⟨false, rfl, ⟨fun h => (by cases h), fun h => absurd h.2 HE.out⟩, rfl⟩
                · have ner : (er == 0) = false := beq_eq_false_iff_ne.2 her
                  have HE := Lib.hid her
                  clear her
                  go_wp2
                  go_meet
                  case rel => exact ⟨false, rfl, ⟨fun h => (by cases h), fun h => absurd h.1 HE.out⟩, rfl⟩
              case rest =>
                obtain ⟨cm, rfl, hcm, rfl⟩ := hcut
                have HCM := Lib.hid hcm
                clear hcm
                go_upto_if 132 with fail
                go_cut [3] from 132 to 137 (fun v wx => v = .int .i64 b'.last ∧ wx = wc)
                case first =>
                  have hla := HST.out.last
                  cases cm
                  · have HLA := Lib.hid (show b'.last = b.last by rw [hla, if_neg fun h => by have := HCM.out.2 h; cases this])
                    clear hla
                    go_wp2
                    go_meet
                    case rel => exact ⟨by rw [HLA.out], rfl⟩
                  · have HLA := Lib.hid (show b'.last = x.block by rw [hla, if_pos (HCM.out.1 rfl)])
                    clear hla
                    go_wp2
                    go_meet
                    case rel => exact ⟨by rw [HLA.out], rfl⟩
                case rest =>
                  obtain ⟨rfl, rfl⟩ := hcut
                  clear HCM d0 d1 d2 d3 HST
                  go_wp2_with fail
                  refine (hollow_at gn cn l.length b'.all b'.last wc HRN6.out HM4.out.len hn1 (by have := HN.out; omega)).mono ?_
                  rintro e w7 ⟨gf, cf, rfl, hrf, hcf, hbf⟩
                  have HS7 := Lib.hid (HS6.out.of_below hbf)
                  have HRN7 := Lib.hid (HRN6.out.below hbf)
                  have HRF := Lib.hid hrf
                  clear hrf hbf HS6 HRN6
                  have hbx := (HS7.out.below.block w.heap.size (by rw [HS0.out]; omega)).trans HBX.out
                  have x0 := cell_of (o := 0) hbx rfl
                  have x1 := cell_of (o := 1) hbx rfl
                  have x2 := cell_of (o := 2) hbx rfl
                  have hn2 := hollow_one HM4.out.wf
                  have dgt : decide ((hollowN b'.all : Int) > 1) = false := decide_eq_false (by omega)
                  have MC := Lib.hid (may_at gf cf l.length (hollowL b'.last b'.all) P b'.last b'.opn w7 HRF.out hcf (by rw [hollowL_len]; exact HM4.out.len) hn1 (by rw [← HM4.out.pages]; exact HM4.out.wf.pg) (hollowL_head HM4.out.wf) (by rw [← HM4.out.pages]; exact full_new HM4.out.wf))
                  clear hbx
                  go_wp2_with fail
                  refine MC.out.mono ?_
                  rintro e w8 ⟨rfl, hb8⟩
                  have HS8 := Lib.hid (HS7.out.of_below hb8)
                  have HRN8 := Lib.hid (HRN7.out.below hb8)
                  have hbx := (HS8.out.below.block w.heap.size (by rw [HS0.out]; omega)).trans HBX.out
                  have y0 := cell_of (o := 0) hbx rfl
                  have y1 := cell_of (o := 1) hbx rfl
                  have y2 := cell_of (o := 2) hbx rfl
                  clear hb8 HS7 HRN7 HRF MC hbx x0 x1 x2
                  cases lf'
                  case true =>
                    go_wp2
                    go_roundw
                    case rel => exact ⟨i + 1, b', true, by go_num, by omega, rfl, rfl, HM4, HS8⟩
                    case measure => simp [intOf]; omega
                  case false =>
                    by_cases hz : hollowN b'.all = 0
                    · have dz : ¬ 0 < hollowN b'.all := fun h => by rw [hz] at h; exact Nat.lt_irrefl _ h
                      have HZ := Lib.hid hz
                      clear hz
                      have HNL := Lib.hid (HM4.out.left rfl)
                      go_wp2_with fail
                      go_region_held3 (fun W => W.cell? ⟨w.heap.size, 0, none⟩ = some (.int .i64 B) ∧ W.cell? ⟨w.heap.size, 1, none⟩ = some (.int .i64 P) ∧ W.cell? ⟨w.heap.size, 2, none⟩ = some (.int .i64 S) ∧ Solo w0 p q cap b' W ∧ Rows4 W gn b'.all)
                        (first
                          | exact may_step2 HBX.out HS8.out HRN8.out ((Below.refl _ _).drew)
                          | (go_split_ands; exact may_step2 HBX.out (by assumption) (by assumption) (by assumption))
                          | (go_split_ands; exact may_step2 HBX.out (by assumption) (by assumption) (Below.refl _ _)))
                        (first
                          | (go_at_call 27; refine (copy_at gn cn l.length b'.all _ (by go_split_ands; assumption) hcn HM4.out.len hn1).mono ?_; rintro e wa ⟨Ac, cc, rfl, hca, hba⟩)
                          | (go_at_call 9; refine (cursor_calls p q cap b' _ (by go_split_ands; exact Solo.isB (by assumption))).mono ?_; rintro e wb ⟨rfl, rfl⟩)
                          | (go_at_call 26; refine (new_is B P S Ac cc l.length b' _ hca HM4.out.wf HNL.out HZ.out HM4.out.pages HFIT.out.1 HFIT.out.2 HM4.out.len).mono ?_; rintro e wc2 ⟨px, qx, capx, rfl, hix, hbc⟩))
                      all_goals
                        rename_i hHeld
                        have HT0 := Lib.hid (show TwoB w0 p q cap b' px qx capx gn _ from ⟨hHeld.2.2.2.1, hix, hHeld.2.2.2.2⟩)
                        clear hHeld hix hbc hca hba HS8 HRN8 y0 y1 y2
                        obtain ⟨v, hd, ok, hor, hoB, hoX⟩ := oldest_two HM4.out.wf HZ.out
                        have HOR := Lib.hid hor
                        have HOB := Lib.hid hoB
                        have HOX := Lib.hid hoX
                        clear hor hoB hoX
                        go_wp2_with fail
                        refine (x_good px qx capx b' _ HT0.out.isX).mono ?_
                        rintro e u1 ⟨rfl, hu⟩
                        have HT1 := Lib.hid (HT0.out.of_below hu)
                        clear hu HT0
                        go_wp2_with fail
                        refine (good_calls p q cap b' _ HT1.out.so.isB).mono ?_
                        rintro e u2 ⟨rfl, hu⟩
                        have HT2 := Lib.hid (HT1.out.of_below hu)
                        clear hu HT1
                        go_wp2_with fail
                        refine (x_near px qx capx b' _ HT2.out.isX).mono ?_
                        rintro e u3 ⟨rfl, hu⟩
                        have HT3 := Lib.hid (HT2.out.of_below hu)
                        clear hu HT2
                        go_wp2_with fail
                        refine (near_calls p q cap b' _ HT3.out.so.isB).mono ?_
                        rintro e u4 ⟨rfl, hu⟩
                        have HT4 := Lib.hid (HT3.out.of_below hu)
                        clear hu HT3
                        go_wp2_with fail
                        refine (x_logged px qx capx b' _ HT4.out.isX).mono ?_
                        rintro e u5 ⟨rfl, hu⟩
                        have HT5 := Lib.hid (HT4.out.of_below hu)
                        clear hu HT4
                        go_wp2_with fail
                        refine (logged_both p q cap b' _ HT5.out.so.isB).mono ?_
                        rintro e u6 ⟨rfl, hu⟩
                        have HT6 := Lib.hid (HT5.out.of_below hu)
                        clear hu HT5
                        go_wp2_with fail
                        refine (x_cursor px qx capx b' _ HT6.out.isX).mono ?_
                        rintro e u7 ⟨rfl, rfl⟩
                        go_wp2_with fail
                        refine (cursor_calls p q cap b' _ HT6.out.so.isB).mono ?_
                        rintro e u8 ⟨rfl, rfl⟩
                        go_wp2_with fail
                        refine (HOB.out _ p q cap HT6.out.so.isB).mono ?_
                        rintro e u9 ⟨rfl, hu⟩
                        have HT7 := Lib.hid (HT6.out.of_below hu)
                        clear hu HT6
                        go_wp2_with fail
                        refine (HOX.out _ px qx capx HT7.out.isX).mono ?_
                        rintro e ua ⟨rfl, hu⟩
                        have HT8 := Lib.hid (HT7.out.of_below hu)
                        have HSF := Lib.hid HT8.out.so
                        clear hu HT7 HOB HOX
                        cases ok
                        · clear HT8
                          go_wp2
                          go_roundw
                          case rel => exact ⟨i + 1, b', false, by go_num, by omega, rfl, rfl, HM4, HSF⟩
                          case measure => simp [intOf]; omega
                        · obtain ⟨k, y, rfl, hy, hlt2, hs2⟩ := HOR.out.heads HM4.out.wf
                          have c0 : ua.cell? ⟨gn, k * 4, none⟩ = some (.int .i64 y.state) := HT8.out.rn k y hy 0 _ rfl
                          have c1 : ua.cell? ⟨gn, k * 4 + 1, none⟩ = some (.int .u64 y.head) := HT8.out.rn k y hy 1 _ rfl
                          have hki : (k : Int) < (l.length : Int) := by have := (List.getElem?_eq_some_iff.1 hy).1; rw [HM4.out.len] at this; omega
                          have dh : decide (y.head ≥ hd) = false := decide_eq_false (by omega)
                          have ds : (y.state == 2) = false := beq_eq_false_iff_ne.2 hs2
                          clear hy hlt2 hs2 HT8 HOR
                          go_wp2
                          go_roundw
                          case rel => exact ⟨i + 1, b', false, by go_num, by omega, rfl, rfl, HM4, HSF⟩
                          case measure => simp [intOf]; omega
                    · have dz : 0 < hollowN b'.all := Nat.pos_of_ne_zero hz
                      clear hz
                      go_wp2
                      go_roundw
                      case rel => exact ⟨i + 1, b', false, by go_num, by omega, rfl, rfl, HM4, HS8⟩
                      case measure => simp [intOf]; omega
      · obtain rfl : i = os.length := by omega
        have KB := Lib.hid (HW0.out.trans (HSb.out.below.mono (by rw [HS0.out]; omega)))
        go_wp2
        go_ret
        exact ⟨rfl, KB.out⟩
end Go.Proofs.Ytmohijpkhmeibaa
