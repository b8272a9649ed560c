/- BlocksFifo: the walk of the law. -/
import Derived.Test.YtmohijpkhmeibaaMFifoWalk
namespace Go.Proofs.Ytmohijpkhmeibaa
open Go.RowKit Go.Proofs Go.Proofs.YtmohijpkhmeibaaW.PrintWords
open PBlocksRound
set_option linter.unusedVariables false
set_option linter.unusedSimpArgs false
set_option maxRecDepth 100000
attribute [local go_sem high] PBlocksRound.eqA34
theorem fresh2 {p q s g : Nat} (hp : p < s) (hq : q < s) (hg : s ≤ g) : ¬ (g = q ∨ g = p) := by omega
set_option maxHeartbeats 16000000 in
theorem fifo_walk (B P S : Int) (A : Option Addr) (l : List S34) (c : Nat) (cursor last : Int) (w : World) (hl : Kd.C k34 w A l.length l) (hc : l.length ≤ c) (hreach : l.length * 32 ≤ 140737488351232) (hwf : ∀ x, x ∈ l → 0 ≤ x.f1) :
    Calls Try.prog 4 #[.agg #[.int .i64 B, .int .i64 P, .int .i64 S], .slice A l.length c, .int .i64 cursor, .int .i64 last] w (LawEnd w) := by
  have BC := Lib.hid (fun W (hB : Below w.heap.size w W) => start_all B P S A l c cursor last W (Kd.C_below hl hB) hc hreach hwf)
  have HLC := Lib.hid (fun W (hB : Below w.heap.size w W) => Kd.C_below hl hB)
  clear hl hreach hwf
  go_enter Try.func4, Try.ntmps4
  go_wp2_with (go_at_call 8; fail)
  refine (BC.out _ ((Below.refl _ _).alloc (Nat.le_refl _) _)).mono ?_
  rintro e w1 h
  rcases h with ⟨hb1, rfl⟩ | ⟨opn, p, q, cap, p', q', t', cap', hres, rfl, hD, hw, _, hcap⟩
  · have KB := Lib.hid (show Below w.heap.size w w1 from ((Below.refl _ _).alloc (Nat.le_refl _) _).trans (hb1.mono (by rw [World.size_alloc]; omega)))
    clear hb1
    go_wp2
    go_ret
    exact ⟨rfl, KB.out⟩
  have HW0 := Lib.hid (show Below w.heap.size w (w.alloc (.cells #[.int .i64 B, .int .i64 P, .int .i64 S] 23)) from (Below.refl _ _).alloc (Nat.le_refl _) _)
  have HS0 := Lib.hid (show w.heap.size ≤ (w.alloc (.cells #[.int .i64 B, .int .i64 P, .int .i64 S] 23)).heap.size by rw [World.size_alloc]; omega)
  have HD := Lib.hid hD
  have hlen0 : (⟨P, l.map blkS, cursor, last, -1, opn⟩ : Bks).all.length = l.length := List.length_map ..
  have HF0 := Lib.hid (FInv.start hw rfl)
  have hpl : 8 ≤ l.length ∧ l.length ≤ 4096 := by have h1 := hw.pos; have h2 := hw.le; omega
  have HARG := Lib.hid (show ∀ W, Below w.heap.size w W → ∀ (i : Nat) (x : Blk), (⟨P, l.map blkS, cursor, last, -1, opn⟩ : Bks).all[i]? = some x → ∃ g o, A = some ⟨g, o, none⟩ ∧ W.cell? ⟨g, o + i * 4, none⟩ = some (.int .i64 x.state) ∧ W.cell? ⟨g, o + i * 4 + 1, none⟩ = some (.int .u64 x.head) ∧ W.cell? ⟨g, o + i * 4 + 2, none⟩ = some (.bool x.real) ∧ W.cell? ⟨g, o + i * 4 + 3, none⟩ = some (.int .i64 x.live) from fun W hB i x hx => arg_cells (HLC.out W hB) (by omega) hx)
  have HLEN := Lib.hid hlen0
  have HPL := Lib.hid hpl
  clear hD hw hcap hres BC HLC hlen0 hpl
  revert HW0 HS0 HD HF0 HARG HLEN
  generalize (w.alloc (.cells #[.int .i64 B, .int .i64 P, .int .i64 S] 23)) = w0
  generalize (⟨P, l.map blkS, cursor, last, -1, opn⟩ : Bks) = b0
  intro HW0 HS0 HD HF0 HARG HLEN
  obtain ⟨n, hn⟩ : ∃ n : Nat, n = logN b0.all := ⟨_, rfl⟩
  have HN := Lib.hid (show n = logN b0.all ∧ n ≤ 4096 from ⟨hn, by rw [hn]; have : logN b0.all ≤ b0.all.length := List.length_filter_le _ _; have := HLEN.out; have := HPL.out; omega⟩)
  have hn4 : n ≤ 4096 := HN.out.2
  go_wp2_with fail
  refine (logged_both p q cap b0 w1 HD.out.isB).mono ?_
  rw [← hn]
  rintro e w2 ⟨rfl, hb2⟩
  have HD2 := Lib.hid (HD.out.of_below hb2)
  clear hb2 HD
  go_wp2_with fail
  refine (rloggedN_calls p' q' t' cap' b0 w2 HD2.out.isR).mono ?_
  rw [← hn]
  rintro e w3 ⟨rfl, rfl⟩
  have HSO := Lib.hid HD2.out.solo
  clear HD2 hn
  go_wp2
  go_loopw [12, 14, 15, 16, 17, 18] (fun s12 s14 _ _ _ _ wr => ∃ (k : Nat) (b : Bks) (before : Int), s14 = .int .i64 (k : Int) ∧ s12 = .int .u64 before ∧ k ≤ n ∧ Hid (FInv b0 b k before) ∧ Hid (Solo w0 p q cap b wr)) (fun _ s14 _ _ _ _ _ => n + 1 - (intOf s14).toNat)
  case atStart => exact ⟨0, b0, 0, rfl, rfl, Nat.zero_le _, HF0, HSO⟩
  case round =>
    obtain ⟨k, b, before, rfl, rfl, hk, HF, HS⟩ := hrel
    clear HF0 HSO
    have hki : (k : Int) ≤ (n : Int) := Int.ofNat_le.2 hk
    obtain ⟨v, hd, ok, b', hor, hb', hB, _⟩ := op_clean HF.out.wf
    have HOR := Lib.hid hor
    have HB := Lib.hid hB
    have HBE := Lib.hid hb'
    clear hor hb' hB
    go_wp2_with fail
    refine (HB.out wr p q cap HS.out.isB).mono ?_
    rintro e w4 ⟨rfl, hI1, ho1⟩
    have HS1 := Lib.hid (HS.out.toB hI1 ho1)
    clear hI1 ho1 HS HB
    cases ok
    case false =>
      have HS2 := Lib.hid (show Solo w0 p q cap b w4 by have := HS1.out; rw [HBE.out, clean_false HF.out.vic] at this; exact this)
      clear HS1 HBE
      have KB := Lib.hid (HW0.out.trans (HS2.out.below.mono HS0.out))
      have HL := Lib.hid (show b.all.length = l.length from HF.out.len.trans HLEN.out)
      have hn1 : l.length ≤ 4096 := HPL.out.2
      clear HARG
      go_wp2_with fail
      refine (open_calls p q cap b w4 HS2.out.isB).mono ?_
      rcases HF.out.wf.open_cases with ⟨h1, _, _⟩ | ⟨o, xo, h1, hxo, hs2, _, _, hol⟩
      · have e1 : (b.opn != -1) = false := by rw [h1]; rfl
        rw [e1, if_pos h1]
        rintro e w5 ⟨rfl, rfl⟩
        have HLE := Lib.hid (fifo_shut HF.out.wf HOR.out h1)
        clear h1 e1 HF HOR
        go_wp2_with fail
        refine (near_calls p q cap b _ HS2.out.isB).mono ?_
        rintro e w6 ⟨rfl, hb6⟩
        have HS6 := Lib.hid (HS2.out.of_below hb6)
        clear hb6
        go_wp2_with fail
        refine (good_calls p q cap b _ HS6.out.isB).mono ?_
        rintro e w7 ⟨rfl, hb7⟩
        have HS7 := Lib.hid (HS6.out.of_below hb7)
        clear hb7
        obtain ⟨r1, r2, r3, r4⟩ := good_range b (by rw [HL.out]; exact hn1)
        obtain ⟨wr1, wr2⟩ := wrap_add ⟨r3, r4⟩ ⟨r1, r2⟩
        have e2 : decide (nearN b + goodN b ≥ 0) = true := decide_eq_true (by omega)
        have e3 : decide (0 ≤ nearN b + goodN b) = true := e2
        generalize nearN b = nn at *
        generalize goodN b = gn at *
        clear r1 r2 r3 r4
        go_wp2_with fail
        refine (logged_both p q cap b _ HS7.out.isB).mono ?_
        rintro e w8 ⟨rfl, hb8⟩
        have KB8 := Lib.hid (HW0.out.trans ((HS7.out.of_below hb8).below.mono HS0.out))
        clear hb8
        have hle := HLE.out
        have e4 : decide ((logN b.all : Int) ≤ 1) = true := decide_eq_true (by omega)
        have e5 : decide (logN b.all ≤ 1) = true := decide_eq_true (by omega)
        generalize logN b.all = ll at *
        go_wp2
        go_ret
        exact ⟨rfl, KB8.out⟩
      · have e1 : (b.opn != -1) = true := bne_iff_ne.2 (by omega)
        rw [e1, if_neg (show ¬ b.opn = -1 by omega), h1]
        rintro e w5 ⟨rfl, rfl⟩
        have HE := Lib.hid (fun (b4 : Bks) hG => fifo_end (b4 := b4) HF.out.wf HOR.out h1 hG)
        have HCW := Lib.hid (commit_wf HF.out.wf h1 hxo hs2)
        have HMD := Lib.hid (marks_done (b := b) (k := o))
        have HOL := Lib.hid (show o < l.length by rw [← HL.out]; exact hol)
        have HCA := Lib.hid (commit_at p q cap b o w4 HS2.out.isB h1 hol)
        have HCL := Lib.hid (show (commitB b o).all.length = l.length from (allJ_len _ _).trans HL.out)
        have HML := Lib.hid (show (marksB b.all (o : Int) b.all.length).length ≤ 4096 by have h2 : (marksB b.all (o : Int) b.all.length).length ≤ (List.range b.all.length).length := List.length_filter_le _ _; rw [List.length_range] at h2; have := HL.out; omega)
        clear e1 HF HOR h1 hxo hs2 hol
        revert HE HMD HCA HML HCW
        generalize marksB b.all (o : Int) b.all.length = M
        intro HE HCW HMD HCA HML
        go_wp2_with fail
        refine HCA.out.mono ?_
        rintro e w5 ⟨A', c', rfl, hh, hfr, hI5, ho5⟩
        have HS5 := Lib.hid (HS2.out.toB hI5 ho5)
        have HHN := Lib.hid (And.intro hh (show ∀ g, A' = some g → ¬ g.block = q from fun g hg => by have h2 := hfr g hg; have h3 := HS2.out.isB.qlt; omega))
        clear hh hfr hI5 ho5 HCA HS2
        have hml := HML.out
        go_wp2
        go_loopw [23] (fun s23 wx => ∃ (i : Nat) (b4 : Bks), s23 = .int .i64 (i : Int) ∧ i ≤ M.length ∧ Hid (GInv (commitB b o) b4 M i) ∧ Hid (Solo w0 p q cap b4 wx) ∧ Hid (HoldsN wx A' M)) (fun s23 _ => M.length - (intOf s23).toNat)
        case atStart => exact ⟨0, _, rfl, Nat.zero_le _, Lib.hid (GInv.start HCW.out M), HS5, Lib.hid HHN.out.1⟩
        case round =>
          obtain ⟨i, b4, rfl, hi, HG, HSb, HH⟩ := hrel
          clear HS5
          by_cases hlt : i < M.length
          · obtain ⟨m, hm⟩ : ∃ m, M[i]? = some m := ⟨_, List.getElem?_eq_getElem hlt⟩
            obtain ⟨x, hx, hok, hg'⟩ := HG.out.step HMD.out.1 hm HMD.out.2
            have HB := Lib.hid (bad_yes p q cap b4 m x _ HSb.out.isB hx hok)
            have HG2 := Lib.hid (show Hid (GInv (commitB b o) { b4 with all := b4.all.set m badBlk } M (i + 1)) from Lib.hid hg')
            have hil : (i : Int) < (M.length : Int) := by omega
            obtain ⟨g, hA, hcell⟩ : ∃ g, A' = some ⟨g, 0, none⟩ ∧ wr.cell? ⟨g, i, none⟩ = some (.int .i64 (m : Int)) := by
              rcases HH.out with h2 | ⟨g, h2, h3⟩
              · rw [h2] at hlt; exact absurd hlt (Nat.not_lt_zero _)
              · exact ⟨g, h2, h3 i m hm⟩
            subst hA
            clear hx hok hg' hm HG
            go_wp2_with fail
            refine HB.out.mono ?_
            rintro e w6 ⟨rfl, hI6, ho6⟩
            have HS6 := Lib.hid (HSb.out.toB hI6 (ho6.mono fun j _ e => .inl e))
            have HH6 := Lib.hid (HH.out.off ho6 HHN.out.2)
            clear hI6 ho6 HSb HH hcell
            go_wp2
            go_roundw
            case rel => exact ⟨i + 1, _, by go_num, hlt, HG2.out, HS6, HH6⟩
            case measure => simp [intOf]; omega
          · have hei : i = M.length := by omega
            subst hei
            obtain ⟨xo, hE⟩ := HE.out b4 HG.out
            have HEN := Lib.hid hE
            have HL4 := Lib.hid (show b4.all.length = l.length from HG.out.len.trans HCL.out)
            clear hE HG HH hi hlt HE HMD HML
            go_wp2_with fail
            refine (list_at p q cap l.length b4 _ HSb.out.isB HL4.out).mono ?_
            rintro e w6 ⟨g6, c6, rfl, hg6, hr6, hc6, hb6⟩
            have HS6 := Lib.hid (HSb.out.of_below hb6)
            have HR := Lib.hid hr6
            have HLG := Lib.hid HEN.out.log
            have HON := Lib.hid HEN.out.one
            have ho0 : w6.cell? ⟨g6, o * 4 + 1, none⟩ = some (.int .u64 xo.head) := hr6 o xo HEN.out.at_ 1 _ rfl
            have hol := HOL.out
            have hoi : (o : Int) < (l.length : Int) := Int.ofNat_lt.2 hol
            clear hg6 hr6 hb6 HSb
            go_wp2
            go_loopw [25, 26] (fun s25 s26 wx => ∃ j m : Nat, s26 = .int .i64 (j : Int) ∧ s25 = .int .i64 (bCnt b4.all o j : Nat) ∧ j ≤ l.length ∧ wx = w6.drewN m) (fun _ s26 _ => l.length - (intOf s26).toNat)
            case atStart => exact ⟨0, 0, rfl, rfl, Nat.zero_le _, rfl⟩
            case round =>
              obtain ⟨j, m, rfl, rfl, hj, rfl⟩ := hrel
              have hbl := bCnt_le b4.all o j
              by_cases hlt : j < l.length
              · obtain ⟨x, hx⟩ : ∃ x, b4.all[j]? = some x := ⟨_, List.getElem?_eq_getElem (by rw [HL4.out]; exact hlt)⟩
                have r0 : w6.cell? ⟨g6, j * 4, none⟩ = some (.int .i64 x.state) := HR.out j x hx 0 _ rfl
                have r1 : w6.cell? ⟨g6, j * 4 + 1, none⟩ = some (.int .u64 x.head) := HR.out j x hx 1 _ rfl
                have hji : (j : Int) < (l.length : Int) := by omega
                by_cases hjo : j = o
                · have e1 : ((j : Int) != (o : Int)) = false := by rw [hjo]; simp
                  have HNX := Lib.hid (show (bCnt b4.all o j : Nat) = bCnt b4.all o (j + 1) by rw [bCnt_succ, show bAt b4.all o j = false by unfold bAt; rw [hx]; simp [hjo]]; rfl)
                  clear hjo hx r0 r1
                  go_wp2
                  go_roundw
                  case rel => exact ⟨j + 1, _, by go_num, by rw [← HNX.out], hlt, rfl⟩
                  case measure => simp [intOf]; omega
                · have e1 : ((j : Int) != (o : Int)) = true := bne_iff_ne.2 (by omega)
                  by_cases h0 : x.state = 0
                  · have e2 : (x.state != 0) = false := by rw [h0]; rfl
                    have HNX := Lib.hid (show (bCnt b4.all o j : Nat) = bCnt b4.all o (j + 1) by rw [bCnt_succ, show bAt b4.all o j = false by unfold bAt; rw [hx]; simp [h0]]; rfl)
                    clear hjo hx h0 r1
                    go_wp2
                    go_roundw
                    case rel => exact ⟨j + 1, _, by go_num, by rw [← HNX.out], hlt, rfl⟩
                    case measure => simp [intOf]; omega
                  · have e2 : (x.state != 0) = true := bne_iff_ne.2 h0
                    by_cases h6 : x.state = 6
                    · have e3 : (x.state != 6) = false := by rw [h6]; rfl
                      have HNX := Lib.hid (show (bCnt b4.all o j : Nat) = bCnt b4.all o (j + 1) by rw [bCnt_succ, show bAt b4.all o j = false by unfold bAt; rw [hx]; simp [h6]]; rfl)
                      clear hjo hx h0 h6 r1
                      go_wp2
                      go_roundw
                      case rel => exact ⟨j + 1, _, by go_num, by rw [← HNX.out], hlt, rfl⟩
                      case measure => simp [intOf]; omega
                    · have e3 : (x.state != 6) = true := bne_iff_ne.2 h6
                      obtain ⟨hst, hhd⟩ := HEN.out.behind j x hx (by unfold bAt; rw [hx]; simp [hjo, h0, h6])
                      have HNX := Lib.hid (show (bCnt b4.all o j : Nat) + 1 = bCnt b4.all o (j + 1) by rw [bCnt_succ, show bAt b4.all o j = true by unfold bAt; rw [hx]; simp [hjo, h0, h6]]; rfl)
                      have e5 : decide (x.head < xo.head) = false := decide_eq_false (by omega)
                      have e6 : decide (xo.head ≤ x.head) = true := decide_eq_true hhd
                      revert HNX hbl
                      generalize bCnt b4.all o j = cj
                      intro hbl HNX
                      by_cases h1 : x.state = 1
                      · have m1 : (x.state != 1) = false := by rw [h1]; rfl
                        clear hjo hx h0 h6 hst hhd h1
                        go_wp2_with fail
                        go_quiet (fail)
                        go_wp2
                        go_roundw
                        case rel => exact ⟨j + 1, _, by go_num, by rw [← HNX.out]; go_num, hlt, rfl⟩
                        case measure => simp [intOf]; omega
                      · have m1 : (x.state != 1) = true := bne_iff_ne.2 h1
                        have m4 : (x.state != 4) = false := by rw [hst.resolve_left h1]; rfl
                        clear hjo hx h0 h6 hst hhd h1
                        go_wp2_with fail
                        go_quiet (fail)
                        go_wp2
                        go_roundw
                        case rel => exact ⟨j + 1, _, by go_num, by rw [← HNX.out]; go_num, hlt, rfl⟩
                        case measure => simp [intOf]; omega
              · have hej : j = l.length := by omega
                subst hej
                have hc1 : bCnt b4.all o l.length ≤ 1 := by have := HON.out; rw [HL4.out] at this; exact this
                have HLG2 := Lib.hid (show logN b4.all = 1 + bCnt b4.all o l.length by have := HLG.out; rw [HL4.out] at this; exact this)
                have HS7 := Lib.hid (HS6.out.drewN m)
                clear HLG HON HEN ho0 HR hbl hlt hj hoi hol
                generalize bCnt b4.all o l.length = cn at *
                have e4 : decide ((cn : Int) ≤ 1) = true := decide_eq_true (by omega)
                have e4' : decide (cn ≤ 1) = true := decide_eq_true (by omega)
                have e5 : (((1 + cn : Nat) : Int) == 1 + (cn : Int)) = true := beq_iff_eq.2 (by omega)
                obtain ⟨wr1, wr2⟩ := wrap_add (x := 1) (y := (cn : Int)) (by omega) (by omega)
                go_wp2_with fail
                refine (logged_both p q cap b4 _ HS7.out.isB).mono ?_
                rw [HLG2.out]
                rintro e w8 ⟨rfl, hb8⟩
                have KB8 := Lib.hid (HW0.out.trans ((HS7.out.of_below hb8).below.mono HS0.out))
                clear hb8
                go_wp2
                go_ret
                exact ⟨rfl, KB8.out⟩
    case true =>
      obtain ⟨i, x, hv, hx, hcx, hst, hlx, hlt, hmin⟩ := HOR.out.first HF.out.wf
      have HS2 := Lib.hid (show Solo w0 p q cap { b with victim := (i : Int) } w4 by have := HS1.out; rw [HBE.out, clean_true HF.out.vic, hv] at this; exact this)
      have hil : i < l.length := by have := (List.getElem?_eq_some_iff.1 hx).1; have := HF.out.len; have := HLEN.out; omega
      have hii : (i : Int) < (l.length : Int) := Int.ofNat_lt.2 hil
      have HST := Lib.hid (show Hid (FInv b0 { b with all := b.all.set i (goneX x), victim := -1 } (k + 1) x.head) from Lib.hid (HF.out.step HOR.out hv hx hcx hst hlx hmin))
      have hkn : k < n := by have := HF.out.cnt; have := HN.out.1; have := logN_pos hx hcx; omega
      have e1 : ((k : Int) == (n : Int)) = false := beq_eq_false_iff_ne.2 (by omega)
      have hab := HF.out.above i x hx hcx (by omega)
      have e2 : decide (x.head ≤ before) = false := decide_eq_false (by omega)
      have e3 : decide (hd ≤ x.head) = false := decide_eq_false (by omega)
      have hlv : 0 ≤ x.live ∧ x.live ≤ 256 := by
        have := HF.out.wf.pg
        rcases (HF.out.wf.row i x hx).body with h | h <;> omega
      have HX := Lib.hid (And.intro hx (And.intro hst hlx))
      have HL4 := Lib.hid (show b.all.length = l.length from HF.out.len.trans HLEN.out)
      have HWF := Lib.hid HF.out.wf
      have HB0 := Lib.hid (HF.out.same i x hx hcx)
      have hwr := wrap_neg hlv.1 hlv.2
      obtain ⟨wr1, wr2⟩ := hwr
      subst hv
      clear HS1 HBE hx hcx hst hlx hlt hmin hab hlv HOR HF
      have hn1 : l.length ≤ 4096 := HPL.out.2
      go_wp2_with fail
      refine (list_at p q cap l.length { b with victim := (i : Int) } w4 HS2.out.isB HL4.out).mono ?_
      rintro e w5 ⟨ga, ca, rfl, hga, hra, hca, hba⟩
      have HS3 := Lib.hid (HS2.out.of_below hba)
      have c0 : w5.cell? ⟨ga, i * 4, none⟩ = some (.int .i64 x.state) := hra i x HX.out.1 0 _ rfl
      have c1 : w5.cell? ⟨ga, i * 4 + 1, none⟩ = some (.int .u64 x.head) := hra i x HX.out.1 1 _ rfl
      have c2 : w5.cell? ⟨ga, i * 4 + 2, none⟩ = some (.bool x.real) := hra i x HX.out.1 2 _ rfl
      have c3 : w5.cell? ⟨ga, i * 4 + 3, none⟩ = some (.int .i64 x.live) := hra i x HX.out.1 3 _ rfl
      have HS4 := Lib.hid (HS3.out.alloc (.cells #[.int .i64 x.state, .int .u64 x.head, .bool x.real, .int .i64 x.live] 34))
      have HCP := Lib.hid (heap_alloc_new w5 (.cells #[.int .i64 x.state, .int .u64 x.head, .bool x.real, .int .i64 x.live] 34))
      obtain ⟨lg, lo, rfl, a0, a1, a2, a3⟩ := HARG.out _ (HW0.out.trans (HS4.out.below.mono HS0.out)) i x HB0.out
      clear hga hra hca hba HS2 HS3
      go_upto_region 14 with fail
      revert HS4 HCP a0 a1 a2 a3
      generalize w5.alloc (.cells #[.int .i64 x.state, .int .u64 x.head, .bool x.real, .int .i64 x.live] 34) = w6
      intro HS4 HCP a0 a1 a2 a3
      clear c0 c1 c2 c3
      have x0 := cell_of (o := 0) HCP.out rfl
      have x1 := cell_of (o := 1) HCP.out rfl
      have x2 := cell_of (o := 2) HCP.out rfl
      have x3 := cell_of (o := 3) HCP.out rfl
      go_cut [99] from 67 to 99 (fun v wx => v = .bool false ∧ ∃ m, wx = w6.drewN m)
      case first =>
        by_cases h1 : x.state = 1
        · have m1 : (x.state != 1) = false := by rw [h1]; rfl
          clear h1
          go_wp2_with fail
          go_quiet (fail)
          go_wp2
          go_meet
          case rel => exact ⟨rfl, _, rfl⟩
        · have m1 : (x.state != 1) = true := bne_iff_ne.2 h1
          have m4 : (x.state != 4) = false := by rw [HX.out.2.1.resolve_left h1]; rfl
          clear h1
          go_wp2_with fail
          go_quiet (fail)
          go_wp2
          go_meet
          case rel => exact ⟨rfl, _, rfl⟩
      case rest =>
        obtain ⟨rfl, m6, hw6⟩ := hcut
        have HS5 := Lib.hid (show Solo w0 p q cap { b with victim := (i : Int) } wc by rw [hw6]; exact HS4.out.drewN m6)
        have hcp : wc.heap[w5.heap.size]? = some (.cells #[.int .i64 x.state, .int .u64 x.head, .bool x.real, .int .i64 x.live] 34 (0, 0)) := by rw [hw6]; exact HCP.out
        have HCP5 := Lib.hid hcp
        have HAP := Lib.hid (HS5.out.apart hcp (by decide) (by decide))
        have HX2 := Lib.hid (show (b.all.set i { x with live := 0 })[i]? = some { x with live := 0 } from List.getElem?_set_self (List.getElem?_eq_some_iff.1 HX.out.1).1)
        have HL2 := Lib.hid (show (b.all.set i { x with live := 0 }).length = l.length by rw [List.length_set]; exact HL4.out)
        clear x0 x1 x2 x3 hcp hw6 HS4 HCP
        have x0 := cell_of (o := 0) HCP5.out rfl
        have x1 := cell_of (o := 1) HCP5.out rfl
        have x2 := cell_of (o := 2) HCP5.out rfl
        have x3 := cell_of (o := 3) HCP5.out rfl
        go_wp2_with fail
        refine (live_zero p q cap b i x wc HS5.out.isB HWF.out HX.out.1 HX.out.2.1 HX.out.2.2).mono ?_
        rintro e w7 ⟨rfl, hI7, ho7⟩
        have hs0 : Solo w0 p q cap { b with victim := (i : Int), all := b.all.set i { x with live := 0 } } w7.drew := (HS5.out.toB hI7 ho7).drewN 1
        have hh7 := (ho7.block w5.heap.size (lt_of_heap HCP5.out) HAP.out).trans HCP5.out
        have y0 : w7.drew.cell? ⟨w5.heap.size, 0, none⟩ = some (.int .i64 x.state) := cell_of (w := w7) (o := 0) hh7 rfl
        have y2 : w7.drew.cell? ⟨w5.heap.size, 2, none⟩ = some (.bool x.real) := cell_of (w := w7) (o := 2) hh7 rfl
        have hlp : p < w7.drew.heap.size := (HS5.out.toB hI7 ho7).isB.plt
        have hlq : q < w7.drew.heap.size := (HS5.out.toB hI7 ho7).isB.qlt
        clear hI7 ho7 hh7 x0 x1 x2 x3 HS5 HCP5
        go_wp2_with fail
        refine wp_region_held_drew (S := (fun V => V.cell? ⟨w5.heap.size, 0, none⟩ = some (.int .i64 x.state) ∧ V.cell? ⟨w5.heap.size, 2, none⟩ = some (.bool x.real))) (by kernel_rfl) ?_ (fun hHeld => ?_)
        · exact ⟨y0, y2⟩
        refine wpAnyH_take (i := 0) (v := .pointer (some ⟨p, 0, none⟩)) rfl (by kernel_rfl) (by kernel_rfl) (by kernel_rfl) (fun _ _ _ h => h) (Or.inl ⟨by rfl, ?_⟩) (by assumption) ?_
        · intro V hV
          obtain ⟨s0, s1⟩ := hV
          go_simp
        try simp only [List.getElem_toArray, List.getElem_cons_succ, List.getElem_cons_zero, Act.put, List.setIfInBounds_toArray, List.set_cons_zero, List.set_cons_succ]
        refine wpAnyH_take (i := 2) (v := .int .i64 (i : Int)) rfl (by kernel_rfl) (by kernel_rfl) (by kernel_rfl) (fun _ _ _ h => h) (Or.inl ⟨by rfl, ?_⟩) (by assumption) ?_
        · intro V hV
          obtain ⟨s0, s1⟩ := hV
          go_simp
        try simp only [List.getElem_toArray, List.getElem_cons_succ, List.getElem_cons_zero, Act.put, List.setIfInBounds_toArray, List.set_cons_zero, List.set_cons_succ]
        refine wpAnyH_take (i := 6) (v := .pointer (some ⟨w5.heap.size, 0, none⟩)) rfl (by kernel_rfl) (by kernel_rfl) (by kernel_rfl) (fun _ _ _ h => h) (Or.inl ⟨by rfl, ?_⟩) (by assumption) ?_
        · intro V hV
          obtain ⟨s0, s1⟩ := hV
          go_simp
        try simp only [List.getElem_toArray, List.getElem_cons_succ, List.getElem_cons_zero, Act.put, List.setIfInBounds_toArray, List.set_cons_zero, List.set_cons_succ]
        refine wpAnyH_take (i := 7) (v := .int .i64 x.state) rfl (by kernel_rfl) (by kernel_rfl) (by kernel_rfl) (fun _ _ _ h => h) (Or.inl ⟨by rfl, ?_⟩) (by assumption) ?_
        · intro V hV
          obtain ⟨s0, s1⟩ := hV
          go_simp
        try simp only [List.getElem_toArray, List.getElem_cons_succ, List.getElem_cons_zero, Act.put, List.setIfInBounds_toArray, List.set_cons_zero, List.set_cons_succ]
        refine wpAnyH_ready (rs := [1]) (by kernel_rfl) (by simp) ?_
        refine AllReadyH.cons rfl (fun K hK => ?_) AllReadyH.nil
        go_simp
        refine (list_at p q cap l.length { b with victim := (i : Int), all := b.all.set i { x with live := 0 } } _ hs0.isB HL2.out).mono ?_
        rintro e wa ⟨ga, cga, rfl, hgga, hrga, hcga, hbga⟩
        have hs_ga : Solo w0 p q cap { b with victim := (i : Int), all := b.all.set i { x with live := 0 } } wa := hs0.of_below hbga
        have kga : wa.cell? ⟨ga, i * 4, none⟩ = some (.int .i64 x.state) := hrga i _ HX2.out 0 _ rfl
        have hzga := hbga.size
        have nga : ¬ (ga = q ∨ ga = p) := fresh2 hlp hlq hgga
        have h0ga := cells2_below y0 y2 hbga
        clear hrga hcga hbga
        go_wp2_with fail
        refine hK.out _ _ ?_ (fun hHeld => ?_)
        · exact h0ga
        clear hK K hHeld
        try simp only [List.getElem_toArray, List.getElem_cons_succ, List.getElem_cons_zero, Act.put, List.setIfInBounds_toArray, List.set_cons_zero, List.set_cons_succ]
        refine weaken (S' := (fun V => (V.cell? ⟨w5.heap.size, 0, none⟩ = some (.int .i64 x.state) ∧ V.cell? ⟨w5.heap.size, 2, none⟩ = some (.bool x.real)) ∧ V.cell? ⟨ga, i * 4, none⟩ = some (.int .i64 x.state))) (fun W h => h.1) _ _ _ _ ?_
        have hHeld1 : (fun V => (V.cell? ⟨w5.heap.size, 0, none⟩ = some (.int .i64 x.state) ∧ V.cell? ⟨w5.heap.size, 2, none⟩ = some (.bool x.real)) ∧ V.cell? ⟨ga, i * 4, none⟩ = some (.int .i64 x.state)) wa := ⟨h0ga, kga⟩
        refine wpAnyH_take (i := 3) (v := .pointer (some ⟨ga, i * 4, none⟩)) rfl (by kernel_rfl) (by kernel_rfl) (by kernel_rfl) (fun _ _ _ h => h) (Or.inl ⟨by rfl, ?_⟩) (by assumption) ?_
        · intro V hV
          obtain ⟨⟨s0, s1⟩, s2⟩ := hV
          go_simp
        try simp only [List.getElem_toArray, List.getElem_cons_succ, List.getElem_cons_zero, Act.put, List.setIfInBounds_toArray, List.set_cons_zero, List.set_cons_succ]
        refine wpAnyH_take (i := 4) (v := .pointer (some ⟨ga, i * 4, none⟩)) rfl (by kernel_rfl) (by kernel_rfl) (by kernel_rfl) (fun _ _ _ h => h) (Or.inl ⟨by rfl, ?_⟩) (by assumption) ?_
        · intro V hV
          obtain ⟨⟨s0, s1⟩, s2⟩ := hV
          go_simp
        try simp only [List.getElem_toArray, List.getElem_cons_succ, List.getElem_cons_zero, Act.put, List.setIfInBounds_toArray, List.set_cons_zero, List.set_cons_succ]
        refine wpAnyH_take (i := 5) (v := .int .i64 x.state) rfl (by kernel_rfl) (by kernel_rfl) (by kernel_rfl) (fun _ _ _ h => h) (Or.inl ⟨by rfl, ?_⟩) (by assumption) ?_
        · intro V hV
          obtain ⟨⟨s0, s1⟩, s2⟩ := hV
          go_simp
        try simp only [List.getElem_toArray, List.getElem_cons_succ, List.getElem_cons_zero, Act.put, List.setIfInBounds_toArray, List.set_cons_zero, List.set_cons_succ]
        refine wpAnyH_take (i := 8) (v := .bool false) rfl (by kernel_rfl) (by kernel_rfl) (by kernel_rfl) (fun _ _ _ h => h) (Or.inl ⟨by rfl, ?_⟩) (by assumption) ?_
        · intro V hV
          obtain ⟨⟨s0, s1⟩, s2⟩ := hV
          go_simp
        try simp only [List.getElem_toArray, List.getElem_cons_succ, List.getElem_cons_zero, Act.put, List.setIfInBounds_toArray, List.set_cons_zero, List.set_cons_succ]
        refine wpAnyH_take (i := 9) (v := .bool false) rfl (by kernel_rfl) (by kernel_rfl) (by kernel_rfl) (fun _ _ _ h => h) (Or.inl ⟨by rfl, ?_⟩) (by assumption) ?_
        · intro V hV
          obtain ⟨⟨s0, s1⟩, s2⟩ := hV
          go_simp
        try simp only [List.getElem_toArray, List.getElem_cons_succ, List.getElem_cons_zero, Act.put, List.setIfInBounds_toArray, List.set_cons_zero, List.set_cons_succ]
        refine wpAnyH_take (i := 10) (v := .pointer (some ⟨p, 0, none⟩)) rfl (by kernel_rfl) (by kernel_rfl) (by kernel_rfl) (fun _ _ _ h => h) (Or.inl ⟨by rfl, ?_⟩) (by assumption) ?_
        · intro V hV
          obtain ⟨⟨s0, s1⟩, s2⟩ := hV
          go_simp
        try simp only [List.getElem_toArray, List.getElem_cons_succ, List.getElem_cons_zero, Act.put, List.setIfInBounds_toArray, List.set_cons_zero, List.set_cons_succ]
        refine wpAnyH_take (i := 12) (v := .int .i64 (i : Int)) rfl (by kernel_rfl) (by kernel_rfl) (by kernel_rfl) (fun _ _ _ h => h) (Or.inl ⟨by rfl, ?_⟩) (by assumption) ?_
        · intro V hV
          obtain ⟨⟨s0, s1⟩, s2⟩ := hV
          go_simp
        try simp only [List.getElem_toArray, List.getElem_cons_succ, List.getElem_cons_zero, Act.put, List.setIfInBounds_toArray, List.set_cons_zero, List.set_cons_succ]
        refine wpAnyH_ready (rs := [11]) (by kernel_rfl) (by simp) ?_
        refine AllReadyH.cons rfl (fun K hK => ?_) AllReadyH.nil
        go_simp
        refine (list_at p q cap l.length { b with victim := (i : Int), all := b.all.set i { x with live := 0 } } _ hs_ga.isB HL2.out).mono ?_
        rintro e wb ⟨gb, cgb, rfl, hggb, hrgb, hcgb, hbgb⟩
        have hs_gb : Solo w0 p q cap { b with victim := (i : Int), all := b.all.set i { x with live := 0 } } wb := hs_ga.of_below hbgb
        have kgb : wb.cell? ⟨gb, i * 4 + 3, none⟩ = some (.int .i64 0) := hrgb i _ HX2.out 3 _ rfl
        have hzgb := hbgb.size
        have ngb : ¬ (gb = q ∨ gb = p) := fresh2 hlp hlq (Nat.le_trans hzga hggb)
        have h0gb := And.intro (cells2_below h0ga.1 h0ga.2 hbgb) (keep_cell kga hbgb)
        clear hrgb hcgb hbgb
        go_wp2_with fail
        refine hK.out _ _ ?_ (fun hHeld => ?_)
        · exact h0gb
        clear hK K hHeld
        try simp only [List.getElem_toArray, List.getElem_cons_succ, List.getElem_cons_zero, Act.put, List.setIfInBounds_toArray, List.set_cons_zero, List.set_cons_succ]
        refine weaken (S' := (fun V => ((V.cell? ⟨w5.heap.size, 0, none⟩ = some (.int .i64 x.state) ∧ V.cell? ⟨w5.heap.size, 2, none⟩ = some (.bool x.real)) ∧ V.cell? ⟨ga, i * 4, none⟩ = some (.int .i64 x.state)) ∧ V.cell? ⟨gb, i * 4 + 3, none⟩ = some (.int .i64 0))) (fun W h => h.1) _ _ _ _ ?_
        have hHeld2 : (fun V => ((V.cell? ⟨w5.heap.size, 0, none⟩ = some (.int .i64 x.state) ∧ V.cell? ⟨w5.heap.size, 2, none⟩ = some (.bool x.real)) ∧ V.cell? ⟨ga, i * 4, none⟩ = some (.int .i64 x.state)) ∧ V.cell? ⟨gb, i * 4 + 3, none⟩ = some (.int .i64 0)) wb := ⟨h0gb, kgb⟩
        refine wpAnyH_take (i := 13) (v := .pointer (some ⟨gb, i * 4, none⟩)) rfl (by kernel_rfl) (by kernel_rfl) (by kernel_rfl) (fun _ _ _ h => h) (Or.inl ⟨by rfl, ?_⟩) (by assumption) ?_
        · intro V hV
          obtain ⟨⟨⟨s0, s1⟩, s2⟩, s3⟩ := hV
          go_simp
        try simp only [List.getElem_toArray, List.getElem_cons_succ, List.getElem_cons_zero, Act.put, List.setIfInBounds_toArray, List.set_cons_zero, List.set_cons_succ]
        refine wpAnyH_take (i := 14) (v := .pointer (some ⟨gb, i * 4 + 3, none⟩)) rfl (by kernel_rfl) (by kernel_rfl) (by kernel_rfl) (fun _ _ _ h => h) (Or.inl ⟨by rfl, ?_⟩) (by assumption) ?_
        · intro V hV
          obtain ⟨⟨⟨s0, s1⟩, s2⟩, s3⟩ := hV
          go_simp
        try simp only [List.getElem_toArray, List.getElem_cons_succ, List.getElem_cons_zero, Act.put, List.setIfInBounds_toArray, List.set_cons_zero, List.set_cons_succ]
        refine wpAnyH_take (i := 15) (v := .int .i64 0) rfl (by kernel_rfl) (by kernel_rfl) (by kernel_rfl) (fun _ _ _ h => h) (Or.inl ⟨by rfl, ?_⟩) (by assumption) ?_
        · intro V hV
          obtain ⟨⟨⟨s0, s1⟩, s2⟩, s3⟩ := hV
          go_simp
        try simp only [List.getElem_toArray, List.getElem_cons_succ, List.getElem_cons_zero, Act.put, List.setIfInBounds_toArray, List.set_cons_zero, List.set_cons_succ]
        refine wpAnyH_take (i := 16) (v := .bool false) rfl (by kernel_rfl) (by kernel_rfl) (by kernel_rfl) (fun _ _ _ h => h) (Or.inl ⟨by rfl, ?_⟩) (by assumption) ?_
        · intro V hV
          obtain ⟨⟨⟨s0, s1⟩, s2⟩, s3⟩ := hV
          go_simp
        try simp only [List.getElem_toArray, List.getElem_cons_succ, List.getElem_cons_zero, Act.put, List.setIfInBounds_toArray, List.set_cons_zero, List.set_cons_succ]
        refine wpAnyH_take (i := 17) (v := .bool false) rfl (by kernel_rfl) (by kernel_rfl) (by kernel_rfl) (fun _ _ _ h => h) (Or.inl ⟨by rfl, ?_⟩) (by assumption) ?_
        · intro V hV
          obtain ⟨⟨⟨s0, s1⟩, s2⟩, s3⟩ := hV
          go_simp
        try simp only [List.getElem_toArray, List.getElem_cons_succ, List.getElem_cons_zero, Act.put, List.setIfInBounds_toArray, List.set_cons_zero, List.set_cons_succ]
        refine wpAnyH_take (i := 18) (v := .bool false) rfl (by kernel_rfl) (by kernel_rfl) (by kernel_rfl) (fun _ _ _ h => h) (Or.inl ⟨by rfl, ?_⟩) (by assumption) ?_
        · intro V hV
          obtain ⟨⟨⟨s0, s1⟩, s2⟩, s3⟩ := hV
          go_simp
        try simp only [List.getElem_toArray, List.getElem_cons_succ, List.getElem_cons_zero, Act.put, List.setIfInBounds_toArray, List.set_cons_zero, List.set_cons_succ]
        refine wpAnyH_take (i := 19) (v := .pointer (some ⟨p, 0, none⟩)) rfl (by kernel_rfl) (by kernel_rfl) (by kernel_rfl) (fun _ _ _ h => h) (Or.inl ⟨by rfl, ?_⟩) (by assumption) ?_
        · intro V hV
          obtain ⟨⟨⟨s0, s1⟩, s2⟩, s3⟩ := hV
          go_simp
        try simp only [List.getElem_toArray, List.getElem_cons_succ, List.getElem_cons_zero, Act.put, List.setIfInBounds_toArray, List.set_cons_zero, List.set_cons_succ]
        refine wpAnyH_take (i := 21) (v := .int .i64 (i : Int)) rfl (by kernel_rfl) (by kernel_rfl) (by kernel_rfl) (fun _ _ _ h => h) (Or.inl ⟨by rfl, ?_⟩) (by assumption) ?_
        · intro V hV
          obtain ⟨⟨⟨s0, s1⟩, s2⟩, s3⟩ := hV
          go_simp
        try simp only [List.getElem_toArray, List.getElem_cons_succ, List.getElem_cons_zero, Act.put, List.setIfInBounds_toArray, List.set_cons_zero, List.set_cons_succ]
        refine wpAnyH_take (i := 25) (v := .pointer (some ⟨w5.heap.size, 2, none⟩)) rfl (by kernel_rfl) (by kernel_rfl) (by kernel_rfl) (fun _ _ _ h => h) (Or.inl ⟨by rfl, ?_⟩) (by assumption) ?_
        · intro V hV
          obtain ⟨⟨⟨s0, s1⟩, s2⟩, s3⟩ := hV
          go_simp
        try simp only [List.getElem_toArray, List.getElem_cons_succ, List.getElem_cons_zero, Act.put, List.setIfInBounds_toArray, List.set_cons_zero, List.set_cons_succ]
        refine wpAnyH_take (i := 26) (v := .bool x.real) rfl (by kernel_rfl) (by kernel_rfl) (by kernel_rfl) (fun _ _ _ h => h) (Or.inl ⟨by rfl, ?_⟩) (by assumption) ?_
        · intro V hV
          obtain ⟨⟨⟨s0, s1⟩, s2⟩, s3⟩ := hV
          go_simp
        try simp only [List.getElem_toArray, List.getElem_cons_succ, List.getElem_cons_zero, Act.put, List.setIfInBounds_toArray, List.set_cons_zero, List.set_cons_succ]
        refine wpAnyH_ready (rs := [20]) (by kernel_rfl) (by simp) ?_
        refine AllReadyH.cons rfl (fun K hK => ?_) AllReadyH.nil
        go_simp
        refine (list_at p q cap l.length { b with victim := (i : Int), all := b.all.set i { x with live := 0 } } _ hs_gb.isB HL2.out).mono ?_
        rintro e wd ⟨gc, cgc, rfl, hggc, hrgc, hcgc, hbgc⟩
        have hs_gc : Solo w0 p q cap { b with victim := (i : Int), all := b.all.set i { x with live := 0 } } wd := hs_gb.of_below hbgc
        have kgc : wd.cell? ⟨gc, i * 4 + 2, none⟩ = some (.bool x.real) := hrgc i _ HX2.out 2 _ rfl
        have hzgc := hbgc.size
        have ngc : ¬ (gc = q ∨ gc = p) := fresh2 hlp hlq (Nat.le_trans (Nat.le_trans hzga hzgb) hggc)
        have h0gc := And.intro (And.intro (cells2_below h0gb.1.1 h0gb.1.2 hbgc) (keep_cell h0gb.2 hbgc)) (keep_cell kgb hbgc)
        clear hrgc hcgc hbgc
        go_wp2_with fail
        refine hK.out _ _ ?_ (fun hHeld => ?_)
        · exact h0gc
        clear hK K hHeld
        try simp only [List.getElem_toArray, List.getElem_cons_succ, List.getElem_cons_zero, Act.put, List.setIfInBounds_toArray, List.set_cons_zero, List.set_cons_succ]
        refine weaken (S' := (fun V => (((V.cell? ⟨w5.heap.size, 0, none⟩ = some (.int .i64 x.state) ∧ V.cell? ⟨w5.heap.size, 2, none⟩ = some (.bool x.real)) ∧ V.cell? ⟨ga, i * 4, none⟩ = some (.int .i64 x.state)) ∧ V.cell? ⟨gb, i * 4 + 3, none⟩ = some (.int .i64 0)) ∧ V.cell? ⟨gc, i * 4 + 2, none⟩ = some (.bool x.real))) (fun W h => h.1) _ _ _ _ ?_
        have hHeld3 : (fun V => (((V.cell? ⟨w5.heap.size, 0, none⟩ = some (.int .i64 x.state) ∧ V.cell? ⟨w5.heap.size, 2, none⟩ = some (.bool x.real)) ∧ V.cell? ⟨ga, i * 4, none⟩ = some (.int .i64 x.state)) ∧ V.cell? ⟨gb, i * 4 + 3, none⟩ = some (.int .i64 0)) ∧ V.cell? ⟨gc, i * 4 + 2, none⟩ = some (.bool x.real)) wd := ⟨h0gc, kgc⟩
        refine wpAnyH_take (i := 22) (v := .pointer (some ⟨gc, i * 4, none⟩)) rfl (by kernel_rfl) (by kernel_rfl) (by kernel_rfl) (fun _ _ _ h => h) (Or.inl ⟨by rfl, ?_⟩) (by assumption) ?_
        · intro V hV
          obtain ⟨⟨⟨⟨s0, s1⟩, s2⟩, s3⟩, s4⟩ := hV
          go_simp
        try simp only [List.getElem_toArray, List.getElem_cons_succ, List.getElem_cons_zero, Act.put, List.setIfInBounds_toArray, List.set_cons_zero, List.set_cons_succ]
        refine wpAnyH_take (i := 23) (v := .pointer (some ⟨gc, i * 4 + 2, none⟩)) rfl (by kernel_rfl) (by kernel_rfl) (by kernel_rfl) (fun _ _ _ h => h) (Or.inl ⟨by rfl, ?_⟩) (by assumption) ?_
        · intro V hV
          obtain ⟨⟨⟨⟨s0, s1⟩, s2⟩, s3⟩, s4⟩ := hV
          go_simp
        try simp only [List.getElem_toArray, List.getElem_cons_succ, List.getElem_cons_zero, Act.put, List.setIfInBounds_toArray, List.set_cons_zero, List.set_cons_succ]
        refine wpAnyH_take (i := 24) (v := .bool x.real) rfl (by kernel_rfl) (by kernel_rfl) (by kernel_rfl) (fun _ _ _ h => h) (Or.inl ⟨by rfl, ?_⟩) (by assumption) ?_
        · intro V hV
          obtain ⟨⟨⟨⟨s0, s1⟩, s2⟩, s3⟩, s4⟩ := hV
          go_simp
        try simp only [List.getElem_toArray, List.getElem_cons_succ, List.getElem_cons_zero, Act.put, List.setIfInBounds_toArray, List.set_cons_zero, List.set_cons_succ]
        refine wpAnyH_take (i := 27) (v := .bool false) rfl (by kernel_rfl) (by kernel_rfl) (by kernel_rfl) (fun _ _ _ h => h) (Or.inl ⟨by rfl, ?_⟩) (by assumption) ?_
        · intro V hV
          obtain ⟨⟨⟨⟨s0, s1⟩, s2⟩, s3⟩, s4⟩ := hV
          go_simp
        try simp only [List.getElem_toArray, List.getElem_cons_succ, List.getElem_cons_zero, Act.put, List.setIfInBounds_toArray, List.set_cons_zero, List.set_cons_succ]
        refine wpAnyH_take (i := 28) (v := .bool false) rfl (by kernel_rfl) (by kernel_rfl) (by kernel_rfl) (fun _ _ _ h => h) (Or.inl ⟨by rfl, ?_⟩) (by assumption) ?_
        · intro V hV
          obtain ⟨⟨⟨⟨s0, s1⟩, s2⟩, s3⟩, s4⟩ := hV
          go_simp
        try simp only [List.getElem_toArray, List.getElem_cons_succ, List.getElem_cons_zero, Act.put, List.setIfInBounds_toArray, List.set_cons_zero, List.set_cons_succ]
        refine wpAnyH_take (i := 29) (v := .bool false) rfl (by kernel_rfl) (by kernel_rfl) (by kernel_rfl) (fun _ _ _ h => h) (Or.inl ⟨by rfl, ?_⟩) (by assumption) ?_
        · intro V hV
          obtain ⟨⟨⟨⟨s0, s1⟩, s2⟩, s3⟩, s4⟩ := hV
          go_simp
        try simp only [List.getElem_toArray, List.getElem_cons_succ, List.getElem_cons_zero, Act.put, List.setIfInBounds_toArray, List.set_cons_zero, List.set_cons_succ]
        refine wpAnyH_take (i := 30) (v := .pointer (some ⟨p, 0, none⟩)) rfl (by kernel_rfl) (by kernel_rfl) (by kernel_rfl) (fun _ _ _ h => h) (Or.inl ⟨by rfl, ?_⟩) (by assumption) ?_
        · intro V hV
          obtain ⟨⟨⟨⟨s0, s1⟩, s2⟩, s3⟩, s4⟩ := hV
          go_simp
        try simp only [List.getElem_toArray, List.getElem_cons_succ, List.getElem_cons_zero, Act.put, List.setIfInBounds_toArray, List.set_cons_zero, List.set_cons_succ]
        refine wpAnyH_take (i := 31) (v := .int .i64 (i : Int)) rfl (by kernel_rfl) (by kernel_rfl) (by kernel_rfl) (fun _ _ _ h => h) (Or.inl ⟨by rfl, ?_⟩) (by assumption) ?_
        · intro V hV
          obtain ⟨⟨⟨⟨s0, s1⟩, s2⟩, s3⟩, s4⟩ := hV
          go_simp
        try simp only [List.getElem_toArray, List.getElem_cons_succ, List.getElem_cons_zero, Act.put, List.setIfInBounds_toArray, List.set_cons_zero, List.set_cons_succ]
        refine wpAnyH_ready (rs := [32]) (by kernel_rfl) (by simp) ?_
        refine AllReadyH.cons rfl (fun K hK => ?_) AllReadyH.nil
        go_simp
        refine (leave_zero p q cap b i x _ hs_gc.isB HX.out.1 HX.out.2.1 HX.out.2.2).mono ?_
        rintro e wl ⟨rfl, hI8, ho8⟩
        have HS8 := Lib.hid (Solo.toB hs_gc hI8 ho8)
        have hfin := And.intro (And.intro (And.intro (cells2_off h0gc.1.1.1 h0gc.1.1.2 ho8 HAP.out) (keep_off h0gc.1.2 ho8 nga)) (keep_off h0gc.2 ho8 ngb)) (keep_off kgc ho8 ngc)
        clear hI8 ho8
        go_wp2_with fail
        refine hK.out _ _ ?_ (fun hHeld => ?_)
        · exact hfin
        clear hK K
        try simp only [List.getElem_toArray, List.getElem_cons_succ, List.getElem_cons_zero, Act.put, List.setIfInBounds_toArray, List.set_cons_zero, List.set_cons_succ]
        refine wpAnyH_take (i := 33) (v := .bool false) rfl (by kernel_rfl) (by kernel_rfl) (by kernel_rfl) (fun _ _ _ h => h) (Or.inl ⟨by rfl, ?_⟩) (by assumption) ?_
        · intro V hV
          obtain ⟨⟨⟨⟨s0, s1⟩, s2⟩, s3⟩, s4⟩ := hV
          go_simp
        try simp only [List.getElem_toArray, List.getElem_cons_succ, List.getElem_cons_zero, Act.put, List.setIfInBounds_toArray, List.set_cons_zero, List.set_cons_succ]
        refine wpAnyH_take (i := 34) (v := .bool false) rfl (by kernel_rfl) (by kernel_rfl) (by kernel_rfl) (fun _ _ _ h => h) (Or.inl ⟨by rfl, ?_⟩) (by assumption) ?_
        · intro V hV
          obtain ⟨⟨⟨⟨s0, s1⟩, s2⟩, s3⟩, s4⟩ := hV
          go_simp
        try simp only [List.getElem_toArray, List.getElem_cons_succ, List.getElem_cons_zero, Act.put, List.setIfInBounds_toArray, List.set_cons_zero, List.set_cons_succ]
        refine wpAnyH_done (by kernel_rfl) ?_ _
        clear hHeld hfin
        go_wp2
        go_roundw
        case rel => exact ⟨k + 1, _, x.head, by go_num, rfl, hkn, HST.out, HS8⟩
        case measure => simp [intOf]; omega
end Go.Proofs.Ytmohijpkhmeibaa
