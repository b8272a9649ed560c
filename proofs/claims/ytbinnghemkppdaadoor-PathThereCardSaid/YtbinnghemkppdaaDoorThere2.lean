/- PathThere: the law's walk. -/
import Derived.Test.YtbinnghemkppdaaDoorThereSpec
import Derived.Test.YtbinnghemkppdaaDoorCleans
namespace Go.Proofs.YtbinnghemkppdaaDoor
open Go.RowKit Go.Proofs Go.Proofs.YtbinnghemkppdaaDoorW.PrintWords
set_option linter.unusedVariables false
set_option linter.unusedSimpArgs false
attribute [local go_sem] Oper.semAt_some

theorem good_name {x : ByteArray} (h : PHDPathThere.badName x = false) : GoodN x := by
  have hs := PHDPathThere.good_small h
  unfold PHDPathThere.badName at h
  rw [Bool.and_eq_false_iff] at h
  rcases h with h | h
  · rw [Bool.not_eq_false', beq_iff_eq, Lib.toList_data] at h
    refine ⟨⟨by rw [h]; rfl, fun c hc => ?_⟩, hs, fun c hc => ?_⟩
    · rw [h] at hc
      simp only [List.mem_cons, List.not_mem_nil, or_false] at hc
      rcases hc with rfl | rfl <;> decide
    · rw [h] at hc
      simp only [List.mem_cons, List.not_mem_nil, or_false] at hc
      rcases hc with rfl | rfl <;> decide
  · rw [Bool.not_eq_false', beq_iff_eq] at h
    unfold nameNo at h
    split at h
    · rename_i hok
      unfold nameOk at hok
      simp only [Bool.and_eq_true, Bool.not_eq_true', decide_eq_true_eq] at hok
      obtain ⟨⟨⟨⟨h1, h2⟩, h3⟩, h4⟩, h5⟩ := hok
      have hb : ∀ c ∈ x.data.toList, badB c = false := fun c hc => by
        have := List.any_eq_false.1 h5 c hc
        simpa using this
      refine ⟨⟨?_, fun c hc e => ?_⟩, hs, fun c hc e => ?_⟩
      · unfold keepP
        cases hx : x.data.toList with
        | nil => rw [hx] at h1; cases h1
        | cons c t =>
          rw [hx] at h3
          rw [h3]
          rfl
      · have := hb c hc
        rw [e] at this
        exact absurd this (by decide)
      · have := hb c hc
        rw [e] at this
        exact absurd this (by decide)
    · cases h
theorem joined_eq (l : List ByteArray) : PHDPathThere.joined l = joinS l := by
  refine ba_ext ?_
  rw [← PHDPathThere.join_slash]
  simp [joinS]
theorem JR_good {l : List ByteArray} (h : (PHDPathThere.JR l).2 = 0) : (PHDPathThere.JR l).1 = joinS l ∧ splitR (joinS l) = (l, 0) ∧ l.length ≤ 64 := by
  cases hb : l.any PHDPathThere.badName
  · by_cases h1 : 64 < l.length
    · rw [PHDPathThere.JR_len hb h1] at h; cases h
    · by_cases h2 : 1023 < PHDPathThere.total l
      · rw [PHDPathThere.JR_tot hb h2] at h; cases h
      · rw [PHDPathThere.JR_ok hb h1 h2]
        refine ⟨joined_eq l, split_join l (fun x hx => good_name ?_) (by omega) ?_, by omega⟩
        · have := List.any_eq_false.1 hb x hx
          simpa using this
        · rw [← joined_eq, Lib.size_eq, PHDPathThere.joined_len]
          split <;> omega
  · rw [PHDPathThere.JR_bad hb] at h; cases h
theorem join_row {A : Option Addr} {c b : Nat} {l : List ByteArray} {w : World} (hc : Kd.C Kd.string w A l.length l) (hle : l.length ≤ c) (hbig : l.length ≤ 8796093022208) :
    Calls Tryd.prog 24 #[.slice A l.length c] w fun e w' => e = .returned (.tuple #[.string (PHDPathThere.JR l).1, .int .i64 (PHDPathThere.JR l).2]) ∧ Below w.heap.size w w' :=
  PHDPathThere.path_Join.calls (l.length + 1) A c l _ _ w hc hle (PHDPathThere.join_path l hbig)
theorem same_rowC {A A' : Option Addr} {c c' b : Nat} {L : List ByteArray} {w : World} (h : SRow w b (.slice A L.length c) L) (h' : Kd.C Kd.string w A' L.length L) (hc' : L.length ≤ c') (hL : L.length ≤ 64) :
    Calls Tryd.prog 11 #[.slice A L.length c, .slice A' L.length c'] w fun e w' => e = .returned (.bool true) ∧ Drawn0 w w' := by
  obtain ⟨r1, c1⟩ := h.reads (by omega)
  exact PHDPathSplits.shalelaw16_same.calls (L.length + 1) A c L A' c' L true w r1 c1 h' hc' (by
    unfold PHDPathSplits.shalelaw16_same.f
    rw [if_pos rfl]
    exact same_l0 L hL L.length 0 (by omega) (by omega) _ (by omega))

theorem split_q (s : ByteArray) (w : World) :
    Calls Tryd.prog 10 #[.string s] w fun e w' => ∃ v, e = .returned (.tuple #[v, .int .i64 (splitR s).2]) ∧ Kd.Q Kd.string 9 w' w.heap.size (fun _ => True) v (splitR s).1 ∧ Below w.heap.size w w' :=
  (PHDPathSplits.path_Split.calls s (splitR s).1 (splitR s).2 w (PHDPathSplits.split_eq s)).mono fun e w' ⟨v, he, hr, hb⟩ => ⟨v, he, Kd.Q_of_R hr, hb⟩
theorem same_CC {A A' : Option Addr} {c c' : Nat} {L : List ByteArray} {w : World} (h : Kd.C Kd.string w A L.length L) (hc : L.length ≤ c) (h' : Kd.C Kd.string w A' L.length L) (hc' : L.length ≤ c') (hL : L.length ≤ 64) :
    Calls Tryd.prog 11 #[.slice A L.length c, .slice A' L.length c'] w fun e w' => e = .returned (.bool true) ∧ Drawn0 w w' :=
  PHDPathSplits.shalelaw16_same.calls (L.length + 1) A c L A' c' L true w h hc h' hc' (by
    unfold PHDPathSplits.shalelaw16_same.f
    rw [if_pos rfl]
    exact same_l0 L hL L.length 0 (by omega) (by omega) _ (by omega))

set_option maxHeartbeats 4000000 in
theorem there_walk (A : Option Addr) (c : Nat) (l : List ByteArray) (s : ByteArray) (w : World) (hc : Kd.C Kd.string w A l.length l) (hle : l.length ≤ c) (hbig : l.length ≤ 8796093022208) :
    Calls Tryd.prog 8 #[.slice A l.length c, .string s] w fun e w' => e = .returned (.bool true) ∧ Below w.heap.size w w' := by
  obtain ⟨J, hJ⟩ : ∃ J, PHDPathThere.JR l = J := ⟨_, rfl⟩
  have cj := fun w (hc : Kd.C Kd.string w A l.length l) => join_row (b := 0) hc hle hbig
  have hgood := @JR_good l
  rw [hJ] at hgood
  simp only [hJ] at cj
  obtain ⟨J1, J2⟩ := J
  have hcl := fun w => pathClean_row s w
  have hss := fun w => split_q s w
  have he1 : (splitR s).2 ≠ 0 → (cleanR s).1 = ⟨#[]⟩ ∧ (cleanR s).2 = (splitR s).2 ∧ (splitR s).1 = [] := fun h => ⟨by unfold cleanR; rw [if_neg h], by unfold cleanR; rw [if_neg h], split_bad h⟩
  have he2 : (splitR s).2 = 0 → cleanR s = (joinS (trim (splitR s).1), 0) ∧ splitR (joinS (trim (splitR s).1)) = (trim (splitR s).1, 0) := fun h => ⟨by unfold cleanR; rw [if_pos h], clean_split h⟩
  have hsl := splitR_len s
  obtain ⟨C, hCC⟩ : ∃ C, cleanR s = C := ⟨_, rfl⟩
  obtain ⟨S, hSS⟩ : ∃ S, splitR s = S := ⟨_, rfl⟩
  simp only [hCC] at hcl
  simp only [hSS] at hss hsl
  simp only [hCC, hSS] at he1 he2
  obtain ⟨C1, C2⟩ := C
  obtain ⟨S1, E⟩ := S
  have HCL := Lib.hid hcl
  have HSS := Lib.hid hss
  have HE1 := Lib.hid he1
  have HE2 := Lib.hid he2
  have HSL := Lib.hid hsl
  clear hcl hss he1 he2 hsl hCC hSS
  have HJ := Lib.hid cj
  have HG := Lib.hid hgood
  have HC := Lib.hid hc
  have HLE := Lib.hid hle
  clear cj hgood hc hle hJ hbig
  go_enter Tryd.func8, Tryd.ntmps8
  go_wp2_with (go_at_call 24; fail)
  refine (HJ.out w HC.out).mono ?_
  rintro e w1 ⟨rfl, b1⟩
  have B1 := Lib.hid b1
  clear b1
  by_cases hj : J2 = 0
  · subst hj
    obtain ⟨g1, g2, g3⟩ := HG.out rfl
    have g1' : J1 = joinS l := g1
    subst g1'
    clear g1
    have G2 := Lib.hid g2
    have G3 := Lib.hid g3
    clear g2 g3
    have hsp := pathSplit_row (joinS l) w1
    rw [G2.out] at hsp
    obtain ⟨P, hP⟩ : ∃ P, P = joinS l := ⟨_, rfl⟩
    rw [← hP] at hsp ⊢
    have hp1 : 1 ≤ P.size := by rw [hP, joinS_size]; omega
    have hp0 : bt P 0 = 47 := by
      have hl : 0 < P.data.toList.length := by rw [← Lib.size_eq]; omega
      have h0 := bt_nat P 0 hl
      have e : P.data.toList[0] = 47 := by simp [hP, joinS]
      rw [e] at h0
      exact h0
    have HP := Lib.hid hP
    have HSP := Lib.hid hsp
    clear hP hsp
    go_wp2_with (go_at_call 10; fail)
    refine HSP.out.mono ?_
    rintro e w2 ⟨v2, rfl, r2, b2⟩
    obtain ⟨ga, na, rfl⟩ := r2.shape
    have R2 := Lib.hid r2
    have B2 := Lib.hid b2
    clear r2 b2
    go_wp2_with (go_at_call 11; fail)
    refine (same_rowC R2.out (Kd.C_below HC.out (B1.out.trans (B2.out.mono B1.out.size))) HLE.out G3.out).mono ?_
    rintro e w3 ⟨rfl, d3⟩
    have D3 := Lib.hid d3.below
    clear d3
    go_wp2_with (go_at_call 21; fail)
    · exfalso
      rename_i hx
      have h2 : ((P[0]'hp1).toNat : Int) = 47 := (bt_at P 0 hp1).trans hp0
      rw [h2] at hx
      rcases hx with h | h
      · omega
      · exact absurd h (by decide)
    obtain ⟨W, hW⟩ : ∃ W, W = w3 := ⟨_, rfl⟩
    have BW := Lib.hid ((B1.out.trans (B2.out.mono B1.out.size)).trans (D3.out.mono (Nat.le_trans B1.out.size B2.out.size)))
    rw [← hW] at BW ⊢
    clear hW hp0 hp1
    refine (HCL.out W).mono ?_
    rintro e wa ⟨rfl, ba⟩
    have BA := Lib.hid ba
    clear ba
    go_wp2_with (go_at_call 10; fail)
    refine (HSS.out wa).mono ?_
    rintro e wb ⟨vb, rfl, rb, bb⟩
    obtain ⟨gb, nb, rfl, hnb⟩ := Kd.Q_slice rb
    have RB := Lib.hid rb
    have BB := Lib.hid bb
    have BB2 := Lib.hid (BW.out.trans (BA.out.mono BW.out.size))
    have ZB := Lib.hid (Nat.le_trans BW.out.size BA.out.size)
    clear rb bb hnb
    by_cases hE : E = 0
    · subst hE
      obtain ⟨hC, hsp2⟩ := HE2.out rfl
      obtain ⟨T, hT⟩ : ∃ T, T = trim S1 := ⟨_, rfl⟩
      rw [← hT] at hC hsp2
      have hC1 : C1 = joinS T := congrArg Prod.fst hC
      have hC2 : C2 = 0 := congrArg Prod.snd hC
      subst hC2
      rw [← hC1] at hsp2
      have HC1 := Lib.hid hC1
      have HSP2 := Lib.hid hsp2
      have HT := Lib.hid hT
      clear hC hC1 hsp2 hT
      go_wp2
      go_loopg [10] S1.length (fun gg v10 wr => ∃ L, L.length ≤ gg ∧ Aside (trim L = T) ∧ Aside (L.length ≤ 64) ∧ Aside (Kd.Q Kd.string 9 wr wa.heap.size (fun _ => True) v10 L) ∧ Aside (Below wa.heap.size wa wr))
      case atStart => exact ⟨S1, Nat.le_refl _, HT.out.symm, HSL.out, RB.out, BB.out⟩
      case round =>
        obtain ⟨L, hgl, LT, LL, LQ, LB⟩ := hrel
        obtain ⟨gl, nl, rfl, hnl⟩ := Kd.Q_slice LQ.out
        by_cases h0 : 0 < L.length
        · obtain ⟨x, hx⟩ : ∃ x, x = rdOf ByteArray.empty L 0 := ⟨_, rfl⟩
          have q0 : 0 < (L.length : Int) := by omega
          obtain ⟨ad, e1, hx0⟩ := Kd.at_string (Kd.Q_reads' LQ.out).2.2 0 (by omega) q0
          cases e1
          rw [show ((0 : Int)).toNat = 0 from rfl, Addr.add_zero', ← hx] at hx0
          have hL : L = x :: L.drop 1 := by
            cases L with
            | nil => simp at h0
            | cons y t => rw [hx]; rfl
          by_cases hu : isUp x = true
          · have hu2 : (x.toList == [46, 46]) = true := hu
            obtain ⟨i0, hi0, _, hsz, _⟩ := info_parts info9
            have hcut := cut_from (P := Tryd.prog) 22 9 .i64 Tryd.underlying22 hi0 1 hsz (some ad) L.length nl 1 (by omega) (by omega)
            have hr := Kd.Q_drop (k := (1 : Int).toNat) LQ.out (show (1 : Int).toNat ≤ L.length by omega)
            obtain ⟨y, hy⟩ : ∃ y, y = L.drop (1 : Int).toNat := ⟨_, rfl⟩
            obtain ⟨A9, hA9⟩ : ∃ A1, A1 = (if nl = (1 : Int).toNat then (some ad) else ((some ad) : Option Addr).map (·.add ((1 : Int).toNat * 1))) := ⟨_, rfl⟩
            obtain ⟨c9, hc9⟩ : ∃ c1, c1 = nl - (1 : Int).toNat := ⟨_, rfl⟩
            have hyl : y.length = L.length - (1 : Int).toNat := by rw [hy, List.length_drop]
            rw [← hy] at hr
            rw [← hyl, ← hA9, ← hc9] at hcut
            have hr' : Kd.Q Kd.string 9 wr wa.heap.size (fun _ => True) (.slice A9 y.length c9) y := by rw [hA9, hc9, hyl]; exact hr
            have htr : trim y = T := by
              rw [← LT.out, hL, hy]
              unfold trim
              rw [List.dropWhile_cons, if_pos hu]
              rfl
            have hyl2 : y.length + 1 = L.length := by omega
            have HR := Lib.hid hr'
            have HTR := Lib.hid htr
            have HYL := Lib.hid hyl2
            have HGL := Lib.hid hgl
            have q1 : (0 < L.length) = True := eq_true h0
            have q2 : (1 : Int) ≤ (L.length : Int) := by omega
            clear hyl hi0 hsz hA9 hc9 hr hr' htr hyl2 hy hL hx hgl hu
            go_wp2
            go_roundg y.length
            case measure => have := HYL.out; have := HGL.out; omega
            case rel => exact ⟨y, Nat.le_refl _, HTR.out, (show Aside (y.length ≤ 64) from (by have := HYL.out; have := LL.out; omega : y.length ≤ 64)), HR.out, LB.out⟩
          · have hu2 : (x.toList == [46, 46]) = false := by simpa [isUp] using hu
            have hlt : trim L = L := by
              rw [hL]
              unfold trim
              rw [List.dropWhile_cons, if_neg hu]
            have hTL : T = L := by rw [← LT.out, hlt]
            subst hTL
            have HLT := Lib.hid hlt
            have q1 : (0 < T.length) = True := eq_true h0
            clear hlt hL hx hu
            go_wp2_with (go_at_call 21; fail)
            have hcl2 := pathClean_row C1 wr
            rw [show cleanR C1 = (C1, 0) from by unfold cleanR; rw [HSP2.out]; simp only [if_true]; rw [HLT.out, ← HC1.out]] at hcl2
            refine hcl2.mono ?_
            rintro e wc ⟨rfl, bc⟩
            have BC := Lib.hid bc
            clear bc hcl2
            go_wp2_with (go_at_call 10; fail)
            have hsp3 := pathSplit_row C1 wc
            rw [HSP2.out] at hsp3
            refine hsp3.mono ?_
            rintro e wd ⟨vd, rfl, rd, bd⟩
            obtain ⟨gd, nd, rfl⟩ := rd.shape
            have RD := Lib.hid rd
            have BD := Lib.hid bd
            clear rd bd hsp3
            go_wp2_with (go_at_call 11; fail)
            have hrd := RD.out.reads (Nat.le_trans LL.out (by decide))
            refine (same_CC (Kd.C_below (Kd.Q_reads' LQ.out).2.2 (BC.out.trans (BD.out.mono BC.out.size))) hnl hrd.1 hrd.2 LL.out).mono ?_
            rintro e we ⟨rfl, de⟩
            have BE := Lib.hid de.below
            have RE := Lib.hid (RD.out.below (Nat.le_refl _) de.below)
            have BF := Lib.hid ((((BB2.out.trans (LB.out.mono ZB.out)).trans (BC.out.mono (Nat.le_trans ZB.out LB.out.size))).trans (BD.out.mono (Nat.le_trans ZB.out (Nat.le_trans LB.out.size BC.out.size)))).trans (BE.out.mono (Nat.le_trans ZB.out (Nat.le_trans LB.out.size (Nat.le_trans BC.out.size BD.out.size)))))
            clear de hrd
            go_wp2_with (go_at_call 23; fail)
            have hpp := pathParent_row C1 we
            have hpr : parentR C1 = match T.getLast? with | none => ([], ⟨#[]⟩, 160) | some x => if isUp x = true then ([], ⟨#[]⟩, 160) else (T.dropLast, x, 0) := by
              unfold parentR
              rw [HSP2.out]
              exact if_pos rfl
            rcases hgl : T.getLast? with _ | z
            · have hT0 : T = [] := List.getLast?_eq_none_iff.1 hgl
              have hl0 : T.length = 0 := by rw [hT0]; rfl
              rw [hgl] at hpr
              rw [hpr] at hpp
              refine hpp.mono ?_
              rintro e wf ⟨vf, rfl, rf, bf⟩
              obtain ⟨gf, nf, rfl⟩ := rf.shape
              have F := Lib.hid (BF.out.trans (bf.mono BF.out.size))
              clear hpp hpr hgl hT0 rf bf
              go_wp2
              all_goals (go_ret; exact ⟨rfl, F.out⟩)
            · have hTz : T.dropLast ++ [z] = T := by
                obtain ⟨ys, hys⟩ := List.getLast?_eq_some_iff.1 hgl
                rw [hys, List.dropLast_concat]
              rw [hgl] at hpr
              obtain ⟨n, hn⟩ : ∃ n, T.length = n + 1 := ⟨T.dropLast.length, by rw [← hTz]; simp⟩
              have hTn : T[n]? = some z := by rw [List.getLast?_eq_getElem?, hn] at hgl; exact hgl
              obtain ⟨g9, n9, he9, hc9, _⟩ := RE.out.cell hTn
              simp only [Value.slice.injEq] at he9
              obtain ⟨rfl, _, rfl⟩ := he9
              by_cases hz : isUp z = true
              · have hpr2 : parentR C1 = ([], ⟨#[]⟩, 160) := by rw [hpr]; exact if_pos hz
                rw [hpr2] at hpp
                refine hpp.mono ?_
                rintro e wf ⟨vf, rfl, rf, bf⟩
                obtain ⟨gf, nf, rfl⟩ := rf.shape
                have F := Lib.hid (BF.out.trans (bf.mono BF.out.size))
                have hcf : wf.cell? ⟨g9, n, none⟩ = some (.string z) := (bf.cell (p := ⟨g9, n, none⟩) (RE.out.lt rfl)).trans hc9
                have hz2 : (z.toList == [46, 46]) = true := hz
                clear hpp hpr hpr2 hgl hTz hTn rf bf hc9 hz
                have hnb : n + 1 ≤ 64 := hn ▸ LL.out
                rw [hn]
                go_wp2
                all_goals (go_ret; exact ⟨rfl, F.out⟩)
              · have hpr2 : parentR C1 = (T.dropLast, z, 0) := by rw [hpr]; exact if_neg hz
                have hfl0 : T.dropLast.length + 1 ≤ 4096 := by
                  have := LL.out
                  rw [List.length_dropLast]
                  omega
                obtain ⟨F0, hF0⟩ : ∃ F0, F0 = T.dropLast := ⟨_, rfl⟩
                rw [← hF0] at hpr2 hTz hfl0
                clear hF0
                rw [hpr2] at hpp
                refine hpp.mono ?_
                rintro e wf ⟨vf, rfl, rf, bf⟩
                obtain ⟨gf, nf, rfl⟩ := rf.shape
                have hfl := hfl0
                clear hfl0
                have RF := Lib.hid rf
                have REF := Lib.hid (RE.out.below (Nat.le_refl _) bf)
                have BFF := Lib.hid (BF.out.trans (bf.mono BF.out.size))
                have ZFF := Lib.hid bf.size
                have HFL := Lib.hid hfl
                have HTZ := Lib.hid hTz
                clear hpp hpr hpr2 hgl hTz hTn rf bf hc9 hz hfl hn
                go_wp2_with (at_builtin; refine wpList_append_srow rfl (.tmp 130) (.tmp 132) rfl rfl wc.heap.size (.slice gf F0.length nf) F0 z rfl ((RF.out.mono (Nat.le_trans BD.out.size BE.out.size)).of_heap ?c0) HFL.out ?c1 ⟨wf.heap.size, 0, none⟩ 1 rfl (cell_one_new _ _ _) ?_)
                case c0 => intro b hb; exact Below.heap_alloc _ _ _ (RF.out.lt hb)
                case c1 => rw [World.size_alloc]; exact Nat.le_trans (Nat.le_trans BD.out.size BE.out.size) (Nat.le_trans ZFF.out (Nat.le_succ _))
                intro l9 W9 hr9 hat9 hgw9 hkp9
                rw [HTZ.out] at hr9
                obtain ⟨g7, n7, rfl⟩ := hr9.shape
                have H9 := Lib.hid hr9
                have HM9 := Lib.hid (hkp9 _ _ (REF.out.of_heap (fun b hb => Below.heap_alloc _ _ _ (REF.out.lt hb))) (fun b hb hmb => absurd (RF.out.base_le hb) (Nat.not_le.2 (RE.out.lt hmb))))
                have HG9 := Lib.hid hgw9
                have B9 := Lib.hid ((BFF.out.alloc BFF.out.size (.cells #[.string z] 9)).grown hgw9 (by rw [World.size_alloc]; exact Nat.le_succ_of_le BFF.out.size) (fun b hb => Nat.le_trans BF.out.size (RF.out.base_le hb)))
                clear hr9 hat9 hgw9 hkp9
                go_wp2_with (go_at_call 11; fail)
                refine (same_row H9.out HM9.out LL.out).mono ?_
                rintro e wz ⟨rfl, dz⟩
                have F := Lib.hid (B9.out.trans (dz.below.mono B9.out.size))
                clear dz
                go_wp2
                go_ret
                exact ⟨rfl, F.out⟩
        · have hn : L = [] := List.eq_nil_of_length_eq_zero (by omega)
          have hlt : trim L = L := by rw [hn]; rfl
          have hTL : T = L := by rw [← LT.out, hlt]
          subst hTL
          have HLT := Lib.hid hlt
          clear hlt hn
          go_wp2_with (go_at_call 21; fail)
          have hcl2 := pathClean_row C1 wr
          rw [show cleanR C1 = (C1, 0) from by unfold cleanR; rw [HSP2.out]; simp only [if_true]; rw [HLT.out, ← HC1.out]] at hcl2
          refine hcl2.mono ?_
          rintro e wc ⟨rfl, bc⟩
          have BC := Lib.hid bc
          clear bc hcl2
          go_wp2_with (go_at_call 10; fail)
          have hsp3 := pathSplit_row C1 wc
          rw [HSP2.out] at hsp3
          refine hsp3.mono ?_
          rintro e wd ⟨vd, rfl, rd, bd⟩
          obtain ⟨gd, nd, rfl⟩ := rd.shape
          have RD := Lib.hid rd
          have BD := Lib.hid bd
          clear rd bd hsp3
          go_wp2_with (go_at_call 11; fail)
          have hrd := RD.out.reads (Nat.le_trans LL.out (by decide))
          refine (same_CC (Kd.C_below (Kd.Q_reads' LQ.out).2.2 (BC.out.trans (BD.out.mono BC.out.size))) hnl hrd.1 hrd.2 LL.out).mono ?_
          rintro e we ⟨rfl, de⟩
          have BE := Lib.hid de.below
          have RE := Lib.hid (RD.out.below (Nat.le_refl _) de.below)
          have BF := Lib.hid ((((BB2.out.trans (LB.out.mono ZB.out)).trans (BC.out.mono (Nat.le_trans ZB.out LB.out.size))).trans (BD.out.mono (Nat.le_trans ZB.out (Nat.le_trans LB.out.size BC.out.size)))).trans (BE.out.mono (Nat.le_trans ZB.out (Nat.le_trans LB.out.size (Nat.le_trans BC.out.size BD.out.size)))))
          clear de hrd
          go_wp2_with (go_at_call 23; fail)
          have hpp := pathParent_row C1 we
          have hpr : parentR C1 = match T.getLast? with | none => ([], ⟨#[]⟩, 160) | some x => if isUp x = true then ([], ⟨#[]⟩, 160) else (T.dropLast, x, 0) := by
            unfold parentR
            rw [HSP2.out]
            exact if_pos rfl
          rcases hgl : T.getLast? with _ | z
          · have hT0 : T = [] := List.getLast?_eq_none_iff.1 hgl
            have hl0 : T.length = 0 := by rw [hT0]; rfl
            rw [hgl] at hpr
            rw [hpr] at hpp
            refine hpp.mono ?_
            rintro e wf ⟨vf, rfl, rf, bf⟩
            obtain ⟨gf, nf, rfl⟩ := rf.shape
            have F := Lib.hid (BF.out.trans (bf.mono BF.out.size))
            clear hpp hpr hgl hT0 rf bf
            go_wp2
            all_goals (go_ret; exact ⟨rfl, F.out⟩)
          · have hTz : T.dropLast ++ [z] = T := by
              obtain ⟨ys, hys⟩ := List.getLast?_eq_some_iff.1 hgl
              rw [hys, List.dropLast_concat]
            rw [hgl] at hpr
            obtain ⟨n, hn⟩ : ∃ n, T.length = n + 1 := ⟨T.dropLast.length, by rw [← hTz]; simp⟩
            have hTn : T[n]? = some z := by rw [List.getLast?_eq_getElem?, hn] at hgl; exact hgl
            obtain ⟨g9, n9, he9, hc9, _⟩ := RE.out.cell hTn
            simp only [Value.slice.injEq] at he9
            obtain ⟨rfl, _, rfl⟩ := he9
            by_cases hz : isUp z = true
            · have hpr2 : parentR C1 = ([], ⟨#[]⟩, 160) := by rw [hpr]; exact if_pos hz
              rw [hpr2] at hpp
              refine hpp.mono ?_
              rintro e wf ⟨vf, rfl, rf, bf⟩
              obtain ⟨gf, nf, rfl⟩ := rf.shape
              have F := Lib.hid (BF.out.trans (bf.mono BF.out.size))
              have hcf : wf.cell? ⟨g9, n, none⟩ = some (.string z) := (bf.cell (p := ⟨g9, n, none⟩) (RE.out.lt rfl)).trans hc9
              have hz2 : (z.toList == [46, 46]) = true := hz
              clear hpp hpr hpr2 hgl hTz hTn rf bf hc9 hz
              have hnb : n + 1 ≤ 64 := hn ▸ LL.out
              rw [hn]
              go_wp2
              all_goals (go_ret; exact ⟨rfl, F.out⟩)
            · have hpr2 : parentR C1 = (T.dropLast, z, 0) := by rw [hpr]; exact if_neg hz
              have hfl0 : T.dropLast.length + 1 ≤ 4096 := by
                have := LL.out
                rw [List.length_dropLast]
                omega
              obtain ⟨F0, hF0⟩ : ∃ F0, F0 = T.dropLast := ⟨_, rfl⟩
              rw [← hF0] at hpr2 hTz hfl0
              clear hF0
              rw [hpr2] at hpp
              refine hpp.mono ?_
              rintro e wf ⟨vf, rfl, rf, bf⟩
              obtain ⟨gf, nf, rfl⟩ := rf.shape
              have hfl := hfl0
              clear hfl0
              have RF := Lib.hid rf
              have REF := Lib.hid (RE.out.below (Nat.le_refl _) bf)
              have BFF := Lib.hid (BF.out.trans (bf.mono BF.out.size))
              have ZFF := Lib.hid bf.size
              have HFL := Lib.hid hfl
              have HTZ := Lib.hid hTz
              clear hpp hpr hpr2 hgl hTz hTn rf bf hc9 hz hfl hn
              go_wp2_with (at_builtin; refine wpList_append_srow rfl (.tmp 130) (.tmp 132) rfl rfl wc.heap.size (.slice gf F0.length nf) F0 z rfl ((RF.out.mono (Nat.le_trans BD.out.size BE.out.size)).of_heap ?c0) HFL.out ?c1 ⟨wf.heap.size, 0, none⟩ 1 rfl (cell_one_new _ _ _) ?_)
              case c0 => intro b hb; exact Below.heap_alloc _ _ _ (RF.out.lt hb)
              case c1 => rw [World.size_alloc]; exact Nat.le_trans (Nat.le_trans BD.out.size BE.out.size) (Nat.le_trans ZFF.out (Nat.le_succ _))
              intro l9 W9 hr9 hat9 hgw9 hkp9
              rw [HTZ.out] at hr9
              obtain ⟨g7, n7, rfl⟩ := hr9.shape
              have H9 := Lib.hid hr9
              have HM9 := Lib.hid (hkp9 _ _ (REF.out.of_heap (fun b hb => Below.heap_alloc _ _ _ (REF.out.lt hb))) (fun b hb hmb => absurd (RF.out.base_le hb) (Nat.not_le.2 (RE.out.lt hmb))))
              have HG9 := Lib.hid hgw9
              have B9 := Lib.hid ((BFF.out.alloc BFF.out.size (.cells #[.string z] 9)).grown hgw9 (by rw [World.size_alloc]; exact Nat.le_succ_of_le BFF.out.size) (fun b hb => Nat.le_trans BF.out.size (RF.out.base_le hb)))
              clear hr9 hat9 hgw9 hkp9
              go_wp2_with (go_at_call 11; fail)
              refine (same_row H9.out HM9.out LL.out).mono ?_
              rintro e wz ⟨rfl, dz⟩
              have F := Lib.hid (B9.out.trans (dz.below.mono B9.out.size))
              clear dz
              go_wp2
              go_ret
              exact ⟨rfl, F.out⟩
    · have hC : C1 = ⟨#[]⟩ ∧ C2 = E ∧ S1 = [] := HE1.out hE
      obtain ⟨rfl, rfl, rfl⟩ := hC
      go_wp2
      go_ret
      exact ⟨rfl, BB2.out.trans (BB.out.mono ZB.out)⟩
  · go_wp2_with (go_at_call 21; fail)
    obtain ⟨W, hW⟩ : ∃ W, W = w1 := ⟨_, rfl⟩
    have BW := B1
    rw [← hW] at BW ⊢
    clear hW
    refine (HCL.out W).mono ?_
    rintro e wa ⟨rfl, ba⟩
    have BA := Lib.hid ba
    clear ba
    go_wp2_with (go_at_call 10; fail)
    refine (HSS.out wa).mono ?_
    rintro e wb ⟨vb, rfl, rb, bb⟩
    obtain ⟨gb, nb, rfl, hnb⟩ := Kd.Q_slice rb
    have RB := Lib.hid rb
    have BB := Lib.hid bb
    have BB2 := Lib.hid (BW.out.trans (BA.out.mono BW.out.size))
    have ZB := Lib.hid (Nat.le_trans BW.out.size BA.out.size)
    clear rb bb hnb
    by_cases hE : E = 0
    · subst hE
      obtain ⟨hC, hsp2⟩ := HE2.out rfl
      obtain ⟨T, hT⟩ : ∃ T, T = trim S1 := ⟨_, rfl⟩
      rw [← hT] at hC hsp2
      have hC1 : C1 = joinS T := congrArg Prod.fst hC
      have hC2 : C2 = 0 := congrArg Prod.snd hC
      subst hC2
      rw [← hC1] at hsp2
      have HC1 := Lib.hid hC1
      have HSP2 := Lib.hid hsp2
      have HT := Lib.hid hT
      clear hC hC1 hsp2 hT
      go_wp2
      go_loopg [10] S1.length (fun gg v10 wr => ∃ L, L.length ≤ gg ∧ Aside (trim L = T) ∧ Aside (L.length ≤ 64) ∧ Aside (Kd.Q Kd.string 9 wr wa.heap.size (fun _ => True) v10 L) ∧ Aside (Below wa.heap.size wa wr))
      case atStart => exact ⟨S1, Nat.le_refl _, HT.out.symm, HSL.out, RB.out, BB.out⟩
      case round =>
        obtain ⟨L, hgl, LT, LL, LQ, LB⟩ := hrel
        obtain ⟨gl, nl, rfl, hnl⟩ := Kd.Q_slice LQ.out
        by_cases h0 : 0 < L.length
        · obtain ⟨x, hx⟩ : ∃ x, x = rdOf ByteArray.empty L 0 := ⟨_, rfl⟩
          have q0 : 0 < (L.length : Int) := by omega
          obtain ⟨ad, e1, hx0⟩ := Kd.at_string (Kd.Q_reads' LQ.out).2.2 0 (by omega) q0
          cases e1
          rw [show ((0 : Int)).toNat = 0 from rfl, Addr.add_zero', ← hx] at hx0
          have hL : L = x :: L.drop 1 := by
            cases L with
            | nil => simp at h0
            | cons y t => rw [hx]; rfl
          by_cases hu : isUp x = true
          · have hu2 : (x.toList == [46, 46]) = true := hu
            obtain ⟨i0, hi0, _, hsz, _⟩ := info_parts info9
            have hcut := cut_from (P := Tryd.prog) 22 9 .i64 Tryd.underlying22 hi0 1 hsz (some ad) L.length nl 1 (by omega) (by omega)
            have hr := Kd.Q_drop (k := (1 : Int).toNat) LQ.out (show (1 : Int).toNat ≤ L.length by omega)
            obtain ⟨y, hy⟩ : ∃ y, y = L.drop (1 : Int).toNat := ⟨_, rfl⟩
            obtain ⟨A9, hA9⟩ : ∃ A1, A1 = (if nl = (1 : Int).toNat then (some ad) else ((some ad) : Option Addr).map (·.add ((1 : Int).toNat * 1))) := ⟨_, rfl⟩
            obtain ⟨c9, hc9⟩ : ∃ c1, c1 = nl - (1 : Int).toNat := ⟨_, rfl⟩
            have hyl : y.length = L.length - (1 : Int).toNat := by rw [hy, List.length_drop]
            rw [← hy] at hr
            rw [← hyl, ← hA9, ← hc9] at hcut
            have hr' : Kd.Q Kd.string 9 wr wa.heap.size (fun _ => True) (.slice A9 y.length c9) y := by rw [hA9, hc9, hyl]; exact hr
            have htr : trim y = T := by
              rw [← LT.out, hL, hy]
              unfold trim
              rw [List.dropWhile_cons, if_pos hu]
              rfl
            have hyl2 : y.length + 1 = L.length := by omega
            have HR := Lib.hid hr'
            have HTR := Lib.hid htr
            have HYL := Lib.hid hyl2
            have HGL := Lib.hid hgl
            have q1 : (0 < L.length) = True := eq_true h0
            have q2 : (1 : Int) ≤ (L.length : Int) := by omega
            clear hyl hi0 hsz hA9 hc9 hr hr' htr hyl2 hy hL hx hgl hu
            go_wp2
            go_roundg y.length
            case measure => have := HYL.out; have := HGL.out; omega
            case rel => exact ⟨y, Nat.le_refl _, HTR.out, (show Aside (y.length ≤ 64) from (by have := HYL.out; have := LL.out; omega : y.length ≤ 64)), HR.out, LB.out⟩
          · have hu2 : (x.toList == [46, 46]) = false := by simpa [isUp] using hu
            have hlt : trim L = L := by
              rw [hL]
              unfold trim
              rw [List.dropWhile_cons, if_neg hu]
            have hTL : T = L := by rw [← LT.out, hlt]
            subst hTL
            have HLT := Lib.hid hlt
            have q1 : (0 < T.length) = True := eq_true h0
            clear hlt hL hx hu
            go_wp2_with (go_at_call 21; fail)
            have hcl2 := pathClean_row C1 wr
            rw [show cleanR C1 = (C1, 0) from by unfold cleanR; rw [HSP2.out]; simp only [if_true]; rw [HLT.out, ← HC1.out]] at hcl2
            refine hcl2.mono ?_
            rintro e wc ⟨rfl, bc⟩
            have BC := Lib.hid bc
            clear bc hcl2
            go_wp2_with (go_at_call 10; fail)
            have hsp3 := pathSplit_row C1 wc
            rw [HSP2.out] at hsp3
            refine hsp3.mono ?_
            rintro e wd ⟨vd, rfl, rd, bd⟩
            obtain ⟨gd, nd, rfl⟩ := rd.shape
            have RD := Lib.hid rd
            have BD := Lib.hid bd
            clear rd bd hsp3
            go_wp2_with (go_at_call 11; fail)
            have hrd := RD.out.reads (Nat.le_trans LL.out (by decide))
            refine (same_CC (Kd.C_below (Kd.Q_reads' LQ.out).2.2 (BC.out.trans (BD.out.mono BC.out.size))) hnl hrd.1 hrd.2 LL.out).mono ?_
            rintro e we ⟨rfl, de⟩
            have BE := Lib.hid de.below
            have RE := Lib.hid (RD.out.below (Nat.le_refl _) de.below)
            have BF := Lib.hid ((((BB2.out.trans (LB.out.mono ZB.out)).trans (BC.out.mono (Nat.le_trans ZB.out LB.out.size))).trans (BD.out.mono (Nat.le_trans ZB.out (Nat.le_trans LB.out.size BC.out.size)))).trans (BE.out.mono (Nat.le_trans ZB.out (Nat.le_trans LB.out.size (Nat.le_trans BC.out.size BD.out.size)))))
            clear de hrd
            go_wp2_with (go_at_call 23; fail)
            have hpp := pathParent_row C1 we
            have hpr : parentR C1 = match T.getLast? with | none => ([], ⟨#[]⟩, 160) | some x => if isUp x = true then ([], ⟨#[]⟩, 160) else (T.dropLast, x, 0) := by
              unfold parentR
              rw [HSP2.out]
              exact if_pos rfl
            rcases hgl : T.getLast? with _ | z
            · have hT0 : T = [] := List.getLast?_eq_none_iff.1 hgl
              have hl0 : T.length = 0 := by rw [hT0]; rfl
              rw [hgl] at hpr
              rw [hpr] at hpp
              refine hpp.mono ?_
              rintro e wf ⟨vf, rfl, rf, bf⟩
              obtain ⟨gf, nf, rfl⟩ := rf.shape
              have F := Lib.hid (BF.out.trans (bf.mono BF.out.size))
              clear hpp hpr hgl hT0 rf bf
              go_wp2
              all_goals (go_ret; exact ⟨rfl, F.out⟩)
            · have hTz : T.dropLast ++ [z] = T := by
                obtain ⟨ys, hys⟩ := List.getLast?_eq_some_iff.1 hgl
                rw [hys, List.dropLast_concat]
              rw [hgl] at hpr
              obtain ⟨n, hn⟩ : ∃ n, T.length = n + 1 := ⟨T.dropLast.length, by rw [← hTz]; simp⟩
              have hTn : T[n]? = some z := by rw [List.getLast?_eq_getElem?, hn] at hgl; exact hgl
              obtain ⟨g9, n9, he9, hc9, _⟩ := RE.out.cell hTn
              simp only [Value.slice.injEq] at he9
              obtain ⟨rfl, _, rfl⟩ := he9
              by_cases hz : isUp z = true
              · have hpr2 : parentR C1 = ([], ⟨#[]⟩, 160) := by rw [hpr]; exact if_pos hz
                rw [hpr2] at hpp
                refine hpp.mono ?_
                rintro e wf ⟨vf, rfl, rf, bf⟩
                obtain ⟨gf, nf, rfl⟩ := rf.shape
                have F := Lib.hid (BF.out.trans (bf.mono BF.out.size))
                have hcf : wf.cell? ⟨g9, n, none⟩ = some (.string z) := (bf.cell (p := ⟨g9, n, none⟩) (RE.out.lt rfl)).trans hc9
                have hz2 : (z.toList == [46, 46]) = true := hz
                clear hpp hpr hpr2 hgl hTz hTn rf bf hc9 hz
                have hnb : n + 1 ≤ 64 := hn ▸ LL.out
                rw [hn]
                go_wp2
                all_goals (go_ret; exact ⟨rfl, F.out⟩)
              · have hpr2 : parentR C1 = (T.dropLast, z, 0) := by rw [hpr]; exact if_neg hz
                have hfl0 : T.dropLast.length + 1 ≤ 4096 := by
                  have := LL.out
                  rw [List.length_dropLast]
                  omega
                obtain ⟨F0, hF0⟩ : ∃ F0, F0 = T.dropLast := ⟨_, rfl⟩
                rw [← hF0] at hpr2 hTz hfl0
                clear hF0
                rw [hpr2] at hpp
                refine hpp.mono ?_
                rintro e wf ⟨vf, rfl, rf, bf⟩
                obtain ⟨gf, nf, rfl⟩ := rf.shape
                have hfl := hfl0
                clear hfl0
                have RF := Lib.hid rf
                have REF := Lib.hid (RE.out.below (Nat.le_refl _) bf)
                have BFF := Lib.hid (BF.out.trans (bf.mono BF.out.size))
                have ZFF := Lib.hid bf.size
                have HFL := Lib.hid hfl
                have HTZ := Lib.hid hTz
                clear hpp hpr hpr2 hgl hTz hTn rf bf hc9 hz hfl hn
                go_wp2_with (at_builtin; refine wpList_append_srow rfl (.tmp 130) (.tmp 132) rfl rfl wc.heap.size (.slice gf F0.length nf) F0 z rfl ((RF.out.mono (Nat.le_trans BD.out.size BE.out.size)).of_heap ?c0) HFL.out ?c1 ⟨wf.heap.size, 0, none⟩ 1 rfl (cell_one_new _ _ _) ?_)
                case c0 => intro b hb; exact Below.heap_alloc _ _ _ (RF.out.lt hb)
                case c1 => rw [World.size_alloc]; exact Nat.le_trans (Nat.le_trans BD.out.size BE.out.size) (Nat.le_trans ZFF.out (Nat.le_succ _))
                intro l9 W9 hr9 hat9 hgw9 hkp9
                rw [HTZ.out] at hr9
                obtain ⟨g7, n7, rfl⟩ := hr9.shape
                have H9 := Lib.hid hr9
                have HM9 := Lib.hid (hkp9 _ _ (REF.out.of_heap (fun b hb => Below.heap_alloc _ _ _ (REF.out.lt hb))) (fun b hb hmb => absurd (RF.out.base_le hb) (Nat.not_le.2 (RE.out.lt hmb))))
                have HG9 := Lib.hid hgw9
                have B9 := Lib.hid ((BFF.out.alloc BFF.out.size (.cells #[.string z] 9)).grown hgw9 (by rw [World.size_alloc]; exact Nat.le_succ_of_le BFF.out.size) (fun b hb => Nat.le_trans BF.out.size (RF.out.base_le hb)))
                clear hr9 hat9 hgw9 hkp9
                go_wp2_with (go_at_call 11; fail)
                refine (same_row H9.out HM9.out LL.out).mono ?_
                rintro e wz ⟨rfl, dz⟩
                have F := Lib.hid (B9.out.trans (dz.below.mono B9.out.size))
                clear dz
                go_wp2
                go_ret
                exact ⟨rfl, F.out⟩
        · have hn : L = [] := List.eq_nil_of_length_eq_zero (by omega)
          have hlt : trim L = L := by rw [hn]; rfl
          have hTL : T = L := by rw [← LT.out, hlt]
          subst hTL
          have HLT := Lib.hid hlt
          clear hlt hn
          go_wp2_with (go_at_call 21; fail)
          have hcl2 := pathClean_row C1 wr
          rw [show cleanR C1 = (C1, 0) from by unfold cleanR; rw [HSP2.out]; simp only [if_true]; rw [HLT.out, ← HC1.out]] at hcl2
          refine hcl2.mono ?_
          rintro e wc ⟨rfl, bc⟩
          have BC := Lib.hid bc
          clear bc hcl2
          go_wp2_with (go_at_call 10; fail)
          have hsp3 := pathSplit_row C1 wc
          rw [HSP2.out] at hsp3
          refine hsp3.mono ?_
          rintro e wd ⟨vd, rfl, rd, bd⟩
          obtain ⟨gd, nd, rfl⟩ := rd.shape
          have RD := Lib.hid rd
          have BD := Lib.hid bd
          clear rd bd hsp3
          go_wp2_with (go_at_call 11; fail)
          have hrd := RD.out.reads (Nat.le_trans LL.out (by decide))
          refine (same_CC (Kd.C_below (Kd.Q_reads' LQ.out).2.2 (BC.out.trans (BD.out.mono BC.out.size))) hnl hrd.1 hrd.2 LL.out).mono ?_
          rintro e we ⟨rfl, de⟩
          have BE := Lib.hid de.below
          have RE := Lib.hid (RD.out.below (Nat.le_refl _) de.below)
          have BF := Lib.hid ((((BB2.out.trans (LB.out.mono ZB.out)).trans (BC.out.mono (Nat.le_trans ZB.out LB.out.size))).trans (BD.out.mono (Nat.le_trans ZB.out (Nat.le_trans LB.out.size BC.out.size)))).trans (BE.out.mono (Nat.le_trans ZB.out (Nat.le_trans LB.out.size (Nat.le_trans BC.out.size BD.out.size)))))
          clear de hrd
          go_wp2_with (go_at_call 23; fail)
          have hpp := pathParent_row C1 we
          have hpr : parentR C1 = match T.getLast? with | none => ([], ⟨#[]⟩, 160) | some x => if isUp x = true then ([], ⟨#[]⟩, 160) else (T.dropLast, x, 0) := by
            unfold parentR
            rw [HSP2.out]
            exact if_pos rfl
          rcases hgl : T.getLast? with _ | z
          · have hT0 : T = [] := List.getLast?_eq_none_iff.1 hgl
            have hl0 : T.length = 0 := by rw [hT0]; rfl
            rw [hgl] at hpr
            rw [hpr] at hpp
            refine hpp.mono ?_
            rintro e wf ⟨vf, rfl, rf, bf⟩
            obtain ⟨gf, nf, rfl⟩ := rf.shape
            have F := Lib.hid (BF.out.trans (bf.mono BF.out.size))
            clear hpp hpr hgl hT0 rf bf
            go_wp2
            all_goals (go_ret; exact ⟨rfl, F.out⟩)
          · have hTz : T.dropLast ++ [z] = T := by
              obtain ⟨ys, hys⟩ := List.getLast?_eq_some_iff.1 hgl
              rw [hys, List.dropLast_concat]
            rw [hgl] at hpr
            obtain ⟨n, hn⟩ : ∃ n, T.length = n + 1 := ⟨T.dropLast.length, by rw [← hTz]; simp⟩
            have hTn : T[n]? = some z := by rw [List.getLast?_eq_getElem?, hn] at hgl; exact hgl
            obtain ⟨g9, n9, he9, hc9, _⟩ := RE.out.cell hTn
            simp only [Value.slice.injEq] at he9
            obtain ⟨rfl, _, rfl⟩ := he9
            by_cases hz : isUp z = true
            · have hpr2 : parentR C1 = ([], ⟨#[]⟩, 160) := by rw [hpr]; exact if_pos hz
              rw [hpr2] at hpp
              refine hpp.mono ?_
              rintro e wf ⟨vf, rfl, rf, bf⟩
              obtain ⟨gf, nf, rfl⟩ := rf.shape
              have F := Lib.hid (BF.out.trans (bf.mono BF.out.size))
              have hcf : wf.cell? ⟨g9, n, none⟩ = some (.string z) := (bf.cell (p := ⟨g9, n, none⟩) (RE.out.lt rfl)).trans hc9
              have hz2 : (z.toList == [46, 46]) = true := hz
              clear hpp hpr hpr2 hgl hTz hTn rf bf hc9 hz
              have hnb : n + 1 ≤ 64 := hn ▸ LL.out
              rw [hn]
              go_wp2
              all_goals (go_ret; exact ⟨rfl, F.out⟩)
            · have hpr2 : parentR C1 = (T.dropLast, z, 0) := by rw [hpr]; exact if_neg hz
              have hfl0 : T.dropLast.length + 1 ≤ 4096 := by
                have := LL.out
                rw [List.length_dropLast]
                omega
              obtain ⟨F0, hF0⟩ : ∃ F0, F0 = T.dropLast := ⟨_, rfl⟩
              rw [← hF0] at hpr2 hTz hfl0
              clear hF0
              rw [hpr2] at hpp
              refine hpp.mono ?_
              rintro e wf ⟨vf, rfl, rf, bf⟩
              obtain ⟨gf, nf, rfl⟩ := rf.shape
              have hfl := hfl0
              clear hfl0
              have RF := Lib.hid rf
              have REF := Lib.hid (RE.out.below (Nat.le_refl _) bf)
              have BFF := Lib.hid (BF.out.trans (bf.mono BF.out.size))
              have ZFF := Lib.hid bf.size
              have HFL := Lib.hid hfl
              have HTZ := Lib.hid hTz
              clear hpp hpr hpr2 hgl hTz hTn rf bf hc9 hz hfl hn
              go_wp2_with (at_builtin; refine wpList_append_srow rfl (.tmp 130) (.tmp 132) rfl rfl wc.heap.size (.slice gf F0.length nf) F0 z rfl ((RF.out.mono (Nat.le_trans BD.out.size BE.out.size)).of_heap ?c0) HFL.out ?c1 ⟨wf.heap.size, 0, none⟩ 1 rfl (cell_one_new _ _ _) ?_)
              case c0 => intro b hb; exact Below.heap_alloc _ _ _ (RF.out.lt hb)
              case c1 => rw [World.size_alloc]; exact Nat.le_trans (Nat.le_trans BD.out.size BE.out.size) (Nat.le_trans ZFF.out (Nat.le_succ _))
              intro l9 W9 hr9 hat9 hgw9 hkp9
              rw [HTZ.out] at hr9
              obtain ⟨g7, n7, rfl⟩ := hr9.shape
              have H9 := Lib.hid hr9
              have HM9 := Lib.hid (hkp9 _ _ (REF.out.of_heap (fun b hb => Below.heap_alloc _ _ _ (REF.out.lt hb))) (fun b hb hmb => absurd (RF.out.base_le hb) (Nat.not_le.2 (RE.out.lt hmb))))
              have HG9 := Lib.hid hgw9
              have B9 := Lib.hid ((BFF.out.alloc BFF.out.size (.cells #[.string z] 9)).grown hgw9 (by rw [World.size_alloc]; exact Nat.le_succ_of_le BFF.out.size) (fun b hb => Nat.le_trans BF.out.size (RF.out.base_le hb)))
              clear hr9 hat9 hgw9 hkp9
              go_wp2_with (go_at_call 11; fail)
              refine (same_row H9.out HM9.out LL.out).mono ?_
              rintro e wz ⟨rfl, dz⟩
              have F := Lib.hid (B9.out.trans (dz.below.mono B9.out.size))
              clear dz
              go_wp2
              go_ret
              exact ⟨rfl, F.out⟩
    · have hC : C1 = ⟨#[]⟩ ∧ C2 = E ∧ S1 = [] := HE1.out hE
      obtain ⟨rfl, rfl, rfl⟩ := hC
      go_wp2
      go_ret
      exact ⟨rfl, BB2.out.trans (BB.out.mono ZB.out)⟩
end Go.Proofs.YtbinnghemkppdaaDoor
