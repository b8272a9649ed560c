/- cut, Cut, walked. -/
import Derived.Test.YthpjcbaijbppiaaCutPure
namespace Go.Proofs.Ythpjcbaijbppiaa
open Go.RowKit Go.Proofs
set_option linter.unusedVariables false
set_option linter.unusedSimpArgs false
set_option maxRecDepth 100000
theorem cut_leaf (s : TS Int) (p : Nat) (n : Int) (fr : Int) (a q : Nat) (w : World) (hI : IsT kInt w p n s) (hw : WF s) (hf : FullBut s 0 q) (ha : s.N 0 q = some a) :
    Calls Try.prog 41 #[.pointer (some ⟨a, 0, none⟩), .int .i64 fr, .int .i64 ((q * 16 : Nat) : Int), .int .i64 0] w (CutEnd kInt s p n w 0 q fr) := by
  have hroom := node_room hw ha
  rw [Nat.zero_add, Nat.pow_one, Nat.pow_zero] at hroom
  have HS := Lib.hid (CI.start hI hw hf a fr)
  have HA := Lib.hid ha
  clear hI hw hf ha
  go_enter Try.func41, Try.ntmps41
  go_wp2
  go_loopw [9, 13] (fun s9 s13 wx => ∃ (d : Nat) (g : Int) (s1 : TS Int), s13 = .int .i64 (d : Int) ∧ s9 = .int .i64 g ∧ d ≤ 16 ∧ CI kInt s p n w 0 q a fr d g s1 wx) (fun _ s13 _ => 16 - (intOf s13).toNat)
  case atStart => exact ⟨0, 0, s, rfl, rfl, by omega, HS.out⟩
  case round =>
    obtain ⟨d, g, s1, rfl, rfl, hd16, hC⟩ := hrel
    have HC := Lib.hid hC
    have hgb := hC.bound
    rw [Nat.pow_zero, Nat.mul_one] at hgb
    by_cases hd : d < 16
    · have ha1 := (hC.high 0 q (Nat.le_refl _)).trans HA.out
      have hn := hC.isT.node _ _ _ ha1
      have c1 := hn.things' hd
      have c2 := hn.used
      have hu := usedOf_le (s1.child 0 q)
      have f1 := hn.free (16 + d)
      have f2 := hn.free 32
      have hd2 : (d : Int) < 16 := by omega
      by_cases hfr : fr ≤ ((q * 16 + d : Nat) : Int)
      · cases hk : s1.K (q * 16 + d) with
        | none =>
          rw [hk] at c1
          replace c1 : wr.cell? ⟨a, 16 + d, none⟩ = some (.pointer none) := c1
          have HE := Lib.hid (hC.skip (fun i h1 h2 h3 => by
            rw [Nat.zero_add, Nat.pow_one, Nat.pow_zero, Nat.mul_one] at h1 h2
            have : i = q * 16 + d := by omega
            rw [this]; exact hk))
          have hf2 : ¬ (q : Int) * 16 + (d : Int) < fr := by omega
          clear hC ha1 hn hk hfr
          go_wp2
          go_roundw
          case rel => exact ⟨d + 1, _, _, by go_num, rfl, by omega, HE.out⟩
          case measure => simp [intOf]; omega
        | some x =>
          rw [hk] at c1
          replace c1 : wr.cell? ⟨a, 16 + d, none⟩ = some (.pointer (some ⟨x.1, 0, none⟩)) := c1
          have HE := Lib.hid (hC.key_gone hd HA.out hfr hk)
          have hf2 : ¬ (q : Int) * 16 + (d : Int) < fr := by omega
          clear hC ha1 hn hk hfr
          revert c2 hu HE
          generalize usedOf (s1.child 0 q) = U
          intro c2 hu HE
          go_wp2
          go_roundw
          case rel => exact ⟨d + 1, _, _, by go_num, rfl, by omega, HE.out⟩
          case measure => simp [intOf]; omega
      · have HE := Lib.hid (hC.skip (fun i h1 h2 h3 => by
            rw [Nat.zero_add, Nat.pow_one, Nat.pow_zero, Nat.mul_one] at h1 h2
            omega))
        have hf2 : (q : Int) * 16 + (d : Int) < fr := by omega
        clear hC ha1 hn hfr
        go_wp2
        go_roundw
        case rel => exact ⟨d + 1, _, _, by go_num, rfl, by omega, HE.out⟩
        case measure => simp [intOf]; omega
    · obtain rfl : d = 16 := by omega
      clear hC
      go_wp2
      go_ret
      exact ⟨s1, g, a, rfl, HC.out⟩
theorem cut_calls (fr : Int) : ∀ (L : Nat) (s : TS Int) (p : Nat) (n : Int) (a q : Nat) (w : World), IsT kInt w p n s → WF s → FullBut s L q → s.N L q = some a →
    Calls Try.prog 41 #[.pointer (some ⟨a, 0, none⟩), .int .i64 fr, .int .i64 ((q * 16 ^ (L + 1) : Nat) : Int), .int .i64 (L : Int)] w (CutEnd kInt s p n w L q fr) := by
  intro L
  induction L with
  | zero =>
    intro s p n a q w hI hw hf ha
    have := cut_leaf s p n fr a q w hI hw hf ha
    rw [Nat.zero_add, Nat.pow_one]
    exact this
  | succ L ih =>
    intro s p n a q w hI hw hf ha
    have hroom := node_room hw ha
    have hlv := hw.lv _ _ _ ha
    have h5 := hw.h5
    have HS := Lib.hid (CI.start hI hw hf a fr)
    have HA := Lib.hid ha
    have IH := Lib.hid ih
    obtain ⟨M, hM⟩ : ∃ M, L + 1 = M := ⟨_, rfl⟩
    have hSp : 0 < 16 ^ (L + 1) := pow_pos16 _
    obtain ⟨S, hS⟩ : ∃ S : Int, ((16 ^ (L + 1) : Nat) : Int) = S := ⟨_, rfl⟩
    obtain ⟨B, hB⟩ : ∃ B : Int, ((q * 16 ^ (L + 1 + 1) : Nat) : Int) = B := ⟨_, rfl⟩
    have hpw : (2 : Int) ^ (4 * M) = S := by
      rw [← hM, ← hS]
      have e : (2 : Nat) ^ (4 * (L + 1)) = 16 ^ (L + 1) := by rw [Nat.pow_mul]
      rw [← e]
      exact (Int.natCast_pow 2 _).symm
    have hpos : ((M : Int) == 0) = false := beq_eq_false_iff_ne.2 (by omega)
    have hm1 : (M : Int) - 1 = (L : Int) := by omega
    have hM4 : M ≤ 4 := by omega
    have hroom2 : B + 16 * S ≤ 1048576 := by rw [← hB, ← hS]; omega
    have hSp2 : 0 < S := by rw [← hS]; omega
    have hB0 : 0 ≤ B := by rw [← hB]; omega
    rw [hB, hM]
    have HM := Lib.hid hM
    have HSS := Lib.hid hS
    have HBB := Lib.hid hB
    have HR := Lib.hid hroom
    clear hI hw hf ha ih hM hS hB hlv h5 hroom hSp
    go_enter Try.func41, Try.ntmps41
    go_wp2
    go_loopw [9, 13] (fun s9 s13 wx => ∃ (d : Nat) (g : Int) (s1 : TS Int), s13 = .int .i64 (d : Int) ∧ s9 = .int .i64 g ∧ d ≤ 16 ∧ CI kInt s p n w (L + 1) q a fr d g s1 wx) (fun _ s13 _ => 16 - (intOf s13).toNat)
    case atStart => exact ⟨0, 0, s, rfl, rfl, by omega, HS.out⟩
    case round =>
      obtain ⟨d, g, s1, rfl, rfl, hd16, hC⟩ := hrel
      have HC := Lib.hid hC
      by_cases hd : d < 16
      · have ha1 := (hC.high (L + 1) q (Nat.le_refl _)).trans HA.out
        have hn := hC.isT.node _ _ _ ha1
        have c1 := hn.below' hd
        have f1 := hn.free d
        have f2 := hn.free 32
        have hd2 : (d : Int) < 16 := by omega
        have hXN : d * 16 ^ (L + 1) + 16 ^ (L + 1) ≤ 16 * 16 ^ (L + 1) := by
          have := Nat.mul_le_mul_right (16 ^ (L + 1)) (show d + 1 ≤ 16 by omega)
          rw [Nat.succ_mul] at this
          exact this
        have hgb := hC.bound
        obtain ⟨X, hX⟩ : ∃ X : Int, ((d * 16 ^ (L + 1) : Nat) : Int) = X := ⟨_, rfl⟩
        obtain ⟨F, hF⟩ : ∃ F : Int, (((q * 16 + d) * 16 ^ (L + 1) : Nat) : Int) = F := ⟨_, rfl⟩
        have eF := chunk_eq q d (L + 1)
        have hFi : B + X = F := by rw [← HBB.out, ← hX, ← hF, ← eF]; omega
        have hXi : (d : Int) * S = X := by rw [← HSS.out, ← hX, Int.natCast_mul]
        have hFb : F + S ≤ 1048576 := by
          have := HR.out
          rw [← hF, ← HSS.out, ← eF]; omega
        have hF0 : 0 ≤ F := by rw [← hF]; omega
        have hX0 : 0 ≤ X := by rw [← hX]; omega
        have hXb : X ≤ 1048576 := by omega
        have hSb : S ≤ 1048576 := by omega
        rw [hX] at hgb
        have hskip : ∀ i : Nat, i < q * 16 ^ (L + 1 + 1) + d * 16 ^ (L + 1) + 16 ^ (L + 1) → (i : Int) ≤ F + S - 1 := fun i h => by
          rw [eF] at h
          rw [← hF, ← HSS.out]; omega
        have HFF := Lib.hid hF
        have hwX : wrap64 X = X := by unfold wrap64; omega
        have hwF : wrap64 F = F := by unfold wrap64; omega
        have hwS : wrap64 (F + S) = F + S := by unfold wrap64; omega
        have hwT : wrap64 (F + S - 1) = F + S - 1 := by unfold wrap64; omega
        clear hX hF eF hXN
        by_cases hfr : F + S - 1 < fr
        · have HE := Lib.hid (hC.skip (fun i h1 h2 h3 => by
            have := hskip i h2
            omega))
          clear hC ha1 hn hskip
          go_wp2
          go_roundw
          case rel => exact ⟨d + 1, _, _, by go_num, rfl, by omega, HE.out⟩
          case measure => simp [intOf]; omega
        · cases hc : s1.N L (q * 16 + d) with
          | none =>
            rw [hc, ptr_none] at c1
            have HE := Lib.hid (hC.skip (fun i h1 h2 h3 => hC.wf.key_none (L := L) (by have := hC.wf.lv _ _ _ ha1; omega) (by rw [chunk_div h1 h2]; exact hc)))
            clear hC ha1 hn hskip hc
            go_wp2
            go_roundw
            case rel => exact ⟨d + 1, _, _, by go_num, rfl, by omega, HE.out⟩
            case measure => simp [intOf]; omega
          | some c =>
            rw [hc, ptr_some] at c1
            have hf1 : Full s1 := hC.full.full (usedOf_pos.2 ⟨d, c, hd, hc⟩)
            have HCC := IH.out s1 p n c (q * 16 + d) wr hC.isT hC.wf (hf1.but _ _) hc
            rw [HFF.out] at HCC
            have HCC := Lib.hid HCC
            have HCALL := Lib.hid (fun g2 s2 w2 a2 (h2 : CI kInt s1 p n wr L (q * 16 + d) a2 fr 16 g2 s2 w2) => hC.call (g2 := g2) hd HA.out hc h2)
            have HH := Lib.hid (fun g2 s2 w2 a2 (h2 : CI kInt s1 p n wr L (q * 16 + d) a2 fr 16 g2 s2 w2) => And.intro (h2.isT.node _ _ _ ((h2.high (L + 1) q (by omega)).trans ha1)) (And.intro (h2.isT.node _ _ _ ((h2.high L (q * 16 + d) (Nat.le_refl _)).trans hc)) ((h2.high L (q * 16 + d) (Nat.le_refl _)).trans hc)))
            clear hC ha1 hn hskip hc hf1
            go_wp2_with (go_at_call 41; fail)
            refine HCC.out.mono ?_
            rintro e w2 ⟨s2, g2, a2, rfl, hC2⟩
            obtain ⟨hna, hnc, hc2⟩ := HH.out g2 s2 w2 a2 hC2
            have hcl := HCALL.out g2 s2 w2 a2 hC2
            have b1 := hna.below' hd
            rw [hc2, ptr_some] at b1
            have b2 := hna.used
            have b3 := hnc.used
            have f1 := hna.free d
            have f2 := hna.free 32
            have hg2 := hC2.bound
            have hu := usedOf_le (s2.child (L + 1) q)
            have hg3 : -1048576 ≤ g2 ∧ g2 ≤ 1048576 := by
              have : 16 * 16 ^ L = 16 ^ (L + 1) := by rw [Nat.pow_succ, Nat.mul_comm]
              rw [this, HSS.out] at hg2
              omega
            by_cases h0 : usedOf (s2.child L (q * 16 + d)) = 0
            · have HE := Lib.hid (hcl.2 h0)
              rw [h0] at b3
              clear hC2 hna hnc hc2 hcl HCALL HH HCC h0 hg2
              revert b2 hu HE
              generalize usedOf (s2.child (L + 1) q) = U
              intro b2 hu HE
              go_wp2
              go_roundw
              case rel => exact ⟨d + 1, _, _, by go_num, rfl, by omega, HE.out⟩
              case measure => simp [intOf]; omega
            · have HE := Lib.hid (hcl.1 h0)
              have h0' : (((usedOf (s2.child L (q * 16 + d)) : Nat) : Int) == 0) = false := beq_eq_false_iff_ne.2 (by omega)
              clear hC2 hna hnc hc2 hcl HCALL HH HCC h0 hg2 hu
              go_wp2
              go_roundw
              case rel => exact ⟨d + 1, _, _, by go_num, rfl, by omega, HE.out⟩
              case measure => simp [intOf]; omega
      · obtain rfl : d = 16 := by omega
        clear hC
        go_wp2
        go_ret
        exact ⟨s1, g, a, rfl, by rw [← HM.out]; exact HC.out⟩
end Go.Proofs.Ythpjcbaijbppiaa
