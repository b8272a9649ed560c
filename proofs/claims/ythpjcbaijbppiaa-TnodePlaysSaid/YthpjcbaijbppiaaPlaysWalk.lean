/- TnodePlays, walked. -/
import Derived.Test.YthpjcbaijbppiaaPair
import Derived.Test.YthpjcbaijbppiaaHeads
import Derived.Deep.DeepCutAuto
namespace Go.Proofs.Ythpjcbaijbppiaa
open Go.RowKit Go.Proofs
set_option linter.unusedVariables false
set_option linter.unusedSimpArgs false
set_option maxRecDepth 100000
set_option maxHeartbeats 16000000 in
theorem plays_walk (os ts : List (Int × Int × Int)) (hos : os.length ≤ 17592186044416) (hts : ts.length ≤ 17592186044416) (A : Option Addr) (c : Nat) (T : Option Addr) (ct : Nat) (w : World) (hA : OpsAt w A os) (hT : OpsAt w T ts) :
    Calls Try.prog 3 #[.slice A os.length c, .slice T ts.length ct] w (HeadsEnd w) := by
  have HA := Lib.hid hA
  have HT := Lib.hid hT
  clear hA hT
  go_enter Try.func3, Try.ntmps3
  go_wp2_with fail
  refine (OT.new w w (Below.refl _ _)).mono ?_
  rintro e w1 ⟨rfl, h1, _⟩
  have H1 := Lib.hid h1
  clear h1
  go_wp2_with fail
  refine (OT2.new H1.out).mono ?_
  rintro e w2 ⟨rfl, h2, _⟩
  have H2 := Lib.hid (PP.new h2)
  clear h2 H1
  generalize w.heap.size = p at H2 ⊢
  generalize w1.heap.size = q at H2 ⊢
  go_wp2_with fail
  generalize w2.heap.size = r at H2 ⊢
  generalize (w2.alloc (.cells #[.slice none 0 0] 28)).alloc (.cells #[.slice none 0 0] 28) = w3 at H2 ⊢
  have n1 : ∀ a : Int, (a != a) = false := fun a => by rw [bne, beq_self_eq_true]; rfl
  go_loopw [9] (fun s9 wx => ∃ (i : Nat) (l m : List (Nat × Int)), s9 = .int .i64 (i : Int) ∧ i ≤ os.length ∧ PP w wx p r l q (r + 1) m) (fun s9 _ => os.length - (intOf s9).toNat)
  case atStart => exact ⟨0, _, _, rfl, by omega, H2.out⟩
  case round =>
    clear H2
    obtain ⟨i, l, m, rfl, hi, hP⟩ := hrel
    have D0 := Lib.hid hP
    by_cases hlt : i < os.length
    · obtain ⟨x, hx⟩ : ∃ x, os[i]? = some x := ⟨_, List.getElem?_eq_getElem hlt⟩
      obtain ⟨g, o, rfl, hc⟩ := HA.out (by omega)
      obtain ⟨c1, c2, c3⟩ := hc i x hx
      have hB := hP.B
      replace c1 := (hB.cell (p := ⟨g, o + i * 3, none⟩) (World.block_lt_of_cell? w _ c1)).trans c1
      replace c2 := (hB.cell (p := ⟨g, o + i * 3 + 1, none⟩) (World.block_lt_of_cell? w _ c2)).trans c2
      replace c3 := (hB.cell (p := ⟨g, o + i * 3 + 2, none⟩) (World.block_lt_of_cell? w _ c3)).trans c3
      have hil : (i : Int) < (os.length : Int) := by omega
      clear hx hc hB hP
      have D1 := Lib.hid D0.out.drew
      clear D0
      go_wp2_with fail
      go_cut [52] (fun v52 wx => v52 = .bool false ∧ ∃ l', PP w wx p r l' q (r + 1) m)
      case first =>
        go_region_with (first
          | (go_at_call 10; (with_reducible refine (D1.out.play _ _ _).mono ?_); rintro e v1 ⟨rfl, l1, h1⟩; obtain ⟨A1, cap1, n, cc0, _, hl1, k1, k2, k3⟩ := h1.look; have K1 := Lib.hid k1; have K2 := Lib.hid k2; have K3 := Lib.hid k3; clear h1 k1 k2 k3)
          | (go_at_call 11; (with_reducible refine K1.out.mono ?_); rintro e v2 ⟨rfl, rfl⟩)
          | (go_at_call 12; (with_reducible refine K2.out.mono ?_); rintro e v2 ⟨rfl, rfl⟩)
          | (go_at_call 13; (with_reducible refine K3.out.mono ?_); rintro e v2 ⟨rfl, h3, _⟩; have D2 := Lib.hid h3; clear h3))
        all_goals
          go_wp2
          go_meet
          case rel => exact ⟨rfl, _, D2.out⟩
      case rest =>
        obtain ⟨rfl, l1, h2⟩ := hcut
        have D2 := Lib.hid h2
        clear h2 c1 c2 c3 D1
        go_wp2_with fail
        go_cut [83] (fun v83 wx => v83 = .bool false ∧ ∃ m', PP w wx p r l1 q (r + 1) m')
        case first =>
          by_cases htj : i < ts.length
          · obtain ⟨y, hy⟩ : ∃ y, ts[i]? = some y := ⟨_, List.getElem?_eq_getElem htj⟩
            obtain ⟨g2, o2, rfl, hc⟩ := HT.out (by omega)
            obtain ⟨c1, c2, c3⟩ := hc i y hy
            have hjl : (i : Int) < (ts.length : Int) := by omega
            have hd : decide ((i : Int) < (ts.length : Int)) = true := decide_eq_true hjl
            have hd2 : decide (i < ts.length) = true := decide_eq_true htj
            clear hy hc
            have CW := Lib.hid (fun V (hB : Below w.heap.size w V) => And.intro ((hB.cell (p := ⟨g2, o2 + i * 3, none⟩) (World.block_lt_of_cell? w _ c1)).trans c1) (And.intro ((hB.cell (p := ⟨g2, o2 + i * 3 + 1, none⟩) (World.block_lt_of_cell? w _ c2)).trans c2) ((hB.cell (p := ⟨g2, o2 + i * 3 + 2, none⟩) (World.block_lt_of_cell? w _ c3)).trans c3)))
            clear c1 c2 c3
            have D3 := Lib.hid D2.out.swap.drew
            clear D2
            refine wp_region_held_drew (S := (fun V => V.cell? ⟨g2, o2 + i * 3, none⟩ = some (.int .i64 y.1) ∧ V.cell? ⟨g2, o2 + i * 3 + 1, none⟩ = some (.int .i64 y.2.1) ∧ V.cell? ⟨g2, o2 + i * 3 + 2, none⟩ = some (.int .i64 y.2.2))) (by kernel_rfl) ?_ (fun hHeld => ?_)
            · exact CW.out _ D3.out.B
            refine wpAnyH_take (i := 0) (v := .int .i64 (i : Int)) rfl (by kernel_rfl) (by kernel_rfl) (by kernel_rfl) (fun _ _ _ h => h) (Or.inl ⟨by rfl, ?_⟩) (by assumption) ?_
            · intro V hV
              obtain ⟨s0, s1, s2⟩ := hV
              go_simp
            try simp only [List.getElem_toArray, List.getElem_cons_succ, List.getElem_cons_zero, Act.put, List.setIfInBounds_toArray, List.set_cons_zero, List.set_cons_succ]
            refine wpAnyH_take (i := 1) (v := .slice (some ⟨g2, o2, none⟩) ts.length ct) rfl (by kernel_rfl) (by kernel_rfl) (by kernel_rfl) (fun _ _ _ h => h) (Or.inl ⟨by rfl, ?_⟩) (by assumption) ?_
            · intro V hV
              obtain ⟨s0, s1, s2⟩ := hV
              go_simp
            try simp only [List.getElem_toArray, List.getElem_cons_succ, List.getElem_cons_zero, Act.put, List.setIfInBounds_toArray, List.set_cons_zero, List.set_cons_succ]
            refine wpAnyH_take (i := 2) (v := .int .i64 (ts.length : Int)) rfl (by kernel_rfl) (by kernel_rfl) (by kernel_rfl) (fun _ _ _ h => h) (Or.inl ⟨by rfl, ?_⟩) (by assumption) ?_
            · intro V hV
              obtain ⟨s0, s1, s2⟩ := hV
              go_simp
            try simp only [List.getElem_toArray, List.getElem_cons_succ, List.getElem_cons_zero, Act.put, List.setIfInBounds_toArray, List.set_cons_zero, List.set_cons_succ]
            refine wpAnyH_take (i := 3) (v := .bool true) rfl (by kernel_rfl) (by kernel_rfl) (by kernel_rfl) (fun _ _ _ h => h) (Or.inl ⟨by rfl, ?_⟩) (by assumption) ?_
            · intro V hV
              obtain ⟨s0, s1, s2⟩ := hV
              go_simp
            try simp only [List.getElem_toArray, List.getElem_cons_succ, List.getElem_cons_zero, Act.put, List.setIfInBounds_toArray, List.set_cons_zero, List.set_cons_succ]
            refine wpAnyH_take (i := 4) (v := .bool true) rfl (by kernel_rfl) (by kernel_rfl) (by kernel_rfl) (fun _ _ _ h => h) (Or.inl ⟨by rfl, ?_⟩) (by assumption) ?_
            · intro V hV
              obtain ⟨s0, s1, s2⟩ := hV
              go_simp
            try simp only [List.getElem_toArray, List.getElem_cons_succ, List.getElem_cons_zero, Act.put, List.setIfInBounds_toArray, List.set_cons_zero, List.set_cons_succ]
            refine wpAnyH_take (i := 5) (v := .pointer (some ⟨q, 0, none⟩)) rfl (by kernel_rfl) (by kernel_rfl) (by kernel_rfl) (fun _ _ _ h => h) (Or.inl ⟨by rfl, ?_⟩) (by assumption) ?_
            · intro V hV
              obtain ⟨s0, s1, s2⟩ := hV
              go_simp
            try simp only [List.getElem_toArray, List.getElem_cons_succ, List.getElem_cons_zero, Act.put, List.setIfInBounds_toArray, List.set_cons_zero, List.set_cons_succ]
            refine wpAnyH_take (i := 6) (v := .pointer (some ⟨r + 1, 0, none⟩)) rfl (by kernel_rfl) (by kernel_rfl) (by kernel_rfl) (fun _ _ _ h => h) (Or.inl ⟨by rfl, ?_⟩) (by assumption) ?_
            · intro V hV
              obtain ⟨s0, s1, s2⟩ := hV
              go_simp
            try simp only [List.getElem_toArray, List.getElem_cons_succ, List.getElem_cons_zero, Act.put, List.setIfInBounds_toArray, List.set_cons_zero, List.set_cons_succ]
            refine wpAnyH_take (i := 7) (v := .slice (some ⟨g2, o2, none⟩) ts.length ct) rfl (by kernel_rfl) (by kernel_rfl) (by kernel_rfl) (fun _ _ _ h => h) (Or.inl ⟨by rfl, ?_⟩) (by assumption) ?_
            · intro V hV
              obtain ⟨s0, s1, s2⟩ := hV
              go_simp
            try simp only [List.getElem_toArray, List.getElem_cons_succ, List.getElem_cons_zero, Act.put, List.setIfInBounds_toArray, List.set_cons_zero, List.set_cons_succ]
            refine wpAnyH_take (i := 8) (v := .int .i64 (i : Int)) rfl (by kernel_rfl) (by kernel_rfl) (by kernel_rfl) (fun _ _ _ h => h) (Or.inl ⟨by rfl, ?_⟩) (by assumption) ?_
            · intro V hV
              obtain ⟨s0, s1, s2⟩ := hV
              go_simp
            try simp only [List.getElem_toArray, List.getElem_cons_succ, List.getElem_cons_zero, Act.put, List.setIfInBounds_toArray, List.set_cons_zero, List.set_cons_succ]
            refine wpAnyH_take (i := 9) (v := .pointer (some ⟨g2, o2 + i * 3, none⟩)) rfl (by kernel_rfl) (by kernel_rfl) (by kernel_rfl) (fun _ _ _ h => h) (Or.inl ⟨by rfl, ?_⟩) (by assumption) ?_
            · intro V hV
              obtain ⟨s0, s1, s2⟩ := hV
              go_simp
            try simp only [List.getElem_toArray, List.getElem_cons_succ, List.getElem_cons_zero, Act.put, List.setIfInBounds_toArray, List.set_cons_zero, List.set_cons_succ]
            refine wpAnyH_take (i := 10) (v := .agg #[.int .i64 y.1, .int .i64 y.2.1, .int .i64 y.2.2]) rfl (by kernel_rfl) (by kernel_rfl) (by kernel_rfl) (fun _ _ _ h => h) (Or.inl ⟨by rfl, ?_⟩) (by assumption) ?_
            · intro V hV
              obtain ⟨s0, s1, s2⟩ := hV
              go_simp
            try simp only [List.getElem_toArray, List.getElem_cons_succ, List.getElem_cons_zero, Act.put, List.setIfInBounds_toArray, List.set_cons_zero, List.set_cons_succ]
            refine wpAnyH_ready (rs := [11]) (by kernel_rfl) (by simp) ?_
            refine AllReadyH.cons rfl (fun K hK => ?_) AllReadyH.nil
            go_simp
            refine (D3.out.play _ _ _).mono ?_
            rintro e v1 ⟨rfl, m1, h1⟩
            obtain ⟨A2, cap2, n2, cc0, _, hl2, k1, k2, k3⟩ := h1.look
            have HB1 := Lib.hid h1.B
            obtain ⟨N2, hN2⟩ : ∃ N, m1.length = N := ⟨_, rfl⟩
            rw [hN2] at cc0 k1
            have K1 := Lib.hid k1
            have K2 := Lib.hid k2
            have K3 := Lib.hid k3
            clear h1 k1 k2 k3 D3 hN2
            go_wp2_with fail
            refine hK.out _ _ ?_ (fun hHeld => ?_)
            · exact CW.out _ HB1.out
            clear hK K
            try simp only [List.getElem_toArray, List.getElem_cons_succ, List.getElem_cons_zero, Act.put, List.setIfInBounds_toArray, List.set_cons_zero, List.set_cons_succ]
            refine weaken (S' := (fun V => (V.cell? ⟨g2, o2 + i * 3, none⟩ = some (.int .i64 y.1) ∧ V.cell? ⟨g2, o2 + i * 3 + 1, none⟩ = some (.int .i64 y.2.1) ∧ V.cell? ⟨g2, o2 + i * 3 + 2, none⟩ = some (.int .i64 y.2.2)) ∧ V.cell? ⟨r + 1, 0, none⟩ = some (.slice A2 N2 cap2))) (fun W h => h.1) _ _ _ _ ?_
            have hHeld2 : (fun V => (V.cell? ⟨g2, o2 + i * 3, none⟩ = some (.int .i64 y.1) ∧ V.cell? ⟨g2, o2 + i * 3 + 1, none⟩ = some (.int .i64 y.2.1) ∧ V.cell? ⟨g2, o2 + i * 3 + 2, none⟩ = some (.int .i64 y.2.2)) ∧ V.cell? ⟨r + 1, 0, none⟩ = some (.slice A2 N2 cap2)) v1 := ⟨CW.out _ HB1.out, cc0⟩
            clear hHeld
            refine wpAnyH_take (i := 12) (v := .bool false) rfl (by kernel_rfl) (by kernel_rfl) (by kernel_rfl) (fun _ _ _ h => h) (Or.inl ⟨by rfl, ?_⟩) (by assumption) ?_
            · intro V hV
              obtain ⟨⟨s0, s1, s2⟩, s3⟩ := hV
              go_simp
            try simp only [List.getElem_toArray, List.getElem_cons_succ, List.getElem_cons_zero, Act.put, List.setIfInBounds_toArray, List.set_cons_zero, List.set_cons_succ]
            refine wpAnyH_take (i := 13) (v := .bool false) rfl (by kernel_rfl) (by kernel_rfl) (by kernel_rfl) (fun _ _ _ h => h) (Or.inl ⟨by rfl, ?_⟩) (by assumption) ?_
            · intro V hV
              obtain ⟨⟨s0, s1, s2⟩, s3⟩ := hV
              go_simp
            try simp only [List.getElem_toArray, List.getElem_cons_succ, List.getElem_cons_zero, Act.put, List.setIfInBounds_toArray, List.set_cons_zero, List.set_cons_succ]
            refine wpAnyH_take (i := 14) (v := .pointer (some ⟨q, 0, none⟩)) rfl (by kernel_rfl) (by kernel_rfl) (by kernel_rfl) (fun _ _ _ h => h) (Or.inl ⟨by rfl, ?_⟩) (by assumption) ?_
            · intro V hV
              obtain ⟨⟨s0, s1, s2⟩, s3⟩ := hV
              go_simp
            try simp only [List.getElem_toArray, List.getElem_cons_succ, List.getElem_cons_zero, Act.put, List.setIfInBounds_toArray, List.set_cons_zero, List.set_cons_succ]
            refine wpAnyH_take (i := 16) (v := .pointer (some ⟨r + 1, 0, none⟩)) rfl (by kernel_rfl) (by kernel_rfl) (by kernel_rfl) (fun _ _ _ h => h) (Or.inl ⟨by rfl, ?_⟩) (by assumption) ?_
            · intro V hV
              obtain ⟨⟨s0, s1, s2⟩, s3⟩ := hV
              go_simp
            try simp only [List.getElem_toArray, List.getElem_cons_succ, List.getElem_cons_zero, Act.put, List.setIfInBounds_toArray, List.set_cons_zero, List.set_cons_succ]
            refine wpAnyH_take (i := 17) (v := .pointer (some ⟨r + 1, 0, none⟩)) rfl (by kernel_rfl) (by kernel_rfl) (by kernel_rfl) (fun _ _ _ h => h) (Or.inl ⟨by rfl, ?_⟩) (by assumption) ?_
            · intro V hV
              obtain ⟨⟨s0, s1, s2⟩, s3⟩ := hV
              go_simp
            try simp only [List.getElem_toArray, List.getElem_cons_succ, List.getElem_cons_zero, Act.put, List.setIfInBounds_toArray, List.set_cons_zero, List.set_cons_succ]
            refine wpAnyH_take (i := 18) (v := .pointer (some ⟨r + 1, 0, none⟩)) rfl (by kernel_rfl) (by kernel_rfl) (by kernel_rfl) (fun _ _ _ h => h) (Or.inl ⟨by rfl, ?_⟩) (by assumption) ?_
            · intro V hV
              obtain ⟨⟨s0, s1, s2⟩, s3⟩ := hV
              go_simp
            try simp only [List.getElem_toArray, List.getElem_cons_succ, List.getElem_cons_zero, Act.put, List.setIfInBounds_toArray, List.set_cons_zero, List.set_cons_succ]
            refine wpAnyH_take (i := 19) (v := .slice A2 N2 cap2) rfl (by kernel_rfl) (by kernel_rfl) (by kernel_rfl) (fun _ _ _ h => h) (Or.inl ⟨by rfl, ?_⟩) (by assumption) ?_
            · intro V hV
              obtain ⟨⟨s0, s1, s2⟩, s3⟩ := hV
              go_simp
            try simp only [List.getElem_toArray, List.getElem_cons_succ, List.getElem_cons_zero, Act.put, List.setIfInBounds_toArray, List.set_cons_zero, List.set_cons_succ]
            refine wpAnyH_take (i := 20) (v := .int .i64 (N2 : Int)) rfl (by kernel_rfl) (by kernel_rfl) (by kernel_rfl) (fun _ _ _ h => h) (Or.inl ⟨by rfl, ?_⟩) (by assumption) ?_
            · intro V hV
              obtain ⟨⟨s0, s1, s2⟩, s3⟩ := hV
              go_simp
            try simp only [List.getElem_toArray, List.getElem_cons_succ, List.getElem_cons_zero, Act.put, List.setIfInBounds_toArray, List.set_cons_zero, List.set_cons_succ]
            refine wpAnyH_ready (rs := [15]) (by kernel_rfl) (by simp) ?_
            refine AllReadyH.cons rfl (fun K hK => ?_) AllReadyH.nil
            go_simp
            refine K1.out.mono ?_
            rintro e v2 ⟨rfl, rfl⟩
            go_wp2_with fail
            refine hK.out _ _ ?_ (fun hHeld => ?_)
            · exact ⟨CW.out _ HB1.out, cc0⟩
            clear hK K
            try simp only [List.getElem_toArray, List.getElem_cons_succ, List.getElem_cons_zero, Act.put, List.setIfInBounds_toArray, List.set_cons_zero, List.set_cons_succ]
            refine wpAnyH_take (i := 21) (v := .bool false) rfl (by kernel_rfl) (by kernel_rfl) (by kernel_rfl) (fun _ _ _ h => h) (Or.inl ⟨by rfl, ?_⟩) (by assumption) ?_
            · intro V hV
              obtain ⟨⟨s0, s1, s2⟩, s3⟩ := hV
              go_simp
            try simp only [List.getElem_toArray, List.getElem_cons_succ, List.getElem_cons_zero, Act.put, List.setIfInBounds_toArray, List.set_cons_zero, List.set_cons_succ]
            refine wpAnyH_take (i := 22) (v := .bool false) rfl (by kernel_rfl) (by kernel_rfl) (by kernel_rfl) (fun _ _ _ h => h) (Or.inl ⟨by rfl, ?_⟩) (by assumption) ?_
            · intro V hV
              obtain ⟨⟨s0, s1, s2⟩, s3⟩ := hV
              go_simp
            try simp only [List.getElem_toArray, List.getElem_cons_succ, List.getElem_cons_zero, Act.put, List.setIfInBounds_toArray, List.set_cons_zero, List.set_cons_succ]
            refine wpAnyH_take (i := 23) (v := .bool false) rfl (by kernel_rfl) (by kernel_rfl) (by kernel_rfl) (fun _ _ _ h => h) (Or.inl ⟨by rfl, ?_⟩) (by assumption) ?_
            · intro V hV
              obtain ⟨⟨s0, s1, s2⟩, s3⟩ := hV
              go_simp
            try simp only [List.getElem_toArray, List.getElem_cons_succ, List.getElem_cons_zero, Act.put, List.setIfInBounds_toArray, List.set_cons_zero, List.set_cons_succ]
            refine wpAnyH_take (i := 24) (v := .pointer (some ⟨q, 0, none⟩)) rfl (by kernel_rfl) (by kernel_rfl) (by kernel_rfl) (fun _ _ _ h => h) (Or.inl ⟨by rfl, ?_⟩) (by assumption) ?_
            · intro V hV
              obtain ⟨⟨s0, s1, s2⟩, s3⟩ := hV
              go_simp
            try simp only [List.getElem_toArray, List.getElem_cons_succ, List.getElem_cons_zero, Act.put, List.setIfInBounds_toArray, List.set_cons_zero, List.set_cons_succ]
            refine wpAnyH_take (i := 26) (v := .pointer (some ⟨r + 1, 0, none⟩)) rfl (by kernel_rfl) (by kernel_rfl) (by kernel_rfl) (fun _ _ _ h => h) (Or.inl ⟨by rfl, ?_⟩) (by assumption) ?_
            · intro V hV
              obtain ⟨⟨s0, s1, s2⟩, s3⟩ := hV
              go_simp
            try simp only [List.getElem_toArray, List.getElem_cons_succ, List.getElem_cons_zero, Act.put, List.setIfInBounds_toArray, List.set_cons_zero, List.set_cons_succ]
            refine wpAnyH_ready (rs := [25]) (by kernel_rfl) (by simp) ?_
            refine AllReadyH.cons rfl (fun K hK => ?_) AllReadyH.nil
            go_simp
            refine K2.out.mono ?_
            rintro e v2 ⟨rfl, rfl⟩
            go_wp2_with fail
            refine hK.out _ _ ?_ (fun hHeld => ?_)
            · exact ⟨CW.out _ HB1.out, cc0⟩
            clear hK K
            try simp only [List.getElem_toArray, List.getElem_cons_succ, List.getElem_cons_zero, Act.put, List.setIfInBounds_toArray, List.set_cons_zero, List.set_cons_succ]
            refine wpAnyH_ready (rs := [27]) (by kernel_rfl) (by simp) ?_
            refine AllReadyH.cons rfl (fun K hK => ?_) AllReadyH.nil
            go_simp
            refine K3.out.mono ?_
            rintro e v2 ⟨rfl, h3, hb3⟩
            have D4 := Lib.hid h3
            have HB4 := Lib.hid hb3
            clear h3 hb3
            go_wp2_with fail
            refine hK.out _ _ ?_ (fun hHeld => ?_)
            · exact ⟨CW.out _ D4.out.B, (HB4.out.cell (p := ⟨r + 1, 0, none⟩) (World.block_lt_of_cell? _ _ cc0)).trans cc0⟩
            clear hK K
            try simp only [List.getElem_toArray, List.getElem_cons_succ, List.getElem_cons_zero, Act.put, List.setIfInBounds_toArray, List.set_cons_zero, List.set_cons_succ]
            refine wpAnyH_take (i := 28) (v := .bool false) rfl (by kernel_rfl) (by kernel_rfl) (by kernel_rfl) (fun _ _ _ h => h) (Or.inl ⟨by rfl, ?_⟩) (by assumption) ?_
            · intro V hV
              obtain ⟨⟨s0, s1, s2⟩, s3⟩ := hV
              go_simp
            try simp only [List.getElem_toArray, List.getElem_cons_succ, List.getElem_cons_zero, Act.put, List.setIfInBounds_toArray, List.set_cons_zero, List.set_cons_succ]
            refine wpAnyH_take (i := 29) (v := .bool false) rfl (by kernel_rfl) (by kernel_rfl) (by kernel_rfl) (fun _ _ _ h => h) (Or.inl ⟨by rfl, ?_⟩) (by assumption) ?_
            · intro V hV
              obtain ⟨⟨s0, s1, s2⟩, s3⟩ := hV
              go_simp
            try simp only [List.getElem_toArray, List.getElem_cons_succ, List.getElem_cons_zero, Act.put, List.setIfInBounds_toArray, List.set_cons_zero, List.set_cons_succ]
            refine wpAnyH_take (i := 30) (v := .bool false) rfl (by kernel_rfl) (by kernel_rfl) (by kernel_rfl) (fun _ _ _ h => h) (Or.inl ⟨by rfl, ?_⟩) (by assumption) ?_
            · intro V hV
              obtain ⟨⟨s0, s1, s2⟩, s3⟩ := hV
              go_simp
            try simp only [List.getElem_toArray, List.getElem_cons_succ, List.getElem_cons_zero, Act.put, List.setIfInBounds_toArray, List.set_cons_zero, List.set_cons_succ]
            refine wpAnyH_done (by kernel_rfl) ?_ _
            go_wp2
            go_meet
            case rel => exact ⟨rfl, _, D4.out.swap⟩
          · have hd : decide ((i : Int) < (ts.length : Int)) = false := decide_eq_false (by omega)
            have hjl : ¬ (i : Int) < (ts.length : Int) := by omega
            go_quiet (fail)
            go_wp2
            go_meet
            case rel => exact ⟨rfl, _, D2.out.below (below_drewN' _ _)⟩
        case rest =>
          obtain ⟨rfl, m1, h3⟩ := hcut
          have D5 := Lib.hid h3
          clear h3 D2
          go_wp2
          go_roundw
          case rel => exact ⟨i + 1, _, _, by go_num, by omega, D5.out⟩
          case measure => simp [intOf]; omega
    · obtain rfl : i = os.length := by omega
      obtain ⟨A1, cap1, n, cc0, hr1, hl1, _⟩ := hP.look
      obtain ⟨A2, cap2, n2, cc1, hr2, hl2, _⟩ := hP.swap.look
      have hb0 : Below wr.heap.size wr wr.drew := (Below.refl _ _).drew
      have R1 := Lib.hid (hr1.below hb0)
      have R2 := Lib.hid (hr2.below hb0)
      have L1 := Lib.hid hl1
      have L2 := Lib.hid hl2
      obtain ⟨N1, hN1⟩ : ∃ N, l.length = N := ⟨_, rfl⟩
      obtain ⟨N2, hN2⟩ : ∃ N, m.length = N := ⟨_, rfl⟩
      rw [hN1] at cc0 R1
      rw [hN2] at cc1 R2
      have D1 := Lib.hid D0.out.drew
      clear D0 hP hr1 hr2 hb0 hl1 hl2 hN1 hN2
      go_wp2_with fail
      go_region_held3 (fun W => W.cell? ⟨r, 0, none⟩ = some (.slice A1 N1 cap1) ∧ W.cell? ⟨r + 1, 0, none⟩ = some (.slice A2 N2 cap2))
        (first | go_keep | exact ⟨cd0, cd1⟩)
        (first
          | (go_at_call 15; (with_reducible refine (D1.out.pairs).mono ?_); rintro e v1 ⟨a1, rfl, hp, h1, hb⟩; have cd0 := (hb.cell (p := ⟨r, 0, none⟩) (World.block_lt_of_cell? wr _ cc0)).trans cc0; have cd1 := (hb.cell (p := ⟨r + 1, 0, none⟩) (World.block_lt_of_cell? wr _ cc1)).trans cc1; have D2 := Lib.hid h1; have P1 := Lib.hid hp; have Q1 := Lib.hid (R1.out.below hb); have Q2 := Lib.hid (R2.out.below hb); clear h1 hb hp D1)
          | (go_at_call 14; (with_reducible refine (same_yes l L1.out _ _ _ P1.out Q1.out).mono ?_); rintro e v2 ⟨rfl, k, rfl⟩; have D3 := Lib.hid (D2.out.below (below_drewN' _ k)); have Q3 := Lib.hid (Q2.out.below (below_drewN' _ k)); clear D2 P1 Q1 Q2)
          | (go_at_call 15; (with_reducible refine (D3.out.swap.pairs).mono ?_); rintro e v3 ⟨a2, rfl, hp, h1, hb⟩; have cd2 := (hb.cell (p := ⟨r, 0, none⟩) (World.block_lt_of_cell? _ _ cd0)).trans cd0; have cd3 := (hb.cell (p := ⟨r + 1, 0, none⟩) (World.block_lt_of_cell? _ _ cd1)).trans cd1; have D4 := Lib.hid h1; have P4 := Lib.hid hp; have Q4 := Lib.hid (Q3.out.below hb); clear h1 hb hp D3)
          | (go_at_call 14; (with_reducible refine (same_yes m L2.out _ _ _ P4.out Q4.out).mono ?_); rintro e v4 ⟨rfl, k2, rfl⟩; have D5 := Lib.hid (D4.out.below (below_drewN' _ k2))))
      all_goals
        go_wp2
        go_ret
        exact ⟨by first | rfl | simp, D5.out.B⟩
end Go.Proofs.Ythpjcbaijbppiaa
