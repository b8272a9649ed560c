/- TnodeHeight, walked. -/
import Derived.Test.YthpjcbaijbppiaaRises
namespace Go.Proofs.Ythpjcbaijbppiaa
open Go.RowKit Go.Proofs
set_option linter.unusedVariables false
set_option linter.unusedSimpArgs false
set_option maxRecDepth 100000
theorem height_walk (ks : List Int) (hks : ks.length ≤ 17592186044416) (A : Option Addr) (c : Nat) (fr : Int) (w : World) (hA : IntsAt w A ks) :
    Calls Try.prog 6 #[.slice A ks.length c, .int .i64 fr] w (HeadsEnd w) := by
  have HA := Lib.hid hA
  clear hA
  go_enter Try.func6, Try.ntmps6
  go_wp2_with fail
  refine (heads_calls w).mono ?_
  rintro e w1 ⟨rfl, h1⟩
  have H1 := Lib.hid h1
  clear h1
  go_wp2_with fail
  refine (filled_calls ks hks A c w w1 HA.out H1.out).mono ?_
  rintro e w2 ⟨p, rfl, h2⟩
  revert h2
  generalize fillN ks ks.length = L0
  intro h2
  have H2 := Lib.hid h2
  clear h2
  go_wp2_with fail
  refine (H2.out.cut fr).mono ?_
  rintro e w2' ⟨rfl, h2', _⟩
  generalize ((L0.length : Int) - ((cutL L0 fr).length : Int)) = G
  revert h2'
  generalize cutL L0 fr = L
  intro h2'
  have H2' := Lib.hid h2'
  clear h2'
  go_wp2_with fail
  refine (H2'.out.pairs (-1)).mono ?_
  rintro e w3 ⟨v3, rfl, ⟨hp3, hq3⟩, h3, _⟩
  rw [firstN_all] at hp3
  obtain ⟨A3, c3, rfl⟩ := hp3.form
  have H3 := Lib.hid h3
  have P3 := Lib.hid hp3
  have Q3 := Lib.hid hq3
  have hlen := h3.lenb
  obtain ⟨h, hh, hh5⟩ := h3.ht
  clear h3 hp3 hq3
  by_cases h0 : L.length = 0
  · obtain rfl : L = [] := List.eq_nil_of_length_eq_zero h0
    have hz : h = 0 := hh.uniq (.inl ⟨rfl, rfl⟩)
    subst hz
    have HH := Lib.hid hh
    clear hh h0 hlen
    go_wp2_with fail
    refine (H3.out.height 0 HH.out).mono ?_
    rintro e w4 ⟨rfl, rfl⟩
    go_wp2_with fail
    refine (H3.out.len).mono ?_
    rintro e w4 ⟨rfl, rfl⟩
    go_wp2_with fail
    go_ret
    exact ⟨rfl, H3.out.B⟩
  · obtain ⟨x, hx, h1, hxh, hxl⟩ : ∃ x, L.getLast? = some x ∧ 1 ≤ h ∧ x.1 < 16 ^ h ∧ (h = 1 ∨ 16 ^ (h - 1) ≤ x.1) := by
      rcases hh with ⟨rfl, _⟩ | h
      · exact absurd rfl h0
      · exact h
    have hlast : L[L.length - 1]? = some x := by rw [← List.getLast?_eq_getElem?]; exact hx
    obtain ⟨g, rfl, hc⟩ : ∃ g, A3 = some ⟨g, 0, none⟩ ∧ ∀ i x, L[i]? = some x → w3.cell? ⟨g, i * 2, none⟩ = some (.int .i64 (x.1 : Int)) ∧ w3.cell? ⟨g, i * 2 + 1, none⟩ = some (.int .i64 x.2) := by
      rcases P3.out with ⟨cap, _, h⟩ | ⟨g, cap, e, h⟩
      · rw [h] at h0; exact absurd rfl h0
      · injection e with e1 e2 e3; exact ⟨g, e1, h⟩
    obtain ⟨j, hj⟩ : ∃ j, L.length - 1 = j := ⟨_, rfl⟩
    rw [hj] at hlast
    have c1 := (hc j x hlast).1
    have hm1 : (L.length : Int) - 1 = (j : Int) := by omega
    have hjl : (j : Int) < (L.length : Int) := by omega
    have hl0 : ((L.length : Int) == 0) = false := beq_eq_false_iff_ne.2 (by omega)
    have hkey := H3.out.keys (List.mem_of_getElem? hlast)
    have HH := Lib.hid hh
    have HX := Lib.hid (And.intro h1 (And.intro hxh hxl))
    have HU := Lib.hid (show HtR ([(x.1, 0)] : List (Nat × Int)) h from .inr ⟨(x.1, 0), rfl, h1, hxh, hxl⟩)
    have HPU := Lib.hid (show putL [] (x.1 : Int) 0 = [(x.1, 0)] by unfold putL; rw [if_pos (show mayB (x.1 : Int) = true from decide_eq_true (by omega)), Int.toNat_natCast]; rfl)
    clear h0 hx hlast hc hj hh hxh hxl hkey
    have hl1 : 0 < L.length := by omega
    go_wp2_with fail
    refine (OT2.new H3.out).mono ?_
    rintro e w4 ⟨rfl, h4, hb4⟩
    have c2 := (hb4.cell (World.block_lt_of_cell? w3 _ c1)).trans c1
    have H4 := Lib.hid h4
    have HC3 := Lib.hid (fun W (hk : KT kInt w4 W) => by
      obtain ⟨cc, hcc⟩ := Q3.out g rfl
      have e1 := (hb4.block g (lt_of_heap hcc)).trans hcc
      have e2 := hk g cc 45 (0, 0) e1 (by decide) (by decide) (by decide)
      have h1 := c1
      unfold World.cell? at h1 ⊢
      rw [hcc] at h1
      rw [e2]
      exact h1 : ∀ W, KT kInt w4 W → W.cell? ⟨g, j * 2, none⟩ = some (.int .i64 (x.1 : Int)))
    clear h4 hb4 c1
    go_wp2_with fail
    refine (H4.out.swap.put (x.1 : Int) 0).mono ?_
    rintro e w5 ⟨rfl, h5, hk5⟩
    rw [HPU.out] at h5
    have c3 : w5.cell? ⟨g, j * 2, none⟩ = some (.int .i64 (x.1 : Int)) := HC3.out w5 hk5
    have H5 := Lib.hid h5
    clear h5 c2 hk5
    go_wp2_with fail
    refine (H5.out.swap.one.height h HH.out).mono ?_
    rintro e w6 ⟨rfl, rfl⟩
    go_wp2_with fail
    go_loop [10, 11] (fun s10 s11 => ∃ i : Nat, s11 = .int .i64 (i : Int) ∧ 1 ≤ i ∧ i ≤ h ∧ s10 = .int .i64 ((16 ^ (i - 1) : Nat) : Int)) (fun _ s11 => h - (intOf s11).toNat)
    case atStart => exact ⟨1, rfl, by omega, HX.out.1, rfl⟩
    case round =>
      obtain ⟨i, rfl, hi1, hih, rfl⟩ := hrel
      have hz := Nat.pow_le_pow_right (n := 16) (by decide) (show i - 1 ≤ 4 by omega)
      have hz0 := pow_pos16 (i - 1)
      have HZ := Lib.hid (show 16 ^ (i + 1 - 1) = 16 ^ (i - 1) * 16 by rw [show i + 1 - 1 = i - 1 + 1 by omega, Nat.pow_succ])
      have HZ2 := Lib.hid (show i = h → 16 ^ h = 16 ^ (i - 1) * 16 ∧ (h = 1 ∨ 16 ^ (i - 1) ≤ x.1) from fun e => by
        subst e
        exact ⟨by conv => lhs; rw [show i = i - 1 + 1 by omega, Nat.pow_succ]
               , HX.out.2.2⟩)
      revert hz hz0 HZ HZ2
      generalize 16 ^ (i - 1) = Z
      intro hz hz0 HZ HZ2
      by_cases hlt : i < h
      · have hil : (i : Int) < (h : Int) := by omega
        go_wp2_with fail
        go_round
        case rel => exact ⟨i + 1, by go_num, by omega, by omega, by rw [HZ.out]; go_num⟩
        case measure => simp [intOf]; omega
      · obtain rfl : i = h := by omega
        obtain ⟨hz2, hz3⟩ := HZ2.out rfl
        have hxh := HX.out.2.1
        rw [hz2] at hxh
        have q1 : (x.1 : Int) < (Z : Int) * 16 := by omega
        have q2 : (1 : Int) ≤ (i : Int) := by omega
        have q3 : (i : Int) ≤ 5 := by omega
        have HZ3 := Lib.hid hz3
        clear HZ2 hz2 hxh hz3
        go_wp2_with fail
        refine (H5.out.one.height i HU.out).mono ?_
        rintro e w7 ⟨rfl, rfl⟩
        by_cases q4 : i = 1
        · have q5 : ((i : Int) == 1) = true := by rw [q4]; rfl
          clear q4
          go_wp2_with fail
          go_ret
          exact ⟨by first | rfl | simp [q1, q2, q3], H5.out.one.B⟩
        · have q5 : ((i : Int) == 1) = false := beq_eq_false_iff_ne.2 (by omega)
          have q6 : (Z : Int) ≤ (x.1 : Int) := by
            rcases HZ3.out with h | h
            · exact absurd h q4
            · omega
          clear q4
          go_wp2_with fail
          go_ret
          exact ⟨by first | rfl | simp [q1, q2, q3, q6], H5.out.one.B⟩
end Go.Proofs.Ythpjcbaijbppiaa
