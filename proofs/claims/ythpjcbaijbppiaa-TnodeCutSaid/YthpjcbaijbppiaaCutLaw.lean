/- TnodeCut, walked. -/
import Derived.Test.YthpjcbaijbppiaaRises
namespace Go.Proofs.Ythpjcbaijbppiaa
open Go.RowKit Go.Proofs
set_option linter.unusedVariables false
set_option linter.unusedSimpArgs false
set_option maxRecDepth 100000
theorem OT2.join {w0 w w' : World} {p p' : Nat} {l l' : List (Nat × Int)} (h : OT w0 w p l) (h' : OT w w' p' l') : OT2 w0 w' p l p' l' := by
  obtain ⟨fp, h1, h2, h3⟩ := h
  obtain ⟨fp', k1, k2, k3⟩ := h'
  exact ⟨fp, fp', h1.below k3, k1, fun b a c => by have := h1.lt a; have := k2 b c; omega, h2, fun b hb => Nat.le_trans h3.size (k2 b hb), h3.trans (k3.mono h3.size)⟩
/-- What u holds when the first i have been looked at. -/
def midL (L : List (Nat × Int)) (fr : Int) (i : Nat) : List (Nat × Int) := cutL (L.take i) fr ++ L.drop i
theorem midL_zero (L : List (Nat × Int)) (fr : Int) : midL L fr 0 = L := by unfold midL cutL; simp
theorem midL_all (L : List (Nat × Int)) (fr : Int) : midL L fr L.length = cutL L fr := by unfold midL; rw [List.take_length, List.drop_length, List.append_nil]
theorem drop_cons {α : Type} {L : List α} {i : Nat} {x : α} (h : L[i]? = some x) : L.drop i = x :: L.drop (i + 1) := by
  obtain ⟨hi, e⟩ := List.getElem?_eq_some_iff.1 h
  rw [List.drop_eq_getElem_cons hi, e]
theorem midL_keep {L : List (Nat × Int)} {fr : Int} {i : Nat} {x : Nat × Int} (h : L[i]? = some x) (hk : (x.1 : Int) < fr) : midL L fr (i + 1) = midL L fr i := by
  unfold midL
  rw [take_succ' h, drop_cons h]
  unfold cutL
  rw [List.filter_append]
  simp [hk]
theorem midL_drop {L : List (Nat × Int)} (hs : Srt L) {fr : Int} {i : Nat} {x : Nat × Int} (h : L[i]? = some x) (hk : ¬ (x.1 : Int) < fr) : midL L fr (i + 1) = dropL (midL L fr i) (x.1 : Int) ∧ (valAt (midL L fr i) (x.1 : Int)).isSome = true := by
  have hsp : L = L.take i ++ x :: L.drop (i + 1) := by rw [← drop_cons h, List.take_append_drop]
  have hp : Srt (L.take i ++ x :: L.drop (i + 1)) := hsp ▸ hs
  obtain ⟨_, p2, p3⟩ := List.pairwise_append.1 hp
  have p4 := (List.pairwise_cons.1 p2).1
  constructor
  · unfold midL
    rw [take_succ' h, drop_cons h]
    unfold dropL cutL
    rw [List.filter_append, List.filter_append]
    have e1 : ([x].filter fun y => decide ((y.1 : Int) < fr)) = [] := by simp [hk]
    have e2 : ((x.1 : Int) != (x.1 : Int)) = false := by rw [bne, beq_self_eq_true]; rfl
    rw [e1, List.filter_cons (x := x) (xs := L.drop (i + 1)), e2, List.append_nil]
    simp only [Bool.false_eq_true, if_false]
    congr 1
    · symm
      refine List.filter_eq_self.2 fun y hy => ?_
      have := p3 y (List.mem_filter.1 hy).1 x (by simp)
      simp; omega
    · symm
      refine List.filter_eq_self.2 fun y hy => ?_
      have := p4 y hy
      simp; omega
  · unfold valAt
    rw [Option.isSome_map, List.find?_isSome]
    refine ⟨x, ?_, by simp⟩
    unfold midL
    rw [drop_cons h]
    simp
theorem midL_len {L : List (Nat × Int)} (hs : Srt L) {fr : Int} {i : Nat} {x : Nat × Int} (h : L[i]? = some x) (hk : ¬ (x.1 : Int) < fr) : (midL L fr (i + 1)).length + 1 = (midL L fr i).length := by
  unfold midL
  rw [take_succ' h, drop_cons h]
  unfold cutL
  rw [List.filter_append]
  have e1 : ([x].filter fun y => decide ((y.1 : Int) < fr)) = [] := by simp [hk]
  rw [e1, List.append_nil, List.length_append, List.length_append, List.length_cons]
  omega
theorem midL_le (L : List (Nat × Int)) (fr : Int) (i : Nat) : (midL L fr i).length ≤ L.length := by
  unfold midL cutL
  rw [List.length_append, List.length_drop]
  have := List.length_filter_le (fun x : Nat × Int => decide ((x.1 : Int) < fr)) (L.take i)
  rw [List.length_take] at this
  omega
theorem put_drop {L : List (Nat × Int)} (hs : Srt L) {k : Nat} (v : Int) (hn : valAt L (k : Int) = none) : dropL (insL k v L) (k : Int) = L ∧ (valAt (insL k v L) (k : Int)).isSome = true := by
  have hno : ∀ x ∈ L, x.1 ≠ k := fun x hx e => by
    unfold valAt at hn
    rw [Option.map_eq_none_iff] at hn
    have := List.find?_eq_none.1 hn x hx
    simp at this
    omega
  have h1 : dropL (insL k v L) (k : Int) = (insL k v L).filter fun x => x.1 != k := by
    unfold dropL
    congr 1
    funext x
    rw [Bool.eq_iff_iff, bne_iff_ne, bne_iff_ne]
    omega
  constructor
  · rw [h1]
    refine Srt.uniq ((srt_insL hs).sublist List.filter_sublist) hs fun x => ?_
    rw [List.mem_filter, mem_insL hs]
    constructor
    · rintro ⟨rfl | h, h2⟩
      · simp at h2
      · exact h.2
    · intro hx
      exact ⟨.inr ⟨hno x hx, hx⟩, by simp; exact hno x hx⟩
  · unfold valAt
    rw [Option.isSome_map, List.find?_isSome]
    exact ⟨(k, v), (mem_insL hs _).2 (.inl rfl), by simp⟩
theorem cutL_idem (L : List (Nat × Int)) (fr : Int) : cutL (cutL L fr) fr = cutL L fr := by
  unfold cutL
  exact List.filter_eq_self.2 fun x hx => (List.mem_filter.1 hx).2
theorem OT2.two {w0 w : World} {p p' : Nat} {l l' : List (Nat × Int)} (h : OT2 w0 w p l p' l') : OT w0 w p' l' := h.swap.one
theorem cut_law (ks ms : List Int) (hks : ks.length ≤ 17592186044416) (hms : ms.length ≤ 17592186044416) (A M : Option Addr) (c cm : Nat) (fr : Int) (w : World) (hA : IntsAt w A ks) (hM : IntsAt w M ms) :
    Calls Try.prog 7 #[.slice A ks.length c, .int .i64 fr, .slice M ms.length cm] w (HeadsEnd w) := by
  have HA := Lib.hid hA
  have HM := Lib.hid hM
  clear hA hM
  go_enter Try.func7, Try.ntmps7
  go_wp2_with fail
  refine (heads_calls w).mono ?_
  rintro e w1 ⟨rfl, h1⟩
  have H1 := Lib.hid h1
  clear h1
  go_wp2_with fail
  refine (filled_calls ks hks A c w w1 HA.out H1.out).mono ?_
  rintro e w2 ⟨p, rfl, h2⟩
  have H2 := Lib.hid h2
  clear h2
  go_wp2_with fail
  refine (filled_calls ks hks A c w2 w2 (HA.out.below rfl H2.out.B) (Below.refl _ _)).mono ?_
  rintro e w3 ⟨p', rfl, h3⟩
  have h3' := OT2.join H2.out h3
  revert h3'
  generalize fillN ks ks.length = L
  intro h3'
  have H3 := Lib.hid h3'
  clear h3 h3' H2
  go_wp2_with fail
  refine (H3.out.pairs (-1)).mono ?_
  rintro e w4 ⟨v4, rfl, ⟨hp4, hq4⟩, h4, _⟩
  rw [firstN_all] at hp4
  obtain ⟨A4, c4, rfl⟩ := hp4.form
  have H4 := Lib.hid h4
  have P4 := Lib.hid hp4
  have Q4 := Lib.hid hq4
  have hlen := h4.one.lenb
  have HS := Lib.hid h4.one.srt
  clear h4 hp4 hq4 H3
  go_wp2_with fail
  go_loopw [12, 13] (fun s12 s13 wx => ∃ i : Nat, s13 = .int .i64 (i : Int) ∧ i ≤ L.length ∧ s12 = .int .i64 ((L.length : Int) - ((midL L fr i).length : Int)) ∧ OT2 w wx p L p' (midL L fr i) ∧ PRow wx (.slice A4 L.length c4) L ∧ PairBlock wx (.slice A4 L.length c4)) (fun _ s13 _ => L.length - (intOf s13).toNat)
  case atStart => exact ⟨0, rfl, by omega, by rw [midL_zero, Int.sub_self], by rw [midL_zero]; exact H4.out, P4.out, Q4.out⟩
  case round =>
    clear H4 P4 Q4
    obtain ⟨i, rfl, hi, rfl, hT, hP, hQ⟩ := hrel
    have HT := Lib.hid hT
    have HP := Lib.hid hP
    have HQ := Lib.hid hQ
    have hml := midL_le L fr i
    by_cases hlt : i < L.length
    · obtain ⟨x, hx⟩ : ∃ x, L[i]? = some x := ⟨_, List.getElem?_eq_getElem hlt⟩
      obtain ⟨g, rfl, hc⟩ : ∃ g, A4 = some ⟨g, 0, none⟩ ∧ ∀ i x, L[i]? = some x → wr.cell? ⟨g, i * 2, none⟩ = some (.int .i64 (x.1 : Int)) ∧ wr.cell? ⟨g, i * 2 + 1, none⟩ = some (.int .i64 x.2) := by
        rcases hP with ⟨cap, _, h⟩ | ⟨g, cap, e, h⟩
        · rw [h] at hlt; simp at hlt
        · injection e with e1 e2 e3; exact ⟨g, e1, h⟩
      have a1 := (hc i x hx).1
      have hil : (i : Int) < (L.length : Int) := by omega
      by_cases hk : (x.1 : Int) < fr
      · have HK := Lib.hid (midL_keep hx hk)
        have hk2 : ¬ fr ≤ (x.1 : Int) := by omega
        clear hT hP hQ hc hx hk
        go_wp2_with fail
        go_roundw
        case rel => exact ⟨i + 1, by go_num, by omega, by rw [HK.out], by rw [HK.out]; exact HT.out, HP.out, HQ.out⟩
        case measure => simp [intOf]; omega
      · obtain ⟨hd, hv⟩ := midL_drop HS.out hx hk
        have hlen2 := midL_len HS.out hx hk
        have DC := HT.out.two
        have DC2 := hT.swap.drop (x.1 : Int)
        rw [hv, ← hd] at DC2
        have DC2 := Lib.hid DC2
        have hk2 : fr ≤ (x.1 : Int) := by omega
        have hO : (L.length : Int) - ((midL L fr (i + 1)).length : Int) = (L.length : Int) - ((midL L fr i).length : Int) + 1 := by omega
        have HO := Lib.hid hO
        clear hT hP hQ hc hx hk hd hv DC hlen2 hO
        revert hml HO
        generalize ((midL L fr i).length : Nat) = ML
        intro hml HO
        go_wp2_with (go_at_call 22; refine DC2.out.mono ?_; rintro e w5 ⟨rfl, h5, hk5⟩; have H5 := Lib.hid h5; have HK5 := Lib.hid hk5; clear h5 hk5)
        go_roundw
        case rel => exact ⟨i + 1, by go_num, by omega, by rw [HO.out], H5.out.swap, HP.out.kt HQ.out HK5.out, HQ.out.kt HK5.out⟩
        case measure => simp [intOf]; omega
    · obtain rfl : i = L.length := by omega
      rw [midL_all] at hT
      rw [midL_all]
      have hidem := cutL_idem L fr
      have CC0 := Lib.hid (hT.cut fr)
      revert hT hidem CC0
      generalize hCe : cutL L fr = C
      generalize hGe : (L.length : Int) - (C.length : Int) = G
      intro hT hidem CC0
      have hsC : Srt C := hT.two.srt
      obtain ⟨h, hh, hh5⟩ := hT.two.ht
      have hcl := hT.two.lenb
      have HT := Lib.hid hT
      have HH := Lib.hid hh
      have HID := Lib.hid hidem
      have HSC := Lib.hid hsC
      have hg0 : (G != G) = false := by rw [bne, beq_self_eq_true]; rfl
      have hg1 : (((C.length : Nat) : Int) != ((C.length : Nat) : Int)) = false := by rw [bne, beq_self_eq_true]; rfl
      have hg2 : ((h : Int) != (h : Int)) = false := by rw [bne, beq_self_eq_true]; rfl
      have hg3 : (C.length != C.length) = false := by rw [bne, beq_self_eq_true]; rfl
      have hg4 : (h != h) = false := by rw [bne, beq_self_eq_true]; rfl
      clear hT hP hQ hh HP HQ hml hidem hsC hGe hCe HS
      go_wp2_with fail
      refine CC0.out.mono ?_
      rintro e w5 ⟨rfl, h5, hk5⟩
      have H5 := Lib.hid h5
      clear h5 hk5 CC0 HT
      go_wp2_with fail
      refine (H5.out.one.len).mono ?_
      rintro e w' ⟨rfl, rfl⟩
      go_wp2_with fail
      refine (H5.out.two.len).mono ?_
      rintro e w' ⟨rfl, rfl⟩
      go_wp2_with fail
      refine (H5.out.one.height h HH.out).mono ?_
      rintro e w' ⟨rfl, rfl⟩
      go_wp2_with fail
      refine (H5.out.two.height h HH.out).mono ?_
      rintro e w' ⟨rfl, rfl⟩
      go_wp2_with fail
      refine (H5.out.pairs (-1)).mono ?_
      rintro e w6 ⟨v6, rfl, ⟨hp6, _⟩, h6, _⟩
      rw [firstN_all] at hp6
      have H6 := Lib.hid h6
      have P6 := Lib.hid hp6
      clear h6 hp6
      go_wp2_with fail
      refine (H6.out.swap.pairs (-1)).mono ?_
      rintro e w7 ⟨v7, rfl, ⟨hp7, _⟩, h7, hb7⟩
      rw [firstN_all] at hp7
      have H7 := Lib.hid h7.swap
      have P7 := Lib.hid (P6.out.below hb7)
      have Q7 := Lib.hid hp7
      clear h7 hp7 hb7 H6 P6
      go_wp2_with fail
      refine (same_yes C hcl _ _ _ P7.out Q7.out).mono ?_
      rintro e w8 ⟨rfl, m, rfl⟩
      have H8 := Lib.hid (H7.out.below (below_drewN' w7 m))
      revert H8
      generalize w7.drewN m = w8
      intro H8
      clear H7 P7 Q7
      go_wp2_with fail
      go_loopw [14] (fun s14 wx => ∃ i : Nat, s14 = .int .i64 (i : Int) ∧ i ≤ ms.length ∧ OT2 w wx p C p' C) (fun s14 _ => ms.length - (intOf s14).toNat)
      case atStart => exact ⟨0, rfl, by omega, H8.out⟩
      case round =>
        clear H8 H5
        obtain ⟨i, rfl, hi, hT⟩ := hrel
        have HT := Lib.hid hT
        by_cases hlt : i < ms.length
        · obtain ⟨k, hk⟩ : ∃ k, ms[i]? = some k := ⟨_, List.getElem?_eq_getElem hlt⟩
          obtain ⟨g, o, rfl, hc⟩ := HM.out (by omega)
          have c0 := hc i k hk
          have c1 : wr.cell? ⟨g, o + i, none⟩ = some (.int .i64 k) := (hT.one.B.cell (p := ⟨g, o + i, none⟩) (World.block_lt_of_cell? w _ c0)).trans c0
          have hil : (i : Int) < (ms.length : Int) := by omega
          have GC := hT.swap.get k
          cases hv : valAt C k with
          | some y =>
            rw [hv] at GC
            have GC := Lib.hid GC
            clear hT hk c0 hc hv
            go_wp2_with fail
            refine GC.out.mono ?_
            rintro e w9 ⟨rfl, h9, _⟩
            have H9 := Lib.hid h9.swap
            clear h9
            go_wp2_with fail
            go_roundw
            case rel => exact ⟨i + 1, by go_num, by omega, H9.out⟩
            case measure => simp [intOf]; omega
          | none =>
            rw [hv] at GC
            have GC := Lib.hid GC
            by_cases hm : mayB k = true
            · have hm' := of_decide_eq_true hm
              obtain ⟨kn, rfl⟩ : ∃ kn : Nat, k = kn := ⟨k.toNat, by omega⟩
              obtain ⟨e1, e2⟩ := put_drop HSC.out 7 hv
              have HP := Lib.hid (show putR (kn : Int) = 0 by unfold putR; rw [if_pos hm])
              have HL := Lib.hid (show putL C (kn : Int) 7 = insL kn 7 C by unfold putL; rw [if_pos hm, Int.toNat_natCast])
              have C0 := Lib.hid c0
              have HE1 := Lib.hid e1
              have HE2 := Lib.hid e2
              clear hT hk c0 hc hv hm hm' e1 e2
              go_wp2_with fail
              refine GC.out.mono ?_
              rintro e w9 ⟨rfl, h9, hb9⟩
              have c2 := (hb9.cell (World.block_lt_of_cell? wr _ c1)).trans c1
              have H9 := Lib.hid h9.swap
              clear h9 hb9 c1
              go_wp2_with fail
              refine (H9.out.put (kn : Int) 7).mono ?_
              rintro e w10 ⟨rfl, h10, hk10⟩
              rw [HL.out] at h10
              rw [HP.out]
              have c3 : w10.cell? ⟨g, o + i, none⟩ = some (.int .i64 (kn : Int)) := (h10.one.B.cell (p := ⟨g, o + i, none⟩) (World.block_lt_of_cell? w _ C0.out)).trans C0.out
              have H10 := Lib.hid h10
              clear h10 hk10 c2
              go_wp2_with (go_at_call 23; refine (no_calls _ _).mono ?_; rintro e w' ⟨rfl, rfl⟩)
              refine (H10.out.drop (kn : Int)).mono ?_
              rintro e w11 ⟨rfl, h11, _⟩
              rw [HE1.out] at h11
              rw [HE2.out]
              have H11 := Lib.hid h11
              clear h11
              go_wp2_with fail
              go_roundw
              case rel => exact ⟨i + 1, by go_num, by omega, H11.out⟩
              case measure => simp [intOf]; omega
            · have HP := Lib.hid (show putR k = 90 by unfold putR; rw [if_neg hm])
              have HL := Lib.hid (show putL C k 7 = C by unfold putL; rw [if_neg hm])
              clear hT hk c0 hc hv hm
              go_wp2_with fail
              refine GC.out.mono ?_
              rintro e w9 ⟨rfl, h9, hb9⟩
              have c2 := (hb9.cell (World.block_lt_of_cell? wr _ c1)).trans c1
              have H9 := Lib.hid h9.swap
              clear h9 hb9 c1
              go_wp2_with fail
              refine (H9.out.put k 7).mono ?_
              rintro e w10 ⟨rfl, h10, _⟩
              rw [HL.out] at h10
              rw [HP.out]
              have H10 := Lib.hid h10
              clear h10 c2
              go_wp2_with (go_at_call 23; refine (no_calls _ _).mono ?_; rintro e w' ⟨rfl, rfl⟩)
              go_roundw
              case rel => exact ⟨i + 1, by go_num, by omega, H10.out⟩
              case measure => simp [intOf]; omega
        · obtain rfl : i = ms.length := by omega
          clear hT
          go_wp2_with fail
          refine (HT.out.one.len).mono ?_
          rintro e w' ⟨rfl, rfl⟩
          go_wp2_with fail
          refine (HT.out.two.len).mono ?_
          rintro e w' ⟨rfl, rfl⟩
          go_wp2_with fail
          refine (HT.out.one.height h HH.out).mono ?_
          rintro e w' ⟨rfl, rfl⟩
          go_wp2_with fail
          refine (HT.out.two.height h HH.out).mono ?_
          rintro e w' ⟨rfl, rfl⟩
          go_wp2_with fail
          refine (HT.out.pairs (-1)).mono ?_
          rintro e w6 ⟨v6, rfl, ⟨hp6, _⟩, h6, _⟩
          rw [firstN_all] at hp6
          have H6 := Lib.hid h6
          have P6 := Lib.hid hp6
          clear h6 hp6
          go_wp2_with fail
          refine (H6.out.swap.pairs (-1)).mono ?_
          rintro e w7 ⟨v7, rfl, ⟨hp7, _⟩, h7, hb7⟩
          rw [firstN_all] at hp7
          have H7 := Lib.hid h7.swap
          have P7 := Lib.hid (P6.out.below hb7)
          have Q7 := Lib.hid hp7
          clear h7 hp7 hb7 H6 P6
          go_wp2_with fail
          refine (same_yes C hcl _ _ _ P7.out Q7.out).mono ?_
          rintro e w8 ⟨rfl, m, rfl⟩
          have H8 := Lib.hid (H7.out.below (below_drewN' w7 m))
          revert H8
          generalize w7.drewN m = w8
          intro H8
          clear H7 P7 Q7
          go_wp2_with fail
          have CC := H8.out.cut fr
          rw [HID.out, Int.sub_self] at CC
          have CC := Lib.hid CC
          refine CC.out.mono ?_
          rintro e w9 ⟨rfl, h9, _⟩
          have H9 := Lib.hid h9
          clear h9
          go_wp2_with fail
          go_ret
          exact ⟨rfl, H9.out.one.B⟩
end Go.Proofs.Ythpjcbaijbppiaa
