/- TnodeLast, walked. -/
import Derived.Test.YthpjcbaijbppiaaLastPure
namespace Go.Proofs.Ythpjcbaijbppiaa
open Go.RowKit Go.Proofs
set_option linter.unusedVariables false
set_option linter.unusedSimpArgs false
set_option maxRecDepth 100000
theorem last_walk (ks : List Int) (hks : ks.length ≤ 17592186044416) (A : Option Addr) (c : Nat) (ask : Int) (w : World) (hA : IntsAt w A ks) :
    Calls Try.prog 4 #[.slice A ks.length c, .int .i64 ask] w (HeadsEnd w) := by
  have HA := Lib.hid hA
  clear hA
  go_enter Try.func4, Try.ntmps4
  go_wp2_with fail
  refine (heads_calls w).mono ?_
  rintro e w1 ⟨rfl, h1⟩
  have H1 := Lib.hid h1
  clear h1
  go_wp2_with fail
  refine (filled_calls ks hks A c w w1 HA.out H1.out).mono ?_
  rintro e w2 ⟨p, rfl, h2⟩
  have H2 := Lib.hid h2
  clear h2
  go_wp2_with fail
  go_loopw [7, 8, 9] (fun s7 s8 s9 wx => ∃ i : Nat, s9 = .int .i64 (i : Int) ∧ i ≤ ks.length ∧ s7 = .int .i64 (uniqN ks i : Nat) ∧ s8 = .int .i64 (okN ks i : Nat) ∧ OT w wx p (fillN ks ks.length)) (fun _ _ s9 _ => ks.length - (intOf s9).toNat)
  case atStart => exact ⟨0, rfl, by omega, rfl, rfl, H2.out⟩
  case round =>
    obtain ⟨i, rfl, hi, rfl, rfl, hT⟩ := hrel
    have HT := Lib.hid hT
    have huq := uniqN_le ks i
    have hok := okN_le ks i
    by_cases hlt : i < ks.length
    · obtain ⟨x, hx⟩ : ∃ x, ks[i]? = some x := ⟨_, List.getElem?_eq_getElem hlt⟩
      obtain ⟨g, o, rfl, hc⟩ := HA.out (by omega)
      have HC := Lib.hid (fun W (hB : Below w.heap.size w W) j y (hj : ks[j]? = some y) => (hB.cell (p := ⟨g, o + j, none⟩) (World.block_lt_of_cell? w _ (hc j y hj))).trans (hc j y hj))
      have c1 := HC.out wr hT.B i x hx
      have hil : (i : Int) < (ks.length : Int) := by omega
      have HX := Lib.hid hx
      clear hT hc hx
      obtain ⟨wo, rfl⟩ : ∃ wo : World, wo = wr := ⟨_, rfl⟩
      go_wp2_with fail
      go_loopw [10, 11, 12] (fun s10 s11 s12 wy => ∃ k m : Nat, s12 = .int .i64 (k : Int) ∧ k ≤ ks.length ∧ s10 = .int .i64 (lastAt ks i k : Nat) ∧ s11 = .bool (firstAt ks i k) ∧ wy = wo.drewN m) (fun _ _ s12 _ => ks.length - (intOf s12).toNat)
      case atStart => exact ⟨0, 0, rfl, by omega, rfl, rfl, rfl⟩
      case round =>
        obtain ⟨k, m, rfl, hk, rfl, rfl, rfl⟩ := hrel
        by_cases hkl : k < ks.length
        · obtain ⟨y, hy⟩ : ∃ y, ks[k]? = some y := ⟨_, List.getElem?_eq_getElem hkl⟩
          have c2 := HC.out wo HT.out.B k y hy
          have hkil : (k : Int) < (ks.length : Int) := by omega
          have eL : lastAt ks i (k + 1) = if y = x ∧ lastAt ks i k < k then k else lastAt ks i k := by
            show (if ks[k]? = ks[i]? ∧ _ then _ else _) = _
            rw [hy, HX.out]
            simp only [Option.some.injEq]
          have eF : firstAt ks i (k + 1) = if y = x ∧ k < i then false else firstAt ks i k := by
            show (if ks[k]? = ks[i]? ∧ _ then _ else _) = _
            rw [hy, HX.out]
            simp only [Option.some.injEq]
          clear hy
          have hla := lastAt_le ks i k
          by_cases hyx : y = x
          · subst hyx
            have b1 : (y == y) = true := beq_self_eq_true y
            by_cases hl : lastAt ks i k < k
            · rw [if_pos ⟨rfl, hl⟩] at eL
              have hki : ¬ k < i := by
                intro h
                have := (lastAt_spec HX.out k).1 (by omega)
                omega
              rw [if_neg (fun h => hki h.2)] at eF
              have b2 : decide (lastAt ks i k < k) = true := decide_eq_true hl
              have b3 : decide (k < i) = false := decide_eq_false hki
              have EL := Lib.hid eL
              have EF := Lib.hid eF
              clear eL eF
              revert hla hl b2 EL
              generalize lastAt ks i k = la
              intro hla hl b2 EL
              go_wp2_with fail
              go_quiet (fail)
              go_wp2_with fail
              go_quiet (fail)
              go_wp2_with fail
              go_roundw
              case rel => exact ⟨k + 1, _, by go_num, by omega, by rw [EL.out], by rw [EF.out], by first | rfl | exact World.drewN_drewN _ _ _⟩
              case measure => simp [intOf]; omega
            · rw [if_neg (fun h => hl h.2)] at eL
              have b2 : decide (lastAt ks i k < k) = false := decide_eq_false hl
              by_cases hki : k < i
              · rw [if_pos ⟨rfl, hki⟩] at eF
                have b3 : decide (k < i) = true := decide_eq_true hki
                have EL := Lib.hid eL
                have EF := Lib.hid eF
                clear eL eF
                revert hla hl b2 EL
                generalize lastAt ks i k = la
                intro hla hl b2 EL
                go_wp2_with fail
                go_quiet (fail)
                go_wp2_with fail
                go_quiet (fail)
                go_wp2_with fail
                go_roundw
                case rel => exact ⟨k + 1, _, by go_num, by omega, by rw [EL.out], by rw [EF.out], by first | rfl | exact World.drewN_drewN _ _ _⟩
                case measure => simp [intOf]; omega
              · rw [if_neg (fun h => hki h.2)] at eF
                have b3 : decide (k < i) = false := decide_eq_false hki
                have EL := Lib.hid eL
                have EF := Lib.hid eF
                clear eL eF
                revert hla hl b2 EL
                generalize lastAt ks i k = la
                intro hla hl b2 EL
                go_wp2_with fail
                go_quiet (fail)
                go_wp2_with fail
                go_quiet (fail)
                go_wp2_with fail
                go_roundw
                case rel => exact ⟨k + 1, _, by go_num, by omega, by rw [EL.out], by rw [EF.out], by first | rfl | exact World.drewN_drewN _ _ _⟩
                case measure => simp [intOf]; omega
          · rw [if_neg (fun h => hyx h.1)] at eL eF
            have b1 : (y == x) = false := beq_eq_false_iff_ne.2 hyx
            have EL := Lib.hid eL
            have EF := Lib.hid eF
            clear eL eF
            revert hla EL
            generalize lastAt ks i k = la
            intro hla EL
            go_wp2_with fail
            go_quiet (fail)
            go_wp2_with fail
            go_quiet (fail)
            go_wp2_with fail
            go_roundw
            case rel => exact ⟨k + 1, _, by go_num, by omega, by rw [EL.out], by rw [EF.out], by first | rfl | exact World.drewN_drewN _ _ _⟩
            case measure => simp [intOf]; omega
        · obtain rfl : k = ks.length := by omega
          have hv := valAt_fillN ks x _ (Nat.le_refl _)
          rw [(lastAt_spec HX.out ks.length).2 hlt] at hv
          have hU := uniqN_succ HX.out
          have hO := okN_succ HX.out
          have hla := lastAt_le ks i ks.length
          have GC := (HT.out.drewN m).get x
          rw [hv] at GC
          have c1 : (wo.drewN m).cell? ⟨g, o + i, none⟩ = some (.int .i64 x) := c1
          clear hv
          revert GC c1
          generalize wo.drewN m = wy
          intro GC c1
          revert hla GC
          generalize lastAt ks i ks.length = la
          intro hla GC
          have n1 : ((la : Int) != (la : Int)) = false := by rw [bne, beq_self_eq_true]; rfl
          have n2 : (la != la) = false := by rw [bne, beq_self_eq_true]; rfl
          cases hm : mayB x with
          | true =>
            rw [hm] at hO hU GC
            have HM := Lib.hid hm
            have HO := Lib.hid hO
            have GD : Calls Try.prog 18 #[.pointer (some ⟨p, 0, none⟩), .int .i64 x] wy fun e w' => e = .returned (.tuple #[.int .i64 (la : Int), .bool true]) ∧ OT w w' p (fillN ks ks.length) ∧ Below wy.heap.size wy w' := GC
            replace GD := Lib.hid GD
            clear hm hO GC
            revert hU
            generalize firstAt ks i ks.length = fa
            intro hU
            cases fa with
            | true =>
              have hU : uniqN ks (i + 1) = uniqN ks i + 1 := hU
              have HU := Lib.hid hU
              clear hU
              go_wp2_with fail
              refine GD.out.mono ?_
              rintro e w5 ⟨rfl, h5, hb5⟩
              have c5 := (hb5.cell (World.block_lt_of_cell? wy _ c1)).trans c1
              have H5 := Lib.hid h5
              clear h5 hb5 c1
              go_wp2_with (go_at_call 19; refine (may_calls x _).mono ?_; rintro e w' ⟨rfl, rfl⟩; rw [HM.out])
              go_roundw
              case rel => exact ⟨i + 1, by go_num, by omega, by rw [HU.out]; go_num, by rw [HO.out]; go_num, H5.out⟩
              case measure => simp [intOf]; omega
            | false =>
              have hU : uniqN ks (i + 1) = uniqN ks i := hU
              have HU := Lib.hid hU
              clear hU
              go_wp2_with fail
              refine GD.out.mono ?_
              rintro e w5 ⟨rfl, h5, hb5⟩
              have c5 := (hb5.cell (World.block_lt_of_cell? wy _ c1)).trans c1
              have H5 := Lib.hid h5
              clear h5 hb5 c1
              go_wp2_with (go_at_call 19; refine (may_calls x _).mono ?_; rintro e w' ⟨rfl, rfl⟩; rw [HM.out])
              go_roundw
              case rel => exact ⟨i + 1, by go_num, by omega, by rw [HU.out], by rw [HO.out]; go_num, H5.out⟩
              case measure => simp [intOf]; omega
          | false =>
            rw [hm] at hO hU GC
            have HM := Lib.hid hm
            have HO := Lib.hid (show okN ks (i + 1) = okN ks i from hO)
            have GD : Calls Try.prog 18 #[.pointer (some ⟨p, 0, none⟩), .int .i64 x] wy fun e w' => e = .returned (.tuple #[.int .i64 0, .bool false]) ∧ OT w w' p (fillN ks ks.length) ∧ Below wy.heap.size wy w' := GC
            replace GD := Lib.hid GD
            clear hm hO GC
            revert hU
            generalize firstAt ks i ks.length = fa
            intro hU
            cases fa with
            | true =>
              have hU : uniqN ks (i + 1) = uniqN ks i := hU
              have HU := Lib.hid hU
              clear hU
              go_wp2_with fail
              refine GD.out.mono ?_
              rintro e w5 ⟨rfl, h5, hb5⟩
              have c5 := (hb5.cell (World.block_lt_of_cell? wy _ c1)).trans c1
              have H5 := Lib.hid h5
              clear h5 hb5 c1
              go_wp2_with (go_at_call 19; refine (may_calls x _).mono ?_; rintro e w' ⟨rfl, rfl⟩; rw [HM.out])
              go_roundw
              case rel => exact ⟨i + 1, by go_num, by omega, by rw [HU.out], by rw [HO.out], H5.out⟩
              case measure => simp [intOf]; omega
            | false =>
              have hU : uniqN ks (i + 1) = uniqN ks i := hU
              have HU := Lib.hid hU
              clear hU
              go_wp2_with fail
              refine GD.out.mono ?_
              rintro e w5 ⟨rfl, h5, hb5⟩
              have c5 := (hb5.cell (World.block_lt_of_cell? wy _ c1)).trans c1
              have H5 := Lib.hid h5
              clear h5 hb5 c1
              go_wp2_with (go_at_call 19; refine (may_calls x _).mono ?_; rintro e w' ⟨rfl, rfl⟩; rw [HM.out])
              go_roundw
              case rel => exact ⟨i + 1, by go_num, by omega, by rw [HU.out], by rw [HO.out], H5.out⟩
              case measure => simp [intOf]; omega
    · obtain rfl : i = ks.length := by omega
      clear hT
      go_wp2_with fail
      go_loopw [15, 16] (fun s15 s16 wx => ∃ i : Nat, s16 = .int .i64 (i : Int) ∧ i ≤ ks.length ∧ s15 = .bool (hereAt ks ask i) ∧ OT w wx p (fillN ks ks.length)) (fun _ s16 _ => ks.length - (intOf s16).toNat)
      case atStart => exact ⟨0, rfl, by omega, rfl, HT.out⟩
      case round =>
        obtain ⟨j, rfl, hj, rfl, hT⟩ := hrel
        have HT := Lib.hid hT
        by_cases hjl : j < ks.length
        · obtain ⟨y, hy⟩ : ∃ y, ks[j]? = some y := ⟨_, List.getElem?_eq_getElem hjl⟩
          obtain ⟨g, o, rfl, hc⟩ := HA.out (by omega)
          have c0 := hc j y hy
          have c1 : wr.cell? ⟨g, o + j, none⟩ = some (.int .i64 y) := (hT.B.cell (p := ⟨g, o + j, none⟩) (World.block_lt_of_cell? w _ c0)).trans c0
          have hjil : (j : Int) < (ks.length : Int) := by omega
          have eH : hereAt ks ask (j + 1) = if y = ask ∧ mayB ask = true then true else hereAt ks ask j := by
            show (if ks[j]? = some ask ∧ _ then _ else _) = _
            rw [hy]
            simp only [Option.some.injEq]
          clear hT hy hc c0
          by_cases hya : y = ask
          · subst hya
            have b1 : (y == y) = true := beq_self_eq_true y
            cases hm : mayB y with
            | true =>
              rw [if_pos ⟨rfl, hm⟩] at eH
              have HE := Lib.hid eH
              have HM := Lib.hid hm
              clear eH hm
              go_wp2_with (go_at_call 19; refine (may_calls y _).mono ?_; rintro e w' ⟨rfl, rfl⟩; rw [HM.out])
              go_roundw
              case rel => exact ⟨j + 1, by go_num, by omega, by rw [HE.out], HT.out⟩
              case measure => simp [intOf]; omega
            | false =>
              rw [if_neg (fun h => by rw [hm] at h; cases h.2)] at eH
              have HE := Lib.hid eH
              have HM := Lib.hid hm
              clear eH hm
              go_wp2_with (go_at_call 19; refine (may_calls y _).mono ?_; rintro e w' ⟨rfl, rfl⟩; rw [HM.out])
              go_roundw
              case rel => exact ⟨j + 1, by go_num, by omega, by rw [HE.out], HT.out⟩
              case measure => simp [intOf]; omega
          · rw [if_neg (fun h => hya h.1)] at eH
            have b1 : (y == ask) = false := beq_eq_false_iff_ne.2 hya
            have HE := Lib.hid eH
            clear eH
            go_wp2_with (go_at_call 19; refine (may_calls y _).mono ?_; rintro e w' ⟨rfl, rfl⟩; rw [HM.out])
            go_roundw
            case rel => exact ⟨j + 1, by go_num, by omega, by rw [HE.out], HT.out⟩
            case measure => simp [intOf]; omega
        · obtain rfl : j = ks.length := by omega
          have GC := hT.get ask
          rw [here_val] at GC
          have hlen := fillN_length ks _ (Nat.le_refl _)
          have HLEN := Lib.hid hlen
          replace GC := Lib.hid GC
          clear hT hlen
          have b1 : ∀ b : Bool, (b == b) = true := fun b => by cases b <;> rfl
          go_wp2_with fail
          refine GC.out.mono ?_
          rintro e w5 ⟨rfl, h5, _⟩
          have LC := h5.len
          rw [HLEN.out] at LC
          have LC := Lib.hid LC
          have H5 := Lib.hid h5
          clear h5
          go_wp2_with fail
          refine LC.out.mono ?_
          rintro e w6 ⟨rfl, rfl⟩
          go_wp2_with fail
          go_ret
          exact ⟨by first | rfl | simp, H5.out.B⟩
end Go.Proofs.Ythpjcbaijbppiaa
