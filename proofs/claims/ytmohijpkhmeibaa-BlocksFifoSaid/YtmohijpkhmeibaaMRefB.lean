/- The document's book: Pick. -/
import Derived.Test.YtmohijpkhmeibaaMRef
import Derived.Test.YtmohijpkhmeibaaMLog
namespace Go.Proofs.Ytmohijpkhmeibaa
open Go.RowKit Go.Proofs
set_option linter.unusedVariables false
set_option linter.unusedSimpArgs false
set_option maxRecDepth 100000
theorem pick_idx {b : Bks} {j : Nat} (h1 : 1 ≤ j) (hc1 : -1 ≤ b.cursor) (hpos : 0 < b.all.length) : (b.cursor + (j : Int)) % (b.all.length : Int) = (pickAt b (j - 1) : Nat) := by
  unfold pickAt
  have := Int.emod_nonneg (b.cursor + 1 + ((j - 1 : Nat) : Int)) (show (b.all.length : Int) ≠ 0 by omega)
  rw [show b.cursor + (j : Int) = b.cursor + 1 + ((j - 1 : Nat) : Int) by omega]
  omega
theorem pick_idx0 {b : Bks} {j : Nat} (h1 : 1 ≤ j) (hj : j ≤ b.all.length) (hc : b.cursor = -1) : (j : Int) - 1 = (pickAt b (j - 1) : Nat) := by
  unfold pickAt
  rw [show b.cursor + 1 + ((j - 1 : Nat) : Int) = (j : Int) - 1 by omega, Int.emod_eq_of_lt (by omega) (by omega)]
  omega
set_option maxHeartbeats 1000000 in
theorem rpick_yes (p q t cap : Nat) (b : Bks) (k : Nat) (w : World) (hI : IsR w p q t cap b) (hc1 : -1 ≤ b.cursor) (hc2 : b.cursor < b.all.length) (hk : k < b.all.length) (hno : PickNo b k)
    (x : Blk) (hx : b.all[pickAt b k]? = some x) (hs : x.state = 0) :
    Calls Try.prog 55 #[.pointer (some ⟨p, 0, none⟩)] w fun e w' => e = .returned (.tuple #[.int .i64 (pickAt b k), .bool true]) ∧ IsR w' p q t cap { b with cursor := pickAt b k } ∧ Off (· = p) w w' := by
  have c1 := hI.c1
  have c3 := hI.c3
  have hf := hI.cf 3
  have hpos := hI.pos
  have hle := hI.le
  have HI := Lib.hid hI
  have HN := Lib.hid hno
  have HX := Lib.hid hx
  have HS := Lib.hid hs
  have HP := Lib.hid (fun (j : Nat) (h1 : 1 ≤ j) => pick_idx (b := b) h1 hc1 hpos)
  have HP0 := Lib.hid (fun (j : Nat) (h1 : 1 ≤ j) (hj : j ≤ b.all.length) (h : b.cursor = -1) => pick_idx0 h1 hj h)
  have HL := Lib.hid (fun k => pickAt_lt (b := b) hpos k)
  clear hI hno hx hs
  go_enter Try.func55, Try.ntmps55
  go_wp2
  go_loop [5, 6] (fun s5 _ => ∃ j : Nat, s5 = .int .i64 (j : Int) ∧ 1 ≤ j ∧ j ≤ k + 1) (fun s5 _ => k + 2 - (intOf s5).toNat)
  case atStart => exact ⟨1, rfl, by omega, by omega⟩
  case round =>
    obtain ⟨j, rfl, hj1, hj⟩ := hrel
    have hjl : (j : Int) ≤ (b.all.length : Int) := by omega
    have b1 := Int.emod_lt_of_pos (b.cursor + j) (show (0 : Int) < b.all.length by omega)
    have b0 := Int.emod_nonneg (b.cursor + j) (show (b.all.length : Int) ≠ 0 by omega)
    have hy : ∃ y, b.all[pickAt b (j - 1)]? = some y ∧ (y.state == 0) = decide (j = k + 1) := by
      by_cases e : j = k + 1
      · refine ⟨x, ?_, ?_⟩
        · rw [e]; exact HX.out
        · rw [HS.out, decide_eq_true e]; rfl
      · obtain ⟨y, hy, hys⟩ := HN.out (j - 1) (by omega)
        exact ⟨y, hy, by rw [decide_eq_false e]; exact beq_eq_false_iff_ne.2 hys⟩
    obtain ⟨y, hy, hys⟩ := hy
    have ey := HI.out.e0 hy
    have hpl : (pickAt b (j - 1) : Int) < (b.all.length : Int) := by have := HL.out (j - 1); omega
    have hQ := HP.out j hj1
    by_cases hcm : b.cursor = -1
    · have hQ0 := HP0.out j hj1 (by omega) hcm
      have ncm : (b.cursor == -1) = true := beq_iff_eq.2 hcm
      have HQ := Lib.hid hQ
      have HQ0 := Lib.hid hQ0
      have HY := Lib.hid hy
      rw [hcm] at c3
      clear hcm ncm hQ hQ0 hy b0 b1
      have b1 := Int.emod_lt_of_pos (-1 + (j : Int)) (show (0 : Int) < b.all.length by omega)
      have b0 := Int.emod_nonneg (-1 + (j : Int)) (show (b.all.length : Int) ≠ 0 by omega)
      have e0 : w.cell? ⟨q, (j - 1) * 4, none⟩ = some (.int .i64 y.state) := by rw [show j - 1 = pickAt b (j - 1) by have := HQ0.out; omega]; exact ey
      clear ey
      by_cases e : j = k + 1
      · have HE := Lib.hid e
        rw [decide_eq_true e] at hys
        clear e
        go_wp2
        refine bodyPost_ret (v := .tuple #[.int .i64 ((j : Int) - 1), .bool true]) (by simp [results, Try.results55, go_sem]) rfl ?_
        rw [HQ0.out, show j - 1 = k by have := HE.out; omega]
        exact ⟨rfl, HI.out.setHead rfl rfl, (Off.refl (· = p) w).setCell (p := ⟨p, 3, none⟩) (.inl rfl) _⟩
      · rw [decide_eq_false e] at hys
        go_wp2
        go_roundw
        case rel => exact ⟨j + 1, by go_num, by omega, by omega⟩
        case measure => simp [intOf]; omega
    · have ncm : (b.cursor == -1) = false := beq_eq_false_iff_ne.2 hcm
      have HQ := Lib.hid hQ
      have HY := Lib.hid hy
      have e0 : w.cell? ⟨q, ((b.cursor + (j : Int)) % (b.all.length : Int)).toNat * 4, none⟩ = some (.int .i64 y.state) := by rw [HQ.out, Int.toNat_natCast]; exact ey
      clear hcm hQ hy ey
      by_cases e : j = k + 1
      · have HE := Lib.hid e
        rw [decide_eq_true e] at hys
        clear e
        go_wp2
        refine bodyPost_ret (v := .tuple #[.int .i64 ((b.cursor + (j : Int)) % (b.all.length : Int)), .bool true]) (by simp [results, Try.results55, go_sem]) rfl ?_
        rw [HQ.out, show j - 1 = k by have := HE.out; omega]
        exact ⟨rfl, HI.out.setHead rfl rfl, (Off.refl (· = p) w).setCell (p := ⟨p, 3, none⟩) (.inl rfl) _⟩
      · rw [decide_eq_false e] at hys
        go_wp2
        go_roundw
        case rel => exact ⟨j + 1, by go_num, by omega, by omega⟩
        case measure => simp [intOf]; omega
end Go.Proofs.Ytmohijpkhmeibaa
/- The document's book: Pick with nothing free, next. -/
namespace Go.Proofs.Ytmohijpkhmeibaa
open Go.RowKit Go.Proofs
set_option linter.unusedVariables false
set_option linter.unusedSimpArgs false
set_option maxRecDepth 100000
set_option maxHeartbeats 1000000 in
theorem rpick_no (p q t cap : Nat) (b : Bks) (w : World) (hI : IsR w p q t cap b) (hc1 : -1 ≤ b.cursor) (hc2 : b.cursor < b.all.length) (hno : PickNo b b.all.length) :
    Calls Try.prog 55 #[.pointer (some ⟨p, 0, none⟩)] w fun e w' => e = .returned (.tuple #[.int .i64 0, .bool false]) ∧ w = w' := by
  have c1 := hI.c1
  have c3 := hI.c3
  have hpos := hI.pos
  have hle := hI.le
  have HI := Lib.hid hI
  have HN := Lib.hid hno
  have HP := Lib.hid (fun (j : Nat) (h1 : 1 ≤ j) => pick_idx (b := b) h1 hc1 hpos)
  have HP0 := Lib.hid (fun (j : Nat) (h1 : 1 ≤ j) (hj : j ≤ b.all.length) (h : b.cursor = -1) => pick_idx0 h1 hj h)
  have HL := Lib.hid (fun k => pickAt_lt (b := b) hpos k)
  clear hI hno
  go_enter Try.func55, Try.ntmps55
  go_wp2
  go_loop [5, 6] (fun s5 _ => ∃ j : Nat, s5 = .int .i64 (j : Int) ∧ 1 ≤ j ∧ j ≤ b.all.length + 1) (fun s5 _ => b.all.length + 2 - (intOf s5).toNat)
  case atStart => exact ⟨1, rfl, by omega, by omega⟩
  case round =>
    obtain ⟨j, rfl, hj1, hj⟩ := hrel
    by_cases hlt : j ≤ b.all.length
    · have hjl : (j : Int) ≤ (b.all.length : Int) := by omega
      obtain ⟨y, hy, hys'⟩ := HN.out (j - 1) (by omega)
      have hys : (y.state == 0) = false := beq_eq_false_iff_ne.2 hys'
      have ey := HI.out.e0 hy
      have hpl : (pickAt b (j - 1) : Int) < (b.all.length : Int) := by have := HL.out (j - 1); omega
      have HQ := Lib.hid (HP.out j hj1)
      clear hy hys'
      by_cases hcm : b.cursor = -1
      · have HQ0 := Lib.hid (HP0.out j hj1 (by omega) hcm)
        rw [hcm] at c3
        clear hcm
        have b1 := Int.emod_lt_of_pos (-1 + (j : Int)) (show (0 : Int) < b.all.length by omega)
        have b0 := Int.emod_nonneg (-1 + (j : Int)) (show (b.all.length : Int) ≠ 0 by omega)
        have e0 : w.cell? ⟨q, (j - 1) * 4, none⟩ = some (.int .i64 y.state) := by rw [show j - 1 = pickAt b (j - 1) by have := HQ0.out; omega]; exact ey
        clear ey
        go_wp2
        go_roundw
        case rel => exact ⟨j + 1, by go_num, by omega, by omega⟩
        case measure => simp [intOf]; omega
      · have ncm : (b.cursor == -1) = false := beq_eq_false_iff_ne.2 hcm
        have b1 := Int.emod_lt_of_pos (b.cursor + j) (show (0 : Int) < b.all.length by omega)
        have b0 := Int.emod_nonneg (b.cursor + j) (show (b.all.length : Int) ≠ 0 by omega)
        have e0 : w.cell? ⟨q, ((b.cursor + (j : Int)) % (b.all.length : Int)).toNat * 4, none⟩ = some (.int .i64 y.state) := by rw [HQ.out, Int.toNat_natCast]; exact ey
        clear hcm ey
        go_wp2
        go_roundw
        case rel => exact ⟨j + 1, by go_num, by omega, by omega⟩
        case measure => simp [intOf]; omega
    · have hjl : ¬ (j : Int) ≤ (b.all.length : Int) := by omega
      go_wp2
      go_ret2
      exact ⟨rfl, rfl⟩
/-- Is it one of those that next looks at? -/
def nextOk (h : Int) (o : Bool) (x : Blk) : Bool := countedB x && ((o || x.state != 2) && decide (h < x.head))
/-- Of the first j blocks: the one with the least head, or none. -/
def NextPre (b : Bks) (h : Int) (o : Bool) (j : Nat) (r : Int) : Prop :=
  (r = -1 ∧ ∀ i x, i < j → b.all[i]? = some x → nextOk h o x = false) ∨
  (∃ (k : Nat) (x : Blk), r = (k : Int) ∧ k < j ∧ b.all[k]? = some x ∧ nextOk h o x = true ∧ ∀ i y, i < j → b.all[i]? = some y → nextOk h o y = true → x.head ≤ y.head)
theorem NextPre.start (b : Bks) (h : Int) (o : Bool) : NextPre b h o 0 (-1) := .inl ⟨rfl, fun i x hi => absurd hi (Nat.not_lt_zero _)⟩
section
variable {b : Bks} {h : Int} {o : Bool} {j : Nat} {r : Int} {x : Blk}
theorem NextPre.skip (H : NextPre b h o j r) (hx : b.all[j]? = some x) (hn : nextOk h o x = false) : NextPre b h o (j + 1) r := by
  rcases H with ⟨hr, H⟩ | ⟨k, y, hr, hk, hy, hok, H⟩
  · refine .inl ⟨hr, fun i z hi hz => ?_⟩
    by_cases e : i = j
    · subst e; rw [hx] at hz; cases hz; exact hn
    · exact H i z (by omega) hz
  · refine .inr ⟨k, y, hr, by omega, hy, hok, fun i z hi hz hzo => ?_⟩
    by_cases e : i = j
    · subst e; rw [hx] at hz; cases hz; rw [hn] at hzo; cases hzo
    · exact H i z (by omega) hz hzo
theorem NextPre.take (H : NextPre b h o j r) (hx : b.all[j]? = some x) (hn : nextOk h o x = true) (hl : ∀ (k : Nat) (y : Blk), r = (k : Int) → b.all[k]? = some y → x.head < y.head) : NextPre b h o (j + 1) (j : Int) := by
  refine .inr ⟨j, x, rfl, by omega, hx, hn, fun i z hi hz hzo => ?_⟩
  by_cases e : i = j
  · subst e; rw [hx] at hz; cases hz; exact Int.le_refl _
  rcases H with ⟨hr, H⟩ | ⟨k, y, hr, hk, hy, hok, H⟩
  · rw [H i z (by omega) hz] at hzo; cases hzo
  · have := H i z (by omega) hz hzo
    have := hl k y hr hy
    omega
theorem NextPre.keep (H : NextPre b h o j r) (hx : b.all[j]? = some x) (k : Nat) (y : Blk) (hr : r = (k : Int)) (hy : b.all[k]? = some y) (hl : y.head ≤ x.head) : NextPre b h o (j + 1) r := by
  rcases H with ⟨hr', H⟩ | ⟨k', y', hr', hk, hy', hok, H⟩
  · omega
  · have e : k' = k := by omega
    subst e
    rw [hy] at hy'
    cases hy'
    refine .inr ⟨k', y, hr', by omega, hy, hok, fun i z hi hz hzo => ?_⟩
    by_cases e : i = j
    · subst e; rw [hx] at hz; cases hz; exact hl
    · exact H i z (by omega) hz hzo
end
theorem below_drewN_drewN (w : World) (m n : Nat) : (w.drewN m).drewN n = w.drewN (m + n) := by simp [World.drewN, Nat.add_assoc]
set_option maxHeartbeats 8000000 in
theorem rnext_calls (p q t cap : Nat) (b : Bks) (h : Int) (o : Bool) (w : World) (hI : IsR w p q t cap b) :
    Calls Try.prog 72 #[.pointer (some ⟨p, 0, none⟩), .int .u64 h, .bool o] w fun e w' => (∃ r : Int, e = .returned (.int .i64 r) ∧ NextPre b h o b.all.length r) ∧ ∃ n, w' = w.drewN n := by
  have hle := hI.le
  have HI := Lib.hid hI
  have HS := Lib.hid (NextPre.start b h o)
  clear hI
  go_enter Try.func72, Try.ntmps72
  go_wp2
  go_loopw [7, 8] (fun s7 s8 wr => ∃ (j m : Nat) (r : Int), s7 = .int .i64 r ∧ s8 = .int .i64 (j : Int) ∧ j ≤ b.all.length ∧ Hid (NextPre b h o j r) ∧ wr = w.drewN m) (fun _ s8 _ => b.all.length - (intOf s8).toNat)
  case atStart => exact ⟨0, 0, -1, rfl, rfl, by omega, HS, rfl⟩
  case round =>
    obtain ⟨j, m, r, rfl, rfl, hj, HR, hw⟩ := hrel
    have HW := Lib.hid hw
    have HIw := Lib.hid (show IsR wr p q t cap b by rw [hw]; exact HI.out.drewN m)
    have c1 := HIw.out.c1
    clear hw
    by_cases hlt : j < b.all.length
    · obtain ⟨x, hx⟩ : ∃ x, b.all[j]? = some x := ⟨_, List.getElem?_eq_getElem hlt⟩
      have LC := Lib.hid (fun n : Nat => (rlogged_calls p q t cap b j x (wr.drewN n) (HIw.out.drewN n) hx).mono fun e w2 h => And.intro h.1 h.2.symm)
      have e0 := HIw.out.e0 hx
      have e1 := HIw.out.e1 hx
      have hjl : (j : Int) < (b.all.length : Int) := by omega
      have HX := Lib.hid hx
      have hok : nextOk h o x = (countedB x && ((o || x.state != 2) && decide (h < x.head))) := rfl
      have HOK := Lib.hid hok
      clear hx hok
      rcases (Bool.eq_false_or_eq_true (countedB x)).symm with hc | hc
      · have HN := Lib.hid (show nextOk h o x = false by rw [HOK.out, hc]; rfl)
        rw [hc] at LC
        clear hc
        go_wp2
        go_quiet (first | (go_at_call 39; refine Calls.quiet_of_same (LC.out _)))
        go_wp2
        go_roundw
        case rel => exact ⟨j + 1, _, _, rfl, by go_num, by omega, Lib.hid (HR.out.skip HX.out HN.out), by rw [HW.out]; exact below_drewN_drewN _ _ _⟩
        case measure => simp [intOf]; omega
      rw [hc] at LC
      cases o
      · by_cases h2 : x.state = 2
        · have n2 : (x.state != 2) = false := by rw [h2]; rfl
          have HN := Lib.hid (show nextOk h false x = false by rw [HOK.out, hc, n2]; rfl)
          clear h2 hc
          go_wp2
          go_quiet (first | (go_at_call 39; refine Calls.quiet_of_same (LC.out _)))
          go_wp2
          go_roundw
          case rel => exact ⟨j + 1, _, _, rfl, by go_num, by omega, Lib.hid (HR.out.skip HX.out HN.out), by rw [HW.out]; exact below_drewN_drewN _ _ _⟩
          case measure => simp [intOf]; omega
        · have n2 : (x.state != 2) = true := bne_iff_ne.2 h2
          clear h2
          by_cases hg : h < x.head
          · have dg : decide (h < x.head) = true := decide_eq_true hg
            have HY := Lib.hid (show nextOk h _ x = true by rw [HOK.out, hc, n2, dg]; rfl)
            clear hg hc
            by_cases hr : r = -1
            · subst hr
              go_wp2
              go_quiet (first | (go_at_call 39; refine Calls.quiet_of_same (LC.out _)))
              go_wp2
              go_roundw
              case rel => exact ⟨j + 1, _, _, rfl, by go_num, by omega, Lib.hid (HR.out.take HX.out HY.out fun k y e => by omega), by rw [HW.out]; exact below_drewN_drewN _ _ _⟩
              case measure => simp [intOf]; omega
            · obtain ⟨k, y, hk, hy⟩ : ∃ (k : Nat) (y : Blk), r = (k : Int) ∧ b.all[k]? = some y := by
                rcases HR.out with h1 | ⟨k, y, h1, _, h2, _⟩
                · exact absurd h1.1 hr
                · exact ⟨k, y, h1, h2⟩
              clear hr
              subst hk
              have hkl : (k : Int) < (b.all.length : Int) := by have := (List.getElem?_eq_some_iff.1 hy).1; omega
              have dk : decide ((k : Int) < 0) = false := decide_eq_false (by omega)
              have f1 := HIw.out.e1 hy
              have HYY := Lib.hid hy
              clear hy
              by_cases hl : x.head < y.head
              · have dl : decide (x.head < y.head) = true := decide_eq_true hl
                have HL := Lib.hid hl
                clear hl
                go_wp2
                go_quiet (first | (go_at_call 39; refine Calls.quiet_of_same (LC.out _)))
                go_wp2
                go_roundw
                case rel => exact ⟨j + 1, _, _, rfl, by go_num, by omega, Lib.hid (HR.out.take HX.out HY.out fun k2 y2 e h2 => by (have e : k = k2 := by omega); subst e; rw [HYY.out] at h2; cases h2; exact HL.out), by rw [HW.out]; exact below_drewN_drewN _ _ _⟩
                case measure => simp [intOf]; omega
              · have dl : decide (x.head < y.head) = false := decide_eq_false hl
                have HL := Lib.hid (show y.head ≤ x.head by omega)
                clear hl
                go_wp2
                go_quiet (first | (go_at_call 39; refine Calls.quiet_of_same (LC.out _)))
                go_wp2
                go_roundw
                case rel => exact ⟨j + 1, _, _, rfl, by go_num, by omega, Lib.hid (HR.out.keep HX.out k y rfl HYY.out HL.out), by rw [HW.out]; exact below_drewN_drewN _ _ _⟩
                case measure => simp [intOf]; omega
          · have dg : decide (h < x.head) = false := decide_eq_false hg
            have HN := Lib.hid (show nextOk h _ x = false by rw [HOK.out, hc, n2, dg]; rfl)
            clear hg hc
            go_wp2
            go_quiet (first | (go_at_call 39; refine Calls.quiet_of_same (LC.out _)))
            go_wp2
            go_roundw
            case rel => exact ⟨j + 1, _, _, rfl, by go_num, by omega, Lib.hid (HR.out.skip HX.out HN.out), by rw [HW.out]; exact below_drewN_drewN _ _ _⟩
            case measure => simp [intOf]; omega
      · have htt : (true || x.state != 2) = true := rfl
        by_cases hg : h < x.head
        · have dg : decide (h < x.head) = true := decide_eq_true hg
          have HY := Lib.hid (show nextOk h _ x = true by rw [HOK.out, hc, htt, dg]; rfl)
          clear hg hc
          by_cases hr : r = -1
          · subst hr
            go_wp2
            go_quiet (first | (go_at_call 39; refine Calls.quiet_of_same (LC.out _)))
            go_wp2
            go_roundw
            case rel => exact ⟨j + 1, _, _, rfl, by go_num, by omega, Lib.hid (HR.out.take HX.out HY.out fun k y e => by omega), by rw [HW.out]; exact below_drewN_drewN _ _ _⟩
            case measure => simp [intOf]; omega
          · obtain ⟨k, y, hk, hy⟩ : ∃ (k : Nat) (y : Blk), r = (k : Int) ∧ b.all[k]? = some y := by
              rcases HR.out with h1 | ⟨k, y, h1, _, h2, _⟩
              · exact absurd h1.1 hr
              · exact ⟨k, y, h1, h2⟩
            clear hr
            subst hk
            have hkl : (k : Int) < (b.all.length : Int) := by have := (List.getElem?_eq_some_iff.1 hy).1; omega
            have dk : decide ((k : Int) < 0) = false := decide_eq_false (by omega)
            have f1 := HIw.out.e1 hy
            have HYY := Lib.hid hy
            clear hy
            by_cases hl : x.head < y.head
            · have dl : decide (x.head < y.head) = true := decide_eq_true hl
              have HL := Lib.hid hl
              clear hl
              go_wp2
              go_quiet (first | (go_at_call 39; refine Calls.quiet_of_same (LC.out _)))
              go_wp2
              go_roundw
              case rel => exact ⟨j + 1, _, _, rfl, by go_num, by omega, Lib.hid (HR.out.take HX.out HY.out fun k2 y2 e h2 => by (have e : k = k2 := by omega); subst e; rw [HYY.out] at h2; cases h2; exact HL.out), by rw [HW.out]; exact below_drewN_drewN _ _ _⟩
              case measure => simp [intOf]; omega
            · have dl : decide (x.head < y.head) = false := decide_eq_false hl
              have HL := Lib.hid (show y.head ≤ x.head by omega)
              clear hl
              go_wp2
              go_quiet (first | (go_at_call 39; refine Calls.quiet_of_same (LC.out _)))
              go_wp2
              go_roundw
              case rel => exact ⟨j + 1, _, _, rfl, by go_num, by omega, Lib.hid (HR.out.keep HX.out k y rfl HYY.out HL.out), by rw [HW.out]; exact below_drewN_drewN _ _ _⟩
              case measure => simp [intOf]; omega
        · have dg : decide (h < x.head) = false := decide_eq_false hg
          have HN := Lib.hid (show nextOk h _ x = false by rw [HOK.out, hc, htt, dg]; rfl)
          clear hg hc
          go_wp2
          go_quiet (first | (go_at_call 39; refine Calls.quiet_of_same (LC.out _)))
          go_wp2
          go_roundw
          case rel => exact ⟨j + 1, _, _, rfl, by go_num, by omega, Lib.hid (HR.out.skip HX.out HN.out), by rw [HW.out]; exact below_drewN_drewN _ _ _⟩
          case measure => simp [intOf]; omega
    · obtain rfl : j = b.all.length := by omega
      go_wp2
      go_ret
      exact ⟨⟨r, rfl, HR.out⟩, _, HW.out⟩
end Go.Proofs.Ytmohijpkhmeibaa
/- The document's book: Oldest, Clean. -/
namespace Go.Proofs.Ytmohijpkhmeibaa
open Go.RowKit Go.Proofs
set_option linter.unusedVariables false
set_option linter.unusedSimpArgs false
set_option maxRecDepth 100000
/-- What the document's Oldest answers. -/
def OldR (b : Bks) (v : Int) (h : Int) (ok : Bool) : Prop :=
  (v = 0 ∧ h = 0 ∧ ok = false ∧ (NextPre b 0 false b.all.length (-1) ∨ ∃ (k : Nat) (x : Blk), NextPre b 0 false b.all.length (k : Int) ∧ b.all[k]? = some x ∧ NextPre b x.head true b.all.length (-1))) ∨
  (∃ (k l : Nat) (x y : Blk), v = (k : Int) ∧ h = y.head ∧ ok = true ∧ NextPre b 0 false b.all.length (k : Int) ∧ b.all[k]? = some x ∧ NextPre b x.head true b.all.length (l : Int) ∧ b.all[l]? = some y)
theorem NextPre.cases {b : Bks} {h : Int} {o : Bool} {n : Nat} {r : Int} (H : NextPre b h o n r) : r = -1 ∨ ∃ (k : Nat) (x : Blk), r = (k : Int) ∧ b.all[k]? = some x := by
  rcases H with h | ⟨k, x, h1, _, h2, _⟩
  · exact .inl h.1
  · exact .inr ⟨k, x, h1, h2⟩
set_option maxHeartbeats 2000000 in
theorem roldest_calls (p q t cap : Nat) (b : Bks) (w : World) (hI : IsR w p q t cap b) :
    Calls Try.prog 52 #[.pointer (some ⟨p, 0, none⟩)] w fun e w' => (∃ (v h : Int) (ok : Bool), e = .returned (.tuple #[.int .i64 v, .int .u64 h, .bool ok]) ∧ OldR b v h ok) ∧ ∃ n, w' = w.drewN n := by
  have hle := hI.le
  have HI := Lib.hid hI
  clear hI
  go_enter Try.func52, Try.ntmps52
  go_wp2_with fail
  refine (rnext_calls p q t cap b 0 false w HI.out).mono ?_
  rintro e w1 ⟨⟨r, rfl, hr⟩, n1, hw1⟩
  rcases hr.cases with rfl | ⟨k, x, rfl, hx⟩
  · have HR := Lib.hid hr
    have HW := Lib.hid hw1
    clear hr hw1
    go_wp2
    refine bodyPost_ret (v := .tuple #[.int .i64 0, .int .u64 0, .bool false]) (by simp [results, Try.results52, go_sem]) rfl ?_
    exact ⟨⟨0, 0, false, rfl, .inl ⟨rfl, rfl, rfl, .inl HR.out⟩⟩, n1, HW.out⟩
  · have hI1 : IsR w1 p q t cap b := by rw [hw1]; exact HI.out.drewN n1
    have c1 := hI1.c1
    have ex := hI1.e1 hx
    have hk : (k : Int) < (b.all.length : Int) := by have := (List.getElem?_eq_some_iff.1 hx).1; omega
    have dk : decide ((k : Int) < 0) = false := decide_eq_false (by omega)
    have HR := Lib.hid hr
    have HW := Lib.hid hw1
    have HX := Lib.hid hx
    have HI1 := Lib.hid hI1
    clear hr hw1 hx hI1
    go_wp2_with fail
    refine (rnext_calls p q t cap b x.head true w1 HI1.out).mono ?_
    rintro e w2 ⟨⟨r, rfl, hr2⟩, n2, hw2⟩
    rcases hr2.cases with rfl | ⟨l, y, rfl, hy⟩
    · have HR2 := Lib.hid hr2
      have HW2 := Lib.hid hw2
      clear hr2 hw2
      go_wp2
      refine bodyPost_ret (v := .tuple #[.int .i64 0, .int .u64 0, .bool false]) (by simp [results, Try.results52, go_sem]) rfl ?_
      exact ⟨⟨0, 0, false, rfl, .inl ⟨rfl, rfl, rfl, .inr ⟨k, x, HR.out, HX.out, HR2.out⟩⟩⟩, n1 + n2, by rw [HW2.out, HW.out]; exact below_drewN_drewN _ _ _⟩
    · have hI2 : IsR w2 p q t cap b := by rw [hw2]; exact HI1.out.drewN n2
      have d1 := hI2.c1
      have ey := hI2.e1 hy
      have hl : (l : Int) < (b.all.length : Int) := by have := (List.getElem?_eq_some_iff.1 hy).1; omega
      have dl : decide ((l : Int) < 0) = false := decide_eq_false (by omega)
      have HR2 := Lib.hid hr2
      have HW2 := Lib.hid hw2
      have HY := Lib.hid hy
      clear hr2 hw2 hy hI2 c1 ex
      go_wp2
      go_quiet (fail)
      go_wp2
      refine bodyPost_ret (v := .tuple #[.int .i64 (k : Int), .int .u64 y.head, .bool true]) (by simp [results, Try.results52, go_sem]) rfl ?_
      exact ⟨⟨k, y.head, true, rfl, .inr ⟨k, l, x, y, rfl, rfl, rfl, HR.out, HX.out, HR2.out, HY.out⟩⟩, n1 + (n2 + nq), by rw [HW2.out, HW.out, below_drewN_drewN, below_drewN_drewN]⟩
end Go.Proofs.Ytmohijpkhmeibaa
/- The document's book: Clean. -/
namespace Go.Proofs.Ytmohijpkhmeibaa
open Go.RowKit Go.Proofs
set_option linter.unusedVariables false
set_option linter.unusedSimpArgs false
set_option maxRecDepth 100000
set_option maxHeartbeats 4000000 in
theorem rclean_calls (p q t cap : Nat) (b : Bks) (w : World) (hI : IsR w p q t cap b) (hv : VicOk b) (hlf : ∀ (k : Nat) (x : Blk), b.all[k]? = some x → x.left = true → x.state = 4) :
    Calls Try.prog 63 #[.pointer (some ⟨p, 0, none⟩)] w fun e w' => ∃ (v h : Int) (ok : Bool), e = .returned (.tuple #[.int .i64 v, .int .u64 h, .bool ok]) ∧ OldR b v h ok ∧ IsR w' p q t cap (cleanB b v ok) ∧ Off (fun i => i = q ∨ i = p) w w' := by
  have OC := Lib.hid (roldest_calls p q t cap b w hI)
  have HI := Lib.hid hI
  have HV := Lib.hid hv
  have HLF := Lib.hid hlf
  have hle := hI.le
  clear hI hv hlf
  go_enter Try.func63, Try.ntmps63
  go_wp2_with fail
  refine OC.out.mono ?_
  rintro e w1 ⟨⟨v, h, ok, rfl, h2⟩, n1, hw1⟩
  have hI1 : IsR w1 p q t cap b := by rw [hw1]; exact HI.out.drewN n1
  have c5 := hI1.c5
  have f5 := hI1.cf 5
  have s1 := hI1.setHead (j := 5) (v := .int .i64 (-1)) (b' := { b with victim := -1 }) rfl rfl
  have g5 := s1.c5
  have k5 := s1.cf 5
  have s2 := s1.setHead (j := 5) (v := .int .i64 v) (b' := { b with victim := v }) rfl rfl
  have H2 := Lib.hid h2
  have HOFF1 : Hid (Off (fun i => i = q ∨ i = p) w w1) := Lib.hid (by rw [hw1]; exact (Off.refl _ w).drewN n1)
  have O1 : Hid (Off (fun i => i = q ∨ i = p) w (w1.setCell ⟨p, 5, none⟩ (.int .i64 (-1)))) := Lib.hid (HOFF1.out.setCell (p := ⟨p, 5, none⟩) (.inl (.inr rfl)) _)
  have O2 : Hid (Off (fun i => i = q ∨ i = p) w ((w1.setCell ⟨p, 5, none⟩ (.int .i64 (-1))).setCell ⟨p, 5, none⟩ (.int .i64 v))) := Lib.hid (O1.out.setCell (p := ⟨p, 5, none⟩) (.inl (.inr rfl)) _)
  have S1 := Lib.hid s1
  have S2 := Lib.hid s2
  clear h2 hI1 s1 s2 OC hw1 HOFF1
  rcases HV.out with hvn | ⟨k, x, hvk, hx⟩
  · rw [hvn] at c5
    cases ok
    · have hc : cleanB b v false = { b with victim := -1 } := by unfold cleanB vicB; rw [if_pos hvn]; rfl
      have HC := Lib.hid hc
      clear hvn hc
      go_wp2
      refine bodyPost_ret (v := .tuple #[.int .i64 v, .int .u64 h, .bool false]) (by simp [results, Try.results63, go_sem]) rfl ?_
      exact ⟨v, h, false, rfl, H2.out, by rw [HC.out]; exact S1.out, O1.out⟩
    · have hc : cleanB b v true = { b with victim := v } := by unfold cleanB vicB; rw [if_pos hvn]; rfl
      have HC := Lib.hid hc
      clear hvn hc
      go_wp2
      refine bodyPost_ret (v := .tuple #[.int .i64 v, .int .u64 h, .bool true]) (by simp [results, Try.results63, go_sem]) rfl ?_
      exact ⟨v, h, true, rfl, H2.out, by rw [HC.out]; exact S2.out, O2.out⟩
  · rw [hvk] at c5
    have hne : ¬ b.victim = -1 := by omega
    have htn : b.victim.toNat = k := by omega
    have hkl : (k : Int) < (b.all.length : Int) := by have := (List.getElem?_eq_some_iff.1 hx).1; omega
    have dk : decide ((k : Int) ≥ 0) = true := decide_eq_true (by omega)
    have HX := Lib.hid hx
    have HLL := Lib.hid (HLF.out k x hx)
    cases ok
    · have hc : cleanB b v false = settleB { b with victim := -1 } k x := by unfold cleanB vicB; rw [if_neg hne, htn, hx]; rfl
      have HC := Lib.hid hc
      have e0 := S1.out.e0 hx
      have e2 := S1.out.e2 hx
      have e3 := S1.out.e3 hx
      have c1 := S1.out.c1
      have j5 := S1.out.c5
      clear hvk hne htn hc hx
      by_cases hkv : (k : Int) = -1
      · omega
      have nkv : ((k : Int) != -1) = true := bne_iff_ne.2 hkv
      have hs0 : settleB { b with victim := -1 } k x = if hollowB x = true then emptyB { b with victim := -1 } k else { b with victim := -1 } := by unfold settleB; rw [if_neg hkv]
      have HS0 := Lib.hid hs0
      clear hkv hs0
      rcases (Bool.eq_false_or_eq_true (x.state == 1)).symm with h1 | h1
      · have HS := Lib.hid (show settleB { b with victim := -1 } k x = { b with victim := -1 } by rw [HS0.out, if_neg (by unfold hollowB; rw [h1]; exact Bool.false_ne_true)])
        go_wp2
        refine bodyPost_ret (v := .tuple #[.int .i64 v, .int .u64 h, .bool false]) (by simp [results, Try.results63, go_sem]) rfl ?_
        exact ⟨v, h, false, rfl, H2.out, by rw [HC.out, HS.out]; exact S1.out, O1.out⟩
      rcases (Bool.eq_false_or_eq_true x.real).symm with hr | hr
      · rw [hr] at e2
        rcases (Bool.eq_false_or_eq_true (x.live == 0)).symm with h3 | h3
        · have HS := Lib.hid (show settleB { b with victim := -1 } k x = { b with victim := -1 } by rw [HS0.out, if_neg (by unfold hollowB; rw [h1, hr, h3]; decide)])
          go_wp2
          refine bodyPost_ret (v := .tuple #[.int .i64 v, .int .u64 h, .bool false]) (by simp [results, Try.results63, go_sem]) rfl ?_
          exact ⟨v, h, false, rfl, H2.out, by rw [HC.out, HS.out]; exact S1.out, O1.out⟩
        · have HS := Lib.hid (show settleB { b with victim := -1 } k x = emptyB { b with victim := -1 } k by rw [HS0.out, if_pos (by unfold hollowB; rw [h1, hr, h3]; rfl)])
          have hlx : x.left = false := by
            cases e : x.left
            · rfl
            · have := HLL.out e; have := beq_iff_eq.1 h1; omega
          have EC := Lib.hid (emptied_calls p q t cap { b with victim := -1 } k x _ S1.out HX.out hlx)
          clear hlx
          go_wp2_with (go_at_call 74; refine EC.out.mono ?_; rintro e w2 ⟨⟨u, rfl⟩, h1, h2⟩; have K1 := Lib.hid h1; have K2 := Lib.hid h2; clear h1 h2)
          refine bodyPost_ret (v := .tuple #[.int .i64 v, .int .u64 h, .bool false]) (by simp [results, Try.results63, go_sem]) rfl ?_
          exact ⟨v, h, false, rfl, H2.out, by rw [HC.out, HS.out]; exact K1.out, O1.out.trans' K2.out fun _ _ h => .inl h⟩
      · rw [hr] at e2
        have HS := Lib.hid (show settleB { b with victim := -1 } k x = { b with victim := -1 } by rw [HS0.out, if_neg (by unfold hollowB; rw [h1, hr]; exact Bool.false_ne_true)])
        go_wp2
        refine bodyPost_ret (v := .tuple #[.int .i64 v, .int .u64 h, .bool false]) (by simp [results, Try.results63, go_sem]) rfl ?_
        exact ⟨v, h, false, rfl, H2.out, by rw [HC.out, HS.out]; exact S1.out, O1.out⟩
    · have hc : cleanB b v true = settleB { b with victim := v } k x := by unfold cleanB vicB; rw [if_neg hne, htn, hx]; rfl
      have HC := Lib.hid hc
      have e0 := S2.out.e0 hx
      have e2 := S2.out.e2 hx
      have e3 := S2.out.e3 hx
      have c1 := S2.out.c1
      have j5 := S2.out.c5
      clear hvk hne htn hc hx
      by_cases hkv : (k : Int) = v
      · have nkv : ((k : Int) != v) = false := by rw [hkv]; simp
        have HS := Lib.hid (show settleB { b with victim := v } k x = { b with victim := v } by unfold settleB; rw [if_pos hkv])
        clear hkv
        go_wp2
        refine bodyPost_ret (v := .tuple #[.int .i64 v, .int .u64 h, .bool true]) (by simp [results, Try.results63, go_sem]) rfl ?_
        exact ⟨v, h, true, rfl, H2.out, by rw [HC.out, HS.out]; exact S2.out, O2.out⟩
      have nkv : ((k : Int) != v) = true := bne_iff_ne.2 hkv
      have hs0 : settleB { b with victim := v } k x = if hollowB x = true then emptyB { b with victim := v } k else { b with victim := v } := by unfold settleB; rw [if_neg hkv]
      have HS0 := Lib.hid hs0
      clear hkv hs0
      rcases (Bool.eq_false_or_eq_true (x.state == 1)).symm with h1 | h1
      · have HS := Lib.hid (show settleB { b with victim := v } k x = { b with victim := v } by rw [HS0.out, if_neg (by unfold hollowB; rw [h1]; exact Bool.false_ne_true)])
        go_wp2
        refine bodyPost_ret (v := .tuple #[.int .i64 v, .int .u64 h, .bool true]) (by simp [results, Try.results63, go_sem]) rfl ?_
        exact ⟨v, h, true, rfl, H2.out, by rw [HC.out, HS.out]; exact S2.out, O2.out⟩
      rcases (Bool.eq_false_or_eq_true x.real).symm with hr | hr
      · rw [hr] at e2
        rcases (Bool.eq_false_or_eq_true (x.live == 0)).symm with h3 | h3
        · have HS := Lib.hid (show settleB { b with victim := v } k x = { b with victim := v } by rw [HS0.out, if_neg (by unfold hollowB; rw [h1, hr, h3]; decide)])
          go_wp2
          refine bodyPost_ret (v := .tuple #[.int .i64 v, .int .u64 h, .bool true]) (by simp [results, Try.results63, go_sem]) rfl ?_
          exact ⟨v, h, true, rfl, H2.out, by rw [HC.out, HS.out]; exact S2.out, O2.out⟩
        · have HS := Lib.hid (show settleB { b with victim := v } k x = emptyB { b with victim := v } k by rw [HS0.out, if_pos (by unfold hollowB; rw [h1, hr, h3]; rfl)])
          have hlx : x.left = false := by
            cases e : x.left
            · rfl
            · have := HLL.out e; have := beq_iff_eq.1 h1; omega
          have EC := Lib.hid (emptied_calls p q t cap { b with victim := v } k x _ S2.out HX.out hlx)
          clear hlx
          go_wp2_with (go_at_call 74; refine EC.out.mono ?_; rintro e w2 ⟨⟨u, rfl⟩, h1, h2⟩; have K1 := Lib.hid h1; have K2 := Lib.hid h2; clear h1 h2)
          refine bodyPost_ret (v := .tuple #[.int .i64 v, .int .u64 h, .bool true]) (by simp [results, Try.results63, go_sem]) rfl ?_
          exact ⟨v, h, true, rfl, H2.out, by rw [HC.out, HS.out]; exact K1.out, O2.out.trans' K2.out fun _ _ h => .inl h⟩
      · rw [hr] at e2
        have HS := Lib.hid (show settleB { b with victim := v } k x = { b with victim := v } by rw [HS0.out, if_neg (by unfold hollowB; rw [h1, hr]; exact Bool.false_ne_true)])
        go_wp2
        refine bodyPost_ret (v := .tuple #[.int .i64 v, .int .u64 h, .bool true]) (by simp [results, Try.results63, go_sem]) rfl ?_
        exact ⟨v, h, true, rfl, H2.out, by rw [HC.out, HS.out]; exact S2.out, O2.out⟩
end Go.Proofs.Ytmohijpkhmeibaa
