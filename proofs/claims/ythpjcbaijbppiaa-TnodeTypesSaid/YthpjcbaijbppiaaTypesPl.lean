/- Trees of places: New, Len, Height, find, Get, grow, Put (written by gentypes.py out of the texts of trees of numbers). -/
import Derived.Test.YthpjcbaijbppiaaOwn
namespace Go.Proofs.Ythpjcbaijbppiaa.Pl
open Go.RowKit Go.Proofs Go.Proofs.Ythpjcbaijbppiaa
set_option linter.unusedVariables false
set_option linter.unusedSimpArgs false
set_option maxRecDepth 100000
def kPl : Tk (Int × Int) := ⟨fun v => #[.int .i64 v.1, .int .i64 v.2], 56, 95, 86, by decide, by decide, by decide⟩
theorem new_calls (w : World) : Calls Try.prog 24 #[] w fun e w' => e = .returned (.pointer (some ⟨w.heap.size, 0, none⟩)) ∧ w' = w.alloc (.cells #[.pointer none, .int .i64 0, .int .i64 0] 86) := by
  go_enter Try.func24, Try.ntmps24
  go_wp2
  go_ret
  exact ⟨rfl, rfl⟩
theorem len_calls (p : Nat) (n : Int) (s : TS (Int × Int)) (w : World) (hI : IsT kPl w p n s) : Calls Try.prog 30 #[.pointer (some ⟨p, 0, none⟩)] w fun e w' => e = .returned (.int .i64 n) ∧ w = w' := by
  have c2 := hI.c2
  clear hI
  go_enter Try.func30, Try.ntmps30
  go_wp2
  go_ret
  exact ⟨rfl, rfl⟩
theorem height_calls (p : Nat) (n : Int) (s : TS (Int × Int)) (w : World) (hI : IsT kPl w p n s) : Calls Try.prog 32 #[.pointer (some ⟨p, 0, none⟩)] w fun e w' => e = .returned (.int .i64 (s.h : Int)) ∧ w = w' := by
  have c1 := hI.c1
  clear hI
  go_enter Try.func32, Try.ntmps32
  go_wp2
  go_ret
  exact ⟨rfl, rfl⟩

set_option maxRecDepth 100000 in
theorem find_away (p : Nat) (n : Int) (s : TS (Int × Int)) (w : World) (k : Int) (hw : WF s) (hI : IsT kPl w p n s) (ha : Away s k) :
    Calls Try.prog 48 #[.pointer (some ⟨p, 0, none⟩), .int .i64 k] w fun e w' => e = .returned (.pointer none) ∧ w = w' := by
  have c0 := hI.c0
  have c1 := hI.c1
  have hh := hw.h5
  by_cases h0 : k < 0
  · clear ha hI hw
    go_enter Try.func48, Try.ntmps48
    go_wp2
    all_goals go_ret
    all_goals exact ⟨rfl, rfl⟩
  · have h1 : ((16 ^ s.h : Nat) : Int) ≤ k := by rcases ha with h | h; exact absurd h h0; exact h
    cases hr : s.N (s.h - 1) 0 with
    | none =>
      rw [hr, ptr_none] at c0
      have h2 : ¬ k < 0 := h0
      clear ha hI hw h1 hr h0 hh
      go_enter Try.func48, Try.ntmps48
      go_wp2
      all_goals go_ret
      all_goals exact ⟨rfl, rfl⟩
    | some a =>
      rw [hr, ptr_some] at c0
      have h2 : ¬ k < 0 := h0
      have RC := Lib.hid (fun W => room_calls s.h hh W)
      clear ha hI hw hh hr h0
      revert h1 RC
      generalize ((16 ^ s.h : Nat) : Int) = R
      intro h1 RC
      go_enter Try.func48, Try.ntmps48
      go_wp2_with (go_at_call 54; refine (RC.out _).mono ?_; rintro e w' ⟨rfl, rfl⟩)
      all_goals go_ret
      all_goals exact ⟨rfl, rfl⟩
set_option maxRecDepth 100000 in
theorem find_in (p : Nat) (n : Int) (s : TS (Int × Int)) (w : World) (k : Nat) (hw : WF s) (hI : IsT kPl w p n s) (hk : k < 16 ^ s.h) (h0 : 0 < s.h) :
    Calls Try.prog 48 #[.pointer (some ⟨p, 0, none⟩), .int .i64 (k : Int)] w fun e w' => e = .returned (ptr ((s.K k).map Prod.fst)) ∧ ∃ m, w' = w.drewN m := by
  have c0 := hI.c0
  have c1 := hI.c1
  have hh := hw.h5
  obtain ⟨a, ha⟩ := hw.root h0
  rw [ha, ptr_some] at c0
  have RC := Lib.hid (fun W => room_calls s.h hh W)
  have hk2 : k < 1048576 := Nat.lt_of_lt_of_le hk (pow16_le hh)
  have DC := Lib.hid (fun L (hL : L ≤ 4) W => digit_q k L hk2 hL W)
  have DZ := Lib.hid (fun W => digit0_q k hk2 W)
  have HK := Lib.hid hk
  have HW := Lib.hid hw
  have HI := Lib.hid hI
  have HA := Lib.hid ha
  have hk3 : (k : Int) < ((16 ^ s.h : Nat) : Int) := Int.ofNat_lt.2 hk
  have hk4 : ¬ (k : Int) < 0 := by omega
  clear hk hw hI ha hk2
  revert hk3 RC
  generalize ((16 ^ s.h : Nat) : Int) = R
  intro RC hk3
  go_enter Try.func48, Try.ntmps48
  go_wp2_with (go_at_call 54; refine (RC.out _).mono ?_; rintro e w' ⟨rfl, rfl⟩)
  clear RC hk3
  go_loopw [5, 6] (fun nn lev wr => ∃ (L a m : Nat), lev = .int .i64 (L : Int) ∧ L < s.h ∧ nn = .pointer (some ⟨a, 0, none⟩) ∧ s.N L (k / 16 ^ (L + 1)) = some a ∧ wr = w.drewN m) (fun _ lev _ => (intOf lev).toNat)
  case atStart => exact ⟨s.h - 1, a, 0, by go_num, by omega, rfl, by have h1 := HK.out; have e : s.h - 1 + 1 = s.h := by omega
                                                                     rw [e, Nat.div_eq_of_lt h1]; exact HA.out, rfl⟩
  case round =>
    obtain ⟨L, b, m, rfl, hL, rfl, hb, rfl⟩ := hrel
    cases L with
    | zero =>
      have hd : k % 16 < 16 := Nat.mod_lt _ (by decide)
      have hc := (HI.out.node 0 _ b hb).things' hd
      have hq : k / 16 ^ (0 + 1) * 16 + k % 16 = k := by rw [Nat.zero_add, Nat.pow_one]; omega
      rw [hq] at hc
      have DD := Lib.hid (fun W => DZ.out W)
      revert hd hc DD
      generalize k % 16 = d
      intro hd hc DD
      have hd2 : (d : Int) < 16 := by omega
      clear hb hq
      go_wp2
      go_quiet ((go_at_call 44; exact qadd (DD.out _)))
      go_wp2
      go_ret
      exact ⟨rfl, _, World.drewN_drewN _ _ _⟩
    | succ L =>
      have hd : k / 16 ^ (L + 1) % 16 < 16 := Nat.mod_lt _ (by decide)
      have DD := Lib.hid (fun W => DC.out (L + 1) (by omega) W)
      have hc := (HI.out.node _ _ b hb).below' hd
      rw [digit_split] at hc
      have hno := Lib.hid (fun h => HW.out.key_none (k := k) (L := L) (by omega) h)
      revert hd DD hc
      generalize k / 16 ^ (L + 1) % 16 = d
      intro hd DD hc
      have hd2 : (d : Int) < 16 := by omega
      have hpos : (0 : Int) < ((L + 1 : Nat) : Int) := by omega
      have hm1 : ((L + 1 : Nat) : Int) - 1 = (L : Int) := by omega
      clear hb
      cases hn : s.N L (k / 16 ^ (L + 1)) with
      | none =>
        rw [hn, ptr_none] at hc
        have HZ := Lib.hid (hno.out hn)
        clear hn
        go_wp2
        go_quiet ((go_at_call 44; exact qadd (DD.out _)))
        go_wp2
        go_ret
        exact ⟨by rw [HZ.out]; rfl, _, rfl⟩
      | some c =>
        rw [hn, ptr_some] at hc
        have HN := Lib.hid hn
        clear hn
        go_wp2
        go_quiet ((go_at_call 44; exact qadd (DD.out _)))
        go_wp2
        go_roundw
        case rel => exact ⟨L, c, _, by go_num, by omega, rfl, HN.out, rfl⟩
        case measure => simp [intOf]
theorem find_calls (p : Nat) (n : Int) (s : TS (Int × Int)) (w : World) (k : Int) (hw : WF s) (hI : IsT kPl w p n s) :
    Calls Try.prog 48 #[.pointer (some ⟨p, 0, none⟩), .int .i64 k] w fun e w' => e = .returned (ptr ((keyOf s k).map Prod.fst)) ∧ ∃ m, w' = w.drewN m := by
  by_cases ha : Away s k
  · refine (find_away p n s w k hw hI ha).mono ?_
    rintro e w' ⟨rfl, rfl⟩
    refine ⟨?_, 0, rfl⟩
    have : keyOf s k = none := by
      unfold keyOf
      by_cases h : k < 0
      · rw [if_pos h]
      · rw [if_neg h]
        rcases ha with ha | ha
        · exact absurd ha h
        · cases e : s.K k.toNat with
          | none => rfl
          | some x => have := hw.key_lt e; omega
    rw [this]; rfl
  · have h0 : ¬ k < 0 := fun h => ha (.inl h)
    have h1 : k < ((16 ^ s.h : Nat) : Int) := by
      by_cases h : k < ((16 ^ s.h : Nat) : Int)
      · exact h
      · exact absurd (.inr (by omega)) ha
    obtain ⟨j, rfl⟩ : ∃ j : Nat, k = j := ⟨k.toNat, by omega⟩
    have e : keyOf s (j : Int) = s.K j := by unfold keyOf; rw [if_neg h0]; rfl
    rw [e]
    by_cases hh : 0 < s.h
    · exact find_in p n s w j hw hI (Int.ofNat_lt.1 h1) hh
    · have hj : j = 0 := by have e : s.h = 0 := by omega
                            rw [e] at h1; omega
      have hz : s.K j = none := by
        cases e : s.K j with
        | none => rfl
        | some x => obtain ⟨b, hb⟩ := hw.ku _ _ e; have := hw.lv _ _ _ hb; omega
      have hr : s.N (s.h - 1) 0 = none := by
        cases e : s.N (s.h - 1) 0 with
        | none => rfl
        | some x => have := hw.lv _ _ _ e; omega
      have c0 := hI.c0
      rw [hr, ptr_none] at c0
      rw [hz]
      clear hI hw hr hz e ha hh hj h1
      go_enter Try.func48, Try.ntmps48
      go_wp2
      all_goals go_ret
      all_goals exact ⟨rfl, 0, rfl⟩
theorem get_calls (p : Nat) (n : Int) (s : TS (Int × Int)) (w : World) (k : Int) (hw : WF s) (hI : IsT kPl w p n s) :
    Calls Try.prog 28 #[.pointer (some ⟨p, 0, none⟩), .int .i64 k] w fun e w' => e = .returned (.tuple #[.agg #[.int .i64 (getV (keyOf s k) (0, 0)).1, .int .i64 (getV (keyOf s k) (0, 0)).2], .bool (keyOf s k).isSome]) ∧ Below w.heap.size w w' := by
  have hI2 := hI.alloc (.cells #[.int .i64 0, .int .i64 0] 56)
  have FC := find_calls p n s _ k hw hI2
  have hb := (Below.refl w.heap.size w).alloc (Nat.le_refl _) (.cells #[.int .i64 0, .int .i64 0] 56)
  cases e : keyOf s k with
  | none =>
    rw [e] at FC
    have FC : Calls Try.prog 48 #[.pointer (some ⟨p, 0, none⟩), .int .i64 k] (w.alloc (.cells #[.int .i64 0, .int .i64 0] 56)) fun e w' => e = .returned (.pointer none) ∧ ∃ m, w' = (w.alloc (.cells #[.int .i64 0, .int .i64 0] 56)).drewN m := FC
    have FC := Lib.hid FC
    have HB := Lib.hid hb
    clear hw hI hI2 e hb
    go_enter Try.func28, Try.ntmps28
    go_wp2_with (go_at_call 48; refine FC.out.mono ?_; rintro e w' ⟨rfl, m, rfl⟩)
    have b1 := HB.out.trans ((below_drewN' (w.alloc (.cells #[.int .i64 0, .int .i64 0] 56)) m).mono HB.out.size)
    refine bodyPost_ret (v := .tuple #[.agg #[.int .i64 0, .int .i64 0], .bool false]) (by simp [results, Try.results28, go_sem]) rfl ⟨rfl, ?_⟩
    exact ((b1.setCell (p := ⟨w.heap.size, 0, none⟩) (Nat.le_refl _) _).setCell (p := ⟨w.heap.size, 1, none⟩) (Nat.le_refl _) _).alloc (by simp) _
  | some x =>
    rw [e] at FC
    obtain ⟨a, v⟩ := x
    have FC : Calls Try.prog 48 #[.pointer (some ⟨p, 0, none⟩), .int .i64 k] (w.alloc (.cells #[.int .i64 0, .int .i64 0] 56)) fun e w' => e = .returned (.pointer (some ⟨a, 0, none⟩)) ∧ ∃ m, w' = (w.alloc (.cells #[.int .i64 0, .int .i64 0] 56)).drewN m := FC
    have FC := Lib.hid FC
    have h : s.K k.toNat = some (a, v) := by
      unfold keyOf at e
      split at e
      · cases e
      · exact e
    have hc0 : (w.alloc (.cells #[.int .i64 0, .int .i64 0] 56)).cell? ⟨a, 0, none⟩ = some (.int .i64 v.1) := cell_of (o := 0) (hI2.thing _ a v h) rfl
    have hc1 : (w.alloc (.cells #[.int .i64 0, .int .i64 0] 56)).cell? ⟨a, 1, none⟩ = some (.int .i64 v.2) := cell_of (o := 1) (hI2.thing _ a v h) rfl
    have HB := Lib.hid hb
    clear hw hI hI2 e h hb
    go_enter Try.func28, Try.ntmps28
    go_wp2_with (go_at_call 48; refine FC.out.mono ?_; rintro e w' ⟨rfl, m, rfl⟩)
    have b1 := HB.out.trans ((below_drewN' (w.alloc (.cells #[.int .i64 0, .int .i64 0] 56)) m).mono HB.out.size)
    refine bodyPost_ret (v := .tuple #[.agg #[.int .i64 v.1, .int .i64 v.2], .bool true]) (by simp [results, Try.results28, go_sem]) rfl ⟨rfl, ?_⟩
    exact (b1.setCell (p := ⟨w.heap.size, 0, none⟩) (Nat.le_refl _) _).setCell (p := ⟨w.heap.size, 1, none⟩) (Nat.le_refl _) _
/-- Where grow stands: s1 is s, higher. -/
structure GI (s : TS (Int × Int)) (p : Nat) (n : Int) (k : Nat) (w : World) (s1 : TS (Int × Int)) (wx : World) : Prop where
  isT : IsT kPl wx p n s1
  wf : WF s1
  full : FullBut s1 (s1.h - 1) 0
  pos : 0 < s1.h
  same : s1.K = s.K
  min : 1 < s1.h → MinH s1 ∨ 16 ^ (s1.h - 1) ≤ k
  new : ∀ L q a, s1.N L q = some a → s.N L q = some a ∨ w.heap.size ≤ a
  off : Off (· = p) w wx
theorem GI.drew {s : TS (Int × Int)} {p : Nat} {n : Int} {k : Nat} {w : World} {s1 : TS (Int × Int)} {wx : World} (h : GI s p n k w s1 wx) : GI s p n k w s1 wx.drew :=
  ⟨h.isT.drewN 1, h.wf, h.full, h.pos, h.same, h.min, h.new, h.off.drew⟩
theorem GI.up {s : TS (Int × Int)} {p : Nat} {n : Int} {k : Nat} {w : World} {s1 : TS (Int × Int)} {wx : World} (h : GI s p n k w s1 wx) (h4 : s1.h ≤ 4) (hk : 16 ^ s1.h ≤ k) (hu : usedOf (s1.child (s1.h - 1) 0) ≠ 0) {a : Nat} (ha : s1.N (s1.h - 1) 0 = some a) :
    GI s p n k w (upN s1 wx.heap.size) (growW wx kPl p (nodeZ (.pointer (some ⟨a, 0, none⟩)) 1) ((s1.h : Int) + 1)) :=
  ⟨h.isT.up h.wf h.pos ha, h.wf.upN h4 h.pos (h.isT.fresh), upN_full h.wf (h.full.full (by omega)), by show 0 < s1.h + 1; omega, h.same, fun _ => .inr hk,
   fun L q b hb => by
    rcases upN_sub hb with ⟨_, _, rfl⟩ | ⟨_, hb⟩
    · exact .inr h.off.size
    · exact h.new _ _ _ hb, h.off.trans' (growW_off _ _) (fun i _ e => e)⟩
theorem GI.top {s : TS (Int × Int)} {p : Nat} {n : Int} {k : Nat} {w : World} {s1 : TS (Int × Int)} {wx : World} (h : GI s p n k w s1 wx) (h4 : s1.h ≤ 4) (hk : 16 ^ s1.h ≤ k) (hu : usedOf (s1.child (s1.h - 1) 0) = 0) :
    GI s p n k w (topN s1 wx.heap.size) (growW wx kPl p (nodeZ (.pointer none) 0) ((s1.h : Int) + 1)) := by
  have hz : ∀ k, s1.K k = none := fun k => by
    cases e : s1.K k with
    | none => rfl
    | some x => have := root_used h.wf e; omega
  exact ⟨h.isT.top hz, WF.topN h4 hz _, topN_full, by show 0 < s1.h + 1; omega, h.same, fun _ => .inr hk, fun L q b hb => by
    obtain ⟨_, _, rfl⟩ := topN_sub hb
    exact .inr h.off.size, h.off.trans' (growW_off _ _) (fun i _ e => e)⟩
def GrowEnd (s : TS (Int × Int)) (p : Nat) (n : Int) (k : Nat) (w : World) (e : Ending) (w' : World) : Prop :=
  (∃ v, e = .returned v) ∧ ∃ s', GI s p n k w s' w' ∧ k < 16 ^ s'.h
theorem grow_calls (s : TS (Int × Int)) (p : Nat) (n : Int) (w : World) (k : Nat) (hk : k < 1048576) (hI : IsT kPl w p n s) (hw : WF s) (hF : Full s) (hM : MinH s) :
    Calls Try.prog 46 #[.pointer (some ⟨p, 0, none⟩), .int .i64 (k : Int)] w (GrowEnd s p n k w) := by
  have HK := Lib.hid hk
  have c1 := hI.c1
  have f0 := hI.cf 0
  have f1 := hI.cf 1
  by_cases h0 : 0 < s.h
  case' pos =>
    obtain ⟨a, ha⟩ := hw.root h0
    have c0 := hI.c0
    rw [ha, ptr_some] at c0
    have HS := Lib.hid (show GI s p n k w s w from ⟨hI, hw, hF.but _ _, h0, rfl, fun _ => .inl hM, fun _ _ _ h => .inl h, Off.refl _ _⟩)
    clear hI hw hF hM ha
    go_enter Try.func46, Try.ntmps46
    go_wp2
  case' neg =>
    have e0 : s.h = 0 := by omega
    have hr : s.N (s.h - 1) 0 = none := by
      cases e : s.N (s.h - 1) 0 with
      | none => rfl
      | some x => have := hw.lv _ _ _ e; omega
    have hz : ∀ k, s.K k = none := fun k => by
      cases e : s.K k with
      | none => rfl
      | some x => obtain ⟨b, hb⟩ := hw.ku _ _ e; have := hw.lv _ _ _ hb; omega
    have c0 := hI.c0
    rw [hr, ptr_none] at c0
    have n0 : ¬ p = w.heap.size := fun e => World.new_ne _ _ c0 e.symm
    have k0 := cellA c0
    have k1 := cellA c1
    have g0 := freeA hI.plt f0
    have g1 := freeA hI.plt f1
    have HS := Lib.hid (show GI s p n k w (topN s w.heap.size) (growW w kPl p (nodeZ (.pointer none) 0) ((s.h : Int) + 1)) from
      ⟨hI.top hz, WF.topN (by omega) hz _, (by have := topN_full (s := s) (t := w.heap.size); exact this), by show 0 < s.h + 1; omega, rfl, fun h => by have h' : 1 < s.h + 1 := h; omega, fun L q b hb => by
        obtain ⟨_, _, rfl⟩ := topN_sub hb
        exact .inr (Nat.le_refl _), growW_off _ _⟩)
    rw [e0] at HS
    clear hI hw hF hM hr hz e0 h0
    go_enter Try.func46, Try.ntmps46
    go_wp2
  all_goals
    go_loopg [] 6 (fun gk wx => ∃ s1 : TS (Int × Int), 6 - s1.h ≤ gk ∧ GI s p n k w s1 wx)
    case atStart => exact ⟨_, by omega, HS.out⟩
    case round =>
      obtain ⟨s1, hg, hG⟩ := hrel
      have HG := Lib.hid hg
      have HH := Lib.hid hG
      have hI := hG.isT
      obtain ⟨a1, ha⟩ := hG.wf.root hG.pos
      have hh5 := hG.wf.h5
      have RC := Lib.hid (fun W => room_calls s1.h hh5 W)
      have c0 := hI.c0
      rw [ha, ptr_some] at c0
      have c1 := hI.c1
      have f0 := hI.cf 0
      have f1 := hI.cf 1
      have hnode := hI.node _ _ _ ha
      have c3 := hnode.used
      have hul := usedOf_le (s1.child (s1.h - 1) 0)
      have n0 : ¬ p = wr.heap.size := fun e => World.new_ne _ _ c0 e.symm
      have k0 := cellA c0
      have k1 := cellA c1
      have k3 := cellA c3
      have g0 := freeA hI.plt f0
      have g1 := freeA hI.plt f1
      by_cases hlt : 16 ^ s1.h ≤ k
      · have hlt2 : ((16 ^ s1.h : Nat) : Int) ≤ (k : Int) := Int.ofNat_le.2 hlt
        have hh4 : s1.h ≤ 4 := by
          by_cases e : s1.h ≤ 4
          · exact e
          · have e5 : s1.h = 5 := by omega
            rw [e5] at hlt
            have := HK.out
            omega
        have HU := Lib.hid (fun hu => hG.up hh4 hlt hu ha)
        have HT := Lib.hid (fun hu => hG.top hh4 hlt hu)
        clear hg hG hI ha hnode hlt HS
        revert RC c3 hul k3 HU HT hlt2
        generalize ((16 ^ s1.h : Nat) : Int) = R
        generalize usedOf (s1.child (s1.h - 1) 0) = U
        intro RC c3 hul k3 hlt2 HU HT
        by_cases hU : U = 0
        · subst hU
          have HE := Lib.hid (HT.out rfl)
          clear HU HT
          go_wp2_with (go_at_call 54; refine (RC.out _).mono ?_; rintro e w' ⟨rfl, rfl⟩)
          go_roundg (gk - 1)
          case measure => have := HG.out; omega
          case rel => exact ⟨_, by have := HG.out; show 6 - (s1.h + 1) ≤ gk - 1; omega, HE.out⟩
        · have hU2 : (0 : Int) < (U : Int) := by omega
          have HE := Lib.hid (HU.out hU)
          clear HU HT
          go_wp2_with (go_at_call 54; refine (RC.out _).mono ?_; rintro e w' ⟨rfl, rfl⟩)
          go_region
          all_goals
            go_wp2
            go_roundg (gk - 1)
            case measure => have := HG.out; omega
            case rel => exact ⟨_, by have := HG.out; show 6 - (s1.h + 1) ≤ gk - 1; omega, HE.out.drew⟩
      · have hlt2 : ¬ ((16 ^ s1.h : Nat) : Int) ≤ (k : Int) := by omega
        have hlt3 : k < 16 ^ s1.h := by omega
        have HE := Lib.hid (show ∃ s', GI s p n k w s' wr ∧ k < 16 ^ s'.h from ⟨s1, hG, hlt3⟩)
        clear hg hG hI ha hnode hlt hlt3 HS
        revert RC hlt2
        generalize ((16 ^ s1.h : Nat) : Int) = R
        intro RC hlt2
        go_wp2_with (go_at_call 54; refine (RC.out _).mono ?_; rintro e w' ⟨rfl, rfl⟩)
        go_end0
        exact ⟨⟨_, rfl⟩, HE.out⟩
theorem put_bad (p : Nat) (k : Int) (v : Int × Int) (w : World) (hk : k < 0 ∨ 1048575 < k) :
    Calls Try.prog 26 #[.pointer (some ⟨p, 0, none⟩), .int .i64 k, .agg #[.int .i64 v.1, .int .i64 v.2]] w fun e w' => e = .returned (.int .i64 90) ∧ w' = w.alloc (.cells #[.int .i64 v.1, .int .i64 v.2] 56) := by
  by_cases h0 : k < 0
  · clear hk
    go_enter Try.func26, Try.ntmps26
    go_wp2
    go_ret
    exact ⟨rfl, rfl⟩
  · have h1 : 1048575 < k := by omega
    have h2 : ¬ k < 0 := h0
    clear hk h0
    go_enter Try.func26, Try.ntmps26
    go_wp2
    go_ret
    exact ⟨rfl, rfl⟩
def PutEnd (s : TS (Int × Int)) (p : Nat) (n : Int) (k : Nat) (v : Int × Int) (w : World) (e : Ending) (w' : World) : Prop :=
  e = .returned (.int .i64 0) ∧ PutIn kPl s p n k w.heap.size v (w.alloc (.cells #[.int .i64 v.1, .int .i64 v.2] 56)) w'
theorem put_ok (s : TS (Int × Int)) (p : Nat) (n : Int) (k : Nat) (v : Int × Int) (w : World) (hk : k < 1048576) (hT : Tree kPl w p n s) :
    Calls Try.prog 26 #[.pointer (some ⟨p, 0, none⟩), .int .i64 (k : Int), .agg #[.int .i64 v.1, .int .i64 v.2]] w (PutEnd s p n k v w) := by
  have hI0 := hT.isT.alloc (.cells #[.int .i64 v.1, .int .i64 v.2] 56)
  have GC := Lib.hid (grow_calls s p n _ k hk hI0 hT.wf hT.full hT.min)
  have DZ := Lib.hid (fun W => digit0_q k hk W)
  have DC := Lib.hid (fun L (hL : L ≤ 4) W => digit_q k L hk hL W)
  have HT := Lib.hid hT
  have HB := Lib.hid (heap_alloc_new w (.cells #[.int .i64 v.1, .int .i64 v.2] 56))
  have h1 : ¬ (k : Int) < 0 := by omega
  have h2 : ¬ 1048575 < (k : Int) := by omega
  have HZ := Lib.hid (show w.heap.size < (w.alloc (.cells #[.int .i64 v.1, .int .i64 v.2] 56)).heap.size by simp)
  have HP := Lib.hid (show ∀ b, (b = p ∨ Nodes s b) → b ≠ w.heap.size from fun b hb => by
    rcases hb with rfl | ⟨L, q, h⟩
    · have := hT.isT.plt; omega
    · have := (hT.isT.node _ _ _ h).lt; omega)
  clear hT hI0 hk
  go_enter Try.func26, Try.ntmps26
  go_wp2_with (go_at_call 46; refine GC.out.mono ?_; rintro e w1 ⟨⟨vv, rfl⟩, s0, hG, hroom⟩; have c1 := hG.isT.c1; obtain ⟨a0, ha0⟩ := hG.wf.root hG.pos; have c0 := hG.isT.c0; rw [ha0, ptr_some] at c0; have h5 := hG.wf.h5; have hp0 := hG.pos)
  have hq : k / 16 ^ (s0.h - 1 + 1) = 0 := by rw [show s0.h - 1 + 1 = s0.h by omega]; exact Nat.div_eq_of_lt hroom
  have HPI := Lib.hid (show PI kPl s p n k (w.alloc (.cells #[.int .i64 v.1, .int .i64 v.2] 56)) (s0.h - 1) a0 s0 w1 from ⟨hG.isT, hG.wf, by rw [hq]; exact ha0, by rw [hq]; exact hG.full, hG.same, hroom, hG.min, hG.new, hG.off.mono fun i _ e => .inl e⟩)
  clear hG hroom ha0 hq GC
  revert HPI HZ HP HB
  generalize hW0 : w.alloc (.cells #[.int .i64 v.1, .int .i64 v.2] 56) = W0
  intro HB HZ HP HPI
  go_loopw [7, 8] (fun s7 s8 wx => ∃ (L a : Nat) (s1 : TS (Int × Int)), s8 = .int .i64 (L : Int) ∧ s7 = .pointer (some ⟨a, 0, none⟩) ∧ L ≤ 4 ∧ PI kPl s p n k W0 L a s1 wx) (fun _ s8 _ => (intOf s8).toNat)
  case atStart => exact ⟨s0.h - 1, a0, s0, by go_num, rfl, by omega, HPI.out⟩
  case round =>
    obtain ⟨L, a, s1, rfl, rfl, hL, hP⟩ := hrel
    have HQ := Lib.hid hP
    have hat := hP.at'
    have hn := hP.isT.node _ _ _ hat
    have f2 := hn.free 32
    have c2 := hn.used
    have halt := hn.lt
    cases L with
    | zero =>
      clear c2
      have hd : k % 16 < 16 := Nat.mod_lt _ (by decide)
      have DD := Lib.hid (fun W => DZ.out W)
      have hat0 : s1.N 0 (k / 16) = some a := by rw [Nat.zero_add, Nat.pow_one] at hat; exact hat
      have hn0 := hP.isT.node _ _ _ hat0
      have hc := hn0.things' hd
      rw [show k / 16 * 16 + k % 16 = k by omega, hP.same] at hc
      have c2 := hn0.used
      have hu := usedOf_le (s1.child 0 (k / 16))
      have fd := hn0.free (16 + k % 16)
      have hbox : wr.heap[w.heap.size]? = some (.cells #[.int .i64 v.1, .int .i64 v.2] 56 (0, 0)) := (hP.off.block _ HZ.out (fun h => HP.out _ h rfl)).trans HB.out
      have p2 := hP.isT.c2
      have fp := hP.isT.cf 2
      have hle := HT.out.cnt.le HT.out.wf
      have hge := HT.out.cnt.nonneg
      have hnl := hP.node_lt
      have hoff : ∀ m i j l x y z, Off (fun i => i = p ∨ Nodes s i) W0 ((((wr.drewN m).setCell ⟨a, i, none⟩ x).setCell ⟨p, j, none⟩ y).setCell ⟨a, l, none⟩ z) := fun m i j l x y z =>
        (((hP.off.drewN m).setCell (p := ⟨a, i, none⟩) hnl _).setCell (p := ⟨p, j, none⟩) (.inl (.inl rfl)) _).setCell (p := ⟨a, l, none⟩) hnl _
      have hoff2 : ∀ m l z, Off (fun i => i = p ∨ Nodes s i) W0 ((wr.drewN m).setCell ⟨a, l, none⟩ z) := fun m l z => (hP.off.drewN m).setCell (p := ⟨a, l, none⟩) hnl _
      have HNEW := Lib.hid (fun m hk => (hP.drewN m).done (b := w.heap.size) (v := v) HT.out.cnt ((hP.isT.drewN m).key_new hP.wf hat0 (by rw [hP.same]; exact hk) hbox rfl) (by rw [if_pos hk]) (hoff _ _ _ _ _ _ _))
      have HOLD := Lib.hid (fun m x hk => (hP.drewN m).done (b := w.heap.size) (v := v) HT.out.cnt ((hP.isT.drewN m).key_old (x := x) hP.wf hat0 (by rw [hP.same]; exact hk) hbox) (by rw [hk, if_neg (by simp)]) (hoff2 _ _ _))
      have HX := Lib.hid hP.same
      clear hn hat hP hat0 hn0 hbox hnl hoff hoff2 HQ
      revert hd DD hc c2 hu fd HNEW HOLD
      generalize usedOf (s1.child 0 (k / 16)) = U
      generalize k % 16 = d
      intro hd DD hc c2 hu fd HNEW HOLD
      have hd2 : (d : Int) < 16 := by omega
      cases hk : s.K k with
      | none =>
        rw [hk] at hc
        replace hc : wr.cell? ⟨a, 16 + d, none⟩ = some (.pointer none) := hc
        have HE := Lib.hid (fun m => HNEW.out m hk)
        clear HNEW HOLD hk
        go_wp2
        go_quiet ((go_at_call 44; exact Calls.quiet_of_same (DD.out _)))
        go_wp2
        go_ret
        refine ⟨rfl, ?_⟩
        rw [hW0]
        exact HE.out _
      | some x =>
        rw [hk] at hc
        replace hc : wr.cell? ⟨a, 16 + d, none⟩ = some (.pointer (some ⟨x.1, 0, none⟩)) := hc
        have HE := Lib.hid (fun m => HOLD.out m x hk)
        clear HNEW HOLD hk
        go_wp2
        go_quiet ((go_at_call 44; exact Calls.quiet_of_same (DD.out _)))
        go_wp2
        go_ret
        refine ⟨rfl, ?_⟩
        rw [hW0]
        exact HE.out _
    | succ L =>
      have hd : k / 16 ^ (L + 1) % 16 < 16 := Nat.mod_lt _ (by decide)
      have DD := Lib.hid (fun W => DC.out (L + 1) hL W)
      have hc := hn.below' hd
      rw [digit_split] at hc
      have fd := hn.free (k / 16 ^ (L + 1) % 16)
      have HMK := Lib.hid (fun m h => (hP.drewN m).make h)
      have HDN := Lib.hid (fun c h => hP.down (c := c) h)
      have hu := usedOf_le (s1.child (L + 1) (k / 16 ^ (L + 1 + 1)))
      have na : ¬ a = wr.heap.size := by omega
      revert hd DD hc fd HMK c2 hu
      generalize k / 16 ^ (L + 1) % 16 = d
      generalize usedOf (s1.child (L + 1) (k / 16 ^ (L + 1 + 1))) = U
      intro c2 hd DD hc fd HMK hu
      have hd2 : (d : Int) < 16 := by omega
      have hpos : (0 : Int) < ((L + 1 : Nat) : Int) := by omega
      have hm1 : ((L + 1 : Nat) : Int) - 1 = (L : Int) := by omega
      clear hn hat hP
      cases hcn : s1.N L (k / 16 ^ (L + 1)) with
      | none =>
        rw [hcn, ptr_none] at hc
        have HE := Lib.hid (fun m => HMK.out m hcn)
        have k1 : ∀ m ob, ((wr.drewN m).alloc ob).cell? ⟨a, d, none⟩ = some (.pointer none) := fun m ob => cellA (w := wr.drewN m) hc ob
        have k2 : ∀ m ob, ((wr.drewN m).alloc ob).cell? ⟨a, 32, none⟩ = some (.int .i64 (U : Int)) := fun m ob => cellA (w := wr.drewN m) c2 ob
        have g1 : ∀ m ob, ((wr.drewN m).alloc ob).frozen? ⟨a, d, none⟩ = false := fun m ob => freeA (w := wr.drewN m) halt fd ob
        have g2 : ∀ m ob, ((wr.drewN m).alloc ob).frozen? ⟨a, 32, none⟩ = false := fun m ob => freeA (w := wr.drewN m) halt f2 ob
        clear HMK HDN hcn halt
        go_wp2
        go_quiet ((go_at_call 44; exact Calls.quiet_of_same (DD.out _)))
        go_wp2
        go_roundw
        case rel => exact ⟨L, _, _, by go_num, rfl, by omega, HE.out _⟩
        case measure => simp [intOf]
      | some c =>
        rw [hcn, ptr_some] at hc
        have HE := Lib.hid (HDN.out c hcn)
        clear HMK HDN hcn halt
        go_wp2
        go_quiet ((go_at_call 44; exact Calls.quiet_of_same (DD.out _)))
        go_wp2
        go_roundw
        case rel => exact ⟨L, c, s1, by go_num, rfl, by omega, HE.out.drewN _⟩
        case measure => simp [intOf]
theorem api_new (w : World) : Calls Try.prog 24 #[] w fun e w' => e = .returned (.pointer (some ⟨w.heap.size, 0, none⟩)) ∧ TR kPl w' w.heap.size [] (· = w.heap.size) ∧ Below w.heap.size w w' := by
  refine (new_calls w).mono ?_
  rintro e w' ⟨rfl, rfl⟩
  refine ⟨rfl, ⟨0, TS.none, ⟨⟨heap_alloc_new _ _, fun L q a h => (by cases h), fun k a v h => (by cases h)⟩, ⟨by decide, fun L q a h => (by cases h), fun q a h => (by cases h), fun h => absurd h (by decide), fun L q a h => (by cases h), fun k x h => (by cases h), fun L q L' q' a h => (by cases h)⟩, fun L q a h => (by cases h), fun h => absurd h (by decide), ⟨[], Lists.nil fun _ => rfl, rfl⟩⟩, Lists.nil fun _ => rfl, ?_⟩, (Below.refl _ _).alloc (Nat.le_refl _) _⟩
  intro b
  constructor
  · rintro rfl; exact .inl rfl
  · rintro (rfl | ⟨L, q, h⟩ | ⟨k, v, h⟩)
    · rfl
    · cases h
    · cases h
theorem api_len (w : World) (p : Nat) (l : List (Nat × (Int × Int))) (fp : Nat → Prop) (h : TR kPl w p l fp) : Calls Try.prog 30 #[.pointer (some ⟨p, 0, none⟩)] w fun e w' => e = .returned (.int .i64 (l.length : Int)) ∧ w = w' := by
  obtain ⟨n, s, hT, hl, _⟩ := h
  obtain ⟨l', hl', rfl⟩ := hT.cnt
  rw [hl.uniq hl']
  exact len_calls p _ s w hT.isT
theorem api_height (w : World) (p : Nat) (l : List (Nat × (Int × Int))) (fp : Nat → Prop) (h : TR kPl w p l fp) (k : Nat) (hk : HtR l k) : Calls Try.prog 32 #[.pointer (some ⟨p, 0, none⟩)] w fun e w' => e = .returned (.int .i64 (k : Int)) ∧ w = w' := by
  obtain ⟨n, s, hT, hl, _⟩ := h
  rw [hk.uniq (hT.ht hl)]
  exact height_calls p _ s w hT.isT
theorem api_get (w : World) (p : Nat) (l : List (Nat × (Int × Int))) (fp : Nat → Prop) (h : TR kPl w p l fp) (k : Int) :
    Calls Try.prog 28 #[.pointer (some ⟨p, 0, none⟩), .int .i64 k] w fun e w' => e = .returned (.tuple #[.agg #[.int .i64 ((valAt l k).getD (0, 0)).1, .int .i64 ((valAt l k).getD (0, 0)).2], .bool (valAt l k).isSome]) ∧ Below w.heap.size w w' := by
  obtain ⟨n, s, hT, hl, _⟩ := h
  refine (get_calls p n s w k hT.wf hT.isT).mono ?_
  rintro e w' ⟨rfl, hm⟩
  refine ⟨?_, hm⟩
  rw [valAt_of hl]
  cases keyOf s k <;> rfl
theorem api_bad (w : World) (p : Nat) (l : List (Nat × (Int × Int))) (fp : Nat → Prop) (h : TR kPl w p l fp) (k : Int) (v : Int × Int) (hk : k < 0 ∨ 1048575 < k) :
    Calls Try.prog 26 #[.pointer (some ⟨p, 0, none⟩), .int .i64 k, .agg #[.int .i64 v.1, .int .i64 v.2]] w fun e w' => e = .returned (.int .i64 90) ∧ Turn kPl w p l fp w' := by
  refine (put_bad p k v w hk).mono ?_
  rintro e w' ⟨rfl, rfl⟩
  exact ⟨rfl, Turn.same h ((Below.refl _ _).alloc (Nat.le_refl _) _)⟩
theorem api_put (w : World) (p : Nat) (l : List (Nat × (Int × Int))) (fp : Nat → Prop) (h : TR kPl w p l fp) (k : Nat) (v : Int × Int) (hk : k < 1048576) :
    Calls Try.prog 26 #[.pointer (some ⟨p, 0, none⟩), .int .i64 (k : Int), .agg #[.int .i64 v.1, .int .i64 v.2]] w fun e w' => e = .returned (.int .i64 0) ∧ Turn kPl w p (insL k v l) fp w' := by
  obtain ⟨n, s, hT, hl, hf⟩ := h
  refine (put_ok s p n k v w hk hT).mono ?_
  rintro e w' ⟨rfl, s', n', hT', hK, hN, ho⟩
  have hsz : (w.alloc (.cells #[.int .i64 v.1, .int .i64 v.2] 56)).heap.size = w.heap.size + 1 := World.size_alloc _ _
  have hnew : ∀ b, Foot p s' b → Foot p s b ∨ (w.heap.size ≤ b ∧ b < w'.heap.size) := by
    intro b hb
    have hb2 := hT'.isT.foot_lt hb
    rcases hb with rfl | ⟨L, q, h⟩ | ⟨i, x, h⟩
    · exact .inl (.inl rfl)
    · rcases hN L q b h with h1 | h1
      · exact .inl (.inr (.inl ⟨L, q, h1⟩))
      · exact .inr ⟨by omega, hb2⟩
    · rw [hK i] at h
      by_cases e : i = k
      · rw [if_pos e] at h; cases h; exact .inr ⟨Nat.le_refl _, hb2⟩
      · rw [if_neg e] at h; exact .inl (.inr (.inr ⟨i, x, h⟩))
  have hoff : Off fp w w' := by
    refine (Off.alloc (Off.refl fp w) (.cells #[.int .i64 v.1, .int .i64 v.2] 56)).trans' ho fun i _ hi => ?_
    rcases hi with rfl | ⟨L, q, h⟩
    · exact (hf _).2 (.inl rfl)
    · exact (hf _).2 (.inr (.inl ⟨L, q, h⟩))
  refine ⟨rfl, Foot p s', ⟨n', s', hT', ?_, fun b => Iff.rfl⟩, hoff, fun b hb => (hnew b hb).imp (hf b).2 (·.1)⟩
  refine (hl.ins k v).congr fun i => ?_
  unfold TS.val
  rw [hK i]
  by_cases e : i = k
  · rw [if_pos e, if_pos e]; rfl
  · rw [if_neg e, if_neg e]
end Go.Proofs.Ythpjcbaijbppiaa.Pl
