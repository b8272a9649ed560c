/- New, Len, Height, find, Get. -/
import Derived.Test.YthpjcbaijbppiaaDigit
namespace Go.Proofs.Ythpjcbaijbppiaa
open Go.RowKit Go.Proofs
set_option linter.unusedVariables false
set_option linter.unusedSimpArgs false
def TS.none {V : Type} : TS V := ⟨0, fun _ _ => Option.none, fun _ => Option.none⟩
theorem ptr_none : ptr Option.none = .pointer Option.none := rfl
theorem ptr_some (a : Nat) : ptr (some a) = .pointer (some ⟨a, 0, Option.none⟩) := rfl
theorem new_calls (w : World) : Calls Try.prog 9 #[] w fun e w' => e = .returned (.pointer (some ⟨w.heap.size, 0, none⟩)) ∧ w' = w.alloc (.cells #[.pointer none, .int .i64 0, .int .i64 0] 68) := by
  go_enter Try.func9, Try.ntmps9
  go_wp2
  go_ret
  exact ⟨rfl, rfl⟩
theorem len_calls (p : Nat) (n : Int) (s : TS Int) (w : World) (hI : IsT kInt w p n s) : Calls Try.prog 11 #[.pointer (some ⟨p, 0, none⟩)] w fun e w' => e = .returned (.int .i64 n) ∧ w = w' := by
  have c2 := hI.c2
  clear hI
  go_enter Try.func11, Try.ntmps11
  go_wp2
  go_ret
  exact ⟨rfl, rfl⟩
theorem height_calls (p : Nat) (n : Int) (s : TS Int) (w : World) (hI : IsT kInt w p n s) : Calls Try.prog 12 #[.pointer (some ⟨p, 0, none⟩)] w fun e w' => e = .returned (.int .i64 (s.h : Int)) ∧ w = w' := by
  have c1 := hI.c1
  clear hI
  go_enter Try.func12, Try.ntmps12
  go_wp2
  go_ret
  exact ⟨rfl, rfl⟩

/-- A key that no tree of that height has room for. -/
def Away {V : Type} (s : TS V) (k : Int) : Prop := k < 0 ∨ ((16 ^ s.h : Nat) : Int) ≤ k
set_option maxRecDepth 100000 in
theorem find_away (p : Nat) (n : Int) (s : TS Int) (w : World) (k : Int) (hw : WF s) (hI : IsT kInt w p n s) (ha : Away s k) :
    Calls Try.prog 40 #[.pointer (some ⟨p, 0, none⟩), .int .i64 k] w fun e w' => e = .returned (.pointer none) ∧ w = w' := by
  have c0 := hI.c0
  have c1 := hI.c1
  have hh := hw.h5
  by_cases h0 : k < 0
  · clear ha hI hw
    go_enter Try.func40, Try.ntmps40
    go_wp2
    all_goals go_ret
    all_goals exact ⟨rfl, rfl⟩
  · have h1 : ((16 ^ s.h : Nat) : Int) ≤ k := by rcases ha with h | h; exact absurd h h0; exact h
    cases hr : s.N (s.h - 1) 0 with
    | none =>
      rw [hr, ptr_none] at c0
      have h2 : ¬ k < 0 := h0
      clear ha hI hw h1 hr h0 hh
      go_enter Try.func40, Try.ntmps40
      go_wp2
      all_goals go_ret
      all_goals exact ⟨rfl, rfl⟩
    | some a =>
      rw [hr, ptr_some] at c0
      have h2 : ¬ k < 0 := h0
      have RC := Lib.hid (fun W => room_calls s.h hh W)
      clear ha hI hw hh hr h0
      revert h1 RC
      generalize ((16 ^ s.h : Nat) : Int) = R
      intro h1 RC
      go_enter Try.func40, Try.ntmps40
      go_wp2_with (go_at_call 54; refine (RC.out _).mono ?_; rintro e w' ⟨rfl, rfl⟩)
      all_goals go_ret
      all_goals exact ⟨rfl, rfl⟩
theorem NodeIn.below' {V : Type} {w : World} {κ : Tk V} {s : TS V} {L q a d : Nat} (h : NodeIn w κ s (L + 1) q a) (hd : d < 16) : w.cell? ⟨a, d, none⟩ = some (ptr (s.N L (q * 16 + d))) := by
  have := h.cell hd
  rw [show offL (L + 1) + d = d by unfold offL; rw [if_neg (by omega)]; omega] at this
  exact this
theorem NodeIn.things' {V : Type} {w : World} {κ : Tk V} {s : TS V} {q a d : Nat} (h : NodeIn w κ s 0 q a) (hd : d < 16) : w.cell? ⟨a, 16 + d, none⟩ = some (ptr ((s.K (q * 16 + d)).map Prod.fst)) := h.cell hd
theorem digit_split (k L : Nat) : k / 16 ^ (L + 1) * 16 + k / 16 ^ L % 16 = k / 16 ^ L := by rw [div16]; omega
theorem pow16_le {h : Nat} (hh : h ≤ 5) : 16 ^ h ≤ 1048576 := by
  have := Nat.pow_le_pow_right (n := 16) (by decide) hh
  omega
set_option maxRecDepth 100000 in
theorem find_in (p : Nat) (n : Int) (s : TS Int) (w : World) (k : Nat) (hw : WF s) (hI : IsT kInt w p n s) (hk : k < 16 ^ s.h) (h0 : 0 < s.h) :
    Calls Try.prog 40 #[.pointer (some ⟨p, 0, none⟩), .int .i64 (k : Int)] w fun e w' => e = .returned (ptr ((s.K k).map Prod.fst)) ∧ ∃ m, w' = w.drewN m := by
  have c0 := hI.c0
  have c1 := hI.c1
  have hh := hw.h5
  obtain ⟨a, ha⟩ := hw.root h0
  rw [ha, ptr_some] at c0
  have RC := Lib.hid (fun W => room_calls s.h hh W)
  have hk2 : k < 1048576 := Nat.lt_of_lt_of_le hk (pow16_le hh)
  have DC := Lib.hid (fun L (hL : L ≤ 4) W => digit_q k L hk2 hL W)
  have DZ := Lib.hid (fun W => digit0_q k hk2 W)
  have HK := Lib.hid hk
  have HW := Lib.hid hw
  have HI := Lib.hid hI
  have HA := Lib.hid ha
  have hk3 : (k : Int) < ((16 ^ s.h : Nat) : Int) := Int.ofNat_lt.2 hk
  have hk4 : ¬ (k : Int) < 0 := by omega
  clear hk hw hI ha hk2
  revert hk3 RC
  generalize ((16 ^ s.h : Nat) : Int) = R
  intro RC hk3
  go_enter Try.func40, Try.ntmps40
  go_wp2_with (go_at_call 54; refine (RC.out _).mono ?_; rintro e w' ⟨rfl, rfl⟩)
  clear RC hk3
  go_loopw [5, 6] (fun nn lev wr => ∃ (L a m : Nat), lev = .int .i64 (L : Int) ∧ L < s.h ∧ nn = .pointer (some ⟨a, 0, none⟩) ∧ s.N L (k / 16 ^ (L + 1)) = some a ∧ wr = w.drewN m) (fun _ lev _ => (intOf lev).toNat)
  case atStart => exact ⟨s.h - 1, a, 0, by go_num, by omega, rfl, by have h1 := HK.out; have e : s.h - 1 + 1 = s.h := by omega
                                                                     rw [e, Nat.div_eq_of_lt h1]; exact HA.out, rfl⟩
  case round =>
    obtain ⟨L, b, m, rfl, hL, rfl, hb, rfl⟩ := hrel
    cases L with
    | zero =>
      have hd : k % 16 < 16 := Nat.mod_lt _ (by decide)
      have hc := (HI.out.node 0 _ b hb).things' hd
      have hq : k / 16 ^ (0 + 1) * 16 + k % 16 = k := by rw [Nat.zero_add, Nat.pow_one]; omega
      rw [hq] at hc
      have DD := Lib.hid (fun W => DZ.out W)
      revert hd hc DD
      generalize k % 16 = d
      intro hd hc DD
      have hd2 : (d : Int) < 16 := by omega
      clear hb hq
      go_wp2
      go_quiet ((go_at_call 44; exact qadd (DD.out _)))
      go_wp2
      go_ret
      exact ⟨rfl, _, World.drewN_drewN _ _ _⟩
    | succ L =>
      have hd : k / 16 ^ (L + 1) % 16 < 16 := Nat.mod_lt _ (by decide)
      have DD := Lib.hid (fun W => DC.out (L + 1) (by omega) W)
      have hc := (HI.out.node _ _ b hb).below' hd
      rw [digit_split] at hc
      have hno := Lib.hid (fun h => HW.out.key_none (k := k) (L := L) (by omega) h)
      revert hd DD hc
      generalize k / 16 ^ (L + 1) % 16 = d
      intro hd DD hc
      have hd2 : (d : Int) < 16 := by omega
      have hpos : (0 : Int) < ((L + 1 : Nat) : Int) := by omega
      have hm1 : ((L + 1 : Nat) : Int) - 1 = (L : Int) := by omega
      clear hb
      cases hn : s.N L (k / 16 ^ (L + 1)) with
      | none =>
        rw [hn, ptr_none] at hc
        have HZ := Lib.hid (hno.out hn)
        clear hn
        go_wp2
        go_quiet ((go_at_call 44; exact qadd (DD.out _)))
        go_wp2
        go_ret
        exact ⟨by rw [HZ.out]; rfl, _, rfl⟩
      | some c =>
        rw [hn, ptr_some] at hc
        have HN := Lib.hid hn
        clear hn
        go_wp2
        go_quiet ((go_at_call 44; exact qadd (DD.out _)))
        go_wp2
        go_roundw
        case rel => exact ⟨L, c, _, by go_num, by omega, rfl, HN.out, rfl⟩
        case measure => simp [intOf]
/-- find: the thing's place, or none. -/
def keyOf {V : Type} (s : TS V) (k : Int) : Option (Nat × V) := if k < 0 then none else s.K k.toNat
theorem find_calls (p : Nat) (n : Int) (s : TS Int) (w : World) (k : Int) (hw : WF s) (hI : IsT kInt w p n s) :
    Calls Try.prog 40 #[.pointer (some ⟨p, 0, none⟩), .int .i64 k] w fun e w' => e = .returned (ptr ((keyOf s k).map Prod.fst)) ∧ ∃ m, w' = w.drewN m := by
  by_cases ha : Away s k
  · refine (find_away p n s w k hw hI ha).mono ?_
    rintro e w' ⟨rfl, rfl⟩
    refine ⟨?_, 0, rfl⟩
    have : keyOf s k = none := by
      unfold keyOf
      by_cases h : k < 0
      · rw [if_pos h]
      · rw [if_neg h]
        rcases ha with ha | ha
        · exact absurd ha h
        · cases e : s.K k.toNat with
          | none => rfl
          | some x => have := hw.key_lt e; omega
    rw [this]; rfl
  · have h0 : ¬ k < 0 := fun h => ha (.inl h)
    have h1 : k < ((16 ^ s.h : Nat) : Int) := by
      by_cases h : k < ((16 ^ s.h : Nat) : Int)
      · exact h
      · exact absurd (.inr (by omega)) ha
    obtain ⟨j, rfl⟩ : ∃ j : Nat, k = j := ⟨k.toNat, by omega⟩
    have e : keyOf s (j : Int) = s.K j := by unfold keyOf; rw [if_neg h0]; rfl
    rw [e]
    by_cases hh : 0 < s.h
    · exact find_in p n s w j hw hI (Int.ofNat_lt.1 h1) hh
    · have hj : j = 0 := by have e : s.h = 0 := by omega
                            rw [e] at h1; omega
      have hz : s.K j = none := by
        cases e : s.K j with
        | none => rfl
        | some x => obtain ⟨b, hb⟩ := hw.ku _ _ e; have := hw.lv _ _ _ hb; omega
      have hr : s.N (s.h - 1) 0 = none := by
        cases e : s.N (s.h - 1) 0 with
        | none => rfl
        | some x => have := hw.lv _ _ _ e; omega
      have c0 := hI.c0
      rw [hr, ptr_none] at c0
      rw [hz]
      clear hI hw hr hz e ha hh hj h1
      go_enter Try.func40, Try.ntmps40
      go_wp2
      all_goals go_ret
      all_goals exact ⟨rfl, 0, rfl⟩
def getV {V : Type} (o : Option (Nat × V)) (d : V) : V := match o with | none => d | some x => x.2
theorem get_calls (p : Nat) (n : Int) (s : TS Int) (w : World) (k : Int) (hw : WF s) (hI : IsT kInt w p n s) :
    Calls Try.prog 18 #[.pointer (some ⟨p, 0, none⟩), .int .i64 k] w fun e w' => e = .returned (.tuple #[.int .i64 (getV (keyOf s k) 0), .bool (keyOf s k).isSome]) ∧ ∃ m, w' = w.drewN m := by
  have FC := find_calls p n s w k hw hI
  cases e : keyOf s k with
  | none =>
    rw [e] at FC
    have FC : Calls Try.prog 40 #[.pointer (some ⟨p, 0, none⟩), .int .i64 k] w fun e w' => e = .returned (.pointer none) ∧ ∃ m, w' = w.drewN m := FC
    have FC := Lib.hid FC
    clear hw hI e
    go_enter Try.func18, Try.ntmps18
    go_wp2_with (go_at_call 40; refine FC.out.mono ?_; rintro e w' ⟨rfl, m, rfl⟩)
    go_ret2
    exact ⟨rfl, m, rfl⟩
  | some x =>
    rw [e] at FC
    obtain ⟨a, v⟩ := x
    have FC : Calls Try.prog 40 #[.pointer (some ⟨p, 0, none⟩), .int .i64 k] w fun e w' => e = .returned (.pointer (some ⟨a, 0, none⟩)) ∧ ∃ m, w' = w.drewN m := FC
    have FC := Lib.hid FC
    have hc : w.cell? ⟨a, 0, none⟩ = some (.int .i64 v) := by
      have h : s.K k.toNat = some (a, v) := by
        unfold keyOf at e
        split at e
        · cases e
        · exact e
      exact cell_of (hI.thing _ a v h) rfl
    clear hw hI e
    go_enter Try.func18, Try.ntmps18
    go_wp2_with (go_at_call 40; refine FC.out.mono ?_; rintro e w' ⟨rfl, m, rfl⟩)
    go_ret2
    exact ⟨rfl, m, rfl⟩
end Go.Proofs.Ythpjcbaijbppiaa
