/- The program's book: Open, Real, Wait. -/
import Derived.Test.YtmohijpkhmeibaaMBase
import Derived.Deep.RegionHeld3
import Derived.Deep.DeepCutAuto
import Derived.BigQuiet
import Derived.Deep.AppendLies
import Derived.Maps.AppendAt
import Derived.OwnWalk
import Derived.RowKit3
namespace Go.Proofs.Ytmohijpkhmeibaa
open Go.RowKit Go.Proofs
set_option linter.unusedVariables false
set_option linter.unusedSimpArgs false
set_option maxRecDepth 100000
/-- The open block, if there is one, is a block. -/
def OpnOk (b : Bks) : Prop := b.opn = -1 ∨ ∃ (k : Nat) (x : Blk), b.opn = (k : Int) ∧ b.all[k]? = some x
theorem open_calls (p q cap : Nat) (b : Bks) (w : World) (hI : IsB w p q cap b) :
    Calls Try.prog 19 #[.pointer (some ⟨p, 0, none⟩)] w fun e w' => e = .returned (.tuple #[.int .i64 (if b.opn = -1 then 0 else b.opn), .bool (b.opn != -1)]) ∧ w = w' := by
  have c5 := hI.c5
  clear hI
  by_cases h : b.opn = -1
  · rw [h] at c5
    rw [if_pos h, h]
    clear h
    go_enter Try.func19, Try.ntmps19
    go_wp2
    go_ret2
    exact ⟨rfl, rfl⟩
  · have h1 : (b.opn == -1) = false := beq_eq_false_iff_ne.2 h
    have h2 : (b.opn != -1) = true := bne_iff_ne.2 h
    rw [if_neg h, h2]
    generalize b.opn = o at *
    clear h
    go_enter Try.func19, Try.ntmps19
    go_wp2
    go_ret2
    exact ⟨rfl, rfl⟩
def Blk.setReal (x : Blk) : Blk := { x with real := true }
theorem real_none (p q cap : Nat) (b : Bks) (w : World) (hI : IsB w p q cap b) (h : b.opn = -1) :
    Calls Try.prog 42 #[.pointer (some ⟨p, 0, none⟩)] w fun e w' => e = .returned (.int .i64 110) ∧ w = w' := by
  have c5 := hI.c5
  rw [h] at c5
  clear hI h
  go_enter Try.func42, Try.ntmps42
  go_wp2
  go_ret
  exact ⟨rfl, rfl⟩
theorem real_some (p q cap : Nat) (b : Bks) (k : Nat) (x : Blk) (w : World) (hI : IsB w p q cap b) (h : b.opn = (k : Int)) (hx : b.all[k]? = some x) :
    Calls Try.prog 42 #[.pointer (some ⟨p, 0, none⟩)] w fun e w' => e = .returned (.int .i64 0) ∧ IsB w' p q cap { b with all := b.all.set k x.setReal } ∧ Off (· = q) w w' := by
  have hk : k < b.all.length := (List.getElem?_eq_some_iff.1 hx).1
  have c1 := hI.c1
  have c5 := hI.c5
  rw [h] at c5
  have e2 := hI.e2 hx
  have f2 := hI.rf (k * 5 + 2)
  have h1 : ((k : Int) == -1) = false := beq_eq_false_iff_ne.2 (by omega)
  have hkl : (k : Int) < (b.all.length : Int) := by omega
  have hk0 : (0 : Int) ≤ (k : Int) := by omega
  have hne : p ≠ q := hI.ne
  have hle := hI.le
  have HI := Lib.hid (And.intro (hI.drewN 1) hx)
  clear hI hx h
  go_enter Try.func42, Try.ntmps42
  go_wp2
  go_region
  go_wp2
  go_ret
  exact ⟨rfl, HI.out.1.setRow (y := x.setReal) HI.out.2 (j := 2) (by decide) rfl, ((Off.refl (· = q) w).drew).setCell (p := ⟨q, k * 5 + 2, none⟩) (.inl rfl) _⟩
end Go.Proofs.Ytmohijpkhmeibaa
/- The program's book: Wait, empty, settle, Shut. -/
namespace Go.Proofs.Ytmohijpkhmeibaa
open Go.RowKit Go.Proofs
set_option linter.unusedVariables false
set_option linter.unusedSimpArgs false
set_option maxRecDepth 100000
theorem wait_none (p q cap : Nat) (b : Bks) (w : World) (hI : IsB w p q cap b) (h : b.opn = -1) :
    Calls Try.prog 44 #[.pointer (some ⟨p, 0, none⟩)] w fun e w' => e = .returned (.int .i64 110) ∧ w = w' := by
  have c5 := hI.c5
  rw [h] at c5
  clear hI h
  go_enter Try.func44, Try.ntmps44
  go_wp2
  go_ret
  exact ⟨rfl, rfl⟩
theorem wait_some (p q cap : Nat) (b : Bks) (k : Nat) (x : Blk) (w : World) (hI : IsB w p q cap b) (h : b.opn = (k : Int)) (hx : b.all[k]? = some x) :
    Calls Try.prog 44 #[.pointer (some ⟨p, 0, none⟩)] w fun e w' => e = .returned (.int .i64 0) ∧ IsB w' p q cap { b with all := b.all.set k { x with state := 4 }, opn := -1 } ∧ Off (fun i => i = q ∨ i = p) w w' := by
  have hk : k < b.all.length := (List.getElem?_eq_some_iff.1 hx).1
  have c1 := hI.c1
  have c5 := hI.c5
  rw [h] at c5
  have e0 := hI.e0 hx
  have f0 := hI.rf (k * 5)
  have h1 : ((k : Int) == -1) = false := beq_eq_false_iff_ne.2 (by omega)
  have hkl : (k : Int) < (b.all.length : Int) := by omega
  have hk0 : (0 : Int) ≤ (k : Int) := by omega
  have hle := hI.le
  have h2 := hI.setRow (y := { x with state := 4 }) hx (j := 0) (v := .int .i64 4) (by decide) rfl
  have d5 := h2.c5
  have f5 := hI.cf 5
  have H2 := Lib.hid h2
  rw [show k * 5 + 0 = k * 5 from rfl] at d5 H2
  clear hI hx h h2
  go_enter Try.func44, Try.ntmps44
  go_wp2
  go_region
  go_wp2
  go_ret
  exact ⟨rfl, (H2.out.setHead (j := 5) (v := .int .i64 (-1)) (b' := { b with all := b.all.set k { x with state := 4 }, opn := -1 }) rfl rfl).drewN 1, (((Off.refl (fun i => i = q ∨ i = p) w).setCell (p := ⟨q, k * 5, none⟩) (.inl (.inl rfl)) _).setCell (p := ⟨p, 5, none⟩) (.inl (.inr rfl)) _).drew⟩
def freeBlk : Blk := ⟨0, 0, false, 0, false⟩
def heldBlk : Blk := ⟨5, 0, false, 0, false⟩
def emptyB (b : Bks) (k : Nat) : Bks := { b with all := b.all.set k (if (k : Int) = b.last then heldBlk else freeBlk) }
theorem empty_calls (p q cap : Nat) (b : Bks) (k : Nat) (x : Blk) (w : World) (hI : IsB w p q cap b) (hx : b.all[k]? = some x) :
    Calls Try.prog 71 #[.pointer (some ⟨p, 0, none⟩), .int .i64 (k : Int)] w fun e w' => (∃ v, e = .returned v) ∧ IsB w' p q cap (emptyB b k) ∧ Off (· = q) w w' := by
  have hk : k < b.all.length := (List.getElem?_eq_some_iff.1 hx).1
  have c1 := hI.c1
  have c3 := hI.c3
  have e0 := hI.e0 hx
  have e1 := hI.e1 hx
  have e2 := hI.e2 hx
  have e3 := hI.e3 hx
  have e4 := hI.e4 hx
  have f0 := hI.rf (k * 5)
  have f1 := hI.rf (k * 5 + 1)
  have f2 := hI.rf (k * 5 + 2)
  have f3 := hI.rf (k * 5 + 3)
  have f4 := hI.rf (k * 5 + 4)
  have hkl : (k : Int) < (b.all.length : Int) := by omega
  have hk0 : (0 : Int) ≤ (k : Int) := by omega
  have hle := hI.le
  have h2 := hI.setAll freeBlk hx
  have hgx : ({ b with all := b.all.set k freeBlk } : Bks).all[k]? = some freeBlk := List.getElem?_set_self hk
  have g0 := h2.e0 hgx
  have g1 := h2.c1
  have g3 := h2.c3
  have gf := h2.rf (k * 5)
  have ho : Off (· = q) w (((((w.setCell ⟨q, k * 5, none⟩ (.int .i64 freeBlk.state)).setCell ⟨q, k * 5 + 1, none⟩ (.int .u64 freeBlk.head)).setCell ⟨q, k * 5 + 2, none⟩ (.bool freeBlk.real)).setCell ⟨q, k * 5 + 3, none⟩ (.int .i64 freeBlk.live)).setCell ⟨q, k * 5 + 4, none⟩ (.bool freeBlk.left)) :=
    (((((Off.refl (· = q) w).setCell (p := ⟨q, _, none⟩) (.inl rfl) _).setCell (p := ⟨q, _, none⟩) (.inl rfl) _).setCell (p := ⟨q, _, none⟩) (.inl rfl) _).setCell (p := ⟨q, _, none⟩) (.inl rfl) _).setCell (p := ⟨q, _, none⟩) (.inl rfl) _
  have HO := Lib.hid ho
  have H2 := Lib.hid h2
  have HG := Lib.hid hgx
  clear hI hx h2 hgx ho
  simp only [freeBlk] at g0 g1 g3 gf
  simp only [List.length_set] at g1
  by_cases hl : (k : Int) = b.last
  · have hb : ((k : Int) == b.last) = true := beq_iff_eq.2 hl
    have HL := Lib.hid hl
    clear hl
    go_enter Try.func71, Try.ntmps71
    go_wp2
    go_end0
    have hs := H2.out.setRow (y := heldBlk) HG.out (j := 0) (v := .int .i64 5) (by decide) rfl
    refine ⟨⟨_, rfl⟩, ?_, HO.out.setCell (p := ⟨q, k * 5, none⟩) (.inl rfl) _⟩
    unfold emptyB
    rw [if_pos HL.out]
    simpa [freeBlk] using hs
  · have hb : ((k : Int) == b.last) = false := beq_eq_false_iff_ne.2 hl
    have HL := Lib.hid hl
    clear hl
    go_enter Try.func71, Try.ntmps71
    go_wp2
    go_end0
    refine ⟨⟨_, rfl⟩, ?_, HO.out⟩
    unfold emptyB
    rw [if_neg HL.out]
    exact H2.out
end Go.Proofs.Ytmohijpkhmeibaa
/- The program's book: settle, Shut. -/
namespace Go.Proofs.Ytmohijpkhmeibaa
open Go.RowKit Go.Proofs
set_option linter.unusedVariables false
set_option linter.unusedSimpArgs false
set_option maxRecDepth 100000
def hollowB (x : Blk) : Bool := x.state == 1 && (!x.real && x.live == 0)
def settleB (b : Bks) (k : Nat) (x : Blk) : Bks := if (k : Int) = b.victim then b else if hollowB x = true then emptyB b k else b
theorem settle_none (p q cap : Nat) (b : Bks) (w : World) (hI : IsB w p q cap b) :
    Calls Try.prog 40 #[.pointer (some ⟨p, 0, none⟩), .int .i64 (-1)] w fun e w' => (∃ v, e = .returned v) ∧ w = w' := by
  clear hI
  go_enter Try.func40, Try.ntmps40
  go_wp2
  refine bodyPost_ret (results_none rfl _ _ _) rfl ?_
  exact ⟨⟨_, rfl⟩, rfl⟩
theorem settle_calls (p q cap : Nat) (b : Bks) (k : Nat) (x : Blk) (w : World) (hI : IsB w p q cap b) (hx : b.all[k]? = some x) :
    Calls Try.prog 40 #[.pointer (some ⟨p, 0, none⟩), .int .i64 (k : Int)] w fun e w' => (∃ v, e = .returned v) ∧ IsB w' p q cap (settleB b k x) ∧ Off (· = q) w w' := by
  have hk : k < b.all.length := (List.getElem?_eq_some_iff.1 hx).1
  have c1 := hI.c1
  have c4 := hI.c4
  have e0 := hI.e0 hx
  have e1 := hI.e1 hx
  have e2 := hI.e2 hx
  have e3 := hI.e3 hx
  have e4 := hI.e4 hx
  have hkl : (k : Int) < (b.all.length : Int) := by omega
  have hk0 : (0 : Int) ≤ (k : Int) := by omega
  have hn1 : ((k : Int) == -1) = false := beq_eq_false_iff_ne.2 (by omega)
  have hle := hI.le
  have HI := Lib.hid hI
  have EC := Lib.hid (fun o : Obj => empty_calls p q cap b k x (w.alloc o) (hI.alloc o) hx)
  have HB := Lib.hid (fun o : Obj => (Below.refl w.heap.size w).alloc (Nat.le_refl _) o)
  clear hI hx
  unfold settleB
  by_cases hv : (k : Int) = b.victim
  · have hvb : ((k : Int) == b.victim) = true := beq_iff_eq.2 hv
    rw [if_pos hv]
    clear hv
    go_enter Try.func40, Try.ntmps40
    go_wp2
    refine bodyPost_ret (results_none rfl _ _ _) rfl ?_
    exact ⟨⟨_, rfl⟩, HI.out, Off.refl _ _⟩
  rw [if_neg hv]
  have hvb : ((k : Int) == b.victim) = false := beq_eq_false_iff_ne.2 hv
  clear hv
  cases hs : (x.state == 1)
  · have hh : hollowB x = false := by unfold hollowB; rw [hs]; rfl
    rw [if_neg (by rw [hh]; decide)]
    clear hh
    go_enter Try.func40, Try.ntmps40
    go_wp2
    go_end0
    exact ⟨⟨_, rfl⟩, HI.out.alloc _, Off.of_below (HB.out _)⟩
  cases hr : x.real
  · rw [hr] at e2
    cases hl : (x.live == 0)
    · have hh : hollowB x = false := by unfold hollowB; rw [hs, hr, hl]; rfl
      rw [if_neg (by rw [hh]; decide)]
      clear hh
      go_enter Try.func40, Try.ntmps40
      go_wp2
      go_end0
      exact ⟨⟨_, rfl⟩, HI.out.alloc _, Off.of_below (HB.out _)⟩
    · have hh : hollowB x = true := by unfold hollowB; rw [hs, hr, hl]; rfl
      rw [if_pos hh]
      clear hh
      go_enter Try.func40, Try.ntmps40
      go_wp2_with (go_at_call 71; refine (EC.out _).mono ?_; rintro e w1 ⟨⟨v, rfl⟩, h1, h2⟩; have H1 := Lib.hid h1; have H2 := Lib.hid h2; clear h1 h2)
      go_end0
      exact ⟨⟨_, rfl⟩, H1.out, (Off.of_below (S := (· = q)) (HB.out _)).trans' H2.out fun _ _ h => h⟩
  · rw [hr] at e2
    have hh : hollowB x = false := by unfold hollowB; rw [hs, hr]; rfl
    rw [if_neg (by rw [hh]; decide)]
    clear hh
    go_enter Try.func40, Try.ntmps40
    go_wp2
    go_end0
    exact ⟨⟨_, rfl⟩, HI.out.alloc _, Off.of_below (HB.out _)⟩
theorem shut_none (p q cap : Nat) (b : Bks) (w : World) (hI : IsB w p q cap b) (h : b.opn = -1) :
    Calls Try.prog 43 #[.pointer (some ⟨p, 0, none⟩)] w fun e w' => e = .returned (.int .i64 110) ∧ w = w' := by
  have c5 := hI.c5
  rw [h] at c5
  clear hI h
  go_enter Try.func43, Try.ntmps43
  go_wp2
  go_ret
  exact ⟨rfl, rfl⟩
def shutB (b : Bks) (k : Nat) (x : Blk) : Bks := { b with all := b.all.set k { x with state := 1 }, opn := -1 }
theorem shut_some (p q cap : Nat) (b : Bks) (k : Nat) (x : Blk) (w : World) (hI : IsB w p q cap b) (h : b.opn = (k : Int)) (hx : b.all[k]? = some x) :
    Calls Try.prog 43 #[.pointer (some ⟨p, 0, none⟩)] w fun e w' => e = .returned (.int .i64 0) ∧ IsB w' p q cap (settleB (shutB b k x) k { x with state := 1 }) ∧ Off (fun i => i = q ∨ i = p) w w' := by
  have hk : k < b.all.length := (List.getElem?_eq_some_iff.1 hx).1
  have c5 := hI.c5
  rw [h] at c5
  have f5 := hI.cf 5
  have h1 : ((k : Int) == -1) = false := beq_eq_false_iff_ne.2 (by omega)
  have hkl : (k : Int) < (b.all.length : Int) := by omega
  have hk0 : (0 : Int) ≤ (k : Int) := by omega
  have hle := hI.le
  have h2 := hI.setHead (j := 5) (v := .int .i64 (-1)) (b' := { b with opn := -1 }) rfl rfl
  have d1 := h2.c1
  have d0 := h2.e0 hx
  have g0 := hI.rf (k * 5)
  have h3 := h2.setRow (y := { x with state := 1 }) hx (j := 0) (v := .int .i64 1) (by decide) rfl
  rw [show k * 5 + 0 = k * 5 from rfl] at h3
  have SC := Lib.hid (settle_calls p q cap (shutB b k x) k { x with state := 1 } _ h3 (List.getElem?_set_self hk))
  clear hI hx h h2 h3
  go_enter Try.func43, Try.ntmps43
  go_wp2_with (go_at_call 40; refine SC.out.mono ?_; rintro e w1 ⟨⟨v, rfl⟩, h1, h2⟩; have H1 := Lib.hid h1; have H2 := Lib.hid h2; clear h1 h2)
  go_ret
  exact ⟨rfl, H1.out, (((Off.refl (fun i => i = q ∨ i = p) w).setCell (p := ⟨p, 5, none⟩) (.inl (.inr rfl)) _).setCell (p := ⟨q, k * 5, none⟩) (.inl (.inl rfl)) _).trans' H2.out fun _ _ h => .inl h⟩
end Go.Proofs.Ytmohijpkhmeibaa
/- The program's book: Leave. -/
namespace Go.Proofs.Ytmohijpkhmeibaa
open Go.RowKit Go.Proofs
set_option linter.unusedVariables false
set_option linter.unusedSimpArgs false
set_option maxRecDepth 100000
/-- The block as it has left, where it may. -/
def leaveX (x : Blk) : Option Blk := if x.live = 0 then if x.state = 1 then some { x with state := 3 } else if x.state = 4 ∧ x.left = false then some { x with left := true } else none else none
def leftB (b : Bks) (k : Nat) (y : Blk) : Bks := { b with all := b.all.set k y, victim := if (k : Int) = b.victim then -1 else b.victim }
theorem leave_away (p q cap : Nat) (b : Bks) (n : Int) (w : World) (hI : IsB w p q cap b) (h : n < 0 ∨ b.all.length ≤ n) :
    Calls Try.prog 18 #[.pointer (some ⟨p, 0, none⟩), .int .i64 n] w fun e w' => e = .returned (.int .i64 41) ∧ w = w' := by
  have CA := Lib.hid (at_no p q cap b n w hI h)
  clear hI h
  go_enter Try.func18, Try.ntmps18
  go_wp2_with fail
  refine CA.out.mono ?_
  rintro e w' ⟨rfl, rfl⟩
  go_wp2
  go_ret
  exact ⟨rfl, rfl⟩
theorem leave_in (p q cap : Nat) (b : Bks) (k : Nat) (x : Blk) (w : World) (hI : IsB w p q cap b) (hx : b.all[k]? = some x) :
    Calls Try.prog 18 #[.pointer (some ⟨p, 0, none⟩), .int .i64 (k : Int)] w fun e w' => match leaveX x with
      | none => e = .returned (.int .i64 110) ∧ w = w'
      | some y => e = .returned (.int .i64 0) ∧ IsB w' p q cap (leftB b k y) ∧ Off (fun i => i = q ∨ i = p) w w' := by
  have hk : k < b.all.length := (List.getElem?_eq_some_iff.1 hx).1
  have CA := Lib.hid (at_yes p q cap b k w hI (by omega) (by omega))
  have e0 := hI.e0 hx
  have e3 := hI.e3 hx
  have e4 := hI.e4 hx
  have f0 := hI.rf (k * 5)
  have f4 := hI.rf (k * 5 + 4)
  have v4 := hI.cf 4
  have HI := Lib.hid hI
  have HX := Lib.hid hx
  have hkn : (k : Int).toNat = k := Int.toNat_natCast k
  by_cases hl : x.live = 0
  · have nl : (x.live != 0) = false := by rw [hl]; rfl
    by_cases h1 : x.state = 1
    · have e : leaveX x = some { x with state := 3 } := by unfold leaveX; rw [if_pos hl, if_pos h1]
      rw [e]
      have n1 : (x.state == 1) = true := beq_iff_eq.2 h1
      have hs := hI.setRow (y := { x with state := 3 }) hx (j := 0) (v := .int .i64 3) (by decide) rfl
      rw [show k * 5 + 0 = k * 5 from rfl] at hs
      have d4 := hs.c4
      have HS := Lib.hid hs
      clear hI hx hs e hl h1
      by_cases hv : (k : Int) = b.victim
      · have nv : ((k : Int) == b.victim) = true := beq_iff_eq.2 hv
        have HV := Lib.hid hv
        clear hv
        go_enter Try.func18, Try.ntmps18
        go_wp2_with fail
        refine CA.out.mono ?_
        rintro e w' ⟨rfl, rfl⟩
        rw [hkn]
        go_wp2
        go_ret
        refine ⟨rfl, ?_, ((Off.refl (fun i => i = q ∨ i = p) w).setCell (p := ⟨q, k * 5, none⟩) (.inl (.inl rfl)) _).setCell (p := ⟨p, 4, none⟩) (.inl (.inr rfl)) _⟩
        unfold leftB
        rw [if_pos HV.out]
        exact HS.out.setHead (j := 4) (v := .int .i64 (-1)) (b' := { b with all := b.all.set k { x with state := 3 }, victim := -1 }) rfl rfl
      · have nv : ((k : Int) == b.victim) = false := beq_eq_false_iff_ne.2 hv
        have HV := Lib.hid hv
        clear hv
        go_enter Try.func18, Try.ntmps18
        go_wp2_with fail
        refine CA.out.mono ?_
        rintro e w' ⟨rfl, rfl⟩
        rw [hkn]
        go_wp2
        go_ret
        refine ⟨rfl, ?_, (Off.refl (fun i => i = q ∨ i = p) w).setCell (p := ⟨q, k * 5, none⟩) (.inl (.inl rfl)) _⟩
        unfold leftB
        rw [if_neg HV.out]
        exact HS.out
    · have n1 : (x.state == 1) = false := beq_eq_false_iff_ne.2 h1
      by_cases h4 : x.state = 4
      · have n4 : (x.state == 4) = true := beq_iff_eq.2 h4
        cases hf : x.left
        · have e : leaveX x = some { x with left := true } := by unfold leaveX; rw [if_pos hl, if_neg h1, if_pos ⟨h4, hf⟩]
          rw [e]
          rw [hf] at e4
          have hs := hI.setRow (y := { x with left := true }) hx (j := 4) (v := .bool true) (by decide) rfl
          have d4 := hs.c4
          have HS := Lib.hid hs
          clear hI hx hs e hl h1 h4
          by_cases hv : (k : Int) = b.victim
          · have nv : ((k : Int) == b.victim) = true := beq_iff_eq.2 hv
            have HV := Lib.hid hv
            clear hv
            go_enter Try.func18, Try.ntmps18
            go_wp2_with fail
            refine CA.out.mono ?_
            rintro e w' ⟨rfl, rfl⟩
            rw [hkn]
            go_wp2
            go_ret
            refine ⟨rfl, ?_, ((Off.refl (fun i => i = q ∨ i = p) w).setCell (p := ⟨q, k * 5 + 4, none⟩) (.inl (.inl rfl)) _).setCell (p := ⟨p, 4, none⟩) (.inl (.inr rfl)) _⟩
            unfold leftB
            rw [if_pos HV.out]
            exact HS.out.setHead (j := 4) (v := .int .i64 (-1)) (b' := { b with all := b.all.set k { x with left := true }, victim := -1 }) rfl rfl
          · have nv : ((k : Int) == b.victim) = false := beq_eq_false_iff_ne.2 hv
            have HV := Lib.hid hv
            clear hv
            go_enter Try.func18, Try.ntmps18
            go_wp2_with fail
            refine CA.out.mono ?_
            rintro e w' ⟨rfl, rfl⟩
            rw [hkn]
            go_wp2
            go_ret
            refine ⟨rfl, ?_, (Off.refl (fun i => i = q ∨ i = p) w).setCell (p := ⟨q, k * 5 + 4, none⟩) (.inl (.inl rfl)) _⟩
            unfold leftB
            rw [if_neg HV.out]
            exact HS.out
        · have e : leaveX x = none := by unfold leaveX; rw [if_pos hl, if_neg h1, if_neg (fun h => by rw [hf] at h; cases h.2)]
          rw [e]
          rw [hf] at e4
          clear hI hx e hl h1 h4
          go_enter Try.func18, Try.ntmps18
          go_wp2_with fail
          refine CA.out.mono ?_
          rintro e w' ⟨rfl, rfl⟩
          rw [hkn]
          go_wp2
          go_ret
          exact ⟨rfl, rfl⟩
      · have n4 : (x.state == 4) = false := beq_eq_false_iff_ne.2 h4
        have e : leaveX x = none := by unfold leaveX; rw [if_pos hl, if_neg h1, if_neg (fun h => h4 h.1)]
        rw [e]
        clear hI hx e hl h1 h4
        go_enter Try.func18, Try.ntmps18
        go_wp2_with fail
        refine CA.out.mono ?_
        rintro e w' ⟨rfl, rfl⟩
        rw [hkn]
        go_wp2
        go_ret
        exact ⟨rfl, rfl⟩
  · have nl : (x.live != 0) = true := bne_iff_ne.2 hl
    have e : leaveX x = none := by unfold leaveX; rw [if_neg hl]
    rw [e]
    clear hI hx e hl
    go_enter Try.func18, Try.ntmps18
    go_wp2_with fail
    refine CA.out.mono ?_
    rintro e w' ⟨rfl, rfl⟩
    rw [hkn]
    go_wp2
    go_ret
    exact ⟨rfl, rfl⟩
end Go.Proofs.Ytmohijpkhmeibaa
/- The program's book: Start. -/
namespace Go.Proofs.Ytmohijpkhmeibaa
open Go.RowKit Go.Proofs
set_option linter.unusedVariables false
set_option linter.unusedSimpArgs false
set_option maxRecDepth 100000
/-- May it be the open one? -/
def StartOk (b : Bks) (x : Blk) (h : Int) : Prop := x.state = 0 ∧ b.opn = -1 ∧ h ≠ 0 ∧ h ≤ 281474976710655 ∧ ∀ y ∈ b.all, y.head < h
def openBlk (h : Int) : Blk := ⟨2, h, false, 0, false⟩
theorem start_away (p q cap : Nat) (b : Bks) (n h : Int) (w : World) (hI : IsB w p q cap b) (hn : n < 0 ∨ b.all.length ≤ n) :
    Calls Try.prog 41 #[.pointer (some ⟨p, 0, none⟩), .int .i64 n, .int .u64 h] w fun e w' => e = .returned (.int .i64 41) ∧ w = w' := by
  have CA := Lib.hid (at_no p q cap b n w hI hn)
  clear hI hn
  go_enter Try.func41, Try.ntmps41
  go_wp2_with fail
  refine CA.out.mono ?_
  rintro e w' ⟨rfl, rfl⟩
  go_wp2
  go_ret
  exact ⟨rfl, rfl⟩
theorem start_no (p q cap : Nat) (b : Bks) (k : Nat) (x : Blk) (h : Int) (w : World) (hI : IsB w p q cap b) (hx : b.all[k]? = some x) (hno : ¬ (x.state = 0 ∧ b.opn = -1 ∧ h ≠ 0 ∧ h ≤ 281474976710655)) :
    Calls Try.prog 41 #[.pointer (some ⟨p, 0, none⟩), .int .i64 (k : Int), .int .u64 h] w fun e w' => e = .returned (.int .i64 110) ∧ w = w' := by
  have hk : k < b.all.length := (List.getElem?_eq_some_iff.1 hx).1
  have CA := Lib.hid (at_yes p q cap b k w hI (by omega) (by omega))
  have e0 := hI.e0 hx
  have c5 := hI.c5
  have hkn : (k : Int).toNat = k := Int.toNat_natCast k
  clear hI hx
  by_cases h0 : x.state = 0
  · have n0 : (x.state != 0) = false := by rw [h0]; rfl
    by_cases h5 : b.opn = -1
    · have n5 : (b.opn != -1) = false := by rw [h5]; rfl
      by_cases hz : h = 0
      · subst hz
        clear hno h0 h5
        go_enter Try.func41, Try.ntmps41
        go_wp2_with fail
        refine CA.out.mono ?_
        rintro e w' ⟨rfl, rfl⟩
        rw [hkn]
        go_wp2
        go_ret
        exact ⟨rfl, rfl⟩
      · have nz : (h == 0) = false := beq_eq_false_iff_ne.2 hz
        have hm : 281474976710655 < h := by
          by_cases e : 281474976710655 < h
          · exact e
          · exact absurd ⟨h0, h5, hz, by omega⟩ hno
        clear hno h0 h5 hz
        go_enter Try.func41, Try.ntmps41
        go_wp2_with fail
        refine CA.out.mono ?_
        rintro e w' ⟨rfl, rfl⟩
        rw [hkn]
        go_wp2
        go_ret
        exact ⟨rfl, rfl⟩
    · have n5 : (b.opn != -1) = true := bne_iff_ne.2 h5
      clear hno h0 h5
      go_enter Try.func41, Try.ntmps41
      go_wp2_with fail
      refine CA.out.mono ?_
      rintro e w' ⟨rfl, rfl⟩
      rw [hkn]
      go_wp2
      go_ret
      exact ⟨rfl, rfl⟩
  · have n0 : (x.state != 0) = true := bne_iff_ne.2 h0
    clear hno h0
    go_enter Try.func41, Try.ntmps41
    go_wp2_with fail
    refine CA.out.mono ?_
    rintro e w' ⟨rfl, rfl⟩
    rw [hkn]
    go_wp2
    go_ret
    exact ⟨rfl, rfl⟩
theorem start_in (p q cap : Nat) (b : Bks) (k : Nat) (x : Blk) (h : Int) (w : World) (hI : IsB w p q cap b) (hx : b.all[k]? = some x) (hok : x.state = 0 ∧ b.opn = -1 ∧ h ≠ 0 ∧ h ≤ 281474976710655) :
    Calls Try.prog 41 #[.pointer (some ⟨p, 0, none⟩), .int .i64 (k : Int), .int .u64 h] w fun e w' =>
      ((∀ y ∈ b.all, y.head < h) ∧ e = .returned (.int .i64 0) ∧ IsB w' p q cap { b with all := b.all.set k (openBlk h), opn := (k : Int) } ∧ Off (fun i => i = q ∨ i = p) w w') ∨
      ((∃ y ∈ b.all, h ≤ y.head) ∧ e = .returned (.int .i64 110) ∧ Below w.heap.size w w') := by
  have hk : k < b.all.length := (List.getElem?_eq_some_iff.1 hx).1
  have CA := Lib.hid (at_yes p q cap b k w hI (by omega) (by omega))
  have e0 := hI.e0 hx
  have c1 := hI.c1
  have c5 := hI.c5
  have hkn : (k : Int).toNat = k := Int.toNat_natCast k
  obtain ⟨h0, h5, hz, hm⟩ := hok
  have n0 : (x.state != 0) = false := by rw [h0]; rfl
  have n5 : (b.opn != -1) = false := by rw [h5]; rfl
  have nz : (h == 0) = false := beq_eq_false_iff_ne.2 hz
  have hle := hI.le
  have HI := Lib.hid hI
  have HX := Lib.hid hx
  clear hI hx h0 h5 hz
  go_enter Try.func41, Try.ntmps41
  go_wp2_with fail
  refine CA.out.mono ?_
  rintro e w' ⟨rfl, rfl⟩
  rw [hkn]
  go_wp2
  go_loopw [9, 41] (fun _ i wr => ∃ j : Nat, j ≤ b.all.length ∧ i = .int .i64 (j : Int) ∧ (∀ y ∈ b.all.take j, y.head < h) ∧ Below w.heap.size w wr) (fun _ i _ => b.all.length - (intOf i).toNat)
  case atStart => exact ⟨0, by omega, rfl, fun y hy => by simp at hy, Below.refl _ _⟩
  case round =>
    obtain ⟨j, hj, rfl, hall, hb⟩ := hrel
    have HB := Lib.hid hb
    have HALL := Lib.hid hall
    clear e0 c1 c5
    by_cases hlt : j < b.all.length
    · obtain ⟨y, hy⟩ : ∃ y, b.all[j]? = some y := ⟨_, List.getElem?_eq_getElem hlt⟩
      have g0 := (HI.out.below hb).e0 hy
      have g1 := (HI.out.below hb).e1 hy
      have g2 := (HI.out.below hb).e2 hy
      have g3 := (HI.out.below hb).e3 hy
      have g4 := (HI.out.below hb).e4 hy
      have hjl : (j : Int) < (b.all.length : Int) := by omega
      have hsz := hb.size
      have HY := Lib.hid hy
      clear hb hall hy
      by_cases hh : h ≤ y.head
      · have HH := Lib.hid hh
        go_wp2
        go_ret
        exact .inr ⟨⟨y, List.mem_of_getElem? HY.out, HH.out⟩, rfl, HB.out.alloc hsz _⟩
      · have hh2 : y.head < h := by omega
        have HH := Lib.hid hh2
        go_wp2
        go_roundw
        case rel =>
          refine ⟨j + 1, by omega, by go_num, fun z hz => ?_, HB.out.alloc hsz _⟩
          rw [take_snoc HY.out, List.mem_append] at hz
          rcases hz with hz | hz
          · exact HALL.out z hz
          · simp at hz; subst hz; exact HH.out
        case measure => simp [intOf]; omega
    · obtain rfl : j = b.all.length := by omega
      rw [List.take_length] at hall
      have hW := HI.out.below hb
      have HW := Lib.hid hW
      have HALL := Lib.hid hall
      have g0 := hW.e0 HX.out
      have g1 := hW.e1 HX.out
      have g2 := hW.e2 HX.out
      have g3 := hW.e3 HX.out
      have g4 := hW.e4 HX.out
      have f0 := hW.rf (k * 5)
      have f1 := hW.rf (k * 5 + 1)
      have f2 := hW.rf (k * 5 + 2)
      have f3 := hW.rf (k * 5 + 3)
      have f4 := hW.rf (k * 5 + 4)
      have f5 := hW.cf 5
      have h2 := hW.setAll (openBlk h) HX.out
      have d5 := h2.c5
      simp only [openBlk] at d5
      have H2 := Lib.hid h2
      clear hall hb hW h2
      go_wp2
      go_ret
      refine .inl ⟨HALL.out, rfl, H2.out.setHead (j := 5) (v := .int .i64 (k : Int)) (b' := { b with all := b.all.set k (openBlk h), opn := (k : Int) }) rfl rfl, ?_⟩
      exact ((((((Off.of_below (S := fun i => i = q ∨ i = p) HB.out).setCell (p := ⟨q, _, none⟩) (.inl (.inl rfl)) _).setCell (p := ⟨q, _, none⟩) (.inl (.inl rfl)) _).setCell (p := ⟨q, _, none⟩) (.inl (.inl rfl)) _).setCell (p := ⟨q, _, none⟩) (.inl (.inl rfl)) _).setCell (p := ⟨q, _, none⟩) (.inl (.inl rfl)) _).setCell (p := ⟨p, 5, none⟩) (.inl (.inr rfl)) _
end Go.Proofs.Ytmohijpkhmeibaa
/- The program's book: Live. -/
namespace Go.Proofs.Ytmohijpkhmeibaa
open Go.RowKit Go.Proofs
set_option linter.unusedVariables false
set_option linter.unusedSimpArgs false
set_option maxRecDepth 100000
theorem below_drewN' (w : World) (m : Nat) : Below w.heap.size w (w.drewN m) := ⟨rfl, rfl, rfl, Nat.le_refl _, fun _ _ => rfl⟩
/-- Do its pages count? -/
def countedB (x : Blk) : Bool := x.state == 1 || (x.state == 2 || (x.state == 4 && !x.left))
theorem live_away (p q cap : Nat) (b : Bks) (n m : Int) (w : World) (hI : IsB w p q cap b) (hn : n < 0 ∨ b.all.length ≤ n) :
    Calls Try.prog 17 #[.pointer (some ⟨p, 0, none⟩), .int .i64 n, .int .i64 m] w fun e w' => e = .returned (.int .i64 41) ∧ w = w' := by
  have CA := Lib.hid (at_no p q cap b n w hI hn)
  clear hI hn
  go_enter Try.func17, Try.ntmps17
  go_wp2_with fail
  refine CA.out.mono ?_
  rintro e w' ⟨rfl, rfl⟩
  go_wp2
  go_ret
  exact ⟨rfl, rfl⟩
theorem live_in (p q cap : Nat) (b : Bks) (k : Nat) (x : Blk) (m : Int) (w : World) (hI : IsB w p q cap b) (hx : b.all[k]? = some x) (hp0 : 1 ≤ b.pages) (hp1 : b.pages ≤ 256) (hl0 : 0 ≤ x.live) (hl1 : x.live ≤ 256) (hm0 : -9223372036854775808 ≤ m) (hm1 : m ≤ 9223372036854775807) :
    Calls Try.prog 17 #[.pointer (some ⟨p, 0, none⟩), .int .i64 (k : Int), .int .i64 m] w fun e w' =>
      ((countedB x = true ∧ -x.live ≤ m ∧ m ≤ b.pages - 1 - x.live) ∧ e = .returned (.int .i64 0) ∧ IsB w' p q cap (settleB { b with all := b.all.set k { x with live := x.live + m } } k { x with live := x.live + m }) ∧ Off (· = q) w w') ∨
      (¬ (countedB x = true ∧ -x.live ≤ m ∧ m ≤ b.pages - 1 - x.live) ∧ e = .returned (.int .i64 110) ∧ Below w.heap.size w w') := by
  have hk : k < b.all.length := (List.getElem?_eq_some_iff.1 hx).1
  have CA := Lib.hid (at_yes p q cap b k w hI (by omega) (by omega))
  have e0 := hI.e0 hx
  have e3 := hI.e3 hx
  have e4 := hI.e4 hx
  have c0 := hI.c0
  have hkn : (k : Int).toNat = k := Int.toNat_natCast k
  have HI := Lib.hid hI
  have HX := Lib.hid hx
  have w1 : wrap64 (-x.live) = -x.live := by unfold wrap64; omega
  have w2 : IntKind.i64.wrap (-x.live) = -x.live := by rw [IntKind.wrap_i64]; omega
  have w3 : IntKind.i64.wrap (b.pages - 1) = b.pages - 1 := by rw [IntKind.wrap_i64]; omega
  have w4 : IntKind.i64.wrap (b.pages - 1 - x.live) = b.pages - 1 - x.live := by rw [IntKind.wrap_i64]; omega
  clear hI hx
  go_enter Try.func17, Try.ntmps17
  go_wp2_with fail
  refine CA.out.mono ?_
  rintro e w' ⟨rfl, rfl⟩
  rw [hkn]
  go_upto_region 4 with fail
  go_cut [8] (fun v8 wx => v8 = .bool (countedB x) ∧ wx = w)
  case first =>
    by_cases h1 : x.state = 1
    · have n1 : (x.state == 1) = true := beq_iff_eq.2 h1
      have e : countedB x = true := by unfold countedB; rw [n1]; rfl
      clear h1
      go_wp2
      go_meet
      case rel => exact ⟨by rw [e], rfl⟩
    · have n1 : (x.state == 1) = false := beq_eq_false_iff_ne.2 h1
      by_cases h2 : x.state = 2
      · have n2 : (x.state == 2) = true := beq_iff_eq.2 h2
        have e : countedB x = true := by unfold countedB; rw [n1, n2]; rfl
        clear h1 h2
        go_wp2
        go_meet
        case rel => exact ⟨by rw [e], rfl⟩
      · have n2 : (x.state == 2) = false := beq_eq_false_iff_ne.2 h2
        by_cases h4 : x.state = 4
        · have n4 : (x.state == 4) = true := beq_iff_eq.2 h4
          have e : countedB x = !x.left := by unfold countedB; rw [n1, n2, n4]; rfl
          clear h1 h2 h4
          go_wp2
          go_meet
          case rel => exact ⟨by rw [e], rfl⟩
        · have n4 : (x.state == 4) = false := beq_eq_false_iff_ne.2 h4
          have e : countedB x = false := by unfold countedB; rw [n1, n2, n4]; rfl
          clear h1 h2 h4
          go_wp2
          go_meet
          case rel => exact ⟨by rw [e], rfl⟩
  case rest =>
    obtain ⟨rfl, rfl⟩ := hcut
    cases hc : countedB x
    · have hno : ¬ (countedB x = true ∧ -x.live ≤ m ∧ m ≤ b.pages - 1 - x.live) := fun h => by rw [hc] at h; cases h.1
      have HN := Lib.hid hno
      clear hno hc
      go_wp2_with fail
      go_quiet (fail)
      go_wp2
      go_ret
      exact .inr ⟨HN.out, rfl, below_drewN' _ _⟩
    · by_cases ha : m < -x.live
      · have hno : ¬ (countedB x = true ∧ -x.live ≤ m ∧ m ≤ b.pages - 1 - x.live) := fun h => by omega
        have HN := Lib.hid hno
        have hd : decide (m < -x.live) = true := decide_eq_true ha
        clear hno hc
        go_wp2_with fail
        go_quiet (fail)
        go_wp2
        go_ret
        exact .inr ⟨HN.out, rfl, below_drewN' _ _⟩
      · have hd : decide (m < -x.live) = false := decide_eq_false ha
        by_cases hb : b.pages - 1 - x.live < m
        · have hno : ¬ (countedB x = true ∧ -x.live ≤ m ∧ m ≤ b.pages - 1 - x.live) := fun h => by omega
          have HN := Lib.hid hno
          have hd2 : decide (b.pages - 1 - x.live < m) = true := decide_eq_true hb
          clear hno hc
          go_wp2_with fail
          go_quiet (fail)
          go_wp2
          go_ret
          exact .inr ⟨HN.out, rfl, below_drewN' _ _⟩
        · have hd2 : decide (b.pages - 1 - x.live < m) = false := decide_eq_false hb
          have hyes : countedB x = true ∧ -x.live ≤ m ∧ m ≤ b.pages - 1 - x.live := ⟨hc, by omega, by omega⟩
          have HY := Lib.hid hyes
          have w5 : wrap64 (x.live + m) = x.live + m := by unfold wrap64; omega
          have f3 := HI.out.rf (k * 5 + 3)
          have h3 := fun n : Nat => (HI.out.drewN n).setRow (y := { x with live := x.live + m }) HX.out (j := 3) (v := .int .i64 (x.live + m)) (by decide) rfl
          have SC := Lib.hid (fun n : Nat => settle_calls p q cap { b with all := b.all.set k { x with live := x.live + m } } k { x with live := x.live + m } _ (h3 n) (List.getElem?_set_self hk))
          clear hyes hc h3
          go_wp2_with fail
          go_quiet (fail)
          go_wp2_with (go_at_call 40; refine (SC.out _).mono ?_; rintro e w1 ⟨⟨v, rfl⟩, h1, h2⟩; have H1 := Lib.hid h1; have H2 := Lib.hid h2; clear h1 h2)
          go_ret
          exact .inl ⟨HY.out, rfl, H1.out, (((Off.refl (· = q) wc).drewN _).setCell (p := ⟨q, k * 5 + 3, none⟩) (.inl rfl) _).trans' H2.out fun _ _ h => h⟩
end Go.Proofs.Ytmohijpkhmeibaa
/- The program's book: Near, List. -/
namespace Go.Proofs.Ytmohijpkhmeibaa
open Go.RowKit Go.Proofs
set_option linter.unusedVariables false
set_option linter.unusedSimpArgs false
set_option maxRecDepth 100000
def nearN (b : Bks) : Int := (cnt (inL [0, 5, 3]) b.all : Nat)
theorem near_calls (p q cap : Nat) (b : Bks) (w : World) (hI : IsB w p q cap b) :
    Calls Try.prog 20 #[.pointer (some ⟨p, 0, none⟩)] w fun e w' => e = .returned (.int .i64 (nearN b)) ∧ Below w.heap.size w w' := by
  have hB : Below w.heap.size w (w.alloc (.cells #[.int .i64 0, .int .i64 5, .int .i64 3] 3)) := (Below.refl _ _).alloc (Nat.le_refl _) _
  have HC := Lib.hid (count_calls p q cap b w.heap.size 3 3 [0, 5, 3] (w.alloc (.cells #[.int .i64 0, .int .i64 5, .int .i64 3] 3)) (hI.alloc _) rfl (by omega) (fun j hj => by
    have hj' : j < 3 := hj
    refine cell_of (heap_alloc_new w _) ?_
    match j, hj' with
    | 0, _ => rfl
    | 1, _ => rfl
    | 2, _ => rfl) (by simp))
  have HB := Lib.hid hB
  clear hI hB
  unfold nearN
  go_enter Try.func20, Try.ntmps20
  go_wp2_with fail
  refine HC.out.mono ?_
  rintro e w1 ⟨rfl, hb⟩
  go_wp2
  go_ret
  exact ⟨rfl, HB.out.trans (hb.mono HB.out.size)⟩
theorem info34 : (Try.prog.info? 34).map (fun i => (i.zero, i.size, i.bytes)) = some (some (.agg #[.int .i64 0, .int .u64 0, .bool false, .int .i64 0]), 4, 32) := by kernel_rfl
def encB (l : List Blk) : List Value := l.flatMap fun x => [.int .i64 x.state, .int .u64 x.head, .bool x.real, .int .i64 x.live]
theorem encB_append (a b : List Blk) : encB (a ++ b) = encB a ++ encB b := List.flatMap_append
theorem list_calls (p q cap : Nat) (b : Bks) (w : World) (hI : IsB w p q cap b) :
    Calls Try.prog 16 #[.pointer (some ⟨p, 0, none⟩)] w fun e w' => ∃ v, e = .returned v ∧ w'.ownsRow w.heap.size 34 4 v b.all.length (encB b.all) ∧ Below w.heap.size w w' := by
  obtain ⟨i0, hi, hz0, hz1, hz2⟩ := info_parts info34
  have c1 := hI.c1
  have hle := hI.le
  have HI := Lib.hid hI
  clear hI
  go_enter Try.func16, Try.ntmps16
  go_wp2
  go_loopw [3, 5, 11] (fun s3 _ s11 wr => ∃ (j : Nat) (v3 : Value), v3 = s3 ∧ s11 = .int .i64 (j : Int) ∧ j ≤ b.all.length ∧ wr.ownsRow w.heap.size 34 4 s3 j (encB (b.all.take j)) ∧ Below w.heap.size w wr) (fun _ _ s11 _ => b.all.length - (intOf s11).toNat)
  case atStart => exact ⟨0, _, rfl, rfl, by omega, World.ownsRow_nil _ _ _ _, Below.refl _ _⟩
  case round =>
    obtain ⟨j, v3, rfl, rfl, hj, ho, hb⟩ := hrel
    have HO := Lib.hid ho
    have HB := Lib.hid hb
    by_cases hlt : j < b.all.length
    · obtain ⟨y, hy⟩ : ∃ y, b.all[j]? = some y := ⟨_, List.getElem?_eq_getElem hlt⟩
      have g0 := (HI.out.below hb).e0 hy
      have g1 := (HI.out.below hb).e1 hy
      have g2 := (HI.out.below hb).e2 hy
      have g3 := (HI.out.below hb).e3 hy
      have g4 := (HI.out.below hb).e4 hy
      have hjl : (j : Int) < (b.all.length : Int) := by omega
      have hsz := hb.size
      have HT := Lib.hid (take_snoc hy)
      have HLT := Lib.hid ho.lt
      have n1 : (wr.alloc (.cells #[.int .i64 y.state, .int .u64 y.head, .bool y.real, .int .i64 y.live, .bool y.left] 71)).heap.size = wr.heap.size + 1 := World.size_alloc _ _
      clear ho hb hy c1
      go_wp2_with (at_builtin; refine wpList_append_own _ rfl _ _ 24 rfl w.heap.size 34 i0 (.agg #[.int .i64 0, .int .u64 0, .bool false, .int .i64 0]) 4 32 Try.underlying24 hi hz0 hz1 hz2 rfl (by decide) v3 _ _ (by rfl) ((HO.out.alloc _).alloc _) ⟨wr.heap.size + 1, 0, none⟩ 1 1 [.int .i64 y.state, .int .u64 y.head, .bool y.real, .int .i64 y.live] rfl rfl (World.news_of_block (by have := heap_alloc_new (wr.alloc (.cells #[.int .i64 y.state, .int .u64 y.head, .bool y.real, .int .i64 y.live, .bool y.left] 71)) (.cells #[.int .i64 y.state, .int .u64 y.head, .bool y.real, .int .i64 y.live] 34); rwa [World.size_alloc] at this)) (by simp [Value.oneCell']) (by unfold maxLen; omega) (by omega) (by rw [World.size_alloc, World.size_alloc]; omega) ?_; intro v' w1 hown' hgrow _; have HO' := Lib.hid hown'; have HG := Lib.hid hgrow; clear hown' hgrow)
      go_roundw
      case rel =>
        refine ⟨j + 1, _, rfl, by go_num, by omega, ?_, ?_⟩
        · rw [HT.out, encB_append]
          exact HO'.out
        · exact ((HB.out.alloc hsz _).alloc (by rw [World.size_alloc]; omega) _).grown HG.out (by rw [World.size_alloc, World.size_alloc]; omega) fun k e => (HLT.out k e).1
      case measure => simp [intOf]; omega
    · obtain rfl : j = b.all.length := by omega
      rw [List.take_length] at ho
      have HO := Lib.hid ho
      clear ho hb c1
      go_wp2
      go_ret
      exact ⟨_, rfl, HO.out, HB.out⟩
end Go.Proofs.Ytmohijpkhmeibaa
/- The program's book: Commit. -/
namespace Go.Proofs.Ytmohijpkhmeibaa
open Go.RowKit Go.Proofs
set_option linter.unusedVariables false
set_option linter.unusedSimpArgs false
set_option maxRecDepth 100000
theorem info3b : (Try.prog.info? 3).map (fun i => (i.zero, i.size, i.bytes)) = some (some (.int .i64 0), 1, 8) := by kernel_rfl
def freedX (x : Blk) : Blk := if x.state = 3 ∨ x.state = 5 then freeBlk else x
def allJ (l : List Blk) (j : Nat) : List Blk := l.mapIdx fun i x => if i < j then freedX x else x
theorem allJ_get (l : List Blk) (j i : Nat) : (allJ l j)[i]? = l[i]?.map fun x => if i < j then freedX x else x := by
  unfold allJ; rw [List.getElem?_mapIdx]
theorem allJ_len (l : List Blk) (j : Nat) : (allJ l j).length = l.length := by unfold allJ; simp
theorem allJ_zero (l : List Blk) : allJ l 0 = l := by
  apply List.ext_getElem?
  intro i
  rw [allJ_get]
  cases l[i]? <;> simp
theorem allJ_at {l : List Blk} {j : Nat} {x : Blk} (hx : l[j]? = some x) : (allJ l j)[j]? = some x := by
  rw [allJ_get, hx]; simp
theorem allJ_succ {l : List Blk} {j : Nat} {x : Blk} (hx : l[j]? = some x) : allJ l (j + 1) = (allJ l j).set j (freedX x) := by
  have hj : j < l.length := (List.getElem?_eq_some_iff.1 hx).1
  apply List.ext_getElem?
  intro i
  rw [allJ_get]
  by_cases e : j = i
  · subst e
    rw [List.getElem?_set_self (by rw [allJ_len]; exact hj), hx]
    simp
  · rw [List.getElem?_set_ne e, allJ_get]
    congr 1
    funext y
    by_cases h : i < j
    · rw [if_pos h, if_pos (by omega)]
    · rw [if_neg h, if_neg (by omega)]
def markAt (l : List Blk) (n : Int) (i : Nat) : Bool := match l[i]? with
  | some x => doneB (freedX x) i n
  | none => false
def marksB (l : List Blk) (n : Int) (j : Nat) : List Nat := (List.range j).filter (markAt l n)
theorem marks_succ (l : List Blk) (n : Int) (j : Nat) : marksB l n (j + 1) = marksB l n j ++ if markAt l n j = true then [j] else [] := by
  unfold marksB
  rw [List.range_succ, List.filter_append]
  congr 1
  rw [List.filter_cons, List.filter_nil]
theorem marks_len (l : List Blk) (n : Int) (j : Nat) : (marksB l n j).length ≤ j := by
  have := List.length_filter_le (markAt l n) (List.range j)
  unfold marksB
  simpa using this
def encN (l : List Nat) : List Value := l.map fun (i : Nat) => Value.int .i64 (i : Int)
theorem own_same {w w' : World} {base e size n : Nat} {v : Value} {xs : List Value} (h : w.ownsRow base e size v n xs) (hk : ∀ b, base ≤ b → b < w.heap.size → w'.heap[b]? = w.heap[b]?) : w'.ownsRow base e size v n xs :=
  ⟨h.1, h.2.imp id fun ⟨g, cap, cur, hv, hg, hb, ht⟩ => ⟨g, cap, cur, hv, hg, (hk g hg (lt_of_heap hb)).trans hb, ht⟩⟩
theorem commit_away (p q cap : Nat) (b : Bks) (n : Int) (w : World) (hI : IsB w p q cap b) (h : n < 0 ∨ b.all.length ≤ n) :
    Calls Try.prog 21 #[.pointer (some ⟨p, 0, none⟩), .int .i64 n] w fun e w' => e = .returned (.tuple #[.slice none 0 0, .int .i64 41]) ∧ w = w' := by
  have CA := Lib.hid (at_no p q cap b n w hI h)
  clear hI h
  go_enter Try.func21, Try.ntmps21
  go_wp2_with fail
  refine CA.out.mono ?_
  rintro e w' ⟨rfl, rfl⟩
  go_wp2
  go_ret2
  exact ⟨rfl, rfl⟩
theorem commit_other (p q cap : Nat) (b : Bks) (k : Nat) (w : World) (hI : IsB w p q cap b) (hk : k < b.all.length) (hn : (k : Int) ≠ b.opn) :
    Calls Try.prog 21 #[.pointer (some ⟨p, 0, none⟩), .int .i64 (k : Int)] w fun e w' => e = .returned (.tuple #[.slice none 0 0, .int .i64 110]) ∧ w = w' := by
  have CA := Lib.hid (at_yes p q cap b k w hI (by omega) (by omega))
  have c5 := hI.c5
  have n1 : ((k : Int) != b.opn) = true := bne_iff_ne.2 hn
  clear hI hn
  go_enter Try.func21, Try.ntmps21
  go_wp2_with fail
  refine CA.out.mono ?_
  rintro e w' ⟨rfl, rfl⟩
  go_wp2
  go_ret2
  exact ⟨rfl, rfl⟩
set_option maxHeartbeats 2000000 in
theorem commit_open (p q cap : Nat) (b : Bks) (k : Nat) (w : World) (hI : IsB w p q cap b) (hk : k < b.all.length) (hn : b.opn = (k : Int)) :
    Calls Try.prog 21 #[.pointer (some ⟨p, 0, none⟩), .int .i64 (k : Int)] w fun e w' => ∃ v, e = .returned (.tuple #[v, .int .i64 0]) ∧ w'.ownsRow w.heap.size 3 1 v (marksB b.all k b.all.length).length (encN (marksB b.all k b.all.length)) ∧
      IsB w' p q cap { b with last := (k : Int), all := allJ b.all b.all.length } ∧ Off (fun i => i = q ∨ i = p) w w' := by
  obtain ⟨i0, hi, hz0, hz1, hz2⟩ := info_parts info3b
  have CA := Lib.hid (at_yes p q cap b k w hI (by omega) (by omega))
  have c5 := hI.c5
  rw [hn] at c5
  have f3 := hI.cf 3
  have n1 : ((k : Int) != (k : Int)) = false := by rw [bne, beq_self_eq_true]; rfl
  have hle := hI.le
  have h2 := hI.setHead (j := 3) (v := .int .i64 (k : Int)) (b' := { b with last := (k : Int) }) rfl rfl
  have d1 := h2.c1
  have o1 : Off (fun i => i = q ∨ i = p) w (w.setCell ⟨p, 3, none⟩ (.int .i64 (k : Int))) := (Off.refl (fun i => i = q ∨ i = p) w).setCell (p := ⟨p, 3, none⟩) (.inl (.inr rfl)) _
  have c3 := hI.c3
  have H2 := Lib.hid h2
  have O1 := Lib.hid o1
  have LQ := Lib.hid hI.qlt
  have LP := Lib.hid hI.plt
  clear hI hn h2 o1
  go_enter Try.func21, Try.ntmps21
  go_wp2_with fail
  refine CA.out.mono ?_
  rintro e w' ⟨rfl, rfl⟩
  go_wp2
  go_loopw [6, 7, 8, 28] (fun s6 _ _ s28 wr => ∃ (j : Nat) (v6 : Value), v6 = s6 ∧ s28 = .int .i64 (j : Int) ∧ j ≤ b.all.length ∧ wr.ownsRow w.heap.size 3 1 s6 (marksB b.all k j).length (encN (marksB b.all k j)) ∧ IsB wr p q cap { b with last := (k : Int), all := allJ b.all j } ∧ Off (fun i => i = q ∨ i = p) w wr) (fun _ _ _ s28 _ => b.all.length - (intOf s28).toNat)
  case atStart => exact ⟨0, _, rfl, rfl, by omega, World.ownsRow_nil _ _ _ _, by rw [allJ_zero]; exact H2.out, O1.out⟩
  case round =>
    obtain ⟨j, v6, rfl, rfl, hj, ho, hI, hoff⟩ := hrel
    have HO := Lib.hid ho
    have HI := Lib.hid hI
    have HOFF := Lib.hid hoff
    clear c5 c3 d1 f3
    by_cases hlt : j < b.all.length
    · obtain ⟨y, hy⟩ : ∃ y, b.all[j]? = some y := ⟨_, List.getElem?_eq_getElem hlt⟩
      have hy2 : ({ b with last := (k : Int), all := allJ b.all j } : Bks).all[j]? = some y := allJ_at hy
      have g0 := hI.e0 hy2
      have g1 := hI.e1 hy2
      have g2 := hI.e2 hy2
      have g3 := hI.e3 hy2
      have g4 := hI.e4 hy2
      have c1 := hI.c1
      simp only [allJ_len] at c1
      have hjl : (j : Int) < (b.all.length : Int) := by omega
      have hml := marks_len b.all k j
      have f0 := fun o : Obj => (hI.alloc o).rf (j * 5)
      have f1 := fun o : Obj => (hI.alloc o).rf (j * 5 + 1)
      have f2 := fun o : Obj => (hI.alloc o).rf (j * 5 + 2)
      have f3 := fun o : Obj => (hI.alloc o).rf (j * 5 + 3)
      have f4 := fun o : Obj => (hI.alloc o).rf (j * 5 + 4)
      have q1 : ∀ o : Obj, (wr.alloc o).cell? ⟨p, 1, none⟩ = some (.slice (some ⟨q, 0, none⟩) b.all.length cap) := fun o => by have := (hI.alloc o).c1; simp only [allJ_len] at this; exact this
      have a0 := fun o : Obj => (hI.alloc o).e0 hy2
      have a1 := fun o : Obj => (hI.alloc o).e1 hy2
      have a2 := fun o : Obj => (hI.alloc o).e2 hy2
      have a3 := fun o : Obj => (hI.alloc o).e3 hy2
      have a4 := fun o : Obj => (hI.alloc o).e4 hy2
      have hjA : j < (allJ b.all j).length := by rw [allJ_len]; exact hlt
      by_cases hfr : y.state = 3 ∨ y.state = 5
      · have hfx : freedX y = freeBlk := by unfold freedX; rw [if_pos hfr]
        have AJ := Lib.hid (show allJ b.all (j + 1) = (allJ b.all j).set j freeBlk by rw [allJ_succ hy, hfx])
        have DN := Lib.hid (show doneB freeBlk j (k : Int) = false from rfl)
        have MK := Lib.hid (show marksB b.all (k : Int) (j + 1) = marksB b.all k j by rw [marks_succ, show markAt b.all (k : Int) j = false by unfold markAt; rw [hy]; show doneB (freedX y) j k = false; rw [hfx]; rfl]; simp)
        have FI := Lib.hid (fun o : Obj => (hI.alloc o).setAll freeBlk hy2)
        have DF := Lib.hid (fun o : Obj => done_calls p q cap { b with last := (k : Int), all := (allJ b.all j).set j freeBlk } j freeBlk _ ((hI.alloc o).setAll freeBlk hy2) (List.getElem?_set_self hjA))
        clear ho hI hoff hy hy2 hjA hfx
        by_cases h3 : y.state = 3
        · have n3 : (y.state == 3) = true := beq_iff_eq.2 h3
          clear hfr h3
          go_wp2_with (go_at_call 37; refine (DF.out _).mono ?_; rintro e w1 ⟨rfl, hb⟩; rw [DN.out]; have HB := Lib.hid hb; clear hb)
          go_roundw
          case rel =>
            have o2 : Off (fun i => i = q ∨ i = p) wr _ := ((((((Off.of_below (S := fun i => i = q ∨ i = p) ((Below.refl wr.heap.size wr).alloc (Nat.le_refl _) _)).setCell (p := ⟨q, j * 5, none⟩) (.inl (.inl rfl)) (.int .i64 0)).setCell (p := ⟨q, j * 5 + 1, none⟩) (.inl (.inl rfl)) (.int .u64 0)).setCell (p := ⟨q, j * 5 + 2, none⟩) (.inl (.inl rfl)) (.bool false)).setCell (p := ⟨q, j * 5 + 3, none⟩) (.inl (.inl rfl)) (.int .i64 0)).setCell (p := ⟨q, j * 5 + 4, none⟩) (.inl (.inl rfl)) (.bool false)).trans' (Off.of_below (S := fun _ => False) HB.out) fun _ _ h => h.elim
            refine ⟨j + 1, _, rfl, by go_num, by omega, ?_, ?_, HOFF.out.trans' o2 fun _ _ h => h⟩
            · rw [MK.out]
              exact own_same HO.out fun i hi hlt => o2.block i hlt fun h => by have := LQ.out; have := LP.out; omega
            · rw [AJ.out]
              exact (FI.out _).below HB.out
          case measure => simp [intOf]; omega
        · have n3 : (y.state == 3) = false := beq_eq_false_iff_ne.2 h3
          have n5 : (y.state == 5) = true := beq_iff_eq.2 (hfr.resolve_left h3)
          clear hfr h3
          go_wp2_with (go_at_call 37; refine (DF.out _).mono ?_; rintro e w1 ⟨rfl, hb⟩; rw [DN.out]; have HB := Lib.hid hb; clear hb)
          go_roundw
          case rel =>
            have o2 : Off (fun i => i = q ∨ i = p) wr _ := ((((((Off.of_below (S := fun i => i = q ∨ i = p) ((Below.refl wr.heap.size wr).alloc (Nat.le_refl _) _)).setCell (p := ⟨q, j * 5, none⟩) (.inl (.inl rfl)) (.int .i64 0)).setCell (p := ⟨q, j * 5 + 1, none⟩) (.inl (.inl rfl)) (.int .u64 0)).setCell (p := ⟨q, j * 5 + 2, none⟩) (.inl (.inl rfl)) (.bool false)).setCell (p := ⟨q, j * 5 + 3, none⟩) (.inl (.inl rfl)) (.int .i64 0)).setCell (p := ⟨q, j * 5 + 4, none⟩) (.inl (.inl rfl)) (.bool false)).trans' (Off.of_below (S := fun _ => False) HB.out) fun _ _ h => h.elim
            refine ⟨j + 1, _, rfl, by go_num, by omega, ?_, ?_, HOFF.out.trans' o2 fun _ _ h => h⟩
            · rw [MK.out]
              exact own_same HO.out fun i hi hlt => o2.block i hlt fun h => by have := LQ.out; have := LP.out; omega
            · rw [AJ.out]
              exact (FI.out _).below HB.out
          case measure => simp [intOf]; omega
      · have hfx : freedX y = y := by unfold freedX; rw [if_neg hfr]
        have n3 : (y.state == 3) = false := beq_eq_false_iff_ne.2 fun h => hfr (.inl h)
        have n5 : (y.state == 5) = false := beq_eq_false_iff_ne.2 fun h => hfr (.inr h)
        have AJ := Lib.hid (show allJ b.all (j + 1) = allJ b.all j by
          rw [allJ_succ hy, hfx]
          apply List.ext_getElem?
          intro i
          by_cases e : j = i
          · subst e; rw [List.getElem?_set_self hjA]; exact (allJ_at hy).symm
          · rw [List.getElem?_set_ne e])
        have DF := Lib.hid (fun o : Obj => done_calls p q cap { b with last := (k : Int), all := allJ b.all j } j y _ (hI.alloc o) hy2)
        have hma : markAt b.all (k : Int) j = doneB y j k := by unfold markAt; rw [hy]; show doneB (freedX y) j k = _; rw [hfx]
        cases hd : doneB y j (k : Int)
        · have MK := Lib.hid (show marksB b.all (k : Int) (j + 1) = marksB b.all k j by rw [marks_succ, hma, hd]; simp)
          have DN := Lib.hid hd
          clear ho hI hoff hy hy2 hjA hfx hfr hma hd
          go_wp2_with (go_at_call 37; refine (DF.out _).mono ?_; rintro e w1 ⟨rfl, hb⟩; rw [DN.out]; have HB := Lib.hid hb; clear hb)
          go_roundw
          case rel =>
            have o2 : Off (fun i => i = q ∨ i = p) wr _ := (Off.of_below (S := fun i => i = q ∨ i = p) ((Below.refl wr.heap.size wr).alloc (Nat.le_refl _) _)).trans' (Off.of_below (S := fun _ => False) HB.out) fun _ _ h => h.elim
            refine ⟨j + 1, _, rfl, by go_num, by omega, ?_, ?_, HOFF.out.trans' o2 fun _ _ h => h⟩
            · rw [MK.out]
              exact own_same HO.out fun i hi hlt => o2.block i hlt fun h => by have := LQ.out; have := LP.out; omega
            · rw [AJ.out]
              exact ((HI.out.alloc _).below HB.out)
          case measure => simp [intOf]; omega
        · have MK := Lib.hid (show marksB b.all (k : Int) (j + 1) = marksB b.all k j ++ [j] by rw [marks_succ, hma, hd]; rfl)
          have DN := Lib.hid hd
          clear ho hI hoff hy hy2 hjA hfx hfr hma hd
          go_wp2_with (first
            | (go_at_call 37; refine (DF.out _).mono ?_; rintro e w1 ⟨rfl, hb⟩; rw [DN.out]; have hsz1 := hb.size; have HO1 := Lib.hid (own_same HO.out fun i hi hlt => (hb.block i (by rw [World.size_alloc]; omega)).trans (Below.heap_alloc _ _ _ hlt)); have HB := Lib.hid hb; clear hb)
            | (at_builtin; refine wpList_append_own _ rfl _ _ 45 rfl w.heap.size 3 i0 (.int .i64 0) 1 8 Try.underlying45 hi hz0 hz1 hz2 rfl (by decide) v6 _ _ (by rfl) (HO1.out.alloc _) ⟨w1.heap.size, 0, none⟩ 1 1 [.int .i64 (j : Int)] rfl rfl (World.news_of_block (heap_alloc_new _ _)) (by simp [Value.oneCell']) (by unfold maxLen; omega) (by omega) (by have := HOFF.out.size; rw [World.size_alloc] at *; omega) ?_; intro v' w2 hown' hgrow _; have HO' := Lib.hid hown'; have HG := Lib.hid hgrow; clear hown' hgrow))
          go_roundw
          case rel =>
            have hv6 : ∀ i, v6.ownBlock = some i → w.heap.size ≤ i := fun i e => (HO.out.lt i e).1
            have o2 : Off (fun i => i = q ∨ i = p) wr w1 := (Off.of_below (S := fun i => i = q ∨ i = p) ((Below.refl wr.heap.size wr).alloc (Nat.le_refl _) _)).trans' (Off.of_below (S := fun _ => False) HB.out) fun _ _ h => h.elim
            have o3 := (HOFF.out.trans' o2 fun _ _ h => h).alloc (.cells #[.int .i64 (j : Int)] 3)
            refine ⟨j + 1, _, rfl, by go_num, by omega, ?_, ?_, o3.grown HG.out fun i e => .inr (hv6 i e)⟩
            · rw [MK.out, List.length_append, show encN (marksB b.all (k : Int) j ++ [j]) = encN (marksB b.all (k : Int) j) ++ [.int .i64 (j : Int)] by unfold encN; rw [List.map_append]; rfl]
              exact HO'.out
            · rw [AJ.out]
              have h1 := ((HI.out.alloc _).below HB.out).alloc (.cells #[.int .i64 (j : Int)] 3)
              refine h1.off ((Off.refl (fun i => v6.ownBlock = some i) _).grown HG.out fun i e => .inl e) (fun e => ?_) fun e => ?_
              · have := hv6 _ e; have := LP.out; omega
              · have := hv6 _ e; have := LQ.out; omega
          case measure => simp [intOf]; omega
    · obtain rfl : j = b.all.length := by omega
      clear ho hI hoff
      go_wp2
      go_ret2
      exact ⟨_, rfl, HO.out, HI.out, HOFF.out⟩
end Go.Proofs.Ytmohijpkhmeibaa
