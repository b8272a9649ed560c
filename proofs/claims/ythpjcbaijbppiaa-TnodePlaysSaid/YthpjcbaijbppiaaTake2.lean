/- take, walked. -/
import Derived.Test.YthpjcbaijbppiaaTake
namespace Go.Proofs.Ythpjcbaijbppiaa
open Go.RowKit Go.Proofs
set_option linter.unusedVariables false
set_option linter.unusedSimpArgs false
set_option maxRecDepth 100000
theorem setCell_free {w : World} {a b i o : Nat} (v : Value) : (w.setCell ⟨a, i, none⟩ v).frozen? ⟨b, o, none⟩ = w.frozen? ⟨b, o, none⟩ := World.frozen?_setCell _ _ _ _
theorem take_leaf (s : TS Int) (p : Nat) (n : Int) (w : World) (k a : Nat) (x : Nat × Int) (hw : WF s) (hI : IsT kInt w p n s) (hF : Full s) (hk : s.K k = some x) (ha : s.N 0 (k / 16) = some a) :
    Calls Try.prog 45 #[.pointer (some ⟨a, 0, none⟩), .int .i64 (k : Int), .int .i64 0] w (TakeEnd s p n 0 (k / 16) k w) := by
  have hk2 : k < 1048576 := Nat.lt_of_lt_of_le (hw.key_lt hk) (pow16_le hw.h5)
  have DZ := Lib.hid (fun W => digit0_q k hk2 W)
  have hn := hI.node _ _ _ ha
  have hd : k % 16 < 16 := Nat.mod_lt _ (by decide)
  have c1 := hn.things' hd
  have c2 := hn.used
  have f1 := hn.free (16 + k % 16)
  have f2 := hn.free 32
  have hu := usedOf_le (s.child 0 (k / 16))
  have H := Lib.hid (fun u => take_leaf_end (u := u) hw hI hF ha hk)
  clear hw hI hF hn hk ha
  revert DZ hd c1 c2 f1 f2 hu H
  generalize usedOf (s.child 0 (k / 16)) = U
  generalize k % 16 = d
  intro DZ hd c1 c2 f1 f2 hu H
  have hd2 : (d : Int) < 16 := by omega
  go_enter Try.func45, Try.ntmps45
  go_wp2_with (go_at_call 44; refine (DZ.out _).mono ?_; rintro e w' ⟨rfl, rfl⟩)
  go_ret
  exact H.out _ rfl
theorem take_calls (s : TS Int) (p : Nat) (n : Int) (k : Nat) (x : Nat × Int) (hk : s.K k = some x) (hw : WF s) (hF : Full s) : ∀ (L a : Nat) (w : World), IsT kInt w p n s → s.N L (k / 16 ^ (L + 1)) = some a →
    Calls Try.prog 45 #[.pointer (some ⟨a, 0, none⟩), .int .i64 (k : Int), .int .i64 (L : Int)] w (TakeEnd s p n L (k / 16 ^ (L + 1)) k w) := by
  intro L
  induction L with
  | zero =>
    intro a w hI ha
    rw [Nat.zero_add, Nat.pow_one] at ha ⊢
    exact take_leaf s p n w k a x hw hI hF hk ha
  | succ L ih =>
    intro a w hI ha
    have hl := hw.lv _ _ _ ha
    have h5 := hw.h5
    have hk2 : k < 1048576 := Nat.lt_of_lt_of_le (hw.key_lt hk) (pow16_le hw.h5)
    have DD := Lib.hid (fun W => digit_q k (L + 1) hk2 (by omega) W)
    obtain ⟨c, hc⟩ := hw.key_anc hk (L := L) (by omega)
    have IH := Lib.hid (ih c w hI hc)
    have hn := hI.node _ _ _ ha
    have hd : k / 16 ^ (L + 1) % 16 < 16 := Nat.mod_lt _ (by decide)
    have c1 := hn.below' hd
    rw [digit_split, hc, ptr_some] at c1
    have c2 := hn.used
    have E := Lib.hid (fun (s1 : TS Int) (w1 : World) (b : Bool) h1 h2 h3 h4 h5 h6 h7 h8 hb => take_inner_end (s := s) (s1 := s1) (p := p) (n := n) (L := L) (k := k) (a := a) (w := w) (w1 := w1) (b := b) h1 h2 h3 h4 h5 h6 h7 h8 ha hc hb)
    have HA := Lib.hid ha
    have hpos : (((L + 1 : Nat) : Int) == 0) = false := beq_eq_false_iff_ne.2 (by omega)
    have hm1 : ((L + 1 : Nat) : Int) - 1 = (L : Int) := by omega
    clear ih hI hn ha hc hk2
    revert DD hd c1 E
    generalize k / 16 ^ (L + 1) % 16 = d
    intro DD hd c1 E
    have hd2 : (d : Int) < 16 := by omega
    go_enter Try.func45, Try.ntmps45
    go_wp2_with (go_at_call 44; refine (DD.out _).mono ?_; rintro e w' ⟨rfl, rfl⟩)
    refine IH.out.mono ?_
    rintro e w1 ⟨s1, b, rfl, hb, hw1, hI1, hF1, hh, hK, hN, hS, ho⟩
    have hn1 := hI1.node _ _ _ ((hN _ _ (by omega)).trans HA.out)
    have c3 := hn1.used
    have f1 := hn1.free d
    have f2 := hn1.free 32
    have hu := usedOf_le (s1.child (L + 1) (k / 16 ^ (L + 1 + 1)))
    have E2 := Lib.hid (E.out s1 w1 b hw1 hI1 hF1 hh hK hN hS ho hb)
    have c4 : ∃ v, w1.cell? ⟨a, d, none⟩ = some v := ⟨_, hn1.below' hd⟩
    obtain ⟨v4, c4⟩ := c4
    clear hb hw1 hI1 hF1 hh hK hN hS ho hn1 IH E c1 c2
    revert c3 hu E2
    generalize usedOf (s1.child (L + 1) (k / 16 ^ (L + 1 + 1))) = U
    intro c3 hu E2
    cases b with
    | false =>
      have E3 := Lib.hid (E2.out.1 rfl)
      clear E2
      go_wp2
      go_ret
      exact E3.out
    | true =>
      have E3 := Lib.hid (E2.out.2 rfl)
      clear E2
      go_wp2
      go_ret
      exact E3.out
end Go.Proofs.Ythpjcbaijbppiaa
