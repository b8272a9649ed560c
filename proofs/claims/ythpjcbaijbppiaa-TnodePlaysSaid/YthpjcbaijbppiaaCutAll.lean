/- Cut, walked. -/
import Derived.Test.YthpjcbaijbppiaaCut
namespace Go.Proofs.Ythpjcbaijbppiaa
open Go.RowKit Go.Proofs
set_option linter.unusedVariables false
set_option linter.unusedSimpArgs false
set_option maxRecDepth 100000
def CutTop (s : TS Int) (p : Nat) (n : Int) (fr : Int) (w : World) (e : Ending) (w' : World) : Prop :=
  ∃ (s' : TS Int) (n' : Int), e = .returned (.int .i64 (n - n')) ∧ Tree kInt w' p n' s' ∧ (∀ i : Nat, s'.K i = if fr ≤ (i : Int) then none else s.K i) ∧ (∀ L q a, s'.N L q = some a → s.N L q = some a) ∧ Off (fun b => b = p ∨ Nodes s b) w w'
theorem cut_nil (s : TS Int) (p : Nat) (n : Int) (fr : Int) (w : World) (hT : Tree kInt w p n s) (h0 : s.h = 0) :
    Calls Try.prog 20 #[.pointer (some ⟨p, 0, none⟩), .int .i64 fr] w (CutTop s p n fr w) := by
  have hr : s.N (s.h - 1) 0 = none := by
    cases e : s.N (s.h - 1) 0 with
    | none => rfl
    | some x => have := hT.wf.lv _ _ _ e; omega
  have hz : ∀ k, s.K k = none := fun k => by
    cases e : s.K k with
    | none => rfl
    | some x => obtain ⟨b, hb⟩ := hT.wf.ku _ _ e; have := hT.wf.lv _ _ _ hb; omega
  have c0 := hT.isT.c0
  rw [hr, ptr_none] at c0
  have E : CutTop s p n fr w (.returned (.int .i64 0)) w := ⟨s, n, by rw [Int.sub_self], hT, fun i => by rw [hz i]; split <;> rfl, fun _ _ _ h => h, Off.refl _ _⟩
  have E := Lib.hid E
  clear hT hr hz h0
  go_enter Try.func20, Try.ntmps20
  go_wp2
  go_ret
  exact E.out
theorem cut_end {s s1 : TS Int} {p : Nat} {n fr g : Int} {w0 w w1 : World} {a : Nat} (hT : Tree kInt w0 p n s) (h0 : 0 < s.h) (hC : CI kInt s p n w (s.h - 1) 0 a fr 16 g s1 w1) :
    Cnt s1 (n - g) ∧ (∀ i : Nat, s1.K i = if fr ≤ (i : Int) then none else s.K i) ∧ FullBut s1 (s1.h - 1) 0 := by
  have e16 : 16 * 16 ^ (s.h - 1) = 16 ^ s.h := by
    conv => rhs; rw [show s.h = s.h - 1 + 1 by omega, Nat.pow_succ, Nat.mul_comm]
  have hg := hC.gone
  have hk := hC.key
  rw [e16, Nat.zero_mul] at hg hk
  obtain ⟨l, hl, rfl⟩ := hT.cnt
  have e1 := hl.uniq hT.wf.lists
  refine ⟨⟨_, hC.wf.lists, ?_⟩, fun i => ?_, by rw [hC.hh]; exact hC.full⟩
  · rw [hC.hh, hg, e1]; omega
  · rw [hk i]
    by_cases h1 : fr ≤ (i : Int)
    · rw [if_pos h1]
      by_cases h2 : i < 16 ^ s.h
      · rw [if_pos ⟨⟨Nat.zero_le _, by omega⟩, h1⟩]
      · rw [if_neg (by omega)]
        cases e : s.K i with
        | none => rfl
        | some x => exact absurd (hT.wf.key_lt e) h2
    · rw [if_neg h1, if_neg (by omega)]
theorem cut_some (s : TS Int) (p : Nat) (n : Int) (fr : Int) (w : World) (hT : Tree kInt w p n s) (h0 : 0 < s.h) :
    Calls Try.prog 20 #[.pointer (some ⟨p, 0, none⟩), .int .i64 fr] w (CutTop s p n fr w) := by
  obtain ⟨a, ha⟩ := hT.wf.root h0
  have CC : ∀ W, IsT kInt W p n s → Calls Try.prog 41 #[.pointer (some ⟨a, 0, none⟩), .int .i64 fr, .int .i64 0, .int .i64 ((s.h - 1 : Nat) : Int)] W (CutEnd kInt s p n W (s.h - 1) 0 fr) := fun W hI => by
    have := cut_calls fr (s.h - 1) s p n a 0 W hI hT.wf (hT.full.but _ _) ha
    rw [show (0 * 16 ^ (s.h - 1 + 1) : Nat) = 0 by omega] at this
    exact this
  replace CC := Lib.hid CC
  have h5 := hT.wf.h5
  have c0 := hT.isT.c0
  rw [ha, ptr_some] at c0
  have c1 := hT.isT.c1
  have e1 : IntKind.i64.wrap ((s.h : Int) - 1) = ((s.h - 1 : Nat) : Int) := by rw [IntKind.wrap_i64]; omega
  have HT := Lib.hid hT
  have HA := Lib.hid ha
  have ih : (0 : Int) < (s.h : Int) := by omega
  have HI1 := Lib.hid (show IsT kInt w.drew p n s from hT.isT.drewN 1)
  clear hT ha
  go_enter Try.func20, Try.ntmps20
  go_wp2
  go_region_held3 (fun W => W.cell? ⟨p, 0, none⟩ = some (.pointer (some ⟨a, 0, none⟩)) ∧ W.cell? ⟨p, 1, none⟩ = some (.int .i64 (s.h : Int)))
    (first | go_keep | exact ⟨cc0, cc1⟩)
    ((go_at_call 41; (with_reducible refine (CC.out _ HI1.out).mono ?_); rintro e w1 ⟨s1, g, a1, rfl, hC⟩; have cc0 := hC.isT.c0; rw [hC.hh, hC.high _ _ (Nat.le_refl _), HA.out, ptr_some] at cc0; have cc1 := hC.isT.c1; rw [hC.hh] at cc1; have E := Lib.hid hC; have cc2 := hC.isT.c2; have ff2 := hC.isT.cf 2; clear hC))
  obtain ⟨hCn, hKK, hFB⟩ := cut_end HT.out h0 E.out
  have SC := Lib.hid (shrink_calls s1 p (n - g) _ (E.out.isT.setCount (n' := n - g)) E.out.wf hCn hFB)
  have HO1 := Lib.hid (show Off (fun b => b = p ∨ Nodes s b) w (w1.setCell ⟨p, 2, none⟩ (.int .i64 (n - g))) from (((Off.refl (fun b => b = p ∨ Nodes s b) w).drew).trans' E.out.off (fun i _ h => .inr h)).setCell (p := ⟨p, 2, none⟩) (.inl (.inl rfl)) _)
  have HKN := Lib.hid (And.intro hKK E.out.sub)
  have HCN := Lib.hid hCn
  have hb := HT.out.cnt.le HT.out.wf
  have hb0 := HT.out.cnt.nonneg
  have hb1 := hCn.le E.out.wf
  have hb2 := hCn.nonneg
  clear E hCn hKK hFB HI1 c0 c1 cc0 cc1
  go_wp2_with (go_at_call 42; (with_reducible refine SC.out.mono ?_); rintro e w3 ⟨v, rfl, s', hI3, hw3, hf3, hm3, hK3, hN3, ho3⟩)
  go_ret
  refine ⟨s', n - g, ret_int (by show g = _; omega), ⟨hI3, hw3, hf3, hm3, ?_⟩, fun i => by rw [hK3]; exact HKN.out.1 i, fun L q a h => HKN.out.2 _ _ _ (hN3 _ _ _ h), HO1.out.trans' ho3 (fun i _ h => .inl h)⟩
  obtain ⟨l, hl, e⟩ := HCN.out
  exact ⟨l, hl.congr fun i => by unfold TS.val; rw [hK3], e⟩
theorem cut_top (s : TS Int) (p : Nat) (n : Int) (fr : Int) (w : World) (hT : Tree kInt w p n s) :
    Calls Try.prog 20 #[.pointer (some ⟨p, 0, none⟩), .int .i64 fr] w (CutTop s p n fr w) := by
  by_cases h0 : s.h = 0
  · exact cut_nil s p n fr w hT h0
  · exact cut_some s p n fr w hT (by omega)
end Go.Proofs.Ythpjcbaijbppiaa
