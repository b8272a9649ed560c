/- grow. -/
import Derived.Test.YthpjcbaijbppiaaGrowPure
namespace Go.Proofs.Ythpjcbaijbppiaa
open Go.RowKit Go.Proofs
set_option linter.unusedVariables false
set_option linter.unusedSimpArgs false
set_option maxRecDepth 100000
theorem cellA {w : World} {a o : Nat} {v : Value} (h : w.cell? ⟨a, o, none⟩ = some v) (ob : Obj) : (w.alloc ob).cell? ⟨a, o, none⟩ = some v :=
  (((Below.refl w.heap.size w).alloc (Nat.le_refl _) ob).cell (p := ⟨a, o, none⟩) (World.block_lt_of_cell? w _ h)).trans h
theorem freeA {w : World} {a o : Nat} (hlt : a < w.heap.size) (h : w.frozen? ⟨a, o, none⟩ = false) (ob : Obj) : (w.alloc ob).frozen? ⟨a, o, none⟩ = false :=
  (((Below.refl w.heap.size w).alloc (Nat.le_refl _) ob).frozen (p := ⟨a, o, none⟩) hlt).trans h
/-- Where grow stands: s1 is s, higher. -/
structure GI (s : TS Int) (p : Nat) (n : Int) (k : Nat) (w : World) (s1 : TS Int) (wx : World) : Prop where
  isT : IsT kInt wx p n s1
  wf : WF s1
  full : FullBut s1 (s1.h - 1) 0
  pos : 0 < s1.h
  same : s1.K = s.K
  min : 1 < s1.h → MinH s1 ∨ 16 ^ (s1.h - 1) ≤ k
  new : ∀ L q a, s1.N L q = some a → s.N L q = some a ∨ w.heap.size ≤ a
  off : Off (· = p) w wx
theorem GI.drew {s : TS Int} {p : Nat} {n : Int} {k : Nat} {w : World} {s1 : TS Int} {wx : World} (h : GI s p n k w s1 wx) : GI s p n k w s1 wx.drew :=
  ⟨h.isT.drewN 1, h.wf, h.full, h.pos, h.same, h.min, h.new, h.off.drew⟩
theorem GI.up {s : TS Int} {p : Nat} {n : Int} {k : Nat} {w : World} {s1 : TS Int} {wx : World} (h : GI s p n k w s1 wx) (h4 : s1.h ≤ 4) (hk : 16 ^ s1.h ≤ k) (hu : usedOf (s1.child (s1.h - 1) 0) ≠ 0) {a : Nat} (ha : s1.N (s1.h - 1) 0 = some a) :
    GI s p n k w (upN s1 wx.heap.size) (growW wx kInt p (nodeZ (.pointer (some ⟨a, 0, none⟩)) 1) ((s1.h : Int) + 1)) :=
  ⟨h.isT.up h.wf h.pos ha, h.wf.upN h4 h.pos (h.isT.fresh), upN_full h.wf (h.full.full (by omega)), by show 0 < s1.h + 1; omega, h.same, fun _ => .inr hk,
   fun L q b hb => by
    rcases upN_sub hb with ⟨_, _, rfl⟩ | ⟨_, hb⟩
    · exact .inr h.off.size
    · exact h.new _ _ _ hb, h.off.trans' (growW_off _ _) (fun i _ e => e)⟩
theorem GI.top {s : TS Int} {p : Nat} {n : Int} {k : Nat} {w : World} {s1 : TS Int} {wx : World} (h : GI s p n k w s1 wx) (h4 : s1.h ≤ 4) (hk : 16 ^ s1.h ≤ k) (hu : usedOf (s1.child (s1.h - 1) 0) = 0) :
    GI s p n k w (topN s1 wx.heap.size) (growW wx kInt p (nodeZ (.pointer none) 0) ((s1.h : Int) + 1)) := by
  have hz : ∀ k, s1.K k = none := fun k => by
    cases e : s1.K k with
    | none => rfl
    | some x => have := root_used h.wf e; omega
  exact ⟨h.isT.top hz, WF.topN h4 hz _, topN_full, by show 0 < s1.h + 1; omega, h.same, fun _ => .inr hk, fun L q b hb => by
    obtain ⟨_, _, rfl⟩ := topN_sub hb
    exact .inr h.off.size, h.off.trans' (growW_off _ _) (fun i _ e => e)⟩
def GrowEnd (s : TS Int) (p : Nat) (n : Int) (k : Nat) (w : World) (e : Ending) (w' : World) : Prop :=
  (∃ v, e = .returned v) ∧ ∃ s', GI s p n k w s' w' ∧ k < 16 ^ s'.h
theorem grow_calls (s : TS Int) (p : Nat) (n : Int) (w : World) (k : Nat) (hk : k < 1048576) (hI : IsT kInt w p n s) (hw : WF s) (hF : Full s) (hM : MinH s) :
    Calls Try.prog 43 #[.pointer (some ⟨p, 0, none⟩), .int .i64 (k : Int)] w (GrowEnd s p n k w) := by
  have HK := Lib.hid hk
  have c1 := hI.c1
  have f0 := hI.cf 0
  have f1 := hI.cf 1
  by_cases h0 : 0 < s.h
  case' pos =>
    obtain ⟨a, ha⟩ := hw.root h0
    have c0 := hI.c0
    rw [ha, ptr_some] at c0
    have HS := Lib.hid (show GI s p n k w s w from ⟨hI, hw, hF.but _ _, h0, rfl, fun _ => .inl hM, fun _ _ _ h => .inl h, Off.refl _ _⟩)
    clear hI hw hF hM ha
    go_enter Try.func43, Try.ntmps43
    go_wp2
  case' neg =>
    have e0 : s.h = 0 := by omega
    have hr : s.N (s.h - 1) 0 = none := by
      cases e : s.N (s.h - 1) 0 with
      | none => rfl
      | some x => have := hw.lv _ _ _ e; omega
    have hz : ∀ k, s.K k = none := fun k => by
      cases e : s.K k with
      | none => rfl
      | some x => obtain ⟨b, hb⟩ := hw.ku _ _ e; have := hw.lv _ _ _ hb; omega
    have c0 := hI.c0
    rw [hr, ptr_none] at c0
    have n0 : ¬ p = w.heap.size := fun e => World.new_ne _ _ c0 e.symm
    have k0 := cellA c0
    have k1 := cellA c1
    have g0 := freeA hI.plt f0
    have g1 := freeA hI.plt f1
    have HS := Lib.hid (show GI s p n k w (topN s w.heap.size) (growW w kInt p (nodeZ (.pointer none) 0) ((s.h : Int) + 1)) from
      ⟨hI.top hz, WF.topN (by omega) hz _, (by have := topN_full (s := s) (t := w.heap.size); exact this), by show 0 < s.h + 1; omega, rfl, fun h => by have h' : 1 < s.h + 1 := h; omega, fun L q b hb => by
        obtain ⟨_, _, rfl⟩ := topN_sub hb
        exact .inr (Nat.le_refl _), growW_off _ _⟩)
    rw [e0] at HS
    clear hI hw hF hM hr hz e0 h0
    go_enter Try.func43, Try.ntmps43
    go_wp2
  all_goals
    go_loopg [] 6 (fun gk wx => ∃ s1 : TS Int, 6 - s1.h ≤ gk ∧ GI s p n k w s1 wx)
    case atStart => exact ⟨_, by omega, HS.out⟩
    case round =>
      obtain ⟨s1, hg, hG⟩ := hrel
      have HG := Lib.hid hg
      have HH := Lib.hid hG
      have hI := hG.isT
      obtain ⟨a1, ha⟩ := hG.wf.root hG.pos
      have hh5 := hG.wf.h5
      have RC := Lib.hid (fun W => room_calls s1.h hh5 W)
      have c0 := hI.c0
      rw [ha, ptr_some] at c0
      have c1 := hI.c1
      have f0 := hI.cf 0
      have f1 := hI.cf 1
      have hnode := hI.node _ _ _ ha
      have c3 := hnode.used
      have hul := usedOf_le (s1.child (s1.h - 1) 0)
      have n0 : ¬ p = wr.heap.size := fun e => World.new_ne _ _ c0 e.symm
      have k0 := cellA c0
      have k1 := cellA c1
      have k3 := cellA c3
      have g0 := freeA hI.plt f0
      have g1 := freeA hI.plt f1
      by_cases hlt : 16 ^ s1.h ≤ k
      · have hlt2 : ((16 ^ s1.h : Nat) : Int) ≤ (k : Int) := Int.ofNat_le.2 hlt
        have hh4 : s1.h ≤ 4 := by
          by_cases e : s1.h ≤ 4
          · exact e
          · have e5 : s1.h = 5 := by omega
            rw [e5] at hlt
            have := HK.out
            omega
        have HU := Lib.hid (fun hu => hG.up hh4 hlt hu ha)
        have HT := Lib.hid (fun hu => hG.top hh4 hlt hu)
        clear hg hG hI ha hnode hlt HS
        revert RC c3 hul k3 HU HT hlt2
        generalize ((16 ^ s1.h : Nat) : Int) = R
        generalize usedOf (s1.child (s1.h - 1) 0) = U
        intro RC c3 hul k3 hlt2 HU HT
        by_cases hU : U = 0
        · subst hU
          have HE := Lib.hid (HT.out rfl)
          clear HU HT
          go_wp2_with (go_at_call 54; refine (RC.out _).mono ?_; rintro e w' ⟨rfl, rfl⟩)
          go_roundg (gk - 1)
          case measure => have := HG.out; omega
          case rel => exact ⟨_, by have := HG.out; show 6 - (s1.h + 1) ≤ gk - 1; omega, HE.out⟩
        · have hU2 : (0 : Int) < (U : Int) := by omega
          have HE := Lib.hid (HU.out hU)
          clear HU HT
          go_wp2_with (go_at_call 54; refine (RC.out _).mono ?_; rintro e w' ⟨rfl, rfl⟩)
          go_region
          all_goals
            go_wp2
            go_roundg (gk - 1)
            case measure => have := HG.out; omega
            case rel => exact ⟨_, by have := HG.out; show 6 - (s1.h + 1) ≤ gk - 1; omega, HE.out.drew⟩
      · have hlt2 : ¬ ((16 ^ s1.h : Nat) : Int) ≤ (k : Int) := by omega
        have hlt3 : k < 16 ^ s1.h := by omega
        have HE := Lib.hid (show ∃ s', GI s p n k w s' wr ∧ k < 16 ^ s'.h from ⟨s1, hG, hlt3⟩)
        clear hg hG hI ha hnode hlt hlt3 HS
        revert RC hlt2
        generalize ((16 ^ s1.h : Nat) : Int) = R
        intro RC hlt2
        go_wp2_with (go_at_call 54; refine (RC.out _).mono ?_; rintro e w' ⟨rfl, rfl⟩)
        go_end0
        exact ⟨⟨_, rfl⟩, HE.out⟩
end Go.Proofs.Ythpjcbaijbppiaa
