/- All from a key on is taken away below a node: what stands after some of its sixteen. -/
import Derived.Test.YthpjcbaijbppiaaPut
namespace Go.Proofs.Ythpjcbaijbppiaa
open Go.RowKit Go.Proofs
set_option linter.unusedVariables false
set_option linter.unusedSimpArgs false
variable {V : Type} {s : TS V} {κ : Tk V} {w : World} {p : Nat} {n : Int}
/-- d of the sixteen are done; g are gone. -/
structure CI (κ : Tk V) (s : TS V) (p : Nat) (n : Int) (w : World) (L q a : Nat) (fr : Int) (d : Nat) (g : Int) (s1 : TS V) (wx : World) : Prop where
  isT : IsT κ wx p n s1
  wf : WF s1
  full : FullBut s1 L q
  hh : s1.h = s.h
  key : ∀ i, s1.K i = if (q * 16 ^ (L + 1) ≤ i ∧ i < q * 16 ^ (L + 1) + d * 16 ^ L) ∧ fr ≤ (i : Int) then none else s.K i
  high : ∀ L' q', L ≤ L' → s1.N L' q' = s.N L' q'
  sub : ∀ L' q' b, s1.N L' q' = some b → s.N L' q' = some b
  off : Off (Nodes s) w wx
  gone : g = ((lst s.val (q * 16 ^ (L + 1)) (d * 16 ^ L)).length : Int) - ((lst s1.val (q * 16 ^ (L + 1)) (d * 16 ^ L)).length : Int)
theorem val_of_key {s1 s2 : TS V} {i : Nat} (h : s1.K i = s2.K i) : s1.val i = s2.val i := by unfold TS.val; rw [h]
theorem CI.start (hI : IsT κ w p n s) (hw : WF s) {L q : Nat} (hf : FullBut s L q) (a : Nat) (fr : Int) : CI κ s p n w L q a fr 0 0 s w :=
  ⟨hI, hw, hf, rfl, fun i => by rw [if_neg]; rintro ⟨⟨h1, h2⟩, _⟩; omega, fun _ _ _ => rfl, fun _ _ _ h => h, Off.refl _ _, by simp [lst]⟩
theorem CI.step {L q a : Nat} {fr : Int} {d : Nat} {g : Int} {s1 s2 : TS V} {wx w2 : World} (h : CI κ s p n w L q a fr d g s1 wx) (hI : IsT κ w2 p n s2) (hw : WF s2) (hf : FullBut s2 L q) (hh : s2.h = s1.h)
    (hK : ∀ i, s2.K i = if (q * 16 ^ (L + 1) + d * 16 ^ L ≤ i ∧ i < q * 16 ^ (L + 1) + d * 16 ^ L + 16 ^ L) ∧ fr ≤ (i : Int) then none else s1.K i)
    (hN : ∀ L' q', L ≤ L' → s2.N L' q' = s1.N L' q') (hS : ∀ L' q' b, s2.N L' q' = some b → s1.N L' q' = some b) (ho : Off (Nodes s) w w2) {g2 : Int}
    (hg : g2 = g + (((lst s1.val (q * 16 ^ (L + 1) + d * 16 ^ L) (16 ^ L)).length : Int) - ((lst s2.val (q * 16 ^ (L + 1) + d * 16 ^ L) (16 ^ L)).length : Int))) :
    CI κ s p n w L q a fr (d + 1) g2 s2 w2 := by
  have e : (d + 1) * 16 ^ L = d * 16 ^ L + 16 ^ L := Nat.succ_mul _ _
  have hk1 := h.key
  have hgo := h.gone
  refine ⟨hI, hw, hf, hh.trans h.hh, fun i => ?_, fun L' q' hl => (hN _ _ hl).trans (h.high _ _ hl), fun L' q' b hb => h.sub _ _ _ (hS _ _ _ hb), ho, ?_⟩
  · rw [e, hK i]
    rw [hk1 i]
    revert e hk1 hgo hg hK
    generalize q * 16 ^ (L + 1) = B
    generalize d * 16 ^ L = X
    generalize 16 ^ L = S
    intro _ _ _ _ _
    by_cases h1 : (B + X ≤ i ∧ i < B + X + S) ∧ fr ≤ (i : Int)
    · rw [if_pos h1, if_pos (by omega)]
    · rw [if_neg h1]
      by_cases h2 : (B ≤ i ∧ i < B + X) ∧ fr ≤ (i : Int)
      · rw [if_pos h2, if_pos (by omega)]
      · rw [if_neg h2, if_neg (by omega)]
  · rw [e, lst_add, lst_add, hg, hgo, List.length_append, List.length_append]
    have e1 : lst s2.val (q * 16 ^ (L + 1)) (d * 16 ^ L) = lst s1.val (q * 16 ^ (L + 1)) (d * 16 ^ L) := lst_congr fun i h1 h2 => val_of_key (by rw [hK i, if_neg (by omega)])
    have e2 : lst s.val (q * 16 ^ (L + 1) + d * 16 ^ L) (16 ^ L) = lst s1.val (q * 16 ^ (L + 1) + d * 16 ^ L) (16 ^ L) := lst_congr fun i h1 h2 => val_of_key (by rw [hk1 i, if_neg (by omega)])
    rw [e1, e2]
    omega
/-- Nothing is to be taken from the d-th. -/
theorem CI.skip {L q a : Nat} {fr : Int} {d : Nat} {g : Int} {s1 : TS V} {wx : World} (h : CI κ s p n w L q a fr d g s1 wx)
    (hz : ∀ i, q * 16 ^ (L + 1) + d * 16 ^ L ≤ i → i < q * 16 ^ (L + 1) + d * 16 ^ L + 16 ^ L → fr ≤ (i : Int) → s1.K i = none) : CI κ s p n w L q a fr (d + 1) g s1 wx :=
  h.step h.isT h.wf h.full rfl (fun i => by
    by_cases e : (q * 16 ^ (L + 1) + d * 16 ^ L ≤ i ∧ i < q * 16 ^ (L + 1) + d * 16 ^ L + 16 ^ L) ∧ fr ≤ (i : Int)
    · rw [if_pos e]; exact hz i e.1.1 e.1.2 e.2
    · rw [if_neg e]) (fun _ _ _ => rfl) (fun _ _ _ h => h) h.off (by omega)
theorem chunk_eq (q d L : Nat) : q * 16 ^ (L + 1) + d * 16 ^ L = (q * 16 + d) * 16 ^ L := by rw [Nat.pow_succ, Nat.add_mul, Nat.mul_assoc, Nat.mul_comm (16 ^ L) 16]
theorem chunk_div {q d L i : Nat} (h1 : q * 16 ^ (L + 1) + d * 16 ^ L ≤ i) (h2 : i < q * 16 ^ (L + 1) + d * 16 ^ L + 16 ^ L) : i / 16 ^ L = q * 16 + d := by
  rw [chunk_eq] at h1 h2
  have hp := pow_pos16 L
  refine Nat.div_eq_of_lt_le h1 ?_
  rw [Nat.succ_mul]; exact h2
/-- The d-th of a leaf is taken. -/
theorem CI.key_gone {q a : Nat} {fr : Int} {d : Nat} {g : Int} {s1 : TS V} {wx : World} (h : CI κ s p n w 0 q a fr d g s1 wx) (hd : d < 16) (ha : s.N 0 q = some a) (hfr : fr ≤ ((q * 16 + d : Nat) : Int)) {x : Nat × V} (hk : s1.K (q * 16 + d) = some x) :
    CI κ s p n w 0 q a fr (d + 1) (g + 1) (setKey s1 (q * 16 + d) none) ((wx.setCell ⟨a, 16 + d, none⟩ (.pointer none)).setCell ⟨a, 32, none⟩ (.int .i64 ((usedOf (s1.child 0 q) : Int) - 1))) := by
  have hq : (q * 16 + d) / 16 = q := by omega
  have hm : (q * 16 + d) % 16 = d := by omega
  have ha1 : s1.N 0 q = some a := (h.high _ _ (Nat.le_refl _)).trans ha
  have hI := h.isT.key_gone (k := q * 16 + d) (a := a) h.wf (by rw [hq]; exact ha1) hk rfl
  rw [hq, hm] at hI
  refine h.step hI (h.wf.key_gone _) (fun L' q' b hb hne => ?_) rfl (fun i => ?_) (fun _ _ _ => rfl) (fun _ _ _ h => h) (h.off.trans' (off2 _ _ _ _ _) fun i _ e => ⟨_, _, e ▸ ha⟩) ?_
  · have h1 := h.full L' q' b hb hne
    rwa [usedOf_congr (f := s1.child L' q') (fun d' hd' => ?_)]
    rw [child_setKey, if_neg]
    rintro ⟨rfl, e⟩
    exact hne ⟨rfl, by omega⟩
  · rw [Nat.zero_add, Nat.pow_one, Nat.pow_zero, Nat.mul_one]
    show (if i = q * 16 + d then none else s1.K i) = _
    by_cases e : i = q * 16 + d
    · rw [if_pos e, if_pos (by omega)]
    · rw [if_neg e, if_neg (by omega)]
  · rw [Nat.zero_add, Nat.pow_one, Nat.pow_zero, Nat.mul_one]
    have e1 : (lst s1.val (q * 16 + d) 1).length = 1 := by
      show ([] ++ (match s1.val (q * 16 + d + 0) with | none => [] | some v => [(q * 16 + d + 0, v)])).length = 1
      have : s1.val (q * 16 + d + 0) = some x.2 := by unfold TS.val; rw [Nat.add_zero, hk]; rfl
      rw [this]; rfl
    have e2 : (lst (setKey s1 (q * 16 + d) none).val (q * 16 + d) 1).length = 0 := by
      rw [lst_none (fun i h1 h2 => by
        have : i = q * 16 + d := by omega
        subst this
        unfold TS.val; rw [K_setKey_same]; rfl)]
      rfl
    rw [e1, e2]
    omega
def CutEnd (κ : Tk V) (s : TS V) (p : Nat) (n : Int) (w : World) (L q : Nat) (fr : Int) (e : Ending) (w' : World) : Prop :=
  ∃ (s' : TS V) (g : Int) (a : Nat), e = .returned (.int .i64 g) ∧ CI κ s p n w L q a fr 16 g s' w'
theorem CI.bound {L q a : Nat} {fr : Int} {d : Nat} {g : Int} {s1 : TS V} {wx : World} (h : CI κ s p n w L q a fr d g s1 wx) : -((d * 16 ^ L : Nat) : Int) ≤ g ∧ g ≤ ((d * 16 ^ L : Nat) : Int) := by
  have h1 := lst_length s.val (q * 16 ^ (L + 1)) (d * 16 ^ L)
  have h2 := lst_length s1.val (q * 16 ^ (L + 1)) (d * 16 ^ L)
  have h3 := h.gone
  omega
/-- The d-th, a node, has been cut. -/
theorem CI.call {L q a c : Nat} {fr : Int} {d : Nat} {g g2 : Int} {s1 s2 : TS V} {wx w2 : World} (h : CI κ s p n w (L + 1) q a fr d g s1 wx) (hd : d < 16) (ha : s.N (L + 1) q = some a) (hc : s1.N L (q * 16 + d) = some c) {a2 : Nat}
    (h2 : CI κ s1 p n wx L (q * 16 + d) a2 fr 16 g2 s2 w2) :
    (usedOf (s2.child L (q * 16 + d)) ≠ 0 → CI κ s p n w (L + 1) q a fr (d + 1) (g + g2) s2 w2) ∧
    (usedOf (s2.child L (q * 16 + d)) = 0 → CI κ s p n w (L + 1) q a fr (d + 1) (g + g2) (setN s2 L (q * 16 + d) none)
      ((w2.setCell ⟨a, d, none⟩ (.pointer none)).setCell ⟨a, 32, none⟩ (.int .i64 ((usedOf (s2.child (L + 1) q) : Int) - 1)))) := by
  have ho : Off (Nodes s) w w2 := h.off.trans' h2.off fun i _ ⟨L', q', e⟩ => ⟨L', q', h.sub _ _ _ e⟩
  have e1 : (q * 16 + d) * 16 ^ (L + 1) = q * 16 ^ (L + 1 + 1) + d * 16 ^ (L + 1) := (chunk_eq q d (L + 1)).symm
  have e2 : 16 * 16 ^ L = 16 ^ (L + 1) := by rw [Nat.pow_succ, Nat.mul_comm]
  have hK2 := h2.key
  have hG2 := h2.gone
  rw [e1, e2] at hK2 hG2
  have hq : (q * 16 + d) / 16 = q := by omega
  have hm : (q * 16 + d) % 16 = d := by omega
  have ha2 : s2.N (L + 1) q = some a := ((h2.high _ _ (by omega)).trans (h.high _ _ (Nat.le_refl _))).trans ha
  have hc2 : s2.N L (q * 16 + d) = some c := (h2.high _ _ (Nat.le_refl _)).trans hc
  have hl := h2.wf.lv _ _ _ ha2
  constructor
  · intro hu
    have hf : Full s2 := h2.full.full (by omega)
    exact h.step h2.isT h2.wf (hf.but _ _) h2.hh hK2 (fun L' q' hl => h2.high _ _ (by omega)) h2.sub ho (by omega)
  · intro hu
    have hI := h2.isT.node_gone (L := L) (q := q * 16 + d) (a := a) (b := c) h2.wf (by rw [hq]; exact ha2) hc2 rfl
    rw [hq, hm] at hI
    have sub : ∀ L' q' b, (setN s2 L (q * 16 + d) none).N L' q' = some b → s2.N L' q' = some b ∧ ¬ (L' = L ∧ q' = q * 16 + d) := fun L' q' a ha => by
      by_cases e : L' = L ∧ q' = q * 16 + d
      · obtain ⟨rfl, rfl⟩ := e; rw [N_setN_same] at ha; cases ha
      · rw [N_setN_ne e] at ha; exact ⟨ha, e⟩
    refine h.step hI (h2.wf.node_gone (by omega) hu) (fun L' q' b hb hne => ?_) h2.hh hK2 (fun L' q' hl' => ?_) (fun L' q' b hb => h2.sub _ _ _ (sub _ _ _ hb).1) (ho.trans' (off2 _ _ _ _ _) fun i _ e => ⟨_, _, e ▸ ha⟩) (by
      have : (setN s2 L (q * 16 + d) none).val = s2.val := rfl
      rw [this]; omega)
    · obtain ⟨h3, h4⟩ := sub _ _ _ hb
      have h5 := h2.full L' q' b h3 h4
      rwa [usedOf_congr (f := s2.child L' q') (fun d' hd' => ?_)]
      rw [child_setN, if_neg]
      rintro ⟨rfl, e⟩
      exact hne ⟨rfl, by omega⟩
    · rw [N_setN_ne (by omega)]; exact h2.high _ _ (by omega)
theorem node_room (hw : WF s) {L q a : Nat} (ha : s.N L q = some a) : q * 16 ^ (L + 1) + 16 * 16 ^ L ≤ 1048576 := by
  have h1 := hw.node_lt ha
  have h2 := hw.lv _ _ _ ha
  have h3 := pow16_le hw.h5
  have e1 : 16 * 16 ^ L = 16 ^ (L + 1) := by rw [Nat.pow_succ, Nat.mul_comm]
  have e2 : 16 ^ (s.h - 1 - L) * 16 ^ (L + 1) = 16 ^ s.h := by rw [← Nat.pow_add]; congr 1; omega
  have h4 : (q + 1) * 16 ^ (L + 1) ≤ 16 ^ (s.h - 1 - L) * 16 ^ (L + 1) := Nat.mul_le_mul_right _ h1
  rw [Nat.succ_mul] at h4
  omega
end Go.Proofs.Ythpjcbaijbppiaa
