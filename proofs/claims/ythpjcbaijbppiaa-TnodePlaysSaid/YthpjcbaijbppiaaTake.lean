/- take: a key is taken away below a node. -/
import Derived.Test.YthpjcbaijbppiaaPure2
import Derived.Test.YthpjcbaijbppiaaFind
namespace Go.Proofs.Ythpjcbaijbppiaa
open Go.RowKit Go.Proofs
set_option linter.unusedVariables false
set_option linter.unusedSimpArgs false
def Nodes {V : Type} (s : TS V) (b : Nat) : Prop := ∃ L q, s.N L q = some b
/-- The node (L, q), and what lies below it, has lost the key k. -/
def TakeEnd (s : TS Int) (p : Nat) (n : Int) (L q k : Nat) (w : World) (e : Ending) (w' : World) : Prop :=
  ∃ (s' : TS Int) (b : Bool), e = .returned (.bool b) ∧ (b = true ↔ usedOf (s'.child L q) = 0) ∧ WF s' ∧ IsT kInt w' p n s' ∧ FullBut s' L q ∧ s'.h = s.h ∧ (∀ i, s'.K i = if i = k then none else s.K i) ∧
    (∀ L' q', L ≤ L' → s'.N L' q' = s.N L' q') ∧ (∀ L' q' b, s'.N L' q' = some b → s.N L' q' = some b) ∧ Off (Nodes s) w w'
theorem take_leaf_end {s : TS Int} {p : Nat} {n u : Int} {k a : Nat} {x : Nat × Int} {w : World} (hw : WF s) (hI : IsT kInt w p n s) (hF : Full s) (ha : s.N 0 (k / 16) = some a) (hk : s.K k = some x) (hu : u = (usedOf (s.child 0 (k / 16)) : Int) - 1) :
    TakeEnd s p n 0 (k / 16) k w (.returned (.bool (u == 0))) ((w.setCell ⟨a, 16 + k % 16, none⟩ (.pointer none)).setCell ⟨a, 32, none⟩ (.int .i64 u)) := by
  have he : ∀ i, i < 16 → i ≠ k % 16 → (setKey s k none).child 0 (k / 16) i = s.child 0 (k / 16) i := fun i hi hn => by rw [child_setKey, if_neg (by omega)]
  have hg := usedOf_gone (f := s.child 0 (k / 16)) (f' := (setKey s k none).child 0 (k / 16)) (Nat.mod_lt k (show 0 < 16 by decide)) (by rw [child_setKey, if_pos ⟨rfl, by omega⟩]; rfl) (by show ((s.K (k / 16 * 16 + k % 16)).map Prod.fst).isSome = true; rw [show k / 16 * 16 + k % 16 = k by omega, hk]; rfl) he
  refine ⟨setKey s k none, _, rfl, ?_, hw.key_gone k, hI.key_gone hw ha hk hu, fun L' q' b hb hne => ?_, rfl, fun i => rfl, fun _ _ _ => rfl, fun _ _ _ h => h, (off2 _ _ _ _ _).mono fun i _ e => ⟨_, _, e ▸ ha⟩⟩
  · rw [beq_iff_eq, hu, hg]; omega
  · have h1 := hF L' q' b hb
    rwa [usedOf_congr (f := s.child L' q') (fun d hd => ?_)]
    rw [child_setKey, if_neg]
    rintro ⟨rfl, e⟩
    exact hne ⟨rfl, by omega⟩
theorem take_inner_end {s s1 : TS Int} {p : Nat} {n : Int} {L k a : Nat} {w w1 : World} {b : Bool} (hw1 : WF s1) (hI1 : IsT kInt w1 p n s1) (hF1 : FullBut s1 L (k / 16 ^ (L + 1))) (hh : s1.h = s.h)
    (hK : ∀ i, s1.K i = if i = k then none else s.K i) (hN : ∀ L' q', L ≤ L' → s1.N L' q' = s.N L' q') (hS : ∀ L' q' b, s1.N L' q' = some b → s.N L' q' = some b) (ho : Off (Nodes s) w w1)
    (ha : s.N (L + 1) (k / 16 ^ (L + 2)) = some a) {c : Nat} (hc : s.N L (k / 16 ^ (L + 1)) = some c) (hb : b = true ↔ usedOf (s1.child L (k / 16 ^ (L + 1))) = 0) :
    (b = false → TakeEnd s p n (L + 1) (k / 16 ^ (L + 2)) k w (.returned (.bool ((usedOf (s1.child (L + 1) (k / 16 ^ (L + 2))) : Int) == 0))) w1) ∧
    (b = true → TakeEnd s p n (L + 1) (k / 16 ^ (L + 2)) k w (.returned (.bool ((usedOf (s1.child (L + 1) (k / 16 ^ (L + 2))) : Int) - 1 == 0)))
      ((w1.setCell ⟨a, k / 16 ^ (L + 1) % 16, none⟩ (.pointer none)).setCell ⟨a, 32, none⟩ (.int .i64 ((usedOf (s1.child (L + 1) (k / 16 ^ (L + 2))) : Int) - 1)))) := by
  have e2 : k / 16 ^ (L + 2) = k / 16 ^ (L + 1) / 16 := div16 k (L + 1)
  rw [e2] at ha ⊢
  clear e2
  revert hF1 hc hb ha
  generalize k / 16 ^ (L + 1) = q
  intro hF1 ha hc hb
  have ha1 : s1.N (L + 1) (q / 16) = some a := by rw [hN _ _ (by omega)]; exact ha
  have hc1 : s1.N L q = some c := by rw [hN _ _ (Nat.le_refl _)]; exact hc
  constructor
  · intro e
    have hf : Full s1 := hF1.full (by
      by_cases h0 : usedOf (s1.child L q) = 0
      · have := hb.2 h0; rw [e] at this; cases this
      · omega)
    refine ⟨s1, _, rfl, ?_, hw1, hI1, hf.but _ _, hh, hK, fun L' q' hl => hN L' q' (by omega), hS, ho⟩
    rw [beq_iff_eq]; omega
  · intro e
    have h0 := hb.1 e
    have hm : q % 16 < 16 := Nat.mod_lt _ (by decide)
    have hl := hw1.lv _ _ _ ha1
    have he : ∀ i, i < 16 → i ≠ q % 16 → (setN s1 L q none).child (L + 1) (q / 16) i = s1.child (L + 1) (q / 16) i := fun i hi hn => by rw [child_setN, if_neg (by omega)]
    have hg := usedOf_gone (f := s1.child (L + 1) (q / 16)) (f' := (setN s1 L q none).child (L + 1) (q / 16)) hm (by rw [child_setN, if_pos ⟨rfl, by omega⟩]) (by show (s1.N L (q / 16 * 16 + q % 16)).isSome = true; rw [show q / 16 * 16 + q % 16 = q by omega, hc1]; rfl) he
    have sub : ∀ L' q' a, (setN s1 L q none).N L' q' = some a → s1.N L' q' = some a ∧ ¬ (L' = L ∧ q' = q) := fun L' q' a ha => by
      by_cases e : L' = L ∧ q' = q
      · obtain ⟨rfl, rfl⟩ := e; rw [N_setN_same] at ha; cases ha
      · rw [N_setN_ne e] at ha; exact ⟨ha, e⟩
    refine ⟨setN s1 L q none, _, rfl, ?_, hw1.node_gone (by omega) h0, hI1.node_gone hw1 ha1 hc1 rfl, fun L' q' d hd hne => ?_, hh, hK, fun L' q' hl' => ?_, fun L' q' d hd => hS _ _ _ (sub _ _ _ hd).1, ?_⟩
    · rw [beq_iff_eq, hg]; omega
    · obtain ⟨h1, h2⟩ := sub _ _ _ hd
      have h3 := hF1 L' q' d h1 h2
      rwa [usedOf_congr (f := s1.child L' q') (fun d hd => ?_)]
      rw [child_setN, if_neg]
      rintro ⟨rfl, e⟩
      exact hne ⟨rfl, by omega⟩
    · rw [N_setN_ne (by omega)]; exact hN _ _ (by omega)
    · exact ho.trans' (off2 _ _ _ _ _) fun i _ e => ⟨_, _, e ▸ ha⟩
end Go.Proofs.Ythpjcbaijbppiaa
