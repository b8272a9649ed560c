/- One key, one node set or taken away. -/
import Derived.Test.YthpjcbaijbppiaaState
namespace Go.Proofs.Ythpjcbaijbppiaa
open Go.RowKit Go.Proofs
set_option linter.unusedVariables false
set_option linter.unusedSimpArgs false
universe u
variable {V : Type u} {s : TS V}
def setKey (s : TS V) (k : Nat) (o : Option (Nat × V)) : TS V := { s with K := fun i => if i = k then o else s.K i }
def setN (s : TS V) (L q : Nat) (o : Option Nat) : TS V := { s with N := fun L' q' => if L' = L ∧ q' = q then o else s.N L' q' }
theorem child_setKey (k : Nat) (o : Option (Nat × V)) (L q d : Nat) : (setKey s k o).child L q d = if L = 0 ∧ q * 16 + d = k then o.map Prod.fst else s.child L q d := by
  cases L with
  | zero =>
    show ((if q * 16 + d = k then o else s.K (q * 16 + d)).map Prod.fst) = _
    by_cases e : q * 16 + d = k
    · rw [if_pos e, if_pos ⟨rfl, e⟩]
    · rw [if_neg e, if_neg (fun h => e h.2)]; rfl
  | succ L => rw [if_neg (by omega)]; rfl
theorem child_setN (L q : Nat) (o : Option Nat) (L' q' d : Nat) : (setN s L q o).child L' q' d = if L' = L + 1 ∧ q' * 16 + d = q then o else s.child L' q' d := by
  cases L' with
  | zero => rw [if_neg (by omega)]; rfl
  | succ L' =>
    show (if L' = L ∧ q' * 16 + d = q then o else s.N L' (q' * 16 + d)) = _
    by_cases e : L' = L ∧ q' * 16 + d = q
    · rw [if_pos e, if_pos ⟨by omega, e.2⟩]
    · rw [if_neg e, if_neg (fun h => e ⟨by omega, h.2⟩)]; rfl
theorem N_setN_ne {L q L' q' : Nat} {o : Option Nat} (h : ¬ (L' = L ∧ q' = q)) : (setN s L q o).N L' q' = s.N L' q' := if_neg h
theorem N_setN_same {L q : Nat} {o : Option Nat} : (setN s L q o).N L q = o := if_pos ⟨rfl, rfl⟩
theorem K_setKey_ne {k i : Nat} {o : Option (Nat × V)} (h : i ≠ k) : (setKey s k o).K i = s.K i := if_neg h
theorem K_setKey_same {k : Nat} {o : Option (Nat × V)} : (setKey s k o).K k = o := if_pos rfl
theorem WF.key_gone (h : WF s) (k : Nat) : WF (setKey s k none) :=
  ⟨h.h5, h.lv, h.one, h.root, h.up, fun i x hx => by
    by_cases e : i = k
    · subst e; rw [K_setKey_same] at hx; cases hx
    · rw [K_setKey_ne e] at hx; exact h.ku i x hx, h.inj⟩
theorem WF.key_new (h : WF s) {k b : Nat} (x : Nat × V) (hb : s.N 0 (k / 16) = some b) : WF (setKey s k (some x)) :=
  ⟨h.h5, h.lv, h.one, h.root, h.up, fun i y hy => by
    by_cases e : i = k
    · subst e; exact ⟨b, hb⟩
    · rw [K_setKey_ne e] at hy; exact h.ku i y hy, h.inj⟩
theorem WF.node_gone (h : WF s) {L q : Nat} (hL : L + 1 < s.h) (hu : usedOf (s.child L q) = 0) : WF (setN s L q none) := by
  have hno : ∀ d, d < 16 → s.child L q d = none := fun d hd => by
    cases e : s.child L q d with
    | none => rfl
    | some a => have := usedOf_pos.2 ⟨d, a, hd, e⟩; omega
  have sub : ∀ L' q' a, (setN s L q none).N L' q' = some a → s.N L' q' = some a ∧ ¬ (L' = L ∧ q' = q) := fun L' q' a ha => by
    by_cases e : L' = L ∧ q' = q
    · obtain ⟨rfl, rfl⟩ := e; rw [N_setN_same] at ha; cases ha
    · rw [N_setN_ne e] at ha; exact ⟨ha, e⟩
  refine ⟨h.h5, fun L' q' a ha => h.lv _ _ _ (sub _ _ _ ha).1, fun q' a ha => h.one _ _ (sub _ _ _ ha).1, fun h0 => ?_, fun L' q' a ha hl => ?_, fun k x hx => ?_, fun L1 q1 L2 q2 a h1 h2 => h.inj _ _ _ _ _ (sub _ _ _ h1).1 (sub _ _ _ h2).1⟩
  · obtain ⟨a, ha⟩ := h.root h0
    exact ⟨a, by rw [show (setN s L q none).h = s.h from rfl, N_setN_ne (by omega)]; exact ha⟩
  · obtain ⟨b, hb⟩ := h.up _ _ _ (sub _ _ _ ha).1 hl
    refine ⟨b, ?_⟩
    rw [N_setN_ne ?_]
    · exact hb
    · rintro ⟨e1, e2⟩
      subst e1
      have := hno (q' % 16) (by omega)
      have e3 : q * 16 + q' % 16 = q' := by omega
      have h4 : s.N L' (q * 16 + q' % 16) = none := this
      rw [e3, (sub _ _ _ ha).1] at h4
      cases h4
  · obtain ⟨b, hb⟩ := h.ku k x hx
    refine ⟨b, ?_⟩
    rw [N_setN_ne ?_]
    · exact hb
    · rintro ⟨e1, e2⟩
      subst e1
      have := hno (k % 16) (by omega)
      have e3 : q * 16 + k % 16 = k := by omega
      have h4 : (s.K (q * 16 + k % 16)).map Prod.fst = none := this
      rw [e3, show s.K k = some x from hx] at h4
      cases h4
theorem WF.node_new (h : WF s) {L q a b : Nat} (hL : L + 1 < s.h) (hp : s.N (L + 1) (q / 16) = some a) (hf : ∀ L' q', s.N L' q' ≠ some b) (hn : s.N L q = none) : WF (setN s L q (some b)) := by
  have sub : ∀ L' q' a, (setN s L q (some b)).N L' q' = some a → (L' = L ∧ q' = q ∧ a = b) ∨ s.N L' q' = some a := fun L' q' a ha => by
    by_cases e : L' = L ∧ q' = q
    · obtain ⟨rfl, rfl⟩ := e; rw [N_setN_same] at ha; cases ha; exact .inl ⟨rfl, rfl, rfl⟩
    · rw [N_setN_ne e] at ha; exact .inr ha
  have old : ∀ L' q' a, s.N L' q' = some a → (setN s L q (some b)).N L' q' = some a := fun L' q' a ha => by
    rw [N_setN_ne]
    · exact ha
    · rintro ⟨rfl, rfl⟩; rw [hn] at ha; cases ha
  refine ⟨h.h5, fun L' q' a ha => ?_, fun q' a ha => ?_, fun h0 => ?_, fun L' q' a ha hl => ?_, fun k x hx => ?_, fun L1 q1 L2 q2 a h1 h2 => ?_⟩
  · rcases sub _ _ _ ha with ⟨rfl, rfl, rfl⟩ | ha
    · show L' < s.h; omega
    · exact h.lv _ _ _ ha
  · rcases sub _ _ _ ha with ⟨e, rfl, rfl⟩ | ha
    · have : s.h - 1 = L := e
      omega
    · exact h.one _ _ ha
  · obtain ⟨a, ha⟩ := h.root h0
    exact ⟨a, old _ _ _ ha⟩
  · rcases sub _ _ _ ha with ⟨rfl, rfl, rfl⟩ | ha
    · exact ⟨_, old _ _ _ hp⟩
    · obtain ⟨c, hc⟩ := h.up _ _ _ ha hl
      exact ⟨c, old _ _ _ hc⟩
  · obtain ⟨c, hc⟩ := h.ku k x hx
    exact ⟨c, old _ _ _ hc⟩
  · rcases sub _ _ _ h1 with ⟨rfl, rfl, rfl⟩ | h3
    · rcases sub _ _ _ h2 with ⟨rfl, rfl, _⟩ | h4
      · exact ⟨rfl, rfl⟩
      · exact absurd h4 (hf _ _)
    · rcases sub _ _ _ h2 with ⟨rfl, rfl, rfl⟩ | h4
      · exact absurd h3 (hf _ _)
      · exact h.inj _ _ _ _ _ h3 h4
theorem keys_apart {L q L' q' d : Nat} (hd : d < 16) (h : q' * 16 + d = q) : q' = q / 16 ∧ d = q % 16 := by omega

section
variable {κ : Tk V} {w : World} {p : Nat} {n : Int}
/-- A node's cells behind a store of one of its sixteen and of their number. -/
theorem NodeIn.put {s' : TS V} {L q a d u : Nat} (h : NodeIn w κ s L q a) (hd : d < 16) (he : ∀ i, i < 16 → i ≠ d → s'.child L q i = s.child L q i) (hu : usedOf (s'.child L q) = u) :
    NodeIn ((w.setCell ⟨a, offL L + d, none⟩ (ptr (s'.child L q d))).setCell ⟨a, 32, none⟩ (.int .i64 (u : Int))) κ s' L q a := by
  obtain ⟨c, hc, hn⟩ := h
  exact ⟨_, heap_set_same (heap_set_same hc _) _, by rw [hu]; exact (hn.set hd he).setU _⟩
theorem NodeIn.put' {s' : TS V} {L q a d : Nat} (h : NodeIn w κ s L q a) (hd : d < 16) (he : ∀ i, i < 16 → i ≠ d → s'.child L q i = s.child L q i) (hu : usedOf (s'.child L q) = usedOf (s.child L q)) :
    NodeIn (w.setCell ⟨a, offL L + d, none⟩ (ptr (s'.child L q d))) κ s' L q a := by
  obtain ⟨c, hc, hn⟩ := h
  exact ⟨_, heap_set_same hc _, by rw [hu]; exact hn.set hd he⟩
theorem off2 (a i j : Nat) (x y : Value) : Off (· = a) w ((w.setCell ⟨a, i, none⟩ x).setCell ⟨a, j, none⟩ y) :=
  ((Off.refl (· = a) w).setCell (p := ⟨a, i, none⟩) (.inl rfl) _).setCell (p := ⟨a, j, none⟩) (.inl rfl) _
theorem IsT.key_gone {k a : Nat} {x : Nat × V} {u : Int} (h : IsT κ w p n s) (hw : WF s) (ha : s.N 0 (k / 16) = some a) (hk : s.K k = some x) (hu : u = (usedOf (s.child 0 (k / 16)) : Int) - 1) :
    IsT κ ((w.setCell ⟨a, 16 + k % 16, none⟩ (.pointer none)).setCell ⟨a, 32, none⟩ (.int .i64 u)) p n (setKey s k none) := by
  have hm : k % 16 < 16 := Nat.mod_lt _ (by decide)
  have e0 : (setKey s k none).child 0 (k / 16) (k % 16) = none := by rw [child_setKey, if_pos ⟨rfl, by omega⟩]; rfl
  have he : ∀ i, i < 16 → i ≠ k % 16 → (setKey s k none).child 0 (k / 16) i = s.child 0 (k / 16) i := fun i hi hn => by rw [child_setKey, if_neg (by omega)]
  have hg := usedOf_gone (f := s.child 0 (k / 16)) (f' := (setKey s k none).child 0 (k / 16)) hm e0 (by show ((s.K (k / 16 * 16 + k % 16)).map Prod.fst).isSome = true; rw [show k / 16 * 16 + k % 16 = k by omega, hk]; rfl) he
  refine h.setNode hw ha (off2 _ _ _ _ _) rfl rfl ha ?_ (fun L' q' b hb hne => .inl ⟨hb, fun d hd => ?_⟩) (fun i b v hv => ?_)
  · have := (h.node _ _ _ ha).put hm he rfl
    rw [e0, show offL 0 = 16 from rfl] at this
    rw [show u = ((usedOf ((setKey s k none).child 0 (k / 16)) : Nat) : Int) by rw [hu, hg]; omega]
    exact this
  · rw [child_setKey, if_neg]
    rintro ⟨rfl, e⟩
    exact hne ⟨rfl, by omega⟩
  · by_cases e : i = k
    · subst e; rw [K_setKey_same] at hv; cases hv
    · rw [K_setKey_ne e] at hv; exact .inl hv
theorem IsT.node_gone {L q a b : Nat} {u : Int} (h : IsT κ w p n s) (hw : WF s) (ha : s.N (L + 1) (q / 16) = some a) (hk : s.N L q = some b) (hu : u = (usedOf (s.child (L + 1) (q / 16)) : Int) - 1) :
    IsT κ ((w.setCell ⟨a, q % 16, none⟩ (.pointer none)).setCell ⟨a, 32, none⟩ (.int .i64 u)) p n (setN s L q none) := by
  have hm : q % 16 < 16 := Nat.mod_lt _ (by decide)
  have e0 : (setN s L q none).child (L + 1) (q / 16) (q % 16) = none := by rw [child_setN, if_pos ⟨rfl, by omega⟩]
  have he : ∀ i, i < 16 → i ≠ q % 16 → (setN s L q none).child (L + 1) (q / 16) i = s.child (L + 1) (q / 16) i := fun i hi hn => by rw [child_setN, if_neg (by omega)]
  have hg := usedOf_gone (f := s.child (L + 1) (q / 16)) (f' := (setN s L q none).child (L + 1) (q / 16)) hm e0 (by show (s.N L (q / 16 * 16 + q % 16)).isSome = true; rw [show q / 16 * 16 + q % 16 = q by omega, hk]; rfl) he
  have hl := hw.lv _ _ _ ha
  refine h.setNode hw ha (off2 _ _ _ _ _) rfl (N_setN_ne (by omega)) (by rw [N_setN_ne (by omega)]; exact ha) ?_ (fun L' q' c hc hne => ?_) (fun i b v hv => .inl hv)
  · have := (h.node _ _ _ ha).put hm he rfl
    rw [e0, show offL (L + 1) = 0 from rfl, Nat.zero_add] at this
    rw [show u = ((usedOf ((setN s L q none).child (L + 1) (q / 16)) : Nat) : Int) by rw [hu, hg]; omega]
    exact this
  · by_cases e : L' = L ∧ q' = q
    · obtain ⟨rfl, rfl⟩ := e; rw [N_setN_same] at hc; cases hc
    · rw [N_setN_ne e] at hc
      refine .inl ⟨hc, fun d hd => ?_⟩
      rw [child_setN, if_neg]
      rintro ⟨rfl, e⟩
      exact hne ⟨rfl, by omega⟩
end
end Go.Proofs.Ythpjcbaijbppiaa
