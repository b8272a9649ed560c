/- A tree with one level more. -/
import Derived.Test.YthpjcbaijbppiaaShrink
namespace Go.Proofs.Ythpjcbaijbppiaa
open Go.RowKit Go.Proofs
set_option linter.unusedVariables false
set_option linter.unusedSimpArgs false
def nodeZ (x : Value) (u : Int) : Array Value := #[x, .pointer none, .pointer none, .pointer none, .pointer none, .pointer none, .pointer none, .pointer none, .pointer none, .pointer none, .pointer none, .pointer none, .pointer none, .pointer none, .pointer none, .pointer none,
  .pointer none, .pointer none, .pointer none, .pointer none, .pointer none, .pointer none, .pointer none, .pointer none, .pointer none, .pointer none, .pointer none, .pointer none, .pointer none, .pointer none, .pointer none, .pointer none, .int .i64 u]
theorem sixteen {d : Nat} (h : d < 16) : d = 0 ∨ d = 1 ∨ d = 2 ∨ d = 3 ∨ d = 4 ∨ d = 5 ∨ d = 6 ∨ d = 7 ∨ d = 8 ∨ d = 9 ∨ d = 10 ∨ d = 11 ∨ d = 12 ∨ d = 13 ∨ d = 14 ∨ d = 15 := by omega
theorem nodeZ_zero (L : Nat) (f : Nat → Option Nat) (hf : ∀ d, d < 16 → f d = none) : NodeOk (nodeZ (.pointer none) 0) L f 0 := by
  refine ⟨fun d hd => ?_, rfl⟩
  rw [hf d hd]
  rcases sixteen hd with rfl | rfl | rfl | rfl | rfl | rfl | rfl | rfl | rfl | rfl | rfl | rfl | rfl | rfl | rfl | rfl <;> cases L <;> rfl
theorem nodeZ_one (L a : Nat) (f : Nat → Option Nat) (h0 : f 0 = some a) (hf : ∀ d, d < 16 → d ≠ 0 → f d = none) : NodeOk (nodeZ (.pointer (some ⟨a, 0, none⟩)) 1) (L + 1) f 1 := by
  refine ⟨fun d hd => ?_, rfl⟩
  by_cases e : d = 0
  · subst e; rw [h0]; rfl
  · rw [hf d hd e]
    rcases sixteen hd with rfl | rfl | rfl | rfl | rfl | rfl | rfl | rfl | rfl | rfl | rfl | rfl | rfl | rfl | rfl | rfl <;> first | rfl | exact absurd rfl e
section
universe u
variable {V : Type u} {s : TS V}
def upN (s : TS V) (t : Nat) : TS V := ⟨s.h + 1, fun L q => if L = s.h ∧ q = 0 then some t else s.N L q, s.K⟩
def topN (s : TS V) (t : Nat) : TS V := ⟨s.h + 1, fun L q => if L = s.h ∧ q = 0 then some t else none, s.K⟩
theorem upN_sub {t L q a : Nat} (h : (upN s t).N L q = some a) : (L = s.h ∧ q = 0 ∧ a = t) ∨ (¬ (L = s.h ∧ q = 0) ∧ s.N L q = some a) := by
  by_cases e : L = s.h ∧ q = 0
  · have h1 : (upN s t).N L q = some t := if_pos e
    rw [h1] at h; cases h; exact .inl ⟨e.1, e.2, rfl⟩
  · have h1 : (upN s t).N L q = s.N L q := if_neg e
    rw [h1] at h; exact .inr ⟨e, h⟩
theorem topN_sub {t L q a : Nat} (h : (topN s t).N L q = some a) : L = s.h ∧ q = 0 ∧ a = t := by
  by_cases e : L = s.h ∧ q = 0
  · have h1 : (topN s t).N L q = some t := if_pos e
    rw [h1] at h; cases h; exact ⟨e.1, e.2, rfl⟩
  · have h1 : (topN s t).N L q = none := if_neg e
    rw [h1] at h; cases h
theorem upN_top (t : Nat) : (upN s t).N s.h 0 = some t := if_pos ⟨rfl, rfl⟩
theorem topN_top (t : Nat) : (topN s t).N s.h 0 = some t := if_pos ⟨rfl, rfl⟩
theorem upN_old {t L q : Nat} (h : ¬ (L = s.h ∧ q = 0)) : (upN s t).N L q = s.N L q := if_neg h
theorem upN_child {t L q d : Nat} (hL : L ≤ s.h) : (upN s t).child L q d = s.child L q d := by
  cases L with
  | zero => rfl
  | succ L => exact upN_old (by omega)
theorem WF.upN (hw : WF s) (h4 : s.h ≤ 4) (h0 : 0 < s.h) {t : Nat} (hf : ∀ L q, s.N L q ≠ some t) : WF (upN s t) := by
  refine ⟨?_, fun L q a ha => ?_, fun q a ha => ?_, fun _ => ⟨t, upN_top t⟩, fun L q a ha hl => ?_, fun k x hx => ?_, fun L1 q1 L2 q2 a h1 h2 => ?_⟩
  · show s.h + 1 ≤ 5; omega
  · show L < s.h + 1
    rcases upN_sub ha with ⟨e, _, _⟩ | ⟨_, ha⟩
    · omega
    · have := hw.lv _ _ _ ha; omega
  · rcases upN_sub ha with ⟨_, e, _⟩ | ⟨_, ha⟩
    · exact e
    · have ha' : s.N s.h q = some a := ha
      have := hw.lv _ _ _ ha'; omega
  · have hl' : L + 1 < s.h + 1 := hl
    rcases upN_sub ha with ⟨e, _, _⟩ | ⟨hne, ha⟩
    · omega
    · by_cases e : L + 1 = s.h
      · have hL : L = s.h - 1 := by omega
        have hq := hw.one q a (by rw [← hL]; exact ha)
        subst hq
        exact ⟨t, by rw [e]; exact upN_top t⟩
      · obtain ⟨b, hb⟩ := hw.up _ _ _ ha (by omega)
        exact ⟨b, by rw [upN_old (by omega)]; exact hb⟩
  · obtain ⟨b, hb⟩ := hw.ku k x hx
    exact ⟨b, by rw [upN_old (by omega)]; exact hb⟩
  · rcases upN_sub h1 with ⟨rfl, rfl, rfl⟩ | ⟨_, h3⟩
    · rcases upN_sub h2 with ⟨rfl, rfl, _⟩ | ⟨_, h4⟩
      · exact ⟨rfl, rfl⟩
      · exact absurd h4 (hf _ _)
    · rcases upN_sub h2 with ⟨rfl, rfl, rfl⟩ | ⟨_, h4⟩
      · exact absurd h3 (hf _ _)
      · exact hw.inj _ _ _ _ _ h3 h4
theorem upN_full (hw : WF s) {t : Nat} (hf : Full s) : FullBut (upN s t) s.h 0 := fun L q a ha hne => by
  rcases upN_sub ha with ⟨e, e2, _⟩ | ⟨_, ha⟩
  · exact absurd ⟨e, e2⟩ hne
  · have := hw.lv _ _ _ ha
    rw [usedOf_congr (f := s.child L q) (fun d hd => by rw [upN_child (by omega)])]
    exact hf _ _ _ ha
theorem upN_root (hw : WF s) (h0 : 0 < s.h) {t a : Nat} (ha : s.N (s.h - 1) 0 = some a) : (upN s t).child s.h 0 0 = some a ∧ ∀ d, d < 16 → d ≠ 0 → (upN s t).child s.h 0 d = none := by
  have e : s.h = s.h - 1 + 1 := by omega
  have hc : ∀ d, (upN s t).child s.h 0 d = s.N (s.h - 1) (0 * 16 + d) := fun d => by
    rw [upN_child (Nat.le_refl _)]
    conv => lhs; rw [e]
    rfl
  refine ⟨by rw [hc]; exact ha, fun d hd hn => ?_⟩
  rw [hc, Nat.zero_mul, Nat.zero_add]
  cases e2 : s.N (s.h - 1) d with
  | none => rfl
  | some b => exact absurd (hw.one _ _ e2) hn
theorem WF.topN (h4 : s.h ≤ 4) (hk : ∀ k, s.K k = none) (t : Nat) : WF (topN s t) := by
  refine ⟨?_, fun L q a ha => ?_, fun q a ha => ?_, fun _ => ⟨t, topN_top t⟩, fun L q a ha hl => ?_, fun k x hx => ?_, fun L1 q1 L2 q2 a h1 h2 => ?_⟩
  · show s.h + 1 ≤ 5; omega
  · have := (topN_sub ha).1; show L < s.h + 1; omega
  · exact (topN_sub ha).2.1
  · have := (topN_sub ha).1; have hl' : L + 1 < s.h + 1 := hl; omega
  · have hx' : s.K k = some x := hx
    rw [hk k] at hx'; cases hx'
  · obtain ⟨a1, b1, _⟩ := topN_sub h1
    obtain ⟨a2, b2, _⟩ := topN_sub h2
    omega
theorem topN_full {t : Nat} : FullBut (topN s t) s.h 0 := fun L q a ha hne => absurd ⟨(topN_sub ha).1, (topN_sub ha).2.1⟩ hne
theorem topN_child (hk : ∀ k, s.K k = none) (t d : Nat) (h0 : 0 < s.h ∨ s.h = 0) : (topN s t).child s.h 0 d = none := by
  cases e : s.h with
  | zero => show (s.K (0 * 16 + d)).map Prod.fst = none; rw [hk]; rfl
  | succ L => show (if L = s.h ∧ 0 * 16 + d = 0 then some t else none) = none; rw [if_neg (by omega)]
theorem usedOf_none {f : Nat → Option Nat} (h : ∀ d, d < 16 → f d = none) : usedOf f = 0 := by
  by_cases e : usedOf f = 0
  · exact e
  · obtain ⟨d, a, hd, ha⟩ := usedOf_pos.1 (Nat.pos_of_ne_zero e)
    rw [h d hd] at ha; cases ha
theorem usedOf_first {f : Nat → Option Nat} {a : Nat} (h0 : f 0 = some a) (h : ∀ d, d < 16 → d ≠ 0 → f d = none) : usedOf f = 1 := by
  rw [usedOf_new (f := fun _ => none) (d := 0) (by decide) rfl (by rw [h0]; rfl) (fun i hi hn => h i hi hn), usedOf_none (fun _ _ => rfl)]
end
section
universe u
variable {V : Type u} {s : TS V} {κ : Tk V} {w : World} {p : Nat} {n : Int}
def growW (w : World) (κ : Tk V) (p : Nat) (z : Array Value) (h : Int) : World := ((w.alloc (.cells z κ.tn)).setCell ⟨p, 0, none⟩ (.pointer (some ⟨w.heap.size, 0, none⟩))).setCell ⟨p, 1, none⟩ (.int .i64 h)
theorem growW_off (z : Array Value) (h : Int) : Off (· = p) w (growW w κ p z h) := (((Off.refl (· = p) w).alloc _).setCell (p := ⟨p, 0, none⟩) (.inl rfl) _).setCell (p := ⟨p, 1, none⟩) (.inl rfl) _
theorem growW_new (hI : IsT κ w p n s) (z : Array Value) (h : Int) : (growW w κ p z h).heap[w.heap.size]? = some (.cells z κ.tn (0, 0)) := by
  have := hI.plt
  unfold growW
  rw [heap_set_ne _ (by omega), heap_set_ne _ (by omega)]
  exact heap_alloc_new _ _
theorem growW_tree (hI : IsT κ w p n s) (z : Array Value) (h : Int) : (growW w κ p z h).heap[p]? = some (.cells #[.pointer (some ⟨w.heap.size, 0, none⟩), .int .i64 h, .int .i64 n] κ.tt (0, 0)) := by
  unfold growW
  rw [heap_set_same (heap_set_same (heap_alloc_old hI.tree _) _) _]
  rfl
theorem IsT.fresh (hI : IsT κ w p n s) (L q : Nat) : s.N L q ≠ some w.heap.size := fun e => by have := (hI.node _ _ _ e).lt; omega
theorem IsT.up (hI : IsT κ w p n s) (hw : WF s) (h0 : 0 < s.h) {a : Nat} (ha : s.N (s.h - 1) 0 = some a) : IsT κ (growW w κ p (nodeZ (.pointer (some ⟨a, 0, none⟩)) 1) ((s.h : Int) + 1)) p n (upN s w.heap.size) := by
  refine hI.setTree' (growW_off _ _) ?_ (fun L q b hb => ?_) (fun k x hx => hx)
  · rw [growW_tree hI]
    have e1 : (upN s w.heap.size).N ((upN s w.heap.size).h - 1) 0 = some w.heap.size := upN_top _
    rw [e1]; rfl
  · rcases upN_sub hb with ⟨rfl, rfl, rfl⟩ | ⟨hne, hb⟩
    · right
      obtain ⟨r0, r1⟩ := upN_root hw h0 (t := w.heap.size) ha
      refine ⟨_, growW_new hI _ _, ?_⟩
      rw [usedOf_first r0 r1]
      have e : s.h = s.h - 1 + 1 := by omega
      have := nodeZ_one (s.h - 1) a _ r0 r1
      rwa [← e] at this
    · exact .inl ⟨hb, fun d hd => upN_child (by have := hw.lv _ _ _ hb; omega)⟩
theorem IsT.top (hI : IsT κ w p n s) (hk : ∀ k, s.K k = none) : IsT κ (growW w κ p (nodeZ (.pointer none) 0) ((s.h : Int) + 1)) p n (topN s w.heap.size) := by
  refine hI.setTree' (growW_off _ _) ?_ (fun L q b hb => ?_) (fun k x hx => hx)
  · rw [growW_tree hI]
    have e1 : (topN s w.heap.size).N ((topN s w.heap.size).h - 1) 0 = some w.heap.size := topN_top _
    rw [e1]; rfl
  · obtain ⟨rfl, rfl, rfl⟩ := topN_sub hb
    right
    have hc : ∀ d, d < 16 → (topN s w.heap.size).child s.h 0 d = none := fun d _ => topN_child hk _ d (by omega)
    refine ⟨_, growW_new hI _ _, ?_⟩
    rw [usedOf_none hc]
    exact nodeZ_zero _ _ hc
end
end Go.Proofs.Ythpjcbaijbppiaa
