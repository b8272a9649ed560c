/- The tree in memory: what the cells of the tree, of its nodes and of its things hold. -/
import Derived.Test.YthpjcbaijbppiaaBase
import Derived.Test.YthpjcbaijbppiaaPure
namespace Go.Proofs.Ythpjcbaijbppiaa
open Go.RowKit Go.Proofs
set_option linter.unusedVariables false
set_option linter.unusedSimpArgs false
universe u
variable {V : Type u}

/-- A kind of things: its cells; the types of a thing, of a node, of a tree. -/
structure Tk (V : Type u) where
  enc : V → Array Value
  tv : TypeId
  tn : TypeId
  tt : TypeId
  vn : tv ≠ tn
  vt : tv ≠ tt
  nt : tn ≠ tt
def kInt : Tk Int := ⟨fun v => #[.int .i64 v], 3, 81, 68, by decide, by decide, by decide⟩

def ptr (o : Option Nat) : Value := .pointer (o.map fun a => ⟨a, 0, none⟩)
def offL (L : Nat) : Nat := if L = 0 then 16 else 0
structure NodeOk (c : Array Value) (L : Nat) (f : Nat → Option Nat) (u : Nat) : Prop where
  at' : ∀ d, d < 16 → c[offL L + d]? = some (ptr (f d))
  used : c[32]? = some (.int .i64 (u : Int))
theorem offL_lt (L : Nat) {d : Nat} (h : d < 16) : offL L + d < 32 := by unfold offL; split <;> omega
theorem NodeOk.congr {c : Array Value} {L : Nat} {f f' : Nat → Option Nat} {u u' : Nat} (h : NodeOk c L f u) (hf : ∀ d, d < 16 → f' d = f d) (hu : u' = u) : NodeOk c L f' u' :=
  ⟨fun d hd => by rw [hf d hd]; exact h.at' d hd, by rw [hu]; exact h.used⟩
theorem NodeOk.size {c : Array Value} {L : Nat} {f : Nat → Option Nat} {u : Nat} (h : NodeOk c L f u) : 32 < c.size := (Array.getElem?_eq_some_iff.1 h.used).1
/-- One of the sixteen is set. -/
theorem NodeOk.set {c : Array Value} {L : Nat} {f f' : Nat → Option Nat} {u d : Nat} (h : NodeOk c L f u) (hd : d < 16) (hf : ∀ i, i < 16 → i ≠ d → f' i = f i) : NodeOk (c.setIfInBounds (offL L + d) (ptr (f' d))) L f' u := by
  have hs := h.size
  have ho := offL_lt L hd
  refine ⟨fun i hi => ?_, ?_⟩
  · rw [Array.getElem?_setIfInBounds]
    by_cases e : i = d
    · subst e
      rw [if_pos rfl, if_pos (by omega)]
    · rw [if_neg (by omega), hf i hi e]
      exact h.at' i hi
  · rw [Array.getElem?_setIfInBounds, if_neg (by omega)]
    exact h.used
theorem NodeOk.setU {c : Array Value} {L : Nat} {f : Nat → Option Nat} {u : Nat} (h : NodeOk c L f u) (u' : Nat) : NodeOk (c.setIfInBounds 32 (.int .i64 (u' : Int))) L f u' := by
  have hs := h.size
  refine ⟨fun i hi => ?_, ?_⟩
  · have ho := offL_lt L hi
    rw [Array.getElem?_setIfInBounds, if_neg (by omega)]
    exact h.at' i hi
  · rw [Array.getElem?_setIfInBounds, if_pos rfl, if_pos (by omega)]

def NodeIn (w : World) (κ : Tk V) (s : TS V) (L q a : Nat) : Prop := ∃ c, w.heap[a]? = some (.cells c κ.tn (0, 0)) ∧ NodeOk c L (s.child L q) (usedOf (s.child L q))
theorem NodeIn.congr {w : World} {κ : Tk V} {s s' : TS V} {L q a : Nat} (h : NodeIn w κ s L q a) (he : ∀ d, d < 16 → s'.child L q d = s.child L q d) : NodeIn w κ s' L q a := by
  obtain ⟨c, hc, hn⟩ := h
  exact ⟨c, hc, hn.congr he (usedOf_congr fun d hd => by rw [he d hd])⟩
theorem NodeIn.same {w w' : World} {κ : Tk V} {s : TS V} {L q a : Nat} (h : NodeIn w κ s L q a) (he : w'.heap[a]? = w.heap[a]?) : NodeIn w' κ s L q a := by
  obtain ⟨c, hc, hn⟩ := h
  exact ⟨c, he.trans hc, hn⟩
theorem NodeIn.lt {w : World} {κ : Tk V} {s : TS V} {L q a : Nat} (h : NodeIn w κ s L q a) : a < w.heap.size := by obtain ⟨c, hc, _⟩ := h; exact lt_of_heap hc

structure IsT (κ : Tk V) (w : World) (p : Nat) (n : Int) (s : TS V) : Prop where
  tree : w.heap[p]? = some (.cells #[ptr (s.N (s.h - 1) 0), .int .i64 (s.h : Int), .int .i64 n] κ.tt (0, 0))
  node : ∀ L q a, s.N L q = some a → NodeIn w κ s L q a
  thing : ∀ k a v, s.K k = some (a, v) → w.heap[a]? = some (.cells (κ.enc v) κ.tv (0, 0))
theorem ne_of_type {w : World} {a b : Nat} {c d : Array Value} {t t' : TypeId} {f f' : Nat × Nat} (h : w.heap[a]? = some (.cells c t f)) (h' : w.heap[b]? = some (.cells d t' f')) (hn : t ≠ t') : a ≠ b := by
  rintro rfl
  rw [h] at h'
  injection h' with h'
  injection h' with _ h' _
  exact hn h'

section
variable {κ : Tk V} {w : World} {p : Nat} {n : Int} {s : TS V}
theorem IsT.plt (h : IsT κ w p n s) : p < w.heap.size := lt_of_heap h.tree
theorem IsT.c0 (h : IsT κ w p n s) : w.cell? ⟨p, 0, none⟩ = some (ptr (s.N (s.h - 1) 0)) := cell_of h.tree rfl
theorem IsT.c1 (h : IsT κ w p n s) : w.cell? ⟨p, 1, none⟩ = some (.int .i64 (s.h : Int)) := cell_of h.tree rfl
theorem IsT.c2 (h : IsT κ w p n s) : w.cell? ⟨p, 2, none⟩ = some (.int .i64 n) := cell_of h.tree rfl
theorem IsT.cf (h : IsT κ w p n s) (o : Nat) : w.frozen? ⟨p, o, none⟩ = false := free_of h.tree
theorem NodeIn.cell {L q a d : Nat} (h : NodeIn w κ s L q a) (hd : d < 16) : w.cell? ⟨a, offL L + d, none⟩ = some (ptr (s.child L q d)) := by
  obtain ⟨c, hc, hn⟩ := h
  exact cell_of hc (hn.at' d hd)
theorem NodeIn.used {L q a : Nat} (h : NodeIn w κ s L q a) : w.cell? ⟨a, 32, none⟩ = some (.int .i64 (usedOf (s.child L q) : Int)) := by
  obtain ⟨c, hc, hn⟩ := h
  exact cell_of hc hn.used
theorem NodeIn.free {L q a : Nat} (h : NodeIn w κ s L q a) (o : Nat) : w.frozen? ⟨a, o, none⟩ = false := by
  obtain ⟨c, hc, _⟩ := h
  exact free_of hc
/-- What a tree reads: its own block, its nodes, its things. -/
def Foot (p : Nat) (s : TS V) (b : Nat) : Prop := b = p ∨ (∃ L q, s.N L q = some b) ∨ ∃ k v, s.K k = some (b, v)
theorem IsT.foot_lt (h : IsT κ w p n s) {b : Nat} (hb : Foot p s b) : b < w.heap.size := by
  rcases hb with rfl | ⟨L, q, hb⟩ | ⟨k, v, hb⟩
  · exact h.plt
  · exact (h.node _ _ _ hb).lt
  · exact lt_of_heap (h.thing _ _ _ hb)
theorem IsT.off {S : Nat → Prop} {w' : World} (h : IsT κ w p n s) (o : Off S w w') (hS : ∀ b, S b → Foot p s b → False) : IsT κ w' p n s :=
  ⟨(o.block _ h.plt fun e => hS _ e (.inl rfl)).trans h.tree,
   fun L q a ha => (h.node L q a ha).same (o.block _ (h.node L q a ha).lt fun e => hS _ e (.inr (.inl ⟨L, q, ha⟩))),
   fun k a v ha => (o.block _ (lt_of_heap (h.thing k a v ha)) fun e => hS _ e (.inr (.inr ⟨k, v, ha⟩))).trans (h.thing k a v ha)⟩
theorem IsT.below {w' : World} (h : IsT κ w p n s) (o : Below w.heap.size w w') : IsT κ w' p n s := h.off (Off.of_below (S := fun _ => False) o) (fun _ h _ => h)
theorem IsT.drewN (h : IsT κ w p n s) (m : Nat) : IsT κ (w.drewN m) p n s := ⟨h.tree, h.node, h.thing⟩
/-- The tree's own block is written; its nodes may be fewer. -/
theorem IsT.setTree' {w' : World} {n' : Int} {s' : TS V} (h : IsT κ w p n s) (ho : Off (· = p) w w')
    (ht : w'.heap[p]? = some (.cells #[ptr (s'.N (s'.h - 1) 0), .int .i64 (s'.h : Int), .int .i64 n'] κ.tt (0, 0)))
    (hN : ∀ L q a, s'.N L q = some a → (s.N L q = some a ∧ ∀ d, d < 16 → s'.child L q d = s.child L q d) ∨ NodeIn w' κ s' L q a) (hK : ∀ k x, s'.K k = some x → s.K k = some x) : IsT κ w' p n' s' := by
  refine ⟨ht, fun L q a ha => ?_, fun k a v hk => ?_⟩
  · rcases hN L q a ha with ⟨h1, h2⟩ | h1
    · have hn := h.node L q a h1
      refine (hn.congr h2).same (ho.block _ hn.lt ?_)
      obtain ⟨c, hc, _⟩ := hn
      exact ne_of_type hc h.tree κ.nt
    · exact h1
  · have ht := h.thing k a v (hK k _ hk)
    exact (ho.block _ (lt_of_heap ht) (ne_of_type ht h.tree κ.vt)).trans ht
theorem IsT.setTree {w' : World} {n' : Int} {s' : TS V} (h : IsT κ w p n s) (ho : Off (· = p) w w')
    (ht : w'.heap[p]? = some (.cells #[ptr (s'.N (s'.h - 1) 0), .int .i64 (s'.h : Int), .int .i64 n'] κ.tt (0, 0)))
    (hN : ∀ L q a, s'.N L q = some a → s.N L q = some a ∧ ∀ d, d < 16 → s'.child L q d = s.child L q d) (hK : ∀ k x, s'.K k = some x → s.K k = some x) : IsT κ w' p n' s' :=
  h.setTree' ho ht (fun L q a ha => .inl (hN L q a ha)) hK
/-- A node is written; nodes may be new or fewer; things may be new or fewer. -/
theorem IsT.setNode {w' : World} {s' : TS V} {L q a : Nat} (h : IsT κ w p n s) (hw : WF s) (ha : s.N L q = some a) (ho : Off (· = a) w w') (hh : s'.h = s.h) (hr : s'.N (s.h - 1) 0 = s.N (s.h - 1) 0)
    (ha' : s'.N L q = some a) (hn : NodeIn w' κ s' L q a)
    (hN : ∀ L' q' b, s'.N L' q' = some b → ¬ (L' = L ∧ q' = q) → (s.N L' q' = some b ∧ ∀ d, d < 16 → s'.child L' q' d = s.child L' q' d) ∨ NodeIn w' κ s' L' q' b)
    (hK : ∀ k b v, s'.K k = some (b, v) → s.K k = some (b, v) ∨ w'.heap[b]? = some (.cells (κ.enc v) κ.tv (0, 0))) : IsT κ w' p n s' := by
  have hna := h.node L q a ha
  obtain ⟨ca, hca, _⟩ := hna
  refine ⟨?_, fun L' q' b hb => ?_, fun k b v hk => ?_⟩
  · rw [hh, hr]
    exact (ho.block _ h.plt (Ne.symm (ne_of_type hca h.tree κ.nt))).trans h.tree
  · by_cases e : L' = L ∧ q' = q
    · obtain ⟨rfl, rfl⟩ := e
      rw [ha'] at hb
      cases hb
      exact hn
    · rcases hN L' q' b hb e with ⟨h1, h2⟩ | h1
      · have hb' := h.node L' q' b h1
        exact (hb'.congr h2).same (ho.block _ hb'.lt fun e2 => e (by subst e2; exact hw.inj _ _ _ _ _ h1 ha))
      · exact h1
  · rcases hK k b v hk with h1 | h1
    · have ht := h.thing k b v h1
      exact (ho.block _ (lt_of_heap ht) (ne_of_type ht hca κ.vn)).trans ht
    · exact h1
end
end Go.Proofs.Ythpjcbaijbppiaa
