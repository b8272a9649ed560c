/- The document's list of pairs: the plain law. -/
import Derived.Test.YthpjcbaijbppiaaSmall
namespace Go.Proofs.Ythpjcbaijbppiaa
open Go.RowKit Go.Proofs
set_option linter.unusedVariables false
set_option linter.unusedSimpArgs false
section
variable {V : Type}
theorem split_at {l : List (Nat × V)} (hs : Srt l) (k : Int) : ∃ a b, l = a ++ b ∧ (∀ x ∈ a, (x.1 : Int) < k) ∧ ∀ x ∈ b, k ≤ (x.1 : Int) := by
  induction l with
  | nil => exact ⟨[], [], rfl, fun _ h => (by cases h), fun _ h => (by cases h)⟩
  | cons x t ih =>
    have hs' := List.pairwise_cons.1 hs
    by_cases h : (x.1 : Int) < k
    · obtain ⟨a, b, rfl, h1, h2⟩ := ih hs'.2
      refine ⟨x :: a, b, rfl, fun y hy => ?_, h2⟩
      rcases List.mem_cons.1 hy with rfl | hy
      · exact h
      · exact h1 y hy
    · refine ⟨[], x :: t, rfl, fun _ h => (by cases h), fun y hy => ?_⟩
      rcases List.mem_cons.1 hy with rfl | hy
      · omega
      · have := hs'.1 y hy; omega
theorem valAt_split {a b : List (Nat × V)} {k : Int} (ha : ∀ x ∈ a, (x.1 : Int) < k) : valAt (a ++ b) k = valAt b k := by
  unfold valAt
  rw [List.find?_append]
  have : a.find? (fun x => (x.1 : Int) == k) = none := List.find?_eq_none.2 fun x hx => by have := ha x hx; simp; omega
  rw [this]; rfl
theorem valAt_head {x : Nat × V} {t : List (Nat × V)} {k : Int} (h : (x.1 : Int) = k) : valAt (x :: t) k = some x.2 := by
  unfold valAt
  rw [List.find?_cons, show ((x.1 : Int) == k) = true from beq_iff_eq.2 h]; rfl
theorem valAt_above {b : List (Nat × V)} {k : Int} (h : ∀ x ∈ b, k < (x.1 : Int)) : valAt b k = none := by
  unfold valAt
  rw [List.find?_eq_none.2 fun x hx => by have := h x hx; simp; omega]; rfl
theorem above_of {x : Nat × V} {t a : List (Nat × V)} (hs : Srt (a ++ x :: t)) : ∀ y ∈ t, x.1 < y.1 := fun y hy =>
  (List.pairwise_cons.1 (List.pairwise_append.1 hs).2.1).1 y hy
theorem insL_split {a b : List (Nat × V)} {k : Nat} {v : V} (ha : ∀ x ∈ a, (x.1 : Int) < k) : insL k v (a ++ b) = a ++ insL k v b := by
  induction a with
  | nil => rfl
  | cons x t ih =>
    rw [List.cons_append, insL, if_pos (by have := ha x (by simp); omega), ih fun y hy => ha y (by simp [hy]), List.cons_append]
theorem insL_head {x : Nat × V} {t : List (Nat × V)} {k : Nat} {v : V} (h : x.1 = k) : insL k v (x :: t) = (k, v) :: t := by
  rw [insL, if_neg (by omega), if_pos h]
theorem insL_above {b : List (Nat × V)} {k : Nat} {v : V} (h : ∀ x ∈ b, (k : Int) < (x.1 : Int)) : insL k v b = (k, v) :: b := by
  cases b with
  | nil => rfl
  | cons x t =>
    have := h x (by simp)
    rw [insL, if_neg (by omega), if_neg (by omega)]
theorem dropL_none {l : List (Nat × V)} {k : Int} (h : valAt l k = none) : dropL l k = l := by
  unfold valAt at h
  rw [Option.map_eq_none_iff, List.find?_eq_none] at h
  exact List.filter_eq_self.2 fun x hx => by have := h x hx; simpa using this
theorem dropL_split {a t : List (Nat × V)} {x : Nat × V} {k : Int} (ha : ∀ x ∈ a, (x.1 : Int) < k) (hx : (x.1 : Int) = k) (ht : ∀ y ∈ t, k < (y.1 : Int)) : dropL (a ++ x :: t) k = a ++ t := by
  unfold dropL
  rw [List.filter_append, List.filter_cons, if_neg (by simp [hx])]
  rw [List.filter_eq_self.2 fun y hy => by have := ha y hy; simp; omega, List.filter_eq_self.2 fun y hy => by have := ht y hy; simp; omega]
theorem cutL_split {a b : List (Nat × V)} {k : Int} (ha : ∀ x ∈ a, (x.1 : Int) < k) (hb : ∀ x ∈ b, k ≤ (x.1 : Int)) : cutL (a ++ b) k = a := by
  unfold cutL
  rw [List.filter_append, List.filter_eq_self.2 fun y hy => by have := ha y hy; simp; omega, List.filter_eq_nil_iff.2 fun y hy => by have := hb y hy; simp; omega, List.append_nil]
theorem HtR.of_div {l : List (Nat × V)} {x : Nat × V} (hx : l.getLast? = some x) {h : Nat} (h1 : 1 ≤ h) (h2 : h = 1 ∨ 16 ^ (h - 1) ≤ x.1) (h3 : x.1 / 16 ^ h = 0) : HtR l h :=
  .inr ⟨x, hx, h1, (Nat.div_eq_zero_iff.1 h3).resolve_left (by have := Nat.pow_pos (n := h) (show 0 < 16 by decide); omega), h2⟩
end
/-- The document's tree: its one field, and the row that it names. -/
structure RF (w : World) (r : Nat) (l : List (Nat × Int)) (v : Value) : Prop where
  c : w.heap[r]? = some (.cells #[v] 28 (0, 0))
  o : w.ownsRow 0 45 2 v l.length (encP l)
theorem RF.form {w : World} {r : Nat} {l : List (Nat × Int)} {v : Value} (h : RF w r l v) : ∃ A cap, v = .slice A l.length cap := (PRow.of_own h.o).form
theorem RF.cell {w : World} {r : Nat} {l : List (Nat × Int)} {v : Value} (h : RF w r l v) : w.cell? ⟨r, 0, none⟩ = some v := cell_of h.c rfl
theorem RF.row {w : World} {r : Nat} {l : List (Nat × Int)} {v : Value} (h : RF w r l v) (hp : 0 < l.length) :
    ∃ g cap cur, v = .slice (some ⟨g, 0, none⟩) l.length cap ∧ w.heap[g]? = some (.cells cur 45 (0, 0)) ∧ l.length ≤ cap ∧ cap ≤ maxLen ∧ cur.size = cap * 2 ∧ cur.toList.take (l.length * 2) = encP l ∧ ∀ i x, l[i]? = some x → w.cell? ⟨g, i * 2, none⟩ = some (.int .i64 (x.1 : Int)) ∧ w.cell? ⟨g, i * 2 + 1, none⟩ = some (.int .i64 x.2) := by
  rcases h.o.2 with ⟨rfl, h0⟩ | ⟨g, cap, cur, rfl, hg, hh, hc, hm, hs, ht⟩
  · omega
  · refine ⟨g, cap, cur, rfl, hh, hc, hm, hs, ht, fun i x hx => ?_⟩
    have hi : i < l.length := (List.getElem?_eq_some_iff.1 hx).1
    obtain ⟨e1, e2⟩ := encP_get hx
    rw [← ht, List.getElem?_take_of_lt (by omega)] at e1 e2
    exact ⟨cell_of hh (by simpa using e1), cell_of hh (by simpa using e2)⟩
/-- The blocks of a tree of the document. -/
def RB (r : Nat) (v : Value) (b : Nat) : Prop := b = r ∨ v.ownBlock = some b
theorem RF.typ {w : World} {r : Nat} {l : List (Nat × Int)} {v : Value} (h : RF w r l v) {b : Nat} (hb : RB r v b) : ∃ c t, w.heap[b]? = some (.cells c t (0, 0)) ∧ (t = 28 ∨ t = 45) := by
  rcases hb with rfl | hb
  · exact ⟨_, _, h.c, .inl rfl⟩
  · obtain ⟨c, hc⟩ := ownsRow_cells h.o hb
    exact ⟨_, _, hc, .inr rfl⟩
theorem own_kept {w w' : World} {base n : Nat} {v : Value} {xs : List Value} (h : w.ownsRow base 45 2 v n xs) (hk : ∀ b c, v.ownBlock = some b → w.heap[b]? = some (.cells c 45 (0, 0)) → w'.heap[b]? = some (.cells c 45 (0, 0))) : w'.ownsRow base 45 2 v n xs :=
  ⟨h.1, h.2.imp id fun ⟨g, cap, cur, hv, hg, hb, ht⟩ => ⟨g, cap, cur, hv, hg, hk g cur (by rw [hv]; rfl) hb, ht⟩⟩
theorem RF.kept {w w' : World} {r : Nat} {l : List (Nat × Int)} {v : Value} (h : RF w r l v) (hk : ∀ b c t, RB r v b → w.heap[b]? = some (.cells c t (0, 0)) → (t = 28 ∨ t = 45) → w'.heap[b]? = some (.cells c t (0, 0))) : RF w' r l v :=
  ⟨hk r _ _ (.inl rfl) h.c (.inl rfl), own_kept h.o fun b c hb hc => hk b c 45 (.inr hb) hc (.inr rfl)⟩
theorem RF.kt {w w' : World} {r : Nat} {l : List (Nat × Int)} {v : Value} (h : RF w r l v) (hk : KT kInt w w') : RF w' r l v :=
  h.kept fun b c t _ hc ht => hk b c t (0, 0) hc (by rcases ht with rfl | rfl <;> decide) (by rcases ht with rfl | rfl <;> decide) (by rcases ht with rfl | rfl <;> decide)
theorem RF.frame {w w' : World} {r : Nat} {l : List (Nat × Int)} {v : Value} {S : Nat → Prop} (h : RF w r l v) (ho : Off S w w') (hS : ∀ b, RB r v b → S b → False) : RF w' r l v :=
  h.kept fun b c t hb hc _ => (ho.block b (lt_of_heap hc) (hS b hb)).trans hc
theorem RF.below {w w' : World} {r : Nat} {l : List (Nat × Int)} {v : Value} (h : RF w r l v) (hb : Below w.heap.size w w') : RF w' r l v :=
  h.kt (KT.below hb)
theorem RF.lt {w : World} {r : Nat} {l : List (Nat × Int)} {v : Value} (h : RF w r l v) {b : Nat} (hb : RB r v b) : b < w.heap.size := by
  obtain ⟨c, t, hc, _⟩ := h.typ hb; exact lt_of_heap hc
theorem RF.ne {w : World} {r : Nat} {l : List (Nat × Int)} {v : Value} (h : RF w r l v) : v.ownBlock ≠ some r := fun e => by
  obtain ⟨c, hc⟩ := ownsRow_cells h.o e
  have := h.c
  rw [hc] at this
  cases this
/-- What a call does with a tree of the document. -/
def RTurn (w : World) (r : Nat) (v : Value) (l' : List (Nat × Int)) (w' : World) : Prop :=
  ∃ v', RF w' r l' v' ∧ Off (RB r v) w w' ∧ ∀ b, v'.ownBlock = some b → v.ownBlock = some b ∨ w.heap.size ≤ b
/-- A new row is laid in. -/
def RNew (w : World) (r : Nat) (l' : List (Nat × Int)) (w' : World) : Prop :=
  ∃ v', RF w' r l' v' ∧ Off (fun b => b = r) w w' ∧ ∀ b, v'.ownBlock = some b → w.heap.size ≤ b
theorem RNew.turn {w w' : World} {r : Nat} {v : Value} {l' : List (Nat × Int)} (h : RNew w r l' w') : RTurn w r v l' w' := by
  obtain ⟨v', h1, h2, h3⟩ := h
  exact ⟨v', h1, h2.mono fun b _ e => .inl e, fun b hb => .inr (h3 b hb)⟩
theorem RTurn.same {w w' : World} {r : Nat} {v : Value} {l : List (Nat × Int)} (h : RF w r l v) (hb : Below w.heap.size w w') : RTurn w r v l w' :=
  ⟨v, h.below hb, Off.of_below hb, fun b hb => .inl hb⟩
end Go.Proofs.Ythpjcbaijbppiaa
