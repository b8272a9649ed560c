/- One tree, two trees of a law's own: their calls. -/
import Derived.Test.YthpjcbaijbppiaaApi
namespace Go.Proofs.Ythpjcbaijbppiaa
open Go.RowKit Go.Proofs
set_option linter.unusedVariables false
set_option linter.unusedSimpArgs false
def mayB (k : Int) : Bool := decide (0 ≤ k ∧ k ≤ 1048575)
def putL (l : List (Nat × Int)) (k v : Int) : List (Nat × Int) := if mayB k = true then insL k.toNat v l else l
def putR (k : Int) : Int := if mayB k = true then 0 else 90
theorem api_putI (w : World) (p : Nat) (l : List (Nat × Int)) (fp : Nat → Prop) (h : TR kInt w p l fp) (k v : Int) :
    Calls Try.prog 21 #[.pointer (some ⟨p, 0, none⟩), .int .i64 k, .int .i64 v] w fun e w' => e = .returned (.int .i64 (putR k)) ∧ Turn kInt w p (putL l k v) fp w' := by
  unfold putL putR
  by_cases hk : mayB k = true
  · rw [if_pos hk, if_pos hk]
    have hk' := of_decide_eq_true hk
    obtain ⟨j, rfl⟩ : ∃ j : Nat, k = j := ⟨k.toNat, by omega⟩
    rw [Int.toNat_natCast]
    exact api_put w p l fp h j v (by omega)
  · rw [if_neg hk, if_neg hk]
    exact api_bad w p l fp h k v (by
      have : ¬ (0 ≤ k ∧ k ≤ 1048575) := fun h => hk (decide_eq_true h)
      omega)
/-- A tree made since w0. -/
def OT (w0 w : World) (p : Nat) (l : List (Nat × Int)) : Prop := ∃ fp, TR kInt w p l fp ∧ (∀ b, fp b → w0.heap.size ≤ b) ∧ Below w0.heap.size w0 w
theorem OT.turn {w0 w w' : World} {p : Nat} {l' : List (Nat × Int)} {fp : Nat → Prop} (hge : ∀ b, fp b → w0.heap.size ≤ b) (hB : Below w0.heap.size w0 w) (ht : Turn kInt w p l' fp w') : OT w0 w' p l' := by
  obtain ⟨fp', h1, h2, h3⟩ := ht
  exact ⟨fp', h1, fun b hb => (h3 b hb).elim (hge b) fun h => Nat.le_trans hB.size h, hB.trans (h2.below hB.size hge)⟩
theorem OT.below {w0 w w' : World} {p : Nat} {l : List (Nat × Int)} (h : OT w0 w p l) (hb : Below w.heap.size w w') : OT w0 w' p l := by
  obtain ⟨fp, h1, h2, h3⟩ := h
  exact ⟨fp, h1.below hb, h2, h3.trans (hb.mono h3.size)⟩
theorem OT.B {w0 w : World} {p : Nat} {l : List (Nat × Int)} (h : OT w0 w p l) : Below w0.heap.size w0 w := by obtain ⟨_, _, _, h3⟩ := h; exact h3
theorem OT.lenb {w0 w : World} {p : Nat} {l : List (Nat × Int)} (h : OT w0 w p l) : l.length ≤ 1048576 := by obtain ⟨_, h1, _⟩ := h; exact h1.len
theorem OT.srt {w0 w : World} {p : Nat} {l : List (Nat × Int)} (h : OT w0 w p l) : Srt l := by obtain ⟨_, h1, _⟩ := h; exact h1.srt
theorem OT.new (w0 w : World) (hB : Below w0.heap.size w0 w) : Calls Try.prog 9 #[] w fun e w' => e = .returned (.pointer (some ⟨w.heap.size, 0, none⟩)) ∧ OT w0 w' w.heap.size [] ∧ Below w.heap.size w w' := by
  refine (api_new w).mono ?_
  rintro e w' ⟨rfl, h1, h2⟩
  exact ⟨rfl, ⟨_, h1, fun b hb => by rw [hb]; exact hB.size, hB.trans (h2.mono hB.size)⟩, h2⟩
theorem OT.put {w0 w : World} {p : Nat} {l : List (Nat × Int)} (h : OT w0 w p l) (k v : Int) : Calls Try.prog 21 #[.pointer (some ⟨p, 0, none⟩), .int .i64 k, .int .i64 v] w fun e w' => e = .returned (.int .i64 (putR k)) ∧ OT w0 w' p (putL l k v) ∧ KT kInt w w' := by
  obtain ⟨fp, h1, h2, h3⟩ := h
  refine (api_putI w p l fp h1 k v).mono ?_
  rintro e w' ⟨rfl, ht⟩
  exact ⟨rfl, OT.turn h2 h3 ht, ht.kt h1⟩
theorem OT.get {w0 w : World} {p : Nat} {l : List (Nat × Int)} (h : OT w0 w p l) (k : Int) : Calls Try.prog 18 #[.pointer (some ⟨p, 0, none⟩), .int .i64 k] w fun e w' => e = .returned (.tuple #[.int .i64 ((valAt l k).getD 0), .bool (valAt l k).isSome]) ∧ OT w0 w' p l ∧ Below w.heap.size w w' := by
  have h' := h
  obtain ⟨fp, h1, h2, h3⟩ := h
  refine (api_get w p l fp h1 k).mono ?_
  rintro e w' ⟨rfl, m, rfl⟩
  exact ⟨rfl, h'.below (below_drewN' _ _), below_drewN' _ _⟩
theorem OT.drop {w0 w : World} {p : Nat} {l : List (Nat × Int)} (h : OT w0 w p l) (k : Int) : Calls Try.prog 22 #[.pointer (some ⟨p, 0, none⟩), .int .i64 k] w fun e w' => e = .returned (.bool (valAt l k).isSome) ∧ OT w0 w' p (dropL l k) ∧ KT kInt w w' := by
  obtain ⟨fp, h1, h2, h3⟩ := h
  refine (api_drop w p l fp h1 k).mono ?_
  rintro e w' ⟨rfl, ht⟩
  exact ⟨rfl, OT.turn h2 h3 ht, ht.kt h1⟩
theorem OT.cut {w0 w : World} {p : Nat} {l : List (Nat × Int)} (h : OT w0 w p l) (fr : Int) : Calls Try.prog 20 #[.pointer (some ⟨p, 0, none⟩), .int .i64 fr] w fun e w' => e = .returned (.int .i64 ((l.length : Int) - ((cutL l fr).length : Int))) ∧ OT w0 w' p (cutL l fr) ∧ KT kInt w w' := by
  obtain ⟨fp, h1, h2, h3⟩ := h
  refine (api_cut w p l fp h1 fr).mono ?_
  rintro e w' ⟨rfl, ht⟩
  exact ⟨rfl, OT.turn h2 h3 ht, ht.kt h1⟩
theorem OT.len {w0 w : World} {p : Nat} {l : List (Nat × Int)} (h : OT w0 w p l) : Calls Try.prog 11 #[.pointer (some ⟨p, 0, none⟩)] w fun e w' => e = .returned (.int .i64 (l.length : Int)) ∧ w = w' := by
  obtain ⟨fp, h1, h2, h3⟩ := h
  exact api_len w p l fp h1
theorem OT.height {w0 w : World} {p : Nat} {l : List (Nat × Int)} (h : OT w0 w p l) (k : Nat) (hk : HtR l k) : Calls Try.prog 12 #[.pointer (some ⟨p, 0, none⟩)] w fun e w' => e = .returned (.int .i64 (k : Int)) ∧ w = w' := by
  obtain ⟨fp, h1, h2, h3⟩ := h
  exact api_height w p l fp h1 k hk
theorem OT.ht {w0 w : World} {p : Nat} {l : List (Nat × Int)} (h : OT w0 w p l) : ∃ k, HtR l k ∧ k ≤ 5 := by obtain ⟨fp, h1, _⟩ := h; exact h1.ht
/-- What a slice of pairs reads as. -/
def PRow (w : World) (v : Value) (l : List (Nat × Int)) : Prop :=
  (∃ cap, v = .slice none 0 cap ∧ l = []) ∨ ∃ g cap, v = .slice (some ⟨g, 0, none⟩) l.length cap ∧ ∀ i x, l[i]? = some x → w.cell? ⟨g, i * 2, none⟩ = some (.int .i64 (x.1 : Int)) ∧ w.cell? ⟨g, i * 2 + 1, none⟩ = some (.int .i64 x.2)
theorem PRow.keep {w w' : World} {v : Value} {l : List (Nat × Int)} (h : PRow w v l) (hk : ∀ b o u, w.cell? ⟨b, o, none⟩ = some u → v.ownBlock = some b → w'.cell? ⟨b, o, none⟩ = some u) : PRow w' v l := by
  rcases h with ⟨cap, rfl, rfl⟩ | ⟨g, cap, rfl, h⟩
  · exact .inl ⟨cap, rfl, rfl⟩
  · exact .inr ⟨g, cap, rfl, fun i x hx => ⟨hk _ _ _ (h i x hx).1 rfl, hk _ _ _ (h i x hx).2 rfl⟩⟩
theorem PRow.below {w w' : World} {v : Value} {l : List (Nat × Int)} (h : PRow w v l) (hb : Below w.heap.size w w') : PRow w' v l :=
  h.keep fun b o u hu _ => (hb.cell (p := ⟨b, o, none⟩) (World.block_lt_of_cell? w _ hu)).trans hu
theorem PRow.of_own {w : World} {base : Nat} {v : Value} {l : List (Nat × Int)} (h : w.ownsRow base 45 2 v l.length (encP l)) : PRow w v l := by
  rcases h.2 with ⟨rfl, h0⟩ | ⟨g, cap, cur, rfl, hg, hh, hc, hm, hs, ht⟩
  · exact .inl ⟨0, rfl, List.eq_nil_of_length_eq_zero h0⟩
  · refine .inr ⟨g, cap, rfl, fun i x hx => ?_⟩
    have hi : i < l.length := (List.getElem?_eq_some_iff.1 hx).1
    obtain ⟨e1, e2⟩ := encP_get hx
    rw [← ht, List.getElem?_take_of_lt (by omega)] at e1 e2
    exact ⟨cell_of hh (by simpa using e1), cell_of hh (by simpa using e2)⟩
theorem World.cells_of_cell {w : World} {b o : Nat} {v : Value} (h : w.cell? ⟨b, o, none⟩ = some v) : ∃ c t f, w.heap[b]? = some (.cells c t f) ∧ c[o]? = some v := by
  unfold World.cell? at h
  split at h
  · rename_i c t f hc
    simp at h
    exact ⟨c, t, f, hc, h⟩
  · cases h
/-- Pairs in a block of pairs. -/
def PairBlock (w : World) (v : Value) : Prop := ∀ b, v.ownBlock = some b → ∃ c, w.heap[b]? = some (.cells c 45 (0, 0))
theorem PRow.kt {w w' : World} {v : Value} {l : List (Nat × Int)} (h : PRow w v l) (hp : PairBlock w v) (hk : KT kInt w w') : PRow w' v l := by
  refine h.keep fun b o u hu hb => ?_
  obtain ⟨c, hc⟩ := hp b hb
  have := hk b c 45 (0, 0) hc (by decide) (by decide) (by decide)
  unfold World.cell? at hu ⊢
  rw [hc] at hu
  rw [this]
  exact hu
theorem PairBlock.kt {w w' : World} {v : Value} (hp : PairBlock w v) (hk : KT kInt w w') : PairBlock w' v := fun b hb => by
  obtain ⟨c, hc⟩ := hp b hb
  exact ⟨c, hk b c 45 (0, 0) hc (by decide) (by decide) (by decide)⟩
theorem PairBlock.of_own {w : World} {base n : Nat} {v : Value} {xs : List Value} (h : w.ownsRow base 45 2 v n xs) : PairBlock w v := fun b hb => ownsRow_cells h hb
theorem PRow.form {w : World} {v : Value} {l : List (Nat × Int)} (h : PRow w v l) : ∃ A cap, v = .slice A l.length cap := by
  rcases h with ⟨cap, rfl, rfl⟩ | ⟨g, cap, rfl, h⟩
  · exact ⟨_, _, rfl⟩
  · exact ⟨_, _, rfl⟩
theorem OT.pairs {w0 w : World} {p : Nat} {l : List (Nat × Int)} (h : OT w0 w p l) (stop : Int) : Calls Try.prog 15 #[.pointer (some ⟨p, 0, none⟩), .int .i64 stop] w fun e w' => ∃ v, e = .returned v ∧ (PRow w' v (firstN l stop) ∧ PairBlock w' v) ∧ OT w0 w' p l ∧ Below w.heap.size w w' := by
  have h' := h
  obtain ⟨fp, h1, h2, h3⟩ := h
  refine (api_pairs w p l fp h1 stop).mono ?_
  rintro e w' ⟨v, rfl, hr, hb⟩
  exact ⟨v, rfl, ⟨PRow.of_own hr, PairBlock.of_own hr⟩, h'.below hb, hb⟩
/-- Two trees. -/
def OT2 (w0 w : World) (p : Nat) (l : List (Nat × Int)) (p' : Nat) (l' : List (Nat × Int)) : Prop :=
  ∃ fp fp', TR kInt w p l fp ∧ TR kInt w p' l' fp' ∧ (∀ b, fp b → fp' b → False) ∧ (∀ b, fp b → w0.heap.size ≤ b) ∧ (∀ b, fp' b → w0.heap.size ≤ b) ∧ Below w0.heap.size w0 w
theorem OT2.swap {w0 w : World} {p p' : Nat} {l l' : List (Nat × Int)} (h : OT2 w0 w p l p' l') : OT2 w0 w p' l' p l := by
  obtain ⟨fp, fp', h1, h2, h3, h4, h5, h6⟩ := h
  exact ⟨fp', fp, h2, h1, fun b a c => h3 b c a, h5, h4, h6⟩
theorem OT2.one {w0 w : World} {p p' : Nat} {l l' : List (Nat × Int)} (h : OT2 w0 w p l p' l') : OT w0 w p l := by
  obtain ⟨fp, fp', h1, h2, h3, h4, h5, h6⟩ := h
  exact ⟨fp, h1, h4, h6⟩
theorem OT2.below {w0 w w' : World} {p p' : Nat} {l l' : List (Nat × Int)} (h : OT2 w0 w p l p' l') (hb : Below w.heap.size w w') : OT2 w0 w' p l p' l' := by
  obtain ⟨fp, fp', h1, h2, h3, h4, h5, h6⟩ := h
  exact ⟨fp, fp', h1.below hb, h2.below hb, h3, h4, h5, h6.trans (hb.mono h6.size)⟩
theorem OT2.turn {w0 w w' : World} {p p' : Nat} {l1 l' : List (Nat × Int)} {fp fp' : Nat → Prop} (h2 : TR kInt w p' l' fp') (h3 : ∀ b, fp b → fp' b → False) (h4 : ∀ b, fp b → w0.heap.size ≤ b) (h5 : ∀ b, fp' b → w0.heap.size ≤ b) (h6 : Below w0.heap.size w0 w) (ht : Turn kInt w p l1 fp w') : OT2 w0 w' p l1 p' l' := by
  obtain ⟨fp1, k1, k2, k3⟩ := ht
  refine ⟨fp1, fp', k1, h2.frame k2 h3, fun b a c => ?_, fun b hb => (k3 b hb).elim (h4 b) fun h => Nat.le_trans h6.size h, h5, h6.trans (k2.below h6.size h4)⟩
  rcases k3 b a with h | h
  · exact h3 b h c
  · have := h2.lt c; omega
theorem OT2.put {w0 w : World} {p p' : Nat} {l l' : List (Nat × Int)} (h : OT2 w0 w p l p' l') (k v : Int) : Calls Try.prog 21 #[.pointer (some ⟨p, 0, none⟩), .int .i64 k, .int .i64 v] w fun e w' => e = .returned (.int .i64 (putR k)) ∧ OT2 w0 w' p (putL l k v) p' l' ∧ KT kInt w w' := by
  obtain ⟨fp, fp', h1, h2, h3, h4, h5, h6⟩ := h
  refine (api_putI w p l fp h1 k v).mono ?_
  rintro e w' ⟨rfl, ht⟩
  exact ⟨rfl, OT2.turn h2 h3 h4 h5 h6 ht, ht.kt h1⟩
theorem OT2.get {w0 w : World} {p p' : Nat} {l l' : List (Nat × Int)} (h : OT2 w0 w p l p' l') (k : Int) : Calls Try.prog 18 #[.pointer (some ⟨p, 0, none⟩), .int .i64 k] w fun e w' => e = .returned (.tuple #[.int .i64 ((valAt l k).getD 0), .bool (valAt l k).isSome]) ∧ OT2 w0 w' p l p' l' ∧ Below w.heap.size w w' := by
  have h' := h
  obtain ⟨fp, fp', h1, h2, h3, h4, h5, h6⟩ := h
  refine (api_get w p l fp h1 k).mono ?_
  rintro e w' ⟨rfl, m, rfl⟩
  exact ⟨rfl, h'.below (below_drewN' _ _), below_drewN' _ _⟩
theorem OT2.drop {w0 w : World} {p p' : Nat} {l l' : List (Nat × Int)} (h : OT2 w0 w p l p' l') (k : Int) : Calls Try.prog 22 #[.pointer (some ⟨p, 0, none⟩), .int .i64 k] w fun e w' => e = .returned (.bool (valAt l k).isSome) ∧ OT2 w0 w' p (dropL l k) p' l' ∧ KT kInt w w' := by
  obtain ⟨fp, fp', h1, h2, h3, h4, h5, h6⟩ := h
  refine (api_drop w p l fp h1 k).mono ?_
  rintro e w' ⟨rfl, ht⟩
  exact ⟨rfl, OT2.turn h2 h3 h4 h5 h6 ht, ht.kt h1⟩
theorem OT2.cut {w0 w : World} {p p' : Nat} {l l' : List (Nat × Int)} (h : OT2 w0 w p l p' l') (fr : Int) : Calls Try.prog 20 #[.pointer (some ⟨p, 0, none⟩), .int .i64 fr] w fun e w' => e = .returned (.int .i64 ((l.length : Int) - ((cutL l fr).length : Int))) ∧ OT2 w0 w' p (cutL l fr) p' l' ∧ KT kInt w w' := by
  obtain ⟨fp, fp', h1, h2, h3, h4, h5, h6⟩ := h
  refine (api_cut w p l fp h1 fr).mono ?_
  rintro e w' ⟨rfl, ht⟩
  exact ⟨rfl, OT2.turn h2 h3 h4 h5 h6 ht, ht.kt h1⟩
theorem OT2.pairs {w0 w : World} {p p' : Nat} {l l' : List (Nat × Int)} (h : OT2 w0 w p l p' l') (stop : Int) : Calls Try.prog 15 #[.pointer (some ⟨p, 0, none⟩), .int .i64 stop] w fun e w' => ∃ v, e = .returned v ∧ (PRow w' v (firstN l stop) ∧ PairBlock w' v) ∧ OT2 w0 w' p l p' l' ∧ Below w.heap.size w w' := by
  have h' := h
  obtain ⟨fp, fp', h1, h2, h3, h4, h5, h6⟩ := h
  refine (api_pairs w p l fp h1 stop).mono ?_
  rintro e w' ⟨v, rfl, hr, hb⟩
  exact ⟨v, rfl, ⟨PRow.of_own hr, PairBlock.of_own hr⟩, h'.below hb, hb⟩
theorem OT2.new {w0 w : World} {p : Nat} {l : List (Nat × Int)} (h : OT w0 w p l) : Calls Try.prog 9 #[] w fun e w' => e = .returned (.pointer (some ⟨w.heap.size, 0, none⟩)) ∧ OT2 w0 w' p l w.heap.size [] ∧ Below w.heap.size w w' := by
  obtain ⟨fp, h1, h2, h3⟩ := h
  refine (api_new w).mono ?_
  rintro e w' ⟨rfl, k1, k2⟩
  exact ⟨rfl, ⟨fp, _, h1.below k2, k1, fun b a c => by have := h1.lt a; omega, h2, fun b hb => by rw [hb]; exact h3.size, h3.trans (k2.mono h3.size)⟩, k2⟩
end Go.Proofs.Ythpjcbaijbppiaa
