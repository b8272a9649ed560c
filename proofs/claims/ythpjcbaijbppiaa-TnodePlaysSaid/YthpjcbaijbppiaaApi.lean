/- The tree's calls over the list of what it holds. -/
import Derived.Test.YthpjcbaijbppiaaPairs
namespace Go.Proofs.Ythpjcbaijbppiaa
open Go.RowKit Go.Proofs
set_option linter.unusedVariables false
set_option linter.unusedSimpArgs false
section
variable {V : Type}
def valAt (l : List (Nat × V)) (k : Int) : Option V := (l.find? fun x => (x.1 : Int) == k).map Prod.snd
def dropL (l : List (Nat × V)) (k : Int) : List (Nat × V) := l.filter fun x => (x.1 : Int) != k
def cutL (l : List (Nat × V)) (fr : Int) : List (Nat × V) := l.filter fun x => decide ((x.1 : Int) < fr)
/-- So high is a tree of that list. -/
def HtR (l : List (Nat × V)) (h : Nat) : Prop := (l = [] ∧ h = 0) ∨ (∃ x, l.getLast? = some x ∧ 1 ≤ h ∧ x.1 < 16 ^ h ∧ (h = 1 ∨ 16 ^ (h - 1) ≤ x.1))
theorem HtR.uniq {l : List (Nat × V)} {h h' : Nat} (a : HtR l h) (b : HtR l h') : h = h' := by
  rcases a with ⟨rfl, rfl⟩ | ⟨x, hx, h1, h2, h3⟩
  · rcases b with ⟨_, rfl⟩ | ⟨y, hy, _⟩
    · rfl
    · cases hy
  · rcases b with ⟨rfl, _⟩ | ⟨y, hy, k1, k2, k3⟩
    · cases hx
    · rw [hx] at hy
      cases hy
      have key : ∀ {i j : Nat}, 1 ≤ j → x.1 < 16 ^ i → (j = 1 ∨ 16 ^ (j - 1) ≤ x.1) → 1 ≤ i → j ≤ i := fun {i j} hj hi hk h1 => by
        rcases hk with rfl | hk
        · exact h1
        · by_cases e : j ≤ i
          · exact e
          · have := Nat.pow_le_pow_right (n := 16) (by decide) (show i ≤ j - 1 by omega)
            omega
      exact Nat.le_antisymm (key h1 k2 h3 k1) (key k1 h2 k3 h1)
theorem valAt_of {s : TS V} {l : List (Nat × V)} (hl : Lists s.val l) (k : Int) : valAt l k = (keyOf s k).map Prod.snd := by
  unfold valAt
  cases e : l.find? (fun x => (x.1 : Int) == k) with
  | none =>
    have h := List.find?_eq_none.1 e
    cases hk : keyOf s k with
    | none => rfl
    | some x =>
      unfold keyOf at hk
      by_cases h0 : k < 0
      · rw [if_pos h0] at hk; cases hk
      · rw [if_neg h0] at hk
        have := (hl.mem k.toNat x.2).2 (by unfold TS.val; rw [hk]; rfl)
        have := h _ this
        simp at this
        omega
  | some y =>
    have h1 := List.mem_of_find?_eq_some e
    have h2 := List.find?_some e
    simp at h2
    have := (hl.mem y.1 y.2).1 h1
    unfold TS.val at this
    unfold keyOf
    rw [if_neg (by omega), show k.toNat = y.1 by omega]
    cases hk : s.K y.1 with
    | none => rw [hk] at this; cases this
    | some z => rw [hk] at this; simp at this; simp [this]
theorem last_max {l : List (Nat × V)} (hs : Srt l) {x y : Nat × V} (hx : l.getLast? = some x) (hy : y ∈ l) : y.1 ≤ x.1 := by
  obtain ⟨t, rfl⟩ : ∃ t, l = t ++ [x] := by
    obtain ⟨ys, h⟩ := List.getLast?_eq_some_iff.1 hx
    exact ⟨ys, h⟩
  rcases List.mem_append.1 hy with h | h
  · have := (List.pairwise_append.1 hs).2.2 y h x (by simp)
    omega
  · simp at h; subst h; exact Nat.le_refl _
theorem Tree.ht {κ : Tk V} {w : World} {p : Nat} {n : Int} {s : TS V} (hT : Tree κ w p n s) {l : List (Nat × V)} (hl : Lists s.val l) : HtR l s.h := by
  cases hx : l.getLast? with
  | none =>
    have : l = [] := List.getLast?_eq_none_iff.1 hx
    subst this
    left
    refine ⟨rfl, ?_⟩
    by_cases h0 : s.h = 0
    · exact h0
    · obtain ⟨k, x, hk⟩ := some_key hT.wf hT.full (by omega)
      have := (hl.mem k x.2).2 (by unfold TS.val; rw [hk]; rfl)
      cases this
  | some x =>
    right
    have hm : x ∈ l := by obtain ⟨ys, rfl⟩ := List.getLast?_eq_some_iff.1 hx; simp
    have hk := (hl.mem x.1 x.2).1 hm
    unfold TS.val at hk
    cases e : s.K x.1 with
    | none => rw [e] at hk; cases hk
    | some z =>
      obtain ⟨b, hb⟩ := hT.wf.ku _ _ e
      have h1 := hT.wf.lv _ _ _ hb
      refine ⟨x, hx, by omega, hT.wf.key_lt e, ?_⟩
      by_cases h2 : s.h = 1
      · exact .inl h2
      · right
        obtain ⟨k, y, hy, hle⟩ := top_key hT.wf hT.full hT.min (by omega)
        have := last_max hl.srt hx ((hl.mem k y.2).2 (by unfold TS.val; rw [hy]; rfl))
        simp only at this
        omega
/-- A tree that holds l; fp: the blocks that it reads. -/
def TR (κ : Tk V) (w : World) (p : Nat) (l : List (Nat × V)) (fp : Nat → Prop) : Prop :=
  ∃ n s, Tree κ w p n s ∧ Lists s.val l ∧ ∀ b, fp b ↔ Foot p s b
theorem TR.frame {κ : Tk V} {w w' : World} {p : Nat} {l : List (Nat × V)} {fp S : Nat → Prop} (h : TR κ w p l fp) (ho : Off S w w') (hS : ∀ b, S b → fp b → False) : TR κ w' p l fp := by
  obtain ⟨n, s, hT, hl, hf⟩ := h
  exact ⟨n, s, ⟨hT.isT.off ho fun b hs hb => hS b hs ((hf b).2 hb), hT.wf, hT.full, hT.min, hT.cnt⟩, hl, hf⟩
theorem TR.below {κ : Tk V} {w w' : World} {p : Nat} {l : List (Nat × V)} {fp : Nat → Prop} (h : TR κ w p l fp) (hb : Below w.heap.size w w') : TR κ w' p l fp :=
  h.frame (Off.of_below (S := fun _ => False) hb) (fun _ h _ => h)
theorem TR.len {κ : Tk V} {w : World} {p : Nat} {l : List (Nat × V)} {fp : Nat → Prop} (h : TR κ w p l fp) : l.length ≤ 1048576 := by
  obtain ⟨n, s, hT, hl, _⟩ := h
  obtain ⟨l', hl', e⟩ := hT.cnt
  have := hT.cnt.le hT.wf
  rw [hl.uniq hl']; omega
theorem TR.key {κ : Tk V} {w : World} {p : Nat} {l : List (Nat × V)} {fp : Nat → Prop} (h : TR κ w p l fp) {x : Nat × V} (hx : x ∈ l) : x.1 < 1048576 := by
  obtain ⟨n, s, hT, hl, _⟩ := h
  have hk := (hl.mem x.1 x.2).1 hx
  unfold TS.val at hk
  cases e : s.K x.1 with
  | none => rw [e] at hk; cases hk
  | some z => exact Nat.lt_of_lt_of_le (hT.wf.key_lt e) (pow16_le hT.wf.h5)
theorem TR.srt {κ : Tk V} {w : World} {p : Nat} {l : List (Nat × V)} {fp : Nat → Prop} (h : TR κ w p l fp) : Srt l := by obtain ⟨n, s, hT, hl, _⟩ := h; exact hl.srt
theorem TR.lt {κ : Tk V} {w : World} {p : Nat} {l : List (Nat × V)} {fp : Nat → Prop} (h : TR κ w p l fp) {b : Nat} (hb : fp b) : b < w.heap.size := by obtain ⟨_, _, hT, _, hf⟩ := h; exact hT.isT.foot_lt ((hf b).1 hb)
theorem TR.typ {κ : Tk V} {w : World} {p : Nat} {l : List (Nat × V)} {fp : Nat → Prop} (h : TR κ w p l fp) {b : Nat} (hb : fp b) : ∃ c t, w.heap[b]? = some (.cells c t (0, 0)) ∧ (t = κ.tt ∨ t = κ.tn ∨ t = κ.tv) := by
  obtain ⟨_, _, hT, _, hf⟩ := h
  rcases (hf b).1 hb with rfl | ⟨L, q, h⟩ | ⟨k, v, h⟩
  · exact ⟨_, _, hT.isT.tree, .inl rfl⟩
  · obtain ⟨c, hc, _⟩ := hT.isT.node _ _ _ h
    exact ⟨c, _, hc, .inr (.inl rfl)⟩
  · exact ⟨_, _, hT.isT.thing _ _ _ h, .inr (.inr rfl)⟩
theorem TR.drewN {κ : Tk V} {w : World} {p : Nat} {l : List (Nat × V)} {fp : Nat → Prop} (h : TR κ w p l fp) (m : Nat) : TR κ (w.drewN m) p l fp := by
  obtain ⟨n, s, hT, hl, hf⟩ := h
  exact ⟨n, s, ⟨hT.isT.drewN m, hT.wf, hT.full, hT.min, hT.cnt⟩, hl, hf⟩
/-- What a call does with a tree: its list, its blocks; nothing else. -/
def Turn (κ : Tk V) (w : World) (p : Nat) (l' : List (Nat × V)) (fp : Nat → Prop) (w' : World) : Prop :=
  ∃ fp', TR κ w' p l' fp' ∧ Off fp w w' ∧ ∀ b, fp' b → fp b ∨ w.heap.size ≤ b
/-- Cells of other kinds lie as they lay. -/
def KT (κ : Tk V) (w w' : World) : Prop := ∀ (k : Nat) (c : Array Value) (t : TypeId) (f : Nat × Nat), w.heap[k]? = some (.cells c t f) → t ≠ κ.tt → t ≠ κ.tn → t ≠ κ.tv → w'.heap[k]? = some (.cells c t f)
theorem Turn.kt {κ : Tk V} {w w' : World} {p : Nat} {l l' : List (Nat × V)} {fp : Nat → Prop} (h : TR κ w p l fp) (ht : Turn κ w p l' fp w') : KT κ w w' := fun k c t f hk h1 h2 h3 => by
  obtain ⟨_, _, ho, _⟩ := ht
  refine (ho.block k (lt_of_heap hk) fun hb => ?_).trans hk
  obtain ⟨c', t', hc, hh⟩ := h.typ hb
  rw [hk] at hc
  cases hc
  rcases hh with e | e | e
  · exact h1 e
  · exact h2 e
  · exact h3 e
theorem KT.below {κ : Tk V} {w w' : World} (h : Below w.heap.size w w') : KT κ w w' := fun k c t f hk _ _ _ => (h.block k (lt_of_heap hk)).trans hk
theorem KT.trans {κ : Tk V} {a b c : World} (h : KT κ a b) (k : KT κ b c) : KT κ a c := fun i x t f hi h1 h2 h3 => k i x t f (h i x t f hi h1 h2 h3) h1 h2 h3
theorem Turn.same {κ : Tk V} {w w' : World} {p : Nat} {l : List (Nat × V)} {fp : Nat → Prop} (h : TR κ w p l fp) (hb : Below w.heap.size w w') : Turn κ w p l fp w' :=
  ⟨fp, h.below hb, Off.of_below hb, fun b hb => .inl hb⟩
end
theorem below_drewN' (w : World) (m : Nat) : Below w.heap.size w (w.drewN m) := ⟨rfl, rfl, rfl, Nat.le_refl _, fun _ _ => rfl⟩
theorem api_new (w : World) : Calls Try.prog 9 #[] w fun e w' => e = .returned (.pointer (some ⟨w.heap.size, 0, none⟩)) ∧ TR kInt w' w.heap.size [] (· = w.heap.size) ∧ Below w.heap.size w w' := by
  refine (new_calls w).mono ?_
  rintro e w' ⟨rfl, rfl⟩
  refine ⟨rfl, ⟨0, TS.none, ⟨⟨heap_alloc_new _ _, fun L q a h => (by cases h), fun k a v h => (by cases h)⟩, ⟨by decide, fun L q a h => (by cases h), fun q a h => (by cases h), fun h => absurd h (by decide), fun L q a h => (by cases h), fun k x h => (by cases h), fun L q L' q' a h => (by cases h)⟩, fun L q a h => (by cases h), fun h => absurd h (by decide), ⟨[], Lists.nil fun _ => rfl, rfl⟩⟩, Lists.nil fun _ => rfl, ?_⟩, (Below.refl _ _).alloc (Nat.le_refl _) _⟩
  intro b
  constructor
  · rintro rfl; exact .inl rfl
  · rintro (rfl | ⟨L, q, h⟩ | ⟨k, v, h⟩)
    · rfl
    · cases h
    · cases h
theorem api_len (w : World) (p : Nat) (l : List (Nat × Int)) (fp : Nat → Prop) (h : TR kInt w p l fp) : Calls Try.prog 11 #[.pointer (some ⟨p, 0, none⟩)] w fun e w' => e = .returned (.int .i64 (l.length : Int)) ∧ w = w' := by
  obtain ⟨n, s, hT, hl, _⟩ := h
  obtain ⟨l', hl', rfl⟩ := hT.cnt
  rw [hl.uniq hl']
  exact len_calls p _ s w hT.isT
theorem api_height (w : World) (p : Nat) (l : List (Nat × Int)) (fp : Nat → Prop) (h : TR kInt w p l fp) (k : Nat) (hk : HtR l k) : Calls Try.prog 12 #[.pointer (some ⟨p, 0, none⟩)] w fun e w' => e = .returned (.int .i64 (k : Int)) ∧ w = w' := by
  obtain ⟨n, s, hT, hl, _⟩ := h
  rw [hk.uniq (hT.ht hl)]
  exact height_calls p _ s w hT.isT
theorem TR.ht {V : Type} {κ : Tk V} {w : World} {p : Nat} {l : List (Nat × V)} {fp : Nat → Prop} (h : TR κ w p l fp) : ∃ k, HtR l k ∧ k ≤ 5 := by
  obtain ⟨n, s, hT, hl, _⟩ := h
  exact ⟨s.h, hT.ht hl, hT.wf.h5⟩
theorem api_get (w : World) (p : Nat) (l : List (Nat × Int)) (fp : Nat → Prop) (h : TR kInt w p l fp) (k : Int) :
    Calls Try.prog 18 #[.pointer (some ⟨p, 0, none⟩), .int .i64 k] w fun e w' => e = .returned (.tuple #[.int .i64 ((valAt l k).getD 0), .bool (valAt l k).isSome]) ∧ ∃ m, w' = w.drewN m := by
  obtain ⟨n, s, hT, hl, _⟩ := h
  refine (get_calls p n s w k hT.wf hT.isT).mono ?_
  rintro e w' ⟨rfl, hm⟩
  refine ⟨?_, hm⟩
  rw [valAt_of hl]
  cases keyOf s k <;> rfl
theorem api_bad (w : World) (p : Nat) (l : List (Nat × Int)) (fp : Nat → Prop) (h : TR kInt w p l fp) (k v : Int) (hk : k < 0 ∨ 1048575 < k) :
    Calls Try.prog 21 #[.pointer (some ⟨p, 0, none⟩), .int .i64 k, .int .i64 v] w fun e w' => e = .returned (.int .i64 90) ∧ Turn kInt w p l fp w' := by
  refine (put_bad p k v w hk).mono ?_
  rintro e w' ⟨rfl, rfl⟩
  exact ⟨rfl, Turn.same h ((Below.refl _ _).alloc (Nat.le_refl _) _)⟩
theorem api_put (w : World) (p : Nat) (l : List (Nat × Int)) (fp : Nat → Prop) (h : TR kInt w p l fp) (k : Nat) (v : Int) (hk : k < 1048576) :
    Calls Try.prog 21 #[.pointer (some ⟨p, 0, none⟩), .int .i64 (k : Int), .int .i64 v] w fun e w' => e = .returned (.int .i64 0) ∧ Turn kInt w p (insL k v l) fp w' := by
  obtain ⟨n, s, hT, hl, hf⟩ := h
  refine (put_ok s p n k v w hk hT).mono ?_
  rintro e w' ⟨rfl, s', n', hT', hK, hN, ho⟩
  have hsz : (w.alloc (.cells #[.int .i64 v] 3)).heap.size = w.heap.size + 1 := World.size_alloc _ _
  have hnew : ∀ b, Foot p s' b → Foot p s b ∨ (w.heap.size ≤ b ∧ b < w'.heap.size) := by
    intro b hb
    have hb2 := hT'.isT.foot_lt hb
    rcases hb with rfl | ⟨L, q, h⟩ | ⟨i, x, h⟩
    · exact .inl (.inl rfl)
    · rcases hN L q b h with h1 | h1
      · exact .inl (.inr (.inl ⟨L, q, h1⟩))
      · exact .inr ⟨by omega, hb2⟩
    · rw [hK i] at h
      by_cases e : i = k
      · rw [if_pos e] at h; cases h; exact .inr ⟨Nat.le_refl _, hb2⟩
      · rw [if_neg e] at h; exact .inl (.inr (.inr ⟨i, x, h⟩))
  have hoff : Off fp w w' := by
    refine (Off.alloc (Off.refl fp w) (.cells #[.int .i64 v] 3)).trans' ho fun i _ hi => ?_
    rcases hi with rfl | ⟨L, q, h⟩
    · exact (hf _).2 (.inl rfl)
    · exact (hf _).2 (.inr (.inl ⟨L, q, h⟩))
  refine ⟨rfl, Foot p s', ⟨n', s', hT', ?_, fun b => Iff.rfl⟩, hoff, fun b hb => (hnew b hb).imp (hf b).2 (·.1)⟩
  refine (hl.ins k v).congr fun i => ?_
  unfold TS.val
  rw [hK i]
  by_cases e : i = k
  · rw [if_pos e, if_pos e]; rfl
  · rw [if_neg e, if_neg e]
theorem fewer_foot {V : Type} {s s' : TS V} {p b : Nat} (hN : ∀ L q a, s'.N L q = some a → s.N L q = some a) (hK : ∀ i x, s'.K i = some x → s.K i = some x) (h : Foot p s' b) : Foot p s b := by
  rcases h with rfl | ⟨L, q, h⟩ | ⟨i, x, h⟩
  · exact .inl rfl
  · exact .inr (.inl ⟨L, q, hN _ _ _ h⟩)
  · exact .inr (.inr ⟨i, x, hK _ _ h⟩)
theorem node_fp {V : Type} {s : TS V} {p : Nat} {fp : Nat → Prop} (hf : ∀ b, fp b ↔ Foot p s b) (b : Nat) (h : b = p ∨ Nodes s b) : fp b := by
  rcases h with rfl | ⟨L, q, h⟩
  · exact (hf _).2 (.inl rfl)
  · exact (hf _).2 (.inr (.inl ⟨L, q, h⟩))
theorem api_drop (w : World) (p : Nat) (l : List (Nat × Int)) (fp : Nat → Prop) (h : TR kInt w p l fp) (k : Int) :
    Calls Try.prog 22 #[.pointer (some ⟨p, 0, none⟩), .int .i64 k] w fun e w' => e = .returned (.bool (valAt l k).isSome) ∧ Turn kInt w p (dropL l k) fp w' := by
  have h' := h
  obtain ⟨n, s, hT, hl, hf⟩ := h
  rw [valAt_of hl]
  cases hk : keyOf s k with
  | none =>
    refine (drop_no s p n w k hT hk).mono ?_
    rintro e w' ⟨rfl, m, rfl⟩
    have : dropL l k = l := List.filter_eq_self.2 fun x hx => by
      have h1 := (hl.mem x.1 x.2).1 hx
      unfold TS.val at h1
      unfold keyOf at hk
      simp only [bne_iff_ne]
      rintro rfl
      rw [if_neg (by omega), Int.toNat_natCast] at hk
      rw [hk] at h1
      cases h1
    rw [this]
    exact ⟨rfl, Turn.same h' (below_drewN' _ _)⟩
  | some x =>
    have h0 : ¬ k < 0 := fun h => by unfold keyOf at hk; rw [if_pos h] at hk; cases hk
    obtain ⟨j, rfl⟩ : ∃ j : Nat, k = j := ⟨k.toNat, by omega⟩
    have hj : s.K j = some x := by unfold keyOf at hk; rw [if_neg h0, Int.toNat_natCast] at hk; exact hk
    refine (drop_yes s p n w j x hT hj).mono ?_
    rintro e w' ⟨rfl, s', hT', hK, hN, ho⟩
    have hK' : ∀ i y, s'.K i = some y → s.K i = some y := fun i y h => by
      rw [hK i] at h
      by_cases e : i = j
      · rw [if_pos e] at h; cases h
      · rw [if_neg e] at h; exact h
    have hoff : Off fp w w' := ho.mono fun i _ hi => node_fp hf i hi
    refine ⟨rfl, Foot p s', ⟨n - 1, s', hT', ?_, fun b => Iff.rfl⟩, hoff, fun b hb => .inl ((hf b).2 (fewer_foot hN hK' hb))⟩
    have e : dropL l (j : Int) = l.filter fun x => x.1 != j := by
      unfold dropL
      congr 1
      funext x
      rw [Bool.eq_iff_iff, bne_iff_ne, bne_iff_ne]
      omega
    rw [e]
    refine (hl.drop j).congr fun i => ?_
    unfold TS.val
    rw [hK i]
    by_cases e : i = j
    · rw [if_pos e, if_pos e]; rfl
    · rw [if_neg e, if_neg e]
theorem api_cut (w : World) (p : Nat) (l : List (Nat × Int)) (fp : Nat → Prop) (h : TR kInt w p l fp) (fr : Int) :
    Calls Try.prog 20 #[.pointer (some ⟨p, 0, none⟩), .int .i64 fr] w fun e w' => e = .returned (.int .i64 ((l.length : Int) - ((cutL l fr).length : Int))) ∧ Turn kInt w p (cutL l fr) fp w' := by
  obtain ⟨n, s, hT, hl, hf⟩ := h
  refine (cut_top s p n fr w hT).mono ?_
  rintro e w' ⟨s', n', rfl, hT', hK, hN, ho⟩
  have hK' : ∀ i y, s'.K i = some y → s.K i = some y := fun i y h => by
    rw [hK i] at h
    by_cases e : fr ≤ (i : Int)
    · rw [if_pos e] at h; cases h
    · rw [if_neg e] at h; exact h
  have hl' : Lists s'.val (cutL l fr) := (hl.cut fr).congr fun i => by
    unfold TS.val
    rw [hK i]
    by_cases e : fr ≤ (i : Int)
    · rw [if_pos e, if_neg (by omega)]; rfl
    · rw [if_neg e, if_pos (by omega)]
  have hoff : Off fp w w' := ho.mono fun i _ hi => node_fp hf i hi
  refine ⟨?_, Foot p s', ⟨n', s', hT', hl', fun b => Iff.rfl⟩, hoff, fun b hb => .inl ((hf b).2 (fewer_foot hN hK' hb))⟩
  obtain ⟨l1, h1, rfl⟩ := hT.cnt
  obtain ⟨l2, h2, rfl⟩ := hT'.cnt
  rw [← hl.uniq h1, ← hl'.uniq h2]
theorem api_pairs (w : World) (p : Nat) (l : List (Nat × Int)) (fp : Nat → Prop) (h : TR kInt w p l fp) (stop : Int) :
    Calls Try.prog 15 #[.pointer (some ⟨p, 0, none⟩), .int .i64 stop] w (PairsEnd l stop w) := by
  obtain ⟨n, s, hT, hl, _⟩ := h
  exact pairs_calls s p n l hl w hT stop
end Go.Proofs.Ythpjcbaijbppiaa
