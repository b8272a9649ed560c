/- What is at a key behind n puts; how many unlike keys. -/
import Derived.Test.YthpjcbaijbppiaaRises
namespace Go.Proofs.Ythpjcbaijbppiaa
open Go.RowKit Go.Proofs
set_option linter.unusedVariables false
set_option linter.unusedSimpArgs false
theorem valAt_iff {l : List (Nat × Int)} (hs : Srt l) {k v : Int} : valAt l k = some v ↔ ∃ j : Nat, k = j ∧ (j, v) ∈ l := by
  constructor
  · intro h
    unfold valAt at h
    rw [Option.map_eq_some_iff] at h
    obtain ⟨x, hx, rfl⟩ := h
    have h2 := List.find?_some hx
    simp at h2
    exact ⟨x.1, h2.symm, List.mem_of_find?_eq_some hx⟩
  · rintro ⟨j, rfl, hm⟩
    obtain ⟨i, hi⟩ := List.getElem?_of_mem hm
    exact valAt_get hs hi
theorem srt_putL {l : List (Nat × Int)} (hs : Srt l) (k v : Int) : Srt (putL l k v) := by
  unfold putL; split
  · exact srt_insL hs
  · exact hs
theorem valAt_putL {l : List (Nat × Int)} (hs : Srt l) (k v k' : Int) : valAt (putL l k v) k' = if mayB k = true ∧ k' = k then some v else valAt l k' := by
  have key : ∀ u, valAt (putL l k v) k' = some u ↔ (if mayB k = true ∧ k' = k then some v else valAt l k') = some u := fun u => by
    rw [valAt_iff (srt_putL hs k v)]
    by_cases hm : mayB k = true
    · have hm' := of_decide_eq_true hm
      have e : putL l k v = insL k.toNat v l := by unfold putL; rw [if_pos hm]
      rw [e]
      constructor
      · rintro ⟨j, rfl, hj⟩
        rcases (mem_insL hs _).1 hj with e2 | ⟨h1, h2⟩
        · cases e2
          rw [if_pos ⟨hm, by omega⟩]
        · rw [if_neg (fun h => h1 (by have := h.2; simp only; omega))]
          exact (valAt_iff hs).2 ⟨j, rfl, h2⟩
      · intro h
        by_cases hk : k' = k
        · rw [if_pos ⟨hm, hk⟩] at h
          cases h
          exact ⟨k.toNat, by omega, (mem_insL hs _).2 (.inl rfl)⟩
        · rw [if_neg (fun h => hk h.2)] at h
          obtain ⟨j, rfl, hj⟩ := (valAt_iff hs).1 h
          exact ⟨j, rfl, (mem_insL hs _).2 (.inr ⟨by simp only; omega, hj⟩)⟩
    · have e : putL l k v = l := by unfold putL; rw [if_neg hm]
      rw [e, if_neg (fun h => hm h.1), valAt_iff hs]
  exact Option.ext key
theorem srt_fillN (ks : List Int) : ∀ n, Srt (fillN ks n)
  | 0 => List.Pairwise.nil
  | n + 1 => by
    cases h : ks[n]? with
    | none => show Srt (match ks[n]? with | some k => _ | none => _); rw [h]; exact srt_fillN ks n
    | some k => rw [fillN_succ h]; exact srt_putL (srt_fillN ks n) _ _
def lastIx (ks : List Int) (k : Int) : Nat → Option Nat
  | 0 => none
  | n + 1 => if ks[n]? = some k then some n else lastIx ks k n
theorem lastIx_lt {ks : List Int} {k : Int} : ∀ {n j : Nat}, lastIx ks k n = some j → j < n ∧ ks[j]? = some k
  | 0, j, h => by cases h
  | n + 1, j, h => by
    unfold lastIx at h
    split at h
    · cases h; rename_i e; exact ⟨by omega, e⟩
    · have := lastIx_lt h; exact ⟨by omega, this.2⟩
theorem lastIx_none {ks : List Int} {k : Int} : ∀ {n : Nat}, lastIx ks k n = none ↔ ∀ j, j < n → ks[j]? ≠ some k
  | 0 => ⟨fun _ j hj => absurd hj (Nat.not_lt_zero _), fun _ => rfl⟩
  | n + 1 => by
    unfold lastIx
    by_cases e : ks[n]? = some k
    · rw [if_pos e]
      exact ⟨fun h => (by cases h), fun h => absurd e (h n (by omega))⟩
    · rw [if_neg e, lastIx_none (n := n)]
      constructor
      · intro h j hj
        by_cases e2 : j = n
        · subst e2; exact e
        · exact h j (by omega)
      · intro h j hj; exact h j (by omega)
theorem valAt_fillN (ks : List Int) (k : Int) : ∀ n, n ≤ ks.length → valAt (fillN ks n) k = if mayB k = true then (lastIx ks k n).map (fun j : Nat => (j : Int)) else none
  | 0, _ => by show valAt [] k = _; unfold valAt lastIx; simp
  | n + 1, hn => by
    obtain ⟨x, hx⟩ : ∃ x, ks[n]? = some x := ⟨_, List.getElem?_eq_getElem (by omega)⟩
    rw [fillN_succ hx, valAt_putL (srt_fillN ks n), valAt_fillN ks k n (by omega)]
    rw [show lastIx ks k (n + 1) = if ks[n]? = some k then some n else lastIx ks k n from rfl, hx]
    by_cases e : k = x
    · subst e
      by_cases hm : mayB k = true
      · rw [if_pos ⟨hm, rfl⟩, if_pos hm, if_pos rfl]; rfl
      · rw [if_neg (fun h => hm h.1), if_neg hm, if_neg hm]
    · rw [if_neg (fun h => e h.2), if_neg (fun h : some x = some k => e (by cases h; rfl))]
/-- The greatest index of a like key, as the law reckons it. -/
def lastAt (ks : List Int) (i : Nat) : Nat → Nat
  | 0 => i
  | n + 1 => if ks[n]? = ks[i]? ∧ lastAt ks i n < n then n else lastAt ks i n
def firstAt (ks : List Int) (i : Nat) : Nat → Bool
  | 0 => true
  | n + 1 => if ks[n]? = ks[i]? ∧ n < i then false else firstAt ks i n
theorem lastAt_spec {ks : List Int} {i : Nat} {x : Int} (hx : ks[i]? = some x) : ∀ n, (n ≤ i → lastAt ks i n = i) ∧ (i < n → lastIx ks x n = some (lastAt ks i n))
  | 0 => ⟨fun _ => rfl, fun h => absurd h (Nat.not_lt_zero _)⟩
  | n + 1 => by
    have ih := lastAt_spec hx n
    constructor
    · intro h
      unfold lastAt
      rw [if_neg (by rintro ⟨_, h2⟩; rw [ih.1 (by omega)] at h2; omega)]
      exact ih.1 (by omega)
    · intro h
      unfold lastAt lastIx
      by_cases e : i = n
      · subst e
        rw [if_pos hx, if_neg (by rintro ⟨_, h2⟩; rw [ih.1 (by omega)] at h2; omega), ih.1 (by omega)]
      · have h1 := ih.2 (by omega)
        by_cases e2 : ks[n]? = some x
        · rw [if_pos e2, if_pos ⟨by rw [hx]; exact e2, (lastIx_lt h1).1⟩]
        · rw [if_neg e2, if_neg (by rintro ⟨h2, _⟩; rw [hx] at h2; exact e2 h2)]
          exact h1
theorem lastAt_le (ks : List Int) (i : Nat) : ∀ n, lastAt ks i n ≤ i + n
  | 0 => Nat.le_refl _
  | n + 1 => by
    have := lastAt_le ks i n
    unfold lastAt
    split <;> omega
theorem firstAt_spec {ks : List Int} {i : Nat} {x : Int} (hx : ks[i]? = some x) : ∀ n, firstAt ks i n = true ↔ ∀ j, j < n → j < i → ks[j]? ≠ some x
  | 0 => ⟨fun _ j hj => absurd hj (Nat.not_lt_zero _), fun _ => rfl⟩
  | n + 1 => by
    have ih := firstAt_spec hx n
    unfold firstAt
    by_cases e : ks[n]? = ks[i]? ∧ n < i
    · rw [if_pos e]
      constructor
      · intro h; cases h
      · intro h; exact absurd (by rw [e.1, hx]) (h n (by omega) e.2)
    · rw [if_neg e, ih]
      constructor
      · intro h j hj hi
        by_cases e2 : j = n
        · subst e2
          intro h2
          exact e ⟨by rw [h2, hx], hi⟩
        · exact h j (by omega) hi
      · intro h j hj hi; exact h j (by omega) hi
def uniqN (ks : List Int) : Nat → Nat
  | 0 => 0
  | n + 1 => uniqN ks n + (if firstAt ks n ks.length = true ∧ (match ks[n]? with | some k => mayB k | none => false) = true then 1 else 0)
theorem uniqN_succ {ks : List Int} {n : Nat} {k : Int} (h : ks[n]? = some k) : uniqN ks (n + 1) = uniqN ks n + (if firstAt ks n ks.length = true ∧ mayB k = true then 1 else 0) := by
  show uniqN ks n + (if firstAt ks n ks.length = true ∧ (match ks[n]? with | some k => mayB k | none => false) = true then 1 else 0) = _
  rw [h]
theorem uniqN_le (ks : List Int) : ∀ n, uniqN ks n ≤ n
  | 0 => Nat.le_refl _
  | n + 1 => by
    have h1 := uniqN_le ks n
    have h2 : (if firstAt ks n ks.length = true ∧ (match ks[n]? with | some k => mayB k | none => false) = true then 1 else 0) ≤ 1 := by
      by_cases h : firstAt ks n ks.length = true ∧ (match ks[n]? with | some k => mayB k | none => false) = true
      · rw [if_pos h]; exact Nat.le_refl _
      · rw [if_neg h]; omega
    show uniqN ks n + _ ≤ _
    omega
theorem fillN_length (ks : List Int) : ∀ n, n ≤ ks.length → (fillN ks n).length = uniqN ks n
  | 0, _ => rfl
  | n + 1, hn => by
    obtain ⟨x, hx⟩ : ∃ x, ks[n]? = some x := ⟨_, List.getElem?_eq_getElem (by omega)⟩
    rw [fillN_succ hx, uniqN_succ hx, ← fillN_length ks n (by omega)]
    by_cases hm : mayB x = true
    · have hm' := of_decide_eq_true hm
      have e : putL (fillN ks n) x (n : Int) = insL x.toNat (n : Int) (fillN ks n) := by unfold putL; rw [if_pos hm]
      rw [e]
      have hv := valAt_fillN ks x n (by omega)
      rw [if_pos hm] at hv
      by_cases hf : firstAt ks n ks.length = true
      · rw [if_pos ⟨hf, hm⟩]
        refine insL_length_new fun y hy e3 => ?_
        have h1 : lastIx ks x n = none := lastIx_none.2 fun j hj => (firstAt_spec hx _).1 hf j (by omega) hj
        rw [h1] at hv
        have := (valAt_iff (srt_fillN ks n) (k := x) (v := y.2)).2 ⟨y.1, by omega, hy⟩
        rw [this] at hv
        cases hv
      · rw [if_neg (fun h => hf h.1)]
        refine insL_length_old (srt_fillN ks n) ?_
        cases h1 : lastIx ks x n with
        | none =>
          exact absurd ((firstAt_spec hx _).2 fun j _ hj => lastIx_none.1 h1 j hj) hf
        | some j =>
          rw [h1] at hv
          obtain ⟨y, hy1, hy2⟩ := (valAt_iff (srt_fillN ks n)).1 hv
          exact ⟨_, hy2, by simp only; omega⟩
    · have e : putL (fillN ks n) x (n : Int) = fillN ks n := by unfold putL; rw [if_neg hm]
      rw [e, if_neg (fun h => hm h.2)]; rfl
def hereAt (ks : List Int) (ask : Int) : Nat → Bool
  | 0 => false
  | n + 1 => if ks[n]? = some ask ∧ mayB ask = true then true else hereAt ks ask n
theorem hereAt_spec (ks : List Int) (ask : Int) : ∀ n, hereAt ks ask n = (mayB ask && (lastIx ks ask n).isSome)
  | 0 => by unfold hereAt lastIx; simp
  | n + 1 => by
    unfold hereAt lastIx
    rw [hereAt_spec ks ask n]
    by_cases e : ks[n]? = some ask
    · rw [if_pos e]
      cases mayB ask <;> simp [e]
    · rw [if_neg e, if_neg (fun h => e h.1)]
theorem here_val (ks : List Int) (ask : Int) : (valAt (fillN ks ks.length) ask).isSome = hereAt ks ask ks.length := by
  rw [valAt_fillN ks ask _ (Nat.le_refl _), hereAt_spec]
  cases mayB ask <;> simp
end Go.Proofs.Ythpjcbaijbppiaa
