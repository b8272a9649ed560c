/- BlocksRound: the plain law of the picks. -/
import Derived.Test.YtmohijpkhmeibaaBegun
import Derived.Test.YtmohijpkhmeibaaGood
namespace Go.Proofs.Ytmohijpkhmeibaa
open Go.RowKit Go.Proofs
open PBlocksRound
set_option linter.unusedVariables false
set_option linter.unusedSimpArgs false

def blkS (x : S34) : Blk := ⟨x.f0, x.f1, x.f2, x.f3, false⟩
def isFree (s : Int) : Bool := s == 0
def freeL (l : List S34) : Nat := (l.filter fun x => x.f0 == 0).length
/-- The book while the picks run. -/
structure PInv (l : List S34) (c0 : Int) (b : Bks) (seen : List Bool) (T j : Nat) : Prop where
  len : b.all.length = l.length
  slen : seen.length = l.length
  lo : -1 ≤ b.cursor
  hi : b.cursor < l.length
  tle : T ≤ l.length
  cur : (c0 + T) % (l.length : Int) = b.cursor % (l.length : Int)
  gone : ∀ (t : Nat), t < T → ∀ (x : Blk), b.all[((c0 + 1 + t) % (l.length : Int)).toNat]? = some x → x.state ≠ 0
  cnt : cnt isFree b.all + j = freeL l
  free : ∀ (i : Nat) (y : Blk), b.all[i]? = some y → y.state = 0 → seen[i]? = some false ∧ ∃ x : S34, l[i]? = some x ∧ x.f0 = 0

theorem cnt_set (f : Int → Bool) : ∀ (l : List Blk) (i : Nat) (x y : Blk), l[i]? = some x → cnt f (l.set i y) + (if f x.state then 1 else 0) = cnt f l + (if f y.state then 1 else 0) := by
  intro l
  induction l with
  | nil => intro i x y h; simp at h
  | cons z r ih =>
    intro i x y h
    cases i with
    | zero =>
      simp at h
      subst h
      unfold cnt
      rw [List.set_cons_zero, List.filter_cons, List.filter_cons]
      cases f z.state <;> cases f y.state <;> simp
    | succ i =>
      have := ih i x y (by simpa using h)
      unfold cnt at this ⊢
      rw [List.set_cons_succ, List.filter_cons, List.filter_cons]
      cases f z.state
      · simpa using this
      · simp only [if_true, List.length_cons]
        omega
theorem cnt_pos (l : List Blk) (h : 0 < cnt isFree l) : ∃ (i : Nat) (x : Blk), l[i]? = some x ∧ x.state = 0 := by
  unfold cnt at h
  obtain ⟨x, hx⟩ := List.exists_mem_of_length_pos h
  rw [List.mem_filter] at hx
  obtain ⟨i, hi⟩ := List.getElem?_of_mem hx.1
  exact ⟨i, x, hi, by simpa [isFree] using hx.2⟩
theorem cnt_zero (l : List Blk) (h : cnt isFree l = 0) : ∀ (i : Nat) (x : Blk), l[i]? = some x → x.state ≠ 0 := by
  intro i x hx hs
  unfold cnt at h
  have hm : x ∈ l.filter fun x => isFree x.state := by
    rw [List.mem_filter]
    exact ⟨List.mem_of_getElem? hx, by simp [isFree, hs]⟩
  have := List.length_pos_of_mem hm
  omega

theorem pick_at (b : Bks) (n : Nat) (hn : b.all.length = n) (k : Nat) : pickAt b k = ((b.cursor + 1 + k) % (n : Int)).toNat := by unfold pickAt; rw [hn]
theorem free_pick {b : Bks} (hpos : 0 < b.all.length) (i : Nat) (hi : i < b.all.length) : ∃ k, k < b.all.length ∧ pickAt b k = i := by
  have hn : (0 : Int) < b.all.length := by omega
  refine ⟨(((i : Int) - b.cursor - 1) % (b.all.length : Int)).toNat, ?_, ?_⟩
  · have := Int.emod_lt_of_pos ((i : Int) - b.cursor - 1) hn
    have := Int.emod_nonneg ((i : Int) - b.cursor - 1) (show (b.all.length : Int) ≠ 0 by omega)
    omega
  · unfold pickAt
    have h0 := Int.emod_nonneg ((i : Int) - b.cursor - 1) (show (b.all.length : Int) ≠ 0 by omega)
    rw [Int.toNat_of_nonneg h0]
    have : (b.cursor + 1 + ((i : Int) - b.cursor - 1) % (b.all.length : Int)) % (b.all.length : Int) = i := by
      rw [Int.add_emod_emod]
      rw [show b.cursor + 1 + ((i : Int) - b.cursor - 1) = i by omega]
      exact Int.emod_eq_of_lt (by omega) (by omega)
    rw [this]
    omega
theorem PInv.pick {l : List S34} {c0 : Int} {b : Bks} {seen : List Bool} {T j : Nat} (h : PInv l c0 b seen T j) (hj : j < freeL l) :
    ∃ k x, k < b.all.length ∧ PickNo b k ∧ b.all[pickAt b k]? = some x ∧ x.state = 0 := by
  obtain ⟨i, x, hi, hx⟩ := cnt_pos b.all (by have := h.cnt; omega)
  have hil : i < b.all.length := (List.getElem?_eq_some_iff.1 hi).1
  obtain ⟨k0, hk0, e0⟩ := free_pick (by omega) i hil
  obtain ⟨k, ⟨hk, x1, hx1, hs1⟩, hmin⟩ := exists_least (p := fun k => k < b.all.length ∧ ∃ x, b.all[pickAt b k]? = some x ∧ x.state = 0) ⟨k0, hk0, x, by rw [e0]; exact hi, hx⟩
  refine ⟨k, x1, hk, fun k' hk' => ?_, hx1, hs1⟩
  obtain ⟨y, hy⟩ : ∃ y, b.all[pickAt b k']? = some y := ⟨_, List.getElem?_eq_getElem (pickAt_lt (by omega) k')⟩
  refine ⟨y, hy, fun hs => ?_⟩
  have := hmin k' ⟨by omega, y, hy, hs⟩
  omega
def afterPick (b : Bks) (k : Nat) : Bks := { b with cursor := pickAt b k, all := b.all.set (pickAt b k) badBlk }
theorem PInv.next {l : List S34} {c0 : Int} {b : Bks} {seen : List Bool} {T j k : Nat} {x : Blk} (h : PInv l c0 b seen T j) (hpos : 0 < l.length) (hk : k < b.all.length) (hno : PickNo b k) (hx : b.all[pickAt b k]? = some x) (hs : x.state = 0) :
    PInv l c0 (afterPick b k) (seen.set (pickAt b k) true) (T + k + 1) (j + 1) := by
  have hn : (0 : Int) < l.length := by omega
  have hne : (l.length : Int) ≠ 0 := by omega
  have hpl : pickAt b k < b.all.length := pickAt_lt (by have := h.len; omega) k
  have epos : ∀ t : Nat, ((b.cursor + 1 + t) % (l.length : Int)) = ((c0 + 1 + (T + t : Nat)) % (l.length : Int)) := by
    intro t
    have e1 : b.cursor + 1 + t = b.cursor + (1 + t) := by omega
    have e2 : c0 + 1 + ((T + t : Nat) : Int) = (c0 + T) + (1 + t) := by omega
    rw [e1, e2, Int.add_emod, ← h.cur, ← Int.add_emod]
  have hTk : T + k < l.length := by
    by_cases hlt : T + k < l.length
    · exact hlt
    exfalso
    have hk' : k < l.length := by have := h.len; omega
    refine h.gone (T + k - l.length) (by omega) x ?_ hs
    have : ((c0 + 1 + (T + k - l.length : Nat)) % (l.length : Int)) = (b.cursor + 1 + k) % (l.length : Int) := by
      rw [epos k]
      have e : c0 + 1 + ((T + k : Nat) : Int) = (c0 + 1 + ((T + k - l.length : Nat) : Int)) + l.length := by omega
      rw [e, Int.add_emod_right]
    rw [this, ← pick_at b l.length h.len k]
    exact hx
  have hxi : (pickAt b k : Int) = (b.cursor + 1 + k) % (l.length : Int) := by
    rw [pick_at b l.length h.len k]
    exact Int.toNat_of_nonneg (Int.emod_nonneg _ hne)
  refine ⟨by unfold afterPick; simpa using h.len, by simpa using h.slen, by unfold afterPick; simp only; omega, by unfold afterPick; simp only; have := h.len; omega, by omega, ?_, ?_, ?_, ?_⟩
  · show (c0 + (T + k + 1 : Nat)) % (l.length : Int) = (pickAt b k : Int) % (l.length : Int)
    rw [hxi, Int.emod_emod, epos k]
    congr 1
    omega
  · intro t ht y hy
    show y.state ≠ 0
    have hy' : (b.all.set (pickAt b k) badBlk)[((c0 + 1 + t) % (l.length : Int)).toNat]? = some y := hy
    by_cases he : pickAt b k = ((c0 + 1 + t) % (l.length : Int)).toNat
    · rw [← he, List.getElem?_set_self hpl] at hy'
      cases hy'
      decide
    · rw [List.getElem?_set_ne he] at hy'
      by_cases h1 : t < T
      · exact h.gone t h1 y hy'
      · have ht2 : t - T < k := by
          by_cases h2 : t - T < k
          · exact h2
          exfalso
          have : t = T + k := by omega
          subst this
          apply he
          rw [pick_at b l.length h.len k, epos k]
        obtain ⟨z, hz, hzs⟩ := hno (t - T) ht2
        rw [pick_at b l.length h.len (t - T), epos (t - T), show T + (t - T) = t by omega] at hz
        rw [hy'] at hz
        cases hz
        exact hzs
  · have := cnt_set isFree b.all (pickAt b k) x badBlk hx
    have e1 : isFree x.state = true := by rw [hs]; rfl
    have e2 : isFree badBlk.state = false := rfl
    rw [e1, e2] at this
    have := h.cnt
    show Go.Proofs.Ytmohijpkhmeibaa.cnt isFree (b.all.set (pickAt b k) badBlk) + (j + 1) = freeL l
    simp only [if_true, Bool.false_eq_true, if_false] at *
    omega
  · intro i y hy hys
    have hy' : (b.all.set (pickAt b k) badBlk)[i]? = some y := hy
    by_cases he : pickAt b k = i
    · subst he
      rw [List.getElem?_set_self hpl] at hy'
      cases hy'
      exact absurd hys (by decide)
    · rw [List.getElem?_set_ne he] at hy'
      obtain ⟨h1, h2⟩ := h.free i y hy' hys
      exact ⟨by rw [List.getElem?_set_ne he]; exact h1, h2⟩
/-- The step from one pick to the next. -/
theorem PInv.step {l : List S34} {c0 : Int} {b : Bks} {seen : List Bool} {T j k : Nat} (h : PInv l c0 b seen T j) (hk : k < b.all.length) :
    (if (pickAt b k : Int) - b.cursor ≤ 0 then (pickAt b k : Int) - b.cursor + l.length else (pickAt b k : Int) - b.cursor) = k + 1 := by
  have hlo := h.lo
  have hhi := h.hi
  have hlen := h.len
  have hxi : (pickAt b k : Int) = (b.cursor + 1 + k) % (l.length : Int) := by
    rw [pick_at b l.length h.len k]
    exact Int.toNat_of_nonneg (Int.emod_nonneg _ (by omega))
  by_cases hw : b.cursor + 1 + k < l.length
  · have : (b.cursor + 1 + k) % (l.length : Int) = b.cursor + 1 + k := Int.emod_eq_of_lt (by omega) hw
    rw [hxi, this, if_neg (by omega)]
    omega
  · have : (b.cursor + 1 + k) % (l.length : Int) = b.cursor + 1 + k - l.length := by
      rw [← Int.sub_emod_right]
      exact Int.emod_eq_of_lt (by omega) (by omega)
    rw [hxi, this, if_pos (by omega)]
    omega
theorem PInv.good {l : List S34} {c0 : Int} {b : Bks} {seen : List Bool} {T j k : Nat} {x : Blk} (h : PInv l c0 b seen T j) (hx : b.all[pickAt b k]? = some x) (hs : x.state = 0) : goodN (afterPick b k) = goodN b - 1 := by
  have := cnt_set (inL [6, 4]) b.all (pickAt b k) x badBlk hx
  have e1 : inL [6, 4] x.state = false := by rw [hs]; rfl
  have e2 : inL [6, 4] badBlk.state = true := rfl
  rw [e1, e2] at this
  unfold goodN afterPick
  simp only [if_true, Bool.false_eq_true, if_false, List.length_set] at *
  omega
theorem PInv.done {l : List S34} {c0 : Int} {b : Bks} {seen : List Bool} {T : Nat} (h : PInv l c0 b seen T (freeL l)) (hpos : 0 < l.length) : PickNo b b.all.length := by
  intro k hk
  obtain ⟨y, hy⟩ : ∃ y, b.all[pickAt b k]? = some y := ⟨_, List.getElem?_eq_getElem (pickAt_lt (by have := h.len; omega) k)⟩
  exact ⟨y, hy, cnt_zero b.all (by have := h.cnt; omega) _ y hy⟩
theorem cnt_free (l : List S34) : cnt isFree (l.map blkS) = freeL l := by
  unfold cnt freeL
  induction l with
  | nil => rfl
  | cons x r ih =>
    rw [List.map_cons, List.filter_cons, List.filter_cons]
    show (if (x.f0 == 0) = true then _ else _ : List Blk).length = _
    split <;> simp [ih]
theorem PInv.start (l : List S34) (P c0 last opn : Int) (h1 : -1 ≤ c0) (h2 : c0 < l.length) : PInv l c0 ⟨P, l.map blkS, c0, last, -1, opn⟩ (List.replicate l.length false) 0 0 := by
  refine ⟨by simp, by simp, h1, h2, by omega, by simp, fun t ht => by omega, by rw [cnt_free]; rfl, fun i y hy hs => ?_⟩
  have hy' : (l.map blkS)[i]? = some y := hy
  rw [List.getElem?_map] at hy'
  cases hx : l[i]? with
  | none => rw [hx] at hy'; cases hy'
  | some x =>
    rw [hx] at hy'
    cases hy'
    have hi : i < l.length := (List.getElem?_eq_some_iff.1 hx).1
    exact ⟨by rw [List.getElem?_replicate, if_pos hi], x, rfl, hs⟩
end Go.Proofs.Ytmohijpkhmeibaa
