/- May of the document says what New of the program asks. -/
import Derived.Test.YtmohijpkhmeibaaRefNew
namespace Go.Proofs.Ytmohijpkhmeibaa
open Go.RowKit Go.Proofs Go.Proofs.YtmohijpkhmeibaaW.PrintWords
open PBlocksRound
set_option linter.unusedVariables false
set_option linter.unusedSimpArgs false

def mayFrom (P last : Int) (pre : List S34) (n : Nat) : List S34 → Bool
  | [] => decide (n ≤ 1)
  | x :: r => if badPlace P last pre.length x then false else if (x.f1 != 0) && headIn pre x.f1 then false else mayFrom P last (pre ++ [x]) (if x.f0 = 2 then n + 1 else n) r

theorem mayFrom_many (P last : Int) : ∀ (r pre : List S34) (n : Nat), 2 ≤ n → mayFrom P last pre n r = false := by
  intro r
  induction r with
  | nil => intro pre n hn; unfold mayFrom; simp; omega
  | cons x r ih =>
    intro pre n hn
    unfold mayFrom
    split
    · rfl
    · split
      · rfl
      · exact ih _ _ (by split <;> omega)
theorem new_may (P last : Int) : ∀ (r pre : List S34) (n : Nat) (opn : Int), (n = 0 ∧ opn = -1) ∨ (n = 1 ∧ opn ≠ -1) → (newFrom P last pre opn r).isSome = mayFrom P last pre n r := by
  intro r
  induction r with
  | nil =>
    intro pre n opn h
    unfold newFrom mayFrom
    rcases h with ⟨rfl, _⟩ | ⟨rfl, _⟩ <;> rfl
  | cons x r ih =>
    intro pre n opn h
    rw [newFrom_cons]
    unfold mayFrom entryOk
    cases hb : badPlace P last pre.length x
    · cases hh : (x.f1 != 0 && headIn pre x.f1)
      · by_cases h2 : x.f0 = 2
        · have e2 : (x.f0 == 2) = true := by rw [h2]; rfl
          rcases h with ⟨rfl, rfl⟩ | ⟨rfl, ho⟩
          · rw [if_pos h2, if_pos h2]
            simpa [e2] using ih (pre ++ [x]) 1 (pre.length : Int) (.inr ⟨rfl, by omega⟩)
          · have eo : (opn != -1) = true := by rw [bne_iff_ne]; exact ho
            rw [if_pos h2, if_pos h2, mayFrom_many P last r (pre ++ [x]) (1 + 1) (by omega)]
            simp [e2, eo]
        · have e2 : (x.f0 == 2) = false := by rw [beq_eq_false_iff_ne]; exact h2
          rw [if_neg h2, if_neg h2]
          simpa [e2] using ih (pre ++ [x]) n opn h
      · simp
    · simp

theorem rd_eq {l : List S34} {i : Nat} {x : S34} (h : l[i]? = some x) : rd_T34 l (i : Int) = x := by
  show l.getD (i : Int).toNat z34 = x
  rw [Int.toNat_natCast, List.getD_eq_getElem?_getD, h]
  rfl
theorem row_ok (k : Nat) (P : Int) (x : S34) (hP : 4 ≤ P ∧ P ≤ 256) (h0 : 0 ≤ x.f1) : shaleref11_row.f (k + 1) x.f0 x.f1 x.f2 x.f3 P = some (soundB P x) := by
  obtain ⟨a, b, c, d⟩ := x
  have ew : wrap64 (P - 1) = P - 1 := by unfold wrap64; omega
  unfold shaleref11_row.f
  simp only at h0 ⊢
  by_cases hv : vacB a = true
  · have e : (if a = 0 then shaleref11_row.j0 (k + 1) P true a b c d else if a = 5 then shaleref11_row.j0 (k + 1) P true a b c d else shaleref11_row.j0 (k + 1) P (a == 6) a b c d) = shaleref11_row.j0 (k + 1) P true a b c d := by
      unfold vacB at hv
      simp only [Bool.or_eq_true, beq_iff_eq] at hv
      split
      · rfl
      · split
        · rfl
        · have : a = 6 := by omega
          subst this
          rfl
    rw [e, shaleref11_row.j0]
    unfold soundB
    rw [if_pos rfl, if_pos hv]
    by_cases hb : b = 0
    · subst hb
      rw [if_pos rfl]
      cases c <;> simp
    · rw [if_neg hb]
      have : (b == 0) = false := by rw [beq_eq_false_iff_ne]; exact hb
      simp [this]
  · have hv' : ¬ a = 0 ∧ ¬ a = 5 ∧ ¬ a = 6 := by
      unfold vacB at hv
      simp only [Bool.or_eq_true, beq_iff_eq] at hv
      omega
    have e6 : (a == 6) = false := by rw [beq_eq_false_iff_ne]; exact hv'.2.2
    rw [if_neg hv'.1, if_neg hv'.2.1, e6]
    rw [shaleref11_row.j0]
    unfold soundB
    rw [if_neg Bool.false_ne_true, if_neg hv, ew]
    simp only
    by_cases c1 : a < 1
    · rw [if_pos c1, if_pos (by omega)]
    rw [if_neg c1]
    by_cases c2 : a > 4
    · rw [if_pos c2, if_pos (by omega)]
    rw [if_neg c2]
    by_cases c3 : b < 1
    · rw [if_pos c3, if_pos (by omega)]
    rw [if_neg c3]
    by_cases c4 : b > 281474976710655
    · rw [if_pos c4, if_pos (by omega)]
    rw [if_neg c4]
    by_cases c5 : d < 0
    · rw [if_pos c5, if_pos (by omega)]
    rw [if_neg c5]
    by_cases c6 : d > P - 1
    · rw [if_pos c6, if_pos (by omega)]
    rw [if_neg c6]
    have hcond : ¬ (a < 0 ∨ 6 < a ∨ b = 0 ∨ 281474976710655 < b ∨ d < 0 ∨ P ≤ d) := by omega
    rw [if_neg hcond]
    by_cases c7 : a = 1
    · subst c7
      rw [if_pos rfl, if_pos rfl]
      cases c
      · by_cases c8 : d > 0
        · rw [if_neg Bool.false_ne_true, if_pos c8, if_neg (show ¬ (1 : Int) = 3 by omega)]; simp; omega
        · rw [if_neg Bool.false_ne_true, if_neg c8]; simp; omega
      · rfl
    · rw [if_neg c7, if_neg c7]
      by_cases c8 : a = 3
      · rw [if_pos c8, if_pos c8]
      · rw [if_neg c8, if_neg c8]

theorem may_step (k : Nat) (l : List S34) (P last : Int) (n i : Nat) (x : S34) (hx : l[i]? = some x) (hP : 4 ≤ P ∧ P ≤ 256) (h0 : 0 ≤ x.f1) :
    shaleref11_May.l0 (k + 2) l P last n i = shaleref11_May.j1 (k + 1) l P last n i (badPlace P last i x) x.f0 x.f1 x.f2 x.f3 := by
  have hlt : i < l.length := (List.getElem?_eq_some_iff.1 hx).1
  rw [shaleref11_May.l0]
  rw [if_pos (by omega), if_pos (by omega), rd_eq hx, row_ok k P x hP h0, Option.bind_some]
  unfold badPlace
  cases hs : soundB P x
  · simp
  · rw [if_pos rfl]
    by_cases h5 : x.f0 = 5
    · have e5 : (x.f0 == 5) = true := by rw [h5]; rfl
      rw [if_pos h5, e5]
      by_cases hi : (i : Int) = last
      · rw [if_pos hi, if_neg (by omega)]
        have e6 : (x.f0 == 6) = false := by rw [h5]; rfl
        rw [e6, hi]
        simp
      · rw [if_neg hi]
        have hi' : ((i : Int) != last) = true := by rw [bne_iff_ne]; exact hi
        simp [hi']
    · have e5 : (x.f0 == 5) = false := by rw [beq_eq_false_iff_ne]; exact h5
      rw [if_neg h5, e5]
      by_cases hi : (i : Int) = last
      · rw [if_pos hi]
        by_cases hz : x.f0 = 0
        · rw [if_pos hz]
          simp [hi, hz, vacB]
        · rw [if_neg hz]
          have ez : (x.f0 == 0) = false := by rw [beq_eq_false_iff_ne]; exact hz
          simp [hi, vacB, ez, e5]
      · rw [if_neg hi]
        have hi' : ((i : Int) == last) = false := by rw [beq_eq_false_iff_ne]; exact hi
        simp [hi']
theorem may_heads (l : List S34) (P last : Int) (n i : Nat) (x : S34) (b : Bool) (k : Nat) (hi : i ≤ l.length) (hlen : l.length ≤ 4096) (hk : shaleref11_May.l0 k l P last n ((i + 1 : Nat) : Int) = some b) :
    ∀ m j, j + m = i → ∃ k', shaleref11_May.l1 k' l P last n i j x.f0 x.f1 x.f2 x.f3 = some (if (x.f1 != 0) && headIn ((l.take i).drop j) x.f1 then false else b) := by
  intro m
  induction m with
  | zero =>
    intro j hj
    refine ⟨k + 1, ?_⟩
    rw [shaleref11_May.l1, if_neg (by omega)]
    have e : wrap64 ((i : Int) + 1) = ((i + 1 : Nat) : Int) := by unfold wrap64; omega
    rw [e, hk]
    have : (l.take i).drop j = [] := List.drop_eq_nil_of_le (by rw [List.length_take]; omega)
    rw [this]
    simp [headIn]
  | succ m ih =>
    intro j hj
    obtain ⟨k', h'⟩ := ih (j + 1) (by omega)
    refine ⟨k' + 1, ?_⟩
    have e : wrap64 ((j : Int) + 1) = ((j + 1 : Nat) : Int) := by unfold wrap64; omega
    obtain ⟨y, hy⟩ : ∃ y, l[j]? = some y := ⟨_, List.getElem?_eq_getElem (by omega)⟩
    have hd : (l.take i).drop j = y :: (l.take i).drop (j + 1) := by
      rw [List.drop_eq_getElem_cons (by rw [List.length_take]; omega)]
      congr 1
      rw [List.getElem_take]
      have := hy
      rw [List.getElem?_eq_getElem (by omega)] at this
      exact Option.some.inj this
    rw [shaleref11_May.l1, if_pos (by omega), e, h', hd]
    by_cases h1 : x.f1 = 0
    · have e1 : (x.f1 != 0) = false := by rw [h1]; rfl
      rw [if_pos h1, e1]
      rfl
    · have e1 : (x.f1 != 0) = true := by rw [bne_iff_ne]; exact h1
      rw [if_neg h1, if_pos (by omega), if_pos (by omega), rd_eq hy, e1]
      by_cases hq : y.f1 = x.f1
      · have e2 : (y.f1 != 0 && y.f1 == x.f1) = true := by rw [hq, e1]; simp
        rw [if_pos hq]
        unfold headIn
        rw [List.any_cons, e2]
        rfl
      · have e2 : (y.f1 == x.f1) = false := by rw [beq_eq_false_iff_ne]; exact hq
        rw [if_neg hq]
        unfold headIn
        rw [List.any_cons, e2]
        simp
theorem may_ok (l : List S34) (P last : Int) (hP : 4 ≤ P ∧ P ≤ 256) (hlen : l.length ≤ 4096) (hw : ∀ x, x ∈ l → 0 ≤ x.f1) :
    ∀ r i n, i + r = l.length → n ≤ i → ∃ k, shaleref11_May.l0 k l P last (n : Nat) (i : Nat) = some (mayFrom P last (l.take i) n (l.drop i)) := by
  intro r
  induction r with
  | zero =>
    intro i n hi hn
    refine ⟨1, ?_⟩
    rw [shaleref11_May.l0, if_neg (by omega), List.drop_eq_nil_of_le (by omega)]
    unfold mayFrom
    refine congrArg some (decide_eq_decide.2 (by omega))
  | succ r ih =>
    intro i n hi hn
    obtain ⟨x, hx⟩ : ∃ x, l[i]? = some x := ⟨_, List.getElem?_eq_getElem (by omega)⟩
    have hxe : l[i] = x := by have := hx; rw [List.getElem?_eq_getElem (by omega)] at this; exact Option.some.inj this
    have h0 := hw x (List.mem_of_getElem? hx)
    have hkl : (l.take i).length = i := by rw [List.length_take]; omega
    rw [List.drop_eq_getElem_cons (by omega), hxe, mayFrom, hkl]
    cases hb : badPlace P last i x
    · obtain ⟨k, hk⟩ := ih (i + 1) (if x.f0 = 2 then n + 1 else n) (by omega) (by split <;> omega)
      obtain ⟨k', hk'⟩ := may_heads l P last (if x.f0 = 2 then n + 1 else n) i x _ k (by omega) hlen hk i 0 (by omega)
      refine ⟨k' + 3, ?_⟩
      rw [may_step (k' + 1) l P last n i x hx hP h0, hb, shaleref11_May.j1, if_neg Bool.false_ne_true]
      have ew : wrap64 ((n : Int) + 1) = ((n + 1 : Nat) : Int) := by unfold wrap64; omega
      have hj : shaleref11_May.j2 (k' + 1) l P last ((if x.f0 = 2 then n + 1 else n : Nat) : Int) i x.f0 x.f1 x.f2 x.f3 = some (if (x.f1 != 0) && headIn (l.take i) x.f1 then false else mayFrom P last (l.take i ++ [x]) (if x.f0 = 2 then n + 1 else n) (l.drop (i + 1))) := by
        rw [shaleref11_May.j2]
        have := hk'
        rw [List.drop_zero, take_snoc hx] at this
        exact this
      rw [if_neg Bool.false_ne_true]
      by_cases h2 : x.f0 = 2
      · rw [if_pos h2] at hj ⊢
        rw [ew]
        rw [if_pos h2]
        exact hj
      · rw [if_neg h2] at hj ⊢
        rw [if_neg h2]
        exact hj
    · refine ⟨2, ?_⟩
      rw [may_step 0 l P last n i x hx hP h0, hb, shaleref11_May.j1, if_pos rfl, if_pos rfl]
theorem may_is (l : List S34) (P last : Int) (hP : 4 ≤ P ∧ P ≤ 256) (hlen : l.length ≤ 4096) (hw : ∀ x, x ∈ l → 0 ≤ x.f1) :
    ∃ k, shaleref11_May.f k l P last = some (newFrom P last [] (-1) l).isSome := by
  obtain ⟨k, hk⟩ := may_ok l P last hP hlen hw l.length 0 0 (by omega) (by omega)
  refine ⟨k, ?_⟩
  unfold shaleref11_May.f
  rw [new_may P last l [] 0 (-1) (.inl ⟨rfl, rfl⟩)]
  exact hk
end Go.Proofs.Ytmohijpkhmeibaa
