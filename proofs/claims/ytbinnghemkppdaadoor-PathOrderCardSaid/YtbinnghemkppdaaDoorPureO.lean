/- What the printed functions of PathOrder tell. -/
import Derived.Test.YtbinnghemkppdaaDoorPHDPathOrderx2
import Derived.Test.YtbinnghemkppdaaDoorJoined
namespace Go.Proofs.YtbinnghemkppdaaDoor.PHDPathOrder
open Go.RowKit Go.Proofs.YtbinnghemkppdaaDoor Go.Proofs.YtbinnghemkppdaaDoorW.PrintWords Go.Proofs.YtbinnghemkppdaaDoorW.PrintLast
set_option linter.unusedVariables false
set_option linter.unusedSimpArgs false

--BLOCK split
theorem split_eq (x : ByteArray) : path_Split.f x = some (splitR x) := by
  have hh : strings_HasPrefix.f x ⟨#[47]⟩ = some (decide (x.data.toList.head? = some 47)) := by
    unfold strings_HasPrefix.f stringslite_HasPrefix.f
    have h1 : ((⟨#[47]⟩ : ByteArray).size : Int) = 1 := rfl
    rw [h1]
    by_cases h0 : 0 < x.size
    · have hl : 0 < x.data.toList.length := by rw [← Lib.size_eq]; exact h0
      rw [if_pos (by omega), if_pos (by omega), if_pos (by omega)]
      show some _ = _
      congr 1
      rw [Lib.toList_data, Lib.toList_data, ByteArray.data_extract, Array.toList_extract, List.extract_eq_take_drop]
      cases hx : x.data.toList with
      | nil => rw [hx] at hl; simp at hl
      | cons c t => simp; rw [Bool.eq_iff_iff]; simp
    · rw [if_neg (by omega)]
      have : x.data.toList = [] := List.length_eq_zero_iff.1 (by rw [← Lib.size_eq]; omega)
      rw [this]
      rfl
  unfold path_Split.f splitR
  rw [hh]
  by_cases h : x.data.toList.head? = some 47
  · rw [if_pos h, Option.bind_some, if_pos (decide_eq_true h)]
    rfl
  · rw [if_neg h, Option.bind_some, if_neg (by simpa using h)]
--BLOCK clean
theorem clean_l0 (e : Int) : ∀ (L : List ByteArray) k, L.length < k → path_clean.l0 k L e = some (trim L, e)
  | _, 0, hk => absurd hk (by omega)
  | [], k + 1, hk => by rw [path_clean.l0, if_neg (by simp)]; rfl
  | x :: t, k + 1, hk => by
    have hr : rdOf ByteArray.empty (x :: t) 0 = x := rfl
    rw [path_clean.l0, if_pos (by simp), if_pos (by simp), hr]
    by_cases h : x.toList = [46, 46]
    · have e : isUp x = true := by unfold isUp; rw [h]; rfl
      rw [if_pos h, if_pos (by simp; omega), show ((1 : Int).toNat) = 1 from rfl, List.drop_one, List.tail_cons, clean_l0 _ t k (by simp at hk; omega)]
      unfold trim
      rw [List.dropWhile_cons, e, if_pos rfl]
    · have e : isUp x = false := by unfold isUp; simpa using h
      rw [if_neg h]
      unfold trim
      rw [List.dropWhile_cons, e, if_neg Bool.false_ne_true]
theorem clean_ev (x : ByteArray) : Ev (fun k => path_clean.f k x) (trim (splitR x).1, (splitR x).2) := by
  unfold path_clean.f
  rw [split_eq]
  exact Ev.of ((splitR x).1.length + 1) fun k hk => clean_l0 _ _ k (by omega)
--BLOCK within
theorem index_l0 (L : List ByteArray) (hL : L.length ≤ 64) : ∀ n i, i ≤ L.length → L.length - i = n → ∀ k, n < k → ∃ r : Int, slices_Index_string_string.l0 k L ⟨#[46, 46]⟩ (L.length : Int) (i : Int) = some r ∧ decide (r ≥ 0) = (L.drop i).any isUp
  | n, i, hi, hn, 0, hk => absurd hk (by omega)
  | 0, i, hi, hn, k + 1, hk => by
    rw [slices_Index_string_string.l0, if_neg (by omega), List.drop_eq_nil_of_le (by omega)]
    exact ⟨_, rfl, rfl⟩
  | n + 1, i, hi, hn, k + 1, hk => by
    have hl : i < L.length := by omega
    have hz : (⟨#[46, 46]⟩ : ByteArray).toList = [46, 46] := by rw [Lib.toList_data]
    rw [slices_Index_string_string.l0, if_pos (by omega), if_pos (by omega), if_pos (by omega), rd_nat L i hl, w1 i (by omega), List.drop_eq_getElem_cons hl, List.any_cons, hz]
    by_cases h : (L[i]).toList = [46, 46]
    · have e : isUp L[i] = true := by unfold isUp; rw [h]; rfl
      rw [if_pos h.symm, e]
      exact ⟨_, rfl, by simp⟩
    · have e : isUp L[i] = false := by unfold isUp; simpa using h
      rw [if_neg (fun e => h e.symm), e, Bool.false_or]
      exact index_l0 L hL n (i + 1) (by omega) (by omega) k (by omega)
theorem contains_ev (L : List ByteArray) (hL : L.length ≤ 64) : Ev (fun k => slices_Contains_string_string.f k L ⟨#[46, 46]⟩) (L.any isUp) :=
  Ev.of (L.length + 1) fun k hk => by
    obtain ⟨r, h1, h2⟩ := index_l0 L hL L.length 0 (by omega) (by omega) k (by omega)
    have h1' : slices_Index_string_string.f k L ⟨#[46, 46]⟩ = some r := h1
    unfold slices_Contains_string_string.f
    rw [h1', Option.bind_some, h2]
    rfl
theorem equal_l0 (A B : List ByteArray) (hB : B.length ≤ 64) (hAB : A.length = B.length) : ∀ n i, i ≤ B.length → B.length - i = n → ∀ k, n < k → slices_Equal_string_string.l0 k A B (A.length : Int) (i : Int) = some (decide (A.drop i = B.drop i))
  | n, i, hi, hn, 0, hk => absurd hk (by omega)
  | 0, i, hi, hn, k + 1, hk => by
    rw [slices_Equal_string_string.l0, if_neg (by omega), List.drop_eq_nil_of_le (by omega), List.drop_eq_nil_of_le (by omega), decide_eq_true rfl]
  | n + 1, i, hi, hn, k + 1, hk => by
    have hl : i < B.length := by omega
    have hla : i < A.length := by omega
    rw [slices_Equal_string_string.l0, if_pos (by omega), if_pos (by omega), if_pos (by omega), if_pos (by omega), rd_nat A i hla, rd_nat B i hl, w1 i (by omega),
      equal_l0 A B hB hAB n (i + 1) (by omega) (by omega) k (by omega), List.drop_eq_getElem_cons hl, List.drop_eq_getElem_cons hla]
    by_cases h : (A[i]).toList = (B[i]).toList
    · rw [if_pos h, ba_eq.1 h]
      congr 1
      exact decide_eq_decide.2 ⟨fun e => by rw [e], fun e => (List.cons.inj e).2⟩
    · rw [if_neg h, decide_eq_false (fun e => h (by rw [(List.cons.inj e).1]))]
theorem within_ev (a b : ByteArray) : Ev (fun k => path_Within.f k a b) (withinR a b) := by
  have l1 := splitR_len a
  have l2 := splitR_len b
  have t1 := trim_len (splitR a).1
  have t2 := trim_len (splitR b).1
  unfold withinR path_Within.f
  refine Ev.bind (clean_ev a) ?_
  by_cases h1 : (splitR a).2 = 0
  · rw [if_pos h1]
    refine Ev.pos h1 (Ev.bind (clean_ev b) ?_)
    by_cases h2 : (splitR b).2 = 0
    · rw [if_pos h2]
      refine Ev.pos h2 (Ev.bind (contains_ev _ (by show (trim _).length ≤ 64; omega)) ?_)
      show Ev (fun k => if (trim (splitR a).1).any isUp = true then _ else _) _
      cases h3 : (trim (splitR a).1).any isUp
      · refine Ev.neg Bool.false_ne_true (Ev.bind (contains_ev _ (by show (trim _).length ≤ 64; omega)) ?_)
        show Ev (fun k => if (trim (splitR b).1).any isUp = true then _ else _) _
        cases h4 : (trim (splitR b).1).any isUp
        · rw [if_neg (by simp)]
          refine Ev.neg Bool.false_ne_true ?_
          show Ev (fun k => if ((trim (splitR b).1).length : Int) ≤ ((trim (splitR a).1).length : Int) then _ else _) _
          by_cases h5 : (trim (splitR b).1).length ≤ (trim (splitR a).1).length
          · have hlt : ((trim (splitR a).1).take (trim (splitR b).1).length).length = (trim (splitR b).1).length := by rw [List.length_take]; omega
            refine Ev.pos (by omega) (Ev.pos (by omega) (Ev.bind (a := decide (trim (splitR b).1 <+: trim (splitR a).1)) ?_ Ev.ret))
            refine Ev.of ((trim (splitR b).1).length + 1) fun k hk => ?_
            show slices_Equal_string_string.f k ((trim (splitR a).1).take ((trim (splitR b).1).length : Int).toNat) (trim (splitR b).1) = _
            unfold slices_Equal_string_string.f
            rw [Int.toNat_natCast, if_pos (by omega)]
            refine (equal_l0 _ _ (by omega) hlt _ 0 (by omega) rfl k (by omega)).trans ?_
            congr 1
            exact decide_eq_decide.2 ⟨fun e => by
              rw [List.drop_zero, List.drop_zero] at e
              rw [← e]; exact List.take_prefix _ _, fun e => by rw [List.drop_zero, List.drop_zero]; exact (List.prefix_iff_eq_take.1 e).symm⟩
          · exact Ev.neg (by omega) (Ev.ret.eq (by rw [decide_eq_false (fun e => h5 e.length_le)]))
        · rw [if_pos (by simp)]
          exact Ev.pos rfl Ev.ret
      · rw [if_pos (by simp)]
        exact Ev.pos rfl Ev.ret
    · rw [if_neg h2]
      exact Ev.neg h2 Ev.ret
  · rw [if_neg h1]
    exact Ev.neg h1 Ev.ret
--BLOCK Clean
theorem Clean_ev (x : ByteArray) : Ev (fun k => path_Clean.f k x) (cleanR x) := by
  have l1 := splitR_len x
  have t1 := trim_len (splitR x).1
  unfold cleanR path_Clean.f
  refine Ev.bind (clean_ev x) ?_
  by_cases h1 : (splitR x).2 = 0
  · refine Ev.eq ?_ (if_pos h1).symm
    refine Ev.pos h1 ?_
    show Ev (fun k => (strings_Join.f (trim (splitR x).1) ⟨#[47]⟩).bind _) _
    rw [join_f]
    have hl := join_len ((trim (splitR x).1).map (·.data.toList)) (fun y hy => by
      obtain ⟨z, hz, rfl⟩ := List.mem_map.1 hy
      have := (splitR_good x z (trim_mem hz)).2
      rw [Lib.size_eq] at this
      exact this)
    rw [List.length_map] at hl
    have hs : (⟨(Lib.join ((trim (splitR x).1).map (·.data.toList)) [47]).toArray⟩ : ByteArray).size = (Lib.join ((trim (splitR x).1).map (·.data.toList)) [47]).length := by simp [ByteArray.size]
    refine Ev.pos (by rw [hs]; omega) (Ev.ret.eq ?_)
    rw [joinS_eq]
  · exact Ev.eq (Ev.neg h1 Ev.ret) (if_neg h1).symm
--BLOCK order
theorem withinR_ok {a b : ByteArray} (h1 : (splitR a).2 = 0) (h2 : (splitR b).2 = 0) (h3 : (trim (splitR a).1).any isUp = false) (h4 : (trim (splitR b).1).any isUp = false) :
    withinR a b = (decide ((trim (splitR b).1) <+: (trim (splitR a).1)), 0) := by
  unfold withinR
  rw [if_pos h1, if_pos h2, if_neg (by rw [h3, h4]; simp)]
theorem withinR_iff (a b : ByteArray) : (withinR a b).2 = 0 ↔ ((splitR a).2 = 0 ∧ (trim (splitR a).1).any isUp = false) ∧ ((splitR b).2 = 0 ∧ (trim (splitR b).1).any isUp = false) := by
  constructor
  · intro h
    unfold withinR at h
    split at h
    · rename_i h1
      split at h
      · rename_i h2
        split at h
        · simp at h
        · rename_i h3
          simp only [not_or, Bool.not_eq_true] at h3
          exact ⟨⟨h1, h3.1⟩, h2, h3.2⟩
      · rename_i h2
        exact absurd h h2
    · rename_i h1
      exact absurd h h1
  · rintro ⟨⟨h1, h2⟩, h3, h4⟩
    rw [withinR_ok h1 h3 h2 h4]
theorem withinR_no {a b : ByteArray} (h : (withinR a b).2 ≠ 0) : (withinR a b).1 = false := by
  unfold withinR at h ⊢
  split
  · split
    · split
      · rfl
      · rename_i h1 h2 h3
        rw [if_pos h1, if_pos h2, if_neg h3] at h
        exact absurd rfl h
    · rfl
  · rfl
theorem slash_split : splitR ⟨#[47]⟩ = ([], 0) := by rfl
theorem Ev.succ {α : Type} {f g : Nat → Option α} {v : α} (h : ∀ k, f (k + 1) = g k) (hg : Ev g v) : Ev f v := by
  obtain ⟨K, hK⟩ := hg
  refine ⟨K + 1, fun k hk => ?_⟩
  obtain ⟨j, rfl⟩ : ∃ j, k = j + 1 := ⟨k - 1, by omega⟩
  rw [h j]
  exact hK j (by omega)
theorem root_ev (a : ByteArray) : Ev (fun k => (path_Within.f k a ⟨#[47]⟩).bind fun r => (if (withinR a a).2 = 0 then (if r.2 = 0 then (some r.1) else (some false)) else (if r.2 = 0 then (some false) else (if r.1 = true then (some false) else (some true))))) true := by
  refine Ev.bind (within_ev a ⟨#[47]⟩) ?_
  by_cases h : (withinR a a).2 = 0
  · have ha := ((withinR_iff a a).1 h).1
    have e : withinR a ⟨#[47]⟩ = (true, 0) := by
      rw [withinR_ok ha.1 (by rw [slash_split]) ha.2 (by rw [slash_split]; rfl), slash_split]
      rw [decide_eq_true]
      exact List.nil_prefix
    refine Ev.pos h ?_
    rw [e]
    exact Ev.pos rfl Ev.ret
  · have h2 : (withinR a ⟨#[47]⟩).2 ≠ 0 := fun e => h ((withinR_iff a a).2 ⟨((withinR_iff _ _).1 e).1, ((withinR_iff _ _).1 e).1⟩)
    exact Ev.neg h (Ev.neg h2 (Ev.neg (by rw [withinR_no h2]; exact Bool.false_ne_true) Ev.ret))
theorem j0_ev (a : ByteArray) (x7 : Bool) (x8 : Int) (x11 : Bool) (x12 : Int) (x13 : Bool) (x14 : Int) (h : x8 = 0 → x12 = 0 → x14 = 0 ∧ (x7 = true → x11 = true → x13 = true)) :
    Ev (fun k => shalelaw16_PathOrder.j0 k a x7 x8 x11 x12 x13 x14 (withinR a a).2 false) true := by
  refine Ev.succ (fun k => by rw [shalelaw16_PathOrder.j0]) ?_
  refine Ev.neg Bool.false_ne_true ?_
  by_cases h1 : x8 = 0
  · refine Ev.pos h1 ?_
    by_cases h2 : x12 = 0
    · obtain ⟨h3, h4⟩ := h h1 h2
      refine Ev.pos h2 (Ev.pos h3 ?_)
      by_cases h5 : x7 = true
      · refine Ev.pos h5 ?_
        by_cases h6 : x11 = true
        · exact Ev.pos h6 (Ev.pos (h4 h5 h6) (root_ev a))
        · exact Ev.neg h6 (root_ev a)
      · exact Ev.neg h5 (root_ev a)
    · exact Ev.neg h2 (root_ev a)
  · exact Ev.neg h1 (root_ev a)
theorem order_ev (a b c : ByteArray) : Ev (fun k => shalelaw16_PathOrder.f k a b c) true := by
  unfold shalelaw16_PathOrder.f
  refine Ev.bind (within_ev a b) (Ev.bind (within_ev b a) (Ev.bind (within_ev b c) (Ev.bind (within_ev a c) (Ev.bind (within_ev a a) (Ev.bind (Clean_ev a) (Ev.bind (Clean_ev b) ?_))))))
  have hj : (withinR a b).2 = 0 → (withinR b c).2 = 0 → (withinR a c).2 = 0 ∧ ((withinR a b).1 = true → (withinR b c).1 = true → (withinR a c).1 = true) := fun h1 h2 => by
    have ha := ((withinR_iff a b).1 h1).1
    have hb := ((withinR_iff a b).1 h1).2
    have hc := ((withinR_iff b c).1 h2).2
    rw [withinR_ok ha.1 hb.1 ha.2 hb.2, withinR_ok hb.1 hc.1 hb.2 hc.2, withinR_ok ha.1 hc.1 ha.2 hc.2]
    refine ⟨rfl, fun p q => decide_eq_true ?_⟩
    exact (of_decide_eq_true q).trans (of_decide_eq_true p)
  by_cases h1 : (withinR a b).2 = 0
  · have ha := ((withinR_iff a b).1 h1).1
    have hb := ((withinR_iff a b).1 h1).2
    have eb : (withinR b a).2 = 0 := (withinR_iff b a).2 ⟨hb, ha⟩
    have ea : (withinR a a).2 = 0 := (withinR_iff a a).2 ⟨ha, ha⟩
    have ea1 : (withinR a a).1 = true := by
      rw [withinR_ok ha.1 ha.1 ha.2 ha.2]
      exact decide_eq_true (List.prefix_refl _)
    have ca : cleanR a = (joinS (trim (splitR a).1), 0) := if_pos ha.1
    have cb : cleanR b = (joinS (trim (splitR b).1), 0) := if_pos hb.1
    have eab : (withinR a b).1 = decide ((trim (splitR b).1) <+: (trim (splitR a).1)) := by rw [withinR_ok ha.1 hb.1 ha.2 hb.2]
    have eba : (withinR b a).1 = decide ((trim (splitR a).1) <+: (trim (splitR b).1)) := by rw [withinR_ok hb.1 ha.1 hb.2 ha.2]
    have hinj : (cleanR a).1.toList = (cleanR b).1.toList → trim (splitR a).1 = trim (splitR b).1 := fun e => by
      rw [ca, cb] at e
      exact joinS_inj (fun x hx => (splitR_good a x (trim_mem hx)).1) (fun x hx => (splitR_good b x (trim_mem hx)).1) (ba_eq.1 e)
    refine Ev.neg (by rw [h1, eb]; exact Bool.false_ne_true) (Ev.pos h1 (Ev.pos ea1 (Ev.pos ea (Ev.pos (by rw [ca]) (Ev.pos (by rw [cb]) ?_)))))
    by_cases p : (withinR a b).1 = true
    · refine Ev.pos p ?_
      by_cases q : (withinR b a).1 = true
      · have e : trim (splitR a).1 = trim (splitR b).1 := by
          rw [eab] at p
          rw [eba] at q
          have p := of_decide_eq_true p
          have q := of_decide_eq_true q
          exact q.eq_of_length_le p.length_le
        refine Ev.pos q (Ev.pos (by rw [ca, cb, e]) ?_)
        rw [q]
        exact j0_ev a _ _ _ _ _ _ hj
      · refine Ev.neg q (Ev.neg (fun e => q ?_) (j0_ev a _ _ _ _ _ _ hj))
        rw [eba, hinj e]
        exact decide_eq_true (List.prefix_refl _)
    · refine Ev.neg p (Ev.neg (fun e => p ?_) (j0_ev a _ _ _ _ _ _ hj))
      rw [eab, hinj e]
      exact decide_eq_true (List.prefix_refl _)
  · have eb : (withinR b a).2 ≠ 0 := fun e => h1 ((withinR_iff a b).2 ⟨((withinR_iff b a).1 e).2, ((withinR_iff b a).1 e).1⟩)
    refine Ev.neg ?_ (Ev.neg h1 (j0_ev a _ _ _ _ _ _ hj))
    rw [beq_eq_false_iff_ne.2 h1, beq_eq_false_iff_ne.2 eb]
    exact Bool.false_ne_true
theorem law_true : shalelaw16_PathOrder.Pure := by
  intro a b c ha hb hc
  obtain ⟨K, hK⟩ := order_ev a b c
  exact ⟨K, hK K (Nat.le_refl _)⟩
end Go.Proofs.YtbinnghemkppdaaDoor.PHDPathOrder
