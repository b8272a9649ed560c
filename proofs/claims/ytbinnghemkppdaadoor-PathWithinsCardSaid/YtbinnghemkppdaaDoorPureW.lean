/- What the printed functions of PathWithins tell. -/
import Derived.Test.YtbinnghemkppdaaDoorPHDPathWithinsx3
import Derived.Test.YtbinnghemkppdaaDoorSpec
namespace Go.Proofs.YtbinnghemkppdaaDoor.PHDPathWithins
open Go.RowKit Go.Proofs.YtbinnghemkppdaaDoor Go.Proofs.YtbinnghemkppdaaDoorW.PrintWords Go.Proofs.YtbinnghemkppdaaDoorW.PrintLast
set_option linter.unusedVariables false
set_option linter.unusedSimpArgs false

--BLOCK zero
theorem zero_l0 (x : ByteArray) (hx : x.size ≤ 140737488351232) : ∀ n i, i ≤ x.size → x.size - i = n → ∀ k, n < k → shaleref16_zero.l0 k x (i : Int) = some ((x.data.toList.drop i).any (· == 0))
  | n, i, hi, hn, 0, hk => absurd hk (by omega)
  | 0, i, hi, hn, k + 1, hk => by
    rw [shaleref16_zero.l0, if_neg (by omega), List.drop_eq_nil_of_le (by rw [← Lib.size_eq]; omega)]
    rfl
  | n + 1, i, hi, hn, k + 1, hk => by
    have hl : i < x.data.toList.length := by rw [← Lib.size_eq]; omega
    rw [shaleref16_zero.l0, if_pos (by omega), if_pos (by omega), bt_nat x i hl, w1 i (by omega), List.drop_eq_getElem_cons hl, List.any_cons,
      zero_l0 x hx n (i + 1) (by omega) (by omega) k (by omega)]
    by_cases h : x.data.toList[i] = 0
    · rw [if_pos (by rw [h]; rfl), h]; rfl
    · have h1 : (x.data.toList[i] == 0) = false := by simpa using h
      rw [if_neg (fun e => h (UInt8.toNat_inj.1 (by have : (0 : UInt8).toNat = 0 := rfl; omega))), h1]; rfl
theorem zero_ev (x : ByteArray) (hx : x.size ≤ 140737488351232) : Ev (fun k => shaleref16_zero.f k x) (decide (0 ≤ Lib.indexByte x.data.toList 0)) :=
  Ev.of (x.size + 1) fun k hk => by
    have := zero_l0 x hx (x.size - 0) 0 (by omega) rfl k (by omega)
    rw [← zero_any]
    exact this
--BLOCK parts
theorem parts_cut (k : Nat) (x : ByteArray) (L : List ByteArray) (w : ByteArray) (i : Int) (hL : L.length < 8796093022208) :
    shaleref16_parts.j1 (k + 1) x L w i false = shaleref16_parts.l0 k x (L ++ if keepP w.data.toList then [w] else []) ⟨#[]⟩ (wrap64 (i + 1)) := by
  rw [shaleref16_parts.j1, if_neg Bool.false_ne_true, Lib.toList_data]
  by_cases h1 : w.data.toList = []
  · have : keepP w.data.toList = false := by rw [h1]; rfl
    rw [if_pos h1, this]; simp
  · rw [if_neg h1]
    by_cases h2 : w.data.toList = [46]
    · have : keepP w.data.toList = false := by rw [h2]; rfl
      rw [if_pos h2, this]; simp
    · have : keepP w.data.toList = true := by unfold keepP; rw [beq_eq_false_iff_ne.2 h1, beq_eq_false_iff_ne.2 h2]; rfl
      rw [if_neg h2, if_pos hL, this]; rfl
theorem parts_l0 (x : ByteArray) (hx : x.size ≤ 1023) : ∀ n i (L : List ByteArray) (w : ByteArray), i ≤ x.size → x.size - i = n → (∀ c ∈ w.data.toList, c ≠ 47) → w.size ≤ i → L.length ≤ i → ∀ k, 2 * n + 2 < k →
    shaleref16_parts.l0 k x L w (i : Int) = some (L ++ ((cutAt (w.data.toList ++ x.data.toList.drop i)).filter keepP).map mkB)
  | n, i, L, w, hi, hn, hw, hwi, hLi, 0, hk => absurd hk (by omega)
  | n, i, L, w, hi, hn, hw, hwi, hLi, 1, hk => absurd hk (by omega)
  | n, i, L, w, hi, hn, hw, hwi, hLi, 2, hk => absurd hk (by omega)
  | 0, i, L, w, hi, hn, hw, hwi, hLi, k + 3, hk => by
    rw [shaleref16_parts.l0, if_pos (by omega), if_neg (by omega), parts_cut _ _ _ _ _ (by omega), w1 i (by omega), shaleref16_parts.l0, if_neg (by omega),
      List.drop_eq_nil_of_le (by rw [← Lib.size_eq]; omega), List.append_nil, cutAt_word _ hw]
    cases hk : keepP w.data.toList <;> simp [List.filter_cons, hk, mkB_of]
  | n + 1, i, L, w, hi, hn, hw, hwi, hLi, k + 3, hk => by
    have hl : i < x.data.toList.length := by rw [← Lib.size_eq]; omega
    rw [shaleref16_parts.l0, if_pos (by omega), if_pos (by omega), if_pos (by omega), bt_nat x i hl, List.drop_eq_getElem_cons hl]
    by_cases h : x.data.toList[i] = 47
    · have e : (((x.data.toList[i]).toNat : Int) != 47) = false := by rw [h]; rfl
      have ih := parts_l0 x hx n (i + 1) (L ++ if keepP w.data.toList then [w] else []) ⟨#[]⟩ (by omega) (by omega) (fun c hc => by simp at hc) (by simp [ByteArray.size])
        (by rw [List.length_append]; split <;> simp <;> omega) (k + 1) (by omega)
      rw [e, parts_cut _ _ _ _ _ (by omega), w1 i (by omega), ih, h, cutAt_slash _ _ hw]
      cases hk : keepP w.data.toList <;> simp [List.filter_cons, hk, mkB_of]
    · have e : (((x.data.toList[i]).toNat : Int) != 47) = true := by
        rw [bne_iff_ne]
        exact fun e => h (UInt8.toNat_inj.1 (by have : (47 : UInt8).toNat = 47 := rfl; omega))
      have hsz : (x.extract i (i + 1)).size = 1 := by rw [ByteArray.size_extract]; omega
      have hd : (x.extract i (i + 1)).data.toList = [x.data.toList[i]] := by
        have hl2 : i < x.data.size := by simpa using hl
        rw [ByteArray.data_extract, Array.toList_extract, List.extract_eq_take_drop, List.drop_eq_getElem_cons hl]
        simp
      have ih := parts_l0 x hx n (i + 1) L (w ++ x.extract i (i + 1)) (by omega) (by omega) (fun c hc => by
          rw [ByteArray.data_append, Array.toList_append, hd, List.mem_append, List.mem_singleton] at hc
          rcases hc with hc | hc
          · exact hw c hc
          · rw [hc]; exact h) (by rw [ByteArray.size_append, hsz]; omega) (by omega) (k + 1) (by omega)
      rw [e, shaleref16_parts.j1, if_pos rfl, if_pos (by omega), w1 i (by omega), if_pos (by omega), if_pos (by omega), Int.toNat_natCast, Int.toNat_natCast, if_pos (by rw [hsz]; omega), ih,
        ByteArray.data_append, Array.toList_append, hd, List.append_assoc]
      rfl
theorem parts_ev (x : ByteArray) (hx : x.size ≤ 1023) : Ev (fun k => shaleref16_parts.f k x) (namesL x) :=
  Ev.of (2 * x.size + 3) fun k hk => by
    have := parts_l0 x hx x.size 0 [] ⟨#[]⟩ (by omega) (by omega) (fun c hc => by simp at hc) (by simp [ByteArray.size]) (by simp) k (by omega)
    rw [shaleref16_parts.f]
    exact this
--BLOCK refnames
theorem refnames_l0 (L : List ByteArray) (hL : L.length ≤ 64) : ∀ n i, i ≤ L.length → L.length - i = n → ∀ k, n < k → shaleref16_names.l0 k L (i : Int) = some (if (L.drop i).any farB = true then ([], 161) else (L, 0))
  | n, i, hi, hn, 0, hk => absurd hk (by omega)
  | 0, i, hi, hn, k + 1, hk => by
    rw [shaleref16_names.l0, if_neg (by omega), List.drop_eq_nil_of_le (by omega)]
    rfl
  | n + 1, i, hi, hn, k + 1, hk => by
    have hl : i < L.length := by omega
    rw [shaleref16_names.l0, if_pos (by omega), if_pos (by omega), rd_nat L i hl, w1 i (by omega), List.drop_eq_getElem_cons hl, List.any_cons,
      refnames_l0 L hL n (i + 1) (by omega) (by omega) k (by omega)]
    by_cases h : 63 < (L[i].size : Int)
    · have e : farB L[i] = true := decide_eq_true h
      rw [if_pos h, e]; rfl
    · have e : farB L[i] = false := decide_eq_false h
      rw [if_neg h, e, Bool.false_or]
theorem refnames_ev (x : ByteArray) (hx : x.size ≤ 140737488351232) : Ev (fun k => shaleref16_names.f k x) (namesR x) := by
  unfold namesR shaleref16_names.f
  refine Ev.bind (zero_ev x hx) ?_
  by_cases h0 : 0 ≤ Lib.indexByte x.data.toList 0
  · rw [if_pos h0]
    exact Ev.pos (decide_eq_true h0) Ev.ret
  · rw [if_neg h0]
    refine Ev.neg (by rw [decide_eq_false h0]; exact Bool.false_ne_true) ?_
    by_cases h1 : 1023 < x.size
    · rw [if_pos h1]
      exact Ev.pos (by omega) Ev.ret
    · rw [if_neg h1]
      refine Ev.neg (by omega) (Ev.bind (parts_ev x (by omega)) ?_)
      by_cases h2 : 64 < (namesL x).length
      · rw [if_pos (Or.inl h2)]
        exact Ev.pos (by omega) Ev.ret
      · refine Ev.neg (by omega) ((Ev.of ((namesL x).length + 1) fun k hk => refnames_l0 _ (by omega) (namesL x).length 0 (by omega) (by omega) k (by omega)).eq ?_)
        rw [List.drop_zero]
        by_cases h3 : (namesL x).any farB = true
        · rw [if_pos h3, if_pos (Or.inr h3)]
        · rw [if_neg h3, if_neg (fun e => e.elim h2 h3)]
theorem head_47 (x : ByteArray) (h : 0 < x.size) : (bt x 0 = 47) ↔ x.data.toList.head? = some 47 := by
  have hl : 0 < x.data.toList.length := by rw [← Lib.size_eq]; exact h
  have := bt_nat x 0 hl
  rw [show ((0 : Nat) : Int) = 0 from rfl] at this
  rw [this, List.head?_eq_getElem?, List.getElem?_eq_getElem hl, Option.some.injEq, ← UInt8.toNat_inj]
  have : (47 : UInt8).toNat = 47 := rfl
  omega
theorem refsplit_ev (x : ByteArray) (hx : x.size ≤ 140737488351232) : Ev (fun k => shaleref16_Split.f k x) (splitR x) := by
  unfold splitR shaleref16_Split.f
  by_cases h0 : x.toList = []
  · refine Ev.pos h0 ?_
    rw [Lib.toList_data] at h0
    rw [h0]
    exact Ev.ret
  · have hp : 0 < x.size := by
      rw [Lib.size_eq]
      exact List.length_pos_iff.2 (by rw [Lib.toList_data] at h0; exact h0)
    refine Ev.neg h0 (Ev.pos (by omega) ?_)
    by_cases h1 : x.data.toList.head? = some 47
    · rw [if_pos h1]
      exact Ev.pos ((head_47 x hp).2 h1) (Ev.bind (refnames_ev x hx) Ev.ret)
    · rw [if_neg h1]
      exact Ev.neg (fun e => h1 ((head_47 x hp).1 e)) Ev.ret
--BLOCK trimmed
theorem trimmed_l0 : ∀ (L : List ByteArray) k, L.length < k → shaleref16_trimmed.l0 k L = some (trim L)
  | _, 0, hk => absurd hk (by omega)
  | [], k + 1, hk => by rw [shaleref16_trimmed.l0, if_neg (by simp)]; rfl
  | x :: t, k + 1, hk => by
    have hr : rdOf ByteArray.empty (x :: t) 0 = x := rfl
    rw [shaleref16_trimmed.l0, if_pos (by simp), if_pos (by simp), hr]
    by_cases h : x.toList = [46, 46]
    · have e : isUp x = true := by unfold isUp; rw [h]; rfl
      rw [if_pos h, if_pos (by simp; omega), List.drop_one, List.tail_cons, trimmed_l0 t k (by simp at hk; omega)]
      unfold trim
      rw [List.dropWhile_cons, e, if_pos rfl]
    · have e : isUp x = false := by unfold isUp; simpa using h
      rw [if_neg h]
      unfold trim
      rw [List.dropWhile_cons, e, if_neg Bool.false_ne_true]
theorem trimmed_ev (L : List ByteArray) : Ev (fun k => shaleref16_trimmed.f k L) (trim L) := Ev.of (L.length + 1) fun k hk => trimmed_l0 L k (by omega)
--BLOCK up
theorem up_l0 (L : List ByteArray) (hL : L.length ≤ 64) : ∀ n i, i ≤ L.length → L.length - i = n → ∀ k, n < k → shaleref16_up.l0 k L (i : Int) = some ((L.drop i).any isUp)
  | n, i, hi, hn, 0, hk => absurd hk (by omega)
  | 0, i, hi, hn, k + 1, hk => by
    rw [shaleref16_up.l0, if_neg (by omega), List.drop_eq_nil_of_le (by omega)]
    rfl
  | n + 1, i, hi, hn, k + 1, hk => by
    have hl : i < L.length := by omega
    rw [shaleref16_up.l0, if_pos (by omega), if_pos (by omega), rd_nat L i hl, w1 i (by omega), List.drop_eq_getElem_cons hl, List.any_cons,
      up_l0 L hL n (i + 1) (by omega) (by omega) k (by omega)]
    by_cases h : (L[i]).toList = [46, 46]
    · have e : isUp L[i] = true := by unfold isUp; rw [h]; rfl
      rw [if_pos h, e]; rfl
    · have e : isUp L[i] = false := by unfold isUp; simpa using h
      rw [if_neg h, e, Bool.false_or]
theorem up_ev (L : List ByteArray) (hL : L.length ≤ 64) : Ev (fun k => shaleref16_up.f k L) (L.any isUp) := Ev.of (L.length + 1) fun k hk => up_l0 L hL L.length 0 (by omega) (by omega) k (by omega)
--BLOCK refwithin
theorem refwithin_l0 (A B : List ByteArray) (hB : B.length ≤ 64) (hAB : B.length ≤ A.length) : ∀ n i, i ≤ B.length → B.length - i = n → ∀ k, n < k → shaleref16_Within.l0 k A B (i : Int) = some (decide (B.drop i <+: A.drop i), 0)
  | n, i, hi, hn, 0, hk => absurd hk (by omega)
  | 0, i, hi, hn, k + 1, hk => by
    rw [shaleref16_Within.l0, if_neg (by omega), List.drop_eq_nil_of_le (by omega), decide_eq_true (List.nil_prefix)]
  | n + 1, i, hi, hn, k + 1, hk => by
    have hl : i < B.length := by omega
    have hla : i < A.length := by omega
    rw [shaleref16_Within.l0, if_pos (by omega), if_pos (by omega), if_pos (by omega), rd_nat A i hla, rd_nat B i hl, w1 i (by omega),
      refwithin_l0 A B hB hAB n (i + 1) (by omega) (by omega) k (by omega), List.drop_eq_getElem_cons hl, List.drop_eq_getElem_cons hla]
    by_cases h : (A[i]).toList = (B[i]).toList
    · rw [if_pos h, ba_eq.1 h]
      congr 2
      exact decide_eq_decide.2 (by rw [List.cons_prefix_cons]; simp)
    · rw [if_neg h, decide_eq_false (fun e => h (by rw [List.cons_prefix_cons] at e; rw [e.1]))]
theorem refwithin_ev (a b : ByteArray) (ha : a.size ≤ 140737488351232) (hb : b.size ≤ 140737488351232) : Ev (fun k => shaleref16_Within.f k a b) (withinR a b) := by
  have l1 := splitR_len a
  have l2 := splitR_len b
  have t1 := trim_len (splitR a).1
  have t2 := trim_len (splitR b).1
  unfold withinR shaleref16_Within.f
  refine Ev.bind (refsplit_ev a ha) ?_
  by_cases h1 : (splitR a).2 = 0
  · rw [if_pos h1]
    refine Ev.pos h1 (Ev.bind (refsplit_ev b hb) ?_)
    by_cases h2 : (splitR b).2 = 0
    · rw [if_pos h2]
      refine Ev.pos h2 (Ev.bind (trimmed_ev _) (Ev.bind (trimmed_ev _) (Ev.bind (up_ev _ (by omega)) ?_)))
      cases h3 : (trim (splitR a).1).any isUp
      · refine Ev.neg Bool.false_ne_true (Ev.bind (up_ev _ (by omega)) ?_)
        cases h4 : (trim (splitR b).1).any isUp
        · rw [if_neg (by simp)]
          by_cases h5 : (trim (splitR b).1).length ≤ (trim (splitR a).1).length
          · refine Ev.of ((trim (splitR b).1).length + 2) fun k hk => ?_
            obtain ⟨k, rfl⟩ : ∃ j, k = j + 1 := ⟨k - 1, by omega⟩
            rw [shaleref16_Within.j0, if_neg Bool.false_ne_true, if_neg (by omega)]
            exact refwithin_l0 _ _ (by omega) h5 _ 0 (by omega) rfl k (by omega)
          · refine Ev.of 1 fun k hk => ?_
            obtain ⟨k, rfl⟩ : ∃ j, k = j + 1 := ⟨k - 1, by omega⟩
            rw [shaleref16_Within.j0, if_neg Bool.false_ne_true, if_pos (by omega), decide_eq_false (fun e => h5 e.length_le)]
        · rw [if_pos (by simp)]
          refine Ev.of 1 fun k hk => ?_
          obtain ⟨k, rfl⟩ : ∃ j, k = j + 1 := ⟨k - 1, by omega⟩
          rw [shaleref16_Within.j0, if_pos rfl]
      · rw [if_pos (by simp)]
        refine Ev.pos rfl (Ev.of 1 fun k hk => ?_)
        obtain ⟨k, rfl⟩ : ∃ j, k = j + 1 := ⟨k - 1, by omega⟩
        rw [shaleref16_Within.j0, if_pos rfl]
    · rw [if_neg h2]
      exact Ev.neg h2 Ev.ret
  · rw [if_neg h1]
    exact Ev.neg h1 Ev.ret
--BLOCK split
theorem split_eq (x : ByteArray) : path_Split.f x = some (splitR x) := by
  have hh : strings_HasPrefix.f x ⟨#[47]⟩ = some (decide (x.data.toList.head? = some 47)) := by
    unfold strings_HasPrefix.f stringslite_HasPrefix.f
    have h1 : ((⟨#[47]⟩ : ByteArray).size : Int) = 1 := rfl
    rw [h1]
    by_cases h0 : 0 < x.size
    · have hl : 0 < x.data.toList.length := by rw [← Lib.size_eq]; exact h0
      rw [if_pos (by omega), if_pos (by omega), if_pos (by omega)]
      show some _ = _
      congr 1
      rw [Lib.toList_data, Lib.toList_data, ByteArray.data_extract, Array.toList_extract, List.extract_eq_take_drop]
      cases hx : x.data.toList with
      | nil => rw [hx] at hl; simp at hl
      | cons c t => simp; rw [Bool.eq_iff_iff]; simp
    · rw [if_neg (by omega)]
      have : x.data.toList = [] := List.length_eq_zero_iff.1 (by rw [← Lib.size_eq]; omega)
      rw [this]
      rfl
  unfold path_Split.f splitR
  rw [hh]
  by_cases h : x.data.toList.head? = some 47
  · rw [if_pos h, Option.bind_some, if_pos (decide_eq_true h)]
    rfl
  · rw [if_neg h, Option.bind_some, if_neg (by simpa using h)]
--BLOCK clean
theorem clean_l0 (e : Int) : ∀ (L : List ByteArray) k, L.length < k → path_clean.l0 k L e = some (trim L, e)
  | _, 0, hk => absurd hk (by omega)
  | [], k + 1, hk => by rw [path_clean.l0, if_neg (by simp)]; rfl
  | x :: t, k + 1, hk => by
    have hr : rdOf ByteArray.empty (x :: t) 0 = x := rfl
    rw [path_clean.l0, if_pos (by simp), if_pos (by simp), hr]
    by_cases h : x.toList = [46, 46]
    · have e : isUp x = true := by unfold isUp; rw [h]; rfl
      rw [if_pos h, if_pos (by simp; omega), show ((1 : Int).toNat) = 1 from rfl, List.drop_one, List.tail_cons, clean_l0 _ t k (by simp at hk; omega)]
      unfold trim
      rw [List.dropWhile_cons, e, if_pos rfl]
    · have e : isUp x = false := by unfold isUp; simpa using h
      rw [if_neg h]
      unfold trim
      rw [List.dropWhile_cons, e, if_neg Bool.false_ne_true]
theorem clean_ev (x : ByteArray) : Ev (fun k => path_clean.f k x) (trim (splitR x).1, (splitR x).2) := by
  unfold path_clean.f
  rw [split_eq]
  exact Ev.of ((splitR x).1.length + 1) fun k hk => clean_l0 _ _ k (by omega)
--BLOCK within
theorem index_l0 (L : List ByteArray) (hL : L.length ≤ 64) : ∀ n i, i ≤ L.length → L.length - i = n → ∀ k, n < k → ∃ r : Int, slices_Index_string_string.l0 k L ⟨#[46, 46]⟩ (L.length : Int) (i : Int) = some r ∧ decide (r ≥ 0) = (L.drop i).any isUp
  | n, i, hi, hn, 0, hk => absurd hk (by omega)
  | 0, i, hi, hn, k + 1, hk => by
    rw [slices_Index_string_string.l0, if_neg (by omega), List.drop_eq_nil_of_le (by omega)]
    exact ⟨_, rfl, rfl⟩
  | n + 1, i, hi, hn, k + 1, hk => by
    have hl : i < L.length := by omega
    have hz : (⟨#[46, 46]⟩ : ByteArray).toList = [46, 46] := by rw [Lib.toList_data]
    rw [slices_Index_string_string.l0, if_pos (by omega), if_pos (by omega), if_pos (by omega), rd_nat L i hl, w1 i (by omega), List.drop_eq_getElem_cons hl, List.any_cons, hz]
    by_cases h : (L[i]).toList = [46, 46]
    · have e : isUp L[i] = true := by unfold isUp; rw [h]; rfl
      rw [if_pos h.symm, e]
      exact ⟨_, rfl, by simp⟩
    · have e : isUp L[i] = false := by unfold isUp; simpa using h
      rw [if_neg (fun e => h e.symm), e, Bool.false_or]
      exact index_l0 L hL n (i + 1) (by omega) (by omega) k (by omega)
theorem contains_ev (L : List ByteArray) (hL : L.length ≤ 64) : Ev (fun k => slices_Contains_string_string.f k L ⟨#[46, 46]⟩) (L.any isUp) :=
  Ev.of (L.length + 1) fun k hk => by
    obtain ⟨r, h1, h2⟩ := index_l0 L hL L.length 0 (by omega) (by omega) k (by omega)
    have h1' : slices_Index_string_string.f k L ⟨#[46, 46]⟩ = some r := h1
    unfold slices_Contains_string_string.f
    rw [h1', Option.bind_some, h2]
    rfl
theorem equal_l0 (A B : List ByteArray) (hB : B.length ≤ 64) (hAB : A.length = B.length) : ∀ n i, i ≤ B.length → B.length - i = n → ∀ k, n < k → slices_Equal_string_string.l0 k A B (A.length : Int) (i : Int) = some (decide (A.drop i = B.drop i))
  | n, i, hi, hn, 0, hk => absurd hk (by omega)
  | 0, i, hi, hn, k + 1, hk => by
    rw [slices_Equal_string_string.l0, if_neg (by omega), List.drop_eq_nil_of_le (by omega), List.drop_eq_nil_of_le (by omega), decide_eq_true rfl]
  | n + 1, i, hi, hn, k + 1, hk => by
    have hl : i < B.length := by omega
    have hla : i < A.length := by omega
    rw [slices_Equal_string_string.l0, if_pos (by omega), if_pos (by omega), if_pos (by omega), if_pos (by omega), rd_nat A i hla, rd_nat B i hl, w1 i (by omega),
      equal_l0 A B hB hAB n (i + 1) (by omega) (by omega) k (by omega), List.drop_eq_getElem_cons hl, List.drop_eq_getElem_cons hla]
    by_cases h : (A[i]).toList = (B[i]).toList
    · rw [if_pos h, ba_eq.1 h]
      congr 1
      exact decide_eq_decide.2 ⟨fun e => by rw [e], fun e => (List.cons.inj e).2⟩
    · rw [if_neg h, decide_eq_false (fun e => h (by rw [(List.cons.inj e).1]))]
theorem within_ev (a b : ByteArray) : Ev (fun k => path_Within.f k a b) (withinR a b) := by
  have l1 := splitR_len a
  have l2 := splitR_len b
  have t1 := trim_len (splitR a).1
  have t2 := trim_len (splitR b).1
  unfold withinR path_Within.f
  refine Ev.bind (clean_ev a) ?_
  by_cases h1 : (splitR a).2 = 0
  · rw [if_pos h1]
    refine Ev.pos h1 (Ev.bind (clean_ev b) ?_)
    by_cases h2 : (splitR b).2 = 0
    · rw [if_pos h2]
      refine Ev.pos h2 (Ev.bind (contains_ev _ (by show (trim _).length ≤ 64; omega)) ?_)
      show Ev (fun k => if (trim (splitR a).1).any isUp = true then _ else _) _
      cases h3 : (trim (splitR a).1).any isUp
      · refine Ev.neg Bool.false_ne_true (Ev.bind (contains_ev _ (by show (trim _).length ≤ 64; omega)) ?_)
        show Ev (fun k => if (trim (splitR b).1).any isUp = true then _ else _) _
        cases h4 : (trim (splitR b).1).any isUp
        · rw [if_neg (by simp)]
          refine Ev.neg Bool.false_ne_true ?_
          show Ev (fun k => if ((trim (splitR b).1).length : Int) ≤ ((trim (splitR a).1).length : Int) then _ else _) _
          by_cases h5 : (trim (splitR b).1).length ≤ (trim (splitR a).1).length
          · have hlt : ((trim (splitR a).1).take (trim (splitR b).1).length).length = (trim (splitR b).1).length := by rw [List.length_take]; omega
            refine Ev.pos (by omega) (Ev.pos (by omega) (Ev.bind (a := decide (trim (splitR b).1 <+: trim (splitR a).1)) ?_ Ev.ret))
            refine Ev.of ((trim (splitR b).1).length + 1) fun k hk => ?_
            show slices_Equal_string_string.f k ((trim (splitR a).1).take ((trim (splitR b).1).length : Int).toNat) (trim (splitR b).1) = _
            unfold slices_Equal_string_string.f
            rw [Int.toNat_natCast, if_pos (by omega)]
            refine (equal_l0 _ _ (by omega) hlt _ 0 (by omega) rfl k (by omega)).trans ?_
            congr 1
            exact decide_eq_decide.2 ⟨fun e => by
              rw [List.drop_zero, List.drop_zero] at e
              rw [← e]; exact List.take_prefix _ _, fun e => by rw [List.drop_zero, List.drop_zero]; exact (List.prefix_iff_eq_take.1 e).symm⟩
          · exact Ev.neg (by omega) (Ev.ret.eq (by rw [decide_eq_false (fun e => h5 e.length_le)]))
        · rw [if_pos (by simp)]
          exact Ev.pos rfl Ev.ret
      · rw [if_pos (by simp)]
        exact Ev.pos rfl Ev.ret
    · rw [if_neg h2]
      exact Ev.neg h2 Ev.ret
  · rw [if_neg h1]
    exact Ev.neg h1 Ev.ret
--BLOCK end
theorem law_true : shalelaw16_PathWithins.Pure := by
  intro a b ha hb
  have h : Ev (fun k => shalelaw16_PathWithins.f k a b) true := by
    unfold shalelaw16_PathWithins.f
    refine Ev.bind (refwithin_ev a b ha hb) (Ev.bind (within_ev a b) ?_)
    exact Ev.pos (by simp) (Ev.ret.eq (by simp))
  obtain ⟨K, hK⟩ := h
  exact ⟨K, hK K (Nat.le_refl _)⟩
end Go.Proofs.YtbinnghemkppdaaDoor.PHDPathWithins
