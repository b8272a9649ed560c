/- What the printed functions of HDPathWalks tell of names and Split. -/
import Derived.Test.YtbinnghemkppdaaDoorPHDPathWalksx3
import Derived.Test.YtbinnghemkppdaaDoorJoined
namespace Go.Proofs.YtbinnghemkppdaaDoor.PHDPathWalks
open Go.RowKit Go.Proofs.YtbinnghemkppdaaDoor Go.Proofs.YtbinnghemkppdaaDoorW.PrintWords Go.Proofs.YtbinnghemkppdaaDoorW.PrintLast
set_option linter.unusedVariables false
set_option linter.unusedSimpArgs false

theorem zero_l0 (x : ByteArray) (hx : x.size ≤ 140737488351300) : ∀ n i, i ≤ x.size → x.size - i = n → ∀ k, n < k → shaleref16_zero.l0 k x (i : Int) = some ((x.data.toList.drop i).any (· == 0))
  | n, i, hi, hn, 0, hk => absurd hk (by omega)
  | 0, i, hi, hn, k + 1, hk => by
    rw [shaleref16_zero.l0, if_neg (by omega), List.drop_eq_nil_of_le (by rw [← Lib.size_eq]; omega)]
    rfl
  | n + 1, i, hi, hn, k + 1, hk => by
    have hl : i < x.data.toList.length := by rw [← Lib.size_eq]; omega
    rw [shaleref16_zero.l0, if_pos (by omega), if_pos (by omega), bt_nat x i hl, w1 i (by omega), List.drop_eq_getElem_cons hl, List.any_cons,
      zero_l0 x hx n (i + 1) (by omega) (by omega) k (by omega)]
    by_cases h : x.data.toList[i] = 0
    · rw [if_pos (by rw [h]; rfl), h]; rfl
    · have h1 : (x.data.toList[i] == 0) = false := by simpa using h
      rw [if_neg (fun e => h (UInt8.toNat_inj.1 (by have : (0 : UInt8).toNat = 0 := rfl; omega))), h1]; rfl
theorem zero_ev (x : ByteArray) (hx : x.size ≤ 140737488351300) : Ev (fun k => shaleref16_zero.f k x) (decide (0 ≤ Lib.indexByte x.data.toList 0)) :=
  Ev.of (x.size + 1) fun k hk => by
    have := zero_l0 x hx (x.size - 0) 0 (by omega) rfl k (by omega)
    rw [← zero_any]
    exact this
theorem parts_cut (k : Nat) (x : ByteArray) (L : List ByteArray) (w : ByteArray) (i : Int) (hL : L.length < 8796093022208) :
    shaleref16_parts.j1 (k + 1) x L w i false = shaleref16_parts.l0 k x (L ++ if keepP w.data.toList then [w] else []) ⟨#[]⟩ (wrap64 (i + 1)) := by
  rw [shaleref16_parts.j1, if_neg Bool.false_ne_true, Lib.toList_data]
  by_cases h1 : w.data.toList = []
  · have : keepP w.data.toList = false := by rw [h1]; rfl
    rw [if_pos h1, this]; simp
  · rw [if_neg h1]
    by_cases h2 : w.data.toList = [46]
    · have : keepP w.data.toList = false := by rw [h2]; rfl
      rw [if_pos h2, this]; simp
    · have : keepP w.data.toList = true := by unfold keepP; rw [beq_eq_false_iff_ne.2 h1, beq_eq_false_iff_ne.2 h2]; rfl
      rw [if_neg h2, if_pos hL, this]; rfl
theorem parts_l0 (x : ByteArray) (hx : x.size ≤ 1023) : ∀ n i (L : List ByteArray) (w : ByteArray), i ≤ x.size → x.size - i = n → (∀ c ∈ w.data.toList, c ≠ 47) → w.size ≤ i → L.length ≤ i → ∀ k, 2 * n + 2 < k →
    shaleref16_parts.l0 k x L w (i : Int) = some (L ++ ((cutAt (w.data.toList ++ x.data.toList.drop i)).filter keepP).map mkB)
  | n, i, L, w, hi, hn, hw, hwi, hLi, 0, hk => absurd hk (by omega)
  | n, i, L, w, hi, hn, hw, hwi, hLi, 1, hk => absurd hk (by omega)
  | n, i, L, w, hi, hn, hw, hwi, hLi, 2, hk => absurd hk (by omega)
  | 0, i, L, w, hi, hn, hw, hwi, hLi, k + 3, hk => by
    rw [shaleref16_parts.l0, if_pos (by omega), if_neg (by omega), parts_cut _ _ _ _ _ (by omega), w1 i (by omega), shaleref16_parts.l0, if_neg (by omega),
      List.drop_eq_nil_of_le (by rw [← Lib.size_eq]; omega), List.append_nil, cutAt_word _ hw]
    cases hk : keepP w.data.toList <;> simp [List.filter_cons, hk, mkB_of]
  | n + 1, i, L, w, hi, hn, hw, hwi, hLi, k + 3, hk => by
    have hl : i < x.data.toList.length := by rw [← Lib.size_eq]; omega
    rw [shaleref16_parts.l0, if_pos (by omega), if_pos (by omega), if_pos (by omega), bt_nat x i hl, List.drop_eq_getElem_cons hl]
    by_cases h : x.data.toList[i] = 47
    · have e : (((x.data.toList[i]).toNat : Int) != 47) = false := by rw [h]; rfl
      have ih := parts_l0 x hx n (i + 1) (L ++ if keepP w.data.toList then [w] else []) ⟨#[]⟩ (by omega) (by omega) (fun c hc => by simp at hc) (by simp [ByteArray.size])
        (by rw [List.length_append]; split <;> simp <;> omega) (k + 1) (by omega)
      rw [e, parts_cut _ _ _ _ _ (by omega), w1 i (by omega), ih, h, cutAt_slash _ _ hw]
      cases hk : keepP w.data.toList <;> simp [List.filter_cons, hk, mkB_of]
    · have e : (((x.data.toList[i]).toNat : Int) != 47) = true := by
        rw [bne_iff_ne]
        exact fun e => h (UInt8.toNat_inj.1 (by have : (47 : UInt8).toNat = 47 := rfl; omega))
      have hsz : (x.extract i (i + 1)).size = 1 := by rw [ByteArray.size_extract]; omega
      have hd : (x.extract i (i + 1)).data.toList = [x.data.toList[i]] := by
        have hl2 : i < x.data.size := by simpa using hl
        rw [ByteArray.data_extract, Array.toList_extract, List.extract_eq_take_drop, List.drop_eq_getElem_cons hl]
        simp
      have ih := parts_l0 x hx n (i + 1) L (w ++ x.extract i (i + 1)) (by omega) (by omega) (fun c hc => by
          rw [ByteArray.data_append, Array.toList_append, hd, List.mem_append, List.mem_singleton] at hc
          rcases hc with hc | hc
          · exact hw c hc
          · rw [hc]; exact h) (by rw [ByteArray.size_append, hsz]; omega) (by omega) (k + 1) (by omega)
      rw [e, shaleref16_parts.j1, if_pos rfl, if_pos (by omega), w1 i (by omega), if_pos (by omega), if_pos (by omega), Int.toNat_natCast, Int.toNat_natCast, if_pos (by rw [hsz]; omega), ih,
        ByteArray.data_append, Array.toList_append, hd, List.append_assoc]
      rfl
theorem parts_ev (x : ByteArray) (hx : x.size ≤ 1023) : Ev (fun k => shaleref16_parts.f k x) (namesL x) :=
  Ev.of (2 * x.size + 3) fun k hk => by
    have := parts_l0 x hx x.size 0 [] ⟨#[]⟩ (by omega) (by omega) (fun c hc => by simp at hc) (by simp [ByteArray.size]) (by simp) k (by omega)
    rw [shaleref16_parts.f]
    exact this
theorem refnames_l0 (L : List ByteArray) (hL : L.length ≤ 64) : ∀ n i, i ≤ L.length → L.length - i = n → ∀ k, n < k → shaleref16_names.l0 k L (i : Int) = some (if (L.drop i).any farB = true then ([], 161) else (L, 0))
  | n, i, hi, hn, 0, hk => absurd hk (by omega)
  | 0, i, hi, hn, k + 1, hk => by
    rw [shaleref16_names.l0, if_neg (by omega), List.drop_eq_nil_of_le (by omega)]
    rfl
  | n + 1, i, hi, hn, k + 1, hk => by
    have hl : i < L.length := by omega
    rw [shaleref16_names.l0, if_pos (by omega), if_pos (by omega), rd_nat L i hl, w1 i (by omega), List.drop_eq_getElem_cons hl, List.any_cons,
      refnames_l0 L hL n (i + 1) (by omega) (by omega) k (by omega)]
    by_cases h : 63 < (L[i].size : Int)
    · have e : farB L[i] = true := decide_eq_true h
      rw [if_pos h, e]; rfl
    · have e : farB L[i] = false := decide_eq_false h
      rw [if_neg h, e, Bool.false_or]
theorem refnames_ev (x : ByteArray) (hx : x.size ≤ 140737488351300) : Ev (fun k => shaleref16_names.f k x) (namesR x) := by
  unfold namesR shaleref16_names.f
  refine Ev.bind (zero_ev x hx) ?_
  by_cases h0 : 0 ≤ Lib.indexByte x.data.toList 0
  · rw [if_pos h0]
    exact Ev.pos (decide_eq_true h0) Ev.ret
  · rw [if_neg h0]
    refine Ev.neg (by rw [decide_eq_false h0]; exact Bool.false_ne_true) ?_
    by_cases h1 : 1023 < x.size
    · rw [if_pos h1]
      exact Ev.pos (by omega) Ev.ret
    · rw [if_neg h1]
      refine Ev.neg (by omega) (Ev.bind (parts_ev x (by omega)) ?_)
      by_cases h2 : 64 < (namesL x).length
      · rw [if_pos (Or.inl h2)]
        exact Ev.pos (by omega) Ev.ret
      · refine Ev.neg (by omega) ((Ev.of ((namesL x).length + 1) fun k hk => refnames_l0 _ (by omega) (namesL x).length 0 (by omega) (by omega) k (by omega)).eq ?_)
        rw [List.drop_zero]
        by_cases h3 : (namesL x).any farB = true
        · rw [if_pos h3, if_pos (Or.inr h3)]
        · rw [if_neg h3, if_neg (fun e => e.elim h2 h3)]
theorem head_47 (x : ByteArray) (h : 0 < x.size) : (bt x 0 = 47) ↔ x.data.toList.head? = some 47 := by
  have hl : 0 < x.data.toList.length := by rw [← Lib.size_eq]; exact h
  have := bt_nat x 0 hl
  rw [show ((0 : Nat) : Int) = 0 from rfl] at this
  rw [this, List.head?_eq_getElem?, List.getElem?_eq_getElem hl, Option.some.injEq, ← UInt8.toNat_inj]
  have : (47 : UInt8).toNat = 47 := rfl
  omega
theorem refsplit_ev (x : ByteArray) (hx : x.size ≤ 140737488351300) : Ev (fun k => shaleref16_Split.f k x) (splitR x) := by
  unfold splitR shaleref16_Split.f
  by_cases h0 : x.toList = []
  · refine Ev.pos h0 ?_
    rw [Lib.toList_data] at h0
    rw [h0]
    exact Ev.ret
  · have hp : 0 < x.size := by
      rw [Lib.size_eq]
      exact List.length_pos_iff.2 (by rw [Lib.toList_data] at h0; exact h0)
    refine Ev.neg h0 (Ev.pos (by omega) ?_)
    by_cases h1 : x.data.toList.head? = some 47
    · rw [if_pos h1]
      exact Ev.pos ((head_47 x hp).2 h1) (Ev.bind (refnames_ev x hx) Ev.ret)
    · rw [if_neg h1]
      exact Ev.neg (fun e => h1 ((head_47 x hp).1 e)) Ev.ret
theorem split_eq (x : ByteArray) : path_Split.f x = some (splitR x) := by
  have hh : strings_HasPrefix.f x ⟨#[47]⟩ = some (decide (x.data.toList.head? = some 47)) := by
    unfold strings_HasPrefix.f stringslite_HasPrefix.f
    have h1 : ((⟨#[47]⟩ : ByteArray).size : Int) = 1 := rfl
    rw [h1]
    by_cases h0 : 0 < x.size
    · have hl : 0 < x.data.toList.length := by rw [← Lib.size_eq]; exact h0
      rw [if_pos (by omega), if_pos (by omega), if_pos (by omega)]
      show some _ = _
      congr 1
      rw [Lib.toList_data, Lib.toList_data, ByteArray.data_extract, Array.toList_extract, List.extract_eq_take_drop]
      cases hx : x.data.toList with
      | nil => rw [hx] at hl; simp at hl
      | cons c t => simp; rw [Bool.eq_iff_iff]; simp
    · rw [if_neg (by omega)]
      have : x.data.toList = [] := List.length_eq_zero_iff.1 (by rw [← Lib.size_eq]; omega)
      rw [this]
      rfl
  unfold path_Split.f splitR
  rw [hh]
  by_cases h : x.data.toList.head? = some 47
  · rw [if_pos h, Option.bind_some, if_pos (decide_eq_true h)]
    rfl
  · rw [if_neg h, Option.bind_some, if_neg (by simpa using h)]

end Go.Proofs.YtbinnghemkppdaaDoor.PHDPathWalks
