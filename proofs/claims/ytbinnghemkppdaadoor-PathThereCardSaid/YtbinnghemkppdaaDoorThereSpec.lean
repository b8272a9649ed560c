/- What a joined path's names are: Split of a Join, of a Clean. -/
import Derived.Test.YtbinnghemkppdaaDoorJP
import Derived.Test.YtbinnghemkppdaaDoorParent
namespace Go.Proofs.YtbinnghemkppdaaDoor
open Go.RowKit Go.Proofs.YtbinnghemkppdaaDoorW.PrintWords
set_option linter.unusedVariables false
set_option linter.unusedSimpArgs false

def sumL (L : List (List UInt8)) : Nat := (L.map fun p => p.length + 1).sum
theorem sumL_cons (p : List UInt8) (L : List (List UInt8)) : sumL (p :: L) = p.length + 1 + sumL L := by simp [sumL]
theorem sumL_append (L M : List (List UInt8)) : sumL (L ++ M) = sumL L + sumL M := by simp [sumL]
theorem cut_sum : ∀ l : List UInt8, sumL (cutAt l) = l.length + 1
  | [] => rfl
  | c :: t => by
    have ih := cut_sum t
    unfold cutAt
    cases hc : c == 47
    · simp only [Bool.false_eq_true, if_false]
      cases h : cutAt t with
      | nil => exact absurd h (cutAt_ne t)
      | cons p ps =>
        rw [h, sumL_cons] at ih
        rw [sumL_cons, List.length_cons, List.length_cons]
        omega
    · simp only [if_true]
      rw [sumL_cons, ih, List.length_cons, List.length_nil]
      omega
theorem filter_sum (f : List UInt8 → Bool) : ∀ L, sumL (L.filter f) ≤ sumL L
  | [] => Nat.le_refl _
  | p :: L => by
    have ih := filter_sum f L
    rw [List.filter_cons]
    split
    · rw [sumL_cons, sumL_cons]; omega
    · rw [sumL_cons]; omega
theorem drop_sum (f : List UInt8 → Bool) (L : List (List UInt8)) : sumL (L.dropWhile f) ≤ sumL L := by
  have := sumL_append (L.takeWhile f) (L.dropWhile f)
  rw [List.takeWhile_append_dropWhile] at this
  omega
theorem join_sum : ∀ L : List (List UInt8), (Lib.join L [47]).length + 1 ≤ sumL L + 1
  | [] => by simp [Lib.join_nil]
  | [x] => by rw [Lib.join_one, sumL_cons]; omega
  | x :: y :: r => by
    have ih := join_sum (y :: r)
    rw [join_two, sumL_cons, List.length_append, List.length_cons]
    omega
/-- A nonempty join is one shorter than its sum. -/
theorem join_sum' : ∀ L : List (List UInt8), L ≠ [] → (Lib.join L [47]).length + 1 = sumL L
  | [], h => absurd rfl h
  | [x], _ => by rw [Lib.join_one, sumL_cons]; simp [sumL]
  | x :: y :: r, _ => by
    have ih := join_sum' (y :: r) (by simp)
    rw [join_two, sumL_cons, List.length_append, List.length_cons]
    omega
theorem join_mem : ∀ L : List (List UInt8), ∀ c ∈ Lib.join L [47], c = 47 ∨ ∃ x ∈ L, c ∈ x
  | [], c, h => by rw [Lib.join_nil] at h; cases h
  | [x], c, h => by rw [Lib.join_one] at h; exact .inr ⟨x, List.mem_cons_self, h⟩
  | x :: y :: r, c, h => by
    rw [join_two, List.mem_append, List.mem_cons] at h
    rcases h with h | h | h
    · exact .inr ⟨x, List.mem_cons_self, h⟩
    · exact .inl h
    · rcases join_mem (y :: r) c h with h | ⟨z, hz, hc⟩
      · exact .inl h
      · exact .inr ⟨z, List.mem_cons_of_mem _ hz, hc⟩
theorem cut_sub : ∀ l : List UInt8, ∀ p ∈ cutAt l, ∀ c ∈ p, c ∈ l
  | [], p, hp, c, hc => by
    simp only [cutAt, List.mem_singleton] at hp
    rw [hp] at hc
    cases hc
  | d :: t, p, hp, c, hc => by
    have ih := cut_sub t
    unfold cutAt at hp
    cases hd : d == 47
    · rw [hd] at hp
      simp only [Bool.false_eq_true, if_false] at hp
      cases hcut : cutAt t with
      | nil => exact absurd hcut (cutAt_ne t)
      | cons q r =>
        rw [hcut] at hp ih
        simp only [List.mem_cons] at hp
        rcases hp with rfl | hp
        · rcases List.mem_cons.1 hc with rfl | hc'
          · exact List.mem_cons_self
          · exact List.mem_cons_of_mem _ (ih q List.mem_cons_self c hc')
        · exact List.mem_cons_of_mem _ (ih p (List.mem_cons_of_mem _ hp) c hc)
    · rw [hd] at hp
      simp only [if_true, List.mem_cons] at hp
      rcases hp with rfl | hp
      · cases hc
      · exact List.mem_cons_of_mem _ (ih p hp c hc)

/-- A name that may stand in a path. -/
def GoodN (x : ByteArray) : Prop := GoodP x.data.toList ∧ x.size ≤ 63 ∧ ∀ c ∈ x.data.toList, c ≠ 0

theorem joinS_size (L : List ByteArray) : (joinS L).size = (Lib.join (L.map (·.data.toList)) [47]).length + 1 := by simp [joinS, ByteArray.size]
theorem split_join (L : List ByteArray) (hg : ∀ x ∈ L, GoodN x) (h64 : L.length ≤ 64) (hs : (joinS L).size ≤ 1023) : splitR (joinS L) = (L, 0) := by
  have hd : (joinS L).data.toList = 47 :: Lib.join (L.map (·.data.toList)) [47] := by simp [joinS]
  have hz : ¬ 0 ≤ Lib.indexByte (joinS L).data.toList 0 := fun h => by
    have h1 := zero_any (joinS L).data.toList
    rw [decide_eq_true h, List.any_eq_true] at h1
    obtain ⟨c, hc, h0⟩ := h1
    rw [beq_iff_eq] at h0
    subst h0
    rw [hd, List.mem_cons] at hc
    rcases hc with hc | hc
    · cases hc
    · rcases join_mem _ _ hc with h2 | ⟨x, hx, hcx⟩
      · cases h2
      · obtain ⟨y, hy, rfl⟩ := List.mem_map.1 hx
        exact (hg y hy).2.2 0 hcx rfl
  have hn : namesL (joinS L) = L := by
    unfold namesL
    have e : partsOf (joinS L).data.toList = partsOf (Lib.join (L.map (·.data.toList)) [47]) := by
      rw [hd]
      unfold partsOf
      rw [cutAt]
      rfl
    rw [e, parts_join _ (fun x hx => by obtain ⟨y, hy, rfl⟩ := List.mem_map.1 hx; exact (hg y hy).1), List.map_map]
    exact (List.map_congr_left (fun x _ => mkB_of x)).trans (List.map_id L)
  unfold splitR
  rw [if_pos (by rw [hd]; rfl)]
  unfold namesR
  rw [if_neg hz, if_neg (by omega), hn, if_neg]
  rintro (h | h)
  · omega
  · obtain ⟨x, hx, hf⟩ := List.any_eq_true.1 h
    have := (hg x hx).2.1
    have := of_decide_eq_true hf
    omega

/-- What Split tells of a path that it takes. -/
theorem split_ok {s : ByteArray} (h : (splitR s).2 = 0) : (∀ x ∈ (splitR s).1, GoodN x) ∧ (splitR s).1.length ≤ 64 ∧ sumL ((splitR s).1.map (·.data.toList)) ≤ 1023 := by
  refine ⟨fun x hx => ?_, splitR_len s, ?_⟩
  · obtain ⟨h1, h2⟩ := splitR_good s x hx
    refine ⟨h1, h2, ?_⟩
    unfold splitR at h hx
    split at h
    · rename_i h47
      rw [if_pos h47] at hx
      unfold namesR at h hx
      split at h
      · cases h
      · rename_i hz
        rw [if_neg hz] at hx
        split at h
        · cases h
        · rename_i hl
          rw [if_neg hl] at hx
          split at h
          · cases h
          · rename_i hb
            rw [if_neg hb] at hx
            obtain ⟨p, hp, rfl⟩ := List.mem_map.1 hx
            rw [mkB_list]
            intro c hc e
            subst e
            refine hz ?_
            have hmem := cut_sub _ p (List.mem_filter.1 hp).1 0 hc
            have h1 := zero_any s.data.toList
            rw [List.any_eq_true.2 ⟨0, hmem, rfl⟩] at h1
            exact of_decide_eq_true h1.symm
    · cases h
  · unfold splitR at h ⊢
    split at h
    · rename_i h47
      rw [if_pos h47]
      unfold namesR at h ⊢
      split at h
      · cases h
      · rename_i hz
        rw [if_neg hz]
        split at h
        · cases h
        · rename_i hl
          rw [if_neg hl]
          split at h
          · cases h
          · rename_i hb
            rw [if_neg hb]
            show sumL ((namesL s).map _) ≤ 1023
            unfold namesL
            rw [List.map_map]
            have e : (partsOf s.data.toList).map ((fun x : ByteArray => x.data.toList) ∘ mkB) = partsOf s.data.toList := (List.map_congr_left (fun x _ => mkB_list x)).trans (List.map_id _)
            rw [e]
            cases hd : s.data.toList with
            | nil => rw [hd] at h47; cases h47
            | cons c t =>
              rw [hd] at h47
              cases h47
              have hs : s.size = t.length + 1 := by rw [Lib.size_eq, hd]; rfl
              have e2 : partsOf (47 :: t) = (cutAt t).filter keepP := by
                unfold partsOf
                rw [cutAt]
                rfl
              rw [e2]
              have := filter_sum keepP (cutAt t)
              rw [cut_sum] at this
              omega
    · cases h
theorem trim_trim (l : List ByteArray) : trim (trim l) = trim l := by
  unfold trim
  induction l with
  | nil => rfl
  | cons x t ih =>
    rw [List.dropWhile_cons]
    split
    · exact ih
    · rename_i h
      rw [List.dropWhile_cons, if_neg h]
theorem clean_split {s : ByteArray} (h : (splitR s).2 = 0) : splitR (joinS (trim (splitR s).1)) = (trim (splitR s).1, 0) := by
  obtain ⟨h1, h2, h3⟩ := split_ok h
  have ht := trim_len (splitR s).1
  refine split_join _ (fun x hx => h1 x (trim_mem hx)) (by omega) ?_
  rw [joinS_size]
  by_cases he : trim (splitR s).1 = []
  · rw [he]
    simp [Lib.join_nil]
  · rw [join_sum' _ (fun e => he (List.map_eq_nil_iff.1 e))]
    refine Nat.le_trans ?_ h3
    obtain ⟨pre, hpre⟩ := List.dropWhile_suffix isUp (l := (splitR s).1)
    have : (splitR s).1 = pre ++ trim (splitR s).1 := hpre.symm
    rw [congrArg (fun l => sumL (l.map (·.data.toList))) this]
    simp only [List.map_append]
    rw [sumL_append]
    omega
theorem split_bad {s : ByteArray} (h : (splitR s).2 ≠ 0) : (splitR s).1 = [] := by
  unfold splitR at h ⊢
  split
  · rename_i h47
    rw [if_pos h47] at h
    unfold namesR at h ⊢
    split
    · rfl
    · rename_i hz
      rw [if_neg hz] at h
      split
      · rfl
      · rename_i hl
        rw [if_neg hl] at h
        split
        · rfl
        · rename_i hb
          rw [if_neg hb] at h
          exact absurd rfl h
  · rfl
end Go.Proofs.YtbinnghemkppdaaDoor
