/- NodeBack, in plain Lean: whatever the bytes, the place and the change, the law answers true. -/
import Derived.Test.YtljamhpdgmelcaaDoorPHDNodeBackx2
namespace Go.Proofs.YtljamhpdgmelcaaDoor.Pure
open Go.RowKit Go.Proofs.YtljamhpdgmelcaaDoor Go.Proofs.YtljamhpdgmelcaaDoor.PHDNodeBack Go.Proofs.YtljamhpdgmelcaaDoorW.PrintWords Go.Proofs.YtljamhpdgmelcaaDoorW.PrintLast
set_option linter.unusedVariables false
set_option linter.unusedSimpArgs false

theorem marked_f (L : List Int) (h : L.length ≤ 140737488351232) : shalelaw08_marked.f L = some L := by
  unfold shalelaw08_marked.f
  simp only [Option.bind_some, List.nil_append, List.length_nil, Nat.zero_add, List.length_append, List.length_cons]
  rw [if_pos (by omega), if_pos (by omega), if_pos (Int.natCast_nonneg _), if_pos (by omega)]
  simp
theorem read_f {L : List Int} (hb : Byts L) (h : L.length ≤ 140737488351232) : node_Read.f L = some (tup (readN L).1 (readN L).2) := by
  unfold node_Read.f
  rw [if_pos ⟨hb, by omega⟩]
theorem wrap64_of (x : Int) (h0 : -9223372036854775808 ≤ x) (h1 : x ≤ 9223372036854775807) : wrap64 x = x := by unfold wrap64; omega
theorem xor_nat (a b : Nat) (ha : a < 256) (hb : b < 256) : Go.bits .xor .u8 (a : Int) (b : Int) = ((a ^^^ b : Nat) : Int) := by
  have hx : a ^^^ b < 2 ^ 8 := Nat.xor_lt_two_pow (n := 8) ha hb
  have ha' : a % 2 ^ IntKind.u8.bits = a := Nat.mod_eq_of_lt ha
  have hb' : b % 2 ^ IntKind.u8.bits = b := Nat.mod_eq_of_lt hb
  simp only [bits, BitVec.ofInt_natCast, BitVec.toNat_xor, BitVec.toNat_ofNat, ha', hb']
  exact wraps_u8 _ (Int.natCast_nonneg _) (by exact_mod_cast hx)
theorem xor_ne {a b : Nat} (h : b ≠ 0) : a ^^^ b ≠ a := fun e => h (by
  have := congrArg (a ^^^ ·) e
  simpa [← Nat.xor_assoc] using this)
theorem same_and (n : Nd) : (n.ty == n.ty && (n.parent == n.parent && (n.name.toList == n.name.toList && (n.size == n.size && (n.mode == n.mode && (n.stamp == n.stamp && (n.shadow == n.shadow && (n.target.toList == n.target.toList)))))))) = true := by simp
theorem same_or (n : Nd) : (!(n.ty == n.ty) || (!(n.parent == n.parent) || (!(n.name.toList == n.name.toList) || (!(n.size == n.size) || (!(n.mode == n.mode) || (!(n.stamp == n.stamp) || (!(n.shadow == n.shadow) || (!(n.target.toList == n.target.toList))))))))) = false := by simp
theorem other_or {m n : Nd} (h : m ≠ n) : (!(m.ty == n.ty) || (!(m.parent == n.parent) || (!(m.name.toList == n.name.toList) || (!(m.size == n.size) || (!(m.mode == n.mode) || (!(m.stamp == n.stamp) || (!(m.shadow == n.shadow) || (!(m.target.toList == n.target.toList))))))))) = true := by
  by_cases hc : (!(m.ty == n.ty) || (!(m.parent == n.parent) || (!(m.name.toList == n.name.toList) || (!(m.size == n.size) || (!(m.mode == n.mode) || (!(m.stamp == n.stamp) || (!(m.shadow == n.shadow) || (!(m.target.toList == n.target.toList))))))))) = true
  · exact hc
  exfalso
  apply h
  rw [Bool.not_eq_true] at hc
  simp only [Bool.or_eq_false_iff, Bool.not_eq_false', beq_iff_eq] at hc
  obtain ⟨c1, c2, c3, c4, c5, c6, c7, c8⟩ := hc
  obtain ⟨m1, m2, m3, m4, m5, m6, m7, m8⟩ := m
  obtain ⟨n1, n2, n3, n4, n5, n6, n7, n8⟩ := n
  simp only at c1 c2 c3 c4 c5 c6 c7 c8
  rw [Nd.mk.injEq]
  exact ⟨c1, c2, ba_eq.1 c3, c4, c5, c6, c7, ba_eq.1 c8⟩

/-- The last part: one byte changed. -/
theorem back_tail {L : List Int} (hb : Byts L) (hl : L.length ≤ 140737488351232) (h0 : (readN L).2 = 0) (x2 : Int) (hx0 : 0 ≤ x2) (hx1 : x2 < 256) (i : Int) (hi0 : 0 ≤ i) (hi1 : i < L.length) :
    ∃ d m h, shalelaw08_marked.f ((([] : List Int) ++ L).set i.toNat (Go.bits .xor .u8 (rd (([] : List Int) ++ L) i) x2)) = some d ∧ node_Read.f d = some (tup m h) ∧ (x2 = 0 → m = (readN L).1) ∧ (x2 ≠ 0 → h = 0 → m ≠ (readN L).1) := by
  obtain ⟨j, rfl⟩ := Int.eq_ofNat_of_zero_le hi0
  obtain ⟨b, rfl⟩ := Int.eq_ofNat_of_zero_le hx0
  have hj : j < L.length := by omega
  rw [List.nil_append, Int.toNat_natCast]
  have hr : rd L (j : Int) = L.getD j 0 := rfl
  obtain ⟨e1, e2⟩ : L[j]? = some (((L.getD j 0).toNat : Nat) : Int) ∧ (L.getD j 0).toNat < 256 := by
    have e : L[j]? = some L[j] := List.getElem?_eq_getElem hj
    have := hb _ (List.getElem_mem hj)
    have g : L.getD j 0 = L[j] := by rw [List.getD_eq_getElem?_getD, e]; rfl
    rw [g, e, Int.toNat_of_nonneg this.1]
    exact ⟨rfl, by omega⟩
  obtain ⟨a, ha⟩ : ∃ a, a = (L.getD j 0).toNat := ⟨_, rfl⟩
  rw [← ha] at e1 e2
  have eg : L.getD j 0 = (a : Int) := by rw [List.getD_eq_getElem?_getD, e1]; rfl
  rw [hr, eg, xor_nat a b e2 (by omega)]
  have hx : a ^^^ b < 256 := Nat.xor_lt_two_pow (n := 8) e2 (show b < 2 ^ 8 by omega)
  have hb' : Byts (L.set j ((a ^^^ b : Nat) : Int)) := fun x h => by
    rcases List.mem_or_eq_of_mem_set h with h | h
    · exact hb x h
    · rw [h]; exact ⟨Int.natCast_nonneg _, by omega⟩
  have hl' : (L.set j ((a ^^^ b : Nat) : Int)).length ≤ 140737488351232 := by rw [List.length_set]; exact hl
  refine ⟨_, _, _, marked_f _ hl', read_f hb' hl', fun hz => ?_, fun hz hh => ?_⟩
  · have hz' : b = 0 := by omega
    subst hz'
    have : L.set j ((a ^^^ 0 : Nat) : Int) = L := by
      rw [Nat.xor_zero]
      apply List.ext_getElem?
      intro k
      rw [List.getElem?_set]
      split
      · rename_i hk
        subst hk
        rw [e1]
      · rfl
    rw [this]
  · have hz' : b ≠ 0 := by omega
    rcases readN_set hb h0 j hj ((a ^^^ b : Nat) : Int) (Int.natCast_nonneg _) (by omega) (by rw [eg]; intro e; exact xor_ne hz' (by exact_mod_cast e)) with h | h
    · exact absurd hh h
    · exact h

theorem NodeBack : shalelaw08_NodeBack.Pure := by
  intro L a1 a2 hm hy hw w1 w2
  have hl : L.length ≤ 140737488351232 := by omega
  have hb : Byts L := fun x hx => by
    have h := hw x hx
    have : IntKind.u8.min ≤ x ∧ x ≤ IntKind.u8.max := by simpa [Lit.wf] using h
    exact ⟨this.1, Int.lt_of_le_of_lt this.2 (by decide)⟩
  have h2 : 0 ≤ a2 ∧ a2 < 256 := by
    have : IntKind.u8.min ≤ a2 ∧ a2 ≤ IntKind.u8.max := by simpa [Lit.wf] using w2
    exact ⟨this.1, Int.lt_of_le_of_lt this.2 (by decide)⟩
  refine ⟨2, ?_⟩
  unfold shalelaw08_NodeBack.f
  rw [marked_f L hl, Option.bind_some, read_f hb hl, Option.bind_some, show shaleref08_Read.f L = some (tup (readN L).1 (readN L).2) from read_f hb hl, Option.bind_some]
  obtain ⟨n, hn⟩ : ∃ n, n = (readN L).1 := ⟨_, rfl⟩
  obtain ⟨e, he⟩ : ∃ e, e = (readN L).2 := ⟨_, rfl⟩
  rw [← hn, ← he]
  unfold tup
  simp only []
  rw [if_pos trivial, same_or n, shalelaw08_NodeBack.j0, if_neg (by decide)]
  by_cases h0 : e = 0
  · rw [if_pos h0]
    have h0' : (readN L).2 = 0 := by rw [← he]; exact h0
    obtain ⟨k1, k2, k3, k4⟩ := readN_ok hb h0'
    obtain ⟨s0, s1⟩ := readN_stamp hb
    have hc : checkNo n = 0 := by rw [hn, k2]; exact k3
    have hp : packB n = L := by unfold packB; rw [if_pos hc, hn, k2]; exact k4
    have hpk : node_Pack.f n.ty n.parent n.name n.size n.mode n.stamp n.shadow n.target = some (L, 0) := by
      unfold node_Pack.f
      rw [if_pos (by rw [hn]; exact ⟨s0, s1⟩)]
      show some (packB n, checkNo n) = _
      rw [hp, hc]
    rw [hpk, Option.bind_some]
    simp only []
    rw [if_pos trivial, show ((strOfNums L).toList != (strOfNums L).toList) = false by simp, shalelaw08_NodeBack.j1, if_neg (by decide)]
    have hlen : 25 ≤ L.length := by have := (shaped_len k1).1; omega
    have hpos : (0 : Int) < (L.length : Int) := by omega
    rw [if_neg (by omega)]
    have t0 := Int.tmod_lt_of_pos a1 hpos
    have t1 : -(L.length : Int) < Int.tmod a1 (L.length : Int) := by
      have := Int.lt_tmod_of_pos a1 hpos
      exact this
    by_cases hneg : Int.tmod a1 (L.length : Int) < 0
    · rw [if_pos hneg, wrap64_of _ (by omega) (by omega)]
      obtain ⟨d, m, h, e1, e2, e3, e4⟩ := back_tail hb hl h0' a2 h2.1 h2.2 (Int.tmod a1 (L.length : Int) + (L.length : Int)) (by omega) (by omega)
      rw [Option.bind_some, if_pos (by simp; omega), Option.bind_some, if_pos (by omega), if_pos (by simp; omega), e1, Option.bind_some, e2, Option.bind_some]
      unfold tup
      simp only []
      by_cases hz : a2 = 0
      · rw [if_pos hz, e3 hz, ← hn, same_and n, if_pos rfl]
      · rw [if_neg hz]
        by_cases hh : h = 0
        · rw [if_pos hh, other_or (by rw [hn]; exact e4 hz hh)]
        · rw [if_neg hh]
    · rw [if_neg hneg]
      obtain ⟨d, m, h, e1, e2, e3, e4⟩ := back_tail hb hl h0' a2 h2.1 h2.2 (Int.tmod a1 (L.length : Int)) (by omega) (by omega)
      rw [Option.bind_some, if_pos (by simp; omega), Option.bind_some, if_pos (by omega), if_pos (by simp; omega), e1, Option.bind_some, e2, Option.bind_some]
      unfold tup
      simp only []
      by_cases hz : a2 = 0
      · rw [if_pos hz, e3 hz, ← hn, same_and n, if_pos rfl]
      · rw [if_neg hz]
        by_cases hh : h = 0
        · rw [if_pos hh, other_or (by rw [hn]; exact e4 hz hh)]
        · rw [if_neg hh]
  · rw [if_neg h0]
    have hz : n = zeroNd := by rw [hn]; exact readN_bad (by rw [← he]; exact h0)
    rw [hz]
    have e0 : zeroNd.name.toList = [] := by rw [Lib.toList_data]; rfl
    have e1 : zeroNd.target.toList = [] := by rw [Lib.toList_data]; rfl
    rw [e0, e1]
    rfl
end Go.Proofs.YtljamhpdgmelcaaDoor.Pure
