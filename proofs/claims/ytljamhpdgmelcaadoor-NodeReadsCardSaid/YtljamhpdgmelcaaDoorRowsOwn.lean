/- Lists of strings of the call's own, each in a block of its own: a store into one, an append onto one. -/
import Derived.Test.YtljamhpdgmelcaaDoorSpec
import Derived.Maps.AppendAt
namespace Go.Proofs.YtljamhpdgmelcaaDoor
open Go.RowKit Go.Proofs Go.Proofs.YtljamhpdgmelcaaDoorW.PrintWords
set_option linter.unusedVariables false
set_option linter.unusedSimpArgs false

/-- v is a slice of strings that reads L; its block lies at or beyond base. -/
def SRow (W : World) (base : Nat) (v : Value) (L : List Int) : Prop :=
  (v = .slice none 0 0 ∧ L = []) ∨
  ∃ g c cur, v = .slice (some ⟨g, 0, none⟩) L.length c ∧ base ≤ g ∧ W.heap[g]? = some (.cells cur 5 (0, 0)) ∧ L.length ≤ c ∧ c ≤ cur.size ∧ cur.toList.take L.length = L.map (Value.int .u8)

theorem SRow.of_heap {W W' : World} {base : Nat} {v : Value} {L : List Int} (h : SRow W base v L) (hk : ∀ b, v.ownBlock = some b → W'.heap[b]? = W.heap[b]?) : SRow W' base v L :=
  h.imp id fun ⟨g, c, cur, hv, hb, hg, h1, h2, h3⟩ => ⟨g, c, cur, hv, hb, (hk g (by rw [hv]; rfl)).trans hg, h1, h2, h3⟩
theorem SRow.lt {W : World} {base : Nat} {v : Value} {L : List Int} (h : SRow W base v L) {b : Nat} (hb : v.ownBlock = some b) : b < W.heap.size := by
  rcases h with ⟨rfl, _⟩ | ⟨g, c, cur, rfl, _, hg, _⟩
  · cases hb
  · cases hb
    exact (Array.getElem?_eq_some_iff.1 hg).1
theorem SRow.base_le {W : World} {base : Nat} {v : Value} {L : List Int} (h : SRow W base v L) {b : Nat} (hb : v.ownBlock = some b) : base ≤ b := by
  rcases h with ⟨rfl, _⟩ | ⟨g, c, cur, rfl, hg, _⟩
  · cases hb
  · cases hb
    exact hg
theorem SRow.typed {W : World} {base : Nat} {v : Value} {L : List Int} (h : SRow W base v L) {b : Nat} (hb : v.ownBlock = some b) : ∃ cur, W.heap[b]? = some (.cells cur 5 (0, 0)) := by
  rcases h with ⟨rfl, _⟩ | ⟨g, c, cur, rfl, _, hg, _⟩
  · cases hb
  · cases hb
    exact ⟨_, hg⟩
theorem SRow.shape {W : World} {base : Nat} {v : Value} {L : List Int} (h : SRow W base v L) : ∃ g c, v = .slice g L.length c := by
  rcases h with ⟨rfl, rfl⟩ | ⟨g, c, cur, rfl, _⟩
  · exact ⟨_, _, rfl⟩
  · exact ⟨_, _, rfl⟩
theorem SRow.cell {W : World} {base : Nat} {v : Value} {L : List Int} (h : SRow W base v L) {k : Nat} {x : Int} (hx : L[k]? = some x) : ∃ g c, v = .slice (some ⟨g, 0, none⟩) L.length c ∧ W.cell? ⟨g, k, none⟩ = some (.int .u8 x) ∧ W.frozen? ⟨g, k, none⟩ = false := by
  rcases h with ⟨rfl, rfl⟩ | ⟨g, c, cur, rfl, _, hg, _, _, h3⟩
  · cases hx
  · refine ⟨g, c, rfl, ?_, ?_⟩
    · have hk : k < L.length := (List.getElem?_eq_some_iff.1 hx).1
      have : (cur.toList.take L.length)[k]? = some (.int .u8 x) := by rw [h3, List.getElem?_map, hx]; rfl
      rw [List.getElem?_take, if_pos hk, Array.getElem?_toList] at this
      simp [World.cell?, hg, this]
    · exact frozen_of_row _ _ _ _ _ hg
theorem SRow.of_own {W : World} {base : Nat} {v : Value} {L : List Int} (h : W.ownsRow base 5 1 v L.length (encs (Value.int .u8) L)) : SRow W base v L := by
  rcases h.2 with ⟨rfl, hn⟩ | ⟨g, cap, cur, rfl, hb, hg, hn, _, hs, ht⟩
  · exact .inl ⟨rfl, List.eq_nil_of_length_eq_zero hn⟩
  · refine .inr ⟨g, cap, cur, rfl, hb, hg, hn, by omega, ?_⟩
    rw [Nat.mul_one] at ht
    rw [ht]
    simp [encs]
/-- The slice cut to n elements, its room cut too. -/
theorem SRow.cut {W : World} {base g c : Nat} {L : List Int} (h : SRow W base (.slice (some ⟨g, 0, none⟩) L.length c) L) (n : Nat) (hn : n ≤ L.length) : SRow W base (.slice (some ⟨g, 0, none⟩) n n) (L.take n) := by
  rcases h with ⟨h, _⟩ | ⟨g', c', cur, he, hb, hg, h1, h2, h3⟩
  · cases h
  · simp only [Value.slice.injEq, Option.some.injEq, Addr.mk.injEq] at he
    obtain ⟨⟨rfl, _⟩, _, rfl⟩ := he
    have hl : (L.take n).length = n := by rw [List.length_take]; omega
    refine .inr ⟨g, n, cur, by rw [hl], hb, hg, by omega, by omega, ?_⟩
    rw [hl, List.map_take, ← h3, List.take_take, Nat.min_eq_left hn]

theorem SRow.store {W : World} {base g c : Nat} {L : List Int} (h : SRow W base (.slice (some ⟨g, 0, none⟩) L.length c) L) (k : Nat) (x : Int) :
    SRow (W.setCell ⟨g, k, none⟩ (.int .u8 x)) base (.slice (some ⟨g, 0, none⟩) L.length c) (L.set k x) := by
  rcases h with ⟨h, _⟩ | ⟨g', c', cur, he, hb, hg, h1, h2, h3⟩
  · cases h
  · simp only [Value.slice.injEq, Option.some.injEq, Addr.mk.injEq] at he
    obtain ⟨⟨rfl, _⟩, _, rfl⟩ := he
    refine .inr ⟨g, c, cur.setIfInBounds k (.int .u8 x), by rw [List.length_set], hb, heap_setCell_same _ _ _ _ _ _ hg, by rw [List.length_set]; exact h1, by rw [Array.size_setIfInBounds]; exact h2, ?_⟩
    rw [List.length_set, Array.toList_setIfInBounds, List.map_set, ← h3, List.take_set]
theorem SRow.store_other {W : World} {base g k : Nat} {v : Value} {L : List Int} (h : SRow W base v L) (hne : v.ownBlock ≠ some g) (u : Value) : SRow (W.setCell ⟨g, k, none⟩ u) base v L :=
  h.of_heap fun b hb => heap_setCell_other _ _ _ _ (fun e => hne (by rw [hb]; exact congrArg some e))

theorem grown_row {W : World} {base : Nat} (hbase : base ≤ W.heap.size) (M : List Int) (old : Nat) (z : Value) (hz : z.cells.size = 1) (hM : M.length ≤ 4096) :
    SRow (W.drew.alloc (.cells ((M.map (Value.int .u8)).toArray ++ Builtin.zeroCells z.cells (grownCap W M.length old 5 - M.length)) 5)) base (.slice (some ⟨W.heap.size, 0, none⟩) M.length (grownCap W M.length old 5)) M := by
  have hge := grownCap_ge W M.length old 5
  refine .inr ⟨_, _, _, rfl, hbase, heap_alloc_new W.drew _, hge, ?_, ?_⟩
  · simp only [Array.size_append, List.size_toArray, size_zeroCells, hz, List.length_map]
    omega
  · simp only [Array.toList_append]
    exact List.take_left' (by simp)

theorem append_row {W : World} {base : Nat} {l : Value} {M : List Int} (x : Int) (hrow : SRow W base l M) (hM : M.length + 1 ≤ 4096) (hbase : base ≤ W.heap.size) (ad : Addr) (c : Nat)
    (hc : ∀ j u, [Value.int .u8 x][j]? = some u → W.cell? (ad.add j) = some u) :
    ∃ l' W', (Builtin.append_ #[22, 22] 22 #[l, .slice (some ad) 1 c]).run Tryd.prog W = .ok l' W' ∧ SRow W' base l' (M ++ [x]) ∧ (l'.ownBlock = l.ownBlock ∨ l'.ownBlock = some W.heap.size) ∧ W.grownBy W' l.ownBlock ∧
      (∀ v L, SRow W base v L → (∀ b, l.ownBlock = some b → v.ownBlock = some b → L.length ≤ M.length) → SRow W' base v L) := by
  obtain ⟨i0, hi, hzz⟩ := Option.map_eq_some_iff.1 info5
  simp only [Prod.mk.injEq] at hzz
  obtain ⟨hz0, hz1, hz2⟩ := hzz
  have hzc : (Value.int .u8 0).cells.size = 1 := rfl
  rcases hrow with ⟨rfl, rfl⟩ | ⟨g, cap, cur, rfl, hb, hg, h1, h2, h3⟩
  · have hr := run_append_nil (P := Tryd.prog) W 22 22 5 i0 (.int .u8 0) Tryd.underlying22 hi hz0 ad 1 c [.int .u8 x] (by rw [hz1]; rfl) hc (by omega) (by omega) (by rw [hz2]; omega)
    refine ⟨_, _, hr, grown_row hbase [x] 0 _ hzc (by simp), .inr rfl, ⟨rfl, rfl, rfl, by simp, fun k hk _ => heap_alloc_old W.drew _ hk⟩, fun v L hv _ => hv.of_heap fun b hbv => heap_alloc_old W.drew _ (hv.lt hbv)⟩
  · by_cases hroom : M.length + 1 ≤ cap
    · have hr := run_append_room (P := Tryd.prog) W 22 22 5 i0 Tryd.underlying22 hi g M.length cap cur hg ad 1 c [.int .u8 x] (by rw [hz1]; rfl) hc (by simp [Value.oneCell']) hroom (by rw [hz1]; simp; omega)
      rw [hz1, Nat.mul_one] at hr
      have hlen : M.length < cur.toList.length := by simp; omega
      refine ⟨_, _, hr, .inr ⟨g, cap, _, by simp, hb, setRow_heap W g cur _ 5 _ hg, by simp; omega, ?_, ?_⟩, .inl rfl, ⟨rfl, rfl, rfl, by simp, fun k _ hk => setRow_other W g k _ (fun e => hk (by simp [Value.ownBlock, e]))⟩, fun v L hv hle => ?_⟩
      · simp only [List.size_toArray, List.length_append, List.length_take, List.length_drop, List.length_cons, List.length_nil, Array.length_toList]
        omega
      · rw [h3, List.map_append, List.append_assoc]
        have : (M ++ [x]).length = (M.map (Value.int .u8) ++ [Value.int .u8 x]).length := by simp
        rw [this, ← List.append_assoc]
        exact List.take_left
      · rcases hv with ⟨rfl, rfl⟩ | ⟨g', c', cur', rfl, hb', hg', k1, k2, k3⟩
        · exact .inl ⟨rfl, rfl⟩
        · by_cases e : g' = g
          · subst e
            rw [hg] at hg'
            cases hg'
            have hL := hle g' rfl rfl
            refine .inr ⟨g', c', _, rfl, hb', setRow_heap W g' cur _ 5 _ hg, k1, ?_, ?_⟩
            · simp only [List.size_toArray, List.length_append, List.length_take, List.length_drop, List.length_cons, List.length_nil, Array.length_toList]
              simp at hlen
              omega
            · rw [← k3]
              simp only [List.append_assoc]
              rw [List.take_append_of_le_length (by rw [List.length_take]; omega), List.take_take, Nat.min_eq_left hL]
          · exact .inr ⟨g', c', cur', rfl, hb', (setRow_other W g g' _ e).trans hg', k1, k2, k3⟩
    · have holds : ∀ j u, (M.map (Value.int .u8))[j]? = some u → W.cell? ((⟨g, 0, none⟩ : Addr).add j) = some u := fun j u hj => by
        have hk : j < M.length := by
          have := (List.getElem?_eq_some_iff.1 hj).1
          simpa using this
        have : (cur.toList.take M.length)[j]? = some u := by rw [h3]; exact hj
        rw [List.getElem?_take, if_pos hk, Array.getElem?_toList] at this
        rw [Addr.add_lit, Nat.zero_add]
        simp [World.cell?, hg, this]
      have hr := run_append_grow (P := Tryd.prog) W 22 22 5 i0 (.int .u8 0) Tryd.underlying22 hi hz0 ⟨g, 0, none⟩ M.length cap (M.map (Value.int .u8)) (by rw [hz1]; simp) holds ad 1 c [.int .u8 x] (by rw [hz1]; rfl) hc (by omega) (by omega)
        (growslice_fits (by omega) (by rw [hz2]; omega))
      have hrow := grown_row hbase (M ++ [x]) cap (.int .u8 0) hzc (by simp; omega)
      have e1 : ((M ++ [x]).map (Value.int .u8)).toArray = (M.map (Value.int .u8)).toArray ++ [Value.int .u8 x].toArray := by simp
      rw [e1, List.length_append] at hrow
      exact ⟨_, _, hr, hrow, .inr rfl, ⟨rfl, rfl, rfl, by simp, fun k hk _ => heap_alloc_old W.drew _ hk⟩, fun v L hv _ => hv.of_heap fun b hbv => heap_alloc_old W.drew _ (hv.lt hbv)⟩

theorem wpList_append_srow {W : World} {ops : Array Oper} {rest : List Oper} {o : Oper} {a : Act} {Q : Exit → Act → World → Prop} (hgd : o.guard = none) (s y : Operand) (hty : o.type = 22)
    (ho : o.op = .call { callee := .builtin .append, args := #[s, y], argTypes := #[22, 22] }) (base : Nat) (l : Value) (M : List Int) (x : Int) (hs : a.eval s = l) (hrow : SRow W base l M) (hM : M.length + 1 ≤ 4096) (hbase : base ≤ W.heap.size)
    (ad : Addr) (c : Nat) (hy : a.eval y = .slice (some ad) 1 c) (hc : ∀ j u, [Value.int .u8 x][j]? = some u → W.cell? (ad.add j) = some u)
    (h : ∀ l' W', SRow W' base l' (M ++ [x]) → (l'.ownBlock = l.ownBlock ∨ l'.ownBlock = some W.heap.size) → W.grownBy W' l.ownBlock →
      (∀ v L, SRow W base v L → (∀ b, l.ownBlock = some b → v.ownBlock = some b → L.length ≤ M.length) → SRow W' base v L) → wpList Tryd.prog ops Q rest (a.put o.dst l') W') :
    wpList Tryd.prog ops Q (o :: rest) a W := by
  refine wpList_plain hgd fun K hK => ?_
  obtain ⟨l', W', hr, h2, h3, h4, h5⟩ := append_row x hrow hM hbase ad c hc
  unfold Oper.wp execOp
  simp only [ho, hty, resolve, invoke, builtin, Sem.run_bind, Sem.run_pure, Result.andThen_ok, List.map_toArray, List.map_cons, List.map_nil, hs, hy, hr]
  exact hK _ _ (h l' W' h2 h3 h4 h5)
end Go.Proofs.YtljamhpdgmelcaaDoor
