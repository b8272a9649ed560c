/- BlocksFresh: rows that are written over and appended to. -/
import Derived.Test.YtmohijpkhmeibaaMPlays
import Derived.Deep.DeepAppendRoom
namespace Go.Proofs.Ytmohijpkhmeibaa
open Go.RowKit Go.Proofs
set_option linter.unusedVariables false
set_option linter.unusedSimpArgs false
set_option maxRecDepth 100000
/-- A row of blocks of our own, whose first k have the state s. -/
def RowS (w : World) (g n cap k : Nat) (s : Int) : Prop := ∃ cur : Array Value, w.heap[g]? = some (.cells cur 34 (0, 0)) ∧ cur.size = cap * 4 ∧ n ≤ cap ∧ cap ≤ maxLen ∧ ∀ i, i < k → cur[i * 4]? = some (.int .i64 s)
section
variable {w w' : World} {g n cap k : Nat} {s : Int}
theorem RowS.off {S : Nat → Prop} (h : RowS w g n cap k s) (ho : Off S w w') (hg : ¬ S g) : RowS w' g n cap k s := by
  obtain ⟨cur, h1, h2⟩ := h
  exact ⟨cur, (ho.block g (lt_of_heap h1) hg).trans h1, h2⟩
theorem RowS.lt (h : RowS w g n cap k s) : g < w.heap.size := by
  obtain ⟨cur, h1, _⟩ := h
  exact lt_of_heap h1
theorem RowS.below (h : RowS w g n cap k s) (hb : Below w.heap.size w w') : RowS w' g n cap k s := h.off (Off.of_below (S := fun _ => False) hb) fun h => h
theorem RowS.cell (h : RowS w g n cap k s) {i : Nat} (hi : i < k) : w.cell? ⟨g, i * 4, none⟩ = some (.int .i64 s) := by
  obtain ⟨cur, h1, _, _, _, h2⟩ := h
  exact cell_of h1 (h2 i hi)
theorem RowS.any (h : RowS w g n cap k s) {i j : Nat} (hi : i < n) (hj : j < 4) : (∃ u, w.cell? ⟨g, i * 4 + j, none⟩ = some u) ∧ w.frozen? ⟨g, i * 4 + j, none⟩ = false := by
  obtain ⟨cur, h1, h2, h3, _⟩ := h
  exact ⟨⟨_, cell_of h1 (Array.getElem?_eq_getElem (show i * 4 + j < cur.size by omega))⟩, free_of h1⟩
/-- The next block is written over. -/
theorem RowS.put (h : RowS w g n cap k s) (hk : k < n) (v1 v2 v3 : Value) :
    RowS ((((w.setCell ⟨g, k * 4, none⟩ (.int .i64 s)).setCell ⟨g, k * 4 + 1, none⟩ v1).setCell ⟨g, k * 4 + 2, none⟩ v2).setCell ⟨g, k * 4 + 3, none⟩ v3) g n cap (k + 1) s := by
  obtain ⟨cur, h1, h2, h3, h4, h5⟩ := h
  refine ⟨_, heap_set_same (heap_set_same (heap_set_same (heap_set_same h1 _) _) _) _, by simpa using h2, h3, h4, fun i hi => ?_⟩
  rw [Array.getElem?_setIfInBounds_ne (by omega), Array.getElem?_setIfInBounds_ne (by omega), Array.getElem?_setIfInBounds_ne (by omega)]
  by_cases e : i = k
  · subst e
    rw [Array.getElem?_setIfInBounds, if_pos rfl, if_pos (by omega)]
  · rw [Array.getElem?_setIfInBounds_ne (by omega)]
    exact h5 i (by omega)
end
theorem run_append_blk (w : World) (ty : TypeId) (g n cap : Nat) (s0 s1 : Int) (h : RowS w g n cap n s0) (hn : n ≤ 4096) (ad : Addr) (c : Nat)
    (hnews : ∀ (j : Nat) (u : Value), [Value.int .i64 s1, .int .u64 0, .bool false, .int .i64 0][j]? = some u → w.cell? (ad.add j) = some u) :
    ∃ (g' cap' : Nat) (w' : World), (Builtin.append_ #[24, 24] ty #[.slice (some ⟨g, 0, none⟩) n cap, .slice (some ad) 1 c]).run Try.prog w = .ok (.slice (some ⟨g', 0, none⟩) (n + 1) cap') w' ∧
      RowS w' g n cap n s0 ∧ w'.cell? ⟨g', n * 4, none⟩ = some (.int .i64 s1) ∧ Off (· = g) w w' ∧ (g' = g ∨ w.heap.size ≤ g') := by
  obtain ⟨i0, hi, hz0, hz1, hz2⟩ := info_parts info34
  obtain ⟨cur, h1, h2, h3, h4, h5⟩ := h
  have hxl : (cur.toList.take (n * 4)).length = n * 4 := by rw [List.length_take, Array.length_toList]; omega
  have hown : w.ownsRow 0 34 4 (.slice (some ⟨g, 0, none⟩) n cap) n (cur.toList.take (n * 4)) := ⟨hxl, .inr ⟨g, cap, cur, rfl, Nat.zero_le _, h1, h3, h4, h2, rfl⟩⟩
  have hone : ∀ u ∈ [Value.int .i64 s1, .int .u64 0, .bool false, .int .i64 0], u.oneCell' = true := by simp [Value.oneCell']
  by_cases hroom : n + 1 ≤ cap
  · obtain ⟨w', hr, hown', hgr⟩ := run_append_own_spare (P := Try.prog) w 0 24 ty 34 i0 4 Try.underlying24 hi hz1 g n cap _ hown ad 1 c [Value.int .i64 s1, .int .u64 0, .bool false, .int .i64 0] rfl hnews hone hroom
    rcases hown'.2 with ⟨e, _⟩ | ⟨g', cap', cur', e, _, k1, k2, k3, k4, k5⟩
    · cases e
    · cases e
      have hget : ∀ (j : Nat) (u : Value), (cur.toList.take (n * 4) ++ [Value.int .i64 s1, .int .u64 0, .bool false, .int .i64 0])[j]? = some u → cur'[j]? = some u := fun j u hj => by
        rw [← k5, List.getElem?_take] at hj
        split at hj
        · simpa using hj
        · cases hj
      refine ⟨g, cap, w', hr, ⟨cur', k1, k4, h3, h4, fun i hi' => ?_⟩, cell_of k1 (hget _ _ ?_), ⟨hgr.os, hgr.tape, hgr.output, hgr.size, fun k hk hs => hgr.block k hk (fun e => hs (Option.some.inj e))⟩, .inl rfl⟩
      · refine hget _ _ ?_
        rw [List.getElem?_append_left (by omega), List.getElem?_take_of_lt (by omega)]
        simpa using h5 i hi'
      · rw [List.getElem?_append_right (by omega), hxl, Nat.sub_self]
        rfl
  · have holds : ∀ j u, (cur.toList.take (n * 4))[j]? = some u → w.cell? ((⟨g, 0, none⟩ : Addr).add j) = some u := hown.cells (g := g) rfl
    have hr := run_append_grow (P := Try.prog) w 24 ty 34 i0 (.agg #[.int .i64 0, .int .u64 0, .bool false, .int .i64 0]) Try.underlying24 hi hz0 ⟨g, 0, none⟩ n cap (cur.toList.take (n * 4)) (by rw [hz1]; exact hxl) holds ad 1 c [Value.int .i64 s1, .int .u64 0, .bool false, .int .i64 0] (by rw [hz1]; rfl) hnews (by omega) (by omega) (growslice_fits (by omega) (by rw [hz2]; omega))
    refine ⟨_, _, _, hr, ?_, ?_, ?_, .inr (Nat.le_refl _)⟩
    · refine ⟨cur, ?_, h2, h3, h4, h5⟩
      rw [Below.heap_alloc _ _ _ (by exact lt_of_heap h1)]
      exact h1
    · refine cell_of (heap_alloc_new w.drew _) ?_
      rw [Array.getElem?_append_left (by simp [hxl]), Array.getElem?_append_right (by simp [hxl])]
      simp [hxl]
    · exact ((Off.refl (· = g) w).drew).alloc _
theorem wpList_append_blk {w : World} {ops : Array Oper} {rest : List Oper} {o : Oper} {a : Act} {Q : Exit → Act → World → Prop} (hgd : o.guard = none) (sl x : Operand)
    (ho : o.op = .call { callee := .builtin .append, args := #[sl, x], argTypes := #[24, 24] }) (g n cap : Nat) (s0 s1 : Int) (hs : a.eval sl = .slice (some ⟨g, 0, none⟩) n cap) (ad : Addr) (c : Nat) (hx : a.eval x = .slice (some ad) 1 c)
    (hnews : ∀ (j : Nat) (u : Value), [Value.int .i64 s1, .int .u64 0, .bool false, .int .i64 0][j]? = some u → w.cell? (ad.add j) = some u) (h : RowS w g n cap n s0) (hn : n ≤ 4096)
    (cont : ∀ (g' cap' : Nat) (w' : World), RowS w' g n cap n s0 → w'.cell? ⟨g', n * 4, none⟩ = some (.int .i64 s1) → Off (· = g) w w' → (g' = g ∨ w.heap.size ≤ g') → wpList Try.prog ops Q rest (a.put o.dst (.slice (some ⟨g', 0, none⟩) (n + 1) cap')) w') :
    wpList Try.prog ops Q (o :: rest) a w := by
  refine wpList_plain hgd fun K hK => ?_
  obtain ⟨g', cap', w', hr, h1, h2, h3, h4⟩ := run_append_blk w o.type g n cap s0 s1 h hn ad c hnews
  unfold Oper.wp execOp
  simp only [ho, resolve, invoke, builtin, Sem.run_bind, Sem.run_pure, Result.andThen_ok, List.map_toArray, List.map_cons, List.map_nil, hs, hx, hr]
  exact hK _ _ (cont g' cap' w' h1 h2 h3 h4)
theorem list_row (p q cap : Nat) (b : Bks) (w : World) (hI : IsB w p q cap b) (s : Int) :
    Calls Try.prog 16 #[.pointer (some ⟨p, 0, none⟩)] w fun e w' => ∃ g c, e = .returned (.slice (some ⟨g, 0, none⟩) b.all.length c) ∧ w.heap.size ≤ g ∧ RowS w' g b.all.length c 0 s ∧ Below w.heap.size w w' := by
  refine (list_calls p q cap b w hI).mono ?_
  rintro e w' ⟨v, rfl, h1, h2⟩
  rcases h1.2 with ⟨_, e⟩ | ⟨g, c, cur, rfl, hg, hh, hn, hm, hs, _⟩
  · have := hI.pos; omega
  · exact ⟨g, c, rfl, hg, ⟨cur, hh, hs, hn, hm, fun i hi => absurd hi (Nat.not_lt_zero _)⟩, h2⟩
theorem Duo.off {S : Nat → Prop} {w0 w w' : World} {p q cap p' q' t' cap' : Nat} {bB bR : Bks} (h : Duo w0 p q cap p' q' t' cap' bB bR w) (ho : Off S w w') (hS : ∀ i, S i → w0.heap.size ≤ i ∧ i ≠ p ∧ i ≠ q ∧ i ≠ p' ∧ i ≠ q' ∧ i ≠ t') : Duo w0 p q cap p' q' t' cap' bB bR w' :=
  ⟨h.isB.off ho (fun e => (hS _ e).2.1 rfl) (fun e => (hS _ e).2.2.1 rfl), h.isR.off ho (fun e => (hS _ e).2.2.2.1 rfl) (fun e => (hS _ e).2.2.2.2.1 rfl) (fun e => (hS _ e).2.2.2.2.2 rfl), h.below.trans (ho.below h.below.size fun i hi => (hS i hi).1), h.lp, h.lq, h.lp', h.lq', h.lt'⟩
end Go.Proofs.Ytmohijpkhmeibaa
