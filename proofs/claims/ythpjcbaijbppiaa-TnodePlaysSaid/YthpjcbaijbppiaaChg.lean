/- changing: the state between two rounds. -/
import Derived.Test.YthpjcbaijbppiaaRound
namespace Go.Proofs.Ythpjcbaijbppiaa
open Go.RowKit Go.Proofs
set_option linter.unusedVariables false
set_option linter.unusedSimpArgs false
/-- As Duo, but the document's row may lie elsewhere, where k is there to be dropped. -/
structure DuoK (w0 w : World) (S0 : Nat → Prop) (p r : Nat) (l lr : List (Nat × Int)) (k : Int) : Prop where
  ex : ∃ fp u, TR kInt w p l fp ∧ RF w r lr u ∧ (∀ b, fp b ∨ b = r → S0 b ∨ w0.heap.size ≤ b) ∧ ((∀ b, u.ownBlock = some b → S0 b ∨ w0.heap.size ≤ b) ∨ (valAt lr k).isSome = true)
  good : GoodR lr
  off : Off S0 w0 w
theorem DuoK.drew {w0 w : World} {S0 : Nat → Prop} {p r : Nat} {l lr : List (Nat × Int)} {k : Int} (h : DuoK w0 w S0 p r l lr k) : DuoK w0 w.drew S0 p r l lr k := by
  obtain ⟨⟨fp, u, h1, h2, h3, h4⟩, hg, ho⟩ := h
  exact ⟨⟨fp, u, h1.below ((Below.refl _ _).drew), h2.below ((Below.refl _ _).drew), h3, h4⟩, hg, ho.drew⟩
theorem DuoK.tdrop {w0 w : World} {S0 : Nat → Prop} {p r : Nat} {l lr : List (Nat × Int)} {k : Int} (h : DuoK w0 w S0 p r l lr k) (k' : Int) :
    Calls Try.prog 22 #[.pointer (some ⟨p, 0, none⟩), .int .i64 k'] w fun e w' => e = .returned (.bool (valAt l k').isSome) ∧ DuoK w0 w' S0 p r (dropL l k') lr k := by
  obtain ⟨⟨fp, u, h1, h2, h3, h4⟩, hg, ho⟩ := h
  refine (api_drop w p l fp h1 k').mono ?_
  rintro e w' ⟨rfl, ht⟩
  have hkt := ht.kt h1
  obtain ⟨fp', k1, k2, k3⟩ := ht
  refine ⟨rfl, ⟨fp', u, k1, h2.kt hkt, fun b hb => ?_, h4⟩, hg, ?_⟩
  · rcases hb with hb | hb
    · rcases k3 b hb with h | h
      · exact h3 b (.inl h)
      · exact .inr (Nat.le_trans ho.size h)
    · exact h3 b (.inr hb)
  · exact ho.trans' k2 fun i hi h => (h3 i (.inl h)).elim id fun h => absurd h (by omega)
theorem DuoK.rdrop {w0 w : World} {S0 : Nat → Prop} {p r : Nat} {l lr : List (Nat × Int)} {k : Int} (h : DuoK w0 w S0 p r l lr k) :
    Calls Try.prog 36 #[.pointer (some ⟨r, 0, none⟩), .int .i64 k] w fun e w' => e = .returned (.bool (valAt lr k).isSome) ∧ Duo w0 w' S0 p r l (dropL lr k) := by
  obtain ⟨⟨fp, u, h1, h2, h3, h4⟩, hg, ho⟩ := h
  refine (rdrop_calls w r u lr h2 hg.len hg.srt k).mono ?_
  rintro e w' ⟨rfl, ht, hn⟩
  rcases h4 with h4 | h4
  · refine ⟨rfl, Duo.turnR h1 h2 (fun b hb => ?_) (hg.filter _) ho ht⟩
    rcases hb with hb | hb | hb
    · exact h3 b (.inl hb)
    · exact h3 b (.inr hb)
    · exact h4 b hb
  · obtain ⟨u', k1, k2, k3⟩ := hn h4
    refine ⟨rfl, ⟨fp, u', h1.frame k2 fun b a c => apart h1 h2 c (.inl a), k1, fun b hb => ?_⟩, hg.filter _, ?_⟩
    · rcases hb with hb | hb | hb
      · exact h3 b (.inl hb)
      · exact h3 b (.inr hb)
      · exact .inr (Nat.le_trans ho.size (k3 b hb))
    · exact ho.trans' k2 fun i hi h => (h3 i (.inr h)).elim id fun h => absurd h (by omega)
/-- What lies still while it goes on: the two boxes, the op, the answer, the row that was. -/
structure Still (W : World) (b0 p r : Nat) (kd ko vo : Int) (was : Value) : Prop where
  c0 : W.heap[b0]? = some (.cells #[.pointer (some ⟨p, 0, none⟩)] 23 (0, 0))
  c1 : W.heap[b0 + 1]? = some (.cells #[.pointer (some ⟨r, 0, none⟩)] 25 (0, 0))
  c2 : W.heap[b0 + 1 + 1]? = some (.cells #[.int .i64 kd, .int .i64 ko, .int .i64 vo] 31 (0, 0))
  c3 : W.heap[b0 + 1 + 1 + 1]? = some (.cells #[.bool false] 4 (0, 0))
  c4 : W.heap[b0 + 1 + 1 + 1 + 1]? = some (.cells #[was] 26 (0, 0))
theorem Still.kept {W W' : World} {b0 p r : Nat} {kd ko vo : Int} {was : Value} (h : Still W b0 p r kd ko vo was) (hk : ∀ (b : Nat) (c : Array Value) (t : TypeId), W.heap[b]? = some (.cells c t (0, 0)) → (t = 23 ∨ t = 25 ∨ t = 31 ∨ t = 4 ∨ t = 26) → W'.heap[b]? = some (.cells c t (0, 0))) : Still W' b0 p r kd ko vo was :=
  ⟨hk _ _ _ h.c0 (by simp), hk _ _ _ h.c1 (by simp), hk _ _ _ h.c2 (by simp), hk _ _ _ h.c3 (by simp), hk _ _ _ h.c4 (by simp)⟩
structure CJ (w0 : World) (S0 : Nat → Prop) (b0 p r : Nat) (kd ko vo : Int) (l : List (Nat × Int)) (was : Value) (pre : List (Nat × Int)) (W : World) : Prop where
  pf : pre <+: l
  st : Still W b0 p r kd ko vo was
  c5 : W.heap[b0 + 1 + 1 + 1 + 1 + 1]? = some (.cells #[.int .i64 (pre.length : Int)] 3 (0, 0))
  row : PRow W was l
  blk : PairBlock W was
  ex : ∃ lc fp u, TR kInt W p lc fp ∧ RF W r lc u ∧ GoodR lc ∧ ¬ fp (b0 + 1 + 1 + 1 + 1 + 1) ∧ (∀ b, fp b ∨ RB r u b → S0 b ∨ w0.heap.size ≤ b) ∧ ((pre = [] ∧ lc = l) ∨ ∀ b, u.ownBlock = some b → was.ownBlock ≠ some b)
  off : Off S0 w0 W
  b0w : w0.heap.size ≤ b0
theorem cj_own {w0 : World} {S0 : Nat → Prop} {b0 p r : Nat} {kd ko vo : Int} {l : List (Nat × Int)} {was : Value} (B : Nat) (hB : b0 ≤ B) : OwnFrom B (CJ w0 S0 b0 p r kd ko vo l was) := by
  rintro pre X Y row h hg hr
  have hne : ∀ (b : Nat) (c : Array Value) (t : TypeId) (f : Nat × Nat), X.heap[b]? = some (.cells c t f) → row ≠ some b := fun b c t f hc e => by
    obtain ⟨_, o, hx, ho⟩ := hr b e
    rw [hc] at hx
    cases hx
    cases ho
  have hk : ∀ (b : Nat) (c : Array Value) (t : TypeId) (f : Nat × Nat), X.heap[b]? = some (.cells c t f) → Y.heap[b]? = some (.cells c t f) := fun b c t f hc => (hg.block b (lt_of_heap hc) fun e => hne b c t f hc e.symm).trans hc
  have ho : Off (fun b => row = some b) X Y := (Off.refl _ _).grown hg fun k e => .inl e
  obtain ⟨pf, st, c5, rw', blk, ⟨lc, fp, u, h1, h2, h3, h4, h5, h6⟩, off, hb⟩ := h
  refine ⟨pf, st.kept fun b c t hc _ => hk b c t _ hc, hk _ _ _ _ c5, ?_, fun b hb' => ?_, ⟨lc, fp, u, h1.frame ho fun b e hf => ?_, h2.frame ho fun b hf e => ?_, h3, h4, h5, h6⟩, off.grown hg fun k e => ?_, hb⟩
  · refine rw'.keep fun b o v hv he => ?_
    obtain ⟨c, hc⟩ := blk b he
    have e : Y.cell? ⟨b, o, none⟩ = X.cell? ⟨b, o, none⟩ := by
      unfold World.cell?
      simp only
      rw [hk _ _ _ _ hc, hc]
    rw [e]; exact hv
  · obtain ⟨c, hc⟩ := blk b hb'
    exact ⟨c, hk _ _ _ _ hc⟩
  · obtain ⟨c, t, hc, _⟩ := h1.typ hf
    exact hne _ _ _ _ hc e
  · obtain ⟨c, t, hc, _⟩ := h2.typ hf
    exact hne _ _ _ _ hc e
  · obtain ⟨hB', _⟩ := hr k e
    exact .inr (by omega)
theorem valAt_mem {l : List (Nat × Int)} {x : Nat × Int} (hx : x ∈ l) : (valAt l (x.1 : Int)).isSome = true := by
  unfold valAt
  rw [Option.isSome_map, List.find?_isSome]
  exact ⟨x, hx, beq_self_eq_true _⟩
theorem typ_ne {W : World} {b b' : Nat} {c c' : Array Value} {t t' : TypeId} {f f' : Nat × Nat} (h : W.heap[b]? = some (.cells c t f)) (h' : W.heap[b']? = some (.cells c' t' f')) (ht : t ≠ t') : b ≠ b' := by
  rintro rfl
  rw [h] at h'
  cases h'
  exact ht rfl
theorem cj_round {w0 : World} {S0 : Nat → Prop} {b0 p r : Nat} {kd ko vo : Int} {l : List (Nat × Int)} {was : Value} {pre : List (Nat × Int)} {W : World} (h : CJ w0 S0 b0 p r kd ko vo l was pre W) {x : Nat × Int} (hx : pre ++ [x] <+: l) :
    ∃ lc S, DuoK (W.setCell ⟨b0 + 1 + 1 + 1 + 1 + 1, 0, none⟩ (.int .i64 ((pre.length : Int) + 1))) (W.setCell ⟨b0 + 1 + 1 + 1 + 1 + 1, 0, none⟩ (.int .i64 ((pre.length : Int) + 1))) S p r lc lc x.1 ∧
      (∀ w', Off S (W.setCell ⟨b0 + 1 + 1 + 1 + 1 + 1, 0, none⟩ (.int .i64 ((pre.length : Int) + 1))) w' → Still w' b0 p r kd ko vo was) ∧
      ∀ w' l', Duo (W.setCell ⟨b0 + 1 + 1 + 1 + 1 + 1, 0, none⟩ (.int .i64 ((pre.length : Int) + 1))) w' S p r l' l' → KeepsOthers W w' ∧ KpE W w' ∧ CJ w0 S0 b0 p r kd ko vo l was (pre ++ [x]) w' := by
  obtain ⟨pf, st, c5, rw', blk, ⟨lc, fp, u, h1, h2, h3, h4, h5, h6⟩, off, hb⟩ := h
  generalize hi5 : b0 + 1 + 1 + 1 + 1 + 1 = i5 at *
  generalize hWi : W.setCell ⟨i5, 0, none⟩ (.int .i64 ((pre.length : Int) + 1)) = Wi
  have hsz : Wi.heap.size = W.heap.size := by rw [← hWi]; simp [World.setCell]
  have o1 : Off (fun b => b = i5) W Wi := by rw [← hWi]; exact (Off.refl (fun b => b = i5) W).setCell (p := ⟨i5, 0, none⟩) (.inl rfl) _
  have z5 : Wi.heap[i5]? = some (.cells #[.int .i64 ((pre.length : Int) + 1)] 3 (0, 0)) := by rw [← hWi]; exact heap_set_same c5 _
  have hSt : ∀ b, fp b ∨ RB r u b → ∃ c t, W.heap[b]? = some (.cells c t (0, 0)) ∧ (t = 68 ∨ t = 81 ∨ t = 3 ∨ t = 28 ∨ t = 45) ∧ b ≠ i5 := fun b hb => by
    rcases hb with hb | hb
    · obtain ⟨c, t, hc, ht⟩ := h1.typ hb
      refine ⟨c, t, hc, ?_, fun e => h4 (e ▸ hb)⟩
      rcases ht with rfl | rfl | rfl
      · exact .inl rfl
      · exact .inr (.inl rfl)
      · exact .inr (.inr (.inl rfl))
    · obtain ⟨c, t, hc, ht⟩ := h2.typ hb
      refine ⟨c, t, hc, ?_, typ_ne hc c5 (by rcases ht with rfl | rfl <;> decide)⟩
      rcases ht with rfl | rfl
      · exact .inr (.inr (.inr (.inl rfl)))
      · exact .inr (.inr (.inr (.inr rfl)))
  have keep : ∀ w', Off (fun b => (fp b ∨ RB r u b) ∧ was.ownBlock ≠ some b) Wi w' → ∀ (b : Nat) (o : Obj), W.heap[b]? = some o → b ≠ i5 → ¬ ((fp b ∨ RB r u b) ∧ was.ownBlock ≠ some b) → w'.heap[b]? = some o := fun w' ho b o hc h5 hs =>
    (ho.block b (by rw [hsz]; exact lt_of_heap hc) hs).trans ((o1.block b (lt_of_heap hc) h5).trans hc)
  have still : ∀ w', Off (fun b => (fp b ∨ RB r u b) ∧ was.ownBlock ≠ some b) Wi w' → Still w' b0 p r kd ko vo was := fun w' ho => st.kept fun b c t hc ht =>
    keep w' ho b _ hc (typ_ne hc c5 (by rcases ht with rfl | rfl | rfl | rfl | rfl <;> decide)) fun hs => by
      obtain ⟨c', t', hc', ht', _⟩ := hSt b hs.1
      rw [hc] at hc'
      cases hc'
      rcases ht with rfl | rfl | rfl | rfl | rfl <;> (rcases ht' with e | e | e | e | e <;> exact absurd e (by decide))
  have n5 : ¬ ((fp i5 ∨ RB r u i5) ∧ was.ownBlock ≠ some i5) := fun hs => by obtain ⟨_, _, _, _, h⟩ := hSt i5 hs.1; exact h rfl
  refine ⟨lc, fun b => (fp b ∨ RB r u b) ∧ was.ownBlock ≠ some b, ⟨⟨fp, u, h1.frame o1 fun b e hf => h4 (e ▸ hf), h2.frame o1 fun b hf e => ?_, fun b hb' => .inl ?_, ?_⟩, h3, Off.refl _ _⟩, still, fun w' l' hD => ?_⟩
  · obtain ⟨_, _, _, _, h⟩ := hSt b (.inr hf)
    exact h e
  · rcases hb' with hb' | rfl
    · refine ⟨.inl hb', fun e => ?_⟩
      obtain ⟨c, hc⟩ := blk b e
      obtain ⟨c', t', hc', ht'⟩ := h1.typ hb'
      rw [hc] at hc'
      cases hc'
      rcases ht' with e | e | e <;> exact absurd e (by decide)
    · refine ⟨.inr (.inl rfl), fun e => ?_⟩
      obtain ⟨c, hc⟩ := blk b e
      have := h2.c
      rw [hc] at this
      cases this
  · rcases h6 with ⟨rfl, rfl⟩ | h6
    · exact .inr (valAt_mem (hx.subset (by simp)))
    · exact .inl fun b hb' => .inl ⟨.inr (.inr hb'), h6 b hb'⟩
  · have ho := hD.off
    have hlt5 : i5 < W.heap.size := lt_of_heap c5
    obtain ⟨⟨fp', u', k1, k2, k3⟩, kg, _⟩ := hD
    have hrow : ∀ (b : Nat) (c : Array Value), was.ownBlock = some b → W.heap[b]? = some (.cells c 45 (0, 0)) → w'.heap[b]? = some (.cells c 45 (0, 0)) := fun b c e hc =>
      keep w' ho b _ hc (typ_ne hc c5 (by decide)) fun hs => hs.2 e
    refine ⟨⟨Nat.le_trans o1.size ho.size, fun b o hc hn => ?_⟩, fun b c hc => ?_, hx, still w' ho, ?_, rw'.keep fun b o v hv he => ?_, fun b hb' => ?_, ⟨l', fp', u', k1, k2, kg, fun hf => ?_, fun b hf => ?_, .inr fun b hf e => ?_⟩, ?_, hb⟩
    · refine keep w' ho b o hc (fun e => ?_) fun hs => ?_
      · rw [e, c5] at hc; cases hc; cases hn
      · obtain ⟨c, t, hc', _⟩ := hSt b hs.1
        rw [hc] at hc'; cases hc'; cases hn
    · refine keep w' ho b _ hc (typ_ne hc c5 (by decide)) fun hs => ?_
      obtain ⟨c', t', hc', ht', _⟩ := hSt b hs.1
      rw [hc] at hc'
      cases hc'
      rcases ht' with e | e | e | e | e <;> exact absurd e (by decide)
    · rw [List.length_append, show [x].length = 1 from rfl, hi5]
      exact (ho.block i5 (by rw [hsz]; exact hlt5) n5).trans z5
    · obtain ⟨c, hc⟩ := blk b he
      have e : w'.cell? ⟨b, o, none⟩ = W.cell? ⟨b, o, none⟩ := by
        unfold World.cell?
        simp only
        rw [hrow _ _ he hc, hc]
      rw [e]; exact hv
    · obtain ⟨c, hc⟩ := blk b hb'
      exact ⟨c, hrow b c hb' hc⟩
    · rw [hi5] at hf
      rcases k3 i5 (.inl hf) with h | h
      · exact n5 h
      · omega
    · rcases k3 b hf with h | h
      · exact h5 b h.1
      · exact .inr (Nat.le_trans off.size (by omega))
    · rcases k3 b (.inr (.inr hf)) with h | h
      · exact h.2 e
      · obtain ⟨c, hc⟩ := blk b e
        have := lt_of_heap hc
        omega
    · refine (off.trans' o1 fun i hi e => absurd hi (by omega)).trans' ho fun i hi hs => (h5 i hs.1).elim id fun h => absurd h (by omega)
theorem cj_done {w0 : World} {S0 : Nat → Prop} {b0 p r : Nat} {kd ko vo : Int} {l : List (Nat × Int)} {was : Value} {pre : List (Nat × Int)} {W W' : World} (h : CJ w0 S0 b0 p r kd ko vo l was pre W) {D : Nat} {o : Obj} (hD : b0 ≤ D) (hK : W.heap[D]? = some o) (hn : o.isCells = false) (ho : Off (fun b => b = b0 + 1 + 1 + 1 ∨ b = D) W W') : ∃ lc, Duo w0 W' S0 p r lc lc := by
  obtain ⟨pf, st, c5, rw', blk, ⟨lc, fp, u, h1, h2, h3, h4, h5, h6⟩, off, hb⟩ := h
  have c3 := st.c3
  refine ⟨lc, ⟨⟨fp, u, h1.frame ho fun b e hf => ?_, h2.frame ho fun b hf e => ?_, h5⟩, h3, off.trans' ho fun i hi e => absurd hi (by omega)⟩⟩
  · obtain ⟨c, t, hc, ht⟩ := h1.typ hf
    rcases e with rfl | rfl
    · rw [hc] at c3; cases c3; rcases ht with e | e | e <;> exact absurd e (by decide)
    · rw [hc] at hK; cases hK; cases hn
  · obtain ⟨c, t, hc, ht⟩ := h2.typ hf
    rcases e with rfl | rfl
    · rw [hc] at c3; cases c3; rcases ht with e | e <;> exact absurd e (by decide)
    · rw [hc] at hK; cases hK; cases hn
theorem results_cell1 {fn : Func} {p : Tmp} {ty : TypeId} {P : Program} {tmps : Array Value} {w : World} {a : Addr} {v : Value} (h : fn.results = #[.cell p ty]) (hp : tmps.getD p undef = .pointer (some a)) (hl : (loadVar ty a).run P w = .ok v w) : (results fn tmps).run P w = .ok v w := by
  have hp' : tmps[p]?.getD undef = .pointer (some a) := by simpa using hp
  simp [results, h, hp', asAddr, hl]
theorem Still.cells {W : World} {b0 p r : Nat} {kd ko vo : Int} {was : Value} (h : Still W b0 p r kd ko vo was) :
    W.cell? ⟨b0, 0, none⟩ = some (.pointer (some ⟨p, 0, none⟩)) ∧ W.cell? ⟨b0 + 1, 0, none⟩ = some (.pointer (some ⟨r, 0, none⟩)) ∧ W.cell? ⟨b0 + 1 + 1, 1, none⟩ = some (.int .i64 ko) ∧ W.cell? ⟨b0 + 1 + 1, 2, none⟩ = some (.int .i64 vo) :=
  ⟨cell_of h.c0 rfl, cell_of h.c1 rfl, cell_of h.c2 rfl, cell_of h.c2 rfl⟩
end Go.Proofs.Ythpjcbaijbppiaa
