/- A tree and the document's tree beside it: their calls in any order. -/
import Derived.Test.YthpjcbaijbppiaaRef4
namespace Go.Proofs.Ythpjcbaijbppiaa
open Go.RowKit Go.Proofs
set_option linter.unusedVariables false
set_option linter.unusedSimpArgs false
structure GoodR (l : List (Nat × Int)) : Prop where
  srt : Srt l
  key : ∀ x ∈ l, x.1 < 1048576
theorem srt_room {V : Type} {N : Nat} : ∀ {l : List (Nat × V)} {c : Nat}, Srt l → (∀ x ∈ l, x.1 < N) → (∀ x ∈ l, c ≤ x.1) → c ≤ N → c + l.length ≤ N
  | [], c, _, _, _, h => h
  | x :: t, c, hs, hN, hc, h => by
    have h1 := hN x (by simp)
    have h2 := hc x (by simp)
    have h3 := List.pairwise_cons.1 hs
    have := srt_room (l := t) (c := c + 1) h3.2 (fun y hy => hN y (by simp [hy])) (fun y hy => by have := h3.1 y hy; omega) (by omega)
    rw [List.length_cons]
    omega
theorem GoodR.len {l : List (Nat × Int)} (h : GoodR l) : l.length ≤ 1048576 := by
  have := srt_room (N := 1048576) (c := 0) h.srt h.key (fun _ _ => Nat.zero_le _) (Nat.zero_le _)
  omega
theorem GoodR.filter {l : List (Nat × Int)} (h : GoodR l) (p : Nat × Int → Bool) : GoodR (l.filter p) :=
  ⟨h.srt.filter p, fun x hx => h.key x (List.mem_filter.1 hx).1⟩
theorem GoodR.put {l : List (Nat × Int)} (h : GoodR l) (k u : Int) : GoodR (putL l k u) := by
  unfold putL
  by_cases hm : mayB k = true
  · rw [if_pos hm]
    have hm' := of_decide_eq_true hm
    refine ⟨srt_insL h.srt, fun x hx => ?_⟩
    rcases (mem_insL h.srt _).1 hx with rfl | ⟨_, h2⟩
    · show k.toNat < _
      omega
    · exact h.key x h2
  · rw [if_neg hm]; exact h
/-- The two trees, their lists, their blocks. -/
structure Duo (w0 w : World) (S0 : Nat → Prop) (p r : Nat) (l lr : List (Nat × Int)) : Prop where
  ex : ∃ fp u, TR kInt w p l fp ∧ RF w r lr u ∧ ∀ b, fp b ∨ RB r u b → S0 b ∨ w0.heap.size ≤ b
  good : GoodR lr
  off : Off S0 w0 w
theorem TR.goodR {w : World} {p : Nat} {l : List (Nat × Int)} {fp : Nat → Prop} (h : TR kInt w p l fp) : GoodR l := ⟨h.srt, fun x hx => h.key hx⟩
theorem apart {w : World} {p r : Nat} {l lr : List (Nat × Int)} {fp : Nat → Prop} {u : Value} (h : TR kInt w p l fp) (k : RF w r lr u) {b : Nat} (hb : fp b) (hr : RB r u b) : False := by
  obtain ⟨c, t, hc, ht⟩ := h.typ hb
  obtain ⟨c', t', hc', ht'⟩ := k.typ hr
  rw [hc] at hc'
  cases hc'
  rcases ht' with rfl | rfl <;> rcases ht with h | h | h <;> exact absurd h (by decide)
theorem Duo.below {w0 w w' : World} {S0 : Nat → Prop} {p r : Nat} {l lr : List (Nat × Int)} (h : Duo w0 w S0 p r l lr) (hb : Below w.heap.size w w') : Duo w0 w' S0 p r l lr := by
  obtain ⟨⟨fp, u, h1, h2, h3⟩, hg, ho⟩ := h
  exact ⟨⟨fp, u, h1.below hb, h2.below hb, h3⟩, hg, ho.trans' (Off.of_below (S := fun _ => False) hb) fun _ _ h => h.elim⟩
theorem Duo.drew {w0 w : World} {S0 : Nat → Prop} {p r : Nat} {l lr : List (Nat × Int)} (h : Duo w0 w S0 p r l lr) : Duo w0 w.drew S0 p r l lr :=
  h.below ((Below.refl _ _).drew)
theorem Duo.turnT {w0 w w' : World} {S0 : Nat → Prop} {p r : Nat} {l l' lr : List (Nat × Int)} {fp : Nat → Prop} {u : Value} (h1 : TR kInt w p l fp) (h2 : RF w r lr u) (h3 : ∀ b, fp b ∨ RB r u b → S0 b ∨ w0.heap.size ≤ b) (hg : GoodR lr) (ho : Off S0 w0 w) (ht : Turn kInt w p l' fp w') : Duo w0 w' S0 p r l' lr := by
  have hkt := ht.kt h1
  obtain ⟨fp', k1, k2, k3⟩ := ht
  refine ⟨⟨fp', u, k1, h2.kt hkt, fun b hb => ?_⟩, hg, ?_⟩
  · rcases hb with hb | hb
    · rcases k3 b hb with h | h
      · exact h3 b (.inl h)
      · exact .inr (Nat.le_trans ho.size h)
    · exact h3 b (.inr hb)
  · exact ho.trans' k2 fun i hi h => (h3 i (.inl h)).elim id fun h => absurd h (by omega)
theorem Duo.turnR {w0 w w' : World} {S0 : Nat → Prop} {p r : Nat} {l lr lr' : List (Nat × Int)} {fp : Nat → Prop} {u : Value} (h1 : TR kInt w p l fp) (h2 : RF w r lr u) (h3 : ∀ b, fp b ∨ RB r u b → S0 b ∨ w0.heap.size ≤ b) (hg : GoodR lr') (ho : Off S0 w0 w) (ht : RTurn w r u lr' w') : Duo w0 w' S0 p r l lr' := by
  obtain ⟨u', k1, k2, k3⟩ := ht
  refine ⟨⟨fp, u', h1.frame k2 fun b a c => apart h1 h2 c a, k1, fun b hb => ?_⟩, hg, ?_⟩
  · rcases hb with hb | hb | hb
    · exact h3 b (.inl hb)
    · exact h3 b (.inr (.inl hb))
    · rcases k3 b hb with h | h
      · exact h3 b (.inr (.inr h))
      · exact .inr (Nat.le_trans ho.size h)
  · exact ho.trans' k2 fun i hi h => (h3 i (.inr h)).elim id fun h => absurd h (by omega)
section
variable {w0 w : World} {S0 : Nat → Prop} {p r : Nat} {l lr : List (Nat × Int)}
theorem Duo.tput (h : Duo w0 w S0 p r l lr) (k v : Int) : Calls Try.prog 21 #[.pointer (some ⟨p, 0, none⟩), .int .i64 k, .int .i64 v] w fun e w' => e = .returned (.int .i64 (putR k)) ∧ Duo w0 w' S0 p r (putL l k v) lr := by
  obtain ⟨⟨fp, u, h1, h2, h3⟩, hg, ho⟩ := h
  refine (api_putI w p l fp h1 k v).mono ?_
  rintro e w' ⟨rfl, ht⟩
  exact ⟨rfl, Duo.turnT h1 h2 h3 hg ho ht⟩
theorem Duo.tget (h : Duo w0 w S0 p r l lr) (k : Int) : Calls Try.prog 18 #[.pointer (some ⟨p, 0, none⟩), .int .i64 k] w fun e w' => e = .returned (.tuple #[.int .i64 ((valAt l k).getD 0), .bool (valAt l k).isSome]) ∧ Duo w0 w' S0 p r l lr := by
  obtain ⟨fp, u, h1, h2, h3⟩ := h.ex
  refine (api_get w p l fp h1 k).mono ?_
  rintro e w' ⟨rfl, m, rfl⟩
  exact ⟨rfl, h.below (below_drewN' _ _)⟩
theorem Duo.tdrop (h : Duo w0 w S0 p r l lr) (k : Int) : Calls Try.prog 22 #[.pointer (some ⟨p, 0, none⟩), .int .i64 k] w fun e w' => e = .returned (.bool (valAt l k).isSome) ∧ Duo w0 w' S0 p r (dropL l k) lr := by
  obtain ⟨⟨fp, u, h1, h2, h3⟩, hg, ho⟩ := h
  refine (api_drop w p l fp h1 k).mono ?_
  rintro e w' ⟨rfl, ht⟩
  exact ⟨rfl, Duo.turnT h1 h2 h3 hg ho ht⟩
theorem Duo.tcut (h : Duo w0 w S0 p r l lr) (k : Int) : Calls Try.prog 20 #[.pointer (some ⟨p, 0, none⟩), .int .i64 k] w fun e w' => e = .returned (.int .i64 ((l.length : Int) - ((cutL l k).length : Int))) ∧ Duo w0 w' S0 p r (cutL l k) lr := by
  obtain ⟨⟨fp, u, h1, h2, h3⟩, hg, ho⟩ := h
  refine (api_cut w p l fp h1 k).mono ?_
  rintro e w' ⟨rfl, ht⟩
  exact ⟨rfl, Duo.turnT h1 h2 h3 hg ho ht⟩
theorem Duo.tpairs (h : Duo w0 w S0 p r l lr) (stop : Int) : Calls Try.prog 15 #[.pointer (some ⟨p, 0, none⟩), .int .i64 stop] w fun e w' => ∃ v, e = .returned v ∧ PRow w' v (firstN l stop) ∧ Duo w0 w' S0 p r l lr ∧ Below w.heap.size w w' := by
  obtain ⟨fp, u, h1, h2, h3⟩ := h.ex
  refine (api_pairs w p l fp h1 stop).mono ?_
  rintro e w' ⟨v, rfl, hr, hb⟩
  exact ⟨v, rfl, PRow.of_own hr, h.below hb, hb⟩
theorem Duo.tlen (h : Duo w0 w S0 p r l lr) : Calls Try.prog 11 #[.pointer (some ⟨p, 0, none⟩)] w fun e w' => e = .returned (.int .i64 (l.length : Int)) ∧ w = w' := by
  obtain ⟨fp, u, h1, h2, h3⟩ := h.ex
  exact api_len w p l fp h1
theorem Duo.height (h : Duo w0 w S0 p r l l) : ∃ n : Nat, n ≤ 5 ∧ (Calls Try.prog 12 #[.pointer (some ⟨p, 0, none⟩)] w fun e w' => e = .returned (.int .i64 (n : Int)) ∧ w = w') ∧
    (Calls Try.prog 13 #[.pointer (some ⟨r, 0, none⟩)] w fun e w' => e = .returned (.int .i64 (n : Int)) ∧ Below w.heap.size w w') := by
  obtain ⟨fp, u, h1, h2, h3⟩ := h.ex
  obtain ⟨n, hn, h5⟩ := h1.ht
  exact ⟨n, h5, api_height w p l fp h1 n hn, rheight_calls w r u l h2 h.good.len h.good.key n hn⟩
theorem Duo.rput (h : Duo w0 w S0 p r l lr) (k v : Int) : Calls Try.prog 34 #[.pointer (some ⟨r, 0, none⟩), .int .i64 k, .int .i64 v] w fun e w' => e = .returned (.int .i64 (putR k)) ∧ Duo w0 w' S0 p r l (putL lr k v) := by
  obtain ⟨⟨fp, u, h1, h2, h3⟩, hg, ho⟩ := h
  refine (rput_calls w r u lr h2 hg.len hg.srt k v).mono ?_
  rintro e w' ⟨rfl, ht⟩
  exact ⟨rfl, Duo.turnR h1 h2 h3 (hg.put k v) ho ht⟩
theorem Duo.rget (h : Duo w0 w S0 p r l lr) (k : Int) : Calls Try.prog 35 #[.pointer (some ⟨r, 0, none⟩), .int .i64 k] w fun e w' => e = .returned (.tuple #[.int .i64 ((valAt lr k).getD 0), .bool (valAt lr k).isSome]) ∧ Duo w0 w' S0 p r l lr := by
  obtain ⟨fp, u, h1, h2, h3⟩ := h.ex
  refine (rget_calls w r u lr h2 h.good.len h.good.srt k).mono ?_
  rintro e w' ⟨rfl, hb⟩
  exact ⟨rfl, h.below hb⟩
theorem Duo.rdrop (h : Duo w0 w S0 p r l lr) (k : Int) : Calls Try.prog 36 #[.pointer (some ⟨r, 0, none⟩), .int .i64 k] w fun e w' => e = .returned (.bool (valAt lr k).isSome) ∧ Duo w0 w' S0 p r l (dropL lr k) := by
  obtain ⟨⟨fp, u, h1, h2, h3⟩, hg, ho⟩ := h
  refine (rdrop_calls w r u lr h2 hg.len hg.srt k).mono ?_
  rintro e w' ⟨rfl, ht, _⟩
  exact ⟨rfl, Duo.turnR h1 h2 h3 (hg.filter _) ho ht⟩
theorem Duo.rcut (h : Duo w0 w S0 p r l lr) (k : Int) : Calls Try.prog 37 #[.pointer (some ⟨r, 0, none⟩), .int .i64 k] w fun e w' => e = .returned (.int .i64 ((lr.length : Int) - ((cutL lr k).length : Int))) ∧ Duo w0 w' S0 p r l (cutL lr k) := by
  obtain ⟨⟨fp, u, h1, h2, h3⟩, hg, ho⟩ := h
  refine (rcut_calls w r u lr h2 hg.len hg.srt k).mono ?_
  rintro e w' ⟨rfl, ht⟩
  exact ⟨rfl, Duo.turnR h1 h2 h3 (hg.filter _) ho ht⟩
/-- The document's row, as it lies. -/
theorem Duo.row (h : Duo w0 w S0 p r l lr) : ∃ A cap, w.cell? ⟨r, 0, none⟩ = some (.slice A lr.length cap) ∧ lr.length ≤ cap ∧ PRow w (.slice A lr.length cap) lr ∧ w.ownsRow 0 45 2 (.slice A lr.length cap) lr.length (encP lr) := by
  obtain ⟨fp, u, h1, h2, h3⟩ := h.ex
  obtain ⟨A, cap, rfl⟩ := h2.form
  refine ⟨A, cap, h2.cell, ?_, PRow.of_own h2.o, h2.o⟩
  rcases h2.o.2 with ⟨e, h0⟩ | ⟨g, cap', cur, e, hg, hh, hc, hm, hs, ht⟩
  · omega
  · injection e with e1 e2 e3; omega
theorem Duo.lenT (h : Duo w0 w S0 p r l lr) : l.length ≤ 1048576 := by
  obtain ⟨fp, u, h1, h2, h3⟩ := h.ex
  exact h1.len
end
end Go.Proofs.Ythpjcbaijbppiaa
