/- The document's tree: place, has, Get, Height, Cut. -/
import Derived.Test.YthpjcbaijbppiaaRefPure
namespace Go.Proofs.Ythpjcbaijbppiaa
open Go.RowKit Go.Proofs
set_option linter.unusedVariables false
set_option linter.unusedSimpArgs false
set_option maxRecDepth 100000
theorem place_calls (w : World) (r : Nat) (v : Value) (a b : List (Nat × Int)) (h : RF w r (a ++ b) v) (hlen : (a ++ b).length ≤ 1048576) (k : Int) (ha : ∀ x ∈ a, (x.1 : Int) < k) (hb : ∀ x ∈ b, k ≤ (x.1 : Int)) :
    Calls Try.prog 50 #[.pointer (some ⟨r, 0, none⟩), .int .i64 k] w fun e w' => e = .returned (.int .i64 (a.length : Int)) ∧ w = w' := by
  have c0 := h.cell
  by_cases hp : 0 < (a ++ b).length
  · obtain ⟨g, cap, cur, rfl, _, _, _, _, _, hc⟩ := h.row hp
    have HC := Lib.hid hc
    have HA := Lib.hid ha
    have HBb := Lib.hid hb
    clear h ha hb hc hp
    rw [List.length_append] at c0 hlen
    go_enter Try.func50, Try.ntmps50
    go_wp2
    go_loop [5] (fun s5 => ∃ i : Nat, s5 = .int .i64 (i : Int) ∧ i ≤ a.length) (fun s5 => a.length - (intOf s5).toNat)
    case atStart => exact ⟨0, rfl, by omega⟩
    case round =>
      obtain ⟨i, rfl, hi⟩ := hrel
      by_cases hlt : i < a.length
      · obtain ⟨x, hx⟩ : ∃ x, a[i]? = some x := ⟨_, List.getElem?_eq_getElem hlt⟩
        have hx2 : (a ++ b)[i]? = some x := by rw [List.getElem?_append_left hlt]; exact hx
        obtain ⟨c1, c2⟩ := HC.out i x hx2
        have hk := HA.out x (List.mem_of_getElem? hx)
        have hil : (i : Int) < (a.length : Int) + (b.length : Int) := by omega
        have hil2 : i < a.length + b.length := by omega
        clear hx hx2
        go_wp2
        go_roundw
        case rel => exact ⟨i + 1, by go_num, by omega⟩
        case measure => simp [intOf]; omega
      · obtain rfl : i = a.length := by omega
        cases b with
        | nil =>
          rw [List.length_nil] at hlen c0
          go_wp2
          go_ret
          exact ⟨rfl, rfl⟩
        | cons x t =>
          have hx2 : (a ++ x :: t)[a.length]? = some x := by rw [List.getElem?_append_right (Nat.le_refl _)]; simp
          obtain ⟨c1, c2⟩ := HC.out _ x hx2
          have hk := HBb.out x (by simp)
          have hk2 : ¬ (x.1 : Int) < k := by omega
          rw [List.length_cons] at hlen c0
          clear hx2
          go_wp2
          go_ret
          exact ⟨rfl, rfl⟩
  · have e : a ++ b = [] := List.eq_nil_of_length_eq_zero (by omega)
    obtain ⟨rfl, rfl⟩ := List.append_eq_nil_iff.1 e
    obtain ⟨A, cap, rfl⟩ := h.form
    clear h ha hb hp e
    go_enter Try.func50, Try.ntmps50
    go_wp2
    go_loop [5] (fun i => i = .int .i64 0) (fun _ => 0)
    case atStart => exact rfl
    case round =>
      obtain rfl := hrel
      go_wp2
      go_ret
      exact ⟨rfl, rfl⟩
theorem has_none (w : World) (r : Nat) (v : Value) (a b : List (Nat × Int)) (h : RF w r (a ++ b) v) (hlen : (a ++ b).length ≤ 1048576) (k : Int) (ha : ∀ x ∈ a, (x.1 : Int) < k) (hb : ∀ x ∈ b, k < (x.1 : Int)) :
    Calls Try.prog 51 #[.pointer (some ⟨r, 0, none⟩), .int .i64 k] w fun e w' => e = .returned (.bool false) ∧ w = w' := by
  have PC := Lib.hid (place_calls w r v a b h hlen k ha fun x hx => Int.le_of_lt (hb x hx))
  have c0 := h.cell
  cases b with
  | nil =>
    rw [List.append_nil] at h hlen
    obtain ⟨A, cap, rfl⟩ := h.form
    try rw [List.append_nil] at PC
    clear h ha hb
    go_enter Try.func51, Try.ntmps51
    go_wp2_with fail
    refine PC.out.mono ?_
    rintro e w' ⟨rfl, rfl⟩
    go_wp2
    go_ret
    exact ⟨rfl, rfl⟩
  | cons x t =>
    obtain ⟨g, cap, cur, rfl, _, _, _, _, _, hc⟩ := h.row (by rw [List.length_append, List.length_cons]; omega)
    obtain ⟨c1, c2⟩ := hc a.length x (by rw [List.getElem?_append_right (Nat.le_refl _)]; simp)
    have hk := hb x (by simp)
    have n1 : ((x.1 : Int) == k) = false := beq_eq_false_iff_ne.2 (by omega)
    rw [List.length_append, List.length_cons] at hlen c0
    have hl2 : (a.length : Int) < (a.length : Int) + ((t.length : Int) + 1) := by omega
    clear h ha hb hc
    go_enter Try.func51, Try.ntmps51
    go_wp2_with fail
    refine PC.out.mono ?_
    rintro e w' ⟨rfl, rfl⟩
    go_wp2
    go_ret
    exact ⟨rfl, rfl⟩
theorem has_some (w : World) (r : Nat) (v : Value) (a t : List (Nat × Int)) (x : Nat × Int) (h : RF w r (a ++ x :: t) v) (hlen : (a ++ x :: t).length ≤ 1048576) (ha : ∀ y ∈ a, (y.1 : Int) < (x.1 : Int)) (hb : ∀ y ∈ t, (x.1 : Int) < (y.1 : Int)) :
    Calls Try.prog 51 #[.pointer (some ⟨r, 0, none⟩), .int .i64 (x.1 : Int)] w fun e w' => e = .returned (.bool true) ∧ w = w' := by
  have PC := Lib.hid (place_calls w r v a (x :: t) h hlen x.1 ha fun y hy => by
    rcases List.mem_cons.1 hy with rfl | hy
    · exact Int.le_refl _
    · exact Int.le_of_lt (hb y hy))
  have c0 := h.cell
  obtain ⟨g, cap, cur, rfl, _, _, _, _, _, hc⟩ := h.row (by rw [List.length_append, List.length_cons]; omega)
  obtain ⟨c1, c2⟩ := hc a.length x (by rw [List.getElem?_append_right (Nat.le_refl _)]; simp)
  have n1 : ((x.1 : Int) == (x.1 : Int)) = true := beq_self_eq_true _
  rw [List.length_append, List.length_cons] at hlen c0
  have hl2 : (a.length : Int) < (a.length : Int) + ((t.length : Int) + 1) := by omega
  clear h ha hb hc
  go_enter Try.func51, Try.ntmps51
  go_wp2_with fail
  refine PC.out.mono ?_
  rintro e w' ⟨rfl, rfl⟩
  go_wp2
  go_ret
  exact ⟨rfl, rfl⟩
/-- The three ways of a key. -/
theorem key_ways {l : List (Nat × Int)} (hs : Srt l) (k : Int) :
    (∃ a b, l = a ++ b ∧ (∀ x ∈ a, (x.1 : Int) < k) ∧ (∀ x ∈ b, k < (x.1 : Int)) ∧ valAt l k = none) ∨
    (∃ a x t, l = a ++ x :: t ∧ k = (x.1 : Int) ∧ (∀ y ∈ a, (y.1 : Int) < (x.1 : Int)) ∧ (∀ y ∈ t, (x.1 : Int) < (y.1 : Int)) ∧ valAt l k = some x.2) := by
  obtain ⟨a, b, rfl, ha, hb⟩ := split_at hs k
  cases b with
  | nil => exact .inl ⟨a, [], rfl, ha, fun _ h => (by cases h), by rw [valAt_split ha]; rfl⟩
  | cons x t =>
    have hab := above_of hs
    by_cases e : k = (x.1 : Int)
    · subst e
      exact .inr ⟨a, x, t, rfl, rfl, ha, fun y hy => by have := hab y hy; omega, by rw [valAt_split ha, valAt_head rfl]⟩
    · have hx := hb x (by simp)
      have h2 : ∀ y ∈ x :: t, k < (y.1 : Int) := fun y hy => by
        rcases List.mem_cons.1 hy with rfl | hy
        · omega
        · have := hab y hy; omega
      exact .inl ⟨a, x :: t, rfl, ha, h2, by rw [valAt_split ha, valAt_above h2]⟩
theorem qz {P : Program} {f : FuncId} {args : Array Value} {w : World} {n : Nat} {v : Value} (h : Calls P f args (w.drewN n) fun e w' => e = .returned v ∧ w.drewN n = w') :
    Calls P f args (w.drewN n) fun e w'' => e = .returned v ∧ ∃ m, w'' = w.drewN m := h.mono fun _ _ ⟨he, hm⟩ => ⟨he, n, hm.symm⟩
theorem rget_calls (w : World) (r : Nat) (v : Value) (l : List (Nat × Int)) (h : RF w r l v) (hlen : l.length ≤ 1048576) (hs : Srt l) (k : Int) :
    Calls Try.prog 35 #[.pointer (some ⟨r, 0, none⟩), .int .i64 k] w fun e w' => e = .returned (.tuple #[.int .i64 ((valAt l k).getD 0), .bool (valAt l k).isSome]) ∧ Below w.heap.size w w' := by
  rcases key_ways hs k with ⟨a, b, rfl, ha, hb, hv⟩ | ⟨a, x, t, rfl, rfl, ha, hb, hv⟩
  · have HC := Lib.hid (has_none w r v a b h hlen k ha hb)
    rw [hv]
    clear h hlen hs ha hb hv
    go_enter Try.func35, Try.ntmps35
    go_wp2_with fail
    refine HC.out.mono ?_
    rintro e w' ⟨rfl, rfl⟩
    go_wp2
    go_ret2
    exact ⟨rfl, Below.refl _ _⟩
  · have HC := Lib.hid (has_some w r v a t x h hlen ha hb)
    have PC : ∀ w1, Below w.heap.size w w1 → Calls Try.prog 50 #[.pointer (some ⟨r, 0, none⟩), .int .i64 (x.1 : Int)] w1 fun e w' => e = .returned (.int .i64 (a.length : Int)) ∧ w1 = w' := fun w1 hb1 => place_calls w1 r v a (x :: t) (h.below hb1) hlen x.1 ha fun y hy => by
      rcases List.mem_cons.1 hy with rfl | hy
      · exact Int.le_refl _
      · exact Int.le_of_lt (hb y hy)
    have PC := Lib.hid PC
    have c0 := h.cell
    obtain ⟨g, cap, cur, rfl, _, _, _, _, _, hc⟩ := h.row (by rw [List.length_append, List.length_cons]; omega)
    obtain ⟨c1, c2⟩ := hc a.length x (by rw [List.getElem?_append_right (Nat.le_refl _)]; simp)
    rw [List.length_append, List.length_cons] at hlen c0
    have hl2 : (a.length : Int) < (a.length : Int) + ((t.length : Int) + 1) := by omega
    have hl3 : a.length < a.length + (t.length + 1) := by omega
    rw [hv]
    clear h hs ha hb hc hv
    go_enter Try.func35, Try.ntmps35
    go_wp2_with fail
    refine HC.out.mono ?_
    rintro e w' ⟨rfl, rfl⟩
    go_wp2_with fail
    go_quiet ((go_at_call 50; exact qz (PC.out _ (below_drewN' _ _))))
    go_wp2
    go_ret2
    exact ⟨rfl, below_drewN' _ _⟩
end Go.Proofs.Ythpjcbaijbppiaa
