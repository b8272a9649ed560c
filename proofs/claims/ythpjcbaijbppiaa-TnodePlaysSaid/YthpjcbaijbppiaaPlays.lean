/- plays: a call of both. -/
import Derived.Test.YthpjcbaijbppiaaDuo
namespace Go.Proofs.Ythpjcbaijbppiaa
open Go.RowKit Go.Proofs
set_option linter.unusedVariables false
set_option linter.unusedSimpArgs false
set_option maxRecDepth 100000
def DuoEnd (w0 : World) (S0 : Nat → Prop) (p r : Nat) (e : Ending) (w' : World) : Prop := e = .returned (.bool true) ∧ ∃ l', Duo w0 w' S0 p r l' l'
/-- The op lies in a block of its own; from there on. -/
theorem Duo.boxed {w0 w : World} {S0 : Nat → Prop} {p r : Nat} {l lr : List (Nat × Int)} (h : Duo w0 w S0 p r l lr) (kd k v : Int) :
    ∃ W S, W = w.alloc (.cells #[.int .i64 kd, .int .i64 k, .int .i64 v] 31) ∧ Duo W W S p r l lr ∧ (∀ w' l' lr', Duo W w' S p r l' lr' → Duo w0 w' S0 p r l' lr') ∧
      ∀ w' l' lr', Duo W w' S p r l' lr' → w'.cell? ⟨w.heap.size, 0, none⟩ = some (.int .i64 kd) ∧ w'.cell? ⟨w.heap.size, 1, none⟩ = some (.int .i64 k) ∧ w'.cell? ⟨w.heap.size, 2, none⟩ = some (.int .i64 v) := by
  have hb : Below w.heap.size w (w.alloc (.cells #[.int .i64 kd, .int .i64 k, .int .i64 v] 31)) := (Below.refl _ _).alloc (Nat.le_refl _) _
  obtain ⟨⟨fp, u, h1, h2, h3⟩, hg, ho⟩ := h
  have z := heap_alloc_new w (.cells #[.int .i64 kd, .int .i64 k, .int .i64 v] 31)
  refine ⟨_, fun b => fp b ∨ RB r u b, rfl, ⟨⟨fp, u, h1.below hb, h2.below hb, fun b hb => .inl hb⟩, hg, Off.refl _ _⟩, fun w' l' lr' hD => ?_, fun w' l' lr' hD => ?_⟩
  · obtain ⟨⟨fp', u', k1, k2, k3⟩, kg, ko⟩ := hD
    refine ⟨⟨fp', u', k1, k2, fun b hb' => ?_⟩, kg, ?_⟩
    · rcases k3 b hb' with h | h
      · exact h3 b h
      · exact .inr (Nat.le_trans (Nat.le_trans ho.size hb.size) h)
    · refine (ho.trans' (Off.of_below (S := fun _ => False) hb) fun _ _ h => h.elim).trans' ko fun i hi h => (h3 i h).elim id fun h => absurd h (by omega)
  · have hz : w'.heap[w.heap.size]? = some (.cells #[.int .i64 kd, .int .i64 k, .int .i64 v] 31 (0, 0)) := by
      refine (hD.off.block w.heap.size (by simp) fun hh => ?_).trans z
      rcases hh with hh | hh
      · have := h1.lt hh; omega
      · have := h2.lt hh; omega
    exact ⟨cell_of hz rfl, cell_of hz rfl, cell_of hz rfl⟩
theorem plays_put (w0 w : World) (S0 : Nat → Prop) (p r : Nat) (l : List (Nat × Int)) (h : Duo w0 w S0 p r l l) (k v : Int) :
    Calls Try.prog 10 #[.pointer (some ⟨p, 0, none⟩), .pointer (some ⟨r, 0, none⟩), .agg #[.int .i64 1, .int .i64 k, .int .i64 v]] w (DuoEnd w0 S0 p r) := by
  obtain ⟨W, S, hW, hD, hE, hC⟩ := h.boxed 1 k v
  have D0 := Lib.hid hD.drew
  obtain ⟨q0, q1, q2⟩ := hC _ _ _ hD
  have KC := Lib.hid hC
  have KE := Lib.hid hE
  clear h hD hE hC
  have b1 : ((putR k) == (putR k)) = true := beq_self_eq_true _
  generalize hR : (putR k) = R at b1
  have HR := Lib.hid hR
  clear hR
  go_enter Try.func10, Try.ntmps10
  go_wp2_with fail
  rw [← hW]
  clear hW
  go_wp2_with fail
  go_region_held3 (fun W => W.cell? ⟨w.heap.size, 1, none⟩ = some (.int .i64 k) ∧ W.cell? ⟨w.heap.size, 2, none⟩ = some (.int .i64 v))
    (first | go_keep | exact ⟨cc1, cc2⟩)
    (first
      | (go_at_call 23; (with_reducible refine (no_calls _ _).mono ?_); rintro e w1 ⟨rfl, rfl⟩)
      | (go_at_call 21; (with_reducible refine (D1.out.tput k v).mono ?_); rintro e w1 ⟨rfl, h2⟩; rw [HR.out]; obtain ⟨_, cc1, cc2⟩ := KC.out _ _ _ h2; have D2 := Lib.hid h2; clear h2)
      | (go_at_call 21; (with_reducible refine (D0.out.tput k v).mono ?_); rintro e w1 ⟨rfl, h1⟩; rw [HR.out]; obtain ⟨_, cc1, cc2⟩ := KC.out _ _ _ h1; have D1 := Lib.hid h1; clear h1)
      | (go_at_call 34; (with_reducible refine (D1.out.rput k v).mono ?_); rintro e w1 ⟨rfl, h2⟩; rw [HR.out]; obtain ⟨_, cc1, cc2⟩ := KC.out _ _ _ h2; have D2 := Lib.hid h2; clear h2)
      | (go_at_call 34; (with_reducible refine (D0.out.rput k v).mono ?_); rintro e w1 ⟨rfl, h1⟩; rw [HR.out]; obtain ⟨_, cc1, cc2⟩ := KC.out _ _ _ h1; have D1 := Lib.hid h1; clear h1))
  all_goals (go_wp2; go_ret; exact ⟨rfl, _, KE.out _ _ _ D2.out⟩)
theorem plays_drop (w0 w : World) (S0 : Nat → Prop) (p r : Nat) (l : List (Nat × Int)) (h : Duo w0 w S0 p r l l) (k v : Int) :
    Calls Try.prog 10 #[.pointer (some ⟨p, 0, none⟩), .pointer (some ⟨r, 0, none⟩), .agg #[.int .i64 3, .int .i64 k, .int .i64 v]] w (DuoEnd w0 S0 p r) := by
  obtain ⟨W, S, hW, hD, hE, hC⟩ := h.boxed 3 k v
  have D0 := Lib.hid hD.drew
  obtain ⟨q0, q1, q2⟩ := hC _ _ _ hD
  have KC := Lib.hid hC
  have KE := Lib.hid hE
  clear h hD hE hC
  have b1 : (((valAt l k).isSome) == ((valAt l k).isSome)) = true := beq_self_eq_true _
  generalize hR : ((valAt l k).isSome) = R at b1
  have HR := Lib.hid hR
  clear hR
  go_enter Try.func10, Try.ntmps10
  go_wp2_with fail
  rw [← hW]
  clear hW
  go_wp2_with fail
  go_region_held3 (fun W => W.cell? ⟨w.heap.size, 1, none⟩ = some (.int .i64 k) ∧ W.cell? ⟨w.heap.size, 2, none⟩ = some (.int .i64 v))
    (first | go_keep | exact ⟨cc1, cc2⟩)
    (first
      | (go_at_call 23; (with_reducible refine (no_calls _ _).mono ?_); rintro e w1 ⟨rfl, rfl⟩)
      | (go_at_call 22; (with_reducible refine (D1.out.tdrop k).mono ?_); rintro e w1 ⟨rfl, h2⟩; rw [HR.out]; obtain ⟨_, cc1, cc2⟩ := KC.out _ _ _ h2; have D2 := Lib.hid h2; clear h2)
      | (go_at_call 22; (with_reducible refine (D0.out.tdrop k).mono ?_); rintro e w1 ⟨rfl, h1⟩; rw [HR.out]; obtain ⟨_, cc1, cc2⟩ := KC.out _ _ _ h1; have D1 := Lib.hid h1; clear h1)
      | (go_at_call 36; (with_reducible refine (D1.out.rdrop k).mono ?_); rintro e w1 ⟨rfl, h2⟩; rw [HR.out]; obtain ⟨_, cc1, cc2⟩ := KC.out _ _ _ h2; have D2 := Lib.hid h2; clear h2)
      | (go_at_call 36; (with_reducible refine (D0.out.rdrop k).mono ?_); rintro e w1 ⟨rfl, h1⟩; rw [HR.out]; obtain ⟨_, cc1, cc2⟩ := KC.out _ _ _ h1; have D1 := Lib.hid h1; clear h1))
  all_goals (go_wp2; go_ret; exact ⟨rfl, _, KE.out _ _ _ D2.out⟩)
theorem plays_cut (w0 w : World) (S0 : Nat → Prop) (p r : Nat) (l : List (Nat × Int)) (h : Duo w0 w S0 p r l l) (k v : Int) :
    Calls Try.prog 10 #[.pointer (some ⟨p, 0, none⟩), .pointer (some ⟨r, 0, none⟩), .agg #[.int .i64 4, .int .i64 k, .int .i64 v]] w (DuoEnd w0 S0 p r) := by
  obtain ⟨W, S, hW, hD, hE, hC⟩ := h.boxed 4 k v
  have D0 := Lib.hid hD.drew
  obtain ⟨q0, q1, q2⟩ := hC _ _ _ hD
  have KC := Lib.hid hC
  have KE := Lib.hid hE
  clear h hD hE hC
  have b1 : (((l.length : Int) - ((cutL l k).length : Int)) == ((l.length : Int) - ((cutL l k).length : Int))) = true := beq_self_eq_true _
  generalize hR : ((l.length : Int) - ((cutL l k).length : Int)) = R at b1
  have HR := Lib.hid hR
  clear hR
  go_enter Try.func10, Try.ntmps10
  go_wp2_with fail
  rw [← hW]
  clear hW
  go_wp2_with fail
  go_region_held3 (fun W => W.cell? ⟨w.heap.size, 1, none⟩ = some (.int .i64 k) ∧ W.cell? ⟨w.heap.size, 2, none⟩ = some (.int .i64 v))
    (first | go_keep | exact ⟨cc1, cc2⟩)
    (first
      | (go_at_call 23; (with_reducible refine (no_calls _ _).mono ?_); rintro e w1 ⟨rfl, rfl⟩)
      | (go_at_call 20; (with_reducible refine (D1.out.tcut k).mono ?_); rintro e w1 ⟨rfl, h2⟩; rw [HR.out]; obtain ⟨_, cc1, cc2⟩ := KC.out _ _ _ h2; have D2 := Lib.hid h2; clear h2)
      | (go_at_call 20; (with_reducible refine (D0.out.tcut k).mono ?_); rintro e w1 ⟨rfl, h1⟩; rw [HR.out]; obtain ⟨_, cc1, cc2⟩ := KC.out _ _ _ h1; have D1 := Lib.hid h1; clear h1)
      | (go_at_call 37; (with_reducible refine (D1.out.rcut k).mono ?_); rintro e w1 ⟨rfl, h2⟩; rw [HR.out]; obtain ⟨_, cc1, cc2⟩ := KC.out _ _ _ h2; have D2 := Lib.hid h2; clear h2)
      | (go_at_call 37; (with_reducible refine (D0.out.rcut k).mono ?_); rintro e w1 ⟨rfl, h1⟩; rw [HR.out]; obtain ⟨_, cc1, cc2⟩ := KC.out _ _ _ h1; have D1 := Lib.hid h1; clear h1))
  all_goals (go_wp2; go_ret; exact ⟨rfl, _, KE.out _ _ _ D2.out⟩)
theorem plays_get (w0 w : World) (S0 : Nat → Prop) (p r : Nat) (l : List (Nat × Int)) (h : Duo w0 w S0 p r l l) (k v : Int) :
    Calls Try.prog 10 #[.pointer (some ⟨p, 0, none⟩), .pointer (some ⟨r, 0, none⟩), .agg #[.int .i64 2, .int .i64 k, .int .i64 v]] w (DuoEnd w0 S0 p r) := by
  obtain ⟨W, S, hW, hD, hE, hC⟩ := h.boxed 2 k v
  have D0 := Lib.hid hD
  obtain ⟨q0, q1, q2⟩ := hC _ _ _ hD
  have KC := Lib.hid hC
  have KE := Lib.hid hE
  clear h hD hE hC
  have b1 : ((valAt l k).getD 0 == (valAt l k).getD 0) = true := beq_self_eq_true _
  have b2 : ((valAt l k).isSome == (valAt l k).isSome) = true := beq_self_eq_true _
  generalize hR : (valAt l k).getD 0 = R at b1
  generalize hR2 : (valAt l k).isSome = R2 at b2
  have HR := Lib.hid (And.intro hR hR2)
  clear hR hR2
  go_enter Try.func10, Try.ntmps10
  go_wp2_with fail
  rw [← hW]
  clear hW
  go_wp2_with fail
  refine (D0.out.tget k).mono ?_
  rintro e w1 ⟨rfl, h1⟩
  rw [HR.out.1, HR.out.2]
  obtain ⟨_, cc1, cc2⟩ := KC.out _ _ _ h1
  have D1 := Lib.hid h1
  clear h1 q0 q1 q2
  go_wp2_with fail
  refine (D1.out.rget k).mono ?_
  rintro e w2 ⟨rfl, h1⟩
  rw [HR.out.1, HR.out.2]
  have D2 := Lib.hid h1
  clear h1
  go_wp2
  go_ret
  exact ⟨rfl, _, KE.out _ _ _ D2.out⟩
theorem PRow.short {w : World} {A : Option Addr} {cap n : Nat} {l : List (Nat × Int)} (h : PRow w (.slice A l.length cap) l) (hn : n ≤ l.length) : PRow w (.slice A n cap) (l.take n) := by
  rcases h with ⟨c, e, rfl⟩ | ⟨g, c, e, h⟩
  · injection e with e1 e2 e3
    subst e1
    obtain rfl : n = 0 := by simpa using hn
    exact .inl ⟨cap, rfl, rfl⟩
  · injection e with e1 e2 e3
    subst e1
    refine .inr ⟨g, cap, by rw [List.length_take, Nat.min_eq_left hn], fun i x hx => h i x ?_⟩
    have hi : i < n := by have := (List.getElem?_eq_some_iff.1 hx).1; rw [List.length_take] at this; omega
    rwa [List.getElem?_take_of_lt hi] at hx
theorem plays_all (w0 w : World) (S0 : Nat → Prop) (p r : Nat) (l : List (Nat × Int)) (h : Duo w0 w S0 p r l l) (k v : Int) :
    Calls Try.prog 10 #[.pointer (some ⟨p, 0, none⟩), .pointer (some ⟨r, 0, none⟩), .agg #[.int .i64 5, .int .i64 k, .int .i64 v]] w (DuoEnd w0 S0 p r) := by
  obtain ⟨W, S, hW, hD, hE, hC⟩ := h.boxed 5 k v
  have D0 := Lib.hid hD.drew
  obtain ⟨q0, q1, q2⟩ := hC _ _ _ hD
  obtain ⟨A, cap, c0, hcap, hrow, _⟩ := hD.row
  have hlen := hD.lenT
  have KE := Lib.hid hE
  have HROW := Lib.hid (And.intro hrow (hrow.below (w' := W.drew) ((Below.refl _ _).drew)))
  have HLEN := Lib.hid hlen
  clear h hD hE hC hrow hlen
  obtain ⟨N, hN⟩ : ∃ N, l.length = N := ⟨_, rfl⟩
  rw [hN] at c0 HROW hcap
  clear hN
  go_enter Try.func10, Try.ntmps10
  go_wp2_with fail
  rw [← hW]
  clear hW
  go_wp2_with fail
  go_region_held3 (fun W => W.cell? ⟨r, 0, none⟩ = some (.slice A N cap))
    (first | go_keep | exact cc0)
    (first
      | (go_at_call 15; (with_reducible refine (D0.out.tpairs (-1)).mono ?_); rintro e w1 ⟨v7, rfl, hp, h1, hb⟩; have cc0 := (hb.cell (p := ⟨r, 0, none⟩) (World.block_lt_of_cell? W _ c0)).trans c0; have D1 := Lib.hid h1; have P7 := Lib.hid hp; have Q7 := Lib.hid (HROW.out.2.below hb); clear h1 hb hp)
      | (go_at_call 14; (with_reducible refine (same_yes l HLEN.out _ _ _ P7.out Q7.out).mono ?_); rintro e w2 ⟨rfl, m, rfl⟩; have D2 := Lib.hid (D1.out.below (below_drewN' _ m))))
  all_goals (go_wp2; go_ret; exact ⟨rfl, _, KE.out _ _ _ D2.out⟩)
theorem plays_some (w0 w : World) (S0 : Nat → Prop) (p r : Nat) (l : List (Nat × Int)) (h : Duo w0 w S0 p r l l) (k v : Int) :
    Calls Try.prog 10 #[.pointer (some ⟨p, 0, none⟩), .pointer (some ⟨r, 0, none⟩), .agg #[.int .i64 6, .int .i64 k, .int .i64 v]] w (DuoEnd w0 S0 p r) := by
  obtain ⟨W, S, hW, hD, hE, hC⟩ := h.boxed 6 k v
  have D0 := Lib.hid hD.drew
  obtain ⟨q0, q1, q2⟩ := hC _ _ _ hD
  obtain ⟨A, cap, c0, hcap, hrow, _⟩ := hD.row
  have hlen := hD.lenT
  have KE := Lib.hid hE
  have hrw : ∀ n, n ≤ l.length → PRow W.drew (.slice A n cap) (l.take n) := fun n hn => (hrow.short hn).below ((Below.refl _ _).drew)
  have hfn : ∀ n : Nat, firstN l (n : Int) = l.take n := fun n => by unfold firstN; rw [if_neg (by omega), Int.toNat_natCast]
  have htl : ∀ n, (l.take n).length ≤ 1048576 := fun n => by rw [List.length_take]; omega
  clear h hD hE hC hrow
  obtain ⟨N, hN⟩ : ∃ N, l.length = N := ⟨_, rfl⟩
  rw [hN] at c0 hcap hlen
  by_cases hv : v < 0
  · have HROW := Lib.hid (hrw N (by omega))
    have HF := Lib.hid (hfn N)
    have HLEN := Lib.hid (htl N)
    clear hrw hfn htl hN
    have c0' := c0
    rw [hW] at c0'
    go_enter Try.func10, Try.ntmps10
    go_wp2_with fail
    rw [← hW]
    clear hW c0'
    go_region_held3 (fun W => W.cell? ⟨r, 0, none⟩ = some (.slice A N cap))
      (first | go_keep | exact cc0)
      (first
        | (go_at_call 15; (with_reducible refine (D0.out.tpairs (N : Int)).mono ?_); rintro e w1 ⟨v7, rfl, hp, h1, hb⟩; rw [HF.out] at hp; have cc0 := (hb.cell (p := ⟨r, 0, none⟩) (World.block_lt_of_cell? W _ c0)).trans c0; have D1 := Lib.hid h1; have P7 := Lib.hid hp; have Q7 := Lib.hid (HROW.out.below hb); clear h1 hb hp)
        | (go_at_call 14; (with_reducible refine (same_yes _ HLEN.out _ _ _ P7.out Q7.out).mono ?_); rintro e w2 ⟨rfl, m, rfl⟩; have D2 := Lib.hid (D1.out.below (below_drewN' _ m))))
    all_goals (go_wp2; go_ret; exact ⟨rfl, _, KE.out _ _ _ D2.out⟩)
  · by_cases hv2 : (N : Int) < v
    · have HROW := Lib.hid (hrw N (by omega))
      have HF := Lib.hid (hfn N)
      have HLEN := Lib.hid (htl N)
      clear hrw hfn htl hN
      have c0' := c0
      rw [hW] at c0'
      go_enter Try.func10, Try.ntmps10
      go_wp2_with fail
      rw [← hW]
      clear hW c0'
      go_region_held3 (fun W => W.cell? ⟨r, 0, none⟩ = some (.slice A N cap))
        (first | go_keep | exact cc0)
        (first
          | (go_at_call 15; (with_reducible refine (D0.out.tpairs (N : Int)).mono ?_); rintro e w1 ⟨v7, rfl, hp, h1, hb⟩; rw [HF.out] at hp; have cc0 := (hb.cell (p := ⟨r, 0, none⟩) (World.block_lt_of_cell? W _ c0)).trans c0; have D1 := Lib.hid h1; have P7 := Lib.hid hp; have Q7 := Lib.hid (HROW.out.below hb); clear h1 hb hp)
          | (go_at_call 14; (with_reducible refine (same_yes _ HLEN.out _ _ _ P7.out Q7.out).mono ?_); rintro e w2 ⟨rfl, m, rfl⟩; have D2 := Lib.hid (D1.out.below (below_drewN' _ m))))
      all_goals (go_wp2; go_ret; exact ⟨rfl, _, KE.out _ _ _ D2.out⟩)
    · obtain ⟨n, rfl⟩ : ∃ n : Nat, v = n := ⟨v.toNat, by omega⟩
      have HROW := Lib.hid (hrw n (by omega))
      have HF := Lib.hid (hfn n)
      have HLEN := Lib.hid (htl n)
      have hn2 : ¬ (n : Int) < 0 := by omega
      have hn3 : (n : Int) ≤ (cap : Int) := by omega
      clear hrw hfn htl hN
      have c0' := c0
      rw [hW] at c0'
      go_enter Try.func10, Try.ntmps10
      go_wp2_with fail
      rw [← hW]
      clear hW c0'
      go_region_held3 (fun W => W.cell? ⟨r, 0, none⟩ = some (.slice A N cap))
        (first | go_keep | exact cc0)
        (first
          | (go_at_call 15; (with_reducible refine (D0.out.tpairs (n : Int)).mono ?_); rintro e w1 ⟨v7, rfl, hp, h1, hb⟩; rw [HF.out] at hp; have cc0 := (hb.cell (p := ⟨r, 0, none⟩) (World.block_lt_of_cell? W _ c0)).trans c0; have D1 := Lib.hid h1; have P7 := Lib.hid hp; have Q7 := Lib.hid (HROW.out.below hb); clear h1 hb hp)
          | (go_at_call 14; (with_reducible refine (same_yes _ HLEN.out _ _ _ P7.out Q7.out).mono ?_); rintro e w2 ⟨rfl, m, rfl⟩; have D2 := Lib.hid (D1.out.below (below_drewN' _ m))))
      all_goals (go_wp2; go_ret; exact ⟨rfl, _, KE.out _ _ _ D2.out⟩)
theorem plays_other (w0 w : World) (S0 : Nat → Prop) (p r : Nat) (l : List (Nat × Int)) (h : Duo w0 w S0 p r l l) (kd k v : Int) (n1 : (kd == 1) = false) (n2 : (kd == 2) = false) (n3 : (kd == 3) = false) (n4 : (kd == 4) = false) (n5 : (kd == 5) = false) (n6 : (kd == 6) = false) (n7 : (kd == 7) = false) :
    Calls Try.prog 10 #[.pointer (some ⟨p, 0, none⟩), .pointer (some ⟨r, 0, none⟩), .agg #[.int .i64 kd, .int .i64 k, .int .i64 v]] w (DuoEnd w0 S0 p r) := by
  obtain ⟨W, S, hW, hD, hE, hC⟩ := h.boxed kd k v
  have D0 := Lib.hid hD
  obtain ⟨q0, q1, q2⟩ := hC _ _ _ hD
  have KE := Lib.hid hE
  clear h hD hE hC
  go_enter Try.func10, Try.ntmps10
  go_wp2_with fail
  rw [← hW]
  clear hW
  go_wp2_with fail
  go_ret
  exact ⟨rfl, _, KE.out _ _ _ D0.out⟩
end Go.Proofs.Ythpjcbaijbppiaa
