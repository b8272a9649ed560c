/- plays, whole; two pairs of trees in turns. -/
import Derived.Test.YthpjcbaijbppiaaChanging
namespace Go.Proofs.Ythpjcbaijbppiaa
open Go.RowKit Go.Proofs
set_option linter.unusedVariables false
set_option linter.unusedSimpArgs false
set_option maxRecDepth 100000
theorem plays_chg (w0 w : World) (S0 : Nat → Prop) (p r : Nat) (l : List (Nat × Int)) (h : Duo w0 w S0 p r l l) (k v : Int) :
    Calls Try.prog 10 #[.pointer (some ⟨p, 0, none⟩), .pointer (some ⟨r, 0, none⟩), .agg #[.int .i64 7, .int .i64 k, .int .i64 v]] w (DuoEnd w0 S0 p r) := by
  obtain ⟨W, S, hW, hD, hE, hC⟩ := h.boxed 7 k v
  have CC := Lib.hid (changing_calls W W S p r l hD 7 k v)
  obtain ⟨q0, q1, q2⟩ := hC _ _ _ hD
  have KE := Lib.hid hE
  clear h hD hE hC
  go_enter Try.func10, Try.ntmps10
  go_wp2_with fail
  rw [← hW]
  clear hW
  go_wp2_with fail
  refine CC.out.mono ?_
  rintro e w1 ⟨rfl, l1, h1⟩
  have D1 := Lib.hid h1
  clear h1 q0 q1 q2
  go_wp2
  go_ret
  exact ⟨rfl, _, KE.out _ _ _ D1.out⟩
theorem plays_calls (w0 w : World) (S0 : Nat → Prop) (p r : Nat) (l : List (Nat × Int)) (h : Duo w0 w S0 p r l l) (kd k v : Int) :
    Calls Try.prog 10 #[.pointer (some ⟨p, 0, none⟩), .pointer (some ⟨r, 0, none⟩), .agg #[.int .i64 kd, .int .i64 k, .int .i64 v]] w (DuoEnd w0 S0 p r) := by
  by_cases h1 : kd = 1
  · subst h1; exact plays_put w0 w S0 p r l h k v
  by_cases h2 : kd = 2
  · subst h2; exact plays_get w0 w S0 p r l h k v
  by_cases h3 : kd = 3
  · subst h3; exact plays_drop w0 w S0 p r l h k v
  by_cases h4 : kd = 4
  · subst h4; exact plays_cut w0 w S0 p r l h k v
  by_cases h5 : kd = 5
  · subst h5; exact plays_all w0 w S0 p r l h k v
  by_cases h6 : kd = 6
  · subst h6; exact plays_some w0 w S0 p r l h k v
  by_cases h7 : kd = 7
  · subst h7; exact plays_chg w0 w S0 p r l h k v
  exact plays_other w0 w S0 p r l h kd k v (beq_eq_false_iff_ne.2 h1) (beq_eq_false_iff_ne.2 h2) (beq_eq_false_iff_ne.2 h3) (beq_eq_false_iff_ne.2 h4) (beq_eq_false_iff_ne.2 h5) (beq_eq_false_iff_ne.2 h6) (beq_eq_false_iff_ne.2 h7)
/-- Two trees, each with the document's beside it. -/
def PP (w0 w : World) (p r : Nat) (l : List (Nat × Int)) (q s : Nat) (m : List (Nat × Int)) : Prop :=
  ∃ S T, Duo w w S p r l l ∧ Duo w w T q s m m ∧ (∀ b, S b → T b → False) ∧ (∀ b, S b → w0.heap.size ≤ b ∧ b < w.heap.size) ∧ (∀ b, T b → w0.heap.size ≤ b ∧ b < w.heap.size) ∧ Below w0.heap.size w0 w
theorem PP.swap {w0 w : World} {p r q s : Nat} {l m : List (Nat × Int)} (h : PP w0 w p r l q s m) : PP w0 w q s m p r l := by
  obtain ⟨S, T, h1, h2, h3, h4, h5, h6⟩ := h
  exact ⟨T, S, h2, h1, fun b a c => h3 b c a, h5, h4, h6⟩
theorem PP.B {w0 w : World} {p r q s : Nat} {l m : List (Nat × Int)} (h : PP w0 w p r l q s m) : Below w0.heap.size w0 w := by
  obtain ⟨S, T, h1, h2, h3, h4, h5, h6⟩ := h; exact h6
theorem PP.turn {w0 w w' : World} {p r q s : Nat} {l' m : List (Nat × Int)} {S T : Nat → Prop} (h2 : Duo w w T q s m m) (h3 : ∀ b, S b → T b → False) (h4 : ∀ b, S b → w0.heap.size ≤ b ∧ b < w.heap.size) (h5 : ∀ b, T b → w0.heap.size ≤ b ∧ b < w.heap.size) (h6 : Below w0.heap.size w0 w) (hD : Duo w w' S p r l' l') : PP w0 w' p r l' q s m := by
  have ho := hD.off
  obtain ⟨⟨fp, u, k1, k2, k3⟩, kg, _⟩ := hD
  obtain ⟨⟨fq, v, j1, j2, j3⟩, jg, _⟩ := h2
  have hT : ∀ b, fq b ∨ RB s v b → T b := fun b hb => (j3 b hb).elim id fun h => by
    rcases hb with hb | hb
    · have := j1.lt hb; omega
    · have := j2.lt hb; omega
  refine ⟨fun b => S b ∨ (w.heap.size ≤ b ∧ b < w'.heap.size), T, ⟨⟨fp, u, k1, k2, fun b hb => .inl ?_⟩, kg, Off.refl _ _⟩, ⟨⟨fq, v, j1.frame ho fun b a c => h3 b a (hT b (.inl c)), j2.frame ho fun b c a => h3 b a (hT b (.inr c)), fun b hb => .inl (hT b hb)⟩, jg, Off.refl _ _⟩, fun b a c => ?_, fun b hb => ?_, fun b hb => ⟨(h5 b hb).1, Nat.lt_of_lt_of_le (h5 b hb).2 ho.size⟩, h6.trans (ho.below h6.size fun b hb => (h4 b hb).1)⟩
  · rcases k3 b hb with h | h
    · exact .inl h
    · refine .inr ⟨h, ?_⟩
      rcases hb with hb | hb
      · exact k1.lt hb
      · exact k2.lt hb
  · rcases a with a | a
    · exact h3 b a c
    · have := (h5 b c).2; omega
  · rcases hb with hb | hb
    · exact ⟨(h4 b hb).1, Nat.lt_of_lt_of_le (h4 b hb).2 ho.size⟩
    · exact ⟨Nat.le_trans h6.size hb.1, hb.2⟩
theorem PP.play {w0 w : World} {p r q s : Nat} {l m : List (Nat × Int)} (h : PP w0 w p r l q s m) (kd k v : Int) :
    Calls Try.prog 10 #[.pointer (some ⟨p, 0, none⟩), .pointer (some ⟨r, 0, none⟩), .agg #[.int .i64 kd, .int .i64 k, .int .i64 v]] w fun e w' => e = .returned (.bool true) ∧ ∃ l', PP w0 w' p r l' q s m := by
  obtain ⟨S, T, h1, h2, h3, h4, h5, h6⟩ := h
  refine (plays_calls w w S p r l h1 kd k v).mono ?_
  rintro e w' ⟨rfl, l', hD⟩
  exact ⟨rfl, l', PP.turn h2 h3 h4 h5 h6 hD⟩
theorem PP.below {w0 w w' : World} {p r q s : Nat} {l m : List (Nat × Int)} (h : PP w0 w p r l q s m) (hb : Below w.heap.size w w') : PP w0 w' p r l q s m := by
  obtain ⟨S, T, h1, h2, h3, h4, h5, h6⟩ := h
  exact PP.turn h2 h3 h4 h5 h6 (h1.below hb)
theorem PP.drew {w0 w : World} {p r q s : Nat} {l m : List (Nat × Int)} (h : PP w0 w p r l q s m) : PP w0 w.drew p r l q s m := h.below ((Below.refl _ _).drew)
/-- What a look at the first pair tells. -/
theorem PP.look {w0 w : World} {p r q s : Nat} {l m : List (Nat × Int)} (h : PP w0 w p r l q s m) : ∃ A cap n, w.cell? ⟨r, 0, none⟩ = some (.slice A l.length cap) ∧ PRow w (.slice A l.length cap) l ∧ l.length ≤ 1048576 ∧
    (Calls Try.prog 11 #[.pointer (some ⟨p, 0, none⟩)] w fun e w' => e = .returned (.int .i64 (l.length : Int)) ∧ w = w') ∧
    (Calls Try.prog 12 #[.pointer (some ⟨p, 0, none⟩)] w fun e w' => e = .returned (.int .i64 (n : Int)) ∧ w = w') ∧
    (Calls Try.prog 13 #[.pointer (some ⟨r, 0, none⟩)] w fun e w' => e = .returned (.int .i64 (n : Int)) ∧ PP w0 w' p r l q s m ∧ Below w.heap.size w w') := by
  have h' := h
  obtain ⟨S, T, h1, h2, h3, h4, h5, h6⟩ := h
  obtain ⟨A, cap, c0, hcap, hrow, _⟩ := h1.row
  obtain ⟨n, hn, k1, k2⟩ := h1.height
  refine ⟨A, cap, n, c0, hrow, h1.lenT, h1.tlen, k1, k2.mono ?_⟩
  rintro e w' ⟨rfl, hb⟩
  exact ⟨rfl, h'.below hb, hb⟩
theorem PP.pairs {w0 w : World} {p r q s : Nat} {l m : List (Nat × Int)} (h : PP w0 w p r l q s m) : Calls Try.prog 15 #[.pointer (some ⟨p, 0, none⟩), .int .i64 (-1)] w fun e w' => ∃ v, e = .returned v ∧ PRow w' v l ∧ PP w0 w' p r l q s m ∧ Below w.heap.size w w' := by
  have h' := h
  obtain ⟨S, T, h1, h2, h3, h4, h5, h6⟩ := h
  refine (h1.tpairs (-1)).mono ?_
  rintro e w' ⟨v, rfl, hp, hD, hb⟩
  exact ⟨v, rfl, hp, h'.below hb, hb⟩
theorem PP.new {w0 W : World} {p q : Nat} (h : OT2 w0 W p [] q []) : PP w0 ((W.alloc (.cells #[.slice none 0 0] 28)).alloc (.cells #[.slice none 0 0] 28)) p W.heap.size [] q (W.heap.size + 1) [] := by
  obtain ⟨fp, fq, h1, h2, h3, h4, h5, h6⟩ := h
  have hb : Below W.heap.size W ((W.alloc (.cells #[.slice none 0 0] 28)).alloc (.cells #[.slice none 0 0] 28)) := ((Below.refl _ _).alloc (Nat.le_refl _) _).alloc (by simp) _
  have z1 : ((W.alloc (.cells #[.slice none 0 0] 28)).alloc (.cells #[.slice none 0 0] 28)).heap[W.heap.size]? = some (.cells #[.slice none 0 0] 28 (0, 0)) := heap_alloc_old (heap_alloc_new _ _) _
  have z2 : ((W.alloc (.cells #[.slice none 0 0] 28)).alloc (.cells #[.slice none 0 0] 28)).heap[W.heap.size + 1]? = some (.cells #[.slice none 0 0] 28 (0, 0)) := by
    have := heap_alloc_new (W.alloc (.cells #[.slice none 0 0] 28)) (.cells #[.slice none 0 0] 28)
    rwa [World.size_alloc] at this
  have g : GoodR [] := ⟨List.Pairwise.nil, fun _ h => (by cases h)⟩
  have sz : ((W.alloc (.cells #[.slice none 0 0] 28)).alloc (.cells #[.slice none 0 0] 28)).heap.size = W.heap.size + 2 := by simp
  refine ⟨fun b => fp b ∨ b = W.heap.size, fun b => fq b ∨ b = W.heap.size + 1, ⟨⟨fp, _, h1.below hb, ⟨z1, World.ownsRow_nil _ _ _ _⟩, fun b hb => .inl ?_⟩, g, Off.refl _ _⟩, ⟨⟨fq, _, h2.below hb, ⟨z2, World.ownsRow_nil _ _ _ _⟩, fun b hb => .inl ?_⟩, g, Off.refl _ _⟩, fun b a c => ?_, fun b hb => ?_, fun b hb => ?_, h6.trans (hb.mono h6.size)⟩
  · rcases hb with hb | hb | hb
    · exact .inl hb
    · exact .inr hb
    · cases hb
  · rcases hb with hb | hb | hb
    · exact .inl hb
    · exact .inr hb
    · cases hb
  · rcases a with a | a <;> rcases c with c | c
    · exact h3 b a c
    · have := h1.lt a; omega
    · have := h2.lt c; omega
    · omega
  · rcases hb with hb | hb
    · have := h1.lt hb; exact ⟨h4 b hb, by omega⟩
    · have := h6.size; exact ⟨by omega, by omega⟩
  · rcases hb with hb | hb
    · have := h2.lt hb; exact ⟨h5 b hb, by omega⟩
    · have := h6.size; exact ⟨by omega, by omega⟩
/-- A list of calls, as it lies. -/
def OpsAt (w : World) (A : Option Addr) (os : List (Int × Int × Int)) : Prop := 0 < os.length → ∃ g o, A = some ⟨g, o, none⟩ ∧ ∀ i x, os[i]? = some x →
  w.cell? ⟨g, o + i * 3, none⟩ = some (.int .i64 x.1) ∧ w.cell? ⟨g, o + i * 3 + 1, none⟩ = some (.int .i64 x.2.1) ∧ w.cell? ⟨g, o + i * 3 + 2, none⟩ = some (.int .i64 x.2.2)
theorem weaken {P : Program} {md : Region.Mode} {ops : Array Oper} {Q : Exit → Act → World → Prop} {S S' : World → Prop} (hS : ∀ W, S' W → S W) :
    ∀ (fuel : Nat) (listed : Array Bool) (a : Act) (w : World), wpAnyH P md ops Q S' fuel listed a w → wpAnyH P md ops Q S fuel listed a w
  | 0, _, _, _, h => h
  | fuel + 1, _, _, _, h => ⟨h.1, fun i hi => wpOp_mono (fun a' w' h' => ⟨hS _ h'.1, weaken hS fuel _ a' w' h'.2⟩) (h.2 i hi)⟩
end Go.Proofs.Ythpjcbaijbppiaa
