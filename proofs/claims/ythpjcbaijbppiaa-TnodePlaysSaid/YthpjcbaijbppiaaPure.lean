/- Trees of width 16 as plain functions: lists by rising keys; which node lies at which level and prefix. -/
namespace Go.Proofs.Ythpjcbaijbppiaa
set_option linter.unusedVariables false
set_option linter.unusedSimpArgs false
universe u
variable {V : Type u}

/-- Rising keys. -/
def Srt (l : List (Nat × V)) : Prop := l.Pairwise fun a b => a.1 < b.1
structure Lists (M : Nat → Option V) (l : List (Nat × V)) : Prop where
  srt : Srt l
  mem : ∀ k v, (k, v) ∈ l ↔ M k = some v

theorem Srt.uniq : ∀ {l l' : List (Nat × V)}, Srt l → Srt l' → (∀ x, x ∈ l ↔ x ∈ l') → l = l'
  | [], [], _, _, _ => rfl
  | [], b :: t', _, _, h => by have := (h b).2 (by simp); cases this
  | a :: t, [], _, _, h => by have := (h a).1 (by simp); cases this
  | a :: t, b :: t', h1, h2, h => by
    have h1' := List.pairwise_cons.1 h1
    have h2' := List.pairwise_cons.1 h2
    have e : a = b := by
      have ha := (h a).1 (by simp)
      have hb := (h b).2 (by simp)
      rcases List.mem_cons.1 ha with e | ha
      · exact e
      · rcases List.mem_cons.1 hb with e | hb
        · exact e.symm
        · have := h1'.1 b hb
          have := h2'.1 a ha
          omega
    subst e
    congr 1
    refine Srt.uniq h1'.2 h2'.2 fun x => ⟨fun hx => ?_, fun hx => ?_⟩
    · rcases List.mem_cons.1 ((h x).1 (List.mem_cons_of_mem _ hx)) with e | hx'
      · subst e; have := h1'.1 x hx; omega
      · exact hx'
    · rcases List.mem_cons.1 ((h x).2 (List.mem_cons_of_mem _ hx)) with e | hx'
      · subst e; have := h2'.1 x hx; omega
      · exact hx'
theorem Lists.uniq {M : Nat → Option V} {l l' : List (Nat × V)} (h : Lists M l) (h' : Lists M l') : l = l' :=
  Srt.uniq h.srt h'.srt fun ⟨k, v⟩ => (h.mem k v).trans (h'.mem k v).symm
theorem Lists.congr {M M' : Nat → Option V} {l : List (Nat × V)} (h : Lists M l) (e : ∀ k, M k = M' k) : Lists M' l := ⟨h.srt, fun k v => by rw [← e]; exact h.mem k v⟩

/-- What M has from lo on, n keys far. -/
def lst (M : Nat → Option V) (lo : Nat) : Nat → List (Nat × V)
  | 0 => []
  | n + 1 => lst M lo n ++ (match M (lo + n) with | none => [] | some v => [(lo + n, v)])
theorem lst_add (M : Nat → Option V) (lo a : Nat) : ∀ b, lst M lo (a + b) = lst M lo a ++ lst M (lo + a) b
  | 0 => by simp [lst]
  | b + 1 => by
    show lst M lo (a + b) ++ (match M (lo + (a + b)) with | none => [] | some v => [(lo + (a + b), v)]) = _
    rw [lst_add M lo a b, List.append_assoc, ← Nat.add_assoc]
    rfl
theorem lst_congr {M M' : Nat → Option V} {lo : Nat} : ∀ {n : Nat}, (∀ k, lo ≤ k → k < lo + n → M k = M' k) → lst M lo n = lst M' lo n
  | 0, _ => rfl
  | n + 1, h => by
    show lst M lo n ++ _ = lst M' lo n ++ _
    rw [lst_congr (n := n) (fun k a b => h k a (by omega)), h (lo + n) (by omega) (by omega)]
theorem lst_none {M : Nat → Option V} {lo : Nat} : ∀ {n : Nat}, (∀ k, lo ≤ k → k < lo + n → M k = none) → lst M lo n = []
  | 0, _ => rfl
  | n + 1, h => by
    show lst M lo n ++ _ = _
    rw [lst_none (n := n) (fun k a b => h k a (by omega)), h (lo + n) (by omega) (by omega)]
    rfl
theorem mem_lst {M : Nat → Option V} {lo k : Nat} {v : V} : ∀ {n : Nat}, (k, v) ∈ lst M lo n ↔ lo ≤ k ∧ k < lo + n ∧ M k = some v
  | 0 => by simp [lst]; omega
  | n + 1 => by
    show (k, v) ∈ lst M lo n ++ _ ↔ _
    rw [List.mem_append, mem_lst (n := n)]
    constructor
    · rintro (⟨a, b, c⟩ | h)
      · exact ⟨a, by omega, c⟩
      · cases hm : M (lo + n) with
        | none => rw [hm] at h; cases h
        | some x =>
          rw [hm] at h
          simp at h
          obtain ⟨rfl, rfl⟩ := h
          exact ⟨by omega, by omega, hm⟩
    · rintro ⟨a, b, c⟩
      by_cases e : k = lo + n
      · right; rw [← e, c]; simp
      · left; exact ⟨a, by omega, c⟩
theorem srt_lst (M : Nat → Option V) (lo : Nat) : ∀ n, Srt (lst M lo n)
  | 0 => List.Pairwise.nil
  | n + 1 => by
    refine List.pairwise_append.2 ⟨srt_lst M lo n, ?_, fun a ha b hb => ?_⟩
    · cases M (lo + n) <;> simp
    · obtain ⟨k, v⟩ := a
      have := (mem_lst.1 ha).2.1
      cases hm : M (lo + n) with
      | none => rw [hm] at hb; cases hb
      | some x => rw [hm] at hb; simp at hb; subst hb; exact this
theorem lst_lists {M : Nat → Option V} {n : Nat} (h : ∀ k v, M k = some v → k < n) : Lists M (lst M 0 n) :=
  ⟨srt_lst M 0 n, fun k v => by rw [mem_lst]; exact ⟨fun h => h.2.2, fun e => ⟨Nat.zero_le _, by have := h k v e; omega, e⟩⟩⟩
theorem lst_length (M : Nat → Option V) (lo : Nat) : ∀ n, (lst M lo n).length ≤ n
  | 0 => Nat.le_refl _
  | n + 1 => by
    show (lst M lo n ++ _).length ≤ _
    have := lst_length M lo n
    rw [List.length_append]
    cases M (lo + n) <;> simp <;> omega

/-- Put into a list by rising keys. -/
def insL (k : Nat) (v : V) : List (Nat × V) → List (Nat × V)
  | [] => [(k, v)]
  | x :: t => if x.1 < k then x :: insL k v t else if x.1 = k then (k, v) :: t else (k, v) :: x :: t
theorem mem_insL {k : Nat} {v : V} : ∀ {l : List (Nat × V)}, Srt l → ∀ y : Nat × V, y ∈ insL k v l ↔ y = (k, v) ∨ (y.1 ≠ k ∧ y ∈ l)
  | [], _, y => by simp [insL]
  | x :: t, hs, y => by
    have hs' := List.pairwise_cons.1 hs
    unfold insL
    by_cases h1 : x.1 < k
    · rw [if_pos h1, List.mem_cons, mem_insL hs'.2, List.mem_cons]
      constructor
      · rintro (rfl | h | h)
        · right; exact ⟨by omega, .inl rfl⟩
        · left; exact h
        · right; exact ⟨h.1, .inr h.2⟩
      · rintro (h | ⟨h, rfl | h2⟩)
        · right; left; exact h
        · left; rfl
        · right; right; exact ⟨h, h2⟩
    · rw [if_neg h1]
      by_cases h2 : x.1 = k
      · rw [if_pos h2, List.mem_cons, List.mem_cons]
        constructor
        · rintro (h | h)
          · left; exact h
          · right; have := hs'.1 y h; exact ⟨by omega, .inr h⟩
        · rintro (h | ⟨h, rfl | h3⟩)
          · left; exact h
          · exact absurd h2 h
          · right; exact h3
      · rw [if_neg h2, List.mem_cons]
        constructor
        · rintro (h | h)
          · left; exact h
          · right
            refine ⟨?_, h⟩
            rcases List.mem_cons.1 h with rfl | h
            · exact h2
            · have := hs'.1 y h; omega
        · rintro (h | h)
          · left; exact h
          · right; exact h.2
theorem srt_insL {k : Nat} {v : V} : ∀ {l : List (Nat × V)}, Srt l → Srt (insL k v l)
  | [], _ => by simp [insL, Srt]
  | x :: t, hs => by
    have hs' := List.pairwise_cons.1 hs
    unfold insL
    by_cases h1 : x.1 < k
    · rw [if_pos h1]
      refine List.pairwise_cons.2 ⟨fun y hy => ?_, srt_insL hs'.2⟩
      rcases (mem_insL hs'.2 y).1 hy with rfl | h
      · exact h1
      · exact hs'.1 y h.2
    · rw [if_neg h1]
      by_cases h2 : x.1 = k
      · rw [if_pos h2]
        exact List.pairwise_cons.2 ⟨fun y hy => by have := hs'.1 y hy; show k < y.1; omega, hs'.2⟩
      · rw [if_neg h2]
        refine List.pairwise_cons.2 ⟨fun y hy => ?_, hs⟩
        show k < y.1
        rcases List.mem_cons.1 hy with rfl | h
        · omega
        · have := hs'.1 y h; omega
theorem Lists.ins {M : Nat → Option V} {l : List (Nat × V)} (h : Lists M l) (k : Nat) (v : V) : Lists (fun i => if i = k then some v else M i) (insL k v l) := by
  refine ⟨srt_insL h.srt, fun j x => ?_⟩
  rw [mem_insL h.srt]
  by_cases e : j = k
  · subst e; simp; exact eq_comm
  · simp [e, h.mem]
theorem Lists.none_iff {M : Nat → Option V} {l : List (Nat × V)} (h : Lists M l) (k : Nat) : M k = none ↔ ∀ x ∈ l, x.1 ≠ k := by
  constructor
  · rintro e ⟨j, x⟩ hx rfl
    have := (h.mem j x).1 hx
    rw [e] at this; cases this
  · intro hn
    cases e : M k with
    | none => rfl
    | some v => exact absurd rfl (hn _ ((h.mem k v).2 e))
theorem insL_length_new {k : Nat} {v : V} : ∀ {l : List (Nat × V)}, (∀ x ∈ l, x.1 ≠ k) → (insL k v l).length = l.length + 1
  | [], _ => rfl
  | x :: t, h => by
    unfold insL
    have hx := h x (by simp)
    have ih := insL_length_new (v := v) (l := t) (fun y hy => h y (List.mem_cons_of_mem _ hy))
    by_cases h1 : x.1 < k
    · rw [if_pos h1, List.length_cons, ih]; rfl
    · rw [if_neg h1, if_neg hx]; rfl
theorem insL_length_old {k : Nat} {v : V} : ∀ {l : List (Nat × V)}, Srt l → (∃ x ∈ l, x.1 = k) → (insL k v l).length = l.length
  | [], _, ⟨x, hx, _⟩ => by cases hx
  | x :: t, hs, h => by
    have hs' := List.pairwise_cons.1 hs
    unfold insL
    by_cases h1 : x.1 < k
    · rw [if_pos h1, List.length_cons, insL_length_old hs'.2]; rfl
      obtain ⟨y, hy, e⟩ := h
      rcases List.mem_cons.1 hy with rfl | hy
      · omega
      · exact ⟨y, hy, e⟩
    · rw [if_neg h1]
      by_cases h2 : x.1 = k
      · rw [if_pos h2]; rfl
      · obtain ⟨y, hy, e⟩ := h
        rcases List.mem_cons.1 hy with rfl | hy
        · exact absurd e h2
        · have := hs'.1 y hy; omega
theorem Lists.drop {M : Nat → Option V} {l : List (Nat × V)} (h : Lists M l) (k : Nat) : Lists (fun i => if i = k then none else M i) (l.filter fun x => x.1 != k) := by
  refine ⟨h.srt.sublist List.filter_sublist, fun j x => ?_⟩
  rw [List.mem_filter, h.mem]
  by_cases e : j = k
  · subst e; simp
  · simp [e]
theorem drop_length {k : Nat} : ∀ {l : List (Nat × V)}, Srt l → (∃ x ∈ l, x.1 = k) → (l.filter fun x => x.1 != k).length + 1 = l.length
  | [], _, ⟨x, hx, _⟩ => by cases hx
  | x :: t, hs, h => by
    have hs' := List.pairwise_cons.1 hs
    rw [List.filter_cons]
    by_cases e : x.1 = k
    · have e2 : (x.1 != k) = false := by simp [e]
      rw [e2, if_neg (by simp)]
      have : t.filter (fun x => x.1 != k) = t := List.filter_eq_self.2 fun y hy => by have := hs'.1 y hy; simp; omega
      rw [this]; rfl
    · have e2 : (x.1 != k) = true := by simp [e]
      rw [e2, if_pos rfl, List.length_cons, List.length_cons, drop_length hs'.2]
      obtain ⟨y, hy, ey⟩ := h
      rcases List.mem_cons.1 hy with rfl | hy
      · exact absurd ey e
      · exact ⟨y, hy, ey⟩
theorem Lists.cut {M : Nat → Option V} {l : List (Nat × V)} (h : Lists M l) (n : Int) : Lists (fun i => if (i : Int) < n then M i else none) (l.filter fun x => decide ((x.1 : Int) < n)) := by
  refine ⟨h.srt.sublist List.filter_sublist, fun j x => ?_⟩
  rw [List.mem_filter, h.mem]
  by_cases e : (j : Int) < n
  · simp [e]
  · simp [e]
theorem Lists.nil {M : Nat → Option V} (h : ∀ k, M k = none) : Lists M [] := ⟨List.Pairwise.nil, fun k v => by rw [h]; simp⟩

/-- How many of the sixteen are there. -/
def usedOf (f : Nat → Option Nat) : Nat := (List.range 16).countP fun d => (f d).isSome
theorem countP_congr' {p p' : Nat → Bool} : ∀ {n : Nat}, (∀ i, i < n → p' i = p i) → (List.range n).countP p' = (List.range n).countP p
  | 0, _ => rfl
  | n + 1, h => by
    rw [List.range_succ, List.countP_append, List.countP_append, countP_congr' (n := n) (fun i hi => h i (by omega))]
    simp [List.countP_cons, h n (by omega)]
theorem countP_up {p p' : Nat → Bool} {k : Nat} : ∀ {n : Nat}, k < n → p k = false → p' k = true → (∀ i, i < n → i ≠ k → p' i = p i) → (List.range n).countP p' = (List.range n).countP p + 1
  | 0, h, _, _, _ => by omega
  | n + 1, hk, h0, h1, he => by
    rw [List.range_succ, List.countP_append, List.countP_append]
    by_cases e : k = n
    · subst e
      rw [countP_congr' (n := k) (fun i hi => he i (by omega) (by omega))]
      simp [List.countP_cons, h0, h1]
    · rw [countP_up (n := n) (by omega) h0 h1 (fun i hi => he i (by omega))]
      have := he n (by omega) (by omega)
      simp [List.countP_cons, this]
      omega
theorem usedOf_pos {f : Nat → Option Nat} : 0 < usedOf f ↔ ∃ d a, d < 16 ∧ f d = some a := by
  unfold usedOf
  rw [List.countP_pos_iff]
  constructor
  · rintro ⟨d, hd, h⟩
    obtain ⟨a, ha⟩ := Option.isSome_iff_exists.1 h
    exact ⟨d, a, List.mem_range.1 hd, ha⟩
  · rintro ⟨d, a, hd, ha⟩
    exact ⟨d, List.mem_range.2 hd, by rw [ha]; rfl⟩
theorem usedOf_le (f : Nat → Option Nat) : usedOf f ≤ 16 := by
  have := List.countP_le_length (p := fun d => (f d).isSome) (l := List.range 16)
  simpa [usedOf] using this
theorem usedOf_congr {f f' : Nat → Option Nat} (h : ∀ d, d < 16 → (f' d).isSome = (f d).isSome) : usedOf f' = usedOf f := countP_congr' h
theorem usedOf_new {f f' : Nat → Option Nat} {d : Nat} (hd : d < 16) (h0 : f d = none) (h1 : (f' d).isSome = true) (he : ∀ i, i < 16 → i ≠ d → f' i = f i) : usedOf f' = usedOf f + 1 :=
  countP_up (k := d) hd (by rw [h0]; rfl) h1 (fun i hi hn => by rw [he i hi hn])
theorem usedOf_gone {f f' : Nat → Option Nat} {d : Nat} (hd : d < 16) (h0 : f' d = none) (h1 : (f d).isSome = true) (he : ∀ i, i < 16 → i ≠ d → f' i = f i) : usedOf f = usedOf f' + 1 :=
  countP_up (k := d) hd (by rw [h0]; rfl) h1 (fun i hi hn => by rw [he i hi hn])
theorem usedOf_one {f : Nat → Option Nat} {d : Nat} (hd : d < 16) (h1 : usedOf f = 1) (hs : (f d).isSome = true) : ∀ i, i < 16 → i ≠ d → f i = none := by
  intro i hi hn
  cases e : f i with
  | none => rfl
  | some a =>
    have h2 := usedOf_gone (f := f) (f' := fun j => if j = d then none else f j) hd (by simp) hs (fun j _ hj => by simp [hj])
    have h3 : 0 < usedOf (fun j => if j = d then none else f j) := usedOf_pos.2 ⟨i, a, hi, by simp [hn, e]⟩
    omega

/-- A tree: its height; the node (its block) of each level and prefix; of each key the thing's block and the thing. -/
structure TS (V : Type u) where
  h : Nat
  N : Nat → Nat → Option Nat
  K : Nat → Option (Nat × V)
variable {s : TS V}
/-- A node's sixteen: nodes one level below, or things. -/
def TS.child (s : TS V) : Nat → Nat → Nat → Option Nat
  | 0, q, d => (s.K (q * 16 + d)).map Prod.fst
  | L + 1, q, d => s.N L (q * 16 + d)
def TS.val (s : TS V) (k : Nat) : Option V := (s.K k).map Prod.snd
structure WF (s : TS V) : Prop where
  h5 : s.h ≤ 5
  lv : ∀ L q a, s.N L q = some a → L < s.h
  one : ∀ q a, s.N (s.h - 1) q = some a → q = 0
  root : 0 < s.h → ∃ a, s.N (s.h - 1) 0 = some a
  up : ∀ L q a, s.N L q = some a → L + 1 < s.h → ∃ b, s.N (L + 1) (q / 16) = some b
  ku : ∀ k x, s.K k = some x → ∃ b, s.N 0 (k / 16) = some b
  inj : ∀ L q L' q' a, s.N L q = some a → s.N L' q' = some a → L = L' ∧ q = q'
def FullBut (s : TS V) (L0 q0 : Nat) : Prop := ∀ L q a, s.N L q = some a → ¬ (L = L0 ∧ q = q0) → 0 < usedOf (s.child L q)
def Full (s : TS V) : Prop := ∀ L q a, s.N L q = some a → 0 < usedOf (s.child L q)
def MinH (s : TS V) : Prop := 1 < s.h → ∃ d a, 0 < d ∧ d < 16 ∧ s.N (s.h - 2) d = some a
theorem Full.but (h : Full s) (L q : Nat) : FullBut s L q := fun L' q' a ha _ => h L' q' a ha
theorem FullBut.full {L q : Nat} (h : FullBut s L q) (h2 : 0 < usedOf (s.child L q)) : Full s := fun L' q' a ha => by
  by_cases e : L' = L ∧ q' = q
  · obtain ⟨rfl, rfl⟩ := e; exact h2
  · exact h L' q' a ha e
theorem pow_pos16 (n : Nat) : 0 < 16 ^ n := Nat.pow_pos (by decide)
theorem div16 (k L : Nat) : k / 16 ^ (L + 1) = k / 16 ^ L / 16 := by rw [Nat.pow_succ, Nat.div_div_eq_div_mul]
theorem WF.anc (h : WF s) {L q a : Nat} (ha : s.N L q = some a) : ∀ j, L + j < s.h → ∃ b, s.N (L + j) (q / 16 ^ j) = some b
  | 0, _ => ⟨a, by simpa using ha⟩
  | j + 1, hj => by
    obtain ⟨b, hb⟩ := h.anc ha j (by omega)
    obtain ⟨c, hc⟩ := h.up _ _ _ hb (by omega)
    exact ⟨c, by rw [div16]; exact hc⟩
theorem WF.node_lt (h : WF s) {L q a : Nat} (ha : s.N L q = some a) : q < 16 ^ (s.h - 1 - L) := by
  have hl := h.lv _ _ _ ha
  obtain ⟨b, hb⟩ := h.anc ha (s.h - 1 - L) (by omega)
  have e : L + (s.h - 1 - L) = s.h - 1 := by omega
  rw [e] at hb
  have := h.one _ _ hb
  exact (Nat.div_eq_zero_iff_lt (pow_pos16 _)).1 this
theorem WF.key_anc (h : WF s) {k : Nat} {x : Nat × V} (hk : s.K k = some x) {L : Nat} (hL : L < s.h) : ∃ b, s.N L (k / 16 ^ (L + 1)) = some b := by
  obtain ⟨b, hb⟩ := h.ku k x hk
  obtain ⟨c, hc⟩ := h.anc hb L (by omega)
  refine ⟨c, ?_⟩
  rw [Nat.zero_add] at hc
  rw [Nat.pow_succ, Nat.mul_comm, ← Nat.div_div_eq_div_mul]
  exact hc
theorem WF.key_lt (h : WF s) {k : Nat} {x : Nat × V} (hk : s.K k = some x) : k < 16 ^ s.h := by
  obtain ⟨b, hb⟩ := h.ku k x hk
  have h1 := h.lv _ _ _ hb
  have h2 := h.node_lt hb
  have e : s.h = s.h - 1 - 0 + 1 := by omega
  rw [e, Nat.pow_succ]
  omega
theorem WF.key_none (h : WF s) {k L : Nat} (hL : L < s.h) (hn : s.N L (k / 16 ^ (L + 1)) = none) : s.K k = none := by
  cases e : s.K k with
  | none => rfl
  | some x =>
    obtain ⟨b, hb⟩ := h.key_anc e hL
    rw [hn] at hb; cases hb
theorem WF.lists (h : WF s) : Lists s.val (lst s.val 0 (16 ^ s.h)) := lst_lists fun k v e => by
  unfold TS.val at e
  cases hk : s.K k with
  | none => rw [hk] at e; cases e
  | some x => exact h.key_lt hk
/-- A node that is not empty has a key below it. -/
theorem full_key (h : WF s) (hf : Full s) : ∀ {L q a : Nat}, s.N L q = some a → ∃ k x, s.K k = some x ∧ k / 16 ^ (L + 1) = q
  | 0, q, a, ha => by
    obtain ⟨d, b, hd, hb⟩ := usedOf_pos.1 (hf 0 q a ha)
    have hb' : (s.K (q * 16 + d)).map Prod.fst = some b := hb
    cases hk : s.K (q * 16 + d) with
    | none => rw [hk] at hb'; cases hb'
    | some x => exact ⟨_, x, hk, by rw [Nat.zero_add, Nat.pow_one]; omega⟩
  | L + 1, q, a, ha => by
    obtain ⟨d, b, hd, hb⟩ := usedOf_pos.1 (hf (L + 1) q a ha)
    obtain ⟨k, x, hk, e⟩ := full_key h hf (L := L) hb
    exact ⟨k, x, hk, by rw [div16, e]; omega⟩
theorem top_key (h : WF s) (hf : Full s) (hm : MinH s) (h1 : 1 < s.h) : ∃ k x, s.K k = some x ∧ 16 ^ (s.h - 1) ≤ k := by
  obtain ⟨d, a, hd, hd2, ha⟩ := hm h1
  obtain ⟨k, x, hk, e⟩ := full_key h hf ha
  have e2 : s.h - 2 + 1 = s.h - 1 := by omega
  rw [e2] at e
  refine ⟨k, x, hk, ?_⟩
  by_cases hlt : k < 16 ^ (s.h - 1)
  · rw [Nat.div_eq_of_lt hlt] at e; omega
  · omega
theorem some_key (h : WF s) (hf : Full s) (h1 : 0 < s.h) : ∃ k x, s.K k = some x := by
  obtain ⟨a, ha⟩ := h.root h1
  obtain ⟨k, x, hk, _⟩ := full_key h hf ha
  exact ⟨k, x, hk⟩
end Go.Proofs.Ythpjcbaijbppiaa
