/- What holds of a book between two calls; a change of one block keeps it. -/
import Derived.Test.YtmohijpkhmeibaaMRefC
namespace Go.Proofs.Ytmohijpkhmeibaa
open Go.RowKit Go.Proofs
set_option linter.unusedVariables false
set_option linter.unusedSimpArgs false
/-- A block as its state wants. -/
structure RowW (pages last victim : Int) (i : Nat) (x : Blk) : Prop where
  left : x.left = true → x.state = 4
  body : ((x.state = 0 ∨ x.state = 5 ∨ x.state = 6) ∧ x.head = 0 ∧ x.real = false ∧ x.live = 0) ∨ ((x.state = 1 ∨ x.state = 2 ∨ x.state = 3 ∨ x.state = 4) ∧ 1 ≤ x.head ∧ x.head ≤ 281474976710655 ∧ 0 ≤ x.live ∧ x.live < pages)
  held : x.state = 5 → (i : Int) = last
  leav : x.state = 3 → x.live = 0
  used : x.state = 1 → x.real = true ∨ x.live ≠ 0 ∨ (i : Int) = victim
/-- Which block is open. -/
def OpnW (all : List Blk) (opn : Int) : Prop :=
  (opn = -1 ∧ ∀ (i : Nat) (x : Blk), all[i]? = some x → x.state ≠ 2) ∨ (∃ (k : Nat) (x : Blk), opn = (k : Int) ∧ all[k]? = some x ∧ x.state = 2 ∧ ∀ (i : Nat) (y : Blk), all[i]? = some y → y.state = 2 → i = k)
structure WFB (b : Bks) : Prop where
  pos : 8 ≤ b.all.length
  le : b.all.length ≤ 4096
  pg : 4 ≤ b.pages ∧ b.pages ≤ 256
  cur : -1 ≤ b.cursor ∧ b.cursor < b.all.length
  lst : -1 ≤ b.last ∧ b.last < b.all.length
  row : ∀ (i : Nat) (x : Blk), b.all[i]? = some x → RowW b.pages b.last b.victim i x
  opn : OpnW b.all b.opn
  heads : ∀ (i j : Nat) (x y : Blk), b.all[i]? = some x → b.all[j]? = some y → x.head = y.head → x.head ≠ 0 → i = j
  vic : b.victim = -1 ∨ ∃ (k : Nat) (x : Blk), b.victim = (k : Int) ∧ b.all[k]? = some x ∧ (x.state = 1 ∨ x.state = 4 ∨ x.state = 6)
  lastS : ∀ (i : Nat) (x : Blk), b.all[i]? = some x → (i : Int) = b.last → x.state ≠ 0 ∧ x.state ≠ 6
theorem WFB.cursor {b : Bks} (h : WFB b) (c : Int) (hc : -1 ≤ c ∧ c < b.all.length) : WFB { b with cursor := c } :=
  ⟨h.pos, h.le, h.pg, hc, h.lst, h.row, h.opn, h.heads, h.vic, h.lastS⟩
theorem get_set {l : List Blk} {k i : Nat} {y z : Blk} (h : (l.set k y)[i]? = some z) : (i = k ∧ z = y) ∨ (i ≠ k ∧ l[i]? = some z) := by
  by_cases e : k = i
  · subst e
    have hl : k < l.length := by
      have := (List.getElem?_eq_some_iff.1 h).1
      simpa using this
    rw [List.getElem?_set_self hl] at h
    exact .inl ⟨rfl, (Option.some.inj h).symm⟩
  · rw [List.getElem?_set_ne e] at h
    exact .inr ⟨fun h => e h.symm, h⟩
theorem WFB.upd {b : Bks} (h : WFB b) {k : Nat} {x : Blk} (hx : b.all[k]? = some x) (y : Blk) (o v : Int)
    (hrow : RowW b.pages b.last v k y) (hv : v = b.victim ∨ (v = -1 ∧ b.victim = (k : Int))) (hvk : v = (k : Int) → y.state = 1 ∨ y.state = 4 ∨ y.state = 6)
    (ho : (o = b.opn ∧ (x.state = 2 ↔ y.state = 2)) ∨ (o = -1 ∧ b.opn = (k : Int) ∧ y.state ≠ 2) ∨ (o = (k : Int) ∧ b.opn = -1 ∧ y.state = 2))
    (hh : y.head = x.head ∨ y.head = 0 ∨ ∀ z ∈ b.all, z.head < y.head) (hl : (k : Int) = b.last → y.state ≠ 0 ∧ y.state ≠ 6) :
    WFB { b with all := b.all.set k y, opn := o, victim := v } := by
  have hk : k < b.all.length := (List.getElem?_eq_some_iff.1 hx).1
  have gk : (b.all.set k y)[k]? = some y := List.getElem?_set_self hk
  have gn : ∀ {i : Nat} {z : Blk}, i ≠ k → b.all[i]? = some z → (b.all.set k y)[i]? = some z := fun hi hz => by rw [List.getElem?_set_ne (Ne.symm hi)]; exact hz
  refine ⟨by simpa using h.pos, by simpa using h.le, h.pg, by simpa using h.cur, by simpa using h.lst, fun i z hz => ?_, ?_, fun i j z z' hz hz' he hn => ?_, ?_, fun i z hz hi => ?_⟩
  · rcases get_set hz with ⟨rfl, rfl⟩ | ⟨hi, hz⟩
    · exact hrow
    · have hr := h.row i z hz
      refine ⟨hr.left, hr.body, hr.held, hr.leav, fun hs => ?_⟩
      rcases hr.used hs with h1 | h1 | h1
      · exact .inl h1
      · exact .inr (.inl h1)
      · rcases hv with hv | ⟨_, hv⟩
        · exact .inr (.inr (by rw [hv]; exact h1))
        · omega
  · rcases ho with ⟨rfl, ho⟩ | ⟨rfl, hok, hy⟩ | ⟨rfl, hon, hy⟩
    · rcases h.opn with ⟨h1, h2⟩ | ⟨k', x', h1, h2, h3, h4⟩
      · refine .inl ⟨h1, fun i z hz => ?_⟩
        rcases get_set hz with ⟨rfl, rfl⟩ | ⟨hi, hz⟩
        · exact fun e => h2 _ x hx (ho.2 e)
        · exact h2 i z hz
      · by_cases e : k' = k
        · subst e
          rw [hx] at h2
          cases h2
          refine .inr ⟨k', y, h1, gk, ho.1 h3, fun i z hz hs => ?_⟩
          rcases get_set hz with ⟨rfl, rfl⟩ | ⟨hi, hz⟩
          · rfl
          · exact h4 i z hz hs
        · refine .inr ⟨k', x', h1, gn e h2, h3, fun i z hz hs => ?_⟩
          rcases get_set hz with ⟨rfl, rfl⟩ | ⟨hi, hz⟩
          · exact h4 _ x hx (ho.2 hs)
          · exact h4 i z hz hs
    · refine .inl ⟨rfl, fun i z hz => ?_⟩
      rcases get_set hz with ⟨rfl, rfl⟩ | ⟨hi, hz⟩
      · exact hy
      · rcases h.opn with ⟨h1, h2⟩ | ⟨k', x', h1, h2, h3, h4⟩
        · omega
        · intro e
          have := h4 i z hz e
          omega
    · refine .inr ⟨k, y, rfl, gk, hy, fun i z hz hs => ?_⟩
      rcases get_set hz with ⟨rfl, rfl⟩ | ⟨hi, hz⟩
      · rfl
      · rcases h.opn with ⟨h1, h2⟩ | ⟨k', x', h1, h2, h3, h4⟩
        · exact absurd hs (h2 i z hz)
        · omega
  · rcases get_set hz with ⟨ei, ez⟩ | ⟨hi, hz2⟩
    · rcases get_set hz' with ⟨ej, ez'⟩ | ⟨hj, hz2'⟩
      · omega
      · subst ez
        rcases hh with h1 | h1 | h1
        · rw [ei]; exact h.heads _ _ x z' hx hz2' (by omega) (by omega)
        · omega
        · have := h1 z' (List.mem_of_getElem? hz2'); omega
    · rcases get_set hz' with ⟨ej, ez'⟩ | ⟨hj, hz2'⟩
      · subst ez'
        rcases hh with h1 | h1 | h1
        · rw [ej]; exact h.heads _ _ z x hz2 hx (by omega) (by omega)
        · omega
        · have := h1 z (List.mem_of_getElem? hz2); omega
      · exact h.heads i j z z' hz2 hz2' he hn
  · rcases hv with hv | ⟨hv, _⟩
    · rcases h.vic with h1 | ⟨k', x', h1, h2, h3⟩
      · exact .inl (by show v = -1; omega)
      · by_cases e : k' = k
        · subst e
          exact .inr ⟨k', y, hv.trans h1, gk, hvk (hv.trans h1)⟩
        · exact .inr ⟨k', x', hv.trans h1, gn e h2, h3⟩
    · exact .inl hv
  · rcases get_set hz with ⟨rfl, rfl⟩ | ⟨hi', hz⟩
    · exact hl hi
    · exact h.lastS i z hz hi
theorem WFB.vicOk {b : Bks} (h : WFB b) : VicOk b := by
  rcases h.vic with h1 | ⟨k, x, h1, h2, _⟩
  · exact .inl h1
  · exact .inr ⟨k, x, h1, h2⟩
theorem WFB.leftW {b : Bks} (h : WFB b) : ∀ (k : Nat) (x : Blk), b.all[k]? = some x → x.left = true → x.state = 4 := fun k x hx => (h.row k x hx).left
/-- A block that is emptied. -/
theorem WFB.emptied {b : Bks} (h : WFB b) {k : Nat} {x : Blk} (hx : b.all[k]? = some x) (hs : x.state ≠ 2) (hv : b.victim ≠ (k : Int)) : WFB (emptyB b k) := by
  unfold emptyB
  by_cases e : (k : Int) = b.last
  · rw [if_pos e]
    refine (h.upd hx heldBlk b.opn b.victim ⟨fun h => (by cases h), .inl ⟨.inr (.inl rfl), rfl, rfl, rfl⟩, fun _ => e, fun h => (by cases h), fun h => (by cases h)⟩ (.inl rfl) (fun h => absurd h hv) (.inl ⟨rfl, fun h => absurd h hs, fun h => (by cases h)⟩) (.inr (.inl rfl)) fun _ => ⟨by decide, by decide⟩)
  · rw [if_neg e]
    refine (h.upd hx freeBlk b.opn b.victim ⟨fun h => (by cases h), .inl ⟨.inl rfl, rfl, rfl, rfl⟩, fun h => (by cases h), fun h => (by cases h), fun h => (by cases h)⟩ (.inl rfl) (fun h => absurd h hv) (.inl ⟨rfl, fun h => absurd h hs, fun h => (by cases h)⟩) (.inr (.inl rfl)) fun h => absurd h e)
/-- The same, of a block that may not be as a used one is: it is set first. -/
theorem emptyB_set (b : Bks) (k : Nat) (z : Blk) : emptyB { b with all := b.all.set k z } k = emptyB b k := by
  unfold emptyB
  simp [List.set_set]
end Go.Proofs.Ytmohijpkhmeibaa
/- Each call of the two books: one answer, one new state, which is as a book should be. -/
namespace Go.Proofs.Ytmohijpkhmeibaa
open Go.RowKit Go.Proofs
set_option linter.unusedVariables false
set_option linter.unusedSimpArgs false
set_option maxRecDepth 100000
/-- A call of the program's book. -/
def OpB (f : Nat) (mk : Value → Array Value) (b b' : Bks) (r : Value) : Prop :=
  ∀ (w : World) (p q cap : Nat), IsB w p q cap b → Calls Try.prog f (mk (.pointer (some ⟨p, 0, none⟩))) w fun e w' => e = .returned r ∧ IsB w' p q cap b' ∧ Off (fun i => i = q ∨ i = p) w w'
/-- A call of the document's book. -/
def OpR (f : Nat) (mk : Value → Array Value) (b b' : Bks) (r : Value) : Prop :=
  ∀ (w : World) (p q t cap : Nat), IsR w p q t cap b → Calls Try.prog f (mk (.pointer (some ⟨p, 0, none⟩))) w fun e w' => e = .returned r ∧ IsR w' p q t cap b' ∧ Off (fun i => i = q ∨ i = t ∨ i = p) w w'
theorem IsR.opn {w : World} {p q t cap : Nat} {b : Bks} (h : IsR w p q t cap b) (o : Int) : IsR w p q t cap { b with opn := o } := ⟨h.head, h.rows, h.left, h.pos, h.le⟩
def NoLeft (b : Bks) : Prop := ∀ (i : Nat) (x : Blk), b.all[i]? = some x → x.left = false
/-- What every call but Commit keeps. -/
structure Stp (b b' : Bks) : Prop where
  wf : WFB b'
  len : b'.all.length = b.all.length
  last : b'.last = b.last
  pages : b'.pages = b.pages
theorem Stp.refl {b : Bks} (h : WFB b) : Stp b b := ⟨h, rfl, rfl, rfl⟩
theorem NoLeft.set {b : Bks} (h : NoLeft b) {k : Nat} {y : Blk} (hy : y.left = false) {c : Bks} (hc : c.all = b.all.set k y) : NoLeft c := fun i z hz => by
  rw [hc] at hz
  rcases get_set hz with ⟨_, rfl⟩ | ⟨_, hz⟩
  · exact hy
  · exact h i z hz
section
variable {w w' : World} {p q t cap : Nat} {b : Bks}
theorem off_same {S : Nat → Prop} : Off S w w := Off.refl _ _
theorem IsB.end_same {e : Ending} {r : Value} (hI : IsB w p q cap b) (h : e = .returned r ∧ w = w') : e = .returned r ∧ IsB w' p q cap b ∧ Off (fun i => i = q ∨ i = p) w w' := by
  obtain ⟨h1, rfl⟩ := h
  exact ⟨h1, hI, Off.refl _ _⟩
theorem IsB.end_below {e : Ending} {r : Value} (hI : IsB w p q cap b) (h : e = .returned r ∧ Below w.heap.size w w') : e = .returned r ∧ IsB w' p q cap b ∧ Off (fun i => i = q ∨ i = p) w w' :=
  ⟨h.1, hI.below h.2, Off.of_below h.2⟩
theorem IsR.end_same {e : Ending} {r : Value} (hI : IsR w p q t cap b) (h : e = .returned r ∧ w = w') : e = .returned r ∧ IsR w' p q t cap b ∧ Off (fun i => i = q ∨ i = t ∨ i = p) w w' := by
  obtain ⟨h1, rfl⟩ := h
  exact ⟨h1, hI, Off.refl _ _⟩
theorem IsR.end_below {e : Ending} {r : Value} (hI : IsR w p q t cap b) (h : e = .returned r ∧ Below w.heap.size w w') : e = .returned r ∧ IsR w' p q t cap b ∧ Off (fun i => i = q ∨ i = t ∨ i = p) w w' :=
  ⟨h.1, hI.below h.2, Off.of_below h.2⟩
end
theorem place (b : Bks) (n : Int) : (n < 0 ∨ b.all.length ≤ n) ∨ ∃ (k : Nat) (x : Blk), n = (k : Int) ∧ b.all[k]? = some x := by
  by_cases h : n < 0 ∨ b.all.length ≤ n
  · exact .inl h
  · refine .inr ⟨n.toNat, _, by omega, List.getElem?_eq_getElem (by omega)⟩
theorem pick_find (b : Bks) : ∀ m, PickNo b m ∨ ∃ (k : Nat) (x : Blk), k < m ∧ PickNo b k ∧ b.all[pickAt b k]? = some x ∧ x.state = 0 ∨ b.all.length = 0 := by
  intro m
  induction m with
  | zero => exact .inl fun k hk => absurd hk (Nat.not_lt_zero _)
  | succ m ih =>
    rcases ih with h | ⟨k, x, h⟩
    · by_cases h0 : b.all.length = 0
      · exact .inr ⟨0, freeBlk, .inr h0⟩
      have hx := List.getElem?_eq_getElem (pickAt_lt (b := b) (by omega) m)
      by_cases hs : (b.all[pickAt b m]'(pickAt_lt (b := b) (by omega) m)).state = 0
      · exact .inr ⟨m, _, .inl ⟨by omega, h, hx, hs⟩⟩
      · refine .inl fun k hk => ?_
        by_cases e : k = m
        · subst e; exact ⟨_, hx, hs⟩
        · exact h k (by omega)
    · rcases h with h | h
      · exact .inr ⟨k, x, .inl ⟨by omega, h.2⟩⟩
      · exact .inr ⟨k, x, .inr h⟩
theorem op_pick {b : Bks} (h : WFB b) : ∃ (v : Int) (ok : Bool) (b' : Bks), OpB 10 (fun p => #[p]) b b' (.tuple #[.int .i64 v, .bool ok]) ∧ OpR 55 (fun p => #[p]) b b' (.tuple #[.int .i64 v, .bool ok]) ∧ Stp b b' ∧ b'.all = b.all := by
  have hpos : 0 < b.all.length := by have := h.pos; omega
  rcases pick_find b b.all.length with hno | ⟨k, x, h1⟩
  · refine ⟨0, false, b, fun w p q cap hI => ?_, fun w p q t cap hI => ?_, Stp.refl h, rfl⟩
    · refine (pick_no p q cap b w hI h.cur.1 h.cur.2 hno).mono ?_
      rintro e w' ⟨h1, m, rfl⟩
      exact ⟨h1, hI.drewN m, (Off.refl _ w).drewN m⟩
    · exact (rpick_no p q t cap b w hI h.cur.1 h.cur.2 hno).mono fun e w' h => hI.end_same h
  · rcases h1 with ⟨hk, hno, hx, hs⟩ | h0
    · have hlt := pickAt_lt (b := b) hpos k
      refine ⟨pickAt b k, true, { b with cursor := pickAt b k }, fun w p q cap hI => ?_, fun w p q t cap hI => ?_, ⟨h.cursor _ ⟨by omega, by omega⟩, rfl, rfl, rfl⟩, rfl⟩
      · exact (pick_yes p q cap b k w hI h.cur.1 h.cur.2 hk hno x hx hs).mono fun e w' h => ⟨h.1, h.2.1, h.2.2.mono fun i _ e => .inr e⟩
      · exact (rpick_yes p q t cap b k w hI h.cur.1 h.cur.2 hk hno x hx hs).mono fun e w' h => ⟨h.1, h.2.1, h.2.2.mono fun i _ e => .inr (.inr e)⟩
    · omega
/-- The open block, for the document's contracts. -/
theorem WFB.open_cases {b : Bks} (h : WFB b) : (b.opn = -1 ∧ (∀ x ∈ b.all, x.state ≠ 2) ∧ OpenAt b b.all.length) ∨
    (∃ (k : Nat) (x : Blk), b.opn = (k : Int) ∧ b.all[k]? = some x ∧ x.state = 2 ∧ (∀ (i : Nat) (y : Blk), i < k → b.all[i]? = some y → y.state ≠ 2) ∧ OpenAt b k ∧ k < b.all.length) := by
  rcases h.opn with ⟨h1, h2⟩ | ⟨k, x, h1, h2, h3, h4⟩
  · refine .inl ⟨h1, fun x hx => ?_, Nat.le_refl _, fun i x _ hx => h2 i x hx, fun x hx => ?_⟩
    · obtain ⟨i, hi⟩ := List.getElem?_of_mem hx
      exact h2 i x hi
    · rw [List.getElem?_eq_none (Nat.le_refl _)] at hx; cases hx
  · have hk : k < b.all.length := (List.getElem?_eq_some_iff.1 h2).1
    have hb : ∀ (i : Nat) (y : Blk), i < k → b.all[i]? = some y → y.state ≠ 2 := fun i y hi hy e => by have := h4 i y hy e; omega
    exact .inr ⟨k, x, h1, h2, h3, hb, ⟨by omega, hb, fun y hy => by rw [h2] at hy; cases hy; exact h3⟩, hk⟩
theorem rstart_used (p q t cap : Nat) (b : Bks) (k ko : Nat) (x : Blk) (h : Int) (w : World) (hI : IsR w p q t cap b) (hx : b.all[k]? = some x) (hs : x.state ≠ 0) (ho : OpenAt b ko) :
    Calls Try.prog 56 #[.pointer (some ⟨p, 0, none⟩), .int .i64 (k : Int), .int .u64 h] w fun e w' => e = .returned (.int .i64 110) ∧ w = w' := by
  have hk : k < b.all.length := (List.getElem?_eq_some_iff.1 hx).1
  have NC := rin_calls p q t cap b k w hI
  rw [in_yes hk] at NC
  have NC := Lib.hid NC
  have OC := Lib.hid (ropen_calls p q t cap b ko w hI ho.1 ho.2.1 ho.2.2)
  have c1 := hI.c1
  have e0 := hI.e0 hx
  have hle := hI.le
  have hkl : (k : Int) < (b.all.length : Int) := by omega
  have ns : (x.state != 0) = true := bne_iff_ne.2 hs
  clear hI hx ho hs
  go_enter Try.func56, Try.ntmps56
  go_wp2_with (first | (go_at_call 64; refine NC.out.mono ?_; rintro e w' ⟨rfl, rfl⟩) | (go_at_call 51; refine OC.out.mono ?_; rintro e w' ⟨rfl, rfl⟩))
  all_goals
    go_ret
    exact ⟨rfl, rfl⟩
theorem op_start {b : Bks} (h : WFB b) (n hd : Int) (hd0 : 0 ≤ hd) : ∃ (e : Int) (b' : Bks), OpB 41 (fun p => #[p, .int .i64 n, .int .u64 hd]) b b' (.int .i64 e) ∧ OpR 56 (fun p => #[p, .int .i64 n, .int .u64 hd]) b b' (.int .i64 e) ∧ Stp b b' ∧ (e ≠ 0 → b' = b) ∧ (NoLeft b → NoLeft b') := by
  rcases place b n with hn | ⟨k, x, rfl, hx⟩
  · exact ⟨41, b, fun w p q cap hI => (start_away p q cap b n hd w hI hn).mono fun e w' h => hI.end_same h, fun w p q t cap hI => (rstart_away p q t cap b n hd w hI hn).mono fun e w' h => hI.end_same h, Stp.refl h, fun _ => rfl, fun h => h⟩
  have hr := h.row k x hx
  have ho : ∃ ko, OpenAt b ko ∧ (ko = b.all.length ↔ b.opn = -1) := by
    rcases h.open_cases with ⟨h1, _, h3⟩ | ⟨k', y, h1, _, _, _, h5, h6⟩
    · exact ⟨_, h3, fun _ => h1, fun _ => rfl⟩
    · exact ⟨k', h5, fun e => by omega, fun e => by omega⟩
  obtain ⟨ko, hko, hkn⟩ := ho
  by_cases hok : StartAll b ko x hd
  · have h0 : x.state = 0 ∧ b.opn = -1 ∧ hd ≠ 0 ∧ hd ≤ 281474976710655 := ⟨hok.1, hkn.1 hok.2.1, hok.2.2.1, hok.2.2.2.1⟩
    have hl : x.left = false := by
      cases e : x.left
      · rfl
      · have := hr.left e; omega
    refine ⟨0, { b with all := b.all.set k (openBlk hd), opn := (k : Int) }, fun w p q cap hI => ?_, fun w p q t cap hI => ?_, ⟨?_, by simp, rfl, rfl⟩, fun h => absurd rfl h, fun hn => hn.set (k := k) (y := openBlk hd) rfl rfl⟩
    · refine (start_in p q cap b k x hd w hI hx h0).mono ?_
      rintro e w' (⟨_, h1, h2, h3⟩ | ⟨⟨y, hy, hy2⟩, _⟩)
      · exact ⟨h1, h2, h3⟩
      · have := hok.2.2.2.2 y hy; omega
    · refine (rstart_in p q t cap b k ko x hd w hI hx hl hko hd0).mono ?_
      rintro e w' (⟨_, h1, h2, h3⟩ | ⟨h1, _⟩)
      · exact ⟨h1, h2.opn _, h3.mono fun i _ e => .inl e⟩
      · exact absurd hok h1
    · have hlast : (k : Int) ≠ b.last := fun e => (h.lastS k x hx e).1 h0.1
      have hvic : b.victim ≠ (k : Int) := fun e => by
        rcases h.vic with h1 | ⟨k', y, h1, h2, h3⟩
        · omega
        · have : k' = k := by omega
          subst this
          rw [hx] at h2; cases h2; omega
      exact h.upd hx (openBlk hd) (k : Int) b.victim ⟨fun h => (by cases h), .inr ⟨.inr (.inl rfl), by show 1 ≤ hd; omega, h0.2.2.2, Int.le_refl _, by show (0 : Int) < b.pages; have := h.pg; omega⟩, fun h => (by cases h), fun h => (by cases h), fun h => (by cases h)⟩ (.inl rfl) (fun e => absurd e hvic) (.inr (.inr ⟨rfl, h0.2.1, rfl⟩)) (.inr (.inr fun z hz => hok.2.2.2.2 z hz)) fun e => absurd e hlast
  · have hR : OpR 56 (fun p => #[p, .int .i64 (k : Int), .int .u64 hd]) b b (.int .i64 110) := fun w p q t cap hI => by
      by_cases hl : x.left = false
      · refine (rstart_in p q t cap b k ko x hd w hI hx hl hko hd0).mono ?_
        rintro e w' (⟨h1, _⟩ | ⟨_, h1, h2⟩)
        · exact absurd h1 hok
        · exact hI.end_same ⟨h1, h2⟩
      · have hl4 := hr.left (by cases e : x.left; exact absurd e hl; rfl)
        exact (rstart_used p q t cap b k ko x hd w hI hx (by omega) hko).mono fun e w' h => hI.end_same h
    by_cases h0 : x.state = 0 ∧ b.opn = -1 ∧ hd ≠ 0 ∧ hd ≤ 281474976710655
    · refine ⟨110, b, fun w p q cap hI => ?_, hR, Stp.refl h, fun _ => rfl, fun h => h⟩
      refine (start_in p q cap b k x hd w hI hx h0).mono ?_
      rintro e w' (⟨h1, _⟩ | ⟨_, h1, h2⟩)
      · exact absurd ⟨h0.1, hkn.2 h0.2.1, h0.2.2.1, h0.2.2.2, h1⟩ hok
      · exact hI.end_below ⟨h1, h2⟩
    · exact ⟨110, b, fun w p q cap hI => (start_no p q cap b k x hd w hI hx h0).mono fun e w' h => hI.end_same h, hR, Stp.refl h, fun _ => rfl, fun h => h⟩
end Go.Proofs.Ytmohijpkhmeibaa
/- Each call of the two books: Real, Wait, Shut, Live, Bad, Leave. -/
namespace Go.Proofs.Ytmohijpkhmeibaa
open Go.RowKit Go.Proofs
set_option linter.unusedVariables false
set_option linter.unusedSimpArgs false
theorem WFB.vic_ne {b : Bks} (h : WFB b) {k : Nat} {x : Blk} (hx : b.all[k]? = some x) (hs : x.state ≠ 1 ∧ x.state ≠ 4 ∧ x.state ≠ 6) : b.victim ≠ (k : Int) := fun e => by
  rcases h.vic with h1 | ⟨k', y, h1, h2, h3⟩
  · omega
  · have : k' = k := by omega
    subst this
    rw [hx] at h2
    cases h2
    omega
theorem RowW.noleft {P l v : Int} {i : Nat} {x : Blk} (h : RowW P l v i x) (hs : x.state ≠ 4) : x.left = false := by
  cases e : x.left
  · rfl
  · exact absurd (h.left e) hs
theorem op_real {b : Bks} (h : WFB b) : ∃ (e : Int) (b' : Bks), OpB 42 (fun p => #[p]) b b' (.int .i64 e) ∧ OpR 57 (fun p => #[p]) b b' (.int .i64 e) ∧ Stp b b' ∧ (e ≠ 0 → b' = b) ∧ (NoLeft b → NoLeft b') := by
  rcases h.open_cases with ⟨h1, h2, _⟩ | ⟨k, x, h1, hx, hs, hb, _, _⟩
  · exact ⟨110, b, fun w p q cap hI => (real_none p q cap b w hI h1).mono fun e w' h => hI.end_same h, fun w p q t cap hI => (rreal_none p q t cap b w hI h2).mono fun e w' h => hI.end_same h, Stp.refl h, fun _ => rfl, fun h => h⟩
  · have hr := h.row k x hx
    have hl : x.left = false := hr.noleft (by omega)
    refine ⟨0, { b with all := b.all.set k x.setReal }, fun w p q cap hI => (real_some p q cap b k x w hI h1 hx).mono fun e w' h => ⟨h.1, h.2.1, h.2.2.mono fun i _ e => .inl e⟩, fun w p q t cap hI => (rreal_some p q t cap b k x w hI hx hs hb).mono fun e w' h => ⟨h.1, h.2.1, h.2.2.mono fun i _ e => .inl e⟩, ⟨?_, by simp, rfl, rfl⟩, fun h => absurd rfl h, fun hn => hn.set (k := k) (y := x.setReal) hl rfl⟩
    have := h.vic_ne hx (by omega)
    refine h.upd hx x.setReal b.opn b.victim ⟨hr.left, ?_, hr.held, hr.leav, fun _ => .inl rfl⟩ (.inl rfl) (fun e => absurd e this) (.inl ⟨rfl, Iff.rfl⟩) (.inl rfl) fun e => h.lastS k x hx e
    rcases hr.body with h1 | h1
    · omega
    · exact .inr h1
theorem op_wait {b : Bks} (h : WFB b) : ∃ (e : Int) (b' : Bks), OpB 44 (fun p => #[p]) b b' (.int .i64 e) ∧ OpR 60 (fun p => #[p]) b b' (.int .i64 e) ∧ Stp b b' ∧ (e ≠ 0 → b' = b) ∧ (NoLeft b → NoLeft b') := by
  rcases h.open_cases with ⟨h1, h2, _⟩ | ⟨k, x, h1, hx, hs, hb, _, _⟩
  · exact ⟨110, b, fun w p q cap hI => (wait_none p q cap b w hI h1).mono fun e w' h => hI.end_same h, fun w p q t cap hI => (rwait_none p q t cap b w hI h2).mono fun e w' h => hI.end_same h, Stp.refl h, fun _ => rfl, fun h => h⟩
  · have hr := h.row k x hx
    have hl : x.left = false := hr.noleft (by omega)
    refine ⟨0, { b with all := b.all.set k { x with state := 4 }, opn := -1 }, fun w p q cap hI => (wait_some p q cap b k x w hI h1 hx).mono fun e w' h => h, fun w p q t cap hI => (rwait_some p q t cap b k x w hI hx hs hb).mono fun e w' h => ⟨h.1, h.2.1.opn _, h.2.2.mono fun i _ e => .inl e⟩, ⟨?_, by simp, rfl, rfl⟩, fun h => absurd rfl h, fun hn => hn.set (k := k) (y := { x with state := 4 }) hl rfl⟩
    refine h.upd hx { x with state := 4 } (-1) b.victim ⟨fun _ => rfl, ?_, fun h => (by cases h), fun h => (by cases h), fun h => (by cases h)⟩ (.inl rfl) (fun e => .inr (.inl rfl)) (.inr (.inl ⟨rfl, h1, fun h => (by cases h)⟩)) (.inl rfl) fun e => ⟨fun h => (by cases h), fun h => (by cases h)⟩
    rcases hr.body with h1 | h1
    · omega
    · exact .inr ⟨.inr (.inr (.inr rfl)), h1.2⟩
theorem hollow_no {x : Blk} (h : hollowB x = false) (hs : x.state = 1) : x.real = true ∨ x.live ≠ 0 := by
  unfold hollowB at h
  rw [show (x.state == 1) = true from beq_iff_eq.2 hs, Bool.true_and] at h
  cases hr : x.real
  · rw [hr] at h
    right
    intro e
    rw [e] at h
    cases h
  · exact .inl rfl
theorem hollow_yes {x : Blk} (h : hollowB x = true) : x.state = 1 ∧ x.real = false ∧ x.live = 0 := by
  unfold hollowB at h
  simpa using h
def emptyX (b : Bks) (k : Nat) : Blk := if (k : Int) = b.last then heldBlk else freeBlk
theorem emptyX_left (b : Bks) (k : Nat) : (emptyX b k).left = false := by unfold emptyX; split <;> rfl
theorem emptyX_row (b : Bks) (k : Nat) (v : Int) : RowW b.pages b.last v k (emptyX b k) := by
  unfold emptyX
  split
  · rename_i e
    exact ⟨fun h => (by cases h), .inl ⟨.inr (.inl rfl), rfl, rfl, rfl⟩, fun _ => e, fun h => (by cases h), fun h => (by cases h)⟩
  · exact ⟨fun h => (by cases h), .inl ⟨.inl rfl, rfl, rfl, rfl⟩, fun h => (by cases h), fun h => (by cases h), fun h => (by cases h)⟩
theorem emptyX_state (b : Bks) (k : Nat) : (emptyX b k).state ≠ 2 ∧ (emptyX b k).head = 0 ∧ ((k : Int) = b.last → (emptyX b k).state ≠ 0 ∧ (emptyX b k).state ≠ 6) := by
  unfold emptyX
  split
  · exact ⟨by decide, rfl, fun _ => ⟨by decide, by decide⟩⟩
  · rename_i e
    exact ⟨by decide, rfl, fun h => absurd h e⟩
theorem WFB.empty_upd {b : Bks} (h : WFB b) {k : Nat} {x : Blk} (hx : b.all[k]? = some x) (o : Int) (hv : b.victim ≠ (k : Int)) (ho : (o = b.opn ∧ x.state ≠ 2) ∨ (o = -1 ∧ b.opn = (k : Int))) :
    WFB { b with all := b.all.set k (emptyX b k), opn := o } := by
  obtain ⟨h1, h2, h3⟩ := emptyX_state b k
  refine h.upd hx (emptyX b k) o b.victim (emptyX_row b k _) (.inl rfl) (fun e => absurd e hv) ?_ (.inr (.inl h2)) h3
  rcases ho with ⟨rfl, ho⟩ | ⟨rfl, ho⟩
  · exact .inl ⟨rfl, fun e => absurd e ho, fun e => absurd e h1⟩
  · exact .inr (.inl ⟨rfl, ho, h1⟩)
theorem emptyB_eq (b : Bks) (k : Nat) : emptyB b k = { b with all := b.all.set k (emptyX b k) } := rfl
theorem op_shut {b : Bks} (h : WFB b) : ∃ (e : Int) (b' : Bks), OpB 43 (fun p => #[p]) b b' (.int .i64 e) ∧ OpR 59 (fun p => #[p]) b b' (.int .i64 e) ∧ Stp b b' ∧ (e ≠ 0 → b' = b) ∧ (NoLeft b → NoLeft b') := by
  rcases h.open_cases with ⟨h1, h2, _⟩ | ⟨k, x, h1, hx, hs, hb, _, _⟩
  · exact ⟨110, b, fun w p q cap hI => (shut_none p q cap b w hI h1).mono fun e w' h => hI.end_same h, fun w p q t cap hI => (rshut_none p q t cap b w hI h2).mono fun e w' h => hI.end_same h, Stp.refl h, fun _ => rfl, fun h => h⟩
  · have hr := h.row k x hx
    have hl : x.left = false := hr.noleft (by omega)
    have hvn := h.vic_ne hx (by omega)
    have hset : settleB (shutB b k x) k { x with state := 1 } = if hollowB { x with state := 1 } = true then emptyB (shutB b k x) k else shutB b k x := by
      unfold settleB
      rw [if_neg]
      intro e
      exact hvn e.symm
    by_cases hh : hollowB { x with state := 1 } = true
    · have hE : settleB (shutB b k x) k { x with state := 1 } = { b with all := b.all.set k (emptyX b k), opn := -1 } := by
        rw [hset, if_pos hh, emptyB_eq]
        unfold shutB emptyX
        simp [List.set_set]
      refine ⟨0, { b with all := b.all.set k (emptyX b k), opn := -1 }, fun w p q cap hI => (shut_some p q cap b k x w hI h1 hx).mono fun e w' h => ⟨h.1, by have := h.2.1; rwa [hE] at this, h.2.2⟩, fun w p q t cap hI => (rshut_some p q t cap b k x w hI hx hs hl hb).mono fun e w' h => ⟨h.1, ?_, h.2.2.mono fun i _ e => .inl e⟩, ⟨h.empty_upd hx (-1) hvn (.inr ⟨rfl, h1⟩), by simp, rfl, rfl⟩, fun h => absurd rfl h, fun hn => hn.set (k := k) (y := emptyX b k) (emptyX_left b k) rfl⟩
      have := h.2.1
      rw [if_pos hh, emptyB_set] at this
      exact this.opn (-1)
    · have hE : settleB (shutB b k x) k { x with state := 1 } = shutB b k x := by rw [hset, if_neg hh]
      refine ⟨0, shutB b k x, fun w p q cap hI => (shut_some p q cap b k x w hI h1 hx).mono fun e w' h => ⟨h.1, by have := h.2.1; rwa [hE] at this, h.2.2⟩, fun w p q t cap hI => (rshut_some p q t cap b k x w hI hx hs hl hb).mono fun e w' h => ⟨h.1, ?_, h.2.2.mono fun i _ e => .inl e⟩, ⟨?_, by unfold shutB; simp, rfl, rfl⟩, fun h => absurd rfl h, fun hn => hn.set (k := k) (y := { x with state := 1 }) hl rfl⟩
      · have := h.2.1
        rw [if_neg hh] at this
        exact this.opn (-1)
      · have hno := hollow_no (x := { x with state := 1 }) (by simpa using hh) rfl
        refine h.upd hx { x with state := 1 } (-1) b.victim ⟨fun e => ?_, ?_, fun h => (by cases h), fun h => (by cases h), fun _ => hno.imp id .inl⟩ (.inl rfl) (fun e => absurd e hvn) (.inr (.inl ⟨rfl, h1, fun h => (by cases h)⟩)) (.inl rfl) fun e => ⟨fun h => (by cases h), fun h => (by cases h)⟩
        · have e' : x.left = true := e
          rw [hl] at e'
          cases e'
        · rcases hr.body with h1 | h1
          · omega
          · exact .inr ⟨.inl rfl, h1.2⟩
theorem op_live {b : Bks} (h : WFB b) (n m : Int) (hm : -9223372036854775808 ≤ m ∧ m ≤ 9223372036854775807) : ∃ (e : Int) (b' : Bks), OpB 17 (fun p => #[p, .int .i64 n, .int .i64 m]) b b' (.int .i64 e) ∧ OpR 58 (fun p => #[p, .int .i64 n, .int .i64 m]) b b' (.int .i64 e) ∧ Stp b b' ∧ (e ≠ 0 → b' = b) ∧ (NoLeft b → NoLeft b') := by
  rcases place b n with hn | ⟨k, x, rfl, hx⟩
  · exact ⟨41, b, fun w p q cap hI => (live_away p q cap b n m w hI hn).mono fun e w' h => hI.end_same h, fun w p q t cap hI => (rlive_away p q t cap b n m w hI hn).mono fun e w' h => hI.end_same h, Stp.refl h, fun _ => rfl, fun h => h⟩
  have hr := h.row k x hx
  have hpg := h.pg
  have hk : k < b.all.length := (List.getElem?_eq_some_iff.1 hx).1
  have hlv : 0 ≤ x.live ∧ x.live < b.pages := by
    rcases hr.body with h1 | h1
    · omega
    · exact h1.2.2.2
  by_cases hok : LiveOk b x m
  · refine ⟨0, settleB { b with all := b.all.set k { x with live := x.live + m } } k { x with live := x.live + m }, fun w p q cap hI => ?_, fun w p q t cap hI => ?_, ?_⟩
    · refine (live_in p q cap b k x m w hI hx (by omega) (by omega) hlv.1 (by omega) hm.1 hm.2).mono ?_
      rintro e w' (⟨_, h1, h2, h3⟩ | ⟨h1, _⟩)
      · exact ⟨h1, h2, h3.mono fun i _ e => .inl e⟩
      · exact absurd hok h1
    · refine (rlive_in p q t cap b k x m w hI hx (by omega) (by omega) hlv.1 hlv.2 hr.left).mono ?_
      rintro e w' (⟨_, h1, h2, h3⟩ | ⟨h1, _⟩)
      · exact ⟨h1, h2, h3.mono fun i _ e => .inl e⟩
      · exact absurd hok h1
    · have hst : x.state = 1 ∨ x.state = 2 ∨ (x.state = 4 ∧ x.left = false) := by
        have := hok.1
        unfold countedB at this
        simpa using this
      have hbody : (x.state = 1 ∨ x.state = 2 ∨ x.state = 3 ∨ x.state = 4) ∧ 1 ≤ x.head ∧ x.head ≤ 281474976710655 ∧ 0 ≤ x.live + m ∧ x.live + m < b.pages := by
        have h2 := hok.2
        rcases hr.body with h1 | h1
        · omega
        · exact ⟨h1.1, h1.2.1, h1.2.2.1, by omega, by omega⟩
      have hkeep : (hollowB { x with live := x.live + m } = false ∨ (k : Int) = b.victim) → WFB { b with all := b.all.set k { x with live := x.live + m } } := fun hc => by
        refine h.upd hx { x with live := x.live + m } b.opn b.victim ⟨hr.left, .inr hbody, hr.held, fun e => ?_, fun e => ?_⟩ (.inl rfl) (fun e => ?_) (.inl ⟨rfl, Iff.rfl⟩) (.inl rfl) fun e => h.lastS k x hx e
        · have e' : x.state = 3 := e
          omega
        · rcases hc with hc | hc
          · exact (hollow_no hc e).imp id .inl
          · exact .inr (.inr hc)
        · rcases h.vic with h1 | ⟨k', y, h1, h2, h3⟩
          · omega
          · have : k' = k := by omega
            subst this
            rw [hx] at h2
            cases h2
            exact h3
      unfold settleB
      by_cases hkv : (k : Int) = b.victim
      · rw [if_pos hkv]
        exact ⟨⟨hkeep (.inr hkv), by simp, rfl, rfl⟩, fun h => absurd rfl h, fun hn => hn.set (k := k) (y := { x with live := x.live + m }) (hn k x hx) rfl⟩
      · rw [if_neg hkv]
        by_cases hh : hollowB { x with live := x.live + m } = true
        · rw [if_pos hh, emptyB_set, emptyB_eq]
          have hs1 : x.state = 1 := (hollow_yes hh).1
          exact ⟨⟨h.empty_upd hx b.opn (fun e => hkv e.symm) (.inl ⟨rfl, by omega⟩), by simp, rfl, rfl⟩, fun h => absurd rfl h, fun hn => hn.set (k := k) (y := emptyX b k) (emptyX_left b k) rfl⟩
        · rw [if_neg hh]
          exact ⟨⟨hkeep (.inl (by simpa using hh)), by simp, rfl, rfl⟩, fun h => absurd rfl h, fun hn => hn.set (k := k) (y := { x with live := x.live + m }) (hn k x hx) rfl⟩
  · refine ⟨110, b, fun w p q cap hI => ?_, fun w p q t cap hI => ?_, Stp.refl h, fun _ => rfl, fun h => h⟩
    · refine (live_in p q cap b k x m w hI hx (by omega) (by omega) hlv.1 (by omega) hm.1 hm.2).mono ?_
      rintro e w' (⟨h1, _⟩ | ⟨_, h1, h2⟩)
      · exact absurd h1 hok
      · exact hI.end_below ⟨h1, h2⟩
    · refine (rlive_in p q t cap b k x m w hI hx (by omega) (by omega) hlv.1 hlv.2 hr.left).mono ?_
      rintro e w' (⟨h1, _⟩ | ⟨_, h1, h2⟩)
      · exact absurd h1 hok
      · exact hI.end_below ⟨h1, h2⟩
theorem op_bad {b : Bks} (h : WFB b) (n : Int) : ∃ (e : Int) (b' : Bks), OpB 12 (fun p => #[p, .int .i64 n]) b b' (.int .i64 e) ∧ OpR 61 (fun p => #[p, .int .i64 n]) b b' (.int .i64 e) ∧ Stp b b' ∧ (e ≠ 0 → b' = b) ∧ (NoLeft b → NoLeft b') := by
  rcases place b n with hn | ⟨k, x, rfl, hx⟩
  · exact ⟨41, b, fun w p q cap hI => (bad_away p q cap b n w hI hn).mono fun e w' h => hI.end_same h, fun w p q t cap hI => (rbad_away p q t cap b n w hI hn).mono fun e w' h => hI.end_same h, Stp.refl h, fun _ => rfl, fun h => h⟩
  by_cases hok : BadOk b k x
  · refine ⟨0, { b with all := b.all.set k badBlk }, fun w p q cap hI => (bad_yes p q cap b k x w hI hx hok).mono fun e w' h => ⟨h.1, h.2.1, h.2.2.mono fun i _ e => .inl e⟩, fun w p q t cap hI => (rbad_yes p q t cap b k x w hI hx hok).mono fun e w' h => ⟨h.1, h.2.1, h.2.2.mono fun i _ e => e.elim .inl fun e => .inr (.inl e)⟩, ⟨?_, by simp, rfl, rfl⟩, fun h => absurd rfl h, fun hn => hn.set (k := k) (y := badBlk) rfl rfl⟩
    have hs : x.state = 0 ∨ (x.state = 4 ∧ (k : Int) ≠ b.last) := by
      rcases hok with h1 | h1
      · exact .inl h1
      · unfold doneB at h1
        simp only [Bool.and_eq_true, beq_iff_eq, bne_iff_ne] at h1
        exact .inr h1.1
    refine h.upd hx badBlk b.opn b.victim ⟨fun h => (by cases h), .inl ⟨.inr (.inr rfl), rfl, rfl, rfl⟩, fun h => (by cases h), fun h => (by cases h), fun h => (by cases h)⟩ (.inl rfl) (fun e => .inr (.inr rfl)) (.inl ⟨rfl, fun e => by omega, fun e => (by cases e)⟩) (.inr (.inl rfl)) fun e => ?_
    rcases hs with h1 | h1
    · exact absurd h1 (h.lastS k x hx e).1
    · exact absurd e h1.2
  · have hs : x.state ≠ 0 := fun e => hok (.inl e)
    have hd : doneB x k b.last = false := by
      cases e : doneB x k b.last
      · rfl
      · exact absurd (.inr e) hok
    exact ⟨110, b, fun w p q cap hI => (bad_no p q cap b k x w hI hx hs hd).mono fun e w' h => hI.end_below h, fun w p q t cap hI => (rbad_no p q t cap b k x w hI hx hok).mono fun e w' h => hI.end_below h, Stp.refl h, fun _ => rfl, fun h => h⟩
theorem op_leave {b : Bks} (h : WFB b) (n : Int) : ∃ (e : Int) (b' : Bks), OpB 18 (fun p => #[p, .int .i64 n]) b b' (.int .i64 e) ∧ OpR 62 (fun p => #[p, .int .i64 n]) b b' (.int .i64 e) ∧ Stp b b' ∧ (e ≠ 0 → b' = b) ∧ (NoLeft b → (∀ (k : Nat) (x : Blk), n = (k : Int) → b.all[k]? = some x → x.state ≠ 4) → NoLeft b') := by
  rcases place b n with hn | ⟨k, x, rfl, hx⟩
  · exact ⟨41, b, fun w p q cap hI => (leave_away p q cap b n w hI hn).mono fun e w' h => hI.end_same h, fun w p q t cap hI => (rleave_away p q t cap b n w hI hn).mono fun e w' h => hI.end_same h, Stp.refl h, fun _ => rfl, fun h _ => h⟩
  have hr := h.row k x hx
  cases hy : leaveX x with
  | none =>
    refine ⟨110, b, fun w p q cap hI => ?_, fun w p q t cap hI => (rleave_no p q t cap b k x w hI hx hr.left hy).mono fun e w' h => hI.end_below h, Stp.refl h, fun _ => rfl, fun h _ => h⟩
    have := leave_in p q cap b k x w hI hx
    rw [hy] at this
    exact this.mono fun e w' h => hI.end_same h
  | some y =>
    have hB : OpB 18 (fun p => #[p, .int .i64 (k : Int)]) b (leftB b k y) (.int .i64 0) := fun w p q cap hI => by
      have := leave_in p q cap b k x w hI hx
      rw [hy] at this
      exact this
    have hlive : x.live = 0 := by
      by_cases e : x.live = 0
      · exact e
      · unfold leaveX at hy; rw [if_neg e] at hy; cases hy
    have hvc : ∀ v : Int, (v = if (k : Int) = b.victim then -1 else b.victim) → (v = b.victim ∨ (v = -1 ∧ b.victim = (k : Int))) ∧ v ≠ (k : Int) := fun v hv => by
      by_cases e : (k : Int) = b.victim
      · rw [if_pos e] at hv
        exact ⟨.inr ⟨hv, e.symm⟩, by omega⟩
      · rw [if_neg e] at hv
        exact ⟨.inl hv, by omega⟩
    obtain ⟨hv1, hv2⟩ := hvc _ rfl
    by_cases h1 : x.state = 1
    · have hl : x.left = false := hr.noleft (by omega)
      have ey : y = { x with state := 3 } := by
        unfold leaveX at hy
        rw [if_pos hlive, if_pos h1] at hy
        exact (Option.some.inj hy).symm
      subst ey
      refine ⟨0, leftB b k { x with state := 3 }, hB, fun w p q t cap hI => (rleave_yes1 p q t cap b k x w hI hx hl hlive h1).mono fun e w' h => h, ⟨?_, by unfold leftB; simp, rfl, rfl⟩, fun h => absurd rfl h, fun hn _ => hn.set (k := k) (y := { x with state := 3 }) hl rfl⟩
      refine h.upd hx { x with state := 3 } b.opn _ ⟨fun e => ?_, ?_, fun e => (by cases e), fun _ => hlive, fun e => (by cases e)⟩ hv1 (fun e => absurd e hv2) (.inl ⟨rfl, fun e => by omega, fun e => (by cases e)⟩) (.inl rfl) fun e => ⟨fun h => (by cases h), fun h => (by cases h)⟩
      · have e' : x.left = true := e
        rw [hl] at e'
        cases e'
      · rcases hr.body with h2 | h2
        · omega
        · exact .inr ⟨.inr (.inr (.inl rfl)), h2.2⟩
    · have h4 : x.state = 4 ∧ x.left = false := by
        unfold leaveX at hy
        rw [if_pos hlive, if_neg h1] at hy
        by_cases e : x.state = 4 ∧ x.left = false
        · exact e
        · rw [if_neg e] at hy; cases hy
      have ey : y = { x with left := true } := by
        unfold leaveX at hy
        rw [if_pos hlive, if_neg h1, if_pos h4] at hy
        exact (Option.some.inj hy).symm
      subst ey
      refine ⟨0, leftB b k { x with left := true }, hB, fun w p q t cap hI => (rleave_yes4 p q t cap b k x w hI hx h4.2 hlive h4.1).mono fun e w' h => h, ⟨?_, by unfold leftB; simp, rfl, rfl⟩, fun h => absurd rfl h, fun hn hc => absurd h4.1 (hc k x rfl hx)⟩
      exact h.upd hx { x with left := true } b.opn _ ⟨fun _ => h4.1, hr.body, hr.held, hr.leav, fun e => absurd e h1⟩ hv1 (fun e => absurd e hv2) (.inl ⟨rfl, Iff.rfl⟩) (.inl rfl) fun e => h.lastS k x hx e
end Go.Proofs.Ytmohijpkhmeibaa
/- Oldest: the two books tell the same; Logged. -/
namespace Go.Proofs.Ytmohijpkhmeibaa
open Go.RowKit Go.Proofs
set_option linter.unusedVariables false
set_option linter.unusedSimpArgs false
theorem LogIs.mem {b : Bks} {L : List Nat} (h : LogIs b L) {k : Nat} : k ∈ L ↔ ∃ x, b.all[k]? = some x ∧ countedB x = true := by
  rw [h.1.mem_iff, logIdx_mem]
  constructor
  · rintro ⟨h1, h2⟩
    have hx := List.getElem?_eq_getElem h1
    exact ⟨_, hx, by rw [← logAt_of hx]; exact h2⟩
  · rintro ⟨x, hx, hc⟩
    exact ⟨(List.getElem?_eq_some_iff.1 hx).1, by rw [logAt_of hx]; exact hc⟩
theorem LogIs.nodup {b : Bks} {L : List Nat} (h : LogIs b L) : L.Nodup := by
  rw [h.1.nodup_iff]
  unfold logIdx
  exact List.nodup_range.filter _
theorem counted_row {P l v : Int} {i : Nat} {x : Blk} (h : RowW P l v i x) (hc : countedB x = true) : (x.state = 1 ∨ x.state = 2 ∨ (x.state = 4 ∧ x.left = false)) ∧ 1 ≤ x.head := by
  have hst : x.state = 1 ∨ x.state = 2 ∨ (x.state = 4 ∧ x.left = false) := by
    unfold countedB at hc
    simpa using hc
  refine ⟨hst, ?_⟩
  rcases h.body with h1 | h1
  · omega
  · exact h1.2.1
theorem LogIs.rise {b : Bks} {L : List Nat} (h : LogIs b L) (hw : WFB b) {i j a c : Nat} (hi : L[i]? = some a) (hj : L[j]? = some c) (hij : i < j) : headN b a < headN b c := by
  obtain ⟨hi', ei⟩ := List.getElem?_eq_some_iff.1 hi
  obtain ⟨hj', ej⟩ := List.getElem?_eq_some_iff.1 hj
  have h1 := List.pairwise_iff_getElem.1 h.2 i j hi' hj' hij
  rw [ei, ej] at h1
  have hne : a ≠ c := by
    have h2 := List.pairwise_iff_getElem.1 h.nodup i j hi' hj' hij
    rw [ei, ej] at h2
    exact h2
  obtain ⟨x, hx, hcx⟩ := h.mem.1 (List.mem_of_getElem? hi)
  obtain ⟨y, hy, hcy⟩ := h.mem.1 (List.mem_of_getElem? hj)
  have := (counted_row (hw.row a x hx) hcx).2
  rw [headN_of hx, headN_of hy] at *
  by_cases e : x.head = y.head
  · exact absurd (hw.heads a c x y hx hy e (by omega)) hne
  · omega
theorem LogIs.open_iff {b : Bks} (hw : WFB b) {k : Nat} {x : Blk} (hx : b.all[k]? = some x) : x.state = 2 ↔ (k : Int) = b.opn := by
  rcases hw.opn with ⟨h1, h2⟩ | ⟨k', y, h1, h2, h3, h4⟩
  · exact ⟨fun e => absurd e (h2 k x hx), fun e => by omega⟩
  · constructor
    · intro e
      have := h4 k x hx e
      omega
    · intro e
      have : k = k' := by omega
      subst this
      rw [hx] at h2
      cases h2
      exact h3
theorem nextOk_old {b : Bks} (hw : WFB b) {k : Nat} {x : Blk} (hx : b.all[k]? = some x) : nextOk 0 false x = true ↔ countedB x = true ∧ (k : Int) ≠ b.opn := by
  unfold nextOk
  constructor
  · intro h
    simp only [Bool.and_eq_true, Bool.false_or, bne_iff_ne] at h
    exact ⟨h.1, fun e => h.2.1 ((LogIs.open_iff hw hx).2 e)⟩
  · rintro ⟨h1, h2⟩
    have := (counted_row (hw.row k x hx) h1).2
    simp only [Bool.and_eq_true, Bool.false_or, bne_iff_ne, decide_eq_true_eq]
    exact ⟨h1, fun e => h2 ((LogIs.open_iff hw hx).1 e), by omega⟩
theorem nextOk_next {h : Int} {x : Blk} : nextOk h true x = true ↔ countedB x = true ∧ h < x.head := by
  unfold nextOk
  simp
/-- What the first of the log is. -/
theorem first_min {b : Bks} {L : List Nat} (hw : WFB b) (hL : LogIs b L) {m k : Nat} {x : Blk} (hf : FirstIs b.opn L (m : Int)) (hk : L[m]? = some k) (hx : b.all[k]? = some x) :
    nextOk 0 false x = true ∧ ∀ (i : Nat) (y : Blk), b.all[i]? = some y → nextOk 0 false y = true → x.head ≤ y.head := by
  rcases hf with ⟨h1, _⟩ | ⟨m', k', h1, h2, h3, h4⟩
  · omega
  have : m' = m := by omega
  subst this
  rw [hk] at h2
  cases h2
  obtain ⟨x', hx', hc⟩ := hL.mem.1 (List.mem_of_getElem? hk)
  rw [hx] at hx'
  cases hx'
  refine ⟨(nextOk_old hw hx).2 ⟨hc, h3⟩, fun i y hy hok => ?_⟩
  obtain ⟨hcy, hno⟩ := (nextOk_old hw hy).1 hok
  obtain ⟨j, hj⟩ := List.getElem?_of_mem (hL.mem.2 ⟨y, hy, hcy⟩)
  by_cases hjm : j < m'
  · exact absurd (h4 j i hjm hj) hno
  · by_cases e : j = m'
    · subst e
      rw [hk] at hj
      cases hj
      rw [hx] at hy
      cases hy
      exact Int.le_refl _
    · have := hL.rise hw hk hj (by omega)
      rw [headN_of hx, headN_of hy] at this
      omega
theorem first_none {b : Bks} {L : List Nat} (hw : WFB b) (hL : LogIs b L) (hf : FirstIs b.opn L (-1)) (i : Nat) (y : Blk) (hy : b.all[i]? = some y) : nextOk 0 false y = false := by
  rcases hf with ⟨_, h2⟩ | ⟨m', k', h1, _⟩
  · cases e : nextOk 0 false y
    · rfl
    · obtain ⟨hcy, hno⟩ := (nextOk_old hw hy).1 e
      exact absurd (h2 i (hL.mem.2 ⟨y, hy, hcy⟩)) hno
  · omega
theorem next_min {b : Bks} {L : List Nat} (hw : WFB b) (hL : LogIs b L) {m k : Nat} {x : Blk} (hk : L[m]? = some k) (hx : b.all[k]? = some x) :
    (L[m + 1]? = none → ∀ (i : Nat) (y : Blk), b.all[i]? = some y → nextOk x.head true y = false) ∧
    (∀ (l : Nat) (z : Blk), L[m + 1]? = some l → b.all[l]? = some z → nextOk x.head true z = true ∧ ∀ (i : Nat) (y : Blk), b.all[i]? = some y → nextOk x.head true y = true → z.head ≤ y.head) := by
  have key : ∀ (i : Nat) (y : Blk), b.all[i]? = some y → nextOk x.head true y = true → ∃ j, m < j ∧ L[j]? = some i := fun i y hy hok => by
    obtain ⟨hcy, hlt⟩ := nextOk_next.1 hok
    obtain ⟨j, hj⟩ := List.getElem?_of_mem (hL.mem.2 ⟨y, hy, hcy⟩)
    refine ⟨j, ?_, hj⟩
    by_cases hjm : m < j
    · exact hjm
    · exfalso
      by_cases e : j = m
      · subst e
        rw [hk] at hj
        cases hj
        rw [hx] at hy
        cases hy
        omega
      · have := hL.rise hw hj hk (by omega)
        rw [headN_of hx, headN_of hy] at this
        omega
  refine ⟨fun hn i y hy => ?_, fun l z hl hz => ⟨?_, fun i y hy hok => ?_⟩⟩
  · cases e : nextOk x.head true y
    · rfl
    · obtain ⟨j, hj, hj2⟩ := key i y hy e
      have h1 := (List.getElem?_eq_some_iff.1 hj2).1
      rw [List.getElem?_eq_none_iff] at hn
      omega
  · have h1 := hL.rise hw hk hl (by omega)
    rw [headN_of hx, headN_of hz] at h1
    obtain ⟨z', hz', hc⟩ := hL.mem.1 (List.mem_of_getElem? hl)
    rw [hz] at hz'
    cases hz'
    exact nextOk_next.2 ⟨hc, h1⟩
  · obtain ⟨j, hj, hj2⟩ := key i y hy hok
    by_cases e : j = m + 1
    · subst e
      rw [hl] at hj2
      cases hj2
      rw [hz] at hy
      cases hy
      exact Int.le_refl _
    · have := hL.rise hw hl hj2 (by omega)
      rw [headN_of hz, headN_of hy] at this
      omega
theorem NextPre.none_of {b : Bks} {h : Int} {o : Bool} {r : Int} (H : NextPre b h o b.all.length r) (hn : ∀ (i : Nat) (y : Blk), b.all[i]? = some y → nextOk h o y = false) : r = -1 := by
  rcases H with ⟨h1, _⟩ | ⟨k, x, _, _, hx, hok, _⟩
  · exact h1
  · rw [hn k x hx] at hok
    cases hok
theorem NextPre.some_of {b : Bks} {h : Int} {o : Bool} {r : Int} (H : NextPre b h o b.all.length r) {i : Nat} {y : Blk} (hy : b.all[i]? = some y) (hok : nextOk h o y = true) (hmin : ∀ (j : Nat) (z : Blk), b.all[j]? = some z → nextOk h o z = true → y.head ≤ z.head) :
    ∃ (k : Nat) (x : Blk), r = (k : Int) ∧ b.all[k]? = some x ∧ nextOk h o x = true ∧ x.head = y.head := by
  rcases H with ⟨_, h1⟩ | ⟨k, x, hr, _, hx, hokx, h2⟩
  · rw [h1 i y (List.getElem?_eq_some_iff.1 hy).1 hy] at hok
    cases hok
  · have h3 := h2 i y (List.getElem?_eq_some_iff.1 hy).1 hy hok
    have h4 := hmin k x hx hokx
    exact ⟨k, x, hr, hx, hokx, by omega⟩
theorem nextOk_pos {b : Bks} (hw : WFB b) {h : Int} {o : Bool} {i : Nat} {y : Blk} (hy : b.all[i]? = some y) (hok : nextOk h o y = true) : 1 ≤ y.head := by
  have hc : countedB y = true := by
    unfold nextOk at hok
    rw [Bool.and_eq_true] at hok
    exact hok.1
  exact (counted_row (hw.row i y hy) hc).2
theorem old_same {b : Bks} {L : List Nat} {v v' h h' : Int} {ok ok' : Bool} (hw : WFB b) (hL : LogIs b L) (h1 : OldL b L v h ok) (h2 : OldR b v' h' ok') : v = v' ∧ h = h' ∧ ok = ok' := by
  -- what the document's first step finds, by the program's list
  have firstNo : FirstIs b.opn L (-1) → v' = 0 ∧ h' = 0 ∧ ok' = false := fun hf => by
    have hno := first_none hw hL hf
    rcases h2 with ⟨e1, e2, e3, _⟩ | ⟨k, l, x, y, _, _, _, hN, hx, _⟩
    · exact ⟨e1, e2, e3⟩
    · have := hN.none_of hno
      omega
  have firstSome : ∀ (m k : Nat) (x : Blk), FirstIs b.opn L (m : Int) → L[m]? = some k → b.all[k]? = some x → ∀ r : Int, NextPre b 0 false b.all.length r → r = (k : Int) := fun m k x hf hk hx r hr => by
    obtain ⟨hok, hmin⟩ := first_min hw hL hf hk hx
    obtain ⟨k', x', e1, hx', hok', e2⟩ := hr.some_of hx hok hmin
    have := hw.heads k' k x' x hx' hx e2 (by have := nextOk_pos hw hx' hok'; omega)
    omega
  rcases h1 with ⟨hf, rfl, rfl, rfl⟩ | ⟨m, k, l, hf, hk, hl, rfl, rfl, rfl⟩
  · rcases hf with hf | ⟨f, hf, hlast⟩
    · obtain ⟨e1, e2, e3⟩ := firstNo hf
      exact ⟨e1.symm, e2.symm, e3.symm⟩
    · by_cases hf1 : f = -1
      · subst hf1
        obtain ⟨e1, e2, e3⟩ := firstNo hf
        exact ⟨e1.symm, e2.symm, e3.symm⟩
      · obtain ⟨m, k, rfl, hk⟩ : ∃ (m k : Nat), f = (m : Int) ∧ L[m]? = some k := by
          rcases hf with ⟨h1, _⟩ | ⟨m, k, h1, h2, _⟩
          · exact absurd h1 hf1
          · exact ⟨m, k, h1, h2⟩
        obtain ⟨x, hx, _⟩ := hL.mem.1 (List.mem_of_getElem? hk)
        have hnone : L[m + 1]? = none := by rw [List.getElem?_eq_none_iff]; omega
        have hno := (next_min hw hL hk hx).1 hnone
        rcases h2 with ⟨e1, e2, e3, _⟩ | ⟨k', l', x', y', _, _, _, hN, hx', hN2, _⟩
        · exact ⟨e1.symm, e2.symm, e3.symm⟩
        · have := firstSome m k x hf hk hx _ hN
          have : k' = k := by omega
          subst this
          rw [hx] at hx'
          cases hx'
          have := hN2.none_of hno
          omega
  · obtain ⟨x, hx, _⟩ := hL.mem.1 (List.mem_of_getElem? hk)
    obtain ⟨z, hz, _⟩ := hL.mem.1 (List.mem_of_getElem? hl)
    obtain ⟨hokz, hminz⟩ := (next_min hw hL hk hx).2 l z hl hz
    rw [headN_of hz]
    rcases h2 with ⟨_, _, _, h3⟩ | ⟨k', l', x', y', rfl, rfl, rfl, hN, hx', hN2, hy'⟩
    · exfalso
      rcases h3 with h3 | ⟨k', x', hN, hx', hN2⟩
      · have := firstSome m k x hf hk hx _ h3
        omega
      · have := firstSome m k x hf hk hx _ hN
        have : k' = k := by omega
        subst this
        rw [hx] at hx'
        cases hx'
        obtain ⟨k2, x2, e1, _⟩ := hN2.some_of hz hokz hminz
        omega
    · have e := firstSome m k x hf hk hx _ hN
      have : k' = k := by omega
      subst this
      rw [hx] at hx'
      cases hx'
      obtain ⟨k2, x2, e1, hx2, _, e2⟩ := hN2.some_of hz hokz hminz
      have : k2 = l' := by omega
      subst this
      rw [hy'] at hx2
      cases hx2
      exact ⟨rfl, e2.symm, rfl⟩
/-- The victim that Oldest tells. -/
theorem old_vic {b : Bks} {L : List Nat} {v h : Int} {ok : Bool} (hw : WFB b) (hL : LogIs b L) (h1 : OldL b L v h ok) (hok : ok = true) : ∃ (k : Nat) (x : Blk), v = (k : Int) ∧ b.all[k]? = some x ∧ countedB x = true ∧ x.state ≠ 2 ∧ k ∈ L := by
  rcases h1 with ⟨_, _, _, e⟩ | ⟨m, k, l, hf, hk, hl, e, _, _⟩
  · rw [hok] at e; cases e
  · obtain ⟨x, hx, hc⟩ := hL.mem.1 (List.mem_of_getElem? hk)
    obtain ⟨h2, _⟩ := first_min hw hL hf hk hx
    have := ((nextOk_old hw hx).1 h2).2
    exact ⟨k, x, e, hx, hc, fun e => this ((LogIs.open_iff hw hx).1 e), List.mem_of_getElem? hk⟩
theorem logIdx_logN (l : List Blk) : (logIdx l l.length).length = logN l := by
  have : ∀ j, j ≤ l.length → (logIdx l j).length = logN (l.take j) := by
    intro j
    induction j with
    | zero => intro _; rfl
    | succ j ih =>
      intro hj
      have hx := List.getElem?_eq_getElem (show j < l.length by omega)
      rw [logIdx_succ, List.length_append, ih (by omega), take_snoc hx, logN_snoc, logAt_of hx]
      cases countedB l[j] <;> rfl
  rw [this l.length (Nat.le_refl _), List.take_length]
end Go.Proofs.Ytmohijpkhmeibaa
/- Each call of the two books: Oldest, Clean, Commit. -/
namespace Go.Proofs.Ytmohijpkhmeibaa
open Go.RowKit Go.Proofs
set_option linter.unusedVariables false
set_option linter.unusedSimpArgs false
theorem next_exists (b : Bks) (h : Int) (o : Bool) : ∀ j, j ≤ b.all.length → ∃ r, NextPre b h o j r := by
  intro j
  induction j with
  | zero => intro _; exact ⟨-1, NextPre.start b h o⟩
  | succ j ih =>
    intro hj
    obtain ⟨r, hr⟩ := ih (by omega)
    have hx := List.getElem?_eq_getElem (show j < b.all.length by omega)
    cases hn : nextOk h o (b.all[j]'(by omega))
    · exact ⟨r, hr.skip hx hn⟩
    · rcases hr.cases with rfl | ⟨k, y, rfl, hy⟩
      · exact ⟨j, hr.take hx hn fun k y e => by omega⟩
      · by_cases hl : (b.all[j]'(by omega)).head < y.head
        · refine ⟨j, hr.take hx hn fun k2 y2 e h2 => ?_⟩
          have : k = k2 := by omega
          subst this
          rw [hy] at h2
          cases h2
          exact hl
        · exact ⟨k, hr.keep hx k y rfl hy (by omega)⟩
theorem old_exists (b : Bks) : ∃ (v h : Int) (ok : Bool), OldR b v h ok := by
  obtain ⟨r, hr⟩ := next_exists b 0 false b.all.length (Nat.le_refl _)
  rcases hr.cases with rfl | ⟨k, x, rfl, hx⟩
  · exact ⟨0, 0, false, .inl ⟨rfl, rfl, rfl, .inl hr⟩⟩
  · obtain ⟨r2, hr2⟩ := next_exists b x.head true b.all.length (Nat.le_refl _)
    rcases hr2.cases with rfl | ⟨l, y, rfl, hy⟩
    · exact ⟨0, 0, false, .inl ⟨rfl, rfl, rfl, .inr ⟨k, x, hr, hx, hr2⟩⟩⟩
    · exact ⟨k, y.head, true, .inr ⟨k, l, x, y, rfl, rfl, rfl, hr, hx, hr2, hy⟩⟩
theorem NextPre.uniq {b : Bks} (hw : WFB b) {h : Int} {o : Bool} {r r' : Int} (H : NextPre b h o b.all.length r) (H' : NextPre b h o b.all.length r') : r = r' := by
  rcases H with ⟨h1, h2⟩ | ⟨k, x, h1, _, hx, hok, h2⟩
  · have := H'.none_of (fun i y hy => h2 i y (List.getElem?_eq_some_iff.1 hy).1 hy)
    omega
  · obtain ⟨k', x', e1, hx', hok', e2⟩ := H'.some_of hx hok fun j z hz hoz => h2 j z (List.getElem?_eq_some_iff.1 hz).1 hz hoz
    have := hw.heads k' k x' x hx' hx e2 (by have := nextOk_pos hw hx' hok'; omega)
    omega
theorem OldR.uniq {b : Bks} (hw : WFB b) {v h v' h' : Int} {ok ok' : Bool} (H : OldR b v h ok) (H' : OldR b v' h' ok') : v = v' ∧ h = h' ∧ ok = ok' := by
  rcases H with ⟨rfl, rfl, rfl, H⟩ | ⟨k, l, x, y, rfl, rfl, rfl, hN, hx, hN2, hy⟩
  · rcases H' with ⟨rfl, rfl, rfl, _⟩ | ⟨k', l', x', y', rfl, rfl, rfl, hN', hx', hN2', hy'⟩
    · exact ⟨rfl, rfl, rfl⟩
    · exfalso
      rcases H with H | ⟨k, x, hN, hx, hN2⟩
      · have := H.uniq hw hN'
        omega
      · have := hN.uniq hw hN'
        have : k = k' := by omega
        subst this
        rw [hx] at hx'
        cases hx'
        have := hN2.uniq hw hN2'
        omega
  · rcases H' with ⟨rfl, rfl, rfl, H'⟩ | ⟨k', l', x', y', rfl, rfl, rfl, hN', hx', hN2', hy'⟩
    · exfalso
      rcases H' with H' | ⟨k', x', hN', hx', hN2'⟩
      · have := H'.uniq hw hN
        omega
      · have := hN.uniq hw hN'
        have : k = k' := by omega
        subst this
        rw [hx] at hx'
        cases hx'
        have := hN2.uniq hw hN2'
        omega
    · have := hN.uniq hw hN'
      have : k = k' := by omega
      subst this
      rw [hx] at hx'
      cases hx'
      have := hN2.uniq hw hN2'
      have : l = l' := by omega
      subst this
      rw [hy] at hy'
      cases hy'
      exact ⟨rfl, rfl, rfl⟩
theorem op_oldest {b : Bks} (h : WFB b) : ∃ (v hd : Int) (ok : Bool), OldR b v hd ok ∧
    (∀ (w : World) (p q cap : Nat), IsB w p q cap b → Calls Try.prog 28 #[.pointer (some ⟨p, 0, none⟩)] w fun e w' => e = .returned (.tuple #[.int .i64 v, .int .u64 hd, .bool ok]) ∧ Below w.heap.size w w') ∧
    (∀ (w : World) (p q t cap : Nat), IsR w p q t cap b → Calls Try.prog 52 #[.pointer (some ⟨p, 0, none⟩)] w fun e w' => e = .returned (.tuple #[.int .i64 v, .int .u64 hd, .bool ok]) ∧ ∃ n, w' = w.drewN n) := by
  obtain ⟨v, hd, ok, ho⟩ := old_exists b
  refine ⟨v, hd, ok, ho, fun w p q cap hI => ?_, fun w p q t cap hI => ?_⟩
  · refine (oldest_calls p q cap b w hI).mono ?_
    rintro e w' ⟨L, v', hd', ok', rfl, h1, h2, h3⟩
    obtain ⟨rfl, rfl, rfl⟩ := old_same h h1 h2 ho
    exact ⟨rfl, h3⟩
  · refine (roldest_calls p q t cap b w hI).mono ?_
    rintro e w' ⟨⟨v', hd', ok', rfl, h1⟩, h2⟩
    obtain ⟨rfl, rfl, rfl⟩ := h1.uniq h ho
    exact ⟨rfl, h2⟩
theorem WFB.revic {b : Bks} (h : WFB b) (v : Int) (hv : v = -1 ∨ ∃ (k : Nat) (x : Blk), v = (k : Int) ∧ b.all[k]? = some x ∧ (x.state = 1 ∨ x.state = 4 ∨ x.state = 6))
    (hold : ∀ (i : Nat) (z : Blk), b.all[i]? = some z → z.state = 1 → (i : Int) = b.victim → z.real = true ∨ z.live ≠ 0 ∨ (i : Int) = v) : WFB { b with victim := v } := by
  refine ⟨h.pos, h.le, h.pg, h.cur, h.lst, fun i z hz => ?_, h.opn, h.heads, hv, h.lastS⟩
  have hr := h.row i z hz
  refine ⟨hr.left, hr.body, hr.held, hr.leav, fun hs => ?_⟩
  rcases hr.used hs with h1 | h1 | h1
  · exact .inl h1
  · exact .inr (.inl h1)
  · exact hold i z hz hs h1
theorem OldR.vic {b : Bks} (hw : WFB b) {v h : Int} (H : OldR b v h true) : ∃ (k : Nat) (x : Blk), v = (k : Int) ∧ b.all[k]? = some x ∧ (x.state = 1 ∨ x.state = 4) ∧ x.left = false := by
  rcases H with ⟨_, _, e, _⟩ | ⟨k, l, x, y, rfl, _, _, hN, hx, _⟩
  · cases e
  · rcases hN with ⟨h1, _⟩ | ⟨k', x', h1, _, hx', hok, _⟩
    · omega
    · have : k' = k := by omega
      subst this
      rw [hx] at hx'
      cases hx'
      obtain ⟨hc, hno⟩ := (nextOk_old hw hx).1 hok
      have h1 := (counted_row (hw.row k' x hx) hc).1
      have h2 : x.state ≠ 2 := fun e => hno ((LogIs.open_iff hw hx).1 e)
      refine ⟨k', x, rfl, hx, by omega, ?_⟩
      rcases h1 with h1 | h1 | h1
      · exact (hw.row k' x hx).noleft (by omega)
      · exact absurd h1 h2
      · exact h1.2
theorem clean_wf {b : Bks} (hw : WFB b) {v h : Int} {ok : Bool} (H : OldR b v h ok) : WFB (cleanB b v ok) ∧ (cleanB b v ok).all.length = b.all.length ∧ (cleanB b v ok).last = b.last ∧ (cleanB b v ok).pages = b.pages ∧ (NoLeft b → NoLeft (cleanB b v ok)) := by
  have hv' : ∀ v' : Int, v' = (if ok = true then v else -1) → v' = -1 ∨ ∃ (k : Nat) (x : Blk), v' = (k : Int) ∧ b.all[k]? = some x ∧ (x.state = 1 ∨ x.state = 4 ∨ x.state = 6) := fun v' e => by
    cases ok
    · exact .inl e
    · obtain ⟨k, x, e1, hx, hs, _⟩ := H.vic hw
      exact .inr ⟨k, x, e.trans e1, hx, by omega⟩
  unfold cleanB vicB
  rcases hw.vic with h1 | ⟨k, x, h1, hx, hs⟩
  · rw [if_pos h1]
    exact ⟨hw.revic _ (hv' _ rfl) fun i z hz hzs hi => by omega, rfl, rfl, rfl, fun h => h⟩
  · rw [if_neg (by omega), show b.victim.toNat = k by omega, hx]
    dsimp only
    unfold settleB
    dsimp only
    by_cases hkv : (k : Int) = (if ok = true then v else -1)
    · rw [if_pos hkv]
      exact ⟨hw.revic _ (hv' _ rfl) fun i z hz hzs hi => by omega, rfl, rfl, rfl, fun h => h⟩
    · rw [if_neg hkv]
      by_cases hh : hollowB x = true
      · rw [if_pos hh, emptyB_eq]
        have hs1 := (hollow_yes hh).1
        obtain ⟨e1, e2, e3⟩ := emptyX_state b k
        have u1 := hw.upd hx (emptyX b k) b.opn (-1) (emptyX_row b k _) (.inr ⟨rfl, h1⟩) (fun e => by omega) (.inl ⟨rfl, fun e => by omega, fun e => absurd e e1⟩) (.inr (.inl e2)) e3
        have u2 := u1.revic (if ok = true then v else -1) ?_ fun i z hz hzs hi => ?_
        · exact ⟨u2, by simp, rfl, rfl, fun hn => hn.set (k := k) (y := emptyX b k) (emptyX_left b k) rfl⟩
        · rcases hv' _ rfl with h2 | ⟨k', x', h2, h3, h4⟩
          · exact .inl h2
          · refine .inr ⟨k', x', h2, ?_, h4⟩
            show (b.all.set k (emptyX b k))[k']? = some x'
            rw [List.getElem?_set_ne (fun e => hkv (by omega))]
            exact h3
        · have hi' : (i : Int) = -1 := hi
          omega
      · rw [if_neg hh]
        refine ⟨hw.revic _ (hv' _ rfl) fun i z hz hzs hi => ?_, rfl, rfl, rfl, fun h => h⟩
        have : i = k := by omega
        subst this
        rw [hx] at hz
        cases hz
        exact (hollow_no (by simpa using hh) hzs).imp id .inl
theorem op_clean {b : Bks} (h : WFB b) : ∃ (v hd : Int) (ok : Bool) (b' : Bks), OldR b v hd ok ∧ b' = cleanB b v ok ∧ OpB 15 (fun p => #[p]) b b' (.tuple #[.int .i64 v, .int .u64 hd, .bool ok]) ∧ OpR 63 (fun p => #[p]) b b' (.tuple #[.int .i64 v, .int .u64 hd, .bool ok]) ∧ Stp b b' ∧ (NoLeft b → NoLeft b') := by
  obtain ⟨v, hd, ok, ho⟩ := old_exists b
  obtain ⟨c1, c2, c3, c4, c5⟩ := clean_wf h ho
  refine ⟨v, hd, ok, _, ho, rfl, fun w p q cap hI => ?_, fun w p q t cap hI => ?_, ⟨c1, c2, c3, c4⟩, c5⟩
  · refine (clean_calls p q cap b w hI h.vicOk).mono ?_
    rintro e w' ⟨L, v', hd', ok', rfl, h1, h2, h3, h4⟩
    obtain ⟨rfl, rfl, rfl⟩ := old_same h h1 h2 ho
    exact ⟨rfl, h3, h4⟩
  · refine (rclean_calls p q t cap b w hI h.vicOk h.leftW).mono ?_
    rintro e w' ⟨v', hd', ok', rfl, h1, h2, h3⟩
    obtain ⟨rfl, rfl, rfl⟩ := h1.uniq h ho
    exact ⟨rfl, h2, h3.mono fun i _ e => e.elim .inl fun e => .inr (.inr e)⟩
/-- The book behind a Commit that went well. -/
def commitB (b : Bks) (k : Nat) : Bks := { b with last := (k : Int), all := allJ b.all b.all.length }
theorem allJ_full {l : List Blk} {i : Nat} {z : Blk} (h : (allJ l l.length)[i]? = some z) : ∃ x, l[i]? = some x ∧ z = freedX x := by
  rw [allJ_get] at h
  cases hx : l[i]? with
  | none => rw [hx] at h; cases h
  | some x =>
    rw [hx] at h
    have hi : i < l.length := (List.getElem?_eq_some_iff.1 hx).1
    simp only [Option.map_some, if_pos hi] at h
    exact ⟨x, rfl, (Option.some.inj h).symm⟩
theorem allJ_of {l : List Blk} {i : Nat} {x : Blk} (h : l[i]? = some x) : (allJ l l.length)[i]? = some (freedX x) := by
  rw [allJ_get, h]
  simp only [Option.map_some, if_pos (List.getElem?_eq_some_iff.1 h).1]
theorem freedX_cases (x : Blk) : ((x.state = 3 ∨ x.state = 5) ∧ freedX x = freeBlk) ∨ (x.state ≠ 3 ∧ x.state ≠ 5 ∧ freedX x = x) := by
  unfold freedX
  by_cases h : x.state = 3 ∨ x.state = 5
  · exact .inl ⟨h, if_pos h⟩
  · exact .inr ⟨fun e => h (.inl e), fun e => h (.inr e), if_neg h⟩
theorem commit_wf {b : Bks} (hw : WFB b) {k : Nat} {xk : Blk} (ho : b.opn = (k : Int)) (hk : b.all[k]? = some xk) (hs : xk.state = 2) : WFB (commitB b k) := by
  have hlen : (commitB b k).all.length = b.all.length := by unfold commitB; exact allJ_len _ _
  have hkl : k < b.all.length := (List.getElem?_eq_some_iff.1 hk).1
  refine ⟨by rw [hlen]; exact hw.pos, by rw [hlen]; exact hw.le, hw.pg, by rw [hlen]; exact hw.cur, by rw [hlen]; show -1 ≤ (k : Int) ∧ (k : Int) < _; omega, fun i z hz => ?_, ?_, fun i j z z' hz hz' he hn => ?_, ?_, fun i z hz hi => ?_⟩
  · obtain ⟨x, hx, rfl⟩ := allJ_full hz
    have hr := hw.row i x hx
    rcases freedX_cases x with ⟨_, e⟩ | ⟨h3, h5, e⟩
    · rw [e]
      exact ⟨fun h => (by cases h), .inl ⟨.inl rfl, rfl, rfl, rfl⟩, fun h => (by cases h), fun h => (by cases h), fun h => (by cases h)⟩
    · rw [e]
      exact ⟨hr.left, hr.body, fun e => absurd e h5, hr.leav, hr.used⟩
  · refine .inr ⟨k, xk, ho, ?_, hs, fun i z hz hzs => ?_⟩
    · have := allJ_of hk
      rcases freedX_cases xk with ⟨e1, _⟩ | ⟨_, _, e⟩
      · omega
      · rw [e] at this; exact this
    · obtain ⟨x, hx, rfl⟩ := allJ_full hz
      rcases freedX_cases x with ⟨_, e⟩ | ⟨_, _, e⟩
      · rw [e] at hzs; cases hzs
      · rw [e] at hzs
        have := (LogIs.open_iff hw hx).1 hzs
        omega
  · obtain ⟨x, hx, rfl⟩ := allJ_full hz
    obtain ⟨x', hx', rfl⟩ := allJ_full hz'
    rcases freedX_cases x with ⟨_, e⟩ | ⟨_, _, e⟩
    · rw [e] at hn; exact absurd rfl hn
    · rcases freedX_cases x' with ⟨_, e'⟩ | ⟨_, _, e'⟩
      · rw [e'] at he
        exact absurd he hn
      · rw [e, e'] at he
        rw [e] at hn
        exact hw.heads i j x x' hx hx' he hn
  · rcases hw.vic with h1 | ⟨k', x', h1, h2, h3⟩
    · exact .inl h1
    · refine .inr ⟨k', x', h1, ?_, h3⟩
      have := allJ_of h2
      rcases freedX_cases x' with ⟨e1, _⟩ | ⟨_, _, e⟩
      · omega
      · rw [e] at this; exact this
  · obtain ⟨x, hx, rfl⟩ := allJ_full hz
    have : i = k := by have hi' : (i : Int) = (k : Int) := hi; omega
    subst this
    rw [hk] at hx
    cases hx
    rcases freedX_cases xk with ⟨e1, _⟩ | ⟨_, _, e⟩
    · omega
    · rw [e]; omega
theorem commit_noleft {b : Bks} {k : Nat} (h : NoLeft b) : NoLeft (commitB b k) := fun i z hz => by
  obtain ⟨x, hx, rfl⟩ := allJ_full hz
  rcases freedX_cases x with ⟨_, e⟩ | ⟨_, _, e⟩
  · rw [e]; rfl
  · rw [e]; exact h i x hx
def CallB (n : Int) (b b' : Bks) (M : List Nat) (er : Int) : Prop :=
  ∀ (w : World) (p q cap : Nat), IsB w p q cap b → Calls Try.prog 21 #[.pointer (some ⟨p, 0, none⟩), .int .i64 n] w fun e w' => ∃ v, e = .returned (.tuple #[v, .int .i64 er]) ∧ w'.ownsRow w.heap.size 3 1 v M.length (encN M) ∧ IsB w' p q cap b' ∧ Off (fun i => i = q ∨ i = p) w w'
def CallR (n : Int) (b b' : Bks) (M : List Nat) (er : Int) : Prop :=
  ∀ (w : World) (p q t cap : Nat), IsR w p q t cap b → Calls Try.prog 31 #[.pointer (some ⟨p, 0, none⟩), .int .i64 n] w fun e w' => ∃ v, e = .returned (.tuple #[v, .int .i64 er]) ∧ w'.ownsRow w.heap.size 3 1 v M.length (encN M) ∧ IsR w' p q t cap b' ∧ Off (fun i => i = q ∨ i = t ∨ i = p) w w'
theorem op_commit {b : Bks} (h : WFB b) (n : Int) : ∃ (er : Int) (M : List Nat) (b' : Bks), CallB n b b' M er ∧ CallR n b b' M er ∧ WFB b' ∧ b'.all.length = b.all.length ∧ b'.pages = b.pages ∧ (er ≠ 0 → b' = b ∧ M = []) ∧
    (er = 0 → ∃ (k : Nat) (x : Blk), n = (k : Int) ∧ b.opn = (k : Int) ∧ b.all[k]? = some x ∧ x.state = 2 ∧ b' = commitB b k ∧ M = marksB b.all k b.all.length) ∧ (NoLeft b → NoLeft b') ∧ M.length ≤ 4096 := by
  rcases place b n with hn | ⟨k, x, rfl, hx⟩
  · refine ⟨41, [], b, fun w p q cap hI => (commit_away p q cap b n w hI hn).mono ?_, fun w p q t cap hI => (rcommit_away p q t cap b n w hI hn).mono ?_, h, rfl, rfl, fun _ => ⟨rfl, rfl⟩, fun e => by omega, fun h => h, by simp⟩
    · rintro e w' ⟨rfl, rfl⟩
      exact ⟨_, rfl, World.ownsRow_nil _ _ _ _, hI, Off.refl _ _⟩
    · rintro e w' ⟨rfl, rfl⟩
      exact ⟨_, rfl, World.ownsRow_nil _ _ _ _, hI, Off.refl _ _⟩
  · have hk : k < b.all.length := (List.getElem?_eq_some_iff.1 hx).1
    by_cases hs : x.state = 2
    · have ho : b.opn = (k : Int) := ((LogIs.open_iff h hx).1 hs).symm
      refine ⟨0, marksB b.all k b.all.length, commitB b k, fun w p q cap hI => commit_open p q cap b k w hI hk ho, fun w p q t cap hI => (rcommit_open p q t cap b k x w hI hx hs h.leftW).mono ?_, commit_wf h ho hx hs, allJ_len _ _, rfl, fun e => absurd rfl e, fun _ => ⟨k, x, rfl, ho, hx, hs, rfl, rfl⟩, commit_noleft, by have := marks_len b.all k b.all.length; have := h.le; omega⟩
      rintro e w' ⟨v, h1, h2, h3, h4⟩
      exact ⟨v, h1, h2, h3, h4.mono fun i _ e => e.elim .inl fun e => .inr (.inr e)⟩
    · have ho : (k : Int) ≠ b.opn := fun e => hs ((LogIs.open_iff h hx).2 e)
      refine ⟨110, [], b, fun w p q cap hI => (commit_other p q cap b k w hI hk ho).mono ?_, fun w p q t cap hI => (rcommit_other p q t cap b k x w hI hx hs).mono ?_, h, rfl, rfl, fun _ => ⟨rfl, rfl⟩, fun e => by omega, fun h => h, by simp⟩
      · rintro e w' ⟨rfl, rfl⟩
        exact ⟨_, rfl, World.ownsRow_nil _ _ _ _, hI, Off.refl _ _⟩
      · rintro e w' ⟨rfl, rfl⟩
        exact ⟨_, rfl, World.ownsRow_nil _ _ _ _, hI, Off.refl _ _⟩
end Go.Proofs.Ytmohijpkhmeibaa
