/- The document's book in memory: what the cells hold. -/
import Derived.Test.YtmohijpkhmeibaaMOps
import Derived.Test.YtmohijpkhmeibaaMBase
namespace Go.Proofs.Ytmohijpkhmeibaa
open Go.RowKit Go.Proofs
set_option linter.unusedVariables false
set_option linter.unusedSimpArgs false
def Blk.cells4 (x : Blk) : List Value := [.int .i64 x.state, .int .u64 x.head, .bool x.real, .int .i64 x.live]
def RowsAt4 (c : Array Value) (l : List Blk) : Prop := ∀ i x, l[i]? = some x → ∀ j v, x.cells4[j]? = some v → c[i * 4 + j]? = some v
def LeftAt (c : Array Value) (l : List Blk) : Prop := ∀ (i : Nat) (x : Blk), l[i]? = some x → c[i]? = some (.bool x.left)
/-- The document's book: p its head, q its list, t its marks of those that have left. -/
structure IsR (w : World) (p q t cap : Nat) (b : Bks) : Prop where
  head : w.heap[p]? = some (.cells #[.int .i64 b.pages, .slice (some ⟨q, 0, none⟩) b.all.length cap, .slice (some ⟨t, 0, none⟩) b.all.length b.all.length, .int .i64 b.cursor, .int .i64 b.last, .int .i64 b.victim] 31 (0, 0))
  rows : ∃ c, w.heap[q]? = some (.cells c 34 (0, 0)) ∧ RowsAt4 c b.all
  left : ∃ c, w.heap[t]? = some (.cells c 4 (0, 0)) ∧ LeftAt c b.all
  pos : 0 < b.all.length
  le : b.all.length ≤ 4096
theorem typ_ne {W : World} {b b' : Nat} {c c' : Array Value} {t t' : TypeId} {f f' : Nat × Nat} (h : W.heap[b]? = some (.cells c t f)) (h' : W.heap[b']? = some (.cells c' t' f')) (ht : t ≠ t') : b ≠ b' := by
  rintro rfl
  rw [h] at h'
  cases h'
  exact ht rfl
theorem RowsAt4.set {c : Array Value} {l : List Blk} (h : RowsAt4 c l) {i j : Nat} {x y : Blk} {v : Value} (hx : l[i]? = some x) (hj : j < 4) (hy : y.cells4 = x.cells4.set j v) : RowsAt4 (c.setIfInBounds (i * 4 + j) v) (l.set i y) := by
  have hi : i < l.length := (List.getElem?_eq_some_iff.1 hx).1
  have hxl : x.cells4.length = 4 := rfl
  have hsz : i * 4 + j < c.size := by
    have := h i x hx j (x.cells4[j]'(by omega)) (List.getElem?_eq_getElem (by omega))
    exact (Array.getElem?_eq_some_iff.1 this).1
  intro i' x' hx' j' v' hv'
  have hj' : j' < 4 := (List.getElem?_eq_some_iff.1 hv').1
  rw [Array.getElem?_setIfInBounds]
  by_cases e : i = i'
  · subst e
    rw [List.getElem?_set_self hi] at hx'
    cases hx'
    rw [hy] at hv'
    by_cases ej : j = j'
    · subst ej
      rw [if_pos rfl, if_pos hsz]
      rw [List.getElem?_set_self (by omega)] at hv'
      exact hv'
    · rw [if_neg (by omega)]
      rw [List.getElem?_set_ne ej] at hv'
      exact h i x hx j' v' hv'
  · rw [if_neg (by omega)]
    rw [List.getElem?_set_ne e] at hx'
    exact h i' x' hx' j' v' hv'
theorem LeftAt.same {c : Array Value} {l : List Blk} (h : LeftAt c l) {i : Nat} {x y : Blk} (hx : l[i]? = some x) (hy : y.left = x.left) : LeftAt c (l.set i y) := by
  have hi : i < l.length := (List.getElem?_eq_some_iff.1 hx).1
  intro i' x' hx'
  by_cases e : i = i'
  · subst e
    rw [List.getElem?_set_self hi] at hx'
    cases hx'
    rw [hy]; exact h i x hx
  · rw [List.getElem?_set_ne e] at hx'
    exact h i' x' hx'
section
variable {w : World} {p q t cap : Nat} {b : Bks}
theorem IsR.c0 (h : IsR w p q t cap b) : w.cell? ⟨p, 0, none⟩ = some (.int .i64 b.pages) := cell_of h.head rfl
theorem IsR.c1 (h : IsR w p q t cap b) : w.cell? ⟨p, 1, none⟩ = some (.slice (some ⟨q, 0, none⟩) b.all.length cap) := cell_of h.head rfl
theorem IsR.c2 (h : IsR w p q t cap b) : w.cell? ⟨p, 2, none⟩ = some (.slice (some ⟨t, 0, none⟩) b.all.length b.all.length) := cell_of h.head rfl
theorem IsR.c3 (h : IsR w p q t cap b) : w.cell? ⟨p, 3, none⟩ = some (.int .i64 b.cursor) := cell_of h.head rfl
theorem IsR.c4 (h : IsR w p q t cap b) : w.cell? ⟨p, 4, none⟩ = some (.int .i64 b.last) := cell_of h.head rfl
theorem IsR.c5 (h : IsR w p q t cap b) : w.cell? ⟨p, 5, none⟩ = some (.int .i64 b.victim) := cell_of h.head rfl
theorem IsR.cf (h : IsR w p q t cap b) (o : Nat) : w.frozen? ⟨p, o, none⟩ = false := free_of h.head
theorem IsR.rf (h : IsR w p q t cap b) (o : Nat) : w.frozen? ⟨q, o, none⟩ = false := by obtain ⟨c, hc, _⟩ := h.rows; exact free_of hc
theorem IsR.lf (h : IsR w p q t cap b) (o : Nat) : w.frozen? ⟨t, o, none⟩ = false := by obtain ⟨c, hc, _⟩ := h.left; exact free_of hc
theorem IsR.cell (h : IsR w p q t cap b) {i : Nat} {x : Blk} (hx : b.all[i]? = some x) {j : Nat} {v : Value} (hv : x.cells4[j]? = some v) : w.cell? ⟨q, i * 4 + j, none⟩ = some v := by
  obtain ⟨c, hc, hr⟩ := h.rows
  exact cell_of hc (hr i x hx j v hv)
theorem IsR.e0 (h : IsR w p q t cap b) {i : Nat} {x : Blk} (hx : b.all[i]? = some x) : w.cell? ⟨q, i * 4, none⟩ = some (.int .i64 x.state) := h.cell hx (j := 0) rfl
theorem IsR.e1 (h : IsR w p q t cap b) {i : Nat} {x : Blk} (hx : b.all[i]? = some x) : w.cell? ⟨q, i * 4 + 1, none⟩ = some (.int .u64 x.head) := h.cell hx (j := 1) rfl
theorem IsR.e2 (h : IsR w p q t cap b) {i : Nat} {x : Blk} (hx : b.all[i]? = some x) : w.cell? ⟨q, i * 4 + 2, none⟩ = some (.bool x.real) := h.cell hx (j := 2) rfl
theorem IsR.e3 (h : IsR w p q t cap b) {i : Nat} {x : Blk} (hx : b.all[i]? = some x) : w.cell? ⟨q, i * 4 + 3, none⟩ = some (.int .i64 x.live) := h.cell hx (j := 3) rfl
theorem IsR.e4 (h : IsR w p q t cap b) {i : Nat} {x : Blk} (hx : b.all[i]? = some x) : w.cell? ⟨t, i, none⟩ = some (.bool x.left) := by
  obtain ⟨c, hc, hr⟩ := h.left
  exact cell_of hc (hr i x hx)
theorem IsR.drewN (h : IsR w p q t cap b) (n : Nat) : IsR (w.drewN n) p q t cap b := ⟨h.head, h.rows, h.left, h.pos, h.le⟩
theorem IsR.plt (h : IsR w p q t cap b) : p < w.heap.size := lt_of_heap h.head
theorem IsR.qlt (h : IsR w p q t cap b) : q < w.heap.size := by obtain ⟨c, hc, _⟩ := h.rows; exact lt_of_heap hc
theorem IsR.tlt (h : IsR w p q t cap b) : t < w.heap.size := by obtain ⟨c, hc, _⟩ := h.left; exact lt_of_heap hc
theorem IsR.pq (h : IsR w p q t cap b) : p ≠ q := by obtain ⟨c, hc, _⟩ := h.rows; exact typ_ne h.head hc (by decide)
theorem IsR.pt (h : IsR w p q t cap b) : p ≠ t := by obtain ⟨c, hc, _⟩ := h.left; exact typ_ne h.head hc (by decide)
theorem IsR.qt (h : IsR w p q t cap b) : q ≠ t := by obtain ⟨c, hc, _⟩ := h.rows; obtain ⟨d, hd, _⟩ := h.left; exact typ_ne hc hd (by decide)
theorem IsR.off {S : Nat → Prop} {w' : World} (h : IsR w p q t cap b) (o : Off S w w') (hp : ¬ S p) (hq : ¬ S q) (ht : ¬ S t) : IsR w' p q t cap b := by
  obtain ⟨c, hc, hr⟩ := h.rows
  obtain ⟨d, hd, hs⟩ := h.left
  exact ⟨(o.block p h.plt hp).trans h.head, ⟨c, (o.block q h.qlt hq).trans hc, hr⟩, ⟨d, (o.block t h.tlt ht).trans hd, hs⟩, h.pos, h.le⟩
theorem IsR.below {w' : World} (h : IsR w p q t cap b) (o : Below w.heap.size w w') : IsR w' p q t cap b := h.off (Off.of_below (S := fun _ => False) o) (fun h => h) (fun h => h) (fun h => h)
theorem IsR.alloc (h : IsR w p q t cap b) (o : Obj) : IsR (w.alloc o) p q t cap b := h.below ((Below.refl _ _).alloc (Nat.le_refl _) o)
/-- A store into a field. -/
theorem IsR.setHead (h : IsR w p q t cap b) {j : Nat} {v : Value} {b' : Bks} (ha : b'.all = b.all)
    (hv : (#[.int .i64 b.pages, .slice (some ⟨q, 0, none⟩) b.all.length cap, .slice (some ⟨t, 0, none⟩) b.all.length b.all.length, .int .i64 b.cursor, .int .i64 b.last, .int .i64 b.victim] : Array Value).setIfInBounds j v = #[.int .i64 b'.pages, .slice (some ⟨q, 0, none⟩) b.all.length cap, .slice (some ⟨t, 0, none⟩) b.all.length b.all.length, .int .i64 b'.cursor, .int .i64 b'.last, .int .i64 b'.victim]) : IsR (w.setCell ⟨p, j, none⟩ v) p q t cap b' := by
  obtain ⟨c, hc, hr⟩ := h.rows
  obtain ⟨d, hd, hs⟩ := h.left
  refine ⟨?_, ⟨c, ?_, ha ▸ hr⟩, ⟨d, ?_, ha ▸ hs⟩, ha ▸ h.pos, ha ▸ h.le⟩
  · rw [heap_set_same h.head, hv, ha]
  · rw [heap_set_ne _ (Ne.symm h.pq)]; exact hc
  · rw [heap_set_ne _ (Ne.symm h.pt)]; exact hd
/-- A store into a block's field. -/
theorem IsR.setRow (h : IsR w p q t cap b) {i j : Nat} {x y : Blk} {v : Value} (hx : b.all[i]? = some x) (hj : j < 4) (hy : y.cells4 = x.cells4.set j v) (hl : y.left = x.left) : IsR (w.setCell ⟨q, i * 4 + j, none⟩ v) p q t cap { b with all := b.all.set i y } := by
  obtain ⟨c, hc, hr⟩ := h.rows
  obtain ⟨d, hd, hs⟩ := h.left
  refine ⟨?_, ⟨_, heap_set_same hc v, hr.set hx hj hy⟩, ⟨d, ?_, hs.same hx hl⟩, by simpa using h.pos, by simpa using h.le⟩
  · rw [heap_set_ne _ h.pq]
    simpa using h.head
  · rw [heap_set_ne _ (Ne.symm h.qt)]; exact hd
end
theorem rin_calls (p q t cap : Nat) (b : Bks) (n : Int) (w : World) (hI : IsR w p q t cap b) :
    Calls Try.prog 64 #[.pointer (some ⟨p, 0, none⟩), .int .i64 n] w fun e w' => e = .returned (.bool (decide (0 ≤ n) && decide (n < (b.all.length : Int)))) ∧ w = w' := by
  have c1 := hI.c1
  have hle := hI.le
  clear hI
  by_cases h0 : 0 ≤ n
  · have hd : decide (0 ≤ n) = true := decide_eq_true h0
    rw [hd]
    go_enter Try.func64, Try.ntmps64
    go_wp2
    go_ret
    exact ⟨by first | rfl | simp, rfl⟩
  · have hd : decide (0 ≤ n) = false := decide_eq_false h0
    rw [hd]
    go_enter Try.func64, Try.ntmps64
    go_wp2
    go_ret
    exact ⟨by first | rfl | simp, rfl⟩
end Go.Proofs.Ytmohijpkhmeibaa
/- The document's book: Open, Real, Wait. -/
namespace Go.Proofs.Ytmohijpkhmeibaa
open Go.RowKit Go.Proofs
set_option linter.unusedVariables false
set_option linter.unusedSimpArgs false
set_option maxRecDepth 100000
theorem ropen_calls (p q t cap : Nat) (b : Bks) (k : Nat) (w : World) (hI : IsR w p q t cap b) (hk : k ≤ b.all.length) (hbef : ∀ i x, i < k → b.all[i]? = some x → x.state ≠ 2) (hat : ∀ x, b.all[k]? = some x → x.state = 2) :
    Calls Try.prog 51 #[.pointer (some ⟨p, 0, none⟩)] w fun e w' => e = .returned (.tuple #[.int .i64 (if k < b.all.length then (k : Int) else 0), .bool (decide (k < b.all.length))]) ∧ w = w' := by
  have c1 := hI.c1
  have hle := hI.le
  have HI := Lib.hid hI
  have HB := Lib.hid hbef
  have HA := Lib.hid hat
  clear hI hbef hat
  go_enter Try.func51, Try.ntmps51
  go_wp2
  go_loop [4] (fun s4 => ∃ i : Nat, s4 = .int .i64 (i : Int) ∧ i ≤ k) (fun s4 => k - (intOf s4).toNat)
  case atStart => exact ⟨0, rfl, by omega⟩
  case round =>
    obtain ⟨i, rfl, hi⟩ := hrel
    by_cases hlt : i < k
    · obtain ⟨x, hx⟩ : ∃ x, b.all[i]? = some x := ⟨_, List.getElem?_eq_getElem (by omega)⟩
      have e0 := HI.out.e0 hx
      have hs := HB.out i x hlt hx
      have n2 : (x.state == 2) = false := beq_eq_false_iff_ne.2 hs
      have hil : (i : Int) < (b.all.length : Int) := by omega
      clear hx hs
      go_wp2
      go_roundw
      case rel => exact ⟨i + 1, by go_num, by omega⟩
      case measure => simp [intOf]; omega
    · obtain rfl : i = k := by omega
      by_cases hkl : i < b.all.length
      · obtain ⟨x, hx⟩ : ∃ x, b.all[i]? = some x := ⟨_, List.getElem?_eq_getElem hkl⟩
        have e0 := HI.out.e0 hx
        have hs := HA.out x hx
        have n2 : (x.state == 2) = true := beq_iff_eq.2 hs
        have hil : (i : Int) < (b.all.length : Int) := by omega
        clear hx hs
        go_wp2
        go_ret2
        exact ⟨by simp [hkl], rfl⟩
      · obtain rfl : i = b.all.length := by omega
        go_wp2
        go_ret2
        exact ⟨by simp, rfl⟩
theorem rreal_none (p q t cap : Nat) (b : Bks) (w : World) (hI : IsR w p q t cap b) (h : ∀ x ∈ b.all, x.state ≠ 2) :
    Calls Try.prog 57 #[.pointer (some ⟨p, 0, none⟩)] w fun e w' => e = .returned (.int .i64 110) ∧ w = w' := by
  have OC := ropen_calls p q t cap b b.all.length w hI (Nat.le_refl _) (fun i x _ hx => h x (List.mem_of_getElem? hx)) (fun x hx => by rw [List.getElem?_eq_none (Nat.le_refl _)] at hx; cases hx)
  rw [if_neg (Nat.lt_irrefl _), show decide (b.all.length < b.all.length) = false from decide_eq_false (Nat.lt_irrefl _)] at OC
  have OC := Lib.hid OC
  clear hI h
  go_enter Try.func57, Try.ntmps57
  go_wp2_with fail
  refine OC.out.mono ?_
  rintro e w' ⟨rfl, rfl⟩
  go_wp2
  go_ret
  exact ⟨rfl, rfl⟩
theorem rreal_some (p q t cap : Nat) (b : Bks) (k : Nat) (x : Blk) (w : World) (hI : IsR w p q t cap b) (hx : b.all[k]? = some x) (hs : x.state = 2) (hbef : ∀ i x, i < k → b.all[i]? = some x → x.state ≠ 2) :
    Calls Try.prog 57 #[.pointer (some ⟨p, 0, none⟩)] w fun e w' => e = .returned (.int .i64 0) ∧ IsR w' p q t cap { b with all := b.all.set k x.setReal } ∧ Off (· = q) w w' := by
  have hk : k < b.all.length := (List.getElem?_eq_some_iff.1 hx).1
  have OC := ropen_calls p q t cap b k w hI (by omega) hbef (fun y hy => by rw [hx] at hy; cases hy; exact hs)
  rw [if_pos hk, show decide (k < b.all.length) = true from decide_eq_true hk] at OC
  have OC := Lib.hid OC
  have c1 := hI.c1
  have e2 := hI.e2 hx
  have f2 := hI.rf (k * 4 + 2)
  have hle := hI.le
  have hkl : (k : Int) < (b.all.length : Int) := by omega
  have H2 := Lib.hid (hI.setRow (y := x.setReal) hx (j := 2) (v := .bool true) (by decide) rfl rfl)
  clear hI hx hs hbef
  go_enter Try.func57, Try.ntmps57
  go_wp2_with fail
  refine OC.out.mono ?_
  rintro e w' ⟨rfl, rfl⟩
  go_wp2
  go_ret
  exact ⟨rfl, H2.out, (Off.refl (· = q) w).setCell (p := ⟨q, k * 4 + 2, none⟩) (.inl rfl) _⟩
theorem rwait_none (p q t cap : Nat) (b : Bks) (w : World) (hI : IsR w p q t cap b) (h : ∀ x ∈ b.all, x.state ≠ 2) :
    Calls Try.prog 60 #[.pointer (some ⟨p, 0, none⟩)] w fun e w' => e = .returned (.int .i64 110) ∧ w = w' := by
  have OC := ropen_calls p q t cap b b.all.length w hI (Nat.le_refl _) (fun i x _ hx => h x (List.mem_of_getElem? hx)) (fun x hx => by rw [List.getElem?_eq_none (Nat.le_refl _)] at hx; cases hx)
  rw [if_neg (Nat.lt_irrefl _), show decide (b.all.length < b.all.length) = false from decide_eq_false (Nat.lt_irrefl _)] at OC
  have OC := Lib.hid OC
  clear hI h
  go_enter Try.func60, Try.ntmps60
  go_wp2_with fail
  refine OC.out.mono ?_
  rintro e w' ⟨rfl, rfl⟩
  go_wp2
  go_ret
  exact ⟨rfl, rfl⟩
theorem rwait_some (p q t cap : Nat) (b : Bks) (k : Nat) (x : Blk) (w : World) (hI : IsR w p q t cap b) (hx : b.all[k]? = some x) (hs : x.state = 2) (hbef : ∀ i x, i < k → b.all[i]? = some x → x.state ≠ 2) :
    Calls Try.prog 60 #[.pointer (some ⟨p, 0, none⟩)] w fun e w' => e = .returned (.int .i64 0) ∧ IsR w' p q t cap { b with all := b.all.set k { x with state := 4 } } ∧ Off (· = q) w w' := by
  have hk : k < b.all.length := (List.getElem?_eq_some_iff.1 hx).1
  have OC := ropen_calls p q t cap b k w hI (by omega) hbef (fun y hy => by rw [hx] at hy; cases hy; exact hs)
  rw [if_pos hk, show decide (k < b.all.length) = true from decide_eq_true hk] at OC
  have OC := Lib.hid OC
  have c1 := hI.c1
  have e0 := hI.e0 hx
  have f0 := hI.rf (k * 4)
  have hle := hI.le
  have hkl : (k : Int) < (b.all.length : Int) := by omega
  have h2 := hI.setRow (y := { x with state := 4 }) hx (j := 0) (v := .int .i64 4) (by decide) rfl rfl
  rw [show k * 4 + 0 = k * 4 from rfl] at h2
  have H2 := Lib.hid h2
  clear hI hx hs hbef h2
  go_enter Try.func60, Try.ntmps60
  go_wp2_with fail
  refine OC.out.mono ?_
  rintro e w' ⟨rfl, rfl⟩
  go_wp2
  go_ret
  exact ⟨rfl, H2.out, (Off.refl (· = q) w).setCell (p := ⟨q, k * 4, none⟩) (.inl rfl) _⟩
end Go.Proofs.Ytmohijpkhmeibaa
/- The document's book: emptied, Shut. -/
namespace Go.Proofs.Ytmohijpkhmeibaa
open Go.RowKit Go.Proofs
set_option linter.unusedVariables false
set_option linter.unusedSimpArgs false
set_option maxRecDepth 100000
theorem IsR.setAll {w : World} {p q t cap : Nat} {b : Bks} (h : IsR w p q t cap b) {i : Nat} {x : Blk} (y : Blk) (hx : b.all[i]? = some x) (hl : y.left = x.left) :
    IsR ((((w.setCell ⟨q, i * 4, none⟩ (.int .i64 y.state)).setCell ⟨q, i * 4 + 1, none⟩ (.int .u64 y.head)).setCell ⟨q, i * 4 + 2, none⟩ (.bool y.real)).setCell ⟨q, i * 4 + 3, none⟩ (.int .i64 y.live)) p q t cap { b with all := b.all.set i y } := by
  have hi : i < b.all.length := (List.getElem?_eq_some_iff.1 hx).1
  have g : ∀ (l : List Blk) (z : Blk), i < l.length → (l.set i z)[i]? = some z := fun l z hl => List.getElem?_set_self hl
  have h0 := h.setRow (y := ⟨y.state, x.head, x.real, x.live, x.left⟩) hx (j := 0) (by decide) rfl rfl
  have h1 := h0.setRow (y := ⟨y.state, y.head, x.real, x.live, x.left⟩) (g _ _ hi) (j := 1) (by decide) rfl rfl
  have h2 := h1.setRow (y := ⟨y.state, y.head, y.real, x.live, x.left⟩) (g _ _ (by simpa using hi)) (j := 2) (by decide) rfl rfl
  have h3 := h2.setRow (y := y) (g _ _ (by simpa using hi)) (j := 3) (by decide) rfl hl
  simpa using h3
theorem emptied_calls (p q t cap : Nat) (b : Bks) (k : Nat) (x : Blk) (w : World) (hI : IsR w p q t cap b) (hx : b.all[k]? = some x) (hl : x.left = false) :
    Calls Try.prog 74 #[.pointer (some ⟨p, 0, none⟩), .int .i64 (k : Int)] w fun e w' => (∃ v, e = .returned v) ∧ IsR w' p q t cap (emptyB b k) ∧ Off (· = q) w w' := by
  have hk : k < b.all.length := (List.getElem?_eq_some_iff.1 hx).1
  have c1 := hI.c1
  have c4 := hI.c4
  have e0 := hI.e0 hx
  have e1 := hI.e1 hx
  have e2 := hI.e2 hx
  have e3 := hI.e3 hx
  have f0 := hI.rf (k * 4)
  have f1 := hI.rf (k * 4 + 1)
  have f2 := hI.rf (k * 4 + 2)
  have f3 := hI.rf (k * 4 + 3)
  have hkl : (k : Int) < (b.all.length : Int) := by omega
  have hle := hI.le
  have hF := hI.setAll freeBlk hx hl.symm
  have hH := hI.setAll heldBlk hx hl.symm
  have HF := Lib.hid hF
  have HH := Lib.hid hH
  clear hI hx hl hF hH
  by_cases hv : (k : Int) = b.last
  · have hb : ((k : Int) == b.last) = true := beq_iff_eq.2 hv
    have HV := Lib.hid hv
    clear hv
    go_enter Try.func74, Try.ntmps74
    go_wp2
    go_end0
    refine ⟨⟨_, rfl⟩, ?_, ((((Off.refl (· = q) w).setCell (p := ⟨q, _, none⟩) (.inl rfl) _).setCell (p := ⟨q, _, none⟩) (.inl rfl) _).setCell (p := ⟨q, _, none⟩) (.inl rfl) _).setCell (p := ⟨q, _, none⟩) (.inl rfl) _⟩
    unfold emptyB
    rw [if_pos HV.out]
    exact HH.out
  · have hb : ((k : Int) == b.last) = false := beq_eq_false_iff_ne.2 hv
    have HV := Lib.hid hv
    clear hv
    go_enter Try.func74, Try.ntmps74
    go_wp2
    go_end0
    refine ⟨⟨_, rfl⟩, ?_, ((((Off.refl (· = q) w).setCell (p := ⟨q, _, none⟩) (.inl rfl) _).setCell (p := ⟨q, _, none⟩) (.inl rfl) _).setCell (p := ⟨q, _, none⟩) (.inl rfl) _).setCell (p := ⟨q, _, none⟩) (.inl rfl) _⟩
    unfold emptyB
    rw [if_neg HV.out]
    exact HF.out
theorem rshut_none (p q t cap : Nat) (b : Bks) (w : World) (hI : IsR w p q t cap b) (h : ∀ x ∈ b.all, x.state ≠ 2) :
    Calls Try.prog 59 #[.pointer (some ⟨p, 0, none⟩)] w fun e w' => e = .returned (.int .i64 110) ∧ w = w' := by
  have OC := ropen_calls p q t cap b b.all.length w hI (Nat.le_refl _) (fun i x _ hx => h x (List.mem_of_getElem? hx)) (fun x hx => by rw [List.getElem?_eq_none (Nat.le_refl _)] at hx; cases hx)
  rw [if_neg (Nat.lt_irrefl _), show decide (b.all.length < b.all.length) = false from decide_eq_false (Nat.lt_irrefl _)] at OC
  have OC := Lib.hid OC
  clear hI h
  go_enter Try.func59, Try.ntmps59
  go_wp2_with fail
  refine OC.out.mono ?_
  rintro e w' ⟨rfl, rfl⟩
  go_wp2
  go_ret
  exact ⟨rfl, rfl⟩
theorem rshut_some (p q t cap : Nat) (b : Bks) (k : Nat) (x : Blk) (w : World) (hI : IsR w p q t cap b) (hx : b.all[k]? = some x) (hs : x.state = 2) (hl : x.left = false) (hbef : ∀ i x, i < k → b.all[i]? = some x → x.state ≠ 2) :
    Calls Try.prog 59 #[.pointer (some ⟨p, 0, none⟩)] w fun e w' => e = .returned (.int .i64 0) ∧ IsR w' p q t cap (if hollowB { x with state := 1 } = true then emptyB { b with all := b.all.set k { x with state := 1 } } k else { b with all := b.all.set k { x with state := 1 } }) ∧ Off (· = q) w w' := by
  have hk : k < b.all.length := (List.getElem?_eq_some_iff.1 hx).1
  have OC := ropen_calls p q t cap b k w hI (by omega) hbef (fun y hy => by rw [hx] at hy; cases hy; exact hs)
  rw [if_pos hk, show decide (k < b.all.length) = true from decide_eq_true hk] at OC
  have OC := Lib.hid OC
  have c1 := hI.c1
  have e0 := hI.e0 hx
  have f0 := hI.rf (k * 4)
  have hle := hI.le
  have hkl : (k : Int) < (b.all.length : Int) := by omega
  have h2 := hI.setRow (y := { x with state := 1 }) hx (j := 0) (v := .int .i64 1) (by decide) rfl rfl
  rw [show k * 4 + 0 = k * 4 from rfl] at h2
  have hgx : ({ b with all := b.all.set k { x with state := 1 } } : Bks).all[k]? = some { x with state := 1 } := List.getElem?_set_self hk
  have d1 := h2.c1
  simp only [List.length_set] at d1
  have d2 := h2.e2 hgx
  have d3 := h2.e3 hgx
  have EC := Lib.hid (emptied_calls p q t cap _ k _ _ h2 hgx hl)
  have H2 := Lib.hid h2
  have O2 := Lib.hid (show Off (· = q) w (w.setCell ⟨q, k * 4, none⟩ (.int .i64 1)) from (Off.refl (· = q) w).setCell (p := ⟨q, k * 4, none⟩) (.inl rfl) _)
  clear hI hx hs hl hbef h2 hgx
  rcases (Bool.eq_false_or_eq_true x.real).symm with hr | hr
  · replace d2 : (w.setCell ⟨q, k * 4, none⟩ (.int .i64 1)).cell? ⟨q, k * 4 + 2, none⟩ = some (.bool false) := by rw [← hr]; exact d2
    rcases (Bool.eq_false_or_eq_true (x.live == 0)).symm with hv | hv
    · have hh : hollowB { x with state := 1 } = false := by unfold hollowB; simp only [hr, hv]; rfl
      rw [if_neg (by rw [hh]; decide)]
      clear hh
      go_enter Try.func59, Try.ntmps59
      go_wp2_with fail
      refine OC.out.mono ?_
      rintro e w' ⟨rfl, rfl⟩
      go_wp2
      go_ret
      exact ⟨rfl, H2.out, O2.out⟩
    · have hh : hollowB { x with state := 1 } = true := by unfold hollowB; simp only [hr, hv]; rfl
      rw [if_pos hh]
      clear hh
      go_enter Try.func59, Try.ntmps59
      go_wp2_with (first | (go_at_call 51; refine OC.out.mono ?_; rintro e w' ⟨rfl, rfl⟩) | (go_at_call 74; refine EC.out.mono ?_; rintro e w1 ⟨⟨v, rfl⟩, h1, h2⟩; have H3 := Lib.hid h1; have O3 := Lib.hid h2; clear h1 h2))
      go_ret
      exact ⟨rfl, H3.out, O2.out.trans O3.out⟩
  · replace d2 : (w.setCell ⟨q, k * 4, none⟩ (.int .i64 1)).cell? ⟨q, k * 4 + 2, none⟩ = some (.bool true) := by rw [← hr]; exact d2
    have hh : hollowB { x with state := 1 } = false := by unfold hollowB; simp only [hr]; rfl
    rw [if_neg (by rw [hh]; decide)]
    clear hh
    go_enter Try.func59, Try.ntmps59
    go_wp2_with fail
    refine OC.out.mono ?_
    rintro e w' ⟨rfl, rfl⟩
    go_wp2
    go_ret
    exact ⟨rfl, H2.out, O2.out⟩
end Go.Proofs.Ytmohijpkhmeibaa
/- The document's book: done. -/
namespace Go.Proofs.Ytmohijpkhmeibaa
open Go.RowKit Go.Proofs
set_option linter.unusedVariables false
set_option linter.unusedSimpArgs false
set_option maxRecDepth 100000
set_option maxHeartbeats 1000000 in
theorem rdone_calls (p q t cap : Nat) (b : Bks) (k : Nat) (x : Blk) (w : World) (hI : IsR w p q t cap b) (hx : b.all[k]? = some x) :
    Calls Try.prog 65 #[.pointer (some ⟨p, 0, none⟩), .int .i64 (k : Int)] w fun e w' => e = .returned (.bool (doneB x k b.last)) ∧ Below w.heap.size w w' := by
  have hk : k < b.all.length := (List.getElem?_eq_some_iff.1 hx).1
  have c1 := hI.c1
  have hle := hI.le
  have e0 := hI.e0 hx
  have e1 := hI.e1 hx
  have e2 := hI.e2 hx
  have e3 := hI.e3 hx
  have a2 := fun o : Obj => (hI.alloc o).c2
  have a4 := fun o : Obj => (hI.alloc o).c4
  have l4 := fun o : Obj => (hI.alloc o).e4 hx
  have hkl : (k : Int) < (b.all.length : Int) := by omega
  clear hI hx
  cases hs : (x.state == 4)
  · have hd : Hid (doneB x k b.last = false) := Lib.hid (by unfold doneB; rw [hs]; rfl)
    go_enter Try.func65, Try.ntmps65
    go_wp2
    go_ret
    exact ⟨by rw [hd.out]; rfl, (Below.refl _ _).alloc (Nat.le_refl _) _⟩
  cases hl : ((k : Int) != b.last)
  · have hd : Hid (doneB x k b.last = false) := Lib.hid (by unfold doneB; rw [hs, hl]; rfl)
    go_enter Try.func65, Try.ntmps65
    go_wp2
    go_ret
    exact ⟨by rw [hd.out]; rfl, (Below.refl _ _).alloc (Nat.le_refl _) _⟩
  cases hlf : x.left
  · rw [hlf] at l4
    cases hr : x.real
    · have hd : Hid (doneB x k b.last = (x.live == 0)) := Lib.hid (by unfold doneB; rw [hs, hl, hlf, hr]; rfl)
      rw [hr] at e2
      go_enter Try.func65, Try.ntmps65
      go_wp2
      go_ret
      exact ⟨by rw [hd.out]; rfl, (Below.refl _ _).alloc (Nat.le_refl _) _⟩
    · have hd : Hid (doneB x k b.last = false) := Lib.hid (by unfold doneB; rw [hs, hl, hlf, hr]; rfl)
      rw [hr] at e2
      go_enter Try.func65, Try.ntmps65
      go_wp2
      go_ret
      exact ⟨by rw [hd.out]; rfl, (Below.refl _ _).alloc (Nat.le_refl _) _⟩
  · have hd : Hid (doneB x k b.last = true) := Lib.hid (by unfold doneB; rw [hs, hl, hlf]; rfl)
    rw [hlf] at l4
    go_enter Try.func65, Try.ntmps65
    go_wp2
    go_ret
    exact ⟨by rw [hd.out]; rfl, (Below.refl _ _).alloc (Nat.le_refl _) _⟩
end Go.Proofs.Ytmohijpkhmeibaa
/- The document's book: Start. -/
namespace Go.Proofs.Ytmohijpkhmeibaa
open Go.RowKit Go.Proofs
set_option linter.unusedVariables false
set_option linter.unusedSimpArgs false
set_option maxRecDepth 100000
/-- Where the open block stands: number k (the length: none). -/
def OpenAt (b : Bks) (k : Nat) : Prop := k ≤ b.all.length ∧ (∀ i x, i < k → b.all[i]? = some x → x.state ≠ 2) ∧ ∀ x, b.all[k]? = some x → x.state = 2
theorem in_not {b : Bks} {n : Int} (h : n < 0 ∨ b.all.length ≤ n) : (decide (0 ≤ n) && decide (n < (b.all.length : Int))) = false := by
  rcases h with h | h
  · rw [show decide (0 ≤ n) = false from decide_eq_false (by omega)]; rfl
  · rw [show decide (n < (b.all.length : Int)) = false from decide_eq_false (by omega), Bool.and_false]
theorem in_yes {b : Bks} {k : Nat} (h : k < b.all.length) : (decide (0 ≤ (k : Int)) && decide ((k : Int) < (b.all.length : Int))) = true := by
  rw [show decide (0 ≤ (k : Int)) = true from decide_eq_true (by omega), show decide ((k : Int) < (b.all.length : Int)) = true from decide_eq_true (by omega)]; rfl
theorem rstart_away (p q t cap : Nat) (b : Bks) (n h : Int) (w : World) (hI : IsR w p q t cap b) (hn : n < 0 ∨ b.all.length ≤ n) :
    Calls Try.prog 56 #[.pointer (some ⟨p, 0, none⟩), .int .i64 n, .int .u64 h] w fun e w' => e = .returned (.int .i64 41) ∧ w = w' := by
  have NC := rin_calls p q t cap b n w hI
  rw [in_not hn] at NC
  have NC := Lib.hid NC
  clear hI hn
  go_enter Try.func56, Try.ntmps56
  go_wp2_with fail
  refine NC.out.mono ?_
  rintro e w' ⟨rfl, rfl⟩
  go_wp2
  go_ret
  exact ⟨rfl, rfl⟩
def StartAll (b : Bks) (ko : Nat) (x : Blk) (h : Int) : Prop := x.state = 0 ∧ ko = b.all.length ∧ h ≠ 0 ∧ h ≤ 281474976710655 ∧ ∀ y ∈ b.all, y.head < h
theorem rstart_in (p q t cap : Nat) (b : Bks) (k ko : Nat) (x : Blk) (h : Int) (w : World) (hI : IsR w p q t cap b) (hx : b.all[k]? = some x) (hl : x.left = false) (ho : OpenAt b ko) (hh0 : 0 ≤ h) :
    Calls Try.prog 56 #[.pointer (some ⟨p, 0, none⟩), .int .i64 (k : Int), .int .u64 h] w fun e w' =>
      (StartAll b ko x h ∧ e = .returned (.int .i64 0) ∧ IsR w' p q t cap { b with all := b.all.set k (openBlk h) } ∧ Off (· = q) w w') ∨
      (¬ StartAll b ko x h ∧ e = .returned (.int .i64 110) ∧ w = w') := by
  have hk : k < b.all.length := (List.getElem?_eq_some_iff.1 hx).1
  have NC := rin_calls p q t cap b k w hI
  rw [in_yes hk] at NC
  have NC := Lib.hid NC
  have OC := ropen_calls p q t cap b ko w hI ho.1 ho.2.1 ho.2.2
  have c1 := hI.c1
  have e0 := hI.e0 hx
  have hle := hI.le
  have hkl : (k : Int) < (b.all.length : Int) := by omega
  have HI := Lib.hid hI
  have HX := Lib.hid hx
  have HF := Lib.hid (hI.setAll (openBlk h) hx hl.symm)
  by_cases hko : ko < b.all.length
  · have hno : ¬ StartAll b ko x h := fun e => by have h1 := e.1; have h2 := e.2.1; have h3 := e.2.2.1; have h4 := e.2.2.2.1; omega
    have HN := Lib.hid hno
    rw [show decide (ko < b.all.length) = true from decide_eq_true hko, if_pos hko] at OC
    have OC := Lib.hid OC
    clear hI hx hl ho hko hno
    cases hs : (x.state != 0)
    all_goals
      go_enter Try.func56, Try.ntmps56
      go_wp2_with (first | (go_at_call 64; refine NC.out.mono ?_; rintro e w' ⟨rfl, rfl⟩) | (go_at_call 51; refine OC.out.mono ?_; rintro e w' ⟨rfl, rfl⟩))
      go_ret
      exact .inr ⟨HN.out, rfl, rfl⟩
  · have hke : ko = b.all.length := by have := ho.1; omega
    rw [show decide (ko < b.all.length) = false from decide_eq_false hko, if_neg hko] at OC
    have OC := Lib.hid OC
    clear hI hx hl ho hko
    by_cases hs : x.state = 0
    · have ns : (x.state != 0) = false := by rw [hs]; rfl
      by_cases h1 : h < 1
      · have hno : ¬ StartAll b ko x h := fun e => by have h1 := e.1; have h2 := e.2.1; have h3 := e.2.2.1; have h4 := e.2.2.2.1; omega
        have HN := Lib.hid hno
        clear hs hno hke
        go_enter Try.func56, Try.ntmps56
        go_wp2_with (first | (go_at_call 64; refine NC.out.mono ?_; rintro e w' ⟨rfl, rfl⟩) | (go_at_call 51; refine OC.out.mono ?_; rintro e w' ⟨rfl, rfl⟩))
        go_ret
        exact .inr ⟨HN.out, rfl, rfl⟩
      · by_cases hm : 281474976710655 < h
        · have hno : ¬ StartAll b ko x h := fun e => by have h1 := e.1; have h2 := e.2.1; have h3 := e.2.2.1; have h4 := e.2.2.2.1; omega
          have HN := Lib.hid hno
          clear hs hno hke
          go_enter Try.func56, Try.ntmps56
          go_wp2_with (first | (go_at_call 64; refine NC.out.mono ?_; rintro e w' ⟨rfl, rfl⟩) | (go_at_call 51; refine OC.out.mono ?_; rintro e w' ⟨rfl, rfl⟩))
          go_ret
          exact .inr ⟨HN.out, rfl, rfl⟩
        · have HS := Lib.hid (And.intro hs (And.intro hke (And.intro (show h ≠ 0 by omega) (show h ≤ 281474976710655 by omega))))
          clear hs hke
          go_enter Try.func56, Try.ntmps56
          go_wp2_with (first | (go_at_call 64; refine NC.out.mono ?_; rintro e w' ⟨rfl, rfl⟩) | (go_at_call 51; refine OC.out.mono ?_; rintro e w' ⟨rfl, rfl⟩))
          go_loop [9] (fun s9 => ∃ i : Nat, s9 = .int .i64 (i : Int) ∧ i ≤ b.all.length ∧ ∀ y ∈ b.all.take i, y.head < h) (fun s9 => b.all.length - (intOf s9).toNat)
          case atStart => exact ⟨0, rfl, by omega, fun y hy => by simp at hy⟩
          case round =>
            obtain ⟨i, rfl, hi, hall⟩ := hrel
            have HALL := Lib.hid hall
            by_cases hlt : i < b.all.length
            · obtain ⟨y, hy⟩ : ∃ y, b.all[i]? = some y := ⟨_, List.getElem?_eq_getElem hlt⟩
              have g1 := HI.out.e1 hy
              have hil : (i : Int) < (b.all.length : Int) := by omega
              have HY := Lib.hid hy
              clear hall hy
              by_cases hh : h ≤ y.head
              · have HH := Lib.hid hh
                go_wp2
                go_ret
                exact .inr ⟨fun e => by have := e.2.2.2.2 y (List.mem_of_getElem? HY.out); have := HH.out; omega, rfl, rfl⟩
              · have hh2 : y.head < h := by omega
                have HH := Lib.hid hh2
                go_wp2
                go_roundw
                case rel =>
                  refine ⟨i + 1, by go_num, by omega, fun z hz => ?_⟩
                  rw [take_snoc HY.out, List.mem_append] at hz
                  rcases hz with hz | hz
                  · exact HALL.out z hz
                  · simp at hz; subst hz; exact HH.out
                case measure => simp [intOf]; omega
            · obtain rfl : i = b.all.length := by omega
              rw [List.take_length] at hall
              have HALL := Lib.hid hall
              have e1 := HI.out.e1 HX.out
              have e2 := HI.out.e2 HX.out
              have e3 := HI.out.e3 HX.out
              have f0 := HI.out.rf (k * 4)
              have f1 := HI.out.rf (k * 4 + 1)
              have f2 := HI.out.rf (k * 4 + 2)
              have f3 := HI.out.rf (k * 4 + 3)
              clear hall
              go_wp2
              go_ret
              exact .inl ⟨⟨HS.out.1, HS.out.2.1, HS.out.2.2.1, HS.out.2.2.2, HALL.out⟩, rfl, HF.out, ((((Off.refl (· = q) w).setCell (p := ⟨q, _, none⟩) (.inl rfl) _).setCell (p := ⟨q, _, none⟩) (.inl rfl) _).setCell (p := ⟨q, _, none⟩) (.inl rfl) _).setCell (p := ⟨q, _, none⟩) (.inl rfl) _⟩
    · have ns : (x.state != 0) = true := bne_iff_ne.2 hs
      have hno : ¬ StartAll b ko x h := fun e => hs e.1
      have HN := Lib.hid hno
      clear hs hno hke
      go_enter Try.func56, Try.ntmps56
      go_wp2_with (first | (go_at_call 64; refine NC.out.mono ?_; rintro e w' ⟨rfl, rfl⟩) | (go_at_call 51; refine OC.out.mono ?_; rintro e w' ⟨rfl, rfl⟩))
      go_ret
      exact .inr ⟨HN.out, rfl, rfl⟩
end Go.Proofs.Ytmohijpkhmeibaa
/- The document's book: count, Near, logged. -/
namespace Go.Proofs.Ytmohijpkhmeibaa
open Go.RowKit Go.Proofs
set_option linter.unusedVariables false
set_option linter.unusedSimpArgs false
set_option maxRecDepth 100000
theorem inL3 (a c d s : Int) : inL [a, c, d] s = (s == a || (s == c || s == d)) := by
  show [a, c, d].contains s = _
  rw [List.contains_cons, List.contains_cons, List.contains_cons, List.contains_nil, Bool.or_false]
theorem rcount_calls (p q t cap : Nat) (b : Bks) (a c d : Int) (w : World) (hI : IsR w p q t cap b) :
    Calls Try.prog 73 #[.pointer (some ⟨p, 0, none⟩), .int .i64 a, .int .i64 c, .int .i64 d] w fun e w' => e = .returned (.int .i64 (cnt (inL [a, c, d]) b.all)) ∧ w = w' := by
  have c1 := hI.c1
  have hle := hI.le
  have HI := Lib.hid hI
  have hcl := cnt_le (inL [a, c, d]) b.all
  clear hI
  go_enter Try.func73, Try.ntmps73
  go_wp2
  go_loop [9, 10, 11] (fun s9 s10 _ => ∃ i : Nat, s10 = .int .i64 (i : Int) ∧ i ≤ b.all.length ∧ s9 = .int .i64 (cnt (inL [a, c, d]) (b.all.take i))) (fun _ s10 _ => b.all.length - (intOf s10).toNat)
  case atStart => exact ⟨0, rfl, by omega, rfl⟩
  case round =>
    obtain ⟨i, rfl, hi, rfl⟩ := hrel
    by_cases hlt : i < b.all.length
    · obtain ⟨x, hx⟩ : ∃ x, b.all[i]? = some x := ⟨_, List.getElem?_eq_getElem hlt⟩
      have e0 := HI.out.e0 hx
      have hil : (i : Int) < (b.all.length : Int) := by omega
      have hcs := cnt_le (inL [a, c, d]) (b.all.take i)
      have hlen : (b.all.take i).length ≤ i := List.length_take_le _ _
      have HS : Hid (cnt (inL [a, c, d]) (b.all.take (i + 1)) = cnt (inL [a, c, d]) (b.all.take i) + if inL [a, c, d] x.state then 1 else 0) := Lib.hid (by rw [take_snoc hx]; exact cnt_snoc _ _ _)
      have hin : inL [a, c, d] x.state = (x.state == a || (x.state == c || x.state == d)) := inL3 a c d x.state
      have HIN := Lib.hid hin
      clear hx hin
      cases ha : (x.state == a)
      · cases hc : (x.state == c)
        · cases hd : (x.state == d)
          all_goals
            have hv := HIN.out
            rw [ha, hc, hd] at hv
            have HV := Lib.hid hv
            clear hv
            go_wp2
            go_roundw
            case rel => exact ⟨i + 1, by go_num, by omega, by rw [HS.out, HV.out]; first | rfl | go_num⟩
            case measure => simp [intOf]; omega
        · have HV : Hid (inL [a, c, d] x.state = true) := Lib.hid (by rw [HIN.out, ha, hc]; rfl)
          go_wp2
          go_roundw
          case rel => exact ⟨i + 1, by go_num, by omega, by rw [HS.out, HV.out]; first | rfl | go_num⟩
          case measure => simp [intOf]; omega
      · have HV : Hid (inL [a, c, d] x.state = true) := Lib.hid (by rw [HIN.out, ha]; rfl)
        go_wp2
        go_roundw
        case rel => exact ⟨i + 1, by go_num, by omega, by rw [HS.out, HV.out]; first | rfl | go_num⟩
        case measure => simp [intOf]; omega
    · obtain rfl : i = b.all.length := by omega
      have HT := Lib.hid (List.take_length (l := b.all))
      go_wp2
      go_ret
      exact ⟨by first | rfl | (rw [HT.out]; rfl), rfl⟩
theorem rnear_calls (p q t cap : Nat) (b : Bks) (w : World) (hI : IsR w p q t cap b) :
    Calls Try.prog 54 #[.pointer (some ⟨p, 0, none⟩)] w fun e w' => e = .returned (.int .i64 (nearN b)) ∧ w = w' := by
  have CC := Lib.hid (rcount_calls p q t cap b 0 5 3 w hI)
  unfold nearN
  clear hI
  go_enter Try.func54, Try.ntmps54
  go_wp2_with fail
  refine CC.out.mono ?_
  rintro e w' ⟨rfl, rfl⟩
  go_wp2
  go_ret
  exact ⟨rfl, rfl⟩
end Go.Proofs.Ytmohijpkhmeibaa
/- The document's book: logged, Logged. -/
namespace Go.Proofs.Ytmohijpkhmeibaa
open Go.RowKit Go.Proofs
set_option linter.unusedVariables false
set_option linter.unusedSimpArgs false
set_option maxRecDepth 100000
theorem rlogged_calls (p q t cap : Nat) (b : Bks) (k : Nat) (x : Blk) (w : World) (hI : IsR w p q t cap b) (hx : b.all[k]? = some x) :
    Calls Try.prog 39 #[.pointer (some ⟨p, 0, none⟩), .int .i64 (k : Int)] w fun e w' => e = .returned (.bool (countedB x)) ∧ w = w' := by
  have hk : k < b.all.length := (List.getElem?_eq_some_iff.1 hx).1
  have c1 := hI.c1
  have c2 := hI.c2
  have hle := hI.le
  have e0 := hI.e0 hx
  have e4 := hI.e4 hx
  have hkl : (k : Int) < (b.all.length : Int) := by omega
  clear hI hx
  cases h1 : (x.state == 1)
  · cases h2 : (x.state == 2)
    · cases h4 : (x.state == 4)
      · have HE : Hid (countedB x = false) := Lib.hid (by unfold countedB; rw [h1, h2, h4]; rfl)
        go_enter Try.func39, Try.ntmps39
        go_wp2
        go_ret
        exact ⟨by rw [HE.out]; rfl, rfl⟩
      · have HE : Hid (countedB x = !x.left) := Lib.hid (by unfold countedB; rw [h1, h2, h4]; rfl)
        go_enter Try.func39, Try.ntmps39
        go_wp2
        go_ret
        exact ⟨by rw [HE.out]; rfl, rfl⟩
    · have HE : Hid (countedB x = true) := Lib.hid (by unfold countedB; rw [h1, h2]; rfl)
      go_enter Try.func39, Try.ntmps39
      go_wp2
      go_ret
      exact ⟨by rw [HE.out]; rfl, rfl⟩
  · have HE : Hid (countedB x = true) := Lib.hid (by unfold countedB; rw [h1]; rfl)
    go_enter Try.func39, Try.ntmps39
    go_wp2
    go_ret
    exact ⟨by rw [HE.out]; rfl, rfl⟩
def logN (l : List Blk) : Nat := (l.filter countedB).length
theorem logN_snoc (l : List Blk) (x : Blk) : logN (l ++ [x]) = logN l + if countedB x then 1 else 0 := by
  unfold logN
  rw [List.filter_append, List.length_append]
  cases h : countedB x <;> simp [List.filter_cons, h]
theorem rloggedN_calls (p q t cap : Nat) (b : Bks) (w : World) (hI : IsR w p q t cap b) :
    Calls Try.prog 14 #[.pointer (some ⟨p, 0, none⟩)] w fun e w' => e = .returned (.int .i64 (logN b.all)) ∧ w = w' := by
  have c1 := hI.c1
  have hle := hI.le
  have HI := Lib.hid hI
  clear hI
  go_enter Try.func14, Try.ntmps14
  go_wp2
  go_loop [3, 4] (fun s3 s4 => ∃ i : Nat, s4 = .int .i64 (i : Int) ∧ i ≤ b.all.length ∧ s3 = .int .i64 (logN (b.all.take i))) (fun _ s4 => b.all.length - (intOf s4).toNat)
  case atStart => exact ⟨0, rfl, by omega, rfl⟩
  case round =>
    obtain ⟨i, rfl, hi, rfl⟩ := hrel
    by_cases hlt : i < b.all.length
    · obtain ⟨x, hx⟩ : ∃ x, b.all[i]? = some x := ⟨_, List.getElem?_eq_getElem hlt⟩
      have LC := Lib.hid (rlogged_calls p q t cap b i x w HI.out hx)
      have hil : (i : Int) < (b.all.length : Int) := by omega
      have hcs : logN (b.all.take i) ≤ i := Nat.le_trans (List.length_filter_le _ _) (List.length_take_le _ _)
      have HS : Hid (logN (b.all.take (i + 1)) = logN (b.all.take i) + if countedB x then 1 else 0) := Lib.hid (by rw [take_snoc hx]; exact logN_snoc _ _)
      clear hx
      cases hc : countedB x
      all_goals
        have HC := Lib.hid hc
        clear hc
        go_wp2_with (go_at_call 39; refine LC.out.mono ?_; rintro e w' ⟨rfl, rfl⟩; rw [HC.out])
        go_roundw
        case rel => exact ⟨i + 1, by go_num, by omega, by rw [HS.out, HC.out]; first | rfl | go_num⟩
        case measure => simp [intOf]; omega
    · obtain rfl : i = b.all.length := by omega
      have HT := Lib.hid (List.take_length (l := b.all))
      go_wp2
      go_ret
      exact ⟨by first | rfl | (rw [HT.out]; rfl), rfl⟩
end Go.Proofs.Ytmohijpkhmeibaa
/- The document's book: a mark of one that has left. -/
namespace Go.Proofs.Ytmohijpkhmeibaa
open Go.RowKit Go.Proofs
set_option linter.unusedVariables false
set_option linter.unusedSimpArgs false
theorem IsR.setLeft {w : World} {p q t cap : Nat} {b : Bks} (h : IsR w p q t cap b) {i : Nat} {x y : Blk} (hx : b.all[i]? = some x) (hy : y.cells4 = x.cells4) : IsR (w.setCell ⟨t, i, none⟩ (.bool y.left)) p q t cap { b with all := b.all.set i y } := by
  have hi : i < b.all.length := (List.getElem?_eq_some_iff.1 hx).1
  obtain ⟨c, hc, hr⟩ := h.rows
  obtain ⟨d, hd, hs⟩ := h.left
  have hsz : i < d.size := (Array.getElem?_eq_some_iff.1 (hs i x hx)).1
  refine ⟨?_, ⟨c, ?_, fun i' x' hx' j v hv => ?_⟩, ⟨_, heap_set_same hd _, fun i' x' hx' => ?_⟩, by simpa using h.pos, by simpa using h.le⟩
  · rw [heap_set_ne _ h.pt]
    simpa using h.head
  · rw [heap_set_ne _ h.qt]; exact hc
  · by_cases e : i = i'
    · subst e
      simp only [List.getElem?_set_self hi] at hx'
      cases hx'
      rw [hy] at hv
      exact hr i x hx j v hv
    · simp only [List.getElem?_set_ne e] at hx'
      exact hr i' x' hx' j v hv
  · rw [Array.getElem?_setIfInBounds]
    by_cases e : i = i'
    · subst e
      simp only [List.getElem?_set_self hi] at hx'
      cases hx'
      rw [if_pos rfl, if_pos hsz]
    · simp only [List.getElem?_set_ne e] at hx'
      rw [if_neg e]
      exact hs i' x' hx'
end Go.Proofs.Ytmohijpkhmeibaa
/- The document's book: Bad. -/
namespace Go.Proofs.Ytmohijpkhmeibaa
open Go.RowKit Go.Proofs
set_option linter.unusedVariables false
set_option linter.unusedSimpArgs false
set_option maxRecDepth 100000
def BadOk (b : Bks) (k : Nat) (x : Blk) : Prop := x.state = 0 ∨ doneB x k b.last = true
theorem rbad_away (p q t cap : Nat) (b : Bks) (n : Int) (w : World) (hI : IsR w p q t cap b) (hn : n < 0 ∨ b.all.length ≤ n) :
    Calls Try.prog 61 #[.pointer (some ⟨p, 0, none⟩), .int .i64 n] w fun e w' => e = .returned (.int .i64 41) ∧ w = w' := by
  have NC := rin_calls p q t cap b n w hI
  rw [in_not hn] at NC
  have NC := Lib.hid NC
  clear hI hn
  go_enter Try.func61, Try.ntmps61
  go_wp2_with fail
  refine NC.out.mono ?_
  rintro e w' ⟨rfl, rfl⟩
  go_wp2
  go_ret
  exact ⟨rfl, rfl⟩
theorem rbad_no (p q t cap : Nat) (b : Bks) (k : Nat) (x : Blk) (w : World) (hI : IsR w p q t cap b) (hx : b.all[k]? = some x) (hno : ¬ BadOk b k x) :
    Calls Try.prog 61 #[.pointer (some ⟨p, 0, none⟩), .int .i64 (k : Int)] w fun e w' => e = .returned (.int .i64 110) ∧ Below w.heap.size w w' := by
  have hk : k < b.all.length := (List.getElem?_eq_some_iff.1 hx).1
  have NC := rin_calls p q t cap b k w hI
  rw [in_yes hk] at NC
  have NC := Lib.hid NC
  have hd : doneB x k b.last = false := by
    cases e : doneB x k b.last
    · rfl
    · exact absurd (.inr e) hno
  have ns : (x.state != 0) = true := bne_iff_ne.2 fun e => hno (.inl e)
  have DC := rdone_calls p q t cap b k x w hI hx
  rw [hd] at DC
  have DC := Lib.hid DC
  have c1 := hI.c1
  have e0 := hI.e0 hx
  have hle := hI.le
  have hkl : (k : Int) < (b.all.length : Int) := by omega
  clear hI hx hno hd
  go_enter Try.func61, Try.ntmps61
  go_wp2_with (first | (go_at_call 64; refine NC.out.mono ?_; rintro e w' ⟨rfl, rfl⟩) | (go_at_call 65; refine DC.out.mono ?_; rintro e w1 ⟨rfl, hb⟩; have HB := Lib.hid hb; clear hb))
  go_ret
  exact ⟨rfl, HB.out⟩
theorem IsR.setBad {w : World} {p q t cap : Nat} {b : Bks} (h : IsR w p q t cap b) {i : Nat} {x : Blk} (hx : b.all[i]? = some x) :
    IsR (((((w.setCell ⟨q, i * 4, none⟩ (.int .i64 6)).setCell ⟨q, i * 4 + 1, none⟩ (.int .u64 0)).setCell ⟨q, i * 4 + 2, none⟩ (.bool false)).setCell ⟨q, i * 4 + 3, none⟩ (.int .i64 0)).setCell ⟨t, i, none⟩ (.bool false)) p q t cap { b with all := b.all.set i badBlk } := by
  have hi : i < b.all.length := (List.getElem?_eq_some_iff.1 hx).1
  have h1 := h.setAll { badBlk with left := x.left } hx rfl
  have h2 := h1.setLeft (i := i) (x := { badBlk with left := x.left }) (y := badBlk) (List.getElem?_set_self hi) rfl
  simpa [badBlk] using h2
theorem rbad_yes (p q t cap : Nat) (b : Bks) (k : Nat) (x : Blk) (w : World) (hI : IsR w p q t cap b) (hx : b.all[k]? = some x) (hok : BadOk b k x) :
    Calls Try.prog 61 #[.pointer (some ⟨p, 0, none⟩), .int .i64 (k : Int)] w fun e w' => e = .returned (.int .i64 0) ∧ IsR w' p q t cap { b with all := b.all.set k badBlk } ∧ Off (fun i => i = q ∨ i = t) w w' := by
  have hk : k < b.all.length := (List.getElem?_eq_some_iff.1 hx).1
  have NC := rin_calls p q t cap b k w hI
  rw [in_yes hk] at NC
  have NC := Lib.hid NC
  have hle := hI.le
  have hkl : (k : Int) < (b.all.length : Int) := by omega
  have main : ∀ W, IsR W p q t cap b → (W.cell? ⟨q, k * 4 + 1, none⟩ = some (.int .u64 x.head) ∧ W.cell? ⟨q, k * 4 + 2, none⟩ = some (.bool x.real) ∧ W.cell? ⟨q, k * 4 + 3, none⟩ = some (.int .i64 x.live)) := fun W h => ⟨h.e1 hx, h.e2 hx, h.e3 hx⟩
  have HM := Lib.hid main
  have HI := Lib.hid hI
  have HX := Lib.hid hx
  have DC := rdone_calls p q t cap b k x w hI hx
  have c1 := hI.c1
  have e0 := hI.e0 hx
  clear hI hx main
  by_cases hs : x.state = 0
  · have ns : (x.state != 0) = false := by rw [hs]; rfl
    obtain ⟨e1, e2, e3⟩ := HM.out w HI.out
    have c2 := HI.out.c2
    have f0 := HI.out.rf (k * 4)
    have f1 := HI.out.rf (k * 4 + 1)
    have f2 := HI.out.rf (k * 4 + 2)
    have f3 := HI.out.rf (k * 4 + 3)
    have l0 := HI.out.lf k
    have h4 := HI.out.setAll { badBlk with left := x.left } HX.out rfl
    have d2 := h4.c2
    have d4 := h4.e4 (i := k) (x := { badBlk with left := x.left }) (List.getElem?_set_self hk)
    simp only [badBlk, List.length_set] at d2 d4
    have HB := Lib.hid (HI.out.setBad HX.out)
    clear DC hs hok h4
    go_enter Try.func61, Try.ntmps61
    go_wp2_with (go_at_call 64; refine NC.out.mono ?_; rintro e w' ⟨rfl, rfl⟩)
    go_ret
    exact ⟨rfl, HB.out, (((((Off.refl (fun i => i = q ∨ i = t) w).setCell (p := ⟨q, _, none⟩) (.inl (.inl rfl)) _).setCell (p := ⟨q, _, none⟩) (.inl (.inl rfl)) _).setCell (p := ⟨q, _, none⟩) (.inl (.inl rfl)) _).setCell (p := ⟨q, _, none⟩) (.inl (.inl rfl)) _).setCell (p := ⟨t, k, none⟩) (.inl (.inr rfl)) _⟩
  · have ns : (x.state != 0) = true := bne_iff_ne.2 hs
    have hd : doneB x k b.last = true := hok.resolve_left hs
    rw [hd] at DC
    have DC := Lib.hid DC
    clear hs hok hd
    go_enter Try.func61, Try.ntmps61
    go_wp2_with (first | (go_at_call 64; refine NC.out.mono ?_; rintro e w' ⟨rfl, rfl⟩) | (go_at_call 65; refine DC.out.mono ?_; rintro e w1 ⟨rfl, hb⟩; obtain ⟨e1, e2, e3⟩ := HM.out w1 (HI.out.below hb); have hW := HI.out.below hb; have g1 := hW.c1; have g2 := hW.c2; have g0 := hW.e0 HX.out; have f0 := hW.rf (k * 4); have f1 := hW.rf (k * 4 + 1); have f2 := hW.rf (k * 4 + 2); have f3 := hW.rf (k * 4 + 3); have l0 := hW.lf k; have h4 := hW.setAll { badBlk with left := x.left } HX.out rfl; have d2 := h4.c2; have d4 := h4.e4 (i := k) (x := { badBlk with left := x.left }) (List.getElem?_set_self hk); simp only [badBlk, List.length_set] at d2 d4; have HB := Lib.hid (hW.setBad HX.out); have HL := Lib.hid hb; clear hb hW h4))
    go_ret
    exact ⟨rfl, HB.out, (((((Off.of_below (S := fun i => i = q ∨ i = t) HL.out).setCell (p := ⟨q, _, none⟩) (.inl (.inl rfl)) _).setCell (p := ⟨q, _, none⟩) (.inl (.inl rfl)) _).setCell (p := ⟨q, _, none⟩) (.inl (.inl rfl)) _).setCell (p := ⟨q, _, none⟩) (.inl (.inl rfl)) _).setCell (p := ⟨t, k, none⟩) (.inl (.inr rfl)) _⟩
end Go.Proofs.Ytmohijpkhmeibaa
/- The document's book: Leave. -/
namespace Go.Proofs.Ytmohijpkhmeibaa
open Go.RowKit Go.Proofs
set_option linter.unusedVariables false
set_option linter.unusedSimpArgs false
set_option maxRecDepth 100000
theorem rleave_away (p q t cap : Nat) (b : Bks) (n : Int) (w : World) (hI : IsR w p q t cap b) (hn : n < 0 ∨ b.all.length ≤ n) :
    Calls Try.prog 62 #[.pointer (some ⟨p, 0, none⟩), .int .i64 n] w fun e w' => e = .returned (.int .i64 41) ∧ w = w' := by
  have NC := rin_calls p q t cap b n w hI
  rw [in_not hn] at NC
  have NC := Lib.hid NC
  clear hI hn
  go_enter Try.func62, Try.ntmps62
  go_wp2_with fail
  refine NC.out.mono ?_
  rintro e w' ⟨rfl, rfl⟩
  go_wp2
  go_ret
  exact ⟨rfl, rfl⟩
theorem rleave_no (p q t cap : Nat) (b : Bks) (k : Nat) (x : Blk) (w : World) (hI : IsR w p q t cap b) (hx : b.all[k]? = some x) (hlf : x.left = true → x.state = 4) (hno : leaveX x = none) :
    Calls Try.prog 62 #[.pointer (some ⟨p, 0, none⟩), .int .i64 (k : Int)] w fun e w' => e = .returned (.int .i64 110) ∧ Below w.heap.size w w' := by
  have hk : k < b.all.length := (List.getElem?_eq_some_iff.1 hx).1
  have NC := rin_calls p q t cap b k w hI
  rw [in_yes hk] at NC
  have NC := Lib.hid NC
  have hle := hI.le
  have hkl : (k : Int) < (b.all.length : Int) := by omega
  have c1 := hI.c1
  have e0 := hI.e0 hx
  have e1 := hI.e1 hx
  have e2 := hI.e2 hx
  have e3 := hI.e3 hx
  have a2 := fun o : Obj => (hI.alloc o).c2
  have l4 := fun o : Obj => (hI.alloc o).e4 hx
  have HB := Lib.hid (fun o : Obj => (Below.refl w.heap.size w).alloc (Nat.le_refl _) o)
  clear hI hx
  unfold leaveX at hno
  cases h1 : (x.state == 1)
  · cases h4 : (x.state == 4)
    · have m1 : (x.state != 1) = true := by rw [bne, h1]; rfl
      have m4 : (x.state != 4) = true := by rw [bne, h4]; rfl
      clear hno hlf
      go_enter Try.func62, Try.ntmps62
      go_wp2_with (go_at_call 64; refine NC.out.mono ?_; rintro e w' ⟨rfl, rfl⟩)
      go_ret
      exact ⟨rfl, HB.out _⟩
    · have m1 : (x.state != 1) = true := by rw [bne, h1]; rfl
      have m4 : (x.state != 4) = false := by rw [bne, h4]; rfl
      cases hL : x.left
      · have hlv : x.live ≠ 0 := fun e => by
          rw [if_pos e, if_neg (fun h => by rw [h] at h1; cases h1), if_pos ⟨beq_iff_eq.1 h4, hL⟩] at hno
          cases hno
        have ml : (x.live != 0) = true := bne_iff_ne.2 hlv
        rw [hL] at l4
        clear hno hlf hlv
        go_enter Try.func62, Try.ntmps62
        go_wp2_with (go_at_call 64; refine NC.out.mono ?_; rintro e w' ⟨rfl, rfl⟩)
        go_ret
        exact ⟨rfl, HB.out _⟩
      · rw [hL] at l4
        clear hno hlf
        go_enter Try.func62, Try.ntmps62
        go_wp2_with (go_at_call 64; refine NC.out.mono ?_; rintro e w' ⟨rfl, rfl⟩)
        go_ret
        exact ⟨rfl, HB.out _⟩
  · have m1 : (x.state != 1) = false := by rw [bne, h1]; rfl
    have hL : x.left = false := by
      cases e : x.left
      · rfl
      · have := hlf e; have h := beq_iff_eq.1 h1; omega
    have hlv : x.live ≠ 0 := fun e => by
      rw [if_pos e, if_pos (beq_iff_eq.1 h1)] at hno
      cases hno
    have ml : (x.live != 0) = true := bne_iff_ne.2 hlv
    rw [hL] at l4
    clear hno hlf hlv
    go_enter Try.func62, Try.ntmps62
    go_wp2_with (go_at_call 64; refine NC.out.mono ?_; rintro e w' ⟨rfl, rfl⟩)
    go_ret
    exact ⟨rfl, HB.out _⟩
end Go.Proofs.Ytmohijpkhmeibaa
/- The document's book: Leave, where it goes well. -/
namespace Go.Proofs.Ytmohijpkhmeibaa
open Go.RowKit Go.Proofs
set_option linter.unusedVariables false
set_option linter.unusedSimpArgs false
set_option maxRecDepth 100000
theorem rleave_yes1 (p q t cap : Nat) (b : Bks) (k : Nat) (x : Blk) (w : World) (hI : IsR w p q t cap b) (hx : b.all[k]? = some x) (hL : x.left = false) (hv0 : x.live = 0) (h1 : x.state = 1) :
    Calls Try.prog 62 #[.pointer (some ⟨p, 0, none⟩), .int .i64 (k : Int)] w fun e w' => e = .returned (.int .i64 0) ∧ IsR w' p q t cap (leftB b k { x with state := 3 }) ∧ Off (fun i => i = q ∨ i = t ∨ i = p) w w' := by
  have hk : k < b.all.length := (List.getElem?_eq_some_iff.1 hx).1
  have NC := rin_calls p q t cap b k w hI
  rw [in_yes hk] at NC
  have NC := Lib.hid NC
  have hle := hI.le
  have hkl : (k : Int) < (b.all.length : Int) := by omega
  have c1 := hI.c1
  have e0 := hI.e0 hx
  have e1 := hI.e1 hx
  have e2 := hI.e2 hx
  have e3 := hI.e3 hx
  have a1 := fun o : Obj => (hI.alloc o).c1
  have a2 := fun o : Obj => (hI.alloc o).c2
  have a5 := fun o : Obj => (hI.alloc o).c5
  have l4 := fun o : Obj => (hI.alloc o).e4 hx
  rw [hL] at l4
  have l0 := fun o : Obj => (hI.alloc o).e0 hx
  have f0 := fun o : Obj => (hI.alloc o).rf (k * 4)
  have f4 := fun o : Obj => (hI.alloc o).lf k
  have f5 := fun o : Obj => (hI.alloc o).cf 5
  have ml : (x.live != 0) = false := by rw [hv0]; rfl
  have m1 : (x.state != 1) = false := by rw [h1]; rfl
  have m4 : (x.state == 4) = false := by rw [h1]; rfl
  have hs := (hI.alloc (.cells #[.int .i64 x.state, .int .u64 x.head, .bool x.real, .int .i64 x.live] 34)).setRow (y := { x with state := 3 }) hx (j := 0) (v := .int .i64 3) (by decide) rfl rfl
  rw [show k * 4 + 0 = k * 4 from rfl] at hs
  have d5 := hs.c5
  have HS := Lib.hid hs
  have HB := Lib.hid ((Below.refl w.heap.size w).alloc (Nat.le_refl _) (.cells #[.int .i64 x.state, .int .u64 x.head, .bool x.real, .int .i64 x.live] 34))
  clear hI hx hs hv0 h1
  by_cases hv : (k : Int) = b.victim
  · have nv : ((k : Int) == b.victim) = true := beq_iff_eq.2 hv
    have HV := Lib.hid hv
    clear hv
    go_enter Try.func62, Try.ntmps62
    go_wp2_with (go_at_call 64; refine NC.out.mono ?_; rintro e w' ⟨rfl, rfl⟩)
    go_ret
    refine ⟨rfl, ?_, ((Off.of_below (S := fun i => i = q ∨ i = t ∨ i = p) HB.out).setCell (p := ⟨q, k * 4, none⟩) (.inl (.inl rfl)) _).setCell (p := ⟨p, 5, none⟩) (.inl (.inr (.inr rfl))) _⟩
    unfold leftB
    rw [if_pos HV.out]
    exact HS.out.setHead (j := 5) (v := .int .i64 (-1)) (b' := { b with all := b.all.set k { x with state := 3 }, victim := -1 }) rfl rfl
  · have nv : ((k : Int) == b.victim) = false := beq_eq_false_iff_ne.2 hv
    have HV := Lib.hid hv
    clear hv
    go_enter Try.func62, Try.ntmps62
    go_wp2_with (go_at_call 64; refine NC.out.mono ?_; rintro e w' ⟨rfl, rfl⟩)
    go_ret
    refine ⟨rfl, ?_, (Off.of_below (S := fun i => i = q ∨ i = t ∨ i = p) HB.out).setCell (p := ⟨q, k * 4, none⟩) (.inl (.inl rfl)) _⟩
    unfold leftB
    rw [if_neg HV.out]
    exact HS.out
theorem rleave_yes4 (p q t cap : Nat) (b : Bks) (k : Nat) (x : Blk) (w : World) (hI : IsR w p q t cap b) (hx : b.all[k]? = some x) (hL : x.left = false) (hv0 : x.live = 0) (h4 : x.state = 4) :
    Calls Try.prog 62 #[.pointer (some ⟨p, 0, none⟩), .int .i64 (k : Int)] w fun e w' => e = .returned (.int .i64 0) ∧ IsR w' p q t cap (leftB b k { x with left := true }) ∧ Off (fun i => i = q ∨ i = t ∨ i = p) w w' := by
  have hk : k < b.all.length := (List.getElem?_eq_some_iff.1 hx).1
  have NC := rin_calls p q t cap b k w hI
  rw [in_yes hk] at NC
  have NC := Lib.hid NC
  have hle := hI.le
  have hkl : (k : Int) < (b.all.length : Int) := by omega
  have c1 := hI.c1
  have e0 := hI.e0 hx
  have e1 := hI.e1 hx
  have e2 := hI.e2 hx
  have e3 := hI.e3 hx
  have a1 := fun o : Obj => (hI.alloc o).c1
  have a2 := fun o : Obj => (hI.alloc o).c2
  have a5 := fun o : Obj => (hI.alloc o).c5
  have l4 := fun o : Obj => (hI.alloc o).e4 hx
  rw [hL] at l4
  have l0 := fun o : Obj => (hI.alloc o).e0 hx
  have f0 := fun o : Obj => (hI.alloc o).rf (k * 4)
  have f4 := fun o : Obj => (hI.alloc o).lf k
  have f5 := fun o : Obj => (hI.alloc o).cf 5
  have ml : (x.live != 0) = false := by rw [hv0]; rfl
  have m1 : (x.state != 1) = true := by rw [h4]; rfl
  have m2 : (x.state != 4) = false := by rw [h4]; rfl
  have m4 : (x.state == 4) = true := by rw [h4]; rfl
  have hs := (hI.alloc (.cells #[.int .i64 x.state, .int .u64 x.head, .bool x.real, .int .i64 x.live] 34)).setLeft (y := { x with left := true }) hx rfl
  have d5 := hs.c5
  have HS := Lib.hid hs
  have HB := Lib.hid ((Below.refl w.heap.size w).alloc (Nat.le_refl _) (.cells #[.int .i64 x.state, .int .u64 x.head, .bool x.real, .int .i64 x.live] 34))
  clear hI hx hs hv0 h4
  by_cases hv : (k : Int) = b.victim
  · have nv : ((k : Int) == b.victim) = true := beq_iff_eq.2 hv
    have HV := Lib.hid hv
    clear hv
    go_enter Try.func62, Try.ntmps62
    go_wp2_with (go_at_call 64; refine NC.out.mono ?_; rintro e w' ⟨rfl, rfl⟩)
    go_ret
    refine ⟨rfl, ?_, ((Off.of_below (S := fun i => i = q ∨ i = t ∨ i = p) HB.out).setCell (p := ⟨t, k, none⟩) (.inl (.inr (.inl rfl))) _).setCell (p := ⟨p, 5, none⟩) (.inl (.inr (.inr rfl))) _⟩
    unfold leftB
    rw [if_pos HV.out]
    exact HS.out.setHead (j := 5) (v := .int .i64 (-1)) (b' := { b with all := b.all.set k { x with left := true }, victim := -1 }) rfl rfl
  · have nv : ((k : Int) == b.victim) = false := beq_eq_false_iff_ne.2 hv
    have HV := Lib.hid hv
    clear hv
    go_enter Try.func62, Try.ntmps62
    go_wp2_with (go_at_call 64; refine NC.out.mono ?_; rintro e w' ⟨rfl, rfl⟩)
    go_ret
    refine ⟨rfl, ?_, (Off.of_below (S := fun i => i = q ∨ i = t ∨ i = p) HB.out).setCell (p := ⟨t, k, none⟩) (.inl (.inr (.inl rfl))) _⟩
    unfold leftB
    rw [if_neg HV.out]
    exact HS.out
end Go.Proofs.Ytmohijpkhmeibaa
/- The document's book: Good. -/
namespace Go.Proofs.Ytmohijpkhmeibaa
open Go.RowKit Go.Proofs
set_option linter.unusedVariables false
set_option linter.unusedSimpArgs false
set_option maxRecDepth 100000
theorem inL646 : inL [6, 4, 6] = inL [6, 4] := by
  funext s
  unfold inL
  rw [Bool.eq_iff_iff]
  simp
  omega
theorem rgood_calls (p q t cap : Nat) (b : Bks) (w : World) (hI : IsR w p q t cap b) :
    Calls Try.prog 53 #[.pointer (some ⟨p, 0, none⟩)] w fun e w' => e = .returned (.int .i64 (goodN b)) ∧ Below w.heap.size w w' := by
  have c1 := hI.c1
  have hle := hI.le
  have CC := rcount_calls p q t cap b 6 4 6 w.drew (hI.drewN 1)
  rw [inL646] at CC
  have hcl := cnt_le (inL [6, 4]) b.all
  have CC := Lib.hid CC
  have hg : goodN b = (b.all.length : Int) - (cnt (inL [6, 4]) b.all : Nat) := rfl
  have HG := Lib.hid hg
  generalize cnt (inL [6, 4]) b.all = N at *
  have w1 : IntKind.i64.wrap ((b.all.length : Int) - (N : Int)) = (b.all.length : Int) - (N : Int) := by rw [IntKind.wrap_i64]; omega
  have HB := Lib.hid ((Below.refl w.heap.size w).drew)
  clear hI hg
  go_enter Try.func53, Try.ntmps53
  go_wp2_with fail
  go_region_held3 (fun W => W.cell? ⟨p, 1, none⟩ = some (.slice (some ⟨q, 0, none⟩) b.all.length cap))
    (first | go_keep | exact c1)
    ((go_at_call 73; (with_reducible refine CC.out.mono ?_); rintro e w' ⟨rfl, rfl⟩))
  all_goals
    go_wp2
    go_ret
    exact ⟨by rw [HG.out]; rfl, HB.out⟩
end Go.Proofs.Ytmohijpkhmeibaa
