/- The book of blocks in memory: what the cells hold. -/
import Derived.Test.YtmohijpkhmeibaaBase
namespace Go.Proofs.Ytmohijpkhmeibaa
open Go.RowKit Go.Proofs
set_option linter.unusedVariables false
set_option linter.unusedSimpArgs false

structure Blk where
  state : Int
  head : Int
  real : Bool
  live : Int
  left : Bool
  deriving DecidableEq

structure Bks where
  pages : Int
  all : List Blk
  cursor : Int
  last : Int
  victim : Int
  opn : Int

def Blk.cells (x : Blk) : List Value := [.int .i64 x.state, .int .u64 x.head, .bool x.real, .int .i64 x.live, .bool x.left]

def RowsAt (c : Array Value) (l : List Blk) : Prop := ∀ i x, l[i]? = some x → ∀ j v, x.cells[j]? = some v → c[i * 5 + j]? = some v

structure IsB (w : World) (p q cap : Nat) (b : Bks) : Prop where
  head : w.heap[p]? = some (.cells #[.int .i64 b.pages, .slice (some ⟨q, 0, none⟩) b.all.length cap, .int .i64 b.cursor, .int .i64 b.last, .int .i64 b.victim, .int .i64 b.opn] 69 (0, 0))
  rows : ∃ c, w.heap[q]? = some (.cells c 71 (0, 0)) ∧ RowsAt c b.all
  ne : p ≠ q
  pos : 0 < b.all.length
  le : b.all.length ≤ 4096

theorem RowsAt.set {c : Array Value} {l : List Blk} (h : RowsAt c l) {i j : Nat} {x y : Blk} {v : Value} (hx : l[i]? = some x) (hj : j < 5) (hy : y.cells = x.cells.set j v) : RowsAt (c.setIfInBounds (i * 5 + j) v) (l.set i y) := by
  have hi : i < l.length := (List.getElem?_eq_some_iff.1 hx).1
  have hxl : x.cells.length = 5 := rfl
  have hsz : i * 5 + j < c.size := by
    have := h i x hx j (x.cells[j]'(by omega)) (List.getElem?_eq_getElem (by omega))
    exact (Array.getElem?_eq_some_iff.1 this).1
  intro i' x' hx' j' v' hv'
  have hj' : j' < 5 := by
    have := (List.getElem?_eq_some_iff.1 hv').1
    exact this
  rw [Array.getElem?_setIfInBounds]
  by_cases e : i = i'
  · subst e
    rw [List.getElem?_set_self hi] at hx'
    cases hx'
    rw [hy] at hv'
    by_cases ej : j = j'
    · subst ej
      rw [if_pos rfl, if_pos hsz]
      rw [List.getElem?_set_self (by omega)] at hv'
      exact hv'
    · rw [if_neg (by omega)]
      rw [List.getElem?_set_ne ej] at hv'
      exact h i x hx j' v' hv'
  · rw [if_neg (by omega)]
    rw [List.getElem?_set_ne e] at hx'
    exact h i' x' hx' j' v' hv'

section
variable {w : World} {p q cap : Nat} {b : Bks}
theorem IsB.c0 (h : IsB w p q cap b) : w.cell? ⟨p, 0, none⟩ = some (.int .i64 b.pages) := cell_of h.head rfl
theorem IsB.c1 (h : IsB w p q cap b) : w.cell? ⟨p, 1, none⟩ = some (.slice (some ⟨q, 0, none⟩) b.all.length cap) := cell_of h.head rfl
theorem IsB.c2 (h : IsB w p q cap b) : w.cell? ⟨p, 2, none⟩ = some (.int .i64 b.cursor) := cell_of h.head rfl
theorem IsB.c3 (h : IsB w p q cap b) : w.cell? ⟨p, 3, none⟩ = some (.int .i64 b.last) := cell_of h.head rfl
theorem IsB.c4 (h : IsB w p q cap b) : w.cell? ⟨p, 4, none⟩ = some (.int .i64 b.victim) := cell_of h.head rfl
theorem IsB.c5 (h : IsB w p q cap b) : w.cell? ⟨p, 5, none⟩ = some (.int .i64 b.opn) := cell_of h.head rfl
theorem IsB.cf (h : IsB w p q cap b) (o : Nat) : w.frozen? ⟨p, o, none⟩ = false := free_of h.head
theorem IsB.rf (h : IsB w p q cap b) (o : Nat) : w.frozen? ⟨q, o, none⟩ = false := by obtain ⟨c, hc, _⟩ := h.rows; exact free_of hc
theorem IsB.cell (h : IsB w p q cap b) {i : Nat} {x : Blk} (hx : b.all[i]? = some x) {j : Nat} {v : Value} (hv : x.cells[j]? = some v) : w.cell? ⟨q, i * 5 + j, none⟩ = some v := by
  obtain ⟨c, hc, hr⟩ := h.rows
  exact cell_of hc (hr i x hx j v hv)
theorem IsB.e0 (h : IsB w p q cap b) {i : Nat} {x : Blk} (hx : b.all[i]? = some x) : w.cell? ⟨q, i * 5, none⟩ = some (.int .i64 x.state) := h.cell hx (j := 0) rfl
theorem IsB.e1 (h : IsB w p q cap b) {i : Nat} {x : Blk} (hx : b.all[i]? = some x) : w.cell? ⟨q, i * 5 + 1, none⟩ = some (.int .u64 x.head) := h.cell hx (j := 1) rfl
theorem IsB.e2 (h : IsB w p q cap b) {i : Nat} {x : Blk} (hx : b.all[i]? = some x) : w.cell? ⟨q, i * 5 + 2, none⟩ = some (.bool x.real) := h.cell hx (j := 2) rfl
theorem IsB.e3 (h : IsB w p q cap b) {i : Nat} {x : Blk} (hx : b.all[i]? = some x) : w.cell? ⟨q, i * 5 + 3, none⟩ = some (.int .i64 x.live) := h.cell hx (j := 3) rfl
theorem IsB.e4 (h : IsB w p q cap b) {i : Nat} {x : Blk} (hx : b.all[i]? = some x) : w.cell? ⟨q, i * 5 + 4, none⟩ = some (.bool x.left) := h.cell hx (j := 4) rfl
theorem IsB.drewN (h : IsB w p q cap b) (n : Nat) : IsB (w.drewN n) p q cap b := ⟨h.head, h.rows, h.ne, h.pos, h.le⟩
theorem IsB.plt (h : IsB w p q cap b) : p < w.heap.size := lt_of_heap h.head
theorem IsB.qlt (h : IsB w p q cap b) : q < w.heap.size := by obtain ⟨c, hc, _⟩ := h.rows; exact lt_of_heap hc
theorem IsB.off {S : Nat → Prop} {w' : World} (h : IsB w p q cap b) (o : Off S w w') (hp : ¬ S p) (hq : ¬ S q) : IsB w' p q cap b := by
  obtain ⟨c, hc, hr⟩ := h.rows
  exact ⟨(o.block p h.plt hp).trans h.head, ⟨c, (o.block q h.qlt hq).trans hc, hr⟩, h.ne, h.pos, h.le⟩
theorem IsB.below {w' : World} (h : IsB w p q cap b) (o : Below w.heap.size w w') : IsB w' p q cap b := h.off (Off.of_below (S := fun _ => False) o) (fun h => h) (fun h => h)
theorem IsB.alloc (h : IsB w p q cap b) (o : Obj) : IsB (w.alloc o) p q cap b := h.below ((Below.refl _ _).alloc (Nat.le_refl _) o)
/-- A store into a field. -/
theorem IsB.setHead (h : IsB w p q cap b) {j : Nat} {v : Value} {b' : Bks} (ha : b'.all = b.all)
    (hv : (#[.int .i64 b.pages, .slice (some ⟨q, 0, none⟩) b.all.length cap, .int .i64 b.cursor, .int .i64 b.last, .int .i64 b.victim, .int .i64 b.opn] : Array Value).setIfInBounds j v = #[.int .i64 b'.pages, .slice (some ⟨q, 0, none⟩) b.all.length cap, .int .i64 b'.cursor, .int .i64 b'.last, .int .i64 b'.victim, .int .i64 b'.opn]) : IsB (w.setCell ⟨p, j, none⟩ v) p q cap b' := by
  obtain ⟨c, hc, hr⟩ := h.rows
  refine ⟨?_, ⟨c, ?_, ha ▸ hr⟩, h.ne, ha ▸ h.pos, ha ▸ h.le⟩
  · rw [heap_set_same h.head, hv, ha]
  · rw [heap_set_ne _ (Ne.symm h.ne)]; exact hc
/-- A store into a block's field. -/
theorem IsB.setRow (h : IsB w p q cap b) {i j : Nat} {x y : Blk} {v : Value} (hx : b.all[i]? = some x) (hj : j < 5) (hy : y.cells = x.cells.set j v) : IsB (w.setCell ⟨q, i * 5 + j, none⟩ v) p q cap { b with all := b.all.set i y } := by
  obtain ⟨c, hc, hr⟩ := h.rows
  refine ⟨?_, ⟨_, heap_set_same hc v, hr.set hx hj hy⟩, h.ne, by simpa using h.pos, by simpa using h.le⟩
  rw [heap_set_ne _ h.ne]
  simpa using h.head
end
end Go.Proofs.Ytmohijpkhmeibaa
