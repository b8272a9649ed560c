/- Worlds that are alike but for a set of blocks, and small laws on blocks of cells. -/
import Derived.Test.YtmohijpkhmeibaaProg
import Derived.WalkKit
import Derived.WalkSpells
import Derived.WalkLawsBesides
import Derived.BigQuiet
import Derived.Deep.QuietTactic
import Derived.Lib.Hide
import Derived.Shelf.Small.Bits
import Derived.Shelf.Strconv.Itoa0
import Derived.Shelf.Slices.Turned
import Derived.Lib.QuietBelow
import Derived.Deep.RegionWith
import Derived.IntWalk
namespace Go.Proofs.Ytmohijpkhmeibaa
open Go.RowKit Go.Proofs
set_option linter.unusedVariables false
set_option linter.unusedSimpArgs false

/-- w' is as w was, but for the blocks in S and for new ones. -/
structure Off (S : Nat → Prop) (w w' : World) : Prop where
  os : w'.os = w.os
  tape : w'.tape = w.tape
  output : w'.output = w.output
  size : w.heap.size ≤ w'.heap.size
  block : ∀ k, k < w.heap.size → ¬ S k → w'.heap[k]? = w.heap[k]?

theorem Off.refl (S : Nat → Prop) (w : World) : Off S w w := ⟨rfl, rfl, rfl, Nat.le_refl _, fun _ _ _ => rfl⟩
theorem Off.trans {S : Nat → Prop} {a b c : World} (h : Off S a b) (k : Off S b c) : Off S a c :=
  ⟨k.os.trans h.os, k.tape.trans h.tape, k.output.trans h.output, Nat.le_trans h.size k.size, fun i hi hs => (k.block i (Nat.lt_of_lt_of_le hi h.size) hs).trans (h.block i hi hs)⟩
theorem Off.mono {S T : Nat → Prop} {a b : World} (h : Off S a b) (hs : ∀ k, k < a.heap.size → S k → T k) : Off T a b :=
  ⟨h.os, h.tape, h.output, h.size, fun i hi ht => h.block i hi (fun s => ht (hs i hi s))⟩
theorem Off.of_below {S : Nat → Prop} {a b : World} (h : Below a.heap.size a b) : Off S a b :=
  ⟨h.os, h.tape, h.output, h.size, fun i hi _ => h.block i hi⟩
/-- One step more that keeps S's blocks or is beyond them. -/
theorem Off.trans' {S T : Nat → Prop} {a b c : World} (h : Off S a b) (k : Off T b c) (hs : ∀ i, i < a.heap.size → T i → S i) : Off S a c :=
  ⟨k.os.trans h.os, k.tape.trans h.tape, k.output.trans h.output, Nat.le_trans h.size k.size, fun i hi hn => (k.block i (Nat.lt_of_lt_of_le hi h.size) (fun t => hn (hs i hi t))).trans (h.block i hi hn)⟩
theorem Off.below {S : Nat → Prop} {a b : World} {B : Nat} (h : Off S a b) (hB : B ≤ a.heap.size) (hs : ∀ i, S i → B ≤ i) : Below B a b :=
  ⟨h.os, h.tape, h.output, h.size, fun i hi => h.block i (Nat.lt_of_lt_of_le hi hB) (fun s => Nat.not_lt.2 (hs i s) hi)⟩
theorem Off.drewN {S : Nat → Prop} {a w : World} (h : Off S a w) (n : Nat) : Off S a (w.drewN n) := ⟨h.os, h.tape, h.output, h.size, h.block⟩
theorem Off.drew {S : Nat → Prop} {a w : World} (h : Off S a w) : Off S a w.drew := ⟨h.os, h.tape, h.output, h.size, h.block⟩
theorem Off.alloc {S : Nat → Prop} {a w : World} (h : Off S a w) (o : Obj) : Off S a (w.alloc o) :=
  h.trans ⟨rfl, rfl, rfl, by simp, fun k hk _ => Below.heap_alloc _ _ _ hk⟩
theorem Off.setCell {S : Nat → Prop} {a w : World} (h : Off S a w) {p : Addr} (hp : S p.block ∨ a.heap.size ≤ p.block) (u : Value) : Off S a (w.setCell p u) :=
  ⟨h.os, h.tape, h.output, by simpa [World.setCell] using h.size, fun k hk hs => (Below.heap_setCell _ _ _ _ (fun e => by subst e; rcases hp with hp | hp; exact hs hp; omega)).trans (h.block k hk hs)⟩
theorem Off.grown {S : Nat → Prop} {a w w' : World} {row : Option Nat} (h : Off S a w) (hg : w.grownBy w' row) (hr : ∀ k, row = some k → S k ∨ a.heap.size ≤ k) : Off S a w' :=
  ⟨hg.os.trans h.os, hg.tape.trans h.tape, hg.output.trans h.output, Nat.le_trans h.size hg.size, fun k hk hs => (hg.block k (Nat.lt_of_lt_of_le hk h.size) (fun e => by rcases hr k e.symm with h1 | h1; exact hs h1; omega)).trans (h.block k hk hs)⟩

theorem heap_set_same {w : World} {b o : Nat} {c : Array Value} {e : TypeId} {f : Nat × Nat} (h : w.heap[b]? = some (.cells c e f)) (u : Value) :
    (w.setCell ⟨b, o, none⟩ u).heap[b]? = some (.cells (c.setIfInBounds o u) e f) := by
  have hlt : b < w.heap.size := (Array.getElem?_eq_some_iff.1 h).1
  simp only [World.setCell, Array.getElem?_modify, h]
  simp
theorem heap_set_ne {w : World} {b b' o : Nat} (u : Value) (hn : b' ≠ b) : (w.setCell ⟨b, o, none⟩ u).heap[b']? = w.heap[b']? :=
  Below.heap_setCell _ _ _ _ hn
theorem heap_alloc_old {w : World} {k : Nat} {x : Obj} (h : w.heap[k]? = some x) (o : Obj) : (w.alloc o).heap[k]? = some x := by
  rw [Below.heap_alloc _ _ _ (Array.getElem?_eq_some_iff.1 h).1]; exact h
theorem heap_alloc_new (w : World) (o : Obj) : (w.alloc o).heap[w.heap.size]? = some o := by
  show (w.heap.push o)[w.heap.size]? = _
  simp
theorem cell_of {w : World} {b o : Nat} {c : Array Value} {e : TypeId} {f : Nat × Nat} {v : Value} (h : w.heap[b]? = some (.cells c e f)) (hv : c[o]? = some v) : w.cell? ⟨b, o, none⟩ = some v := by
  simp [World.cell?, h, hv]
theorem free_of {w : World} {b o : Nat} {c : Array Value} {e : TypeId} (h : w.heap[b]? = some (.cells c e (0, 0))) : w.frozen? ⟨b, o, none⟩ = false := by
  simp [World.frozen?, h]
theorem lt_of_heap {w : World} {b : Nat} {x : Obj} (h : w.heap[b]? = some x) : b < w.heap.size := (Array.getElem?_eq_some_iff.1 h).1
end Go.Proofs.Ytmohijpkhmeibaa
/- The book of blocks in memory: what the cells hold. -/
namespace Go.Proofs.Ytmohijpkhmeibaa
open Go.RowKit Go.Proofs
set_option linter.unusedVariables false
set_option linter.unusedSimpArgs false

structure Blk where
  state : Int
  head : Int
  real : Bool
  live : Int
  left : Bool
  deriving DecidableEq

structure Bks where
  pages : Int
  all : List Blk
  cursor : Int
  last : Int
  victim : Int
  opn : Int

def Blk.cells (x : Blk) : List Value := [.int .i64 x.state, .int .u64 x.head, .bool x.real, .int .i64 x.live, .bool x.left]

def RowsAt (c : Array Value) (l : List Blk) : Prop := ∀ i x, l[i]? = some x → ∀ j v, x.cells[j]? = some v → c[i * 5 + j]? = some v

structure IsB (w : World) (p q cap : Nat) (b : Bks) : Prop where
  head : w.heap[p]? = some (.cells #[.int .i64 b.pages, .slice (some ⟨q, 0, none⟩) b.all.length cap, .int .i64 b.cursor, .int .i64 b.last, .int .i64 b.victim, .int .i64 b.opn] 69 (0, 0))
  rows : ∃ c, w.heap[q]? = some (.cells c 71 (0, 0)) ∧ RowsAt c b.all
  ne : p ≠ q
  pos : 0 < b.all.length
  le : b.all.length ≤ 4096

theorem RowsAt.set {c : Array Value} {l : List Blk} (h : RowsAt c l) {i j : Nat} {x y : Blk} {v : Value} (hx : l[i]? = some x) (hj : j < 5) (hy : y.cells = x.cells.set j v) : RowsAt (c.setIfInBounds (i * 5 + j) v) (l.set i y) := by
  have hi : i < l.length := (List.getElem?_eq_some_iff.1 hx).1
  have hxl : x.cells.length = 5 := rfl
  have hsz : i * 5 + j < c.size := by
    have := h i x hx j (x.cells[j]'(by omega)) (List.getElem?_eq_getElem (by omega))
    exact (Array.getElem?_eq_some_iff.1 this).1
  intro i' x' hx' j' v' hv'
  have hj' : j' < 5 := by
    have := (List.getElem?_eq_some_iff.1 hv').1
    exact this
  rw [Array.getElem?_setIfInBounds]
  by_cases e : i = i'
  · subst e
    rw [List.getElem?_set_self hi] at hx'
    cases hx'
    rw [hy] at hv'
    by_cases ej : j = j'
    · subst ej
      rw [if_pos rfl, if_pos hsz]
      rw [List.getElem?_set_self (by omega)] at hv'
      exact hv'
    · rw [if_neg (by omega)]
      rw [List.getElem?_set_ne ej] at hv'
      exact h i x hx j' v' hv'
  · rw [if_neg (by omega)]
    rw [List.getElem?_set_ne e] at hx'
    exact h i' x' hx' j' v' hv'

section
variable {w : World} {p q cap : Nat} {b : Bks}
theorem IsB.c0 (h : IsB w p q cap b) : w.cell? ⟨p, 0, none⟩ = some (.int .i64 b.pages) := cell_of h.head rfl
theorem IsB.c1 (h : IsB w p q cap b) : w.cell? ⟨p, 1, none⟩ = some (.slice (some ⟨q, 0, none⟩) b.all.length cap) := cell_of h.head rfl
theorem IsB.c2 (h : IsB w p q cap b) : w.cell? ⟨p, 2, none⟩ = some (.int .i64 b.cursor) := cell_of h.head rfl
theorem IsB.c3 (h : IsB w p q cap b) : w.cell? ⟨p, 3, none⟩ = some (.int .i64 b.last) := cell_of h.head rfl
theorem IsB.c4 (h : IsB w p q cap b) : w.cell? ⟨p, 4, none⟩ = some (.int .i64 b.victim) := cell_of h.head rfl
theorem IsB.c5 (h : IsB w p q cap b) : w.cell? ⟨p, 5, none⟩ = some (.int .i64 b.opn) := cell_of h.head rfl
theorem IsB.cf (h : IsB w p q cap b) (o : Nat) : w.frozen? ⟨p, o, none⟩ = false := free_of h.head
theorem IsB.rf (h : IsB w p q cap b) (o : Nat) : w.frozen? ⟨q, o, none⟩ = false := by obtain ⟨c, hc, _⟩ := h.rows; exact free_of hc
theorem IsB.cell (h : IsB w p q cap b) {i : Nat} {x : Blk} (hx : b.all[i]? = some x) {j : Nat} {v : Value} (hv : x.cells[j]? = some v) : w.cell? ⟨q, i * 5 + j, none⟩ = some v := by
  obtain ⟨c, hc, hr⟩ := h.rows
  exact cell_of hc (hr i x hx j v hv)
theorem IsB.e0 (h : IsB w p q cap b) {i : Nat} {x : Blk} (hx : b.all[i]? = some x) : w.cell? ⟨q, i * 5, none⟩ = some (.int .i64 x.state) := h.cell hx (j := 0) rfl
theorem IsB.e1 (h : IsB w p q cap b) {i : Nat} {x : Blk} (hx : b.all[i]? = some x) : w.cell? ⟨q, i * 5 + 1, none⟩ = some (.int .u64 x.head) := h.cell hx (j := 1) rfl
theorem IsB.e2 (h : IsB w p q cap b) {i : Nat} {x : Blk} (hx : b.all[i]? = some x) : w.cell? ⟨q, i * 5 + 2, none⟩ = some (.bool x.real) := h.cell hx (j := 2) rfl
theorem IsB.e3 (h : IsB w p q cap b) {i : Nat} {x : Blk} (hx : b.all[i]? = some x) : w.cell? ⟨q, i * 5 + 3, none⟩ = some (.int .i64 x.live) := h.cell hx (j := 3) rfl
theorem IsB.e4 (h : IsB w p q cap b) {i : Nat} {x : Blk} (hx : b.all[i]? = some x) : w.cell? ⟨q, i * 5 + 4, none⟩ = some (.bool x.left) := h.cell hx (j := 4) rfl
theorem IsB.drewN (h : IsB w p q cap b) (n : Nat) : IsB (w.drewN n) p q cap b := ⟨h.head, h.rows, h.ne, h.pos, h.le⟩
theorem IsB.plt (h : IsB w p q cap b) : p < w.heap.size := lt_of_heap h.head
theorem IsB.qlt (h : IsB w p q cap b) : q < w.heap.size := by obtain ⟨c, hc, _⟩ := h.rows; exact lt_of_heap hc
theorem IsB.off {S : Nat → Prop} {w' : World} (h : IsB w p q cap b) (o : Off S w w') (hp : ¬ S p) (hq : ¬ S q) : IsB w' p q cap b := by
  obtain ⟨c, hc, hr⟩ := h.rows
  exact ⟨(o.block p h.plt hp).trans h.head, ⟨c, (o.block q h.qlt hq).trans hc, hr⟩, h.ne, h.pos, h.le⟩
theorem IsB.below {w' : World} (h : IsB w p q cap b) (o : Below w.heap.size w w') : IsB w' p q cap b := h.off (Off.of_below (S := fun _ => False) o) (fun h => h) (fun h => h)
theorem IsB.alloc (h : IsB w p q cap b) (o : Obj) : IsB (w.alloc o) p q cap b := h.below ((Below.refl _ _).alloc (Nat.le_refl _) o)
/-- A store into a field. -/
theorem IsB.setHead (h : IsB w p q cap b) {j : Nat} {v : Value} {b' : Bks} (ha : b'.all = b.all)
    (hv : (#[.int .i64 b.pages, .slice (some ⟨q, 0, none⟩) b.all.length cap, .int .i64 b.cursor, .int .i64 b.last, .int .i64 b.victim, .int .i64 b.opn] : Array Value).setIfInBounds j v = #[.int .i64 b'.pages, .slice (some ⟨q, 0, none⟩) b.all.length cap, .int .i64 b'.cursor, .int .i64 b'.last, .int .i64 b'.victim, .int .i64 b'.opn]) : IsB (w.setCell ⟨p, j, none⟩ v) p q cap b' := by
  obtain ⟨c, hc, hr⟩ := h.rows
  refine ⟨?_, ⟨c, ?_, ha ▸ hr⟩, h.ne, ha ▸ h.pos, ha ▸ h.le⟩
  · rw [heap_set_same h.head, hv, ha]
  · rw [heap_set_ne _ (Ne.symm h.ne)]; exact hc
/-- A store into a block's field. -/
theorem IsB.setRow (h : IsB w p q cap b) {i j : Nat} {x y : Blk} {v : Value} (hx : b.all[i]? = some x) (hj : j < 5) (hy : y.cells = x.cells.set j v) : IsB (w.setCell ⟨q, i * 5 + j, none⟩ v) p q cap { b with all := b.all.set i y } := by
  obtain ⟨c, hc, hr⟩ := h.rows
  refine ⟨?_, ⟨_, heap_set_same hc v, hr.set hx hj hy⟩, h.ne, by simpa using h.pos, by simpa using h.le⟩
  rw [heap_set_ne _ h.ne]
  simpa using h.head
end
end Go.Proofs.Ytmohijpkhmeibaa
/- Pick, at, done, Bad, Cursor of the program's book. -/
namespace Go.Proofs.Ytmohijpkhmeibaa
open Go.RowKit Go.Proofs
set_option linter.unusedVariables false
set_option linter.unusedSimpArgs false

def pickAt (b : Bks) (k : Nat) : Nat := ((b.cursor + 1 + k) % b.all.length).toNat

theorem pickAt_lt {b : Bks} (h : 0 < b.all.length) (k : Nat) : pickAt b k < b.all.length := by
  unfold pickAt
  have := Int.emod_lt_of_pos (b.cursor + 1 + k) (show (0 : Int) < b.all.length by omega)
  have := Int.emod_nonneg (b.cursor + 1 + k) (show (b.all.length : Int) ≠ 0 by omega)
  omega
/-- k-th above the cursor is not free. -/
def Taken (b : Bks) (k : Nat) : Prop := ∃ x, b.all[pickAt b k]? = some x ∧ x.state ≠ 0
def PickNo (b : Bks) (n : Nat) : Prop := ∀ k, k < n → Taken b k

def PickEnd (p q cap : Nat) (b : Bks) (k : Nat) (w : World) (e : Ending) (w' : World) : Prop :=
  e = .returned (.tuple #[.int .i64 (pickAt b k), .bool true]) ∧ IsB w' p q cap { b with cursor := pickAt b k } ∧ Off (· = p) w w'

set_option maxHeartbeats 1000000 in
theorem pick_yes (p q cap : Nat) (b : Bks) (k : Nat) (w : World) (hI : IsB w p q cap b) (hc1 : -1 ≤ b.cursor) (hc2 : b.cursor < b.all.length) (hk : k < b.all.length) (hno : PickNo b k)
    (x : Blk) (hx : b.all[pickAt b k]? = some x) (hs : x.state = 0) :
    Calls Try.prog 10 #[.pointer (some ⟨p, 0, none⟩)] w (PickEnd p q cap b k w) := by
  have c1 := hI.c1
  have c2 := hI.c2
  have hf := hI.cf 2
  have hpos := hI.pos
  have hle := hI.le
  have HI := Lib.hid hI
  have HN := Lib.hid hno
  clear hI hno
  go_enter Try.func10, Try.ntmps10
  go_wp2
  go_loopw [11] (fun i wr => ∃ j m : Nat, j ≤ k ∧ i = .int .i64 j ∧ wr = w.drewN m) (fun i _ => b.all.length - (intOf i).toNat)
  case atStart => exact ⟨0, 0, by omega, rfl, rfl⟩
  case round =>
    obtain ⟨j, m, hj, rfl, rfl⟩ := hrel
    have hlt : j < b.all.length := by omega
    have b1 := Int.emod_lt_of_pos (b.cursor + 1 + j) (show (0 : Int) < b.all.length by omega)
    have b0 := Int.emod_nonneg (b.cursor + 1 + j) (show (b.all.length : Int) ≠ 0 by omega)
    by_cases hjk : j = k
    · subst hjk
      have hcell : w.cell? ⟨q, ((b.cursor + 1 + j) % b.all.length).toNat * 5, none⟩ = some (.int .i64 0) := by rw [← hs]; exact HI.out.e0 hx
      have hbk : Hid ((b.cursor + 1 + j) % b.all.length = (pickAt b j : Nat)) := Lib.hid (by unfold pickAt; omega)
      clear hx hs
      go_wp2
      go_quiet (fail)
      go_wp2
      refine bodyPost_ret (v := .tuple #[.int .i64 ((b.cursor + 1 + j) % b.all.length), .bool true]) (by simp [results, Try.results10, go_sem]) rfl ?_
      rw [hbk.out]
      exact ⟨rfl, (HI.out.drewN _).setHead rfl rfl, ((Off.refl (· = p) w).drewN _).setCell (p := ⟨p, 2, none⟩) (.inl rfl) _⟩
    · obtain ⟨y, hy, hys⟩ := HN.out j (by omega)
      have hcell : w.cell? ⟨q, ((b.cursor + 1 + j) % b.all.length).toNat * 5, none⟩ = some (.int .i64 y.state) := HI.out.e0 hy
      have hz : (y.state == 0) = false := beq_eq_false_iff_ne.2 hys
      clear hy hys hx hs
      go_wp2
      go_quiet (fail)
      go_wp2
      go_roundw
      case rel => exact ⟨j + 1, _, by omega, by go_num, rfl⟩
      case measure => simp [intOf]; omega

set_option maxHeartbeats 1000000 in
theorem pick_no (p q cap : Nat) (b : Bks) (w : World) (hI : IsB w p q cap b) (hc1 : -1 ≤ b.cursor) (hc2 : b.cursor < b.all.length) (hno : PickNo b b.all.length) :
    Calls Try.prog 10 #[.pointer (some ⟨p, 0, none⟩)] w fun e w' => e = .returned (.tuple #[.int .i64 0, .bool false]) ∧ ∃ m, w' = w.drewN m := by
  have c1 := hI.c1
  have c2 := hI.c2
  have hpos := hI.pos
  have hle := hI.le
  have HI := Lib.hid hI
  have HN := Lib.hid hno
  clear hI hno
  go_enter Try.func10, Try.ntmps10
  go_wp2
  go_loopw [11] (fun i wr => ∃ j m : Nat, j ≤ b.all.length ∧ i = .int .i64 j ∧ wr = w.drewN m) (fun i _ => b.all.length - (intOf i).toNat)
  case atStart => exact ⟨0, 0, by omega, rfl, rfl⟩
  case round =>
    obtain ⟨j, m, hj, rfl, rfl⟩ := hrel
    by_cases hlt : j < b.all.length
    · have b1 := Int.emod_lt_of_pos (b.cursor + 1 + j) (show (0 : Int) < b.all.length by omega)
      have b0 := Int.emod_nonneg (b.cursor + 1 + j) (show (b.all.length : Int) ≠ 0 by omega)
      obtain ⟨y, hy, hys⟩ := HN.out j (by omega)
      have hcell : w.cell? ⟨q, ((b.cursor + 1 + j) % b.all.length).toNat * 5, none⟩ = some (.int .i64 y.state) := HI.out.e0 hy
      have hz : (y.state == 0) = false := beq_eq_false_iff_ne.2 hys
      clear hy hys
      go_wp2
      go_quiet (fail)
      go_wp2
      go_roundw
      case rel => exact ⟨j + 1, _, by omega, by go_num, rfl⟩
      case measure => simp [intOf]; omega
    · obtain rfl : j = b.all.length := by omega
      go_wp2
      go_ret2
      exact ⟨rfl, _, rfl⟩

theorem cursor_calls (p q cap : Nat) (b : Bks) (w : World) (hI : IsB w p q cap b) :
    Calls Try.prog 9 #[.pointer (some ⟨p, 0, none⟩)] w fun e w' => e = .returned (.int .i64 b.cursor) ∧ w = w' := by
  have c2 := hI.c2
  clear hI
  go_enter Try.func9, Try.ntmps9
  go_wp2
  go_ret
  exact ⟨rfl, rfl⟩

theorem at_yes (p q cap : Nat) (b : Bks) (k : Int) (w : World) (hI : IsB w p q cap b) (h0 : 0 ≤ k) (hk : k < b.all.length) :
    Calls Try.prog 36 #[.pointer (some ⟨p, 0, none⟩), .int .i64 k] w fun e w' => e = .returned (.pointer (some ⟨q, k.toNat * 5, none⟩)) ∧ w = w' := by
  have c1 := hI.c1
  have hle := hI.le
  clear hI
  go_enter Try.func36, Try.ntmps36
  go_wp2
  go_ret
  exact ⟨rfl, rfl⟩
theorem at_no (p q cap : Nat) (b : Bks) (k : Int) (w : World) (hI : IsB w p q cap b) (h : k < 0 ∨ b.all.length ≤ k) :
    Calls Try.prog 36 #[.pointer (some ⟨p, 0, none⟩), .int .i64 k] w fun e w' => e = .returned (.pointer none) ∧ w = w' := by
  have c1 := hI.c1
  have hle := hI.le
  clear hI
  by_cases h0 : k < 0
  · clear h
    go_enter Try.func36, Try.ntmps36
    go_wp2
    go_ret
    exact ⟨rfl, rfl⟩
  · have h1 : (b.all.length : Int) ≤ k := by omega
    have h2 : ¬ k < 0 := h0
    clear h h0
    go_enter Try.func36, Try.ntmps36
    go_wp2
    go_ret
    exact ⟨rfl, rfl⟩
end Go.Proofs.Ytmohijpkhmeibaa
/-
  DERIVED: THE SHELF's CONTRACTS AT THIS DUMP, IN PLAIN WORDS (tools/lay-plain.mjs out of 'YtmohijpkhmeibaaShelf.lean', which tools/lay-shelf.mjs wrote): THE SAME DECLARATIONS UNDER THE SAME NAMES: 'import', 'namespace', 'open', 'def', 'theorem' AND NOTHING ELSE: no command of the shelf's: FOR A HAND-IN. Each laying: the table of numbers ('.._ren') and one theorem, a field a fact of the dump's own or the kernel's comparison; each contract: ONE APPLICATION.
-/
namespace Go.Proofs
open Go.Shelf
def Try.lays128_ren : Go.Shelf.Ren := ⟨fun | 128 => 87 | n => n, fun | 51 => 106 | 3 => 3 | 4 => 4 | 46 => 96 | 5 => 5 | 9 => 9 | n => n, fun | n => n⟩
theorem Try.lays128 : Go.Proofs.Lays.n128 Try.prog Try.lays128_ren := {
  mixed := by kernel_rfl
  f128 := Try.func87.trans (congrArg some (by kernel_rfl))
  t3 := Try.underlying3
  a3 := Try.isAgg3
  z3 := Try.sizeOf3
  v3 := Try.zeroValue3
  t4 := Try.underlying4
  a4 := Try.isAgg4
  z4 := Try.sizeOf4
  v4 := Try.zeroValue4
  t5 := Try.underlying5
  a5 := Try.isAgg5
  z5 := Try.sizeOf5
  v5 := Try.zeroValue5
  t9 := Try.underlying9
  a9 := Try.isAgg9
  z9 := Try.sizeOf9
  v9 := Try.zeroValue9
  t46 := Try.underlying96
  a46 := Try.isAgg96
  z46 := Try.sizeOf96
  v46 := Try.zeroValue96
  t51 := Try.underlying106
  a51 := Try.isAgg106
  z51 := Try.sizeOf106
  v51 := Try.zeroValue106 }
/-- bits.Len32: "Len32 returns the minimum number of bits required to represent x; the result is 0 for x == 0.": IT RETURNS 'Lib.bitLen x'; the world is as it was. ('h0', 'h1': x is a uint32.) (LAID: no walk: one application.) -/
theorem Try.bits_Len32 (x : Int) (w : World) (h0 : 0 ≤ x) (h1 : x ≤ 4294967295) :
    Calls Try.prog 87 #[.int .u32 x] w fun e w' => e = .returned (.int .i64 (Lib.bitLen x.toNat)) ∧ w' = w := Any.bits_Len32 Try.lays128 x w h0 h1
def Try.lays125_ren : Go.Shelf.Ren := ⟨fun | 125 => 77 | 128 => 87 | 129 => 88 | n => n, fun | 46 => 96 | 3 => 3 | 51 => 106 | 53 => 32 | 4 => 4 | 5 => 5 | 9 => 9 | n => n, fun | n => n⟩
theorem Try.lays125 : Go.Proofs.Lays.n125 Try.prog Try.lays125_ren := {
  mixed := by kernel_rfl
  f125 := Try.func77.trans (congrArg some (by kernel_rfl))
  f128 := Try.func87.trans (congrArg some (by kernel_rfl))
  f129 := Try.func88.trans (congrArg some (by kernel_rfl))
  t3 := Try.underlying3
  a3 := Try.isAgg3
  z3 := Try.sizeOf3
  v3 := Try.zeroValue3
  t4 := Try.underlying4
  a4 := Try.isAgg4
  z4 := Try.sizeOf4
  v4 := Try.zeroValue4
  t5 := Try.underlying5
  a5 := Try.isAgg5
  z5 := Try.sizeOf5
  v5 := Try.zeroValue5
  t9 := Try.underlying9
  a9 := Try.isAgg9
  z9 := Try.sizeOf9
  v9 := Try.zeroValue9
  t46 := Try.underlying96
  a46 := Try.isAgg96
  z46 := Try.sizeOf96
  v46 := Try.zeroValue96
  t51 := Try.underlying106
  a51 := Try.isAgg106
  z51 := Try.sizeOf106
  v51 := Try.zeroValue106
  t53 := Try.underlying32
  a53 := Try.isAgg32
  z53 := Try.sizeOf32
  v53 := Try.zeroValue32 }
/-- bits.Len: "Len returns the minimum number of bits required to represent x; the result is 0 for x == 0.": IT RETURNS 'Lib.bitLen x'; the world is as it was. (A uint has 64 bits in the model.) ITS CALLEE bits.Len64 IS MET BY ITS OWN CONTRACT OFF THE SHELF (lay that first). (LAID: no walk: one application.) -/
theorem Try.bits_Len (x : Int) (w : World) (h0 : 0 ≤ x) (h1 : x ≤ 18446744073709551615) :
    Calls Try.prog 77 #[.int .u64 x] w fun e w' => e = .returned (.int .i64 (Lib.bitLen x.toNat)) ∧ w' = w := Any.bits_Len Try.lays125 x w h0 h1
def Try.lays129_ren : Go.Shelf.Ren := ⟨fun | 129 => 88 | n => n, fun | 53 => 32 | 3 => 3 | 4 => 4 | 46 => 96 | 5 => 5 | 9 => 9 | n => n, fun | n => n⟩
theorem Try.lays129 : Go.Proofs.Lays.n129 Try.prog Try.lays129_ren := {
  mixed := by kernel_rfl
  f129 := Try.func88.trans (congrArg some (by kernel_rfl))
  t3 := Try.underlying3
  a3 := Try.isAgg3
  z3 := Try.sizeOf3
  v3 := Try.zeroValue3
  t4 := Try.underlying4
  a4 := Try.isAgg4
  z4 := Try.sizeOf4
  v4 := Try.zeroValue4
  t5 := Try.underlying5
  a5 := Try.isAgg5
  z5 := Try.sizeOf5
  v5 := Try.zeroValue5
  t9 := Try.underlying9
  a9 := Try.isAgg9
  z9 := Try.sizeOf9
  v9 := Try.zeroValue9
  t46 := Try.underlying96
  a46 := Try.isAgg96
  z46 := Try.sizeOf96
  v46 := Try.zeroValue96
  t53 := Try.underlying32
  a53 := Try.isAgg32
  z53 := Try.sizeOf32
  v53 := Try.zeroValue32 }
/-- bits.Len64: "Len64 returns the minimum number of bits required to represent x; the result is 0 for x == 0.": IT RETURNS 'Lib.bitLen x'; the world is as it was. ('h0', 'h1': x is a uint64.) (LAID: no walk: one application.) -/
theorem Try.bits_Len64 (x : Int) (w : World) (h0 : 0 ≤ x) (h1 : x ≤ 18446744073709551615) :
    Calls Try.prog 88 #[.int .u64 x] w fun e w' => e = .returned (.int .i64 (Lib.bitLen x.toNat)) ∧ w' = w := Any.bits_Len64 Try.lays129 x w h0 h1
def Try.lays108_ren : Go.Shelf.Ren := ⟨fun | 108 => 75 | n => n, fun | 28 => 45 | 3 => 3 | 0 => 0 | 4 => 4 | n => n, fun | n => n⟩
theorem Try.lays108 : Go.Proofs.Lays.n108 Try.prog Try.lays108_ren := {
  mixed := by kernel_rfl
  f108 := Try.func75.trans (congrArg some (by kernel_rfl))
  t0 := Try.underlying0
  a0 := Try.isAgg0
  z0 := Try.sizeOf0
  v0 := Try.zeroValue0
  t3 := Try.underlying3
  a3 := Try.isAgg3
  z3 := Try.sizeOf3
  v3 := Try.zeroValue3
  t4 := Try.underlying4
  a4 := Try.isAgg4
  z4 := Try.sizeOf4
  v4 := Try.zeroValue4
  t28 := Try.underlying45
  a28 := Try.isAgg45
  z28 := Try.sizeOf45
  v28 := Try.zeroValue45 }
open Go.Lib in
/-- slices.Index at []int: "Index returns the index of the first occurrence of v in s, or -1 if not present.": IT RETURNS 'Lib.idxOf (the elements) v'; the world is as it was. 'zs': what the cells behind the slice's address hold (its spare capacity too, if you have it); 'zs.take n': its elements. (LAID: no walk: one application.) -/
theorem Try.slices_Index_int (b off n c : Nat) (zs : List Int) (x : Int) (w : World) (hz : n ≤ zs.length) (hbig : n ≤ 9223372036854775807) (hc : ∀ j, j < zs.length → w.cell? ⟨b, off + j, none⟩ = some (.int .i64 (zs.getD j 0))) :
    Calls Try.prog 75 #[.slice (some ⟨b, off, none⟩) n c, .int .i64 x] w fun e w' => e = .returned (.int .i64 (Lib.idxOf (zs.take n) x)) ∧ w' = w := Any.slices_Index_int Try.lays108 b off n c zs x w hz hbig hc
open Go.Lib in
/-- The same at a slice of length 0, a nil one too: no cell is known, none is asked for. (LAID: no walk: one application.) -/
theorem Try.slices_Index_int_empty (a : Option Addr) (c : Nat) (x : Int) (w : World) :
    Calls Try.prog 75 #[.slice a 0 c, .int .i64 x] w fun e w' => e = .returned (.int .i64 (Lib.idxOf [] x)) ∧ w' = w := Any.slices_Index_int_empty Try.lays108 a c x w
def Try.lays107_ren : Go.Shelf.Ren := ⟨fun | 107 => 67 | 108 => 75 | n => n, fun | 28 => 45 | 3 => 3 | 4 => 4 | 0 => 0 | n => n, fun | n => n⟩
theorem Try.lays107 : Go.Proofs.Lays.n107 Try.prog Try.lays107_ren := {
  mixed := by kernel_rfl
  f107 := Try.func67.trans (congrArg some (by kernel_rfl))
  f108 := Try.func75.trans (congrArg some (by kernel_rfl))
  t0 := Try.underlying0
  a0 := Try.isAgg0
  z0 := Try.sizeOf0
  v0 := Try.zeroValue0
  t3 := Try.underlying3
  a3 := Try.isAgg3
  z3 := Try.sizeOf3
  v3 := Try.zeroValue3
  t4 := Try.underlying4
  a4 := Try.isAgg4
  z4 := Try.sizeOf4
  v4 := Try.zeroValue4
  t28 := Try.underlying45
  a28 := Try.isAgg45
  z28 := Try.sizeOf45
  v28 := Try.zeroValue45 }
open Go.Lib in
/-- slices.Contains at []int: "Contains reports whether v is present in s.": IT RETURNS 'elements.contains v'; the world is as it was. ITS CALLEE slices.Index IS MET BY ITS OWN CONTRACT OFF THE SHELF (lay that first): no loop is walked here. (LAID: no walk: one application.) -/
theorem Try.slices_Contains_int (b off n c : Nat) (zs : List Int) (x : Int) (w : World) (hz : n ≤ zs.length) (hbig : n ≤ 9223372036854775807) (hc : ∀ j, j < zs.length → w.cell? ⟨b, off + j, none⟩ = some (.int .i64 (zs.getD j 0))) :
    Calls Try.prog 67 #[.slice (some ⟨b, off, none⟩) n c, .int .i64 x] w fun e w' => e = .returned (.bool ((zs.take n).contains x)) ∧ w' = w := Any.slices_Contains_int Try.lays107 b off n c zs x w hz hbig hc
open Go.Lib in
/-- The same at a slice of length 0, a nil one too. (LAID: no walk: one application.) -/
theorem Try.slices_Contains_int_empty (a : Option Addr) (c : Nat) (x : Int) (w : World) :
    Calls Try.prog 67 #[.slice a 0 c, .int .i64 x] w fun e w' => e = .returned (.bool false) ∧ w' = w := Any.slices_Contains_int_empty Try.lays107 a c x w
end Go.Proofs
/- done, Bad, count, Good of the program's book. -/
namespace Go.Proofs.Ytmohijpkhmeibaa
open Go.RowKit Go.Proofs
set_option linter.unusedVariables false
set_option linter.unusedSimpArgs false

def doneB (x : Blk) (n : Nat) (last : Int) : Bool := x.state == 4 && (n : Int) != last && (x.left || (!x.real && x.live == 0))

set_option maxHeartbeats 1000000 in
theorem done_calls (p q cap : Nat) (b : Bks) (k : Nat) (x : Blk) (w : World) (hI : IsB w p q cap b) (hx : b.all[k]? = some x) :
    Calls Try.prog 37 #[.pointer (some ⟨p, 0, none⟩), .int .i64 k] w fun e w' => e = .returned (.bool (doneB x k b.last)) ∧ Below w.heap.size w w' := by
  have hk : k < b.all.length := (List.getElem?_eq_some_iff.1 hx).1
  have c1 := hI.c1
  have c3 := hI.c3
  have hle := hI.le
  have e0 := hI.e0 hx
  have e1 := hI.e1 hx
  have e2 := hI.e2 hx
  have e3 := hI.e3 hx
  have e4 := hI.e4 hx
  have hp := hI.plt
  have hq := hI.qlt
  have HI := Lib.hid hI
  clear hI hx
  cases hs : (x.state == 4)
  · have hd : Hid (doneB x k b.last = false) := Lib.hid (by unfold doneB; rw [hs]; rfl)
    go_enter Try.func37, Try.ntmps37
    go_wp2
    go_ret
    exact ⟨by rw [hd.out]; rfl, (Below.refl _ _).alloc (Nat.le_refl _) _⟩
  cases hl : ((k : Int) != b.last)
  · have hd : Hid (doneB x k b.last = false) := Lib.hid (by unfold doneB; rw [hs, hl]; rfl)
    go_enter Try.func37, Try.ntmps37
    go_wp2
    go_ret
    exact ⟨by rw [hd.out]; rfl, (Below.refl _ _).alloc (Nat.le_refl _) _⟩
  cases hlf : x.left
  · cases hr : x.real
    · have hd : Hid (doneB x k b.last = (x.live == 0)) := Lib.hid (by unfold doneB; rw [hs, hl, hlf, hr]; rfl)
      rw [hlf] at e4; rw [hr] at e2
      go_enter Try.func37, Try.ntmps37
      go_wp2
      go_ret
      exact ⟨by rw [hd.out]; rfl, (Below.refl _ _).alloc (Nat.le_refl _) _⟩
    · have hd : Hid (doneB x k b.last = false) := Lib.hid (by unfold doneB; rw [hs, hl, hlf, hr]; rfl)
      rw [hlf] at e4; rw [hr] at e2
      go_enter Try.func37, Try.ntmps37
      go_wp2
      go_ret
      exact ⟨by rw [hd.out]; rfl, (Below.refl _ _).alloc (Nat.le_refl _) _⟩
  · have hd : Hid (doneB x k b.last = true) := Lib.hid (by unfold doneB; rw [hs, hl, hlf]; rfl)
    rw [hlf] at e4
    go_enter Try.func37, Try.ntmps37
    go_wp2
    go_ret
    exact ⟨by rw [hd.out]; rfl, (Below.refl _ _).alloc (Nat.le_refl _) _⟩

def badBlk : Blk := ⟨6, 0, false, 0, false⟩
theorem IsB.setAll {w : World} {p q cap : Nat} {b : Bks} (h : IsB w p q cap b) {i : Nat} {x : Blk} (y : Blk) (hx : b.all[i]? = some x) :
    IsB (((((w.setCell ⟨q, i * 5, none⟩ (.int .i64 y.state)).setCell ⟨q, i * 5 + 1, none⟩ (.int .u64 y.head)).setCell ⟨q, i * 5 + 2, none⟩ (.bool y.real)).setCell ⟨q, i * 5 + 3, none⟩ (.int .i64 y.live)).setCell ⟨q, i * 5 + 4, none⟩ (.bool y.left)) p q cap { b with all := b.all.set i y } := by
  have hi : i < b.all.length := (List.getElem?_eq_some_iff.1 hx).1
  have g : ∀ (l : List Blk) (z : Blk), i < l.length → (l.set i z)[i]? = some z := fun l z hl => List.getElem?_set_self hl
  have h0 := h.setRow (y := ⟨y.state, x.head, x.real, x.live, x.left⟩) hx (j := 0) (by decide) rfl
  have h1 := h0.setRow (y := ⟨y.state, y.head, x.real, x.live, x.left⟩) (g _ _ hi) (j := 1) (by decide) rfl
  have h2 := h1.setRow (y := ⟨y.state, y.head, y.real, x.live, x.left⟩) (g _ _ (by simpa using hi)) (j := 2) (by decide) rfl
  have h3 := h2.setRow (y := ⟨y.state, y.head, y.real, y.live, x.left⟩) (g _ _ (by simpa using hi)) (j := 3) (by decide) rfl
  have h4 := h3.setRow (y := y) (g _ _ (by simpa using hi)) (j := 4) (by decide) rfl
  simpa using h4

set_option maxHeartbeats 1000000 in
theorem bad_yes (p q cap : Nat) (b : Bks) (k : Nat) (x : Blk) (w : World) (hI : IsB w p q cap b) (hx : b.all[k]? = some x) (hok : x.state = 0 ∨ doneB x k b.last = true) :
    Calls Try.prog 12 #[.pointer (some ⟨p, 0, none⟩), .int .i64 k] w fun e w' => e = .returned (.int .i64 0) ∧ IsB w' p q cap { b with all := b.all.set k badBlk } ∧ Off (· = q) w w' := by
  have hk : k < b.all.length := (List.getElem?_eq_some_iff.1 hx).1
  have ca := at_yes p q cap b k w hI (by omega) (by omega)
  have cd := done_calls p q cap b k x w hI hx
  have e0 := hI.e0 hx
  have CA := Lib.hid ca
  have CD := Lib.hid cd
  have HX := Lib.hid hx
  have HI := Lib.hid hI
  clear ca cd hI hx
  by_cases h0 : x.state = 0
  · have hz : (x.state != 0) = false := by rw [bne, h0]; rfl
    clear hok h0
    have e1 := HI.out.e1 HX.out
    have e2 := HI.out.e2 HX.out
    have e3 := HI.out.e3 HX.out
    have e4 := HI.out.e4 HX.out
    have f0 := HI.out.rf (k * 5)
    have f1 := HI.out.rf (k * 5 + 1)
    have f2 := HI.out.rf (k * 5 + 2)
    have f3 := HI.out.rf (k * 5 + 3)
    have f4 := HI.out.rf (k * 5 + 4)
    go_enter Try.func12, Try.ntmps12
    go_wp2_with (go_at_call 36; refine CA.out.mono ?_; rintro e w' ⟨rfl, rfl⟩)
    go_ret
    exact ⟨rfl, HI.out.setAll badBlk HX.out, (((((Off.refl (· = q) w).setCell (p := ⟨q, _, none⟩) (.inl rfl) _).setCell (p := ⟨q, _, none⟩) (.inl rfl) _).setCell (p := ⟨q, _, none⟩) (.inl rfl) _).setCell (p := ⟨q, _, none⟩) (.inl rfl) _).setCell (p := ⟨q, _, none⟩) (.inl rfl) _⟩
  · have hz : (x.state != 0) = true := by rw [bne_iff_ne]; exact h0
    have hd : doneB x k b.last = true := by rcases hok with h | h; exact absurd h h0; exact h
    clear hok h0
    go_enter Try.func12, Try.ntmps12
    go_wp2_with (first | (go_at_call 36; refine CA.out.mono ?_; rintro e w' ⟨rfl, rfl⟩) | (go_at_call 37; refine CD.out.mono ?_; rintro e w1 ⟨rfl, hb⟩; rw [hd]; have HB := Lib.hid hb; clear hb; have e0' := (HI.out.below HB.out).e0 HX.out; have e1 := (HI.out.below HB.out).e1 HX.out; have e2 := (HI.out.below HB.out).e2 HX.out; have e3 := (HI.out.below HB.out).e3 HX.out; have e4 := (HI.out.below HB.out).e4 HX.out; have f0 := (HI.out.below HB.out).rf (k * 5); have f1 := (HI.out.below HB.out).rf (k * 5 + 1); have f2 := (HI.out.below HB.out).rf (k * 5 + 2); have f3 := (HI.out.below HB.out).rf (k * 5 + 3); have f4 := (HI.out.below HB.out).rf (k * 5 + 4)))
    go_ret
    exact ⟨rfl, (HI.out.below HB.out).setAll badBlk HX.out, (((((Off.of_below (S := (· = q)) HB.out).setCell (p := ⟨q, _, none⟩) (.inl rfl) _).setCell (p := ⟨q, _, none⟩) (.inl rfl) _).setCell (p := ⟨q, _, none⟩) (.inl rfl) _).setCell (p := ⟨q, _, none⟩) (.inl rfl) _).setCell (p := ⟨q, _, none⟩) (.inl rfl) _⟩

def inL (zs : List Int) (s : Int) : Bool := zs.contains s
def cnt (f : Int → Bool) (l : List Blk) : Nat := (l.filter fun x => f x.state).length
theorem cnt_le (f : Int → Bool) (l : List Blk) : cnt f l ≤ l.length := List.length_filter_le _ _
theorem cnt_snoc (f : Int → Bool) (l : List Blk) (x : Blk) : cnt f (l ++ [x]) = cnt f l + if f x.state then 1 else 0 := by
  unfold cnt
  rw [List.filter_append, List.length_append]
  cases h : f x.state <;> simp [List.filter_cons, h]
theorem take_snoc {α : Type} {l : List α} {k : Nat} {x : α} (h : l[k]? = some x) : l.take (k + 1) = l.take k ++ [x] := by
  rw [List.take_add_one, h]; rfl

set_option maxHeartbeats 1000000 in
theorem count_calls (p q cap : Nat) (b : Bks) (g n c : Nat) (zs : List Int) (w : World) (hI : IsB w p q cap b) (hz : zs.length = n) (hn : n ≤ 10) (hg : ∀ j, j < zs.length → w.cell? ⟨g, j, none⟩ = some (.int .i64 (zs.getD j 0))) (hgl : g < w.heap.size) :
    Calls Try.prog 35 #[.pointer (some ⟨p, 0, none⟩), .slice (some ⟨g, 0, none⟩) n c] w fun e w' => e = .returned (.int .i64 (cnt (inL zs) b.all)) ∧ Below w.heap.size w w' := by
  have c1 := hI.c1
  have hle := hI.le
  have HI := Lib.hid hI
  have HG := Lib.hid hg
  have HZ := Lib.hid hz
  clear hI hg hz
  have hcl := cnt_le (inL zs) b.all
  go_enter Try.func35, Try.ntmps35
  go_wp2
  go_loopw [5, 7, 13] (fun s _ i wr => ∃ j : Nat, j ≤ b.all.length ∧ i = .int .i64 j ∧ s = .int .i64 (cnt (inL zs) (b.all.take j)) ∧ Below w.heap.size w wr) (fun _ _ i _ => b.all.length - (intOf i).toNat)
  case atStart => exact ⟨0, by omega, rfl, rfl, Below.refl _ _⟩
  case round =>
    obtain ⟨j, hj, rfl, rfl, hb⟩ := hrel
    by_cases hlt : j < b.all.length
    · obtain ⟨x, hx⟩ : ∃ x, b.all[j]? = some x := ⟨_, List.getElem?_eq_getElem hlt⟩
      have e0 := (HI.out.below hb).e0 hx
      have e1 := (HI.out.below hb).e1 hx
      have e2 := (HI.out.below hb).e2 hx
      have e3 := (HI.out.below hb).e3 hx
      have e4 := (HI.out.below hb).e4 hx
      have hcs := cnt_le (inL zs) (b.all.take j)
      have hts := take_snoc hx
      have hlen : (b.all.take j).length ≤ j := List.length_take_le _ _
      have HS : Hid (cnt (inL zs) (b.all.take (j + 1)) = cnt (inL zs) (b.all.take j) + if inL zs x.state then 1 else 0) := Lib.hid (by rw [hts]; exact cnt_snoc _ _ _)
      clear hts hx
      have HB := Lib.hid hb
      have hsz := hb.size
      clear hb
      have hcon : ∀ o, Calls Try.prog 67 #[.slice (some ⟨g, 0, none⟩) n c, .int .i64 x.state] (wr.alloc o) fun e w' => e = .returned (.bool (inL zs x.state)) ∧ w' = (wr.alloc o) := fun o =>
        (Try.slices_Contains_int g 0 n c zs x.state (wr.alloc o) (by rw [HZ.out]; omega) (by omega) (fun j hj => by rw [Nat.zero_add]; rw [((Below.refl wr.heap.size wr).alloc (Nat.le_refl _) o).cell (p := ⟨g, j, none⟩) (by show g < _; omega), HB.out.cell (p := ⟨g, j, none⟩) hgl]; exact HG.out j hj)).mono fun e w' h => by rw [List.take_of_length_le (by rw [HZ.out]; omega)] at h; exact h
      have HC := Lib.hid hcon
      clear hcon
      cases hc : inL zs x.state
      all_goals
        go_wp2_with (go_at_call 67; refine (HC.out _).mono ?_; rintro e w' ⟨rfl, hw⟩; rw [hw, hc])
        go_roundw
        case rel => exact ⟨j + 1, by omega, by go_num, by rw [HS.out, hc]; first | rfl | go_num, HB.out.alloc hsz _⟩
        case measure => simp [intOf]; omega
    · obtain rfl : j = b.all.length := by omega
      go_wp2
      go_ret
      exact ⟨by rw [List.take_length]; rfl, hb⟩
end Go.Proofs.Ytmohijpkhmeibaa
/- Good of the program's book. -/
namespace Go.Proofs.Ytmohijpkhmeibaa
open Go.RowKit Go.Proofs
set_option linter.unusedVariables false
set_option linter.unusedSimpArgs false

def goodN (b : Bks) : Int := b.all.length - (cnt (inL [6, 4]) b.all : Nat)

set_option maxHeartbeats 2000000 in
theorem good_calls (p q cap : Nat) (b : Bks) (w : World) (hI : IsB w p q cap b) :
    Calls Try.prog 11 #[.pointer (some ⟨p, 0, none⟩)] w fun e w' => e = .returned (.int .i64 (goodN b)) ∧ Below w.heap.size w w' := by
  have c1 := hI.c1
  have hp := hI.plt
  have hle := hI.le
  have hcl := cnt_le (inL [6, 4]) b.all
  have HI := Lib.hid hI
  have HW : Hid (goodN b = b.all.length - (cnt (inL [6, 4]) b.all : Nat)) := Lib.hid rfl
  have hcon : ∀ W, Below w.heap.size w W → W.heap[w.heap.size]? = some (.cells #[.int .i64 6, .int .i64 4] 3 (0, 0)) → Calls Try.prog 35 #[.pointer (some ⟨p, 0, none⟩), .slice (some ⟨w.heap.size, 0, none⟩) 2 2] W fun e w' => e = .returned (.int .i64 (cnt (inL [6, 4]) b.all : Nat)) ∧ Below w.heap.size w w' ∧ w'.cell? ⟨p, 1, none⟩ = some (.slice (some ⟨q, 0, none⟩) b.all.length cap) := fun W hB ho => by
    refine Calls.mono (R := fun e w' => e = .returned (.int .i64 (cnt (inL [6, 4]) b.all : Nat)) ∧ Below W.heap.size W w') ?_ (fun e w' ⟨h1, h2⟩ => ⟨h1, hB.trans (h2.mono hB.size), (HI.out.below (hB.trans (h2.mono hB.size))).c1⟩)
    refine count_calls p q cap b w.heap.size 2 2 [6, 4] _ (HI.out.below hB) rfl (by omega) (fun j hj => ?_) (lt_of_heap ho)
    have hj' : j < 2 := hj
    refine cell_of ho ?_
    match j, hj' with
    | 0, _ => rfl
    | 1, _ => rfl
  have HC := Lib.hid hcon
  clear hI hcon
  go_enter Try.func11, Try.ntmps11
  go_wp2
  go_region_with (go_at_call 35; refine (HC.out _ (by exact (((Below.refl _ _).alloc (Nat.le_refl _) _).drew)) (by exact heap_alloc_new w _)).mono ?_; rintro e w1 ⟨rfl, hb, hc⟩)
  all_goals
    go_wp2
    refine bodyPost_ret (v := .int .i64 ((b.all.length : Int) - (cnt (inL [6, 4]) b.all : Nat))) (by simp [results, Try.results11, go_sem]; exact IntWalk.i64_in _ (by omega)) rfl ?_
    exact ⟨by rw [HW.out], hb⟩
end Go.Proofs.Ytmohijpkhmeibaa
