/- BlocksFifo: the calls that its walk meets. -/
import Derived.Test.YtmohijpkhmeibaaMFifoPure
import Derived.Test.YtmohijpkhmeibaaMFifoTools
namespace Go.Proofs.Ytmohijpkhmeibaa
open Go.RowKit Go.Proofs Go.Proofs.YtmohijpkhmeibaaW.PrintWords
open PBlocksRound
set_option linter.unusedVariables false
set_option linter.unusedSimpArgs false
set_option maxRecDepth 100000
theorem vic_back {b : Bks} (h : b.victim = -1) : { b with victim := -1 } = b := by
  cases b
  simp only at h
  rw [h]
theorem clean_false {b : Bks} (h : b.victim = -1) (v : Int) : cleanB b v false = b := by
  rw [clean_ok h]
  exact vic_back h
theorem clean_true {b : Bks} (h : b.victim = -1) (v : Int) : cleanB b v true = { b with victim := v } := by
  rw [clean_ok h]
  rfl
theorem counted_iff {x : Blk} (hs : x.state = 1 ∨ x.state = 4) (hl : x.left = false) : countedB x = true := by
  unfold countedB
  rcases hs with h | h
  · rw [h]; rfl
  · rw [h, hl]; rfl
/-- Live, by which all of a victim's pages go. -/
theorem live_zero (p q cap : Nat) (b : Bks) (i : Nat) (x : Blk) (w : World) (hI : IsB w p q cap { b with victim := (i : Int) }) (hw : WFB b) (hx : b.all[i]? = some x) (hs : x.state = 1 ∨ x.state = 4) (hl : x.left = false) :
    Calls Try.prog 17 #[.pointer (some ⟨p, 0, none⟩), .int .i64 (i : Int), .int .i64 (-x.live)] w fun e w' => e = .returned (.int .i64 0) ∧ IsB w' p q cap { b with victim := (i : Int), all := b.all.set i { x with live := 0 } } ∧ Off (fun j => j = q ∨ j = p) w w' := by
  have hpg := hw.pg
  have hlv : 0 ≤ x.live ∧ x.live < b.pages := by
    rcases (hw.row i x hx).body with h | h <;> omega
  refine (live_in p q cap { b with victim := (i : Int) } i x (-x.live) w hI hx (by show 1 ≤ b.pages; omega) (by show b.pages ≤ 256; omega) hlv.1 (by omega) (by omega) (by omega)).mono ?_
  have e0 : x.live + -x.live = 0 := by omega
  rw [e0]
  rintro e w' (⟨_, h1, h2, h3⟩ | ⟨h1, _⟩)
  · refine ⟨h1, ?_, h3.mono fun j _ e => .inl e⟩
    unfold settleB at h2
    rw [if_pos rfl] at h2
    exact h2
  · exact absurd ⟨counted_iff hs hl, by omega, by show -x.live ≤ b.pages - 1 - x.live; omega⟩ h1
/-- .. and it leaves. -/
theorem leave_zero (p q cap : Nat) (b : Bks) (i : Nat) (x : Blk) (w : World) (hI : IsB w p q cap { b with victim := (i : Int), all := b.all.set i { x with live := 0 } }) (hx : b.all[i]? = some x) (hs : x.state = 1 ∨ x.state = 4) (hl : x.left = false) :
    Calls Try.prog 18 #[.pointer (some ⟨p, 0, none⟩), .int .i64 (i : Int)] w fun e w' => e = .returned (.int .i64 0) ∧ IsB w' p q cap { b with all := b.all.set i (goneX x), victim := -1 } ∧ Off (fun j => j = q ∨ j = p) w w' := by
  have hi : i < b.all.length := (List.getElem?_eq_some_iff.1 hx).1
  have h := leave_in p q cap _ i { x with live := 0 } w hI (List.getElem?_set_self hi)
  rw [leave_gone hs hl] at h
  refine h.mono ?_
  rintro e w' ⟨h1, h2, h3⟩
  refine ⟨h1, ?_, h3⟩
  unfold leftB at h2
  simp only [List.set_set, if_true] at h2
  exact h2
/-- What the region of Leave keeps. -/
theorem fifo_step {w0 W W' : World} {p q cap : Nat} {b : Bks} {bx : Nat} {u0 u1 u2 u3 : Value} (hc : W.cell? ⟨bx, 0, none⟩ = some u0) (hc2 : W.cell? ⟨bx, 2, none⟩ = some u2) (h : Solo w0 p q cap b W) (hb : Below W.heap.size W W') :
    W'.cell? ⟨bx, 0, none⟩ = some u0 ∧ W'.cell? ⟨bx, 2, none⟩ = some u2 ∧ Solo w0 p q cap b W' :=
  ⟨(hb.cell (p := ⟨bx, 0, none⟩) (World.block_lt_of_cell? _ _ hc)).trans hc, (hb.cell (p := ⟨bx, 2, none⟩) (World.block_lt_of_cell? _ _ hc2)).trans hc2, h.of_below hb⟩
/-- The argument's list. -/
theorem arg_cells {w : World} {A : Option Addr} {l : List S34} {n : Nat} (h : Kd.C k34 w A n l) (hpos : 0 < n) {P cursor last opn : Int} {i : Nat} {x : Blk} (hx : (⟨P, l.map blkS, cursor, last, -1, opn⟩ : Bks).all[i]? = some x) :
    ∃ g o, A = some ⟨g, o, none⟩ ∧ w.cell? ⟨g, o + i * 4, none⟩ = some (.int .i64 x.state) ∧ w.cell? ⟨g, o + i * 4 + 1, none⟩ = some (.int .u64 x.head) ∧ w.cell? ⟨g, o + i * 4 + 2, none⟩ = some (.bool x.real) ∧ w.cell? ⟨g, o + i * 4 + 3, none⟩ = some (.int .i64 x.live) := by
  obtain ⟨g, o, e, rows⟩ := kd_rows h hpos
  have hx' : (l.map blkS)[i]? = some x := hx
  rw [List.getElem?_map] at hx'
  cases hy : l[i]? with
  | none => rw [hy] at hx'; cases hx'
  | some y =>
    rw [hy] at hx'
    cases hx'
    exact ⟨g, o, e, rows i y hy⟩
theorem good_range (b : Bks) (h : b.all.length ≤ 4096) : 0 ≤ goodN b ∧ goodN b ≤ 4096 ∧ 0 ≤ nearN b ∧ nearN b ≤ 4096 := by
  have h1 := cnt_le (inL [6, 4]) b.all
  have h2 := cnt_le (inL [0, 5, 3]) b.all
  unfold goodN nearN
  omega
theorem wrap_neg {x : Int} (h0 : 0 ≤ x) (h1 : x ≤ 256) : IntKind.i64.wrap (-x) = -x ∧ wrap64 (-x) = -x := by
  rw [IntKind.wrap_i64]
  unfold wrap64
  omega
theorem wrap_add {x y : Int} (h0 : 0 ≤ x ∧ x ≤ 4096) (h1 : 0 ≤ y ∧ y ≤ 4096) : IntKind.i64.wrap (x + y) = x + y ∧ wrap64 (x + y) = x + y := by
  rw [IntKind.wrap_i64]
  unfold wrap64
  omega
theorem Solo.apart {w0 w : World} {p q cap : Nat} {b : Bks} (h : Solo w0 p q cap b w) {x : Nat} {c : Array Value} {t : TypeId} (hx : w.heap[x]? = some (.cells c t (0, 0))) (h1 : t ≠ 69) (h2 : t ≠ 71) : ¬ (x = q ∨ x = p) := by
  obtain ⟨c1, hc, _⟩ := h.isB.rows
  have e1 := typ_ne hx h.isB.head h1
  have e2 := typ_ne hx hc h2
  omega
theorem cells2_below {W W' : World} {bx : Nat} {u0 u2 : Value} (hc : W.cell? ⟨bx, 0, none⟩ = some u0) (hc2 : W.cell? ⟨bx, 2, none⟩ = some u2) (hb : Below W.heap.size W W') : W'.cell? ⟨bx, 0, none⟩ = some u0 ∧ W'.cell? ⟨bx, 2, none⟩ = some u2 :=
  ⟨(hb.cell (p := ⟨bx, 0, none⟩) (World.block_lt_of_cell? _ _ hc)).trans hc, (hb.cell (p := ⟨bx, 2, none⟩) (World.block_lt_of_cell? _ _ hc2)).trans hc2⟩
theorem cells2_off {S : Nat → Prop} {W W' : World} {bx : Nat} {u0 u2 : Value} (hc : W.cell? ⟨bx, 0, none⟩ = some u0) (hc2 : W.cell? ⟨bx, 2, none⟩ = some u2) (ho : Off S W W') (hn : ¬ S bx) : W'.cell? ⟨bx, 0, none⟩ = some u0 ∧ W'.cell? ⟨bx, 2, none⟩ = some u2 := by
  have hl := World.block_lt_of_cell? _ _ hc
  have e : W'.heap[bx]? = W.heap[bx]? := ho.block bx hl hn
  unfold World.cell? at *
  rw [e]
  exact ⟨hc, hc2⟩
theorem keep_cell {W W' : World} {a : Addr} {v : Value} (h : W.cell? a = some v) (hb : Below W.heap.size W W') : W'.cell? a = some v := (hb.cell (World.block_lt_of_cell? _ _ h)).trans h
theorem keep_off {S : Nat → Prop} {W W' : World} {g o : Nat} {v : Value} (h : W.cell? ⟨g, o, none⟩ = some v) (ho : Off S W W') (hn : ¬ S g) : W'.cell? ⟨g, o, none⟩ = some v := by
  have hl := World.block_lt_of_cell? _ _ h
  have e : W'.heap[g]? = W.heap[g]? := ho.block g hl hn
  unfold World.cell? at *
  rw [e]
  exact h
theorem weaken {P : Program} {md : Region.Mode} {ops : Array Oper} {Q : Exit → Act → World → Prop} {S S' : World → Prop} (hS : ∀ W, S' W → S W) :
    ∀ (fuel : Nat) (listed : Array Bool) (a : Act) (w : World), wpAnyH P md ops Q S' fuel listed a w → wpAnyH P md ops Q S fuel listed a w
  | 0, _, _, _, h => h
  | fuel + 1, _, _, _, h => ⟨h.1, fun i hi => wpOp_mono (fun a' w' h' => ⟨hS _ h'.1, weaken hS fuel _ a' w' h'.2⟩) (h.2 i hi)⟩
/-- commit_open, in the words of the plain law. -/
theorem commit_at (p q cap : Nat) (b : Bks) (o : Nat) (w : World) (hI : IsB w p q cap b) (ho : b.opn = (o : Int)) (hol : o < b.all.length) :
    Calls Try.prog 21 #[.pointer (some ⟨p, 0, none⟩), .int .i64 (o : Int)] w fun e w' => ∃ A c, e = .returned (.tuple #[.slice A (marksB b.all o b.all.length).length c, .int .i64 0]) ∧ HoldsN w' A (marksB b.all o b.all.length) ∧ (∀ g, A = some g → w.heap.size ≤ g.block) ∧ IsB w' p q cap (commitB b o) ∧ Off (fun i => i = q ∨ i = p) w w' := by
  refine (commit_open p q cap b o w hI hol ho).mono ?_
  rintro e w' ⟨v, rfl, h1, h2, h3⟩
  obtain ⟨A, c, rfl, h4, h5⟩ := owns_shape h1
  exact ⟨A, c, rfl, h4, h5, h2, h3⟩
end Go.Proofs.Ytmohijpkhmeibaa
