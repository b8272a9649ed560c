/- BlocksMay: the walk of the law. -/
import Derived.Test.YtmohijpkhmeibaaMAct
import Derived.Test.YtmohijpkhmeibaaMPlays
import Derived.Deep.DeepCutAuto
namespace Go.Proofs.Ytmohijpkhmeibaa
open Go.RowKit Go.Proofs Go.Proofs.YtmohijpkhmeibaaW.PrintWords
open PBlocksRound
set_option linter.unusedVariables false
set_option linter.unusedSimpArgs false
set_option maxRecDepth 100000
theorem Rows4.off {S : Nat → Prop} {w w' : World} {g : Nat} {l : List Blk} (h : Rows4 w g l) (ho : Off S w w') (hn : ¬ S g) : Rows4 w' g l := fun i x hx j v hv => by
  have hc := h i x hx j v hv
  have hl := World.block_lt_of_cell? _ _ hc
  unfold World.cell? at hc ⊢
  rw [show w'.heap[g]? = w.heap[g]? from ho.block g hl hn]
  exact hc
theorem Rows4.drewN {w : World} {g : Nat} {l : List Blk} (h : Rows4 w g l) (n : Nat) : Rows4 (w.drewN n) g l := h
theorem list_at (p q cap n : Nat) (b : Bks) (w : World) (hI : IsB w p q cap b) (hn : b.all.length = n) :
    Calls Try.prog 16 #[.pointer (some ⟨p, 0, none⟩)] w fun e w' => ∃ g c, e = .returned (.slice (some ⟨g, 0, none⟩) n c) ∧ w.heap.size ≤ g ∧ Rows4 w' g b.all ∧ n ≤ c ∧ Below w.heap.size w w' := by
  subst hn
  exact list_shape p q cap b w hI
theorem same_at (g g' c c' n : Nat) (l : List Blk) (w : World) (h : Rows4 w g l) (h' : Rows4 w g' l) (hc : n ≤ c) (hc' : n ≤ c') (hn : l.length = n) (hlen : n ≤ 4096) :
    Calls Try.prog 23 #[.slice (some ⟨g, 0, none⟩) n c, .slice (some ⟨g', 0, none⟩) n c'] w fun e w' => e = .returned (.bool true) ∧ ∃ n, w' = w.drewN n := by
  subst hn
  exact same_calls g g' c c' l w h h' hc hc' hlen
theorem hollow_at (g c n : Nat) (l : List Blk) (last : Int) (w : World) (hr : Rows4 w g l) (hn : l.length = n) (hle : n ≤ 4096) (hpos : 0 < n) :
    Calls Try.prog 24 #[.slice (some ⟨g, 0, none⟩) n c, .int .i64 last] w fun e w' => ∃ g' c', e = .returned (.tuple #[.slice (some ⟨g', 0, none⟩) n c', .int .i64 (hollowN l)]) ∧ Rows4 w' g' (hollowL last l) ∧ n ≤ c' ∧ Below w.heap.size w w' := by
  subst hn
  refine (hollow_calls g c l last w hr hle).mono ?_
  rintro e w' ⟨v, rfl, h1, h2⟩
  have hl := hollowL_len last l
  rw [← hl] at h1
  obtain ⟨g', c', e1, _, h3, h4⟩ := owns_blks h1 (by omega)
  rw [hl] at e1 h4
  subst e1
  exact ⟨g', c', rfl, h3, h4, h2⟩
theorem may_at (g c n : Nat) (L : List Blk) (P last opn : Int) (w : World) (hr : Rows4 w g L) (hc : n ≤ c) (hn : L.length = n) (hle : n ≤ 4096) (hP : 4 ≤ P ∧ P ≤ 256) (h0 : ∀ x ∈ L, 0 ≤ x.head) (hnew : newFrom P last [] (-1) (L.map sOf) = some opn) :
    Calls Try.prog 25 #[.slice (some ⟨g, 0, none⟩) n c, .int .i64 P, .int .i64 last] w fun e w' => e = .returned (.bool true) ∧ Below w.heap.size w w' := by
  have hm : (L.map sOf).length = n := by rw [List.length_map]; exact hn
  obtain ⟨k, hk⟩ := may_is (L.map sOf) P last hP (by omega) (fun x hx => by
    obtain ⟨y, hy, rfl⟩ := List.mem_map.1 hx
    exact h0 y hy)
  rw [hnew] at hk
  have := shaleref11_May.calls k (some ⟨g, 0, none⟩) c (L.map sOf) P last true w (kc_of hr (by omega)) (by omega) hk
  rw [hm] at this
  exact this
theorem copy_at (g c n : Nat) (l : List Blk) (w : World) (hr : Rows4 w g l) (hc : n ≤ c) (hn : l.length = n) (hle : n ≤ 4096) :
    Calls Try.prog 27 #[.slice (some ⟨g, 0, none⟩) n c] w fun e w' => ∃ A c', e = .returned (.slice A n c') ∧ Kd.C k34 w' A (l.map sOf).length (l.map sOf) ∧ Below w.heap.size w w' := by
  have hm : (l.map sOf).length = n := by rw [List.length_map]; exact hn
  have := copied_calls (some ⟨g, 0, none⟩) c (l.map sOf) w (kc_of hr (by omega)) (by omega) (by omega)
  rw [hm] at this
  refine this.mono ?_
  rintro e w' ⟨A, c', rfl, h1, h2⟩
  refine ⟨A, c', rfl, ?_, h2⟩
  rw [← hm] at h1
  exact marks_copy h1
theorem new_at (B S : Int) (A : Option Addr) (c n : Nat) (b : Bks) (w : World) (hl : Kd.C k34 w A (b.all.map sOf).length (b.all.map sOf)) (hw : WFB b) (hno : NoLeft b) (hz : hollowN b.all = 0) (hf : fitsB B b.pages S = true) (hB : (b.all.length : Int) = B) (hn : b.all.length = n) :
    Calls Try.prog 26 #[.agg #[.int .i64 B, .int .i64 b.pages, .int .i64 S], .slice A n c, .int .i64 b.cursor, .int .i64 b.last] w fun e w' => ∃ px qx capx, e = .returned (.tuple #[.pointer (some ⟨px, 0, none⟩), .int .i64 0]) ∧ IsB w' px qx capx { b with victim := -1 } ∧ Below w.heap.size w w' := by
  have hm : (b.all.map sOf).length = n := by rw [List.length_map]; exact hn
  have h0 : ∀ x, x ∈ b.all.map sOf → 0 ≤ x.f1 := fun x hx => by
    obtain ⟨y, hy, rfl⟩ := List.mem_map.1 hx
    obtain ⟨i, hi⟩ := List.getElem?_of_mem hy
    show 0 ≤ y.head
    rcases (hw.row i y hi).body with h | h <;> omega
  have hres := again_new (S := S) hw hf hB hz
  have := new_all B b.pages S A (b.all.map sOf) c b.cursor b.last w hl h0
  rw [hm] at this
  refine this.mono ?_
  rintro e w' ⟨hb, h | ⟨opn, p, v, h1, rfl, h2⟩⟩
  · rw [hres] at h
    cases h.1
  · rw [hres] at h1
    cases h1
    have hpos := hw.pos
    have hle := hw.le
    obtain ⟨q, cap, hI, _⟩ := h2.isB (by omega) (by omega)
    rw [map_back hno] at hI
    exact ⟨p, q, cap, rfl, hI, hb⟩
theorem hollowL_head {b : Bks} (hw : WFB b) : ∀ x ∈ hollowL b.last b.all, 0 ≤ x.head := fun x hx => by
  obtain ⟨i, hi⟩ := List.getElem?_of_mem hx
  rw [hollowL_get] at hi
  cases hy : b.all[i]? with
  | none => rw [hy] at hi; cases hi
  | some y =>
    rw [hy] at hi
    cases hi
    obtain ⟨_, _, _, _, h1⟩ := hollowX_row hw hy
    have : 0 ≤ y.head := by rcases (hw.row i y hy).body with h | h <;> omega
    omega
theorem wf_again {b : Bks} (hw : WFB b) (hz : hollowN b.all = 0) : WFB { b with victim := -1 } := by
  refine hw.revic (-1) (.inl rfl) fun i z hz1 hs _ => ?_
  have hno : hollowB z = false := by
    cases e : hollowB z
    · rfl
    · have : z ∈ b.all.filter hollowB := List.mem_filter.2 ⟨List.mem_of_getElem? hz1, e⟩
      have h2 := List.length_pos_of_mem this
      unfold hollowN at hz
      omega
  exact (hollow_no hno hs).imp id .inl
theorem oldest_two {b : Bks} (hw : WFB b) (hz : hollowN b.all = 0) : ∃ (v hd : Int) (ok : Bool), OldR b v hd ok ∧
    (∀ (w : World) (p q cap : Nat), IsB w p q cap b → Calls Try.prog 28 #[.pointer (some ⟨p, 0, none⟩)] w fun e w' => e = .returned (.tuple #[.int .i64 v, .int .u64 hd, .bool ok]) ∧ Below w.heap.size w w') ∧
    (∀ (w : World) (p q cap : Nat), IsB w p q cap { b with victim := -1 } → Calls Try.prog 28 #[.pointer (some ⟨p, 0, none⟩)] w fun e w' => e = .returned (.tuple #[.int .i64 v, .int .u64 hd, .bool ok]) ∧ Below w.heap.size w w') := by
  obtain ⟨v, hd, ok, h1, h2, _⟩ := op_oldest hw
  obtain ⟨v', hd', ok', h1', h2', _⟩ := op_oldest (wf_again hw hz)
  obtain ⟨rfl, rfl, rfl⟩ := OldR.uniq hw h1 h1'
  exact ⟨v, hd, ok, h1, h2, h2'⟩
/-- The book, a new one of its list, and the list. -/
structure TwoB (w0 : World) (p q cap : Nat) (b : Bks) (px qx capx gn : Nat) (w : World) : Prop where
  so : Solo w0 p q cap b w
  isX : IsB w px qx capx { b with victim := -1 }
  rn : Rows4 w gn b.all
theorem TwoB.of_below {w0 w w' : World} {p q cap : Nat} {b : Bks} {px qx capx gn : Nat} (h : TwoB w0 p q cap b px qx capx gn w) (hb : Below w.heap.size w w') : TwoB w0 p q cap b px qx capx gn w' :=
  ⟨h.so.of_below hb, h.isX.below hb, h.rn.below hb⟩
theorem x_good (p q cap : Nat) (b : Bks) (w : World) (hI : IsB w p q cap { b with victim := -1 }) :
    Calls Try.prog 11 #[.pointer (some ⟨p, 0, none⟩)] w fun e w' => e = .returned (.int .i64 (goodN b)) ∧ Below w.heap.size w w' := good_calls p q cap { b with victim := -1 } w hI
theorem x_near (p q cap : Nat) (b : Bks) (w : World) (hI : IsB w p q cap { b with victim := -1 }) :
    Calls Try.prog 20 #[.pointer (some ⟨p, 0, none⟩)] w fun e w' => e = .returned (.int .i64 (nearN b)) ∧ Below w.heap.size w w' := near_calls p q cap { b with victim := -1 } w hI
theorem x_logged (p q cap : Nat) (b : Bks) (w : World) (hI : IsB w p q cap { b with victim := -1 }) :
    Calls Try.prog 13 #[.pointer (some ⟨p, 0, none⟩)] w fun e w' => e = .returned (.int .i64 (logN b.all)) ∧ Below w.heap.size w w' := logged_both p q cap { b with victim := -1 } w hI
theorem x_cursor (p q cap : Nat) (b : Bks) (w : World) (hI : IsB w p q cap { b with victim := -1 }) :
    Calls Try.prog 9 #[.pointer (some ⟨p, 0, none⟩)] w fun e w' => e = .returned (.int .i64 b.cursor) ∧ w = w' := cursor_calls p q cap { b with victim := -1 } w hI
theorem new_is (B P S : Int) (A : Option Addr) (c n : Nat) (b : Bks) (w : World) (hl : Kd.C k34 w A (b.all.map sOf).length (b.all.map sOf)) (hw : WFB b) (hno : NoLeft b) (hz : hollowN b.all = 0) (hP : b.pages = P) (hf : fitsB B P S = true) (hB : (n : Int) = B) (hn : b.all.length = n) :
    Calls Try.prog 26 #[.agg #[.int .i64 B, .int .i64 P, .int .i64 S], .slice A n c, .int .i64 b.cursor, .int .i64 b.last] w fun e w' => ∃ px qx capx, e = .returned (.tuple #[.pointer (some ⟨px, 0, none⟩), .int .i64 0]) ∧ IsB w' px qx capx { b with victim := -1 } ∧ Below w.heap.size w w' := by
  subst hP
  exact new_at B S A c n b w hl hw hno hz hf (by rw [hn]; exact hB) hn
/-- What the region of New keeps. -/
theorem may_step2 {w0 W W' : World} {p q cap : Nat} {b : Bks} {gn bx : Nat} {B P S : Int} (hbx : w0.heap[bx]? = some (.cells #[.int .i64 B, .int .i64 P, .int .i64 S] 23 (0, 0))) (h : Solo w0 p q cap b W) (hr : Rows4 W gn b.all) (hb : Below W.heap.size W W') :
    W'.cell? ⟨bx, 0, none⟩ = some (.int .i64 B) ∧ W'.cell? ⟨bx, 1, none⟩ = some (.int .i64 P) ∧ W'.cell? ⟨bx, 2, none⟩ = some (.int .i64 S) ∧ Solo w0 p q cap b W' ∧ Rows4 W' gn b.all := by
  have hs := h.of_below hb
  have e := (hs.below.block bx (lt_of_heap hbx)).trans hbx
  exact ⟨cell_of e rfl, cell_of e rfl, cell_of e rfl, hs, hr.below hb⟩
structure MInv (B P S : Int) (n : Nat) (b : Bks) (lf : Bool) : Prop where
  wf : WFB b
  len : b.all.length = n
  pages : b.pages = P
  left : lf = false → NoLeft b
/-- May the list of these calls hold a waiting block that leaves? -/
def LeavesW (b : Bks) (x : Op4) : Prop := x.kind = 8 ∧ ∃ (k : Nat) (y : Blk), x.block = (k : Int) ∧ b.all[k]? = some y ∧ y.state = 4
end Go.Proofs.Ytmohijpkhmeibaa
