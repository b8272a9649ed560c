/- begun of the law. -/
import Derived.Test.YtmohijpkhmeibaaMay
import Derived.Test.YtmohijpkhmeibaaWMore
namespace Go.Proofs.Ytmohijpkhmeibaa
open Go.RowKit Go.Proofs Go.Proofs.YtmohijpkhmeibaaW.PrintWords
open PBlocksRound
set_option linter.unusedVariables false
set_option linter.unusedSimpArgs false
set_option maxRecDepth 100000
attribute [local go_sem high] PBlocksRound.eqA34

def newErr (B P S : Int) (n : Nat) (cursor last : Int) : Int := if fitsB B P S then if placeB B n cursor last then 110 else 41 else 40
theorem newErr_ne (B P S : Int) (n : Nat) (cursor last : Int) : newErr B P S n cursor last ≠ 0 := by
  unfold newErr
  split
  · split <;> decide
  · decide
/-- A book of the program that stands in W. -/
structure PBook (w : World) (l : List S34) (P cursor last opn : Int) (p : Nat) (v : Value) (W : World) : Prop where
  head : W.heap[p]? = some (.cells #[.int .i64 P, v, .int .i64 cursor, .int .i64 last, .int .i64 (-1), .int .i64 opn] 69 (0, 0))
  row : Kd.R k71 71 W w.heap.size (fun _ => True) v (l.map blkOf)
  pb : w.heap.size ≤ p
theorem PBook.of_below {w : World} {l : List S34} {P cursor last opn : Int} {p : Nat} {v : Value} {W W' : World} (h : PBook w l P cursor last opn p v W) (hb : Below W.heap.size W W') : PBook w l P cursor last opn p v W' :=
  ⟨(hb.block _ (lt_of_heap h.head)).trans h.head, Kd.R_below h.row hb, h.pb⟩
theorem RN.of_below {w : World} {l : List S34} {P cursor last : Int} {rb lb k : Nat} {v : Value} {W W' : World} (h : RN w l P cursor last rb lb k v W) (hb : Below W.heap.size W W') : RN w l P cursor last rb lb k v W' :=
  ⟨(hb.block _ (lt_of_heap h.head)).trans h.head, Kd.R_below h.row hb, (hb.block _ (lt_of_heap h.left)).trans h.left, h.below.trans (hb.mono h.below.size), h.rbb, h.lbb⟩
theorem ne_of_type {W : World} {a b : Nat} {c d : Array Value} {s t : TypeId} (ha : W.heap[a]? = some (.cells c s (0, 0))) (hb : W.heap[b]? = some (.cells d t (0, 0))) (h : s ≠ t) : a ≠ b := by
  rintro rfl
  rw [ha] at hb
  injection hb with hb
  injection hb with _ hb
  exact h hb
theorem PBook.grown {w : World} {l : List S34} {P cursor last opn : Int} {p g : Nat} {v : Value} {cs : Array Value} {W W' : World} (h : PBook w l P cursor last opn p v W) (hg : W.heap[g]? = some (.cells cs 34 (0, 0))) (hw : W.grownBy W' (some g)) : PBook w l P cursor last opn p v W' :=
  ⟨(hw.block _ (lt_of_heap h.head) (fun e => ne_of_type h.head hg (by decide) (Option.some.inj e))).trans h.head, Kd.R_grown1 h.row rfl hw (Kd.R_ne h.row hg (by decide)), h.pb⟩
theorem RN.grown {w : World} {l : List S34} {P cursor last : Int} {rb lb k g : Nat} {v : Value} {cs : Array Value} {W W' : World} (h : RN w l P cursor last rb lb k v W) (hg : W.heap[g]? = some (.cells cs 34 (0, 0))) (hw : W.grownBy W' (some g)) (hne : some g ≠ v.ownBlock) (hgb : w.heap.size ≤ g) : RN w l P cursor last rb lb k v W' :=
  ⟨(hw.block _ (lt_of_heap h.head) (fun e => ne_of_type h.head hg (by decide) (Option.some.inj e))).trans h.head, Kd.R_grown1 h.row rfl hw hne, (hw.block _ (lt_of_heap h.left) (fun e => ne_of_type h.left hg (by decide) (Option.some.inj e))).trans h.left, h.below.grown hw h.below.size (fun j hj => by cases hj; exact hgb), h.rbb, h.lbb⟩

theorem new_all (B P S : Int) (A : Option Addr) (l : List S34) (c : Nat) (cursor last : Int) (w : World) (hl : Kd.C k34 w A l.length l) (hwf : ∀ x, x ∈ l → 0 ≤ x.f1) :
    Calls Try.prog 26 #[.agg #[.int .i64 B, .int .i64 P, .int .i64 S], .slice A l.length c, .int .i64 cursor, .int .i64 last] w fun e W => Below w.heap.size w W ∧
      ((newRes B P S l cursor last = none ∧ e = .returned (.tuple #[.pointer none, .int .i64 (newErr B P S l.length cursor last)])) ∨
       (∃ opn p v, newRes B P S l cursor last = some opn ∧ e = .returned (.tuple #[.pointer (some ⟨p, 0, none⟩), .int .i64 0]) ∧ PBook w l P cursor last opn p v W)) := by
  unfold newRes newErr
  cases hf : fitsB B P S
  · exact (new_shape B P S A l.length c cursor last w hf).mono fun e W h => ⟨h.2, .inl ⟨rfl, h.1⟩⟩
  cases hp : placeB B l.length cursor last
  · exact (new_place B P S A l.length c cursor last w hf hp).mono fun e W h => ⟨h.2, .inl ⟨rfl, h.1⟩⟩
  · refine (new_walk B P S A l c cursor last w hf hp hl hwf).mono fun e W h => ⟨h.1, ?_⟩
    have h2 := h.2
    show (newFrom P last [] (-1) l = none ∧ _) ∨ _
    cases hv : newFrom P last [] (-1) l with
    | none => rw [hv] at h2; exact .inl ⟨rfl, h2⟩
    | some opn =>
      rw [hv] at h2
      obtain ⟨p, v, he, hpb, hh, hr⟩ := h2
      exact .inr ⟨opn, p, v, rfl, he, hh, hr, hpb⟩
theorem rnew_all (B P S : Int) (A : Option Addr) (l : List S34) (c : Nat) (cursor last : Int) (w : World) (hl : Kd.C k34 w A l.length l) (hc : l.length ≤ c) (hwf : ∀ x, x ∈ l → 0 ≤ x.f1) :
    Calls Try.prog 33 #[.agg #[.int .i64 B, .int .i64 P, .int .i64 S], .slice A l.length c, .int .i64 cursor, .int .i64 last] w fun e W => Below w.heap.size w W ∧
      ((newRes B P S l cursor last = none ∧ e = .returned (.tuple #[.pointer none, .int .i64 (newErr B P S l.length cursor last)])) ∨
       (∃ opn, newRes B P S l cursor last = some opn ∧ RNewEnd w l P cursor last e W)) := by
  unfold newRes newErr
  cases hf : fitsB B P S
  · exact (rnew_shape B P S A l.length c cursor last w hf).mono fun e W h => ⟨h.2, .inl ⟨rfl, h.1⟩⟩
  cases hp : placeB B l.length cursor last
  · exact (rnew_place B P S A l.length c cursor last w hf hp).mono fun e W h => ⟨h.2, .inl ⟨rfl, h.1⟩⟩
  · have hpos : 8 ≤ B ∧ B ≤ 4096 ∧ 4 ≤ P ∧ P ≤ 256 := by
      have := hf
      unfold fitsB at this
      have := of_decide_eq_true this
      omega
    have hlen : (l.length : Int) = B := by
      have := hp
      unfold placeB at this
      simp only [Bool.not_eq_true', Bool.or_eq_false_iff] at this
      simpa using this.1.1.1.1
    obtain ⟨kk, hm⟩ := may_is l P last ⟨hpos.2.2.1, hpos.2.2.2⟩ (by omega) hwf
    show Calls Try.prog 33 _ w fun e W => _ ∧ ((newFrom P last [] (-1) l = none ∧ _) ∨ (∃ opn, newFrom P last [] (-1) l = some opn ∧ _))
    cases hv : newFrom P last [] (-1) l with
    | none =>
      rw [hv] at hm
      exact (rnew_may B P S A l c cursor last w hf hp hl hc kk hm).mono fun e W h => ⟨h.2, .inl ⟨rfl, h.1⟩⟩
    | some opn =>
      rw [hv] at hm
      refine (rnew_walk B P S A l c cursor last w hf hp hl hc kk hm).mono fun e W h => ⟨?_, .inr ⟨opn, rfl, h⟩⟩
      obtain ⟨rb, lb, v, _, h⟩ := h
      exact h.below

/-- The array of the copy while it is written over. -/
structure Over (g N : Nat) (W1 W : World) : Prop where
  off : W1.grownBy W (some g)
  cells : ∃ cs : Array Value, W.heap[g]? = some (.cells cs 34 (0, 0)) ∧ cs.size = N
theorem grownBy_set {a w : World} {g o : Nat} (h : a.grownBy w (some g)) (u : Value) : a.grownBy (w.setCell ⟨g, o, none⟩ u) (some g) :=
  ⟨h.os, h.tape, h.output, by simpa [World.setCell] using h.size, fun k hk hs => (Below.heap_setCell _ _ _ _ (fun e => hs (by rw [e]))).trans (h.block k hk hs)⟩
theorem Over.set {g N : Nat} {W1 W : World} (h : Over g N W1 W) (o : Nat) (u : Value) : Over g N W1 (W.setCell ⟨g, o, none⟩ u) := by
  obtain ⟨cs, hc, hn⟩ := h.cells
  exact ⟨grownBy_set h.off u, _, heap_set_same hc u, by rw [Array.size_setIfInBounds]; exact hn⟩
theorem Over.cell {g N : Nat} {W1 W : World} (h : Over g N W1 W) (o : Nat) (ho : o < N) : (∃ u, W.cell? ⟨g, o, none⟩ = some u) ∧ W.frozen? ⟨g, o, none⟩ = false := by
  obtain ⟨cs, hc, hn⟩ := h.cells
  exact ⟨⟨cs[o]'(by omega), cell_of hc (Array.getElem?_eq_getElem (by omega))⟩, free_of hc⟩
theorem grownBy_refl (w : World) (r : Option Nat) : w.grownBy w r := ⟨rfl, rfl, rfl, Nat.le_refl _, fun _ _ _ => rfl⟩

def BegunEnd (w : World) (B P S : Int) (l : List S34) (cursor last : Int) (e : Ending) (W : World) : Prop :=
  Below w.heap.size w W ∧ ((newRes B P S l cursor last = none ∧ e = .returned (.tuple #[.pointer none, .pointer none, .bool true])) ∨
    (∃ opn p v rb lb rv, newRes B P S l cursor last = some opn ∧ e = .returned (.tuple #[.pointer (some ⟨p, 0, none⟩), .pointer (some ⟨rb, 0, none⟩), .bool true]) ∧ PBook w l P cursor last opn p v W ∧ RN w l P cursor last rb lb l.length rv W))

theorem marks_shape {A : Option Addr} {c base : Nat} {l : List S34} {W : World} (hr : Kd.R k34 34 W base (fun _ => True) (.slice A (l.length + 2) c) (marks l)) :
    ∃ g cs, A = some ⟨g, 0, none⟩ ∧ base ≤ g ∧ W.heap[g]? = some (.cells cs 34 (0, 0)) ∧ l.length * 4 ≤ cs.size := by
  have hml : (marks l).length = l.length + 2 := by unfold marks; rw [List.length_append]; rfl
  obtain ⟨inner, ho⟩ := Kd.R_own hr
  obtain ⟨_, hcap, hC⟩ := Kd.R_reads' (by rw [← hml] at hr; exact hr)
  rw [hml] at hC
  rcases ho.2 with ⟨e, _⟩ | ⟨g, cap, cur, e, hg, hh, r⟩
  · injection e with _ e _
    omega
  · injection e with e _ _
    subst e
    obtain ⟨g', o', e, rows⟩ := kd_rows hC (by omega)
    injection e with e
    injection e with e1 e2
    subst e1 e2
    refine ⟨g, cur, rfl, hg, hh, ?_⟩
    have := (rows (l.length + 1) ⟨72, 0, false, 0⟩ (by unfold marks; rw [List.getElem?_append_right (by omega), show l.length + 1 - l.length = 1 by omega]; rfl)).1
    by_cases hlt : 0 + (l.length + 1) * 4 < cur.size
    · omega
    · unfold World.cell? at this
      rw [hh] at this
      simp only at this
      rw [Array.getElem?_eq_none (by omega)] at this
      cases this
theorem marks_copy {A : Option Addr} {c base : Nat} {l : List S34} {W : World} (hr : Kd.R k34 34 W base (fun _ => True) (.slice A (l.length + 2) c) (marks l)) : Kd.C k34 W A l.length l := by
  have hml : (marks l).length = l.length + 2 := by unfold marks; rw [List.length_append]; rfl
  have := Kd.R_take (m := l.length) (by rw [← hml] at hr; exact hr) (by omega)
  have e : (marks l).take l.length = l := by unfold marks; rw [List.take_left']; rfl
  rw [e] at this
  exact (Kd.R_reads' this).2.2

theorem PBook.lower {w w0 : World} {l : List S34} {P cursor last opn : Int} {p : Nat} {v : Value} {W : World} (h : PBook w0 l P cursor last opn p v W) (hb : w.heap.size ≤ w0.heap.size) : PBook w l P cursor last opn p v W :=
  ⟨h.head, Kd.R_lower h.row hb, Nat.le_trans hb h.pb⟩
theorem RN.lower {w w0 : World} {l : List S34} {P cursor last : Int} {rb lb k : Nat} {v : Value} {W : World} (h : RN w0 l P cursor last rb lb k v W) (hb : Below w.heap.size w w0) : RN w l P cursor last rb lb k v W :=
  ⟨h.head, Kd.R_lower h.row hb.size, h.left, hb.trans (h.below.mono hb.size), Nat.le_trans hb.size h.rbb, Nat.le_trans hb.size h.lbb⟩

set_option maxHeartbeats 4000000 in
theorem begun_no (B P S : Int) (A : Option Addr) (l : List S34) (c : Nat) (cursor last : Int) (w : World) (hl : Kd.C k34 w A l.length l) (hc : l.length ≤ c) (hreach : l.length * 32 ≤ 140737488351232) (hwf : ∀ x, x ∈ l → 0 ≤ x.f1) (hres : newRes B P S l cursor last = none) :
    Calls Try.prog 8 #[.agg #[.int .i64 B, .int .i64 P, .int .i64 S], .slice A l.length c, .int .i64 cursor, .int .i64 last] w (BegunEnd w B P S l cursor last) := by
  have RC := Lib.hid (fun W (hB : Below w.heap.size w W) => rnew_all B P S A l c cursor last W (Kd.C_below hl hB) hc hwf)
  have CC := Lib.hid (fun W (hB : Below w.heap.size w W) => copied_calls A c l W (Kd.C_below hl hB) hc hreach)
  have NC := Lib.hid (fun A' c' W (h : Kd.C k34 W A' l.length l) => new_all B P S A' l c' cursor last W h hwf)
  have KC := Lib.hid (fun A' c' base W (hB : Below w.heap.size w W) (h : Kd.R k34 34 W base (fun _ => True) (.slice A' (l.length + 2) c') (marks l)) => kept_calls A' A c' c base l W h (Kd.C_below hl hB) hc hreach)
  have HRES := Lib.hid hres
  have HREACH := Lib.hid hreach
  have herr : (newErr B P S l.length cursor last != 0) = true := by rw [bne_iff_ne]; exact newErr_ne B P S l.length cursor last
  clear hl hreach hwf hres
  go_enter Try.func8, Try.ntmps8
  go_wp2_with (go_at_call 33; fail)
  refine (RC.out _ ((Below.refl _ _).alloc (Nat.le_refl _) _)).mono ?_
  rintro e w1 ⟨hb1, h⟩
  have kh := (hb1.block w.heap.size (by rw [World.size_alloc]; omega)).trans (heap_alloc_new w _)
  have kb : Below w.heap.size w w1 := ((Below.refl _ _).alloc (Nat.le_refl _) _).trans (hb1.mono (by rw [World.size_alloc]; omega))
  have KH := Lib.hid kh
  have KB := Lib.hid kb
  clear kh kb hb1
  rcases h with ⟨_, rfl⟩ | ⟨opn, ho, _⟩
  case inr => rw [HRES.out] at ho; cases ho
  go_wp2_with (go_at_call 27; fail)
  refine (CC.out _ KB.out).mono ?_
  rintro e w2 ⟨A2, c2, rfl, hR, hb2⟩
  have kh := (hb2.block w.heap.size (lt_of_heap KH.out)).trans KH.out
  have kb := KB.out.trans (hb2.mono KB.out.size)
  have z0 := cell_of (o := 0) kh rfl
  have z1 := cell_of (o := 1) kh rfl
  have z2 := cell_of (o := 2) kh rfl
  have HRR := Lib.hid hR
  have KB2 := Lib.hid kb
  clear kh kb hb2 hR
  go_wp2_with (go_at_call 26; fail)
  refine (NC.out A2 c2 w2 (marks_copy HRR.out)).mono ?_
  rintro e w3 ⟨hb3, h⟩
  have KB3 := Lib.hid (KB2.out.trans (hb3.mono KB2.out.size))
  have HR3 := Lib.hid (Kd.R_below HRR.out hb3)
  clear z0 z1 z2 hb3
  rcases h with ⟨_, rfl⟩ | ⟨opn, p, v, ho, _⟩
  case inr => rw [HRES.out] at ho; cases ho
  go_wp2_with (go_at_call 34; refine (KC.out A2 c2 _ _ KB3.out HR3.out).mono ?_; rintro e w4 ⟨rfl, ⟨⟨nn, rfl⟩⟩⟩)
  obtain ⟨g, cs, rfl, hgb, hgc, hgn⟩ := marks_shape HR3.out
  have HOV := Lib.hid (show Over g cs.size (w3.drewN nn) (w3.drewN nn) from ⟨grownBy_refl _ _, cs, hgc, rfl⟩)
  have HGB := Lib.hid hgb
  have HGC := Lib.hid (show (w3.drewN nn).heap[g]? = some (.cells cs 34 (0, 0)) from hgc)
  have HGN := Lib.hid hgn
  have KB4 := Lib.hid (pw_below_drewN KB3.out nn)
  clear hgb hgc hgn HR3 herr
  revert HOV HGC KB4
  generalize w3.drewN nn = W4
  intro HOV HGC KB4
  go_loopg [17] l.length (fun gk s wx => ∃ k : Nat, s = .int .i64 k ∧ k + gk = l.length ∧ Over g cs.size W4 wx)
  case atStart => exact ⟨0, rfl, by omega, HOV.out⟩
  case round =>
    obtain ⟨k, rfl, hk, hN⟩ := hrel
    have HK := Lib.hid hk
    have HN1 := Lib.hid hN
    clear hk hN
    by_cases hlt : k < l.length
    · obtain ⟨⟨u0, e0⟩, f0⟩ := HN1.out.cell (k * 4) (by have := HGN.out; omega)
      obtain ⟨⟨u1, e1⟩, f1⟩ := HN1.out.cell (k * 4 + 1) (by have := HGN.out; omega)
      obtain ⟨⟨u2, e2⟩, f2⟩ := HN1.out.cell (k * 4 + 2) (by have := HGN.out; omega)
      obtain ⟨⟨u3, e3⟩, f3⟩ := HN1.out.cell (k * 4 + 3) (by have := HGN.out; omega)
      have HOK : ∀ b d e f, Over g cs.size W4 ((((wr.setCell ⟨g, k * 4, none⟩ b).setCell ⟨g, k * 4 + 1, none⟩ d).setCell ⟨g, k * 4 + 2, none⟩ e).setCell ⟨g, k * 4 + 3, none⟩ f) := fun b d e f => (((HN1.out.set _ _).set _ _).set _ _).set _ _
      have HOK' := Lib.hid HOK
      clear HOK
      have hki : (k : Int) < (l.length : Int) := by omega
      go_wp2
      go_roundg (gk - 1)
      case measure => have := HK.out; omega
      case rel => exact ⟨k + 1, by (have e64 : wrap64 ((k : Int) + 1) = ((k + 1 : Nat) : Int) := (by have := HREACH.out; unfold wrap64; omega); first | rfl | (rw [e64]; done) | (simp [e64]; done)), by have := HK.out; omega, HOK'.out _ _ _ _⟩
    · have hki : ¬ (k : Int) < (l.length : Int) := by omega
      go_wp2
      refine bodyPost_ret (v := .tuple #[.pointer none, .pointer none, .bool true]) (by simp [results, Try.results8, go_sem]) rfl ?_
      exact ⟨KB4.out.grown HN1.out.off KB4.out.size (fun j hj => by cases hj; have := HGB.out; have := KB.out.size; omega), .inl ⟨HRES.out, rfl⟩⟩

set_option maxHeartbeats 4000000 in
theorem begun_yes (B P S : Int) (A : Option Addr) (l : List S34) (c : Nat) (cursor last : Int) (w : World) (hl : Kd.C k34 w A l.length l) (hc : l.length ≤ c) (hreach : l.length * 32 ≤ 140737488351232) (hwf : ∀ x, x ∈ l → 0 ≤ x.f1) (opn : Int) (hres : newRes B P S l cursor last = some opn) :
    Calls Try.prog 8 #[.agg #[.int .i64 B, .int .i64 P, .int .i64 S], .slice A l.length c, .int .i64 cursor, .int .i64 last] w (BegunEnd w B P S l cursor last) := by
  have RC := Lib.hid (fun W (hB : Below w.heap.size w W) => rnew_all B P S A l c cursor last W (Kd.C_below hl hB) hc hwf)
  have CC := Lib.hid (fun W (hB : Below w.heap.size w W) => copied_calls A c l W (Kd.C_below hl hB) hc hreach)
  have NC := Lib.hid (fun A' c' W (h : Kd.C k34 W A' l.length l) => new_all B P S A' l c' cursor last W h hwf)
  have KC := Lib.hid (fun A' c' base W (hB : Below w.heap.size w W) (h : Kd.R k34 34 W base (fun _ => True) (.slice A' (l.length + 2) c') (marks l)) => kept_calls A' A c' c base l W h (Kd.C_below hl hB) hc hreach)
  have HRES := Lib.hid hres
  have HREACH := Lib.hid hreach
  clear hl hreach hwf hres
  go_enter Try.func8, Try.ntmps8
  go_wp2_with (go_at_call 33; fail)
  refine (RC.out _ ((Below.refl _ _).alloc (Nat.le_refl _) _)).mono ?_
  rintro e w1 ⟨hb1, h⟩
  have kh := (hb1.block w.heap.size (by rw [World.size_alloc]; omega)).trans (heap_alloc_new w _)
  have kb : Below w.heap.size w w1 := ((Below.refl _ _).alloc (Nat.le_refl _) _).trans (hb1.mono (by rw [World.size_alloc]; omega))
  have KH := Lib.hid kh
  have KB := Lib.hid kb
  clear kh kb hb1
  rcases h with ⟨ho, _⟩ | ⟨opn', ho, rb, lb, rv, rfl, hrn⟩
  case inl => rw [HRES.out] at ho; cases ho
  clear ho
  have HRN := Lib.hid (hrn.lower (w := w) ((Below.refl _ _).alloc (Nat.le_refl _) _))
  clear hrn
  have hrlt := Kd.R_lt HRN.out.row
  go_wp2_with (go_at_call 27; fail)
  refine (CC.out _ KB.out).mono ?_
  rintro e w2 ⟨A2, c2, rfl, hR, hb2⟩
  have kh := (hb2.block w.heap.size (lt_of_heap KH.out)).trans KH.out
  have kb := KB.out.trans (hb2.mono KB.out.size)
  have z0 := cell_of (o := 0) kh rfl
  have z1 := cell_of (o := 1) kh rfl
  have z2 := cell_of (o := 2) kh rfl
  have HRR := Lib.hid hR
  have HRN2 := Lib.hid (HRN.out.of_below hb2)
  have KB2 := Lib.hid kb
  clear kh kb hb2 hR
  go_wp2_with (go_at_call 26; fail)
  refine (NC.out A2 c2 w2 (marks_copy HRR.out)).mono ?_
  rintro e w3 ⟨hb3, h⟩
  have KB3 := Lib.hid (KB2.out.trans (hb3.mono KB2.out.size))
  have HR3 := Lib.hid (Kd.R_below HRR.out hb3)
  have HRN3 := Lib.hid (HRN2.out.of_below hb3)
  clear z0 z1 z2 hb3
  rcases h with ⟨ho, _⟩ | ⟨opn', p, v, ho, rfl, hpb⟩
  case inl => rw [HRES.out] at ho; cases ho
  obtain rfl : opn = opn' := Option.some.inj (HRES.out.symm.trans ho)
  clear ho
  have HPB3 := Lib.hid (hpb.lower (w := w) KB2.out.size)
  clear hpb
  go_wp2_with (go_at_call 34; refine (KC.out A2 c2 _ _ KB3.out HR3.out).mono ?_; rintro e w4 ⟨rfl, ⟨⟨nn, rfl⟩⟩⟩)
  obtain ⟨g, cs, rfl, hgb, hgc, hgn⟩ := marks_shape HR3.out
  have HOV := Lib.hid (show Over g cs.size (w3.drewN nn) (w3.drewN nn) from ⟨grownBy_refl _ _, cs, hgc, rfl⟩)
  have HGB := Lib.hid hgb
  have HGC := Lib.hid (show (w3.drewN nn).heap[g]? = some (.cells cs 34 (0, 0)) from hgc)
  have HGN := Lib.hid hgn
  have KB4 := Lib.hid (pw_below_drewN KB3.out nn)
  have HPB4 := Lib.hid (HPB3.out.of_below (W' := w3.drewN nn) (pw_below_drewN (Below.refl _ _) nn))
  have HRN4 := Lib.hid (HRN3.out.of_below (W' := w3.drewN nn) (pw_below_drewN (Below.refl _ _) nn))
  have HNE := Lib.hid (show some g ≠ rv.ownBlock from fun e => by have := hrlt g e.symm; omega)
  clear HPB3 HRN3 HRN2 HRN hrlt
  clear hgb hgc hgn HR3
  revert HOV HGC KB4 HPB4 HRN4
  generalize w3.drewN nn = W4
  intro HOV HGC KB4 HPB4 HRN4
  go_loopg [17] l.length (fun gk s wx => ∃ k : Nat, s = .int .i64 k ∧ k + gk = l.length ∧ Over g cs.size W4 wx)
  case atStart => exact ⟨0, rfl, by omega, HOV.out⟩
  case round =>
    obtain ⟨k, rfl, hk, hN⟩ := hrel
    have HK := Lib.hid hk
    have HN1 := Lib.hid hN
    clear hk hN
    by_cases hlt : k < l.length
    · obtain ⟨⟨u0, e0⟩, f0⟩ := HN1.out.cell (k * 4) (by have := HGN.out; omega)
      obtain ⟨⟨u1, e1⟩, f1⟩ := HN1.out.cell (k * 4 + 1) (by have := HGN.out; omega)
      obtain ⟨⟨u2, e2⟩, f2⟩ := HN1.out.cell (k * 4 + 2) (by have := HGN.out; omega)
      obtain ⟨⟨u3, e3⟩, f3⟩ := HN1.out.cell (k * 4 + 3) (by have := HGN.out; omega)
      have HOK : ∀ b d e f, Over g cs.size W4 ((((wr.setCell ⟨g, k * 4, none⟩ b).setCell ⟨g, k * 4 + 1, none⟩ d).setCell ⟨g, k * 4 + 2, none⟩ e).setCell ⟨g, k * 4 + 3, none⟩ f) := fun b d e f => (((HN1.out.set _ _).set _ _).set _ _).set _ _
      have HOK' := Lib.hid HOK
      clear HOK
      have hki : (k : Int) < (l.length : Int) := by omega
      go_wp2
      go_roundg (gk - 1)
      case measure => have := HK.out; omega
      case rel => exact ⟨k + 1, by (have e64 : wrap64 ((k : Int) + 1) = ((k + 1 : Nat) : Int) := (by have := HREACH.out; unfold wrap64; omega); first | rfl | (rw [e64]; done) | (simp [e64]; done)), by have := HK.out; omega, HOK'.out _ _ _ _⟩
    · have hki : ¬ (k : Int) < (l.length : Int) := by omega
      go_wp2
      refine bodyPost_ret (v := .tuple #[.pointer (some ⟨p, 0, none⟩), .pointer (some ⟨rb, 0, none⟩), .bool true]) (by simp [results, Try.results8, go_sem]) rfl ?_
      exact ⟨KB4.out.grown HN1.out.off KB4.out.size (fun j hj => by cases hj; have := HGB.out; have := KB.out.size; omega), .inr ⟨opn, p, v, rb, lb, rv, HRES.out, rfl, HPB4.out.grown HGC.out HN1.out.off, HRN4.out.grown HGC.out HN1.out.off HNE.out (by have := HGB.out; have := KB.out.size; omega)⟩⟩

theorem begun_calls (B P S : Int) (A : Option Addr) (l : List S34) (c : Nat) (cursor last : Int) (w : World) (hl : Kd.C k34 w A l.length l) (hc : l.length ≤ c) (hreach : l.length * 32 ≤ 140737488351232) (hwf : ∀ x, x ∈ l → 0 ≤ x.f1) :
    Calls Try.prog 8 #[.agg #[.int .i64 B, .int .i64 P, .int .i64 S], .slice A l.length c, .int .i64 cursor, .int .i64 last] w (BegunEnd w B P S l cursor last) := by
  cases hres : newRes B P S l cursor last with
  | none => exact begun_no B P S A l c cursor last w hl hc hreach hwf hres
  | some opn => exact begun_yes B P S A l c cursor last w hl hc hreach hwf opn hres
end Go.Proofs.Ytmohijpkhmeibaa
