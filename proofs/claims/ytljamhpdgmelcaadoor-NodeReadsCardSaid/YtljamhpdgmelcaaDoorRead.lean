/- node.Read of short bytes, of none; the reference's Read of bytes that are not shaped as a header. -/
import Derived.Test.YtljamhpdgmelcaaDoorTake
import Derived.Laws.EntriesVeiled
import Derived.Test.YtljamhpdgmelcaaDoorPHDNodeReadsx1
namespace Go.Proofs.YtljamhpdgmelcaaDoor
section
open Go.RowKit Go.Proofs Go.Proofs.YtljamhpdgmelcaaDoorW.PrintWords
set_option linter.unusedVariables false
set_option linter.unusedSimpArgs false
attribute [local go_sem] Oper.semAt_some

theorem counted_calls (rb kb fb g o c : Nat) (L : List Int) (ok : Bool) (w : World) (h : St w rb kb fb g o c L ok) :
    Calls Tryd.prog 18 #[.pointer (some ⟨fb, 0, none⟩)] w fun e w' => e = .returned (.string (cntS L)) ∧ (∃ o' c', St w' rb kb fb g o' c' (cntL L) (ok && cntK L)) ∧ Near rb kb w w' := by
  match L, h with
  | [], h => exact (counted_nil rb kb fb g o c ok w h).mono fun e w' ⟨h1, h2, h3⟩ => ⟨h1, ⟨o, c, by rw [cntK, Bool.and_false]; exact h2⟩, h3⟩
  | x :: t, h =>
    obtain ⟨y, rfl⟩ := Int.eq_ofNat_of_zero_le (h.b x (by simp)).1
    exact counted_cons rb kb fb g o c y t ok w h

set_option maxHeartbeats 1000000 in
theorem getc_calls (g o c hb : Nat) (a s : Int) (H : List Int) (w : World) (hc : w.cell? ⟨hb, 0, none⟩ = some (.slice (some ⟨g, o, none⟩) H.length c)) (hv : Vw w g o H) (hB : Byts H) (ha : 0 ≤ a) (hs1 : 1 ≤ s) (hs8 : s ≤ 8) (hat : a + s ≤ H.length) (hL : H.length ≤ 1024) (ho : (0 : Nat) ≤ 281474976710656) :
    Calls Tryd.prog 19 #[.agg #[.int .i64 a, .int .i64 s], .pointer (some ⟨hb, 0, none⟩)] w fun e w' => e = .returned (.int .u64 (leV H a.toNat s.toNat)) ∧ Below w.heap.size w w' := by
  obtain ⟨a, rfl⟩ := Int.eq_ofNat_of_zero_le ha
  obtain ⟨s, rfl⟩ := Int.eq_ofNat_of_zero_le (show 0 ≤ s by omega)
  simp only [Int.toNat_natCast]
  have hlt := lt_of_cell hc
  have hc' : (w.alloc (.cells #[.int .i64 a, .int .i64 s] 49)).cell? ⟨hb, 0, none⟩ = some (.slice (some ⟨g, o, none⟩) H.length c) := by
    rw [World.cell?_alloc_old _ _ _ (Nat.ne_of_lt hlt)]; exact hc
  have V := Lib.hid (hv.below ((Below.refl _ _).alloc (Nat.le_refl _) (.cells #[.int .i64 a, .int .i64 s] 49)))
  have B := Lib.hid hB
  clear hv hc hB hlt
  go_enter Tryd.func19, Tryd.ntmps19
  go_wp2_with (go_at_call 20; fail)
  refine (get_calls g o c a s H _ V.out B.out (by omega) (by omega) (by omega) hL ho).mono ?_
  rintro e w' ⟨rfl, rfl⟩
  go_wp2
  go_ret
  exact ⟨rfl, (Below.refl _ _).alloc (Nat.le_refl _) _⟩

def zc : Array Value := #[.int .i64 0, .int .i64 0, .string ⟨#[]⟩, .int .i64 0, .int .i64 0, .int .u64 0, .int .i64 0, .string ⟨#[]⟩]
theorem St.below {W W' : World} {rb kb fb g o c : Nat} {L : List Int} {ok : Bool} (h : St W rb kb fb g o c L ok) (hb : Below W.heap.size W W') : St W' rb kb fb g o c L ok :=
  have at_ : ∀ {b : Nat} {x : Obj}, W.heap[b]? = some x → W'.heap[b]? = some x := fun hx => (hb.block _ (Array.getElem?_eq_some_iff.1 hx).1).trans hx
  ⟨at_ h.r, at_ h.k, at_ h.f, h.v.below hb, h.b, h.le, h.ln, h.lo, h.hrk, h.hrf, h.hkf, h.hgr, h.hgk⟩
/-- While Read walks: the boxes, the result's box, what was. -/
structure RI (w0 : World) (rx rb kb fb g o c : Nat) (L : List Int) (ok : Bool) (W : World) : Prop where
  st : St W rb kb fb g o c L ok
  x : W.heap[rx]? = some (.cells zc 25 (0, 0))
  n1 : rx ≠ rb
  n2 : rx ≠ kb
  below : Below w0.heap.size w0 W
  b1 : w0.heap.size ≤ rb
  b2 : w0.heap.size ≤ kb
theorem RI.near {w0 W W' : World} {rx rb kb fb g o c o' c' : Nat} {L L' : List Int} {ok ok' : Bool} (h : RI w0 rx rb kb fb g o c L ok W) (hn : Near rb kb W W') (hs : St W' rb kb fb g o' c' L' ok') : RI w0 rx rb kb fb g o' c' L' ok' W' :=
  ⟨hs, hn.heap h.x h.n1 h.n2, h.n1, h.n2, ⟨hn.os.trans h.below.os, hn.tape.trans h.below.tape, hn.output.trans h.below.output, Nat.le_trans h.below.size hn.size, fun k hk =>
    (hn.block k (Nat.lt_of_lt_of_le hk h.below.size) (by have := h.b1; omega) (by have := h.b2; omega)).trans (h.below.block k hk)⟩, h.b1, h.b2⟩
theorem RI.under {w0 W W' : World} {rx rb kb fb g o c : Nat} {L : List Int} {ok : Bool} (h : RI w0 rx rb kb fb g o c L ok W) (hb : Below W.heap.size W W') : RI w0 rx rb kb fb g o c L ok W' := h.near (Near.of_below hb) (h.st.below hb)
theorem RI.start (g o c : Nat) (L : List Int) (w : World) (hv : Vw w g o L) (hB : Byts L) (hc : L.length ≤ c) (hl : L.length ≤ 281474976710656) (ho : L.length ≤ 281474976710656) (hg : g < w.heap.size) :
    RI w w.heap.size (w.heap.size + 1) (w.heap.size + 1 + 1) (w.heap.size + 1 + 1 + 1) g o c L true ((((w.alloc (.cells zc 25)).alloc (.cells #[.slice (some ⟨g, o, none⟩) L.length c] 22)).alloc (.cells #[.bool true] 4)).alloc (.cells #[.func (.func 17) #[] #[.pointer (some ⟨w.heap.size + 1, 0, none⟩), .pointer (some ⟨w.heap.size + 1 + 1, 0, none⟩)]] 46)) := by
  have hb : Below w.heap.size w ((((w.alloc (.cells zc 25)).alloc (.cells #[.slice (some ⟨g, o, none⟩) L.length c] 22)).alloc (.cells #[.bool true] 4)).alloc (.cells #[.func (.func 17) #[] #[.pointer (some ⟨w.heap.size + 1, 0, none⟩), .pointer (some ⟨w.heap.size + 1 + 1, 0, none⟩)]] 46)) :=
    ((((Below.refl _ _).alloc (Nat.le_refl _) _).alloc (by simp) _).alloc (by simp; omega) _).alloc (by simp; omega) _
  refine ⟨⟨?_, ?_, ?_, hv.below hb, hB, hc, hl, ho, by omega, by omega, by omega, by omega, by omega⟩, ?_, by omega, by omega, hb, by omega, by omega⟩
  · rw [Below.heap_alloc _ _ _ (by simp), Below.heap_alloc _ _ _ (by simp), alloc_new _ _ _ (by simp)]
  · rw [Below.heap_alloc _ _ _ (by simp), alloc_new _ _ _ (by simp)]
  · rw [alloc_new _ _ _ (by simp)]
  · rw [Below.heap_alloc _ _ _ (by simp; omega), Below.heap_alloc _ _ _ (by simp; omega), Below.heap_alloc _ _ _ (by simp), alloc_new _ _ _ rfl]

/-- Eight stores, one a field. -/
def put8 (W : World) (b : Nat) (n : Nd) : World := (((((((W.setCell ⟨b, 0, none⟩ (.int .i64 n.ty)).setCell ⟨b, 1, none⟩ (.int .i64 n.parent)).setCell ⟨b, 2, none⟩ (.string n.name)).setCell ⟨b, 3, none⟩ (.int .i64 n.size)).setCell ⟨b, 4, none⟩ (.int .i64 n.mode)).setCell ⟨b, 5, none⟩ (.int .u64 n.stamp)).setCell ⟨b, 6, none⟩ (.int .i64 n.shadow)).setCell ⟨b, 7, none⟩ (.string n.target)
theorem put8_heap {W : World} {b : Nat} (n : Nd) (h : W.heap[b]? = some (.cells zc 25 (0, 0))) : (put8 W b n).heap[b]? = some (.cells n.cs.toArray 25 (0, 0)) := by
  have h1 := heap_setCell_same _ _ 0 _ _ (.int .i64 n.ty) h
  have h2 := heap_setCell_same _ _ 1 _ _ (.int .i64 n.parent) h1
  have h3 := heap_setCell_same _ _ 2 _ _ (.string n.name) h2
  have h4 := heap_setCell_same _ _ 3 _ _ (.int .i64 n.size) h3
  have h5 := heap_setCell_same _ _ 4 _ _ (.int .i64 n.mode) h4
  have h6 := heap_setCell_same _ _ 5 _ _ (.int .u64 n.stamp) h5
  have h7 := heap_setCell_same _ _ 6 _ _ (.int .i64 n.shadow) h6
  have h8 := heap_setCell_same _ _ 7 _ _ (.string n.target) h7
  simp only [zc, List.setIfInBounds_toArray, List.set_cons_zero, List.set_cons_succ] at h8
  exact h8
theorem put8_below {w0 W : World} {b B : Nat} (n : Nd) (h : Below B w0 W) (hb : B ≤ b) : Below B w0 (put8 W b n) := by
  unfold put8
  exact (((((((h.setCell (p := ⟨b, 0, none⟩) hb _).setCell (p := ⟨b, 1, none⟩) hb _).setCell (p := ⟨b, 2, none⟩) hb _).setCell (p := ⟨b, 3, none⟩) hb _).setCell (p := ⟨b, 4, none⟩) hb _).setCell (p := ⟨b, 5, none⟩) hb _).setCell (p := ⟨b, 6, none⟩) hb _).setCell (p := ⟨b, 7, none⟩) hb _
theorem cells8 {W : World} {b : Nat} (h : W.heap[b]? = some (.cells zc 25 (0, 0))) :
    (∀ j v, zc[j]? = some v → W.cell? ⟨b, j, none⟩ = some v) ∧ ∀ j, W.frozen? ⟨b, j, none⟩ = false :=
  ⟨fun j v hv => by simp only [World.cell?, h]; exact hv, fun j => frozen_of_row _ _ _ _ _ h⟩

set_option maxHeartbeats 2000000 in
theorem read_short (g o c : Nat) (L : List Int) (w : World) (hv : Vw w g o L) (hB : Byts L) (hc : L.length ≤ c) (hl : L.length ≤ 281474976710656) (ho : L.length ≤ 281474976710656) (hg : g < w.heap.size) (h23 : L.length < 23) :
    Calls Tryd.prog 9 #[.slice (some ⟨g, o, none⟩) L.length c] w fun e w' => e = .returned (.tuple #[zeroNd.v, .int .i64 80]) ∧ Below w.heap.size w w' := by
  have R0 := RI.start g o c L w hv hB hc hl ho hg
  unfold zc at R0
  have H23 := Lib.hid h23
  obtain ⟨m, hm⟩ : ∃ m, m = L.length := ⟨_, rfl⟩
  rw [← hm] at R0 ⊢
  clear hv hB hc hl ho hg h23 hm
  go_enter Tryd.func9, Tryd.ntmps9
  go_upto_region 5 with (first | fail)
  revert R0
  generalize ((((w.alloc (.cells #[.int .i64 0, .int .i64 0, .string ⟨#[]⟩, .int .i64 0, .int .i64 0, .int .u64 0, .int .i64 0, .string ⟨#[]⟩] 25)).alloc (.cells #[.slice (some ⟨g, o, none⟩) m c] 22)).alloc (.cells #[.bool true] 4)).alloc (.cells #[.func (.func 17) #[] #[.pointer (some ⟨w.heap.size + 1, 0, none⟩), .pointer (some ⟨w.heap.size + 1 + 1, 0, none⟩)]] 46)) = W0
  generalize w.heap.size + 1 + 1 + 1 = fb
  generalize w.heap.size + 1 + 1 = kb
  generalize w.heap.size + 1 = rb
  obtain ⟨rx, hrx⟩ : ∃ rx, rx = w.heap.size := ⟨_, rfl⟩
  rw [← hrx]
  intro R0
  have HRX := Lib.hid hrx
  clear hrx
  obtain ⟨f0, _⟩ := cell_of_heap1 R0.st.f
  have Q0 := Lib.hid R0
  clear R0
  go_wp2_with (go_at_call 17; fail)
  refine (take_no rb kb fb g o c 23 L true W0 Q0.out.st H23.out (by decide)).mono ?_
  rintro e W1 ⟨rfl, s1, n1⟩
  have R1 := (Q0.out.near n1 s1).under (W' := W1.alloc (.cells #[.slice none 0 0] 22)) ((Below.refl _ _).alloc (Nat.le_refl _) _)
  have Q1 := Lib.hid R1
  clear R1 s1 n1 f0 Q0
  go_wp2_with (go_at_call 18; fail)
  refine (counted_calls rb kb fb g o c L false _ Q1.out.st).mono ?_
  rintro e W2 ⟨rfl, ⟨o2, c2, s2⟩, n2⟩
  have Q2 := Lib.hid (Q1.out.near n2 s2)
  clear s2 n2 Q1
  go_wp2_with (go_at_call 18; fail)
  refine (counted_calls rb kb fb g o2 c2 _ _ _ Q2.out.st).mono ?_
  rintro e W3 ⟨rfl, ⟨o3, c3, s3⟩, n3⟩
  rw [Bool.false_and, Bool.false_and] at s3
  have R3 := Q2.out.near n3 s3
  obtain ⟨k3, _⟩ := cell_of_heap1 R3.st.k
  obtain ⟨r3, _⟩ := cell_of_heap1 R3.st.r
  have x3 := R3.x
  obtain ⟨xc, xf⟩ := cells8 x3
  have y0 := xc 0 _ rfl
  have y1 := xc 1 _ rfl
  have y2 := xc 2 _ rfl
  have y3 := xc 3 _ rfl
  have y4 := xc 4 _ rfl
  have y5 := xc 5 _ rfl
  have y6 := xc 6 _ rfl
  have y7 := xc 7 _ rfl
  have X3 := Lib.hid x3
  have Q3 := Lib.hid R3
  clear s3 n3 Q2 R3 xc x3
  go_wp2
  have hp := put8_heap zeroNd X3.out
  have hb := put8_below zeroNd Q3.out.below (b := rx) (by rw [HRX.out]; exact Nat.le_refl _)
  refine bodyPost_ret (results_ct rfl _ _ _ _ _ _ _ rfl hp Tryd.underlying25 rfl (by kernel_rfl)) rfl ?_
  exact ⟨rfl, hb⟩
end

section
open Go.RowKit Go.Proofs Go.Proofs.YtljamhpdgmelcaaDoorW.PrintWords
set_option linter.unusedVariables false
set_option linter.unusedSimpArgs false
attribute [local go_sem] Oper.semAt_some

structure S0 (W : World) (rb kb fb : Nat) (A : Option Addr) (c : Nat) (ok : Bool) : Prop where
  r : W.heap[rb]? = some (.cells #[.slice A 0 c] 22 (0, 0))
  k : W.heap[kb]? = some (.cells #[.bool ok] 4 (0, 0))
  f : W.heap[fb]? = some (.cells #[.func (.func 17) #[] #[.pointer (some ⟨rb, 0, none⟩), .pointer (some ⟨kb, 0, none⟩)]] 46 (0, 0))
  hrk : rb ≠ kb
  hrf : rb ≠ fb
  hkf : kb ≠ fb

set_option maxHeartbeats 2000000 in
theorem take0 (rb kb fb : Nat) (A : Option Addr) (c n : Nat) (ok : Bool) (w : World) (h : S0 w rb kb fb A c ok) (hn : 0 < n) (hn2 : n ≤ 1024) :
    Calls Tryd.prog 17 #[.int .i64 n, .pointer (some ⟨rb, 0, none⟩), .pointer (some ⟨kb, 0, none⟩)] w fun e w' => e = .returned (.slice none 0 0) ∧ S0 w' rb kb fb A c false ∧ Near rb kb w w' := by
  obtain ⟨hr, hfr⟩ := cell_of_heap1 h.r
  obtain ⟨hk, hfk⟩ := cell_of_heap1 h.k
  have hS : S0 (w.setCell ⟨kb, 0, none⟩ (.bool false)) rb kb fb A c false := by
    obtain ⟨h1, h2, h3, h4, h5, h6⟩ := h
    exact ⟨(heap_setCell_other _ _ _ _ h4).trans h1, by rw [heap_setCell_same _ _ _ _ _ _ h2]; rfl, (heap_setCell_other _ _ _ _ h6.symm).trans h3, h4, h5, h6⟩
  have H := Lib.hid hS
  have hnz : (0 : Int) < (n : Int) := by omega
  clear h hS
  go_enter Tryd.func17, Tryd.ntmps17
  go_wp2
  go_ret
  exact ⟨rfl, H.out, (Near.refl rb kb w).set (.inr rfl) _⟩

set_option maxHeartbeats 2000000 in
theorem counted0 (rb kb fb : Nat) (A : Option Addr) (c : Nat) (ok : Bool) (w : World) (h : S0 w rb kb fb A c ok) :
    Calls Tryd.prog 18 #[.pointer (some ⟨fb, 0, none⟩)] w fun e w' => e = .returned (.string ByteArray.empty) ∧ S0 w' rb kb fb A c false ∧ Near rb kb w w' := by
  obtain ⟨hf, hff⟩ := cell_of_heap1 h.f
  have H := Lib.hid h
  clear h
  go_enter Tryd.func18, Tryd.ntmps18
  go_wp2_with (go_at_call 17; fail)
  refine (take0 rb kb fb A c 1 ok w H.out (by decide) (by decide)).mono ?_
  rintro e w1 ⟨rfl, h1, h2⟩
  have H1 := Lib.hid h1
  have H2 := Lib.hid h2
  clear h1 h2
  have en := eqnil
  go_wp2
  go_ret
  exact ⟨rfl, H1.out, H2.out⟩

structure RI0 (w0 : World) (rx rb kb fb : Nat) (A : Option Addr) (c : Nat) (ok : Bool) (W : World) : Prop where
  st : S0 W rb kb fb A c ok
  x : W.heap[rx]? = some (.cells zc 25 (0, 0))
  n1 : rx ≠ rb
  n2 : rx ≠ kb
  below : Below w0.heap.size w0 W
  b1 : w0.heap.size ≤ rb
  b2 : w0.heap.size ≤ kb
theorem RI0.near {w0 W W' : World} {rx rb kb fb c c' : Nat} {A A' : Option Addr} {ok ok' : Bool} (h : RI0 w0 rx rb kb fb A c ok W) (hn : Near rb kb W W') (hs : S0 W' rb kb fb A' c' ok') : RI0 w0 rx rb kb fb A' c' ok' W' :=
  ⟨hs, hn.heap h.x h.n1 h.n2, h.n1, h.n2, ⟨hn.os.trans h.below.os, hn.tape.trans h.below.tape, hn.output.trans h.below.output, Nat.le_trans h.below.size hn.size, fun k hk =>
    (hn.block k (Nat.lt_of_lt_of_le hk h.below.size) (by have := h.b1; omega) (by have := h.b2; omega)).trans (h.below.block k hk)⟩, h.b1, h.b2⟩
theorem S0.below {W W' : World} {rb kb fb c : Nat} {A : Option Addr} {ok : Bool} (h : S0 W rb kb fb A c ok) (hb : Below W.heap.size W W') : S0 W' rb kb fb A c ok :=
  have at_ : ∀ {b : Nat} {x : Obj}, W.heap[b]? = some x → W'.heap[b]? = some x := fun hx => (hb.block _ (Array.getElem?_eq_some_iff.1 hx).1).trans hx
  ⟨at_ h.r, at_ h.k, at_ h.f, h.hrk, h.hrf, h.hkf⟩
theorem RI0.under {w0 W W' : World} {rx rb kb fb c : Nat} {A : Option Addr} {ok : Bool} (h : RI0 w0 rx rb kb fb A c ok W) (hb : Below W.heap.size W W') : RI0 w0 rx rb kb fb A c ok W' := h.near (Near.of_below hb) (h.st.below hb)
theorem RI0.start (A : Option Addr) (c : Nat) (w : World) :
    RI0 w w.heap.size (w.heap.size + 1) (w.heap.size + 1 + 1) (w.heap.size + 1 + 1 + 1) A c true ((((w.alloc (.cells zc 25)).alloc (.cells #[.slice A 0 c] 22)).alloc (.cells #[.bool true] 4)).alloc (.cells #[.func (.func 17) #[] #[.pointer (some ⟨w.heap.size + 1, 0, none⟩), .pointer (some ⟨w.heap.size + 1 + 1, 0, none⟩)]] 46)) := by
  have hb : Below w.heap.size w ((((w.alloc (.cells zc 25)).alloc (.cells #[.slice A 0 c] 22)).alloc (.cells #[.bool true] 4)).alloc (.cells #[.func (.func 17) #[] #[.pointer (some ⟨w.heap.size + 1, 0, none⟩), .pointer (some ⟨w.heap.size + 1 + 1, 0, none⟩)]] 46)) :=
    ((((Below.refl _ _).alloc (Nat.le_refl _) _).alloc (by simp) _).alloc (by simp; omega) _).alloc (by simp; omega) _
  refine ⟨⟨?_, ?_, ?_, by omega, by omega, by omega⟩, ?_, by omega, by omega, hb, by omega, by omega⟩
  · rw [Below.heap_alloc _ _ _ (by simp), Below.heap_alloc _ _ _ (by simp), alloc_new _ _ _ (by simp)]
  · rw [Below.heap_alloc _ _ _ (by simp), alloc_new _ _ _ (by simp)]
  · rw [alloc_new _ _ _ (by simp)]
  · rw [Below.heap_alloc _ _ _ (by simp; omega), Below.heap_alloc _ _ _ (by simp; omega), Below.heap_alloc _ _ _ (by simp), alloc_new _ _ _ rfl]

set_option maxHeartbeats 2000000 in
theorem read_nil (A : Option Addr) (c : Nat) (w : World) :
    Calls Tryd.prog 9 #[.slice A 0 c] w fun e w' => e = .returned (.tuple #[zeroNd.v, .int .i64 80]) ∧ Below w.heap.size w w' := by
  have R0 := RI0.start A c w
  unfold zc at R0
  go_enter Tryd.func9, Tryd.ntmps9
  go_upto_region 5 with (first | fail)
  revert R0
  generalize ((((w.alloc (.cells #[.int .i64 0, .int .i64 0, .string ⟨#[]⟩, .int .i64 0, .int .i64 0, .int .u64 0, .int .i64 0, .string ⟨#[]⟩] 25)).alloc (.cells #[.slice A 0 c] 22)).alloc (.cells #[.bool true] 4)).alloc (.cells #[.func (.func 17) #[] #[.pointer (some ⟨w.heap.size + 1, 0, none⟩), .pointer (some ⟨w.heap.size + 1 + 1, 0, none⟩)]] 46)) = W0
  generalize w.heap.size + 1 + 1 + 1 = fb
  generalize w.heap.size + 1 + 1 = kb
  generalize w.heap.size + 1 = rb
  obtain ⟨rx, hrx⟩ : ∃ rx, rx = w.heap.size := ⟨_, rfl⟩
  rw [← hrx]
  intro R0
  have HRX := Lib.hid hrx
  clear hrx
  obtain ⟨f0, _⟩ := cell_of_heap1 R0.st.f
  have Q0 := Lib.hid R0
  clear R0
  go_wp2_with (go_at_call 17; fail)
  refine (take0 rb kb fb A c 23 true W0 Q0.out.st (by decide) (by decide)).mono ?_
  rintro e W1 ⟨rfl, s1, n1⟩
  have R1 := (Q0.out.near n1 s1).under (W' := W1.alloc (.cells #[.slice none 0 0] 22)) ((Below.refl _ _).alloc (Nat.le_refl _) _)
  have Q1 := Lib.hid R1
  clear R1 s1 n1 f0 Q0
  go_wp2_with (go_at_call 18; fail)
  refine (counted0 rb kb fb A c false _ Q1.out.st).mono ?_
  rintro e W2 ⟨rfl, s2, n2⟩
  have Q2 := Lib.hid (Q1.out.near n2 s2)
  clear s2 n2 Q1
  go_wp2_with (go_at_call 18; fail)
  refine (counted0 rb kb fb A c _ _ Q2.out.st).mono ?_
  rintro e W3 ⟨rfl, s3, n3⟩
  have R3 := Q2.out.near n3 s3
  obtain ⟨k3, _⟩ := cell_of_heap1 R3.st.k
  obtain ⟨r3, _⟩ := cell_of_heap1 R3.st.r
  have x3 := R3.x
  obtain ⟨xc, xf⟩ := cells8 x3
  have y0 := xc 0 _ rfl
  have y1 := xc 1 _ rfl
  have y2 := xc 2 _ rfl
  have y3 := xc 3 _ rfl
  have y4 := xc 4 _ rfl
  have y5 := xc 5 _ rfl
  have y6 := xc 6 _ rfl
  have y7 := xc 7 _ rfl
  have X3 := Lib.hid x3
  have Q3 := Lib.hid R3
  clear s3 n3 Q2 R3 xc x3
  go_wp2
  have hp := put8_heap zeroNd X3.out
  have hb := put8_below zeroNd Q3.out.below (b := rx) (by rw [HRX.out]; exact Nat.le_refl _)
  refine bodyPost_ret (results_ct rfl _ _ _ _ _ _ _ rfl hp Tryd.underlying25 rfl (by kernel_rfl)) rfl ?_
  exact ⟨rfl, hb⟩

set_option maxHeartbeats 1000000 in
theorem ref_nil (A : Option Addr) (c : Nat) (w : World) :
    Calls Tryd.prog 7 #[.slice A 0 c] w fun e w' => e = .returned (.tuple #[zeroNd.v, .int .i64 80]) ∧ Below w.heap.size w w' := by
  go_enter Tryd.func7, Tryd.ntmps7
  go_wp2
  refine bodyPost_ret (results_ct rfl _ _ _ _ _ _ _ rfl (alloc_new w (.cells #[.int .i64 0, .int .i64 0, .string ⟨#[]⟩, .int .i64 0, .int .i64 0, .int .u64 0, .int .i64 0, .string ⟨#[]⟩] 25) _ rfl) Tryd.underlying25 rfl (by kernel_rfl)) rfl ?_
  exact ⟨rfl, (Below.refl _ _).alloc (Nat.le_refl _) _⟩

theorem kd_vw {w : World} {A : Option Addr} {L : List Int} (h : Kd.C (Kd.int .u8) w A L.length L) (hpos : 0 < L.length) : ∃ g o, A = some ⟨g, o, none⟩ ∧ Vw w g o L := by
  obtain ⟨ad, rfl, hc0⟩ := Kd.at_int h 0 (by omega) (by omega)
  obtain ⟨g, o, s⟩ := ad
  have hs : s = none := by
    cases s with
    | none => rfl
    | some x =>
      exfalso
      unfold World.cell? at hc0
      simp only [Addr.add, Int.toNat_zero, if_true] at hc0
      split at hc0
      · simp at hc0
      · cases hc0
  subst hs
  refine ⟨g, o, rfl, fun i x hx => ?_⟩
  have hi : i < L.length := (List.getElem?_eq_some_iff.1 hx).1
  obtain ⟨ad, e, hc⟩ := Kd.at_int h (i : Int) (by omega) (by omega)
  cases e
  rw [Int.toNat_natCast, Addr.add_lit] at hc
  rw [hc]
  have : rd L (i : Int) = x := by
    show L.getD (i : Int).toNat 0 = x
    rw [Int.toNat_natCast, List.getD_eq_getElem?_getD, hx]
    rfl
  rw [this]
end

section
open Go.RowKit Go.Proofs Go.Proofs.YtljamhpdgmelcaaDoorW.PrintWords Go.Proofs.YtljamhpdgmelcaaDoorW.PrintMore Go.Proofs.YtljamhpdgmelcaaDoor.PHDNodeReads
set_option linter.unusedVariables false
set_option linter.unusedSimpArgs false

theorem refget (L : List Int) (hb : Byts L) (a size : Nat) (hs : size ≤ 8) (h : a + size ≤ L.length) (hL : L.length ≤ 281474976710656) (d : Nat) : ∀ i : Nat, d + i = size → ∀ k, d < k → shaleref08_get.l0 k L a size (leV L a i) i = some (leV L a size : Int) := by
  induction d with
  | zero =>
    intro i hi k hk
    obtain ⟨k, rfl⟩ : ∃ m, k = m + 1 := ⟨k - 1, by omega⟩
    obtain rfl : i = size := by omega
    rw [shaleref08_get.l0, if_neg (by omega)]
  | succ d ih =>
    intro i hi k hk
    obtain ⟨k, rfl⟩ : ∃ m, k = m + 1 := ⟨k - 1, by omega⟩
    have e0 : wrap64 ((a : Int) + (i : Int)) = ((a + i : Nat) : Int) := by unfold wrap64; omega
    have e1 : wrap64 (8 * (i : Int)) = ((8 * i : Nat) : Int) := by unfold wrap64; omega
    have e2 : IntKind.u64.wrap ((8 * i : Nat) : Int) = ((8 * i : Nat) : Int) := wraps_u64 _ (Int.natCast_nonneg _) (by omega)
    obtain ⟨x, hx⟩ : ∃ x, L[a + i]? = some x := ⟨_, List.getElem?_eq_getElem (by omega)⟩
    obtain ⟨x0, x1⟩ := hb.at_ hx
    obtain ⟨y, rfl⟩ := Int.eq_ofNat_of_zero_le x0
    have h8 : i < 8 := by omega
    have hy : y < 256 := by omega
    have e8 := get_step (leV L a i) y i h8 (leV_lt hb a i) hy
    have e3 : rd L ((a + i : Nat) : Int) = (y : Int) := by
      show L.getD ((a + i : Nat) : Int).toNat 0 = _
      rw [Int.toNat_natCast, List.getD_eq_getElem?_getD, hx]
      rfl
    have e4 : IntKind.u64.wrap (y : Int) = (y : Int) := wraps_u64 _ (Int.natCast_nonneg _) (by omega)
    have e5 : shl .u64 (y : Int) ((8 * i : Nat) : Int) = IntKind.u64.wrap ((y : Int) * 2 ^ (8 * i)) := by
      unfold shl
      rw [Int.toNat_natCast, Nat.min_eq_left (by show 8 * i ≤ 64; omega)]
    have e6 : wrap64 ((i : Int) + 1) = ((i + 1 : Nat) : Int) := by unfold wrap64; omega
    rw [shaleref08_get.l0, if_pos (by omega), e0, if_pos (Int.natCast_nonneg _), if_pos (by omega), e1, e2, if_pos (Int.natCast_nonneg _), e3, e4, e5, e6, e8]
    have e7 : leV L a i + y * 2 ^ (8 * i) = leV L a (i + 1) := by
      rw [leV, List.getD_eq_getElem?_getD, hx]
      rfl
    rw [e7]
    exact ih (i + 1) (by omega) k (by omega)
theorem vw_C {W : World} {g o : Nat} {L : List Int} (h : Vw W g o L) (hL : L.length ≤ 281474976710656) : Kd.C (Kd.int .u8) W (some ⟨g, o, none⟩) L.length L := by
  refine ⟨rfl, by omega, fun _ => ⟨_, rfl, fun j p hj => ⟨[.int .u8 p], rfl, rfl, fun i u hi => ?_⟩⟩⟩
  match i, hi with
  | 0, hi =>
    cases hi
    rw [Addr.add_lit, show (Kd.int .u8).sz = 1 from rfl, Nat.mul_one, Nat.add_zero]
    exact h j p hj
  | i + 1, hi => simp at hi
theorem get16 (g o c a s : Nat) (L : List Int) (w : World) (hv : Vw w g o L) (hb : Byts L) (hc : L.length ≤ c) (hs : s ≤ 8) (h : a + s ≤ L.length) (hL : L.length ≤ 281474976710656) :
    Calls Tryd.prog 16 #[.slice (some ⟨g, o, none⟩) L.length c, .int .i64 a, .int .i64 s] w fun e w' => e = .returned (.int .u64 (leV L a s)) ∧ Drawn0 w w' :=
  shaleref08_get.calls (s + 1) _ c L a s _ w (vw_C hv hL) hc (refget L hb a s hs h hL s 0 (by omega) (s + 1) (by omega))
end

section
open Go.RowKit Go.Proofs Go.Proofs.YtljamhpdgmelcaaDoorW.PrintWords
set_option linter.unusedVariables false
set_option linter.unusedSimpArgs false
attribute [local go_sem] Oper.semAt_some

theorem byte_nat {L : List Int} (hb : Byts L) {i : Nat} (h : i < L.length) : L[i]? = some (((L.getD i 0).toNat : Nat) : Int) ∧ (L.getD i 0).toNat < 256 := by
  have e : L[i]? = some L[i] := List.getElem?_eq_getElem h
  have := hb _ (List.getElem_mem h)
  have g : L.getD i 0 = L[i] := by rw [List.getD_eq_getElem?_getD, e]; rfl
  rw [g, e, Int.toNat_of_nonneg this.1]
  exact ⟨rfl, by omega⟩

set_option maxHeartbeats 1000000 in
theorem ref_short (g o c : Nat) (L : List Int) (w : World) (hv : Vw w g o L) (hB : Byts L) (hc : L.length ≤ c) (hl : L.length ≤ 281474976710656) (ho : L.length ≤ 281474976710656) (hg : g < w.heap.size) (h24 : L.length < 24) :
    Calls Tryd.prog 7 #[.slice (some ⟨g, o, none⟩) L.length c] w fun e w' => e = .returned (.tuple #[zeroNd.v, .int .i64 80]) ∧ Below w.heap.size w w' := by
  obtain ⟨m, hm⟩ : ∃ m, m = L.length := ⟨_, rfl⟩
  rw [← hm] at h24 ⊢
  clear hv hB hc hl ho hg hm
  go_enter Tryd.func7, Tryd.ntmps7
  go_wp2
  refine bodyPost_ret (results_ct rfl _ _ _ _ _ _ _ rfl (alloc_new w (.cells #[.int .i64 0, .int .i64 0, .string ⟨#[]⟩, .int .i64 0, .int .i64 0, .int .u64 0, .int .i64 0, .string ⟨#[]⟩] 25) _ rfl) Tryd.underlying25 rfl (by kernel_rfl)) rfl ?_
  exact ⟨rfl, (Below.refl _ _).alloc (Nat.le_refl _) _⟩

set_option maxHeartbeats 1000000 in
theorem ref_mid (g o c : Nat) (L : List Int) (w : World) (hv : Vw w g o L) (hB : Byts L) (hc : L.length ≤ c) (hl : L.length ≤ 281474976710656) (ho : L.length ≤ 281474976710656) (hg : g < w.heap.size) (h24 : 24 ≤ L.length) (hk : L.length < 25 + nlen L) :
    Calls Tryd.prog 7 #[.slice (some ⟨g, o, none⟩) L.length c] w fun e w' => e = .returned (.tuple #[zeroNd.v, .int .i64 80]) ∧ Below w.heap.size w w' := by
  obtain ⟨b1, b2⟩ := byte_nat hB (show 23 < L.length by omega)
  have c23 : (w.alloc (.cells #[.int .i64 0, .int .i64 0, .string ⟨#[]⟩, .int .i64 0, .int .i64 0, .int .u64 0, .int .i64 0, .string ⟨#[]⟩] 25)).cell? ⟨g, o + 23, none⟩ = some (.int .u8 (nlen L)) := (hv.below ((Below.refl _ _).alloc (Nat.le_refl _) _)) 23 _ b1
  obtain ⟨m, hm⟩ : ∃ m, m = L.length := ⟨_, rfl⟩
  obtain ⟨K, hK⟩ : ∃ K, K = nlen L := ⟨_, rfl⟩
  have hK2 : K < 256 := by rw [hK]; exact b2
  rw [← hm] at h24 hk hl ⊢
  rw [← hK] at hk c23
  clear hv hB hc ho hg hm hK b1 b2
  have hw : IntKind.i64.wrap (K : Int) = (K : Int) := by rw [IntKind.wrap_i64]; omega
  have e1 : ((24 : Int) + (K : Int) + 1) = ((25 + K : Nat) : Int) := by omega
  go_enter Tryd.func7, Tryd.ntmps7
  go_wp2
  refine bodyPost_ret (results_ct rfl _ _ _ _ _ _ _ rfl (alloc_new w (.cells #[.int .i64 0, .int .i64 0, .string ⟨#[]⟩, .int .i64 0, .int .i64 0, .int .u64 0, .int .i64 0, .string ⟨#[]⟩] 25) _ rfl) Tryd.underlying25 rfl (by kernel_rfl)) rfl ?_
  exact ⟨rfl, (Below.refl _ _).alloc (Nat.le_refl _) _⟩

set_option maxHeartbeats 1000000 in
theorem ref_len (g o c : Nat) (L : List Int) (w : World) (hv : Vw w g o L) (hB : Byts L) (hc : L.length ≤ c) (hl : L.length ≤ 281474976710656) (ho : L.length ≤ 281474976710656) (hg : g < w.heap.size) (hk : 25 + nlen L ≤ L.length) (ht : L.length ≠ 25 + nlen L + tlen L) :
    Calls Tryd.prog 7 #[.slice (some ⟨g, o, none⟩) L.length c] w fun e w' => e = .returned (.tuple #[zeroNd.v, .int .i64 80]) ∧ Below w.heap.size w w' := by
  obtain ⟨b1, b2⟩ := byte_nat hB (show 23 < L.length by omega)
  obtain ⟨b3, b4⟩ := byte_nat hB (show 24 + nlen L < L.length by omega)
  have c23 : (w.alloc (.cells #[.int .i64 0, .int .i64 0, .string ⟨#[]⟩, .int .i64 0, .int .i64 0, .int .u64 0, .int .i64 0, .string ⟨#[]⟩] 25)).cell? ⟨g, o + 23, none⟩ = some (.int .u8 (nlen L)) := (hv.below ((Below.refl _ _).alloc (Nat.le_refl _) _)) 23 _ b1
  have c24 : (w.alloc (.cells #[.int .i64 0, .int .i64 0, .string ⟨#[]⟩, .int .i64 0, .int .i64 0, .int .u64 0, .int .i64 0, .string ⟨#[]⟩] 25)).cell? ⟨g, o + (24 + nlen L), none⟩ = some (.int .u8 (tlen L)) := (hv.below ((Below.refl _ _).alloc (Nat.le_refl _) _)) (24 + nlen L) _ b3
  obtain ⟨m, hm⟩ : ∃ m, m = L.length := ⟨_, rfl⟩
  obtain ⟨K, hK⟩ : ∃ K, K = nlen L := ⟨_, rfl⟩
  obtain ⟨T, hT⟩ : ∃ T, T = tlen L := ⟨_, rfl⟩
  have hK2 : K < 256 := by rw [hK]; exact b2
  have hT2 : T < 256 := by rw [hT]; exact b4
  rw [← hm] at hk ht hl ⊢
  rw [← hK] at hk ht c23 c24
  rw [← hT] at ht c24
  clear hv hB hc ho hg hm hK hT b1 b2 b3 b4
  have hw : IntKind.i64.wrap (K : Int) = (K : Int) := by rw [IntKind.wrap_i64]; omega
  have hw2 : IntKind.i64.wrap (T : Int) = (T : Int) := by rw [IntKind.wrap_i64]; omega
  go_enter Tryd.func7, Tryd.ntmps7
  go_wp2
  refine bodyPost_ret (results_ct rfl _ _ _ _ _ _ _ rfl (alloc_new w (.cells #[.int .i64 0, .int .i64 0, .string ⟨#[]⟩, .int .i64 0, .int .i64 0, .int .u64 0, .int .i64 0, .string ⟨#[]⟩] 25) _ rfl) Tryd.underlying25 rfl (by kernel_rfl)) rfl ?_
  exact ⟨rfl, (Below.refl _ _).alloc (Nat.le_refl _) _⟩
end
end Go.Proofs.YtljamhpdgmelcaaDoor
