/- node.Read of 23 bytes or more. -/
import Derived.Test.YtljamhpdgmelcaaDoorRead
import Derived.Deep.DeepCutAuto
namespace Go.Proofs.YtljamhpdgmelcaaDoor
open Go.RowKit Go.Proofs Go.Proofs.YtljamhpdgmelcaaDoorW.PrintWords
set_option linter.unusedVariables false
set_option linter.unusedSimpArgs false
attribute [local go_sem] Oper.semAt_some

theorem get0 (g o c hb : Nat) (H : List Int) (w : World) (hc : w.cell? ⟨hb, 0, none⟩ = some (.slice (some ⟨g, o, none⟩) 23 c)) (hv : Vw w g o H) (hB : Byts H) (hl : H.length = 23) (ho : (0 : Nat) ≤ 281474976710656) :
    Calls Tryd.prog 19 #[.agg #[.int .i64 0, .int .i64 1], .pointer (some ⟨hb, 0, none⟩)] w fun e w' => e = .returned (.int .u64 (leV H 0 1)) ∧ Below w.heap.size w w' :=
  getc_calls g o c hb 0 1 H w (by rw [hl]; exact hc) hv hB (by decide) (by decide) (by decide) (by rw [hl]; decide) (by omega) ho
theorem get1 (g o c hb : Nat) (H : List Int) (w : World) (hc : w.cell? ⟨hb, 0, none⟩ = some (.slice (some ⟨g, o, none⟩) 23 c)) (hv : Vw w g o H) (hB : Byts H) (hl : H.length = 23) (ho : (0 : Nat) ≤ 281474976710656) :
    Calls Tryd.prog 19 #[.agg #[.int .i64 1, .int .i64 4], .pointer (some ⟨hb, 0, none⟩)] w fun e w' => e = .returned (.int .u64 (leV H 1 4)) ∧ Below w.heap.size w w' :=
  getc_calls g o c hb 1 4 H w (by rw [hl]; exact hc) hv hB (by decide) (by decide) (by decide) (by rw [hl]; decide) (by omega) ho
theorem get2 (g o c hb : Nat) (H : List Int) (w : World) (hc : w.cell? ⟨hb, 0, none⟩ = some (.slice (some ⟨g, o, none⟩) 23 c)) (hv : Vw w g o H) (hB : Byts H) (hl : H.length = 23) (ho : (0 : Nat) ≤ 281474976710656) :
    Calls Tryd.prog 19 #[.agg #[.int .i64 5, .int .i64 4], .pointer (some ⟨hb, 0, none⟩)] w fun e w' => e = .returned (.int .u64 (leV H 5 4)) ∧ Below w.heap.size w w' :=
  getc_calls g o c hb 5 4 H w (by rw [hl]; exact hc) hv hB (by decide) (by decide) (by decide) (by rw [hl]; decide) (by omega) ho
theorem get3 (g o c hb : Nat) (H : List Int) (w : World) (hc : w.cell? ⟨hb, 0, none⟩ = some (.slice (some ⟨g, o, none⟩) 23 c)) (hv : Vw w g o H) (hB : Byts H) (hl : H.length = 23) (ho : (0 : Nat) ≤ 281474976710656) :
    Calls Tryd.prog 19 #[.agg #[.int .i64 9, .int .i64 2], .pointer (some ⟨hb, 0, none⟩)] w fun e w' => e = .returned (.int .u64 (leV H 9 2)) ∧ Below w.heap.size w w' :=
  getc_calls g o c hb 9 2 H w (by rw [hl]; exact hc) hv hB (by decide) (by decide) (by decide) (by rw [hl]; decide) (by omega) ho
theorem get4 (g o c hb : Nat) (H : List Int) (w : World) (hc : w.cell? ⟨hb, 0, none⟩ = some (.slice (some ⟨g, o, none⟩) 23 c)) (hv : Vw w g o H) (hB : Byts H) (hl : H.length = 23) (ho : (0 : Nat) ≤ 281474976710656) :
    Calls Tryd.prog 19 #[.agg #[.int .i64 11, .int .i64 8], .pointer (some ⟨hb, 0, none⟩)] w fun e w' => e = .returned (.int .u64 (leV H 11 8)) ∧ Below w.heap.size w w' :=
  getc_calls g o c hb 11 8 H w (by rw [hl]; exact hc) hv hB (by decide) (by decide) (by decide) (by rw [hl]; decide) (by omega) ho
theorem get5 (g o c hb : Nat) (H : List Int) (w : World) (hc : w.cell? ⟨hb, 0, none⟩ = some (.slice (some ⟨g, o, none⟩) 23 c)) (hv : Vw w g o H) (hB : Byts H) (hl : H.length = 23) (ho : (0 : Nat) ≤ 281474976710656) :
    Calls Tryd.prog 19 #[.agg #[.int .i64 19, .int .i64 4], .pointer (some ⟨hb, 0, none⟩)] w fun e w' => e = .returned (.int .u64 (leV H 19 4)) ∧ Below w.heap.size w w' :=
  getc_calls g o c hb 19 4 H w (by rw [hl]; exact hc) hv hB (by decide) (by decide) (by decide) (by rw [hl]; decide) (by omega) ho
theorem gs_from {W3 W : World} {g o c hb : Nat} (p0 : W3.cell? ⟨0, 0, none⟩ = some (.int .i64 0)) (q0 : W3.cell? ⟨0, 1, none⟩ = some (.int .i64 1)) (p1 : W3.cell? ⟨1, 0, none⟩ = some (.int .i64 1)) (q1 : W3.cell? ⟨1, 1, none⟩ = some (.int .i64 4)) (p2 : W3.cell? ⟨2, 0, none⟩ = some (.int .i64 5)) (q2 : W3.cell? ⟨2, 1, none⟩ = some (.int .i64 4)) (p3 : W3.cell? ⟨3, 0, none⟩ = some (.int .i64 9)) (q3 : W3.cell? ⟨3, 1, none⟩ = some (.int .i64 2)) (p4 : W3.cell? ⟨4, 0, none⟩ = some (.int .i64 11)) (q4 : W3.cell? ⟨4, 1, none⟩ = some (.int .i64 8)) (p5 : W3.cell? ⟨5, 0, none⟩ = some (.int .i64 19)) (q5 : W3.cell? ⟨5, 1, none⟩ = some (.int .i64 4)) (h1 : W3.cell? ⟨hb, 0, none⟩ = some (.slice (some ⟨g, o, none⟩) 23 c)) (hbw : Below W3.heap.size W3 W) :
    W.cell? ⟨0, 0, none⟩ = some (.int .i64 0) ∧ W.cell? ⟨0, 1, none⟩ = some (.int .i64 1) ∧ W.cell? ⟨1, 0, none⟩ = some (.int .i64 1) ∧ W.cell? ⟨1, 1, none⟩ = some (.int .i64 4) ∧ W.cell? ⟨2, 0, none⟩ = some (.int .i64 5) ∧ W.cell? ⟨2, 1, none⟩ = some (.int .i64 4) ∧ W.cell? ⟨3, 0, none⟩ = some (.int .i64 9) ∧ W.cell? ⟨3, 1, none⟩ = some (.int .i64 2) ∧ W.cell? ⟨4, 0, none⟩ = some (.int .i64 11) ∧ W.cell? ⟨4, 1, none⟩ = some (.int .i64 8) ∧ W.cell? ⟨5, 0, none⟩ = some (.int .i64 19) ∧ W.cell? ⟨5, 1, none⟩ = some (.int .i64 4) ∧ W.cell? ⟨hb, 0, none⟩ = some (.slice (some ⟨g, o, none⟩) 23 c) ∧ Below W3.heap.size W3 W :=
  have k : ∀ {a : Addr} {v : Value}, W3.cell? a = some v → W.cell? a = some v := fun h => (hbw.cell (lt_of_cell h)).trans h
  ⟨k p0, k q0, k p1, k q1, k p2, k q2, k p3, k q3, k p4, k q4, k p5, k q5, k h1, hbw⟩
theorem b_step {W3 W W' : World} (h : Below W3.heap.size W3 W) (hb : Below W.heap.size W W') : Below W3.heap.size W3 W' := h.trans (hb.mono h.size)
theorem b_alloc {W3 W : World} {o : Obj} (h : Below W3.heap.size W3 W) : Below W3.heap.size W3 (W.alloc o) := h.alloc h.size _
theorem b_size {W3 W W' : World} (h : Below W3.heap.size W3 W) (hb : Below W.heap.size W W') : W3.heap.size ≤ W'.heap.size := Nat.le_trans h.size hb.size
theorem b_real {W3 W : World} {o o' : Obj} (h : Below W3.heap.size W3 (W.alloc o)) (hs : W3.heap.size ≤ W.heap.size) : Below W3.heap.size W3 (W.alloc o') :=
  ⟨h.os, h.tape, h.output, by have := h.size; rw [World.size_alloc] at this ⊢; exact this, fun k hk => by
    have := h.block k hk
    rw [Below.heap_alloc _ _ _ (by omega)] at this ⊢
    exact this⟩
/-- A header's block, made within a region. -/
def Zb (W3 : World) (b : Nat) (W : World) : Prop := W.heap[b]? = some (.cells zc 25 (0, 0)) ∧ W3.heap.size ≤ b
theorem z_fresh {W3 W W' : World} (hb : Below (W.alloc (.cells #[.int .i64 0, .int .i64 0, .string ⟨#[]⟩, .int .i64 0, .int .i64 0, .int .u64 0, .int .i64 0, .string ⟨#[]⟩] 25)).heap.size (W.alloc (.cells #[.int .i64 0, .int .i64 0, .string ⟨#[]⟩, .int .i64 0, .int .i64 0, .int .u64 0, .int .i64 0, .string ⟨#[]⟩] 25)) W') (hs : W3.heap.size ≤ W.heap.size) : ∃ hn, hn = W.heap.size ∧ Zb W3 hn W' :=
  ⟨_, rfl, (hb.block _ (by rw [World.size_alloc]; omega)).trans (alloc_new _ _ _ rfl), hs⟩
theorem z_freshd {W3 W W' : World} (hb : Below (W.alloc (.cells #[.int .i64 0, .int .i64 0, .string ⟨#[]⟩, .int .i64 0, .int .i64 0, .int .u64 0, .int .i64 0, .string ⟨#[]⟩] 25)).drew.heap.size (W.alloc (.cells #[.int .i64 0, .int .i64 0, .string ⟨#[]⟩, .int .i64 0, .int .i64 0, .int .u64 0, .int .i64 0, .string ⟨#[]⟩] 25)).drew W') (hs : W3.heap.size ≤ W.heap.size) : ∃ hn, hn = W.heap.size ∧ Zb W3 hn W' :=
  ⟨_, rfl, (hb.block _ (by show W.heap.size < (W.alloc _).heap.size; rw [World.size_alloc]; omega)).trans (alloc_new W _ _ rfl), hs⟩
theorem z_old {W3 W W' : World} {b : Nat} (h : Zb W3 b W) (hb : Below W.heap.size W W') : Zb W3 b W' := ⟨(hb.block _ (Array.getElem?_eq_some_iff.1 h.1).1).trans h.1, h.2⟩
theorem b_put {W3 W : World} {hn : Nat} {v0 v1 v2 v3 v4 v5 v6 v7 : Value} (h : Below W3.heap.size W3 W) (hz : W3.heap.size ≤ hn) : Below W3.heap.size W3 ((((((((W.setCell ⟨hn, 0, none⟩ v0).setCell ⟨hn, 1, none⟩ v1).setCell ⟨hn, 2, none⟩ v2).setCell ⟨hn, 3, none⟩ v3).setCell ⟨hn, 4, none⟩ v4).setCell ⟨hn, 5, none⟩ v5).setCell ⟨hn, 6, none⟩ v6).setCell ⟨hn, 7, none⟩ v7) :=
  (((((((h.setCell (p := ⟨hn, 0, none⟩) hz _).setCell (p := ⟨hn, 1, none⟩) hz _).setCell (p := ⟨hn, 2, none⟩) hz _).setCell (p := ⟨hn, 3, none⟩) hz _).setCell (p := ⟨hn, 4, none⟩) hz _).setCell (p := ⟨hn, 5, none⟩) hz _).setCell (p := ⟨hn, 6, none⟩) hz _).setCell (p := ⟨hn, 7, none⟩) hz _
theorem cell_at {W : World} {b j : Nat} {cs : Array Value} {t : TypeId} {v : Value} (h : W.heap[b]? = some (.cells cs t (0, 0))) (hv : cs[j]? = some v) : W.cell? ⟨b, j, none⟩ = some v := by
  simp only [World.cell?, h]; exact hv
theorem nd_cells {W : World} {b : Nat} {N : Nd} (h : W.heap[b]? = some (.cells N.cs.toArray 25 (0, 0))) : W.cell? ⟨b, 0, none⟩ = some (.int .i64 N.ty) ∧ W.cell? ⟨b, 1, none⟩ = some (.int .i64 N.parent) ∧ W.cell? ⟨b, 2, none⟩ = some (.string N.name) ∧ W.cell? ⟨b, 3, none⟩ = some (.int .i64 N.size) ∧ W.cell? ⟨b, 4, none⟩ = some (.int .i64 N.mode) ∧ W.cell? ⟨b, 5, none⟩ = some (.int .u64 N.stamp) ∧ W.cell? ⟨b, 6, none⟩ = some (.int .i64 N.shadow) ∧ W.cell? ⟨b, 7, none⟩ = some (.string N.target) :=
  ⟨cell_at h rfl, cell_at h rfl, cell_at h rfl, cell_at h rfl, cell_at h rfl, cell_at h rfl, cell_at h rfl, cell_at h rfl⟩
theorem le_drew (W : World) : W.heap.size ≤ W.drew.heap.size := Nat.le_refl _
/-- The region's word: a block that holds N; W3 lies as it lay. -/
def ReadCut (W3 : World) (N : Nd) (s : Value) (W : World) : Prop := ∃ hn, s = .pointer (some ⟨hn, 0, none⟩) ∧ W3.heap.size ≤ hn ∧ W.heap[hn]? = some (.cells N.cs.toArray 25 (0, 0)) ∧ Below W3.heap.size W3 W
theorem cut_put {W3 W : World} {hn : Nat} {N : Nd} {v0 v1 v2 v3 v4 v5 v6 v7 : Value} (hz : Zb W3 hn W) (h : Below W3.heap.size W3 ((((((((W.setCell ⟨hn, 0, none⟩ v0).setCell ⟨hn, 1, none⟩ v1).setCell ⟨hn, 2, none⟩ v2).setCell ⟨hn, 3, none⟩ v3).setCell ⟨hn, 4, none⟩ v4).setCell ⟨hn, 5, none⟩ v5).setCell ⟨hn, 6, none⟩ v6).setCell ⟨hn, 7, none⟩ v7)) (hv : N.cs = [v0, v1, v2, v3, v4, v5, v6, v7]) : ReadCut W3 N (.pointer (some ⟨hn, 0, none⟩)) ((((((((W.setCell ⟨hn, 0, none⟩ v0).setCell ⟨hn, 1, none⟩ v1).setCell ⟨hn, 2, none⟩ v2).setCell ⟨hn, 3, none⟩ v3).setCell ⟨hn, 4, none⟩ v4).setCell ⟨hn, 5, none⟩ v5).setCell ⟨hn, 6, none⟩ v6).setCell ⟨hn, 7, none⟩ v7) := by
  obtain ⟨a0, a1, a2, a3, a4, a5, a6, a7⟩ := N
  simp only [Nd.cs, List.cons.injEq, and_true] at hv
  obtain ⟨rfl, rfl, rfl, rfl, rfl, rfl, rfl, rfl⟩ := hv
  exact ⟨hn, rfl, hz.2, put8_heap ⟨a0, a1, a2, a3, a4, a5, a6, a7⟩ hz.1, h⟩
theorem cut_alloc {W3 W : World} {N : Nd} {v0 v1 v2 v3 v4 v5 v6 v7 : Value} (h : Below W3.heap.size W3 (W.alloc (.cells #[v0, v1, v2, v3, v4, v5, v6, v7] 25))) (hs : W3.heap.size ≤ W.heap.size) (hv : N.cs = [v0, v1, v2, v3, v4, v5, v6, v7]) : ReadCut W3 N (.pointer (some ⟨W.heap.size, 0, none⟩)) (W.alloc (.cells #[v0, v1, v2, v3, v4, v5, v6, v7] 25)) :=
  ⟨_, rfl, hs, by rw [hv]; exact alloc_new W _ _ rfl, h⟩
theorem z_le {W3 W : World} {b : Nat} (h : Zb W3 b W) : W3.heap.size ≤ b := h.2
theorem z_cells {W3 W : World} {b : Nat} (h : Zb W3 b W) : W.cell? ⟨b, 0, none⟩ = some (.int .i64 0) ∧ W.cell? ⟨b, 1, none⟩ = some (.int .i64 0) ∧ W.cell? ⟨b, 2, none⟩ = some (.string ⟨#[]⟩) ∧ W.cell? ⟨b, 3, none⟩ = some (.int .i64 0) ∧ W.cell? ⟨b, 4, none⟩ = some (.int .i64 0) ∧ W.cell? ⟨b, 5, none⟩ = some (.int .u64 0) ∧ W.cell? ⟨b, 6, none⟩ = some (.int .i64 0) ∧ W.cell? ⟨b, 7, none⟩ = some (.string ⟨#[]⟩) ∧ ∀ j, W.frozen? ⟨b, j, none⟩ = false :=
  have k := cells8 h.1
  ⟨k.1 0 _ rfl, k.1 1 _ rfl, k.1 2 _ rfl, k.1 3 _ rfl, k.1 4 _ rfl, k.1 5 _ rfl, k.1 6 _ rfl, k.1 7 _ rfl, k.2⟩

set_option maxHeartbeats 2000000 in
theorem read_bad1 (g o c : Nat) (L : List Int) (w : World) (hv : Vw w g o L) (hB : Byts L) (hc : L.length ≤ c) (hl : L.length ≤ 281474976710656) (ho : L.length ≤ 281474976710656) (hg : g < w.heap.size) (h23 : 23 ≤ L.length) (hk : (cntK (L.drop 23) && cntK (cntL (L.drop 23))) = false) :
    Calls Tryd.prog 9 #[.slice (some ⟨g, o, none⟩) L.length c] w fun e w' => e = .returned (.tuple #[zeroNd.v, .int .i64 80]) ∧ Below w.heap.size w w' := by
  have HK := Lib.hid hk
  clear hk
  have R0 := RI.start g o c L w hv hB hc hl ho hg
  have hH : Vw ((((w.alloc (.cells zc 25)).alloc (.cells #[.slice (some ⟨g, o, none⟩) L.length c] 22)).alloc (.cells #[.bool true] 4)).alloc (.cells #[.func (.func 17) #[] #[.pointer (some ⟨w.heap.size + 1, 0, none⟩), .pointer (some ⟨w.heap.size + 1 + 1, 0, none⟩)]] 46)) g o (L.take 23) := (hv.take 23).below R0.below
  unfold zc at R0 hH
  have H23 := Lib.hid h23
  obtain ⟨m, hm⟩ : ∃ m, m = L.length := ⟨_, rfl⟩
  rw [← hm] at R0 hH ⊢
  clear hv hc hl hg h23 hm
  go_enter Tryd.func9, Tryd.ntmps9
  go_upto_region 5 with (first | fail)
  revert hH
  revert R0
  generalize ((((w.alloc (.cells #[.int .i64 0, .int .i64 0, .string ⟨#[]⟩, .int .i64 0, .int .i64 0, .int .u64 0, .int .i64 0, .string ⟨#[]⟩] 25)).alloc (.cells #[.slice (some ⟨g, o, none⟩) m c] 22)).alloc (.cells #[.bool true] 4)).alloc (.cells #[.func (.func 17) #[] #[.pointer (some ⟨w.heap.size + 1, 0, none⟩), .pointer (some ⟨w.heap.size + 1 + 1, 0, none⟩)]] 46)) = W0
  generalize w.heap.size + 1 + 1 + 1 = fb
  generalize w.heap.size + 1 + 1 = kb
  generalize w.heap.size + 1 = rb
  obtain ⟨rx, hrx⟩ : ∃ rx, rx = w.heap.size := ⟨_, rfl⟩
  rw [← hrx]
  intro R0 hH
  have HRX := Lib.hid hrx
  clear hrx
  obtain ⟨f0, _⟩ := cell_of_heap1 R0.st.f
  have V0 := Lib.hid hH
  have Q0 := Lib.hid R0
  clear R0 hH
  go_wp2_with (go_at_call 17; fail)
  refine (take_yes rb kb fb g o c 23 L true W0 Q0.out.st H23.out).mono ?_
  rintro e W1 ⟨rfl, ⟨o1, s1⟩, n1⟩
  have ba : Below W1.heap.size W1 (W1.alloc (.cells #[.slice (some ⟨g, o, none⟩) 23 c] 22)) := (Below.refl _ _).alloc (Nat.le_refl _) _
  have Q1 := Lib.hid ((Q0.out.near n1 s1).under ba)
  have V1 := Lib.hid ((Near.vw V0.out n1 Q0.out.st.hgr Q0.out.st.hgk).below ba)
  obtain ⟨hb, hhb⟩ : ∃ hb, hb = W1.heap.size := ⟨_, rfl⟩
  have hb1 : (W1.alloc (.cells #[.slice (some ⟨g, o, none⟩) 23 c] 22)).heap[hb]? = some (.cells #[.slice (some ⟨g, o, none⟩) 23 c] 22 (0, 0)) := alloc_new _ _ _ hhb
  have hb2 : hb ≠ rb := by have := (Array.getElem?_eq_some_iff.1 s1.r).1; omega
  have hb3 : hb ≠ kb := by have := (Array.getElem?_eq_some_iff.1 s1.k).1; omega
  have HX1 := Lib.hid hb1
  have HX2 := Lib.hid hb2
  have HX3 := Lib.hid hb3
  clear s1 n1 f0 Q0 V0 ba hb1 hb2 hb3
  go_wp2_with (go_at_call 18; fail)
  rw [← hhb]
  clear hhb
  refine (counted_calls rb kb fb g o1 _ (L.drop 23) true _ Q1.out.st).mono ?_
  rintro e W2 ⟨rfl, ⟨o2, c2, s2⟩, n2⟩
  have Q2 := Lib.hid (Q1.out.near n2 s2)
  have V2 := Lib.hid (Near.vw V1.out n2 Q1.out.st.hgr Q1.out.st.hgk)
  have HY1 := Lib.hid (n2.heap HX1.out HX2.out HX3.out)
  clear s2 n2 Q1 V1 HX1
  go_wp2_with (go_at_call 18; fail)
  refine (counted_calls rb kb fb g o2 c2 _ _ _ Q2.out.st).mono ?_
  rintro e W3 ⟨rfl, ⟨o3, c3, s3⟩, n3⟩
  rw [Bool.true_and] at s3
  rw [HK.out] at s3
  have R3 := Q2.out.near n3 s3
  obtain ⟨k3, _⟩ := cell_of_heap1 R3.st.k
  obtain ⟨r3, _⟩ := cell_of_heap1 R3.st.r
  obtain ⟨xc, xf⟩ := cells8 R3.x
  have X3 := Lib.hid R3.x
  have y0 := xc 0 _ rfl
  have y1 := xc 1 _ rfl
  have y2 := xc 2 _ rfl
  have y3 := xc 3 _ rfl
  have y4 := xc 4 _ rfl
  have y5 := xc 5 _ rfl
  have y6 := xc 6 _ rfl
  have y7 := xc 7 _ rfl
  have Q3 := Lib.hid R3
  clear s3 n3 Q2 R3 xc
  go_wp2
  have hp := put8_heap zeroNd X3.out
  have hbb := put8_below zeroNd Q3.out.below (b := rx) (by rw [HRX.out]; exact Nat.le_refl _)
  refine bodyPost_ret (results_ct rfl _ _ _ _ _ _ _ rfl hp Tryd.underlying25 rfl (by kernel_rfl)) rfl ?_
  exact ⟨rfl, hbb⟩

set_option maxHeartbeats 2000000 in
theorem read_bad2 (g o c : Nat) (L : List Int) (w : World) (hv : Vw w g o L) (hB : Byts L) (hc : L.length ≤ c) (hl : L.length ≤ 281474976710656) (ho : L.length ≤ 281474976710656) (hg : g < w.heap.size) (h23 : 23 ≤ L.length) (hk : (cntK (L.drop 23) && cntK (cntL (L.drop 23))) = true) (hr : cntL (cntL (L.drop 23)) ≠ []) :
    Calls Tryd.prog 9 #[.slice (some ⟨g, o, none⟩) L.length c] w fun e w' => e = .returned (.tuple #[zeroNd.v, .int .i64 80]) ∧ Below w.heap.size w w' := by
  have HK := Lib.hid hk
  have HR := Lib.hid hr
  clear hk hr
  have R0 := RI.start g o c L w hv hB hc hl ho hg
  have hH : Vw ((((w.alloc (.cells zc 25)).alloc (.cells #[.slice (some ⟨g, o, none⟩) L.length c] 22)).alloc (.cells #[.bool true] 4)).alloc (.cells #[.func (.func 17) #[] #[.pointer (some ⟨w.heap.size + 1, 0, none⟩), .pointer (some ⟨w.heap.size + 1 + 1, 0, none⟩)]] 46)) g o (L.take 23) := (hv.take 23).below R0.below
  unfold zc at R0 hH
  have H23 := Lib.hid h23
  obtain ⟨m, hm⟩ : ∃ m, m = L.length := ⟨_, rfl⟩
  rw [← hm] at R0 hH ⊢
  clear hv hc hl hg h23 hm
  go_enter Tryd.func9, Tryd.ntmps9
  go_upto_region 5 with (first | fail)
  revert hH
  revert R0
  generalize ((((w.alloc (.cells #[.int .i64 0, .int .i64 0, .string ⟨#[]⟩, .int .i64 0, .int .i64 0, .int .u64 0, .int .i64 0, .string ⟨#[]⟩] 25)).alloc (.cells #[.slice (some ⟨g, o, none⟩) m c] 22)).alloc (.cells #[.bool true] 4)).alloc (.cells #[.func (.func 17) #[] #[.pointer (some ⟨w.heap.size + 1, 0, none⟩), .pointer (some ⟨w.heap.size + 1 + 1, 0, none⟩)]] 46)) = W0
  generalize w.heap.size + 1 + 1 + 1 = fb
  generalize w.heap.size + 1 + 1 = kb
  generalize w.heap.size + 1 = rb
  obtain ⟨rx, hrx⟩ : ∃ rx, rx = w.heap.size := ⟨_, rfl⟩
  rw [← hrx]
  intro R0 hH
  have HRX := Lib.hid hrx
  clear hrx
  obtain ⟨f0, _⟩ := cell_of_heap1 R0.st.f
  have V0 := Lib.hid hH
  have Q0 := Lib.hid R0
  clear R0 hH
  go_wp2_with (go_at_call 17; fail)
  refine (take_yes rb kb fb g o c 23 L true W0 Q0.out.st H23.out).mono ?_
  rintro e W1 ⟨rfl, ⟨o1, s1⟩, n1⟩
  have ba : Below W1.heap.size W1 (W1.alloc (.cells #[.slice (some ⟨g, o, none⟩) 23 c] 22)) := (Below.refl _ _).alloc (Nat.le_refl _) _
  have Q1 := Lib.hid ((Q0.out.near n1 s1).under ba)
  have V1 := Lib.hid ((Near.vw V0.out n1 Q0.out.st.hgr Q0.out.st.hgk).below ba)
  obtain ⟨hb, hhb⟩ : ∃ hb, hb = W1.heap.size := ⟨_, rfl⟩
  have hb1 : (W1.alloc (.cells #[.slice (some ⟨g, o, none⟩) 23 c] 22)).heap[hb]? = some (.cells #[.slice (some ⟨g, o, none⟩) 23 c] 22 (0, 0)) := alloc_new _ _ _ hhb
  have hb2 : hb ≠ rb := by have := (Array.getElem?_eq_some_iff.1 s1.r).1; omega
  have hb3 : hb ≠ kb := by have := (Array.getElem?_eq_some_iff.1 s1.k).1; omega
  have HX1 := Lib.hid hb1
  have HX2 := Lib.hid hb2
  have HX3 := Lib.hid hb3
  clear s1 n1 f0 Q0 V0 ba hb1 hb2 hb3
  go_wp2_with (go_at_call 18; fail)
  rw [← hhb]
  clear hhb
  refine (counted_calls rb kb fb g o1 _ (L.drop 23) true _ Q1.out.st).mono ?_
  rintro e W2 ⟨rfl, ⟨o2, c2, s2⟩, n2⟩
  have Q2 := Lib.hid (Q1.out.near n2 s2)
  have V2 := Lib.hid (Near.vw V1.out n2 Q1.out.st.hgr Q1.out.st.hgk)
  have HY1 := Lib.hid (n2.heap HX1.out HX2.out HX3.out)
  clear s2 n2 Q1 V1 HX1
  go_wp2_with (go_at_call 18; fail)
  refine (counted_calls rb kb fb g o2 c2 _ _ _ Q2.out.st).mono ?_
  rintro e W3 ⟨rfl, ⟨o3, c3, s3⟩, n3⟩
  rw [Bool.true_and] at s3
  rw [HK.out] at s3
  have R3 := Q2.out.near n3 s3
  obtain ⟨k3, _⟩ := cell_of_heap1 R3.st.k
  obtain ⟨r3, _⟩ := cell_of_heap1 R3.st.r
  obtain ⟨n, hn⟩ : ∃ n, n = (cntL (cntL (L.drop 23))).length := ⟨_, rfl⟩
  have hnz : (0 : Int) < (n : Int) := by
    have : 0 < n := by rw [hn]; exact List.length_pos_iff.2 HR.out
    omega
  rw [← hn] at r3
  clear hn
  obtain ⟨xc, xf⟩ := cells8 R3.x
  have X3 := Lib.hid R3.x
  have y0 := xc 0 _ rfl
  have y1 := xc 1 _ rfl
  have y2 := xc 2 _ rfl
  have y3 := xc 3 _ rfl
  have y4 := xc 4 _ rfl
  have y5 := xc 5 _ rfl
  have y6 := xc 6 _ rfl
  have y7 := xc 7 _ rfl
  have Q3 := Lib.hid R3
  clear s3 n3 Q2 R3 xc
  go_wp2
  have hp := put8_heap zeroNd X3.out
  have hbb := put8_below zeroNd Q3.out.below (b := rx) (by rw [HRX.out]; exact Nat.le_refl _)
  refine bodyPost_ret (results_ct rfl _ _ _ _ _ _ _ rfl hp Tryd.underlying25 rfl (by kernel_rfl)) rfl ?_
  exact ⟨rfl, hbb⟩
end Go.Proofs.YtljamhpdgmelcaaDoor
