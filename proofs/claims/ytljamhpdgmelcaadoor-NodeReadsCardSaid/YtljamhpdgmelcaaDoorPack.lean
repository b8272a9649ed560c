/- node.Pack: the bytes of a header that may be. -/
import Derived.Test.YtljamhpdgmelcaaDoorPut
import Derived.Test.YtljamhpdgmelcaaDoorJoin3
import Derived.Deep.RegionHeld3
namespace Go.Proofs.YtljamhpdgmelcaaDoor
open Go.RowKit Go.Proofs Go.Proofs.YtljamhpdgmelcaaDoorW.PrintWords
set_option linter.unusedVariables false
set_option linter.unusedSimpArgs false
attribute [local go_sem] Oper.semAt_some

theorem lt_of_cell {w : World} {a : Addr} {v : Value} (h : w.cell? a = some v) : a.block < w.heap.size := by
  unfold World.cell? at h
  by_cases hlt : a.block < w.heap.size
  · exact hlt
  · rw [Array.getElem?_eq_none (by omega)] at h
    cases h
theorem grown_alloc_then {w w' : World} {g : Nat} {o : Obj} (h : (w.alloc o).grownBy w' (some g)) : w.grownBy w' (some g) := by
  obtain ⟨h1, h2, h3, h4, h5⟩ := h
  exact ⟨h1, h2, h3, by rw [World.size_alloc] at h4; omega, fun b hb hne => (h5 b (by rw [World.size_alloc]; omega) hne).trans (Below.heap_alloc _ _ _ hb)⟩
theorem grown_trans {w w' w'' : World} {g : Nat} (h : w.grownBy w' (some g)) (h' : w'.grownBy w'' (some g)) : w.grownBy w'' (some g) := by
  obtain ⟨h1, h2, h3, h4, h5⟩ := h
  obtain ⟨k1, k2, k3, k4, k5⟩ := h'
  exact ⟨k1.trans h1, k2.trans h2, k3.trans h3, Nat.le_trans h4 k4, fun b hb hne => (k5 b (Nat.lt_of_lt_of_le hb h4) hne).trans (h5 b hb hne)⟩

set_option maxHeartbeats 2000000 in
theorem putc_calls (g c bx at_ size v : Nat) (L : List Int) (w : World) (base : Nat) (hbx : w.cell? ⟨bx, 0, none⟩ = some (.slice (some ⟨g, 0, none⟩) L.length c)) (h : SRow w base (.slice (some ⟨g, 0, none⟩) L.length c) L) (hs1 : 1 ≤ size) (hs8 : size ≤ 8) (hv : v < 2 ^ (8 * size)) (hat : at_ + size ≤ L.length) (hL : L.length ≤ 1024) :
    Calls Tryd.prog 22 #[.agg #[.int .i64 at_, .int .i64 size], .int .u64 v, .pointer (some ⟨bx, 0, none⟩)] w fun e w' => e = .returned (.tuple #[]) ∧ SRow w' base (.slice (some ⟨g, 0, none⟩) L.length c) (setLE L at_ v size) ∧ w.grownBy w' (some g) := by
  have H := Lib.hid h
  obtain ⟨hlt, hbl⟩ : bx < w.heap.size ∧ g < w.heap.size := ⟨lt_of_cell hbx, h.lt rfl⟩
  have HL := Lib.hid hlt
  have HG := Lib.hid hbl
  have hbx' : (w.alloc (.cells #[.int .i64 at_, .int .i64 size] 49)).cell? ⟨bx, 0, none⟩ = some (.slice (some ⟨g, 0, none⟩) L.length c) := by
    rw [World.cell?_alloc_old _ _ _ (Nat.ne_of_lt hlt)]; exact hbx
  clear h hlt hbl
  go_enter Tryd.func22, Tryd.ntmps22
  go_wp2_with (go_at_call 23; fail)
  have H2 := SRow.of_heap H.out (W' := w.alloc (.cells #[.int .i64 at_, .int .i64 size] 49)) (fun b hb => Below.heap_alloc _ _ _ (H.out.lt hb))
  refine (put_calls g c at_ size v L _ base H2 hs1 hs8 hv hat hL).mono ?_
  rintro e w' ⟨rfl, h1, h2⟩
  have R1 := Lib.hid h1
  have R2 := Lib.hid (grown_alloc_then h2)
  clear h1 h2 H2
  go_wp2
  refine bodyPost_end (results_none rfl _ _ _) rfl ?_
  exact ⟨rfl, R1.out, R2.out⟩

def fat (g : Nat) : Int := [0, 1, 5, 9, 11, 19].getD g 0
def fsz (g : Nat) : Int := [1, 4, 4, 2, 8, 4].getD g 0
/-- The numbers' places, as they are laid. -/
def Gl (w : World) : Prop := (∀ g, g < 6 → w.cell? ⟨g, 0, none⟩ = some (.int .i64 (fat g)) ∧ w.cell? ⟨g, 1, none⟩ = some (.int .i64 (fsz g))) ∧ 6 ≤ w.heap.size
theorem Gl.below {B : Nat} {w w' : World} (h : Gl w) (hB : 6 ≤ B) (hb : Below B w w') : Gl w' := by
  have h6 := h.2
  exact ⟨fun g hg => by rw [hb.cell (p := ⟨g, 0, none⟩) (by show g < B; omega), hb.cell (p := ⟨g, 1, none⟩) (by show g < B; omega)]; exact h.1 g hg, Nat.le_trans h6 hb.size⟩
theorem below_of_grown {B g : Nat} {w w' : World} (h : w.grownBy w' (some g)) (hB : B ≤ g) (hs : B ≤ w.heap.size) : Below B w w' :=
  ⟨h.os, h.tape, h.output, h.size, fun k hk => h.block k (by omega) (fun e => by cases e; omega)⟩

def Nd.cs (n : Nd) : List Value := [.int .i64 n.ty, .int .i64 n.parent, .string n.name, .int .i64 n.size, .int .i64 n.mode, .int .u64 n.stamp, .int .i64 n.shadow, .string n.target]

/-- While the numbers are laid into the head. -/
structure PS (w0 : World) (b0 bx g c : Nat) (n : Nd) (L : List Int) (W : World) : Prop where
  fld : ∀ (j : Nat) v, n.cs[j]? = some v → W.cell? ⟨b0, j, none⟩ = some v
  gl : Gl W
  box : W.cell? ⟨bx, 0, none⟩ = some (.slice (some ⟨g, 0, none⟩) 23 c)
  row : SRow W w0.heap.size (.slice (some ⟨g, 0, none⟩) 23 c) L
  below : Below w0.heap.size w0 W
  len : L.length = 23
  n0 : b0 ≠ g
  nx : bx ≠ g
  ng : 6 ≤ g
theorem PS.step {w0 W W' : World} {b0 bx g c : Nat} {n : Nd} {L L' : List Int} (h : PS w0 b0 bx g c n L W) (hw : W.grownBy W' (some g)) (hr : SRow W' w0.heap.size (.slice (some ⟨g, 0, none⟩) 23 c) L') (hl : L'.length = 23) : PS w0 b0 bx g c n L' W' := by
  have far : ∀ b o v, b ≠ g → W.cell? ⟨b, o, none⟩ = some v → W'.cell? ⟨b, o, none⟩ = some v := fun b o v hb hc => by
    have hlt : b < W.heap.size := lt_of_cell hc
    rw [hw.cell_far ⟨b, o, none⟩ hlt (fun e => hb (Option.some.inj e))]
    exact hc
  refine ⟨fun j v hv => far _ _ _ h.n0 (h.fld j v hv), ⟨fun k hk => ⟨far _ _ _ (by have := h.ng; omega) (h.gl.1 k hk).1, far _ _ _ (by have := h.ng; omega) (h.gl.1 k hk).2⟩, Nat.le_trans h.gl.2 hw.size⟩, far _ _ _ h.nx h.box, hr, ?_, hl, h.n0, h.nx, h.ng⟩
  exact h.below.trans (below_of_grown hw (h.row.base_le (b := g) rfl) h.below.size)

theorem PS.put {w0 W : World} {b0 bx g c : Nat} {n : Nd} {L : List Int} (h : PS w0 b0 bx g c n L W) (at_ size v : Nat) (hs1 : 1 ≤ size) (hs8 : size ≤ 8) (hv : v < 2 ^ (8 * size)) (hat : at_ + size ≤ 23) :
    Calls Tryd.prog 22 #[.agg #[.int .i64 at_, .int .i64 size], .int .u64 v, .pointer (some ⟨bx, 0, none⟩)] W fun e W' => e = .returned (.tuple #[]) ∧ PS w0 b0 bx g c n (setLE L at_ v size) W' := by
  have e := h.len
  refine (putc_calls g c bx at_ size v L W w0.heap.size (by rw [e]; exact h.box) (by rw [e]; exact h.row) hs1 hs8 hv (by omega) (by omega)).mono ?_
  rintro e' W' ⟨rfl, h1, h2⟩
  exact ⟨rfl, h.step h2 (by rw [e] at h1; exact h1) (by rw [setLE_len]; exact e)⟩
theorem alloc_new (w : World) (o : Obj) (k : Nat) (h : k = w.heap.size) : (w.alloc o).heap[k]? = some o := by
  subst h
  rw [World.alloc, Array.getElem?_push, if_pos rfl]
theorem made_row (w : World) (base : Nat) (hb : base ≤ w.heap.size) {hz : Array Value} (h : madeCells #[.int .u8 0] 23 = hz) : SRow (w.alloc (.cells hz 5)) base (.slice (some ⟨w.heap.size, 0, none⟩) 23 23) (List.replicate 23 0) := by
  have := own_made_of' (enc := Value.int .u8) (d := 0) w base 5 23 hb (by decide)
  rw [h] at this
  exact SRow.of_own this

theorem SRow.alloc {W : World} {base : Nat} {v : Value} {L : List Int} {o : Obj} (h : SRow W base v L) : SRow (W.alloc o) base v L := h.of_heap fun b hb => Below.heap_alloc _ _ _ (h.lt hb)
theorem textL_len (s : ByteArray) : (textL s).length = s.size + 1 := by rw [textL, List.length_cons, bytesOf_len]
/-- What stands while the last region runs. -/
def RS (w0 : World) (b0 bx g : Nat) (nm tg : ByteArray) (L : List Int) (W : World) : Prop :=
  W.cell? ⟨b0, 2, none⟩ = some (.string nm) ∧ W.cell? ⟨b0, 7, none⟩ = some (.string tg) ∧ W.cell? ⟨bx, 0, none⟩ = some (.slice (some ⟨g, 0, none⟩) 23 23) ∧ SRow W w0.heap.size (.slice (some ⟨g, 0, none⟩) 23 23) L ∧ Below w0.heap.size w0 W
theorem RS.step {w0 W W' : World} {b0 bx g : Nat} {nm tg : ByteArray} {L : List Int} (h : RS w0 b0 bx g nm tg L W) (hb : Below W.heap.size W W') : RS w0 b0 bx g nm tg L W' := by
  obtain ⟨h1, h2, h3, h4, h5⟩ := h
  exact ⟨(hb.cell (lt_of_cell h1)).trans h1, (hb.cell (lt_of_cell h2)).trans h2, (hb.cell (lt_of_cell h3)).trans h3, h4.below (Nat.le_refl _) hb, h5.trans (hb.mono h5.size)⟩
theorem rs_step {w0 W W' : World} {b0 bx g : Nat} {nm tg : ByteArray} {L : List Int} (hb : Below W.heap.size W W') (h1 : W.cell? ⟨b0, 2, none⟩ = some (.string nm)) (h2 : W.cell? ⟨b0, 7, none⟩ = some (.string tg)) (h3 : W.cell? ⟨bx, 0, none⟩ = some (.slice (some ⟨g, 0, none⟩) 23 23)) (h4 : SRow W w0.heap.size (.slice (some ⟨g, 0, none⟩) 23 23) L) (h5 : Below w0.heap.size w0 W) :
    W'.cell? ⟨b0, 2, none⟩ = some (.string nm) ∧ W'.cell? ⟨b0, 7, none⟩ = some (.string tg) ∧ W'.cell? ⟨bx, 0, none⟩ = some (.slice (some ⟨g, 0, none⟩) 23 23) ∧ SRow W' w0.heap.size (.slice (some ⟨g, 0, none⟩) 23 23) L ∧ Below w0.heap.size w0 W' :=
  RS.step ⟨h1, h2, h3, h4, h5⟩ hb

set_option maxHeartbeats 4000000 in
theorem pack_ok (n : Nd) (T P S M X H : Nat) (w : World) (hG : Gl w) (hn : n = ⟨T, P, n.name, S, M, X, H, n.target⟩) (hc0 : checkNo n = 0) (hT : T < 256) (hP : P < 4294967296) (hS : S < 4294967296) (hM : M < 65536) (hX : X < 18446744073709551616) (hH : H < 4294967296) (h1 : n.name.size ≤ 63) (h2 : n.target.size ≤ 127) :
    Calls Tryd.prog 12 #[n.v] w fun e w' => ∃ v, e = .returned (.tuple #[v, .int .i64 0]) ∧ SRow w' w.heap.size v (setLE (setLE (setLE (setLE (setLE (setLE (List.replicate 23 0) 0 T 1) 1 P 4) 5 S 4) 9 M 2) 11 X 8) 19 H 4 ++ textL n.name ++ textL n.target) ∧ Below w.heap.size w w' ∧ w'.ownsRow w.heap.size 5 1 v (setLE (setLE (setLE (setLE (setLE (setLE (List.replicate 23 0) 0 T 1) 1 P 4) 5 S 4) 9 M 2) 11 X 8) 19 H 4 ++ textL n.name ++ textL n.target).length (encs (Value.int .u8) (setLE (setLE (setLE (setLE (setLE (setLE (List.replicate 23 0) 0 T 1) 1 P 4) 5 S 4) 9 M 2) 11 X 8) 19 H 4 ++ textL n.name ++ textL n.target)) := by
  have chk := fun w => check_calls n w
  rw [hc0] at chk
  have CHK := Lib.hid chk
  have HG := Lib.hid hG
  clear chk hG hc0
  obtain ⟨ty, pa, nm, sz, mo, st, sh, tg⟩ := n
  simp only [Nd.mk.injEq, true_and, and_true] at hn
  obtain ⟨rfl, rfl, rfl, rfl, rfl, rfl⟩ := hn
  unfold Nd.v at *
  simp only at *
  go_enter Tryd.func12, Tryd.ntmps12
  go_wp2_with (go_at_call 15; fail)
  refine (CHK.out _).mono ?_
  rintro e w1 ⟨rfl, hb⟩
  have hc := fun b o h => hb.cell (p := ⟨b, o, none⟩) h
  simp only [World.size_alloc] at hc
  have hat : ∀ j v, (#[Value.int .i64 T, .int .i64 P, .string nm, .int .i64 S, .int .i64 M, .int .u64 X, .int .i64 H, .string tg])[j]? = some v → w1.cell? ⟨w.heap.size, j, none⟩ = some v := fun j v h => by
    rw [hc _ _ (by omega), World.cell?_alloc_at _ _ _ _ rfl]; exact h
  have HAT := Lib.hid hat
  have HB := Lib.hid hb
  clear hat hb hc
  obtain ⟨hz, hzz⟩ : ∃ hz, madeCells #[.int .u8 0] 23 = hz := ⟨_, rfl⟩
  have mk : ∀ W : World, (Instr.makeSlice 22 (.int .i64 23) (.int .i64 23)).run Tryd.prog W = .ok (.slice (some ⟨W.heap.size, 0, none⟩) 23 23) (W.alloc (.cells hz 5)) := by
    rw [← hzz]
    exact print_make (P := Tryd.prog) 22 5 .u8 1 Tryd.underlying22 info5 (by decide) 23 (by decide)
  have HZ := Lib.hid hzz
  clear hzz
  go_upto_region 6 with (first | fail)
  have PS0 : PS w w.heap.size (w1.heap.size + 1) w1.heap.size 23 ⟨T, P, nm, S, M, X, H, tg⟩ (List.replicate 23 0) ((w1.alloc (.cells hz 5)).alloc (.cells #[.slice (some ⟨w1.heap.size, 0, none⟩) 23 23] 22)) := by
    have hb := HB.out
    have hsz := hb.size
    rw [World.size_alloc] at hsz
    have hg6 := HG.out.2
    have gl1 : Gl w1 := (HG.out.below (B := w.heap.size) hg6 ((Below.refl _ _).alloc (Nat.le_refl _) _)).below (B := w.heap.size) hg6 (hb.mono (by rw [World.size_alloc]; omega))
    refine ⟨fun j v hv => ?_, ?_, ?_, ?_, ?_, by simp, by omega, by omega, by omega⟩
    · have hl := HAT.out j v (by simpa [Nd.cs] using hv)
      rw [World.cell?_alloc_old _ _ _ (by rw [World.size_alloc]; show w.heap.size ≠ _; omega), World.cell?_alloc_old _ _ _ (by show w.heap.size ≠ _; omega)]
      exact hl
    · exact (gl1.below (B := 6) (Nat.le_refl _) ((Below.refl _ _).alloc (by omega) _)).below (B := 6) (Nat.le_refl _) ((Below.refl _ _).alloc (by rw [World.size_alloc]; omega) _)
    · rw [World.cell?_alloc_at _ _ _ _ (by rw [World.size_alloc])]
      rfl
    · exact SRow.of_heap (made_row w1 w.heap.size (by omega) HZ.out) (fun b hb => by cases hb; exact Below.heap_alloc _ _ _ (show w1.heap.size < _ by rw [World.size_alloc]; omega))
    · exact ((((Below.refl _ _).alloc (Nat.le_refl _) _).trans (hb.mono (by rw [World.size_alloc]; omega))).alloc (by omega) _).alloc (by rw [World.size_alloc]; omega) _
  revert PS0
  generalize (w1.alloc (.cells hz 5)).alloc (.cells #[.slice (some ⟨w1.heap.size, 0, none⟩) 23 23] 22) = W0
  obtain ⟨bx, hbx⟩ : ∃ bx, bx = w1.heap.size + 1 := ⟨_, rfl⟩
  rw [← hbx]
  clear hbx
  generalize w1.heap.size = g
  intro P0
  have fa0 := P0.fld 0 _ rfl
  have ga0 : W0.cell? ⟨0, 0, none⟩ = some (.int .i64 0) := (P0.gl.1 0 (by decide)).1
  have gb0 : W0.cell? ⟨0, 1, none⟩ = some (.int .i64 1) := (P0.gl.1 0 (by decide)).2
  have Q0 := Lib.hid P0
  clear P0
  go_wp2_with (go_at_call 22; fail)
  refine (Q0.out.put 0 1 T (by decide) (by decide) (by omega) (by decide)).mono ?_
  rintro e W1 ⟨rfl, P1⟩
  clear fa0 ga0 gb0 Q0
  have fa1 := P1.fld 1 _ rfl
  have ga1 : W1.cell? ⟨1, 0, none⟩ = some (.int .i64 1) := (P1.gl.1 1 (by decide)).1
  have gb1 : W1.cell? ⟨1, 1, none⟩ = some (.int .i64 4) := (P1.gl.1 1 (by decide)).2
  have Q1 := Lib.hid P1
  clear P1
  go_wp2_with (go_at_call 22; fail)
  refine (Q1.out.put 1 4 P (by decide) (by decide) (by omega) (by decide)).mono ?_
  rintro e W2 ⟨rfl, P2⟩
  clear fa1 ga1 gb1 Q1
  have fa2 := P2.fld 3 _ rfl
  have ga2 : W2.cell? ⟨2, 0, none⟩ = some (.int .i64 5) := (P2.gl.1 2 (by decide)).1
  have gb2 : W2.cell? ⟨2, 1, none⟩ = some (.int .i64 4) := (P2.gl.1 2 (by decide)).2
  have Q2 := Lib.hid P2
  clear P2
  go_wp2_with (go_at_call 22; fail)
  refine (Q2.out.put 5 4 S (by decide) (by decide) (by omega) (by decide)).mono ?_
  rintro e W3 ⟨rfl, P3⟩
  clear fa2 ga2 gb2 Q2
  have fa3 := P3.fld 4 _ rfl
  have ga3 : W3.cell? ⟨3, 0, none⟩ = some (.int .i64 9) := (P3.gl.1 3 (by decide)).1
  have gb3 : W3.cell? ⟨3, 1, none⟩ = some (.int .i64 2) := (P3.gl.1 3 (by decide)).2
  have Q3 := Lib.hid P3
  clear P3
  go_wp2_with (go_at_call 22; fail)
  refine (Q3.out.put 9 2 M (by decide) (by decide) (by omega) (by decide)).mono ?_
  rintro e W4 ⟨rfl, P4⟩
  clear fa3 ga3 gb3 Q3
  have fa4 := P4.fld 5 _ rfl
  have ga4 : W4.cell? ⟨4, 0, none⟩ = some (.int .i64 11) := (P4.gl.1 4 (by decide)).1
  have gb4 : W4.cell? ⟨4, 1, none⟩ = some (.int .i64 8) := (P4.gl.1 4 (by decide)).2
  have Q4 := Lib.hid P4
  clear P4
  go_wp2_with (go_at_call 22; fail)
  refine (Q4.out.put 11 8 X (by decide) (by decide) (by omega) (by decide)).mono ?_
  rintro e W5 ⟨rfl, P5⟩
  clear fa4 ga4 gb4 Q4
  have fa5 := P5.fld 6 _ rfl
  have ga5 : W5.cell? ⟨5, 0, none⟩ = some (.int .i64 19) := (P5.gl.1 5 (by decide)).1
  have gb5 : W5.cell? ⟨5, 1, none⟩ = some (.int .i64 4) := (P5.gl.1 5 (by decide)).2
  have Q5 := Lib.hid P5
  clear P5
  go_wp2_with (go_at_call 22; fail)
  refine (Q5.out.put 19 4 H (by decide) (by decide) (by omega) (by decide)).mono ?_
  rintro e W6 ⟨rfl, P6⟩
  clear fa5 ga5 gb5 Q5
  have l6 := P6.len
  obtain ⟨L6, hL6⟩ : ∃ L6, L6 = setLE (setLE (setLE (setLE (setLE (setLE (List.replicate 23 0) 0 T 1) 1 P 4) 5 S 4) 9 M 2) 11 X 8) 19 H 4 := ⟨_, rfl⟩
  rw [← hL6] at P6 l6
  have HL6 := Lib.hid hL6
  clear hL6
  have fa := P6.fld 2 _ rfl
  have fb := P6.fld 7 _ rfl
  have fc := P6.box
  have rw6 := P6.row
  have bw6 := P6.below
  clear P6
  go_wp2_with fail
  go_region_held3 (fun W => W.cell? ⟨w.heap.size, 2, none⟩ = some (.string nm) ∧ W.cell? ⟨w.heap.size, 7, none⟩ = some (.string tg) ∧ W.cell? ⟨bx, 0, none⟩ = some (.slice (some ⟨g, 0, none⟩) 23 23) ∧ SRow W w.heap.size (.slice (some ⟨g, 0, none⟩) 23 23) L6 ∧ Below w.heap.size w W)
    (first
      | exact rs_step ((Below.refl _ _).drew) (by assumption) (by assumption) (by assumption) (by assumption) (by assumption)
      | (go_split_ands; exact rs_step (by assumption) (by assumption) (by assumption) (by assumption) (by assumption) (by assumption))
      | (go_split_ands; exact rs_step ((Below.refl _ _).alloc (Nat.le_refl _) _) (by assumption) (by assumption) (by assumption) (by assumption) (by assumption))
      | (trace_state; fail))
    (first
      | (go_at_call 25; refine (text_row nm (by omega) _).mono ?_; rintro e wa ⟨v, rfl, hra, hba⟩; obtain ⟨sa, ca, rfl⟩ := hra.shape)
      | (go_at_call 25; refine (text_row tg (by omega) _).mono ?_; rintro e wb ⟨v, rfl, hrb, hbb⟩; obtain ⟨sb, cb, rfl⟩ := hrb.shape)
      | (go_at_call 24; refine (join_row (alloc_new _ _ _ rfl) (by go_split_ands; assumption) (SRow.alloc (hra.below (Nat.le_refl _) hbb)) (SRow.alloc hrb) (by omega) (by rw [textL_len]; omega) (by rw [textL_len]; omega)).mono ?_; rintro e wc ⟨v, rfl, hrc, hbc, hoc⟩; obtain ⟨sc, cc, rfl⟩ := hrc.shape))
  rename_i hHeld
  obtain ⟨_, _, _, _, hbw⟩ := hHeld
  have el : (L6 ++ textL nm ++ textL tg).length = 23 + ((textL nm).length + (textL tg).length) := by rw [List.length_append, List.length_append, l6, Nat.add_assoc]
  have hrc' := SRow.mono hrc (base' := w.heap.size) (by
    rw [World.size_alloc]
    have h1 := bw6.size
    have h2 := hba.size
    have h3 := hbb.size
    have h4 : W6.drew.heap.size = W6.heap.size := rfl
    omega)
  have hoc' := own_weaken hoc (base' := w.heap.size) (by
    rw [World.size_alloc]
    have h1 := bw6.size
    have h2 := hba.size
    have h3 := hbb.size
    have h4 : W6.drew.heap.size = W6.heap.size := rfl
    omega)
  rw [el] at hrc' hoc'
  rw [HL6.out] at hrc' hoc' el
  have EL := Lib.hid el
  have R := Lib.hid hrc'
  have O := Lib.hid hoc'
  clear hoc hoc'
  have B := Lib.hid hbw
  clear hrc' hrc hbw hra hrb hba hbb hbc fa fb fc rw6 bw6 el l6 HL6
  go_wp2
  refine bodyPost_ret (results_tmp2 rfl _ _ _) rfl ?_
  refine ⟨_, rfl, R.out, B.out, ?_⟩
  rw [EL.out]
  exact O.out

set_option maxHeartbeats 4000000 in
theorem pack_bad (n : Nd) (w : World) (k : Int) (hc : checkNo n = k) (hk : (k != 0) = true) :
    Calls Tryd.prog 12 #[n.v] w fun e w' => e = .returned (.tuple #[.slice none 0 0, .int .i64 k]) ∧ Below w.heap.size w w' := by
  have chk := fun w => check_calls n w
  rw [hc] at chk
  have CHK := Lib.hid chk
  clear chk hc
  unfold Nd.v at *
  go_enter Tryd.func12, Tryd.ntmps12
  go_wp2_with (go_at_call 15; fail)
  refine (CHK.out _).mono ?_
  rintro e w1 ⟨rfl, hb⟩
  have HB := Lib.hid hb
  clear hb
  go_wp2
  refine bodyPost_ret (results_tmp2 rfl _ _ _) rfl ?_
  exact ⟨rfl, ((Below.refl _ _).alloc (Nat.le_refl _) _).trans (HB.out.mono (by simp))⟩
end Go.Proofs.YtljamhpdgmelcaaDoor
