/- NodeReads: what the law runs. -/
import Derived.Test.YtljamhpdgmelcaaDoorPHDNodeBackx1
import Derived.BigQuiet
import Derived.Deep.QuietTactic
namespace Go.Proofs.YtljamhpdgmelcaaDoor
open Go.RowKit Go.Proofs Go.Proofs.YtljamhpdgmelcaaDoorW.PrintWords Go.Proofs.YtljamhpdgmelcaaDoorW.PrintLast Go.Proofs.YtljamhpdgmelcaaDoorW.PrintMore
set_option linter.unusedVariables false
set_option linter.unusedSimpArgs false
attribute [local go_sem high] PHDNodeBack.eqA25

def marks : List Int := [161, 178, 195]
set_option maxHeartbeats 2000000 in
theorem marked_full {W : World} {A : Option Addr} {c n : Nat} {L : List Int} (hn : n = L.length) (h : Kd.C (Kd.int .u8) W A n L) (hc : n ≤ c) (hl : n ≤ 140737488351232) :
    Calls Tryd.prog 8 #[.slice A n c] W fun e w' => ∃ g k, e = .returned (.slice (some ⟨g, 0, none⟩) n k) ∧ SRow w' W.heap.size (.slice (some ⟨g, 0, none⟩) (n + 3) k) (L ++ marks) ∧ n + 3 ≤ k ∧ Below W.heap.size W w' := by
  have HN := Lib.hid hn
  have H := Lib.hid h
  clear hn h
  go_enter Tryd.func8, Tryd.ntmps8
  go_wp2_with (first
    | ((with_reducible refine gate_dst (N := 4) rfl ?_); refine Kd.R_lit (Kd.int .u8) _ 5 ?hg (N := 4) ?hd (xs := ([] : List Int)) (inner := []) (ok := fun _ => True) (okp := fun _ => True) ?hr ?hp (fun _ hk => hk) trivial (Below.refl _ _) (Nat.le_refl _) (by simp) ?_; (case hd => rfl); (case hg => rfl); (case hr => first | (go_simp; done) | (go_simp; rfl)); (case hp => exact (Reps.none _ _)); intro va wa ra ba ga_ na_; clear ga_ na_; have RA := Lib.hid ra; have BA := Lib.hid ba; have RS := Lib.hid (Kd.C_below H.out ba); clear ra ba)
    | ((with_reducible refine gate_builtin (b := .append) (xs := #[.tmp 4, .tmp 5]) rfl ?_); at_builtin; refine Kd.R_append_rows (Kd.int .u8) (w0 := W) W.heap.size rfl (.tmp 4) (.tmp 5) 22 5 (.int .u8 0) 1 rfl Tryd.underlying22 info5 rfl (by decide) (by decide) va [] L _ _ _ (fun _ => True) (fun _ => False) rfl rfl ?aO ?aR (fun _ _ h => h) (fun _ h => h.elim) ?aF ?aB ?aS ?aL ?_; (case aR => exact RS.out); (case aB => exact BA.out); (case aF => exact (fun _ _ => trivial)); (case aO => exact RA.out); (case aS => exact BA.out.size); (case aL => simp; omega); intro vb wb_ rb bb gb_ ab_; rw [List.nil_append] at rb; have RB := Lib.hid rb; have BB := Lib.hid bb; clear rb bb gb_ ab_ RA BA RS)
    | ((with_reducible refine gate_dst (N := 7) rfl ?_); refine Kd.R_lit (Kd.int .u8) _ 5 ?hg (N := 7) ?hd (xs := ([161, 178, 195] : List Int)) (inner := [.int .u8 161, .int .u8 178, .int .u8 195]) (ok := fun _ => True) (okp := fun _ => True) ?hr ?hp (fun _ hk => hk) trivial (Below.refl _ _) (Nat.le_refl _) (by simp) ?_; (case hd => rfl); (case hg => rfl); (case hr => first | (go_simp; done) | (go_simp; rfl)); (case hp => exact (Reps.one (show Kd.M (Kd.int .u8) _ _ _ 161 [.int .u8 161] from rfl) (Reps.one (show Kd.M (Kd.int .u8) _ _ _ 178 [.int .u8 178] from rfl) (Reps.one (show Kd.M (Kd.int .u8) _ _ _ 195 [.int .u8 195] from rfl) (Reps.none _ _))))); intro vc wc_ rc bc gc_ nc_; clear gc_ nc_; obtain ⟨Ac, kc, rfl⟩ := Kd.R_slice rc; have RC := Lib.hid (Kd.R_reads' rc).2.2; have RBC := Lib.hid (Kd.R_below RB.out bc); have BC := Lib.hid (BB.out.trans (bc.mono BB.out.size)); clear rc bc RB BB)
    | ((with_reducible refine gate_builtin (b := .append) (xs := #[.tmp 6, .tmp 7]) rfl ?_); at_builtin; refine Kd.R_append_rows (Kd.int .u8) (w0 := W) W.heap.size rfl (.tmp 6) (.tmp 7) 22 5 (.int .u8 0) 1 rfl Tryd.underlying22 info5 rfl (by decide) (by decide) vb L [161, 178, 195] _ _ _ (fun _ => True) (fun _ => False) rfl rfl ?aO ?aR (fun _ _ h => h) (fun _ h => h.elim) ?aF ?aB ?aS ?aL ?_; (case aR => exact RC.out); (case aB => exact BC.out); (case aF => exact (fun _ _ => trivial)); (case aO => exact RBC.out); (case aS => exact BC.out.size); (case aL => (have := HN.out; simp; omega)); intro vd wd_ rd_ bd gd_ ad_; obtain ⟨Ad, kd_, rfl⟩ := Kd.R_slice rd_; have el : (L ++ [161, 178, 195]).length = n + 3 := (by rw [List.length_append, ← HN.out]; rfl); have ID := (Kd.R_reads' rd_).2.1; rw [el] at rd_ ID ⊢; have RD := Lib.hid (SRow.of_R rd_); have IN : (n : Int) ≤ (kd_ : Int) := (by omega); have BD := Lib.hid bd; clear rd_ bd gd_ ad_ RBC BC RC el))
  go_ret
  rcases RD.out with ⟨h1, h2⟩ | ⟨g, k, cur, h1, h2⟩
  · simp at h2
  · have e : Ad = some ⟨g, 0, none⟩ := by injection h1
    subst e
    exact ⟨g, kd_, rfl, RD.out, ID, BD.out⟩

theorem srow_cell {W : World} {base g k : Nat} {M : List Int} {m : Nat} (h : SRow W base (.slice (some ⟨g, 0, none⟩) m k) M) {i : Nat} {x : Int} (hx : M[i]? = some x) : W.cell? ⟨g, i, none⟩ = some (.int .u8 x) ∧ W.frozen? ⟨g, i, none⟩ = false := by
  obtain ⟨g', c', e, h1, h2⟩ := h.cell hx
  simp only [Value.slice.injEq, Option.some.injEq, Addr.mk.injEq] at e
  obtain ⟨⟨rfl, _⟩, _⟩ := e
  exact ⟨h1, h2⟩
theorem srow_vw {W : World} {base g k m : Nat} {L M : List Int} (h : SRow W base (.slice (some ⟨g, 0, none⟩) m k) (L ++ M)) : Vw W g 0 L := fun i x hx => by
  rw [Nat.zero_add]
  exact (srow_cell h (by rw [List.getElem?_append_left (List.getElem?_eq_some_iff.1 hx).1]; exact hx)).1
theorem srow_mark {W : World} {base g k m n : Nat} {L M : List Int} (h : SRow W base (.slice (some ⟨g, 0, none⟩) m k) (L ++ M)) (hn : n = L.length) {i : Nat} {x : Int} (hx : M[i]? = some x) : W.cell? ⟨g, n + i, none⟩ = some (.int .u8 x) :=
  (srow_cell h (by rw [hn, List.getElem?_append_right (by omega), Nat.add_sub_cancel_left]; exact hx)).1
theorem vw_kd {W : World} {g n : Nat} {L : List Int} (h : Vw W g 0 L) (hn : n = L.length) (hl : n ≤ 281474976710656) : Kd.C (Kd.int .u8) W (some ⟨g, 0, none⟩) n L := by
  subst hn
  refine Kd.C_of_reads (d := (0 : Int)) ⟨rfl, by omega, fun h0 => ⟨_, rfl, fun j hj => ?_⟩⟩
  rw [Addr.add_lit]
  have := h j (L.getD j 0) (by rw [List.getD_eq_getElem?_getD, List.getElem?_eq_getElem hj]; rfl)
  exact this

set_option maxHeartbeats 2000000 in
theorem kept_calls {W : World} {A : Option Addr} {base g k c n : Nat} {L : List Int} (hn : n = L.length) (hr : SRow W base (.slice (some ⟨g, 0, none⟩) (n + 3) k) (L ++ marks)) (hk : n + 3 ≤ k) (h : Kd.C (Kd.int .u8) W A n L) (hc : n ≤ c) (hl : n ≤ 140737488351232) :
    Calls Tryd.prog 10 #[.slice (some ⟨g, 0, none⟩) n k, .slice A n c] W fun e w' => e = .returned (.bool true) ∧ ∃ q, w' = W.drewN q := by
  have m0 := srow_mark hr hn (i := 0) (x := 161) rfl
  have m1 := srow_mark hr hn (i := 1) (x := 178) rfl
  have m2 := srow_mark hr hn (i := 2) (x := 195) rfl
  rw [Nat.add_zero] at m0
  have v1 := srow_vw hr
  have cv1 : ∀ q, (Go.convert 22 9 (.slice (some ⟨g, 0, none⟩) n k)).run Tryd.prog (W.drewN q) = .ok (.string (strOfNums L)) (W.drewN q) := fun q => vw_conv k (v1.below (pw_below_drewN (Below.refl _ _) q)) hn.symm
  have cv2 : ∀ q, (Go.convert 22 9 (.slice A n c)).run Tryd.prog (W.drewN q) = .ok (.string (strOfNums L)) (W.drewN q) := fun q => Kd.C_string Tryd.underlying22 Tryd.underlying5 Tryd.underlying9 (Kd.C_below h (pw_below_drewN (Below.refl _ _) q))
  have i1 : (n : Int) + 3 ≤ (k : Int) := by omega
  have i2 : (0 : Int) ≤ (n : Int) + 3 := by omega
  have i3 : (n : Int) ≤ (k : Int) := by omega
  have i4 : IntKind.i64.wrap ((n : Int) + 3) = (n : Int) + 3 := by rw [IntKind.wrap_i64]; omega
  have i5 : IntKind.i64.wrap ((n : Int) + 1) = (n : Int) + 1 := by rw [IntKind.wrap_i64]; omega
  have i6 : IntKind.i64.wrap ((n : Int) + 2) = (n : Int) + 2 := by rw [IntKind.wrap_i64]; omega
  clear hr v1 hn h
  go_enter Tryd.func10, Tryd.ntmps10
  go_upto_region 2 with (first | fail)
  go_quiet (fail)
  go_wp2
  go_ret
  exact ⟨rfl, _, rfl⟩
/-- Eight cells of a header's block. -/
def BxR (n : Nd) (b : Nat) (W : World) : Prop := (∀ (j : Nat) v, n.cs[j]? = some v → W.cell? ⟨b, j, none⟩ = some v) ∧ b < W.heap.size
theorem BxR.below {n : Nd} {b : Nat} {W W' : World} (h : BxR n b W) (hb : Below W.heap.size W W') : BxR n b W' := ⟨fun j v hv => (hb.cell (lt_of_cell (h.1 j v hv))).trans (h.1 j v hv), Nat.lt_of_lt_of_le h.2 hb.size⟩
theorem BxR.new (n : Nd) (W : World) : BxR n W.heap.size (W.alloc (.cells n.cs.toArray 25)) := ⟨fun j v hv => by
  rw [World.cell?_alloc_at _ _ _ _ rfl]
  simpa using hv, by simp⟩
theorem BxR.set {n : Nd} {b g i : Nat} {W : World} (h : BxR n b W) (hne : b ≠ g) (u : Value) : BxR n b (W.setCell ⟨g, i, none⟩ u) := ⟨fun j v hv => by
  have := h.1 j v hv
  unfold World.cell? at this ⊢
  rw [heap_setCell_other _ _ _ _ (show b ≠ (⟨g, i, none⟩ : Addr).block from hne)]
  exact this, by simpa [World.setCell] using h.2⟩
def xor1 (x : Int) : Int := Go.bits .xor .u8 x 1
theorem xor1_byte (x : Int) (h0 : 0 ≤ x) (h1 : x < 256) : 0 ≤ xor1 x ∧ xor1 x < 256 := by
  obtain ⟨n, rfl⟩ := Int.eq_ofNat_of_zero_le h0
  have k : ∀ m : Fin 256, 0 ≤ xor1 ((m.val : Nat) : Int) ∧ xor1 ((m.val : Nat) : Int) < 256 := by decide +kernel
  exact k ⟨n, by omega⟩
theorem read_at7 {w : World} {A : Option Addr} {c n : Nat} {L : List Int} {N : Nd} {E : Int} (hn : n = L.length) (h : Kd.C (Kd.int .u8) w A n L) (hc : n ≤ c) (hB : Byts L) (hl : n ≤ 140737488351232) (hR : readN L = (N, E)) :
    Calls Tryd.prog 7 #[.slice A n c] w fun e w' => e = .returned (.tuple #[N.v, .int .i64 E]) ∧ Below w.heap.size w w' := by
  subst hn
  have := ref_row A c L w h hc hB (by omega)
  rw [hR] at this
  exact this
theorem read_at9 {w : World} {A : Option Addr} {c n : Nat} {L : List Int} {N : Nd} {E : Int} (hn : n = L.length) (h : Kd.C (Kd.int .u8) w A n L) (hc : n ≤ c) (hB : Byts L) (hl : n ≤ 140737488351232) (hR : readN L = (N, E)) (hG : Gl w) :
    Calls Tryd.prog 9 #[.slice A n c] w fun e w' => e = .returned (.tuple #[N.v, .int .i64 E]) ∧ Below w.heap.size w w' := by
  subst hn
  have := read_row A c L w h hc hB (by omega) hG
  rw [hR] at this
  exact this
structure RInv (N : Nd) (w : World) (base g k b3 b6 n : Nat) (W : World) : Prop where
  row : ∃ M, M.length = n + 3 ∧ SRow W base (.slice (some ⟨g, 0, none⟩) (n + 3) k) M
  x3 : BxR N b3 W
  x6 : BxR N b6 W
  below : Below w.heap.size w W
  hb : w.heap.size ≤ base
  hg : base ≤ g
  n3 : b3 ≠ g
  n6 : b6 ≠ g
theorem RInv.set {N : Nd} {w : World} {base g k b3 b6 n : Nat} {W : World} (h : RInv N w base g k b3 b6 n W) (j : Nat) (x : Int) : RInv N w base g k b3 b6 n (W.setCell ⟨g, j, none⟩ (.int .u8 x)) := by
  obtain ⟨M, hM, hr⟩ := h.row
  refine ⟨⟨M.set j x, by rw [List.length_set]; exact hM, ?_⟩, h.x3.set h.n3 _, h.x6.set h.n6 _, h.below.setCell (p := ⟨g, j, none⟩) (Nat.le_trans h.hb h.hg) _, h.hb, h.hg, h.n3, h.n6⟩
  rw [← hM] at hr ⊢
  exact hr.store j x
theorem set_len {W : World} {base g k m : Nat} {M : List Int} (h : SRow W base (.slice (some ⟨g, 0, none⟩) m k) M) : m = M.length := by
  obtain ⟨_, _, e⟩ := h.shape
  simp only [Value.slice.injEq] at e
  exact e.2.1

set_option maxRecDepth 100000 in
set_option maxHeartbeats 4000000 in
theorem reads_walk (A : Option Addr) (c n : Nat) (L : List Int) (w : World) (hG : Gl w) (hn : n = L.length) (hC : Kd.C (Kd.int .u8) w A n L) (hc : n ≤ c) (hB : Byts L) (hl : n ≤ 140737488351232) :
    Calls Tryd.prog 3 #[.slice A n c] w fun e w' => e = .returned (.bool true) ∧ Below w.heap.size w w' := by
  obtain ⟨N, E, hR⟩ : ∃ N E, readN L = (N, E) := ⟨_, _, rfl⟩
  obtain ⟨a0, a1, a2, a3, a4, a5, a6, a7⟩ := N
  have HN := Lib.hid hn
  have HC := Lib.hid hC
  have HB := Lib.hid hB
  have HR := Lib.hid hR
  have HG := Lib.hid hG
  clear hG hn hC hB hR
  go_enter Tryd.func3, Tryd.ntmps3
  go_wp2_with (go_at_call 7; fail)
  refine (read_at7 HN.out HC.out hc HB.out hl HR.out).mono ?_
  unfold Nd.v
  simp only
  rintro e w1 ⟨rfl, b1⟩
  have B1 := Lib.hid b1
  clear b1
  go_wp2_with (go_at_call 8; fail)
  have b2 : Below w1.heap.size w1 (w1.alloc (.cells #[.int .i64 a0, .int .i64 a1, .string a2, .int .i64 a3, .int .i64 a4, .int .u64 a5, .int .i64 a6, .string a7] 25)) := (Below.refl _ _).alloc (Nat.le_refl _) _
  have X2 := BxR.new ⟨a0, a1, a2, a3, a4, a5, a6, a7⟩ w1
  have B2 := B1.out.trans (b2.mono B1.out.size)
  obtain ⟨b3, hb3⟩ : ∃ b3, b3 = w1.heap.size := ⟨_, rfl⟩
  rw [← hb3] at X2 ⊢
  have b3l : w.heap.size ≤ b3 := by rw [hb3]; exact B1.out.size
  revert B2
  revert X2
  clear b2 hb3 B1
  unfold Nd.cs
  simp only
  generalize w1.alloc (.cells #[.int .i64 a0, .int .i64 a1, .string a2, .int .i64 a3, .int .i64 a4, .int .u64 a5, .int .i64 a6, .string a7] 25) = W2
  intro X2' B2'
  have X2 : Hid (BxR ⟨a0, a1, a2, a3, a4, a5, a6, a7⟩ b3 W2) := Lib.hid X2'
  have B2 := Lib.hid B2'
  clear X2' B2'
  refine (marked_full HN.out (Kd.C_below HC.out B2.out) hc hl).mono ?_
  rintro e W3 ⟨g, k, rfl, r3, hk, c3⟩
  have X3 := Lib.hid (X2.out.below c3)
  have B3 := Lib.hid (B2.out.trans (c3.mono B2.out.size))
  have R3 := Lib.hid r3
  obtain ⟨base, hbase⟩ : ∃ base, base = W2.heap.size := ⟨_, rfl⟩
  rw [← hbase] at R3
  have hbg : base ≤ g := by rw [hbase]; exact r3.base_le rfl
  have hwb : w.heap.size ≤ base := by rw [hbase]; exact B2.out.size
  have n3 : b3 ≠ g := by have := X2.out.2; omega
  have gl3 : g < W3.heap.size := r3.lt rfl
  have HBG := Lib.hid hbg
  have HWB := Lib.hid hwb
  have HN3 := Lib.hid n3
  have HGL3 := Lib.hid gl3
  clear r3 c3 hbase X2 B2 hbg hwb n3 gl3
  go_wp2_with (go_at_call 9; fail)
  refine (read_at9 HN.out (vw_kd (srow_vw R3.out) HN.out (by omega)) (by omega) HB.out hl HR.out (Gl.under HG.out B3.out)).mono ?_
  unfold Nd.v
  simp only
  rintro e W4 ⟨rfl, c4⟩
  have X4 := Lib.hid (X3.out.below c4)
  have B4 := Lib.hid (B3.out.trans (c4.mono B3.out.size))
  have R4 := Lib.hid (R3.out.below (Nat.le_refl _) c4)
  have HGL4 := Lib.hid (Nat.lt_of_lt_of_le HGL3.out c4.size)
  clear c4 X3 B3 R3 HGL3
  go_wp2_with (go_at_call 10; fail)
  have b5 : Below W4.heap.size W4 (W4.alloc (.cells #[.int .i64 a0, .int .i64 a1, .string a2, .int .i64 a3, .int .i64 a4, .int .u64 a5, .int .i64 a6, .string a7] 25)) := (Below.refl _ _).alloc (Nat.le_refl _) _
  have Y5 := BxR.new ⟨a0, a1, a2, a3, a4, a5, a6, a7⟩ W4
  have X5 := X4.out.below b5
  have B5 := B4.out.trans (b5.mono B4.out.size)
  have R5 := R4.out.below (Nat.le_refl _) b5
  obtain ⟨b6, hb6⟩ : ∃ b6, b6 = W4.heap.size := ⟨_, rfl⟩
  rw [← hb6] at Y5 ⊢
  have n6 : b6 ≠ g := by have := HGL4.out; omega
  have HN6 := Lib.hid n6
  revert R5
  revert B5
  revert X5
  revert Y5
  clear b5 hb6 X4 B4 R4 HGL4 n6
  unfold Nd.cs
  simp only
  generalize W4.alloc (.cells #[.int .i64 a0, .int .i64 a1, .string a2, .int .i64 a3, .int .i64 a4, .int .u64 a5, .int .i64 a6, .string a7] 25) = W5
  intro Y5' X5' B5' R5'
  have Y5 : Hid (BxR ⟨a0, a1, a2, a3, a4, a5, a6, a7⟩ b6 W5) := Lib.hid Y5'
  have X5 := Lib.hid X5'
  have B5 := Lib.hid B5'
  have R5 := Lib.hid R5'
  clear Y5' X5' B5' R5'
  refine (kept_calls HN.out R5.out hk (Kd.C_below HC.out B5.out) hc hl).mono ?_
  rintro e W6 ⟨rfl, q6, rfl⟩
  have b6' : Below W5.heap.size W5 (W5.drewN q6) := pw_below_drewN (Below.refl _ _) q6
  have Y6 := Y5.out.below b6'
  have X6 := X5.out.below b6'
  have B6 := B5.out.trans (b6'.mono B5.out.size)
  have R6 := R5.out.below (Nat.le_refl _) b6'
  revert R6
  revert B6
  revert X6
  revert Y6
  clear b6' Y5 X5 B5 R5
  generalize W5.drewN q6 = W6
  intro Y6' X6' B6' R6'
  have Y6 := Lib.hid Y6'
  have X6 := Lib.hid X6'
  have B6 := Lib.hid B6'
  have R6 := Lib.hid R6'
  clear Y6' X6' B6' R6'
  by_cases hn0 : n = 0
  · subst hn0
    have INV : Hid (RInv ⟨a0, a1, a2, a3, a4, a5, a6, a7⟩ w base g k b3 b6 0 W6) := Lib.hid ⟨⟨_, (set_len R6.out).symm, R6.out⟩, X6.out, Y6.out, B6.out, HWB.out, HBG.out, HN3.out, HN6.out⟩
    clear X6 Y6 B6 R6
    -- the marks over all, and the end
    go_wp2_with fail
    go_loopw [13] (fun i wr => ∃ j : Nat, j ≤ 0 ∧ i = .int .i64 j ∧ RInv ⟨a0, a1, a2, a3, a4, a5, a6, a7⟩ w base g k b3 b6 0 wr) (fun i _ => 0 - (intOf i).toNat)
    case atStart => exact ⟨0, Nat.zero_le _, rfl, INV.out⟩
    case round =>
      obtain ⟨j, hj, rfl, hI⟩ := hrel
      clear INV
      by_cases hlt : j < 0
      · omega
      · obtain rfl : j = 0 := by omega
        have p0 := hI.x3.1 0 _ rfl; have p1 := hI.x3.1 1 _ rfl; have p2 := hI.x3.1 2 _ rfl; have p3 := hI.x3.1 3 _ rfl; have p4 := hI.x3.1 4 _ rfl; have p5 := hI.x3.1 5 _ rfl; have p6 := hI.x3.1 6 _ rfl; have p7 := hI.x3.1 7 _ rfl
        have q0 := hI.x6.1 0 _ rfl; have q1 := hI.x6.1 1 _ rfl; have q2 := hI.x6.1 2 _ rfl; have q3 := hI.x6.1 3 _ rfl; have q4 := hI.x6.1 4 _ rfl; have q5 := hI.x6.1 5 _ rfl; have q6 := hI.x6.1 6 _ rfl; have q7 := hI.x6.1 7 _ rfl
        have HI := Lib.hid hI
        clear hI
        go_wp2
        go_ret
        exact ⟨by simp, HI.out.below⟩
  · have hnp : (0 : Int) < (n : Int) := by omega
    have hn1 : (0 : Int) ≤ (n : Int) - 1 := by omega
    have hn2 : (n : Int) - 1 < (n : Int) := by omega
    have hn3 : ((n : Int) - 1).toNat = n - 1 := by omega
    obtain ⟨x, hx⟩ : ∃ x, L[n - 1]? = some x := ⟨_, List.getElem?_eq_getElem (by rw [← HN.out]; omega)⟩
    have hxb := HB.out.at_ hx
    have hcell := srow_cell R6.out (i := n - 1) (by rw [List.getElem?_append_left (by rw [← HN.out]; omega)]; exact hx)
    obtain ⟨z0, z1⟩ := hcell
    have HX := Lib.hid hx
    clear hx
    have hnp' : 0 < n := by omega
    go_upto_region 7 with (first | fail)
    have gl6 : g < W6.heap.size := R6.out.lt rfl
    have lm : (L ++ marks).length = n + 3 := (set_len R6.out).symm
    have R7 : SRow (W6.setCell ⟨g, n - 1, none⟩ (.int .u8 (xor1 x))) base (.slice (some ⟨g, 0, none⟩) (n + 3) k) (L.set (n - 1) (xor1 x) ++ marks) := by
      have q := R6.out
      rw [← lm] at q ⊢
      have := q.store (n - 1) (xor1 x)
      rw [List.set_append_left _ _ (by rw [← HN.out]; omega)] at this
      exact this
    have X7 := X6.out.set (i := n - 1) HN3.out (.int .u8 (xor1 x))
    have Y7 := Y6.out.set (i := n - 1) HN6.out (.int .u8 (xor1 x))
    have B7 : Below w.heap.size w (W6.setCell ⟨g, n - 1, none⟩ (.int .u8 (xor1 x))) := B6.out.setCell (p := ⟨g, n - 1, none⟩) (Nat.le_trans HWB.out HBG.out) _
    obtain ⟨L7, hL7⟩ : ∃ L7, L7 = L.set (n - 1) (xor1 x) := ⟨_, rfl⟩
    rw [← hL7] at R7
    have hn7 : n = L7.length := by rw [hL7, List.length_set]; exact HN.out
    have hB7 : Byts L7 := fun y hy => by
      rw [hL7] at hy
      rcases List.mem_or_eq_of_mem_set hy with h | rfl
      · exact HB.out y h
      · exact xor1_byte x hxb.1 hxb.2
    obtain ⟨M, E2, hR7⟩ : ∃ N E, readN L7 = (N, E) := ⟨_, _, rfl⟩
    obtain ⟨d0, d1, d2, d3, d4, d5, d6, d7⟩ := M
    have HN7 := Lib.hid hn7
    have HB7 := Lib.hid hB7
    have HR7 := Lib.hid hR7
    revert R7
    revert B7
    revert X7
    revert Y7
    clear X6 Y6 B6 R6 z0 z1 hL7 hn7 hB7 hR7 gl6 lm hxb
    unfold xor1
    generalize W6.setCell ⟨g, n - 1, none⟩ (.int .u8 (Go.bits .xor .u8 x 1)) = W7
    intro Y7' X7' B7' R7'
    have Y7 := Lib.hid Y7'
    have X7 := Lib.hid X7'
    have B7 := Lib.hid B7'
    have R7 := Lib.hid R7'
    clear Y7' X7' B7' R7' hn1 hn2 hn3
    go_wp2_with (first
      | ((with_reducible refine gate_dst (N := 45) rfl ?_); refine Kd.R_lit (Kd.int .u8) _ 5 ?hg (N := 45) ?hd (xs := ([] : List Int)) (inner := []) (ok := fun _ => True) (okp := fun _ => True) ?hr ?hp (fun _ hk => hk) trivial (Below.refl _ _) (Nat.le_refl _) (by simp) ?_; (case hd => rfl); (case hg => rfl); (case hr => first | (go_simp; done) | (go_simp; rfl)); (case hp => exact (Reps.none _ _)); intro va wa ra ba ga_ na_; clear ga_ na_; have RA := Lib.hid ra; have BA := Lib.hid ba; have RS := Lib.hid (vw_kd (srow_vw (R7.out.below (Nat.le_refl _) ba)) HN7.out (by omega)); clear ra ba)
      | ((with_reducible refine gate_builtin (b := .append) (xs := #[.tmp 45, .tmp 46]) rfl ?_); at_builtin; refine Kd.R_append_rows (Kd.int .u8) (w0 := W7) W7.heap.size rfl (.tmp 45) (.tmp 46) 22 5 (.int .u8 0) 1 rfl Tryd.underlying22 info5 rfl (by decide) (by decide) va [] L7 _ _ _ (fun _ => True) (fun _ => False) rfl rfl ?aO ?aR (fun _ _ h => h) (fun _ h => h.elim) ?aF ?aB ?aS ?aL ?_; (case aR => exact RS.out); (case aB => exact BA.out); (case aF => exact (fun _ _ => trivial)); (case aO => exact RA.out); (case aS => exact BA.out.size); (case aL => simp; omega); intro vb wb_ rb bb gb_ ab_; rw [List.nil_append] at rb; obtain ⟨Ab, kb, rfl⟩ := Kd.R_slice rb; rw [← HN7.out] at rb ⊢; have RB := Lib.hid (Kd.R_reads' rb).2.2; have IB := (Kd.R_reads' rb).2.1; have BB := Lib.hid bb; clear rb bb gb_ ab_ RA BA RS)
      | (go_at_call 7; fail))
    refine (read_at7 HN7.out (by have q := RB.out; rw [← HN7.out] at q; exact q) IB HB7.out hl HR7.out).mono ?_
    unfold Nd.v
    simp only
    rintro e W8 ⟨rfl, c8⟩
    have c7 := BB.out.trans (c8.mono BB.out.size)
    have Y8 := Lib.hid (Y7.out.below c7)
    have X8 := Lib.hid (X7.out.below c7)
    have B8 := Lib.hid (B7.out.trans (c7.mono B7.out.size))
    have R8 := Lib.hid (R7.out.below (Nat.le_refl _) c7)
    clear c7 c8 X7 Y7 B7 R7 RB IB BB
    go_wp2_with (go_at_call 9; fail)
    have b9 : Below W8.heap.size W8 (W8.alloc (.cells #[.int .i64 d0, .int .i64 d1, .string d2, .int .i64 d3, .int .i64 d4, .int .u64 d5, .int .i64 d6, .string d7] 25)) := (Below.refl _ _).alloc (Nat.le_refl _) _
    have Z9 := BxR.new ⟨d0, d1, d2, d3, d4, d5, d6, d7⟩ W8
    have Y9 := Y8.out.below b9
    have X9 := X8.out.below b9
    have B9 := B8.out.trans (b9.mono B8.out.size)
    have R9 := R8.out.below (Nat.le_refl _) b9
    obtain ⟨b9n, hb9⟩ : ∃ b9n, b9n = W8.heap.size := ⟨_, rfl⟩
    rw [← hb9] at Z9 ⊢
    revert R9
    revert B9
    revert X9
    revert Y9
    revert Z9
    clear X8 Y8 B8 R8 hb9 b9
    unfold Nd.cs
    simp only
    generalize W8.alloc (.cells #[.int .i64 d0, .int .i64 d1, .string d2, .int .i64 d3, .int .i64 d4, .int .u64 d5, .int .i64 d6, .string d7] 25) = W9
    intro Z9' Y9' X9' B9' R9'
    have Z9 : Hid (BxR ⟨d0, d1, d2, d3, d4, d5, d6, d7⟩ b9n W9) := Lib.hid Z9'
    have Y9 : Hid (BxR ⟨a0, a1, a2, a3, a4, a5, a6, a7⟩ b6 W9) := Lib.hid Y9'
    have X9 : Hid (BxR ⟨a0, a1, a2, a3, a4, a5, a6, a7⟩ b3 W9) := Lib.hid X9'
    have B9 := Lib.hid B9'
    have R9 := Lib.hid R9'
    clear Z9' Y9' X9' B9' R9'
    refine (read_at9 HN7.out (vw_kd (srow_vw R9.out) HN7.out (by omega)) (by omega) HB7.out hl HR7.out (Gl.under HG.out B9.out)).mono ?_
    unfold Nd.v
    simp only
    rintro e Wa ⟨rfl, ca⟩
    have Za := Lib.hid (Z9.out.below ca)
    have Ya := Lib.hid (Y9.out.below ca)
    have Xa := Lib.hid (X9.out.below ca)
    have Ba := Lib.hid (B9.out.trans (ca.mono B9.out.size))
    have Ra := Lib.hid (R9.out.below (Nat.le_refl _) ca)
    clear ca X9 Y9 Z9 B9 R9
    go_upto_region 9 with (first | fail)
    have bb : Below Wa.heap.size Wa (Wa.alloc (.cells #[.int .i64 d0, .int .i64 d1, .string d2, .int .i64 d3, .int .i64 d4, .int .u64 d5, .int .i64 d6, .string d7] 25)) := (Below.refl _ _).alloc (Nat.le_refl _) _
    have Vb := BxR.new ⟨d0, d1, d2, d3, d4, d5, d6, d7⟩ Wa
    have Zb := Za.out.below bb
    have Yb := Ya.out.below bb
    have Xb := Xa.out.below bb
    have Bb := Ba.out.trans (bb.mono Ba.out.size)
    have Rb := Ra.out.below (Nat.le_refl _) bb
    obtain ⟨bbn, hbb⟩ : ∃ bbn, bbn = Wa.heap.size := ⟨_, rfl⟩
    rw [← hbb] at Vb ⊢
    revert Rb
    revert Bb
    revert Xb
    revert Yb
    revert Zb
    revert Vb
    clear Xa Ya Za Ba Ra hbb bb
    unfold Nd.cs
    simp only
    generalize Wa.alloc (.cells #[.int .i64 d0, .int .i64 d1, .string d2, .int .i64 d3, .int .i64 d4, .int .u64 d5, .int .i64 d6, .string d7] 25) = Wb
    intro Vb Zb Yb' Xb' Bb' Rb'
    have e0 := Vb.1 0 _ rfl; have e1 := Vb.1 1 _ rfl; have e2 := Vb.1 2 _ rfl; have e3 := Vb.1 3 _ rfl; have e4 := Vb.1 4 _ rfl; have e5 := Vb.1 5 _ rfl; have e6 := Vb.1 6 _ rfl; have e7 := Vb.1 7 _ rfl
    have h0 := Zb.1 0 _ rfl; have h1 := Zb.1 1 _ rfl; have h2 := Zb.1 2 _ rfl; have h3 := Zb.1 3 _ rfl; have h4 := Zb.1 4 _ rfl; have h5 := Zb.1 5 _ rfl; have h6 := Zb.1 6 _ rfl; have h7 := Zb.1 7 _ rfl
    have INV : Hid (RInv ⟨a0, a1, a2, a3, a4, a5, a6, a7⟩ w base g k b3 b6 n Wb) := Lib.hid ⟨⟨_, (set_len Rb').symm, Rb'⟩, Xb', Yb', Bb', HWB.out, HBG.out, HN3.out, HN6.out⟩
    clear Vb Zb Yb' Xb' Bb' Rb'
    -- the marks over all, and the end
    go_wp2_with fail
    go_loopw [13] (fun i wr => ∃ j : Nat, j ≤ n ∧ i = .int .i64 j ∧ RInv ⟨a0, a1, a2, a3, a4, a5, a6, a7⟩ w base g k b3 b6 n wr) (fun i _ => n - (intOf i).toNat)
    case atStart => exact ⟨0, Nat.zero_le _, rfl, INV.out⟩
    case round =>
      obtain ⟨j, hj, rfl, hI⟩ := hrel
      clear INV
      by_cases hlt : j < n
      · have hj1 : (j : Int) < ((n : Nat) : Int) := by omega
        obtain ⟨M, hM, hrow⟩ := hI.row
        obtain ⟨x, hx⟩ : ∃ x, M[j]? = some x := ⟨_, List.getElem?_eq_getElem (by omega)⟩
        obtain ⟨y0, y1⟩ := srow_cell hrow hx
        have HI := Lib.hid hI
        clear hI hrow hx hM
        go_wp2
        go_roundw
        case rel => exact ⟨j + 1, by omega, by go_num, HI.out.set _ _⟩
        case measure => simp [intOf]; omega
      · obtain rfl : j = n := by omega
        have p0 := hI.x3.1 0 _ rfl; have p1 := hI.x3.1 1 _ rfl; have p2 := hI.x3.1 2 _ rfl; have p3 := hI.x3.1 3 _ rfl; have p4 := hI.x3.1 4 _ rfl; have p5 := hI.x3.1 5 _ rfl; have p6 := hI.x3.1 6 _ rfl; have p7 := hI.x3.1 7 _ rfl
        have q0 := hI.x6.1 0 _ rfl; have q1 := hI.x6.1 1 _ rfl; have q2 := hI.x6.1 2 _ rfl; have q3 := hI.x6.1 3 _ rfl; have q4 := hI.x6.1 4 _ rfl; have q5 := hI.x6.1 5 _ rfl; have q6 := hI.x6.1 6 _ rfl; have q7 := hI.x6.1 7 _ rfl
        have HI := Lib.hid hI
        clear hI
        go_wp2
        go_ret
        exact ⟨by simp, HI.out.below⟩
theorem reads_row (a0 : Option Addr) (len0 cap0 : Nat) (z0 : List Int) (w : World) (hG : Gl w) (w0 : (a0 = none ∧ len0 = 0 ∧ cap0 = 0 ∧ z0 = []) ∨ ∃ x, a0 = some x ∧ len0 ≤ cap0 ∧ cap0 ≤ maxLen ∧ z0.length = cap0 ∧ (∀ i, i < z0.length → w.cell? (x.add i) = some (.int .u8 (z0.getD i 0))) ∧ ∀ n ∈ z0, (Lit.int .u8 n).wf = true) (y0 : len0 * 1 ≤ 140737488351232) :
    Calls Tryd.prog 3 #[.slice a0 len0 cap0] w fun e w' => e = .returned (.bool true) ∧ Below w.heap.size w w' := by
  obtain ⟨l0, rfl, hr0, hm0, hw0, hc0⟩ := ReadsInt.ofRowC w0
  refine reads_walk a0 cap0 l0.length l0 w hG rfl (Kd.C_of_reads (d := (0 : Int)) (h1 := fun _ => rfl) hr0) hc0 (fun x hx => ?_) (by omega)
  have h := hw0 x hx
  simp only [Lit.wf, Bool.and_eq_true, decide_eq_true_eq] at h
  have e1 : IntKind.u8.min = 0 := by decide
  have e2 : IntKind.u8.max = 255 := by decide
  rw [e1, e2] at h
  omega
end Go.Proofs.YtljamhpdgmelcaaDoor
