/- NodeThere: what the law runs. -/
import Derived.Test.YtljamhpdgmelcaaDoorPHDNodeBackx1
namespace Go.Proofs.YtljamhpdgmelcaaDoor
open Go.RowKit Go.Proofs Go.Proofs.YtljamhpdgmelcaaDoorW.PrintWords Go.Proofs.YtljamhpdgmelcaaDoorW.PrintLast Go.Proofs.YtljamhpdgmelcaaDoorW.PrintMore
set_option linter.unusedVariables false
set_option linter.unusedSimpArgs false
attribute [local go_sem high] PHDNodeBack.eqA25

theorem bytesB_size (n : Nd) : (bytesB n).length = 25 + n.name.size + n.target.size := by simp [bytesB, headB_len, textL, bytesOf_len]; omega
/-- A header lies boxed at b. -/
def BxN (n : Nd) (b : Nat) (W : World) : Prop := (∀ (j : Nat) v, n.cs[j]? = some v → W.cell? ⟨b, j, none⟩ = some v)
theorem BxN.below {n : Nd} {b : Nat} {W W' : World} (h : BxN n b W) (hb : Below W.heap.size W W') : BxN n b W' := fun j v hv => (hb.cell (lt_of_cell (h j v hv))).trans (h j v hv)
theorem BxN.new (n : Nd) (W : World) : BxN n W.heap.size (W.alloc (.cells n.cs.toArray 25)) := fun j v hv => by
  rw [World.cell?_alloc_at _ _ _ _ rfl]
  simpa using hv
theorem marked_f {L : List Int} (h : L.length ≤ 1000) : PHDNodeReads.shalelaw08_marked.f L = some L := by
  unfold PHDNodeReads.shalelaw08_marked.f
  simp only [Option.bind_some, List.nil_append, List.length_nil, Nat.zero_add, List.length_cons, List.length_append]
  rw [if_pos (by omega), if_pos (by omega), if_pos (by omega), if_pos (by omega), Int.toNat_natCast, List.take_left]
theorem marked_row {W : World} {A : Option Addr} {c n : Nat} {L : List Int} (hn : n = L.length) (h : Kd.C (Kd.int .u8) W A n L) (hc : n ≤ c) (hl : n ≤ 1000) :
    Calls Tryd.prog 8 #[.slice A n c] W fun e w' => ∃ A' c', e = .returned (.slice A' n c') ∧ Kd.C (Kd.int .u8) w' A' n L ∧ n ≤ c' ∧ Below W.heap.size W w' := by
  subst hn
  refine (PHDNodeReads.shalelaw08_marked.calls A c L L W h hc (marked_f hl)).mono fun e w' ⟨v, he, hr, hb⟩ => ?_
  obtain ⟨A', c', rfl⟩ := Kd.R_slice hr
  exact ⟨A', c', he, (Kd.R_reads' hr).2.2, (Kd.R_reads' hr).2.1, hb⟩
theorem read_rowN {w : World} {A : Option Addr} {c n : Nat} {L : List Int} (hn : n = L.length) (h : Kd.C (Kd.int .u8) w A n L) (hc : n ≤ c) (hB : Byts L) (hl : n ≤ 1000) (hG : Gl w) :
    Calls Tryd.prog 9 #[.slice A n c] w fun e w' => e = .returned (.tuple #[(readN L).1.v, .int .i64 (readN L).2]) ∧ Below w.heap.size w w' := by
  subst hn
  exact read_row A c L w h hc hB (by omega) hG
theorem Byts.leN (v k : Nat) : Byts (leN v k) := fun x hx => by
  unfold YtljamhpdgmelcaaDoor.leN at hx
  obtain ⟨i, _, rfl⟩ := List.mem_map.1 hx
  omega
theorem Byts.append {A B : List Int} (ha : Byts A) (hb : Byts B) : Byts (A ++ B) := fun x hx => (List.mem_append.1 hx).elim (ha x) (hb x)
theorem Byts.textL (s : ByteArray) : Byts (textL s) := fun x hx => by
  unfold YtljamhpdgmelcaaDoor.textL at hx
  rcases List.mem_cons.1 hx with rfl | h
  · omega
  · exact Byts_bytesOf s x h
theorem Byts.bytesB (n : Nd) : Byts (bytesB n) := by
  unfold YtljamhpdgmelcaaDoor.bytesB headB
  exact ((((((((Byts.leN _ _).append (Byts.leN _ _)).append (Byts.leN _ _)).append (Byts.leN _ _)).append (Byts.leN _ _)).append (Byts.leN _ _)).append (Byts.textL _)).append (Byts.textL _))
theorem node_box (n : Nd) (w : World) : n.v = .agg n.cs.toArray := rfl

set_option maxHeartbeats 2000000 in
theorem there_no (n : Nd) (cut more : Int) (w : World) (hG : Gl w) (hn0 : 0 ≤ n.stamp) (hn1 : n.stamp < 18446744073709551616) (hno : checkNo n ≠ 0) :
    Calls Tryd.prog 5 #[n.v, .int .i64 cut, .int .u8 more] w fun e w' => e = .returned (.bool true) ∧ Below w.heap.size w w' := by
  have hp : packB n = [] := by unfold packB; rw [if_neg hno]
  obtain ⟨s, hs⟩ : ∃ s, checkNo n = s := ⟨_, rfl⟩
  have c1 := fun w => refCheck_calls n w
  have c2 := fun w => check_calls n w
  have c3 := fun w g => pack_own n hn0 hn1 w g
  simp only [hp, hs] at c1 c2 c3
  have hs0 : (s != 0) = true := by rw [bne_iff_ne, ← hs]; exact hno
  have HC1 := Lib.hid c1
  have HC2 := Lib.hid c2
  have HC3 := Lib.hid c3
  have G0 := Lib.hid (Gl.under hG (w' := w.alloc (.cells n.cs.toArray 25)) ((Below.refl _ _).alloc (Nat.le_refl _) _))
  clear c1 c2 c3 hs hp hno hn0 hn1 hG
  obtain ⟨a0, a1, a2, a3, a4, a5, a6, a7⟩ := n
  have X0 := Lib.hid (BxN.new ⟨a0, a1, a2, a3, a4, a5, a6, a7⟩ w)
  have B0 := Lib.hid ((Below.refl _ _).alloc (Nat.le_refl _) (.cells #[.int .i64 a0, .int .i64 a1, .string a2, .int .i64 a3, .int .i64 a4, .int .u64 a5, .int .i64 a6, .string a7] 25) : Below w.heap.size w _)
  unfold Nd.v at *
  unfold Nd.cs at *
  simp only at HC1 HC2 HC3 G0 X0 ⊢
  go_enter Tryd.func5, Tryd.ntmps5
  go_wp2_with (go_at_call 12; fail)
  refine (HC3.out _ G0.out).mono ?_
  rintro e w1 ⟨v1, rfl, r1, b1, _⟩
  obtain ⟨g1, n1, rfl⟩ := r1.shape
  have B1 := Lib.hid (B0.out.trans (b1.mono B0.out.size))
  have X1 := Lib.hid (X0.out.below b1)
  clear r1 b1 G0
  have f0 := X1.out 0 _ rfl; have f1 := X1.out 1 _ rfl; have f2 := X1.out 2 _ rfl; have f3 := X1.out 3 _ rfl; have f4 := X1.out 4 _ rfl; have f5 := X1.out 5 _ rfl; have f6 := X1.out 6 _ rfl; have f7 := X1.out 7 _ rfl
  go_wp2_with (go_at_call 14; fail)
  refine (HC1.out _).mono ?_
  rintro e w2 ⟨rfl, b2⟩
  have B2 := Lib.hid (B1.out.trans (b2.mono B1.out.size))
  have X2 := Lib.hid (X1.out.below b2)
  clear b2 f0 f1 f2 f3 f4 f5 f6 f7
  have f0 := X2.out 0 _ rfl; have f1 := X2.out 1 _ rfl; have f2 := X2.out 2 _ rfl; have f3 := X2.out 3 _ rfl; have f4 := X2.out 4 _ rfl; have f5 := X2.out 5 _ rfl; have f6 := X2.out 6 _ rfl; have f7 := X2.out 7 _ rfl
  go_wp2_with (go_at_call 15; fail)
  refine (HC2.out _).mono ?_
  rintro e w3 ⟨rfl, b3⟩
  have B3 := Lib.hid (B2.out.trans (b3.mono B2.out.size))
  clear b3 f0 f1 f2 f3 f4 f5 f6 f7
  go_wp2
  go_ret
  exact ⟨by simp, B3.out⟩

theorem kd_take {W : World} {A : Option Addr} {n : Nat} {L : List Int} (h : Kd.C (Kd.int .u8) W A n L) (k : Nat) (hk : k ≤ n) : Kd.C (Kd.int .u8) W A k (L.take k) := by
  have hn := Kd.C_len h
  subst hn
  have := Kd.C_take h hk
  rwa [List.length_take, Nat.min_eq_left hk] at this

set_option maxHeartbeats 4000000 in
theorem there_yes (n : Nd) (cut more : Int) (w : World) (hG : Gl w) (hn0 : 0 ≤ n.stamp) (hn1 : n.stamp < 18446744073709551616) (hc0 : -9223372036854775808 ≤ cut) (hc1 : cut ≤ 9223372036854775807) (hm0 : 0 ≤ more) (hm1 : more < 256) (hok : checkNo n = 0) :
    Calls Tryd.prog 5 #[n.v, .int .i64 cut, .int .u8 more] w fun e w' => e = .returned (.bool true) ∧ Below w.heap.size w w' := by
  have hp : packB n = bytesB n := by unfold packB; rw [if_pos hok]
  have hF := fine_of hok
  have hlen := bytesB_size n
  have hnz : 1 ≤ n.name.size := by
    rw [Lib.size_eq]
    cases hd : n.name.data.toList with
    | nil => have q := hF.nm; rw [hd] at q; exact absurd q (by decide)
    | cons x l => simp
  have hl1 : 26 ≤ (bytesB n).length := by rw [hlen]; omega
  have hl2 : (bytesB n).length ≤ 215 := by have := hF.nl; have := hF.tl; rw [hlen]; omega
  have hsh := (nd_bytes n hF hn0 hn1).1
  have hrd := readN_bytes n hok hn0 hn1
  have hB := Byts.bytesB n
  have c1 := fun w => refCheck_calls n w
  have c3 := fun w g => pack_own n hn0 hn1 w g
  simp only [hp, hok] at c1 c3
  obtain ⟨S, hS⟩ : ∃ S, bytesB n = S := ⟨_, rfl⟩
  rw [hS] at hl1 hl2 hsh hrd hB
  simp only [hS] at c3
  have hcutN := readN_cut hsh
  have hmore := readN_more hsh more
  obtain ⟨m, hm⟩ : ∃ m, m = S.length := ⟨_, rfl⟩
  have c3 := fun w g => (c3 w g).mono (R' := fun e w' => ∃ A c, e = .returned (.tuple #[.slice A m c, .int .i64 0]) ∧ Kd.C (Kd.int .u8) w' A m S ∧ m ≤ c ∧ Below w.heap.size w w') (fun e w' ⟨v, h1, h2, h3, _⟩ => by
    obtain ⟨A, c, rfl⟩ := h2.shape
    have h4 := h2.reads (by omega)
    rw [← hm] at h1 h4
    exact ⟨A, c, h1, h4.1, h4.2, h3⟩)
  rw [← hm] at hl1 hl2 hcutN
  have hm0' : (0 : Int) < (m : Int) := by omega
  obtain ⟨K, hKm, hK⟩ : ∃ K : Nat, K < m ∧ ((cut.tmod m < 0 ∧ cut.tmod m + m = K) ∨ (¬ cut.tmod m < 0 ∧ cut.tmod m = K)) := by
    have b1 := Int.tmod_lt_of_pos cut hm0'
    have b2 := Int.lt_tmod_of_pos cut hm0'
    by_cases hneg : cut.tmod m < 0
    · exact ⟨(cut.tmod m + m).toNat, by omega, .inl ⟨hneg, by omega⟩⟩
    · exact ⟨(cut.tmod m).toNat, by omega, .inr ⟨hneg, by omega⟩⟩
  have hcutK := hcutN K hKm
  have HC1 := Lib.hid c1
  have HC3 := Lib.hid c3
  have HM := Lib.hid hm
  have HRD := Lib.hid hrd
  have HCUT := Lib.hid hcutK
  have HMORE := Lib.hid hmore
  have HBy := Lib.hid hB
  have HK := Lib.hid hK
  have HW0 := Lib.hid hG
  have G0 := Lib.hid (Gl.under hG (w' := w.alloc (.cells n.cs.toArray 25)) ((Below.refl _ _).alloc (Nat.le_refl _) _))
  clear c1 c3 hS hp hok hn0 hn1 hG hF hlen hsh hrd hB hcutN hmore hm hcutK hK
  obtain ⟨a0, a1, a2, a3, a4, a5, a6, a7⟩ := n
  have X0 := Lib.hid (BxN.new ⟨a0, a1, a2, a3, a4, a5, a6, a7⟩ w)
  have B0 := Lib.hid ((Below.refl _ _).alloc (Nat.le_refl _) (.cells #[.int .i64 a0, .int .i64 a1, .string a2, .int .i64 a3, .int .i64 a4, .int .u64 a5, .int .i64 a6, .string a7] 25) : Below w.heap.size w _)
  unfold Nd.v at *
  unfold Nd.cs at *
  simp only at HC1 HC3 G0 X0 HRD ⊢
  go_enter Tryd.func5, Tryd.ntmps5
  go_wp2_with (go_at_call 12; fail)
  refine (HC3.out _ G0.out).mono ?_
  rintro e w1 ⟨g1, n1, rfl, r1, i1, b1⟩
  have B1 := Lib.hid (B0.out.trans (b1.mono B0.out.size))
  have X1 := Lib.hid (X0.out.below b1)
  have R1 := Lib.hid r1
  clear r1 b1 G0
  have f0 := X1.out 0 _ rfl; have f1 := X1.out 1 _ rfl; have f2 := X1.out 2 _ rfl; have f3 := X1.out 3 _ rfl; have f4 := X1.out 4 _ rfl; have f5 := X1.out 5 _ rfl; have f6 := X1.out 6 _ rfl; have f7 := X1.out 7 _ rfl
  go_wp2_with (go_at_call 14; fail)
  refine (HC1.out _).mono ?_
  rintro e w2 ⟨rfl, b2⟩
  have B2 := Lib.hid (B1.out.trans (b2.mono B1.out.size))
  have X2 := Lib.hid (X1.out.below b2)
  have R2 := Lib.hid (Kd.C_below R1.out b2)
  clear b2 f0 f1 f2 f3 f4 f5 f6 f7 R1
  go_wp2_with (go_at_call 8; fail)
  refine (marked_row HM.out R2.out i1 (by omega)).mono ?_
  rintro e w3 ⟨g3, n3, rfl, r3, i3, b3⟩
  have B3 := Lib.hid (B2.out.trans (b3.mono B2.out.size))
  have X3 := Lib.hid (X2.out.below b3)
  have R3 := Lib.hid (Kd.C_below R2.out b3)
  have S3 := Lib.hid r3
  clear r3 b3 R2
  go_wp2_with (go_at_call 9; fail)
  refine (read_rowN HM.out S3.out i3 HBy.out (by omega) (Gl.under HW0.out B3.out)).mono ?_
  rw [HRD.out]
  unfold Nd.v
  simp only
  rintro e w4 ⟨rfl, b4⟩
  have B4 := Lib.hid (B3.out.trans (b4.mono B3.out.size))
  have X4 := Lib.hid (X3.out.below b4)
  have R4 := Lib.hid (Kd.C_below R3.out b4)
  clear b4 R3 S3
  have f0 := X4.out 0 _ rfl; have f1 := X4.out 1 _ rfl; have f2 := X4.out 2 _ rfl; have f3 := X4.out 3 _ rfl; have f4 := X4.out 4 _ rfl; have f5 := X4.out 5 _ rfl; have f6 := X4.out 6 _ rfl; have f7 := X4.out 7 _ rfl
  go_upto_region 5 with (first | fail)
  have b5 : Below w4.heap.size w4 (w4.alloc (.cells #[.int .i64 a0, .int .i64 a1, .string a2, .int .i64 a3, .int .i64 a4, .int .u64 a5, .int .i64 a6, .string a7] 25)) := (Below.refl _ _).alloc (Nat.le_refl _) _
  have X5 := X4.out.below b5
  have Y5 : BxN ⟨a0, a1, a2, a3, a4, a5, a6, a7⟩ w4.heap.size (w4.alloc (.cells #[.int .i64 a0, .int .i64 a1, .string a2, .int .i64 a3, .int .i64 a4, .int .u64 a5, .int .i64 a6, .string a7] 25)) := BxN.new ⟨a0, a1, a2, a3, a4, a5, a6, a7⟩ w4
  have R5 := Kd.C_below R4.out b5
  have B5 := B4.out.trans (b5.mono B4.out.size)
  revert X5 Y5 R5 B5
  clear b5
  generalize w4.alloc (.cells #[.int .i64 a0, .int .i64 a1, .string a2, .int .i64 a3, .int .i64 a4, .int .u64 a5, .int .i64 a6, .string a7] 25) = W5
  intro X5 Y5 R5' B5'
  have R5 := Lib.hid R5'
  have B5 := Lib.hid B5'
  clear f0 f1 f2 f3 f4 f5 f6 f7 X4 R4 B4 R5' B5'
  have f0 := X5 0 _ rfl; have f1 := X5 1 _ rfl; have f2 := X5 2 _ rfl; have f3 := X5 3 _ rfl; have f4 := X5 4 _ rfl; have f5 := X5 5 _ rfl; have f6 := X5 6 _ rfl; have f7 := X5 7 _ rfl
  have e0 := Y5 0 _ rfl; have e1 := Y5 1 _ rfl; have e2 := Y5 2 _ rfl; have e3 := Y5 3 _ rfl; have e4 := Y5 4 _ rfl; have e5 := Y5 5 _ rfl; have e6 := Y5 6 _ rfl; have e7 := Y5 7 _ rfl
  clear X5 Y5
  have hKn : (K : Int) ≤ (n1 : Int) := by omega
  have hm26 : ¬ m < 26 := by omega
  have hm215 : ¬ 215 < m := by omega
  have hKL : K = (S.take K).length := by rw [List.length_take, ← HM.out]; omega
  have HKL := Lib.hid hKL
  clear hKL
  rcases HK.out with ⟨hneg, hk⟩ | ⟨hneg, hk⟩
  all_goals
    go_wp2_with (go_at_call 8; fail)
    refine (marked_row HKL.out (kd_take R5.out K (Nat.le_of_lt hKm)) (by omega) (by omega)).mono ?_
    rintro e w6 ⟨g6, n6, rfl, r6, i6, b6⟩
    have B6 := Lib.hid (B5.out.trans (b6.mono B5.out.size))
    have R6 := Lib.hid (Kd.C_below R5.out b6)
    have S6 := Lib.hid r6
    clear r6 b6 R5 hneg hk f0 e0 f1 e1 f2 e2 f3 e3 f4 e4 f5 e5 f6 e6 f7 e7
    go_wp2_with (go_at_call 9; fail)
    refine (read_rowN HKL.out S6.out i6 (HBy.out.take K) (by omega) (Gl.under HW0.out B6.out)).mono ?_
    rw [HCUT.out]
    unfold Nd.v zeroNd
    simp only
    rintro e w7 ⟨rfl, b7⟩
    have B7 := Lib.hid (B6.out.trans (b7.mono B6.out.size))
    have R7 := Lib.hid (Kd.C_below R6.out b7)
    clear b7 R6 S6
    go_upto_region 11 with (first | fail)
    have b8 : Below w7.heap.size w7 (w7.alloc (.cells #[.int .i64 0, .int .i64 0, .string ByteArray.empty, .int .i64 0, .int .i64 0, .int .u64 0, .int .i64 0, .string ByteArray.empty] 25)) := (Below.refl _ _).alloc (Nat.le_refl _) _
    have R8 := Kd.C_below R7.out b8
    have B8 := B7.out.trans (b8.mono B7.out.size)
    revert R8 B8
    clear b8 R7 B7
    generalize w7.alloc (.cells #[.int .i64 0, .int .i64 0, .string ByteArray.empty, .int .i64 0, .int .i64 0, .int .u64 0, .int .i64 0, .string ByteArray.empty] 25) = W8
    intro R8' B8'
    have R8 := Lib.hid R8'
    have B8 := Lib.hid B8'
    clear R8' B8'
    go_wp2_with (first
      | ((with_reducible refine gate_dst (N := 83) rfl ?_); refine Kd.R_lit (Kd.int .u8) _ 5 ?hg (N := 83) ?hd (xs := ([] : List Int)) (inner := []) (ok := fun _ => True) (okp := fun _ => True) ?hr ?hp (fun _ hk => hk) trivial (Below.refl _ _) (Nat.le_refl _) (by simp) ?_; (case hd => rfl); (case hg => rfl); (case hr => first | (go_simp; done) | (go_simp; rfl)); (case hp => exact (Reps.none _ _)); intro va wa ra ba ga_ na_; clear ga_ na_; have RA := Lib.hid ra; have BA := Lib.hid ba; have RS := Lib.hid (Kd.C_below R8.out ba); clear ra ba)
      | ((with_reducible refine gate_builtin (b := .append) (xs := #[.tmp 83, .tmp 84]) rfl ?_); at_builtin; refine Kd.R_append_rows (Kd.int .u8) (w0 := W8) W8.heap.size rfl (.tmp 83) (.tmp 84) 22 5 (.int .u8 0) 1 rfl Tryd.underlying22 info5 rfl (by decide) (by decide) va [] S _ _ _ (fun _ => True) (fun _ => False) rfl rfl ?aO ?aR (fun _ _ h => h) (fun _ h => h.elim) ?aF ?aB ?aS ?aL ?_; (case aR => exact RS.out); (case aB => exact BA.out); (case aF => exact (fun _ _ => trivial)); (case aO => exact RA.out); (case aS => exact BA.out.size); (case aL => simp; omega); intro vb wb_ rb bb gb_ ab_; rw [List.nil_append] at rb; have RB := Lib.hid rb; have BB := Lib.hid bb; clear rb bb gb_ ab_ RA BA RS)
      | ((with_reducible refine gate_dst (N := 87) rfl ?_); refine Kd.R_lit (Kd.int .u8) _ 5 ?hg (N := 87) ?hd (xs := ([more] : List Int)) (inner := [.int .u8 more]) (ok := fun _ => True) (okp := fun _ => True) ?hr ?hp (fun _ hk => hk) trivial (Below.refl _ _) (Nat.le_refl _) (by simp) ?_; (case hd => rfl); (case hg => rfl); (case hr => first | (go_simp; done) | (go_simp; rfl)); (case hp => exact (Reps.one (show Kd.M (Kd.int .u8) _ _ _ more [.int .u8 more] from rfl) (Reps.none _ _))); intro vc wc_ rc bc gc_ nc_; clear gc_ nc_; obtain ⟨Ac, kc, rfl⟩ := Kd.R_slice rc; have RC := Lib.hid (Kd.R_reads' rc).2.2; have RBC := Lib.hid (Kd.R_below RB.out bc); have BC := Lib.hid (BB.out.trans (bc.mono BB.out.size)); clear rc bc RB BB)
      | ((with_reducible refine gate_builtin (b := .append) (xs := #[.tmp 85, .tmp 87]) rfl ?_); at_builtin; refine Kd.R_append_rows (Kd.int .u8) (w0 := W8) W8.heap.size rfl (.tmp 85) (.tmp 87) 22 5 (.int .u8 0) 1 rfl Tryd.underlying22 info5 rfl (by decide) (by decide) vb S [more] _ _ _ (fun _ => True) (fun _ => False) rfl rfl ?aO ?aR (fun _ _ h => h) (fun _ h => h.elim) ?aF ?aB ?aS ?aL ?_; (case aR => exact RC.out); (case aB => exact BC.out); (case aF => exact (fun _ _ => trivial)); (case aO => exact RBC.out); (case aS => exact BC.out.size); (case aL => (have := HM.out; simp; omega)); intro vd wd_ rd_ bd gd_ ad_; obtain ⟨X, hX⟩ : ∃ X, X = S ++ [more] := ⟨_, rfl⟩; rw [← hX] at rd_; obtain ⟨Ad, kd_, rfl⟩ := Kd.R_slice rd_; have RD := Lib.hid (Kd.R_reads' rd_).2.2; have ID := Lib.hid (Kd.R_reads' rd_).2.1; have HX := Lib.hid hX; have BD := Lib.hid bd; clear rd_ bd gd_ ad_ hX RBC BC RC)
      | (go_at_call 8; fail))
    have hXl : X.length ≤ 1000 := by have := HM.out; rw [HX.out]; simp; omega
    refine (marked_row rfl RD.out ID.out hXl).mono ?_
    rintro e w9 ⟨g9, n9, rfl, r9, i9, b9⟩
    have B9 := Lib.hid (B8.out.trans ((BD.out.trans (b9.mono BD.out.size)).mono B8.out.size))
    have R9 := Lib.hid r9
    have HXL := Lib.hid hXl
    clear r9 b9 hXl RD ID BD B8 R8
    go_wp2_with (go_at_call 9; fail)
    refine (read_rowN rfl R9.out i9 (by rw [HX.out]; exact HBy.out.append (fun x hx => by rw [List.mem_singleton.1 hx]; exact ⟨hm0, hm1⟩)) HXL.out (Gl.under HW0.out B9.out)).mono ?_
    rw [HX.out, HMORE.out]
    unfold Nd.v zeroNd
    simp only
    rintro e wz ⟨rfl, bz⟩
    have BZ := Lib.hid (B9.out.trans (bz.mono B9.out.size))
    clear bz
    go_wp2
    go_ret
    exact ⟨by simp, BZ.out.alloc BZ.out.size _⟩
theorem int_wf {a : Int} (h : (Lit.int .i64 a).wf = true) : -9223372036854775808 ≤ a ∧ a ≤ 9223372036854775807 := by
  simp only [Lit.wf, Bool.and_eq_true, decide_eq_true_eq] at h
  have e1 : IntKind.i64.min = -9223372036854775808 := by decide
  have e2 : IntKind.i64.max = 9223372036854775807 := by decide
  rw [e1, e2] at h
  exact h
theorem byte_wf {a : Int} (h : (Lit.int .u8 a).wf = true) : 0 ≤ a ∧ a < 256 := by
  simp only [Lit.wf, Bool.and_eq_true, decide_eq_true_eq] at h
  have e1 : IntKind.u8.min = 0 := by decide
  have e2 : IntKind.u8.max = 255 := by decide
  rw [e1, e2] at h
  omega
theorem there_walk (n : Nd) (cut more : Int) (w : World) (hG : Gl w) (hn0 : 0 ≤ n.stamp) (hn1 : n.stamp < 18446744073709551616) (hc : (Lit.int .i64 cut).wf = true) (hm : (Lit.int .u8 more).wf = true) :
    Calls Tryd.prog 5 #[n.v, .int .i64 cut, .int .u8 more] w fun e w' => e = .returned (.bool true) ∧ Below w.heap.size w w' := by
  have h1 := int_wf hc
  have h2 := byte_wf hm
  by_cases h : checkNo n = 0
  · exact there_yes n cut more w hG hn0 hn1 h1.1 h1.2 h2.1 h2.2 h
  · exact there_no n cut more w hG hn0 hn1 h
end Go.Proofs.YtljamhpdgmelcaaDoor
