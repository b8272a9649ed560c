/- New of the document's book. -/
import Derived.Test.YtmohijpkhmeibaaKept
import Derived.Test.YtmohijpkhmeibaaPBlocksRoundx4
import Derived.Deep.RegionLaw
namespace Go.Proofs.Ytmohijpkhmeibaa
open Go.RowKit Go.Proofs Go.Proofs.YtmohijpkhmeibaaW.PrintWords
open PBlocksRound
set_option linter.unusedVariables false
set_option linter.unusedSimpArgs false
set_option maxRecDepth 100000
attribute [local go_sem high] PBlocksRound.eqA34

theorem rfits_calls (B P S : Int) (w : World) : Calls Try.prog 66 #[.agg #[.int .i64 B, .int .i64 P, .int .i64 S]] w fun e w' => e = .returned (.bool (fitsB B P S)) ∧ Below w.heap.size w w' := by
  refine (shaleref05_Fits.calls B P S (fitsB B P S) w ?_).mono fun e w' h => ?_
  · unfold shaleref05_Fits.f fitsB
    by_cases h1 : B ≥ 8
    case neg => rw [if_neg h1]; simp; omega
    by_cases h2 : B ≤ 4096
    case neg => rw [if_pos h1, if_neg h2]; simp; omega
    by_cases h3 : P ≥ 4
    case neg => rw [if_pos h1, if_pos h2, if_neg h3]; simp; omega
    by_cases h4 : P ≤ 256
    case neg => rw [if_pos h1, if_pos h2, if_pos h3, if_neg h4]; simp; omega
    by_cases h5 : S ≥ 1
    case neg => rw [if_pos h1, if_pos h2, if_pos h3, if_pos h4, if_neg h5]; simp; omega
    by_cases h6 : S ≤ 8
    case neg => rw [if_pos h1, if_pos h2, if_pos h3, if_pos h4, if_pos h5, if_neg h6]; simp; omega
    rw [if_pos h1, if_pos h2, if_pos h3, if_pos h4, if_pos h5, if_pos h6]
    have e : wrap64 (B * P) = B * P := by
      have hb1 : B * P ≤ 4096 * P := Int.mul_le_mul_of_nonneg_right h2 (by omega)
      have hb2 : 0 ≤ B * P := Int.mul_nonneg (by omega) (by omega)
      unfold wrap64
      omega
    rw [e]
    refine congrArg some (decide_eq_decide.2 ?_)
    exact ⟨fun h => ⟨h1, h2, h3, h4, h5, h6, h⟩, fun h => h.2.2.2.2.2.2⟩
  · exact ⟨h.1, h.2⟩

set_option maxHeartbeats 4000000 in
theorem rnew_shape (B P S : Int) (A : Option Addr) (n c : Nat) (cursor last : Int) (w : World) (hf : fitsB B P S = false) :
    Calls Try.prog 33 #[.agg #[.int .i64 B, .int .i64 P, .int .i64 S], .slice A n c, .int .i64 cursor, .int .i64 last] w fun e w' => e = .returned (.tuple #[.pointer none, .int .i64 40]) ∧ Below w.heap.size w w' := by
  have V := Lib.hid (fun w => rfits_calls B P S w)
  have HV := Lib.hid hf
  clear hf
  go_enter Try.func33, Try.ntmps33
  go_wp2_with (go_at_call 66; fail)
  refine (V.out _).mono ?_
  rw [HV.out]
  rintro e w1 ⟨rfl, hb⟩
  go_wp2
  refine bodyPost_ret (v := .tuple #[.pointer none, .int .i64 40]) (by simp [results, Try.results33, go_sem]) rfl ?_
  exact ⟨rfl, ((Below.refl _ _).alloc (Nat.le_refl _) _).trans (hb.mono (by rw [World.size_alloc]; omega))⟩

set_option maxHeartbeats 4000000 in
theorem rnew_place (B P S : Int) (A : Option Addr) (n c : Nat) (cursor last : Int) (w : World) (hf : fitsB B P S = true) (hp : placeB B n cursor last = false) :
    Calls Try.prog 33 #[.agg #[.int .i64 B, .int .i64 P, .int .i64 S], .slice A n c, .int .i64 cursor, .int .i64 last] w fun e w' => e = .returned (.tuple #[.pointer none, .int .i64 41]) ∧ Below w.heap.size w w' := by
  have V := Lib.hid (fun w => rfits_calls B P S w)
  have HV := Lib.hid hf
  clear hf
  have all5 : ∀ b0 b1 b2 b3 b4 : Bool, ((n : Int) != B) = b0 → decide (cursor < -1) = b1 → decide (cursor ≥ B) = b2 → decide (last < -1) = b3 → decide (last ≥ B) = b4 → (b0 || b1 || b2 || b3 || b4) = true → Calls Try.prog 33 #[.agg #[.int .i64 B, .int .i64 P, .int .i64 S], .slice A n c, .int .i64 cursor, .int .i64 last] w fun e w' => e = .returned (.tuple #[.pointer none, .int .i64 41]) ∧ Below w.heap.size w w' := by
    intro b0 b1 b2 b3 b4 h0 h1 h2 h3 h4 hor
    have HO := Lib.hid hor
    clear hor hp
    go_enter Try.func33, Try.ntmps33
    go_wp2_with (go_at_call 66; fail)
    refine (V.out _).mono ?_
    rw [HV.out]
    rintro e w1 ⟨rfl, hb⟩
    have kb : Below w.heap.size w w1 := ((Below.refl _ _).alloc (Nat.le_refl _) _).trans (hb.mono (by rw [World.size_alloc]; omega))
    have kh := (hb.block w.heap.size (by rw [World.size_alloc]; omega)).trans (heap_alloc_new w _)
    have z0 := cell_of (o := 0) kh rfl
    have z1 := cell_of (o := 1) kh rfl
    have z2 := cell_of (o := 2) kh rfl
    have KB := Lib.hid kb
    clear kb kh hb
    go_wp2_with (go_at_call 25; fail)
    all_goals first
      | (exfalso
         have ho := HO.out
         simp only [Bool.or_eq_true] at ho
         rcases ho with (((h | h) | h) | h) | h <;> first | (exact absurd h (by assumption)) | (have h9 := h.symm.trans ‹b4 = false›; cases h9)
         done)
      | (refine bodyPost_ret (v := .tuple #[.pointer none, .int .i64 41]) (by simp [results, Try.results33, go_sem]) rfl ?_
         exact ⟨rfl, KB.out⟩)
  unfold placeB at hp
  simp only [Bool.not_eq_false'] at hp
  exact all5 _ _ _ _ _ rfl rfl rfl rfl rfl hp

structure RN (w : World) (l : List S34) (P cursor last : Int) (rb lb k : Nat) (v : Value) (W : World) : Prop where
  head : W.heap[rb]? = some (.cells #[.int .i64 P, v, .slice (some ⟨lb, 0, none⟩) l.length l.length, .int .i64 cursor, .int .i64 last, .int .i64 (-1)] 31 (0, 0))
  row : Kd.R k34 34 W w.heap.size (fun _ => True) v (l.take k)
  left : W.heap[lb]? = some (.cells (madeCells #[.bool false] l.length) 4 (0, 0))
  below : Below w.heap.size w W
  rbb : w.heap.size ≤ rb
  lbb : w.heap.size ≤ lb
theorem RN.sep {w : World} {l : List S34} {P cursor last : Int} {rb lb k : Nat} {v : Value} {W : World} (h : RN w l P cursor last rb lb k v W) : some rb ≠ v.ownBlock ∧ some lb ≠ v.ownBlock ∧ rb ≠ lb := by
  refine ⟨Kd.R_ne h.row h.head (by decide), Kd.R_ne h.row h.left (by decide), ?_⟩
  rintro rfl
  have := h.head
  rw [h.left] at this
  injection this with this
  injection this with _ this
  cases this
theorem RN.next {w : World} {l : List S34} {P cursor last : Int} {rb lb k : Nat} {v : Value} {x : S34} {W w5 : World} {A1 : Option Addr} {n1 k1 : Nat} (h : RN w l P cursor last rb lb k v W) (hx : l[k]? = some x)
    (hr : Kd.R k34 34 w5 w.heap.size (fun _ => True) (.slice A1 n1 k1) (l.take k ++ [x])) (hg : W.drew.grownBy w5 v.ownBlock) (hb : Below w.heap.size w w5) :
    RN w l P cursor last rb lb (k + 1) (.slice A1 n1 k1) (w5.setCell ⟨rb, 1, none⟩ (.slice A1 n1 k1)) := by
  obtain ⟨s1, s2, s3⟩ := h.sep
  have hh : w5.heap[rb]? = some (.cells #[.int .i64 P, v, .slice (some ⟨lb, 0, none⟩) l.length l.length, .int .i64 cursor, .int .i64 last, .int .i64 (-1)] 31 (0, 0)) := (hg.block rb (lt_of_heap h.head) s1).trans h.head
  have hl : w5.heap[lb]? = _ := (hg.block lb (lt_of_heap h.left) s2).trans h.left
  refine ⟨heap_set_same hh _, ?_, (heap_set_ne _ (Ne.symm s3)).trans hl, hb.setCell (p := ⟨rb, 1, none⟩) h.rbb _, h.rbb, h.lbb⟩
  rw [take_snoc hx]
  exact Kd.R_mono (Kd.R_far (Kd.R_types hr hh (by decide)) (fun k hk => hk.2) _) (fun _ _ => trivial)

set_option maxHeartbeats 4000000 in
theorem rnew_may (B P S : Int) (A : Option Addr) (l : List S34) (c : Nat) (cursor last : Int) (w : World) (hf : fitsB B P S = true) (hp : placeB B l.length cursor last = true) (hl : Kd.C k34 w A l.length l) (hc : l.length ≤ c) (kk : Nat) (hm : shaleref11_May.f kk l P last = some false) :
    Calls Try.prog 33 #[.agg #[.int .i64 B, .int .i64 P, .int .i64 S], .slice A l.length c, .int .i64 cursor, .int .i64 last] w fun e w' => e = .returned (.tuple #[.pointer none, .int .i64 110]) ∧ Below w.heap.size w w' := by
  have V := Lib.hid (fun w => rfits_calls B P S w)
  have HV := Lib.hid hf
  unfold placeB at hp
  simp only [Bool.not_eq_true', Bool.or_eq_false_iff] at hp
  obtain ⟨⟨⟨⟨h0, h1⟩, h2⟩, h3⟩, h4⟩ := hp
  have MC := Lib.hid (fun W (hB : Below w.heap.size w W) => shaleref11_May.calls kk A c l P last false W (Kd.C_below hl hB) hc hm)
  clear hf hl hm
  go_enter Try.func33, Try.ntmps33
  go_wp2_with (go_at_call 66; fail)
  refine (V.out _).mono ?_
  rw [HV.out]
  rintro e w1 ⟨rfl, hb⟩
  have kb : Below w.heap.size w w1 := ((Below.refl _ _).alloc (Nat.le_refl _) _).trans (hb.mono (by rw [World.size_alloc]; omega))
  have kh := (hb.block w.heap.size (by rw [World.size_alloc]; omega)).trans (heap_alloc_new w _)
  have z0 := cell_of (o := 0) kh rfl
  have z1 := cell_of (o := 1) kh rfl
  have z2 := cell_of (o := 2) kh rfl
  have KB := Lib.hid kb
  clear kb kh hb
  go_wp2_with (go_at_call 25; fail)
  refine (MC.out _ KB.out).mono ?_
  rintro e w2 ⟨rfl, hb2⟩
  go_wp2
  refine bodyPost_ret (v := .tuple #[.pointer none, .int .i64 110]) (by simp [results, Try.results33, go_sem]) rfl ?_
  exact ⟨rfl, KB.out.trans (hb2.mono KB.out.size)⟩

def RNewEnd (w : World) (l : List S34) (P cursor last : Int) (e : Ending) (W : World) : Prop := ∃ rb lb v, e = .returned (.tuple #[.pointer (some ⟨rb, 0, none⟩), .int .i64 0]) ∧ RN w l P cursor last rb lb l.length v W
set_option maxHeartbeats 4000000 in
theorem rnew_walk (B P S : Int) (A : Option Addr) (l : List S34) (c : Nat) (cursor last : Int) (w : World) (hf : fitsB B P S = true) (hp : placeB B l.length cursor last = true) (hl : Kd.C k34 w A l.length l) (hc : l.length ≤ c) (kk : Nat) (hm : shaleref11_May.f kk l P last = some true) :
    Calls Try.prog 33 #[.agg #[.int .i64 B, .int .i64 P, .int .i64 S], .slice A l.length c, .int .i64 cursor, .int .i64 last] w (RNewEnd w l P cursor last) := by
  have V := Lib.hid (fun w => rfits_calls B P S w)
  have HV := Lib.hid hf
  unfold placeB at hp
  simp only [Bool.not_eq_true', Bool.or_eq_false_iff] at hp
  obtain ⟨⟨⟨⟨h0, h1⟩, h2⟩, h3⟩, h4⟩ := hp
  have hpos : 8 ≤ B ∧ B ≤ 4096 ∧ 4 ≤ P ∧ P ≤ 256 := by
    have := hf
    unfold fitsB at this
    have := of_decide_eq_true this
    omega
  have hlen : (l.length : Int) = B := by simpa using h0
  have MC := Lib.hid (fun W (hB : Below w.heap.size w W) => shaleref11_May.calls kk A c l P last true W (Kd.C_below hl hB) hc hm)
  obtain ⟨g, o, rfl, rows⟩ := kd_rows hl (by omega)
  have HR := Lib.hid rows
  have HP := Lib.hid hpos
  have HLEN := Lib.hid hlen
  have info4b : (Try.prog.info? 4).map (fun i => (i.zero, i.size, i.bytes)) = some (some (.bool false), 1, 1) := by kernel_rfl
  have hmk : ∀ W : World, (Instr.makeSlice 29 (.int .i64 B) (.int .i64 B)).run Try.prog W = .ok (.slice (some ⟨W.heap.size, 0, none⟩) l.length l.length) (W.alloc (.cells (madeCells #[.bool false] l.length) 4)) := by
    rw [← hlen]
    exact print_make_of (P := Try.prog) 29 4 (.bool false) 1 Try.underlying29 info4b rfl (by decide) l.length (by omega)
  clear hf hl hm rows hpos
  go_enter Try.func33, Try.ntmps33
  go_wp2_with (go_at_call 66; fail)
  refine (V.out _).mono ?_
  rw [HV.out]
  rintro e w1 ⟨rfl, hb⟩
  have kb : Below w.heap.size w w1 := ((Below.refl _ _).alloc (Nat.le_refl _) _).trans (hb.mono (by rw [World.size_alloc]; omega))
  have kh := (hb.block w.heap.size (by rw [World.size_alloc]; omega)).trans (heap_alloc_new w _)
  have z0 := cell_of (o := 0) kh rfl
  have z1 := cell_of (o := 1) kh rfl
  have z2 := cell_of (o := 2) kh rfl
  have KH := Lib.hid kh
  have KB := Lib.hid kb
  clear kb kh hb
  go_wp2_with (go_at_call 25; fail)
  refine (MC.out _ KB.out).mono ?_
  rintro e w2 ⟨rfl, hb2⟩
  have kh := (hb2.block w.heap.size (lt_of_heap KH.out)).trans KH.out
  have kb := KB.out.trans (hb2.mono KB.out.size)
  clear z0 z1 z2 KB KH hb2
  have z0 := cell_of (o := 0) kh rfl
  have z1 := cell_of (o := 1) kh rfl
  have z2 := cell_of (o := 2) kh rfl
  have z1n : ∀ ob, (w2.alloc ob).cell? ⟨w.heap.size, 1, none⟩ = some (.int .i64 P) := fun ob => (((Below.refl w2.heap.size w2).alloc (Nat.le_refl _) ob).cell (lt_of_cell z1)).trans z1
  have KH := Lib.hid kh
  have KB := Lib.hid kb
  clear kh kb
  go_upto_region 8 with (fail)
  go_region
  clear z0 z1 z2 z1n hmk
  have hN : RN w l P cursor last (w2.heap.size + 1) w2.heap.size 0 (.slice none 0 0) ((w2.alloc (.cells (madeCells #[.bool false] l.length) 4)).alloc (.cells #[.int .i64 P, .slice none 0 0, .slice (some ⟨w2.heap.size, 0, none⟩) l.length l.length, .int .i64 cursor, .int .i64 last, .int .i64 (-1)] 31)).drew := by
    refine ⟨?_, Kd.R_drew (Kd.R_nil _ _ _ _ _), ?_, ((KB.out.alloc KB.out.size _).alloc (by rw [World.size_alloc]; have := KB.out.size; omega) _).drew, by have := KB.out.size; omega, KB.out.size⟩
    · have := heap_alloc_new (w2.alloc (.cells (madeCells #[.bool false] l.length) 4)) (.cells #[.int .i64 P, .slice none 0 0, .slice (some ⟨w2.heap.size, 0, none⟩) l.length l.length, .int .i64 cursor, .int .i64 last, .int .i64 (-1)] 31)
      rw [World.size_alloc] at this
      exact this
    · exact (Below.heap_alloc _ _ _ (by rw [World.size_alloc]; omega)).trans (heap_alloc_new w2 _)
  have HN := Lib.hid hN
  clear hN
  revert HN
  generalize ((w2.alloc (.cells (madeCells #[.bool false] l.length) 4)).alloc (.cells #[.int .i64 P, .slice none 0 0, .slice (some ⟨w2.heap.size, 0, none⟩) l.length l.length, .int .i64 cursor, .int .i64 last, .int .i64 (-1)] 31)).drew = W0
  generalize w2.heap.size + 1 = rb
  generalize w2.heap.size = lb
  intro HN
  clear KB KH
  go_wp2
  go_loopg [12] l.length (fun gk s wx => ∃ (k : Nat) (v : Value), s = .int .i64 k ∧ k + gk = l.length ∧ RN w l P cursor last rb lb k v wx)
  case atStart => exact ⟨0, _, rfl, by omega, HN.out⟩
  case round =>
    obtain ⟨k, v, rfl, hk, hN⟩ := hrel
    have HK := Lib.hid hk
    have HN1 := Lib.hid hN
    clear HN hk hN
    by_cases hlt : k < l.length
    · have hki : (k : Int) < B := by rw [← HLEN.out]; omega
      have hki' : decide ((k : Int) < B) = true := decide_eq_true hki
      obtain ⟨x, hx⟩ : ∃ x, l[k]? = some x := ⟨_, List.getElem?_eq_getElem hlt⟩
      obtain ⟨r0, r1, r2, r3⟩ := HR.out k x hx
      have c0 := (HN1.out.below.cell (lt_of_cell r0)).trans r0
      have c1 := (HN1.out.below.cell (lt_of_cell r1)).trans r1
      have c2 := (HN1.out.below.cell (lt_of_cell r2)).trans r2
      have c3 := (HN1.out.below.cell (lt_of_cell r3)).trans r3
      have HX := Lib.hid hx
      have y1 := cell_of (o := 1) HN1.out.head rfl
      have y1n : ∀ ob, (wr.alloc ob).cell? ⟨rb, 1, none⟩ = some v := fun ob => (((Below.refl wr.heap.size wr).alloc (Nat.le_refl _) ob).cell (lt_of_cell y1)).trans y1
      clear r0 r1 r2 r3 hx
      go_wp2
      go_region_law (refine Kd.R_append_step k34 (w0 := w) (W := wr.drew) w.heap.size ?aW (.tmp 63) (.tmp 68) 24 34 (.agg #[(.int .i64 0), (.int .u64 0), (.bool false), (.int .i64 0)]) 32 rfl Try.underlying24 info34 rfl (by decide) (by decide) v (l.take k) x [.int .i64 x.f0, .int .u64 x.f1, .bool x.f2, .int .i64 x.f3] (fun _ => True) (fun _ => False) ?aX ?aY ?aP (fun _ hk => hk.elim) ?aF ?aO ?aB ?aS ?aL ?_; (case aW => rfl); (case aX => rfl); (case aY => rfl); (case aP => exact k34_mkM _ _ _ x); (case aB => exact HN1.out.below.drew); (case aF => exact (fun _ _ => trivial)); (case aO => exact Kd.R_drew HN1.out.row); (case aS => exact HN1.out.below.size); (case aL => rw [List.length_take]; have := HP.out; have := HLEN.out; omega); intro v1 w5 ho hb hg hat; have R1 := Lib.hid ho; have B1 := Lib.hid hb; have G1 := Lib.hid hg; obtain ⟨A1, n1, k1, rfl⟩ : ∃ A n c, v1 = .slice A n c := (by obtain ⟨A, c, h⟩ := Kd.R_slice ho; exact ⟨A, _, c, h⟩); have hh5 := (hg.block rb (lt_of_heap HN1.out.head) HN1.out.sep.1).trans HN1.out.head; have q1 := cell_of (o := 1) hh5 rfl; have f1 := free_of (o := 1) hh5; clear ho hb hg hat)
      all_goals
        have HN2 := Lib.hid (RN.next HN1.out HX.out R1.out G1.out B1.out)
        clear R1 G1 B1 hh5 q1 f1 y1n
        revert HN2
        generalize w5.setCell ⟨rb, 1, none⟩ (.slice A1 n1 k1) = W6
        intro HN2
        go_wp2
        go_roundg (gk - 1)
        case measure => have := HK.out; omega
        case rel => exact ⟨k + 1, _, by (have e64 : wrap64 ((k : Int) + 1) = ((k + 1 : Nat) : Int) := (by have := HP.out; have := HLEN.out; unfold wrap64; omega); first | rfl | (rw [e64]; done) | (simp [e64]; done)), by have := HK.out; omega, HN2.out⟩
    · have hki : ¬ (k : Int) < B := by rw [← HLEN.out]; omega
      have hki' : decide ((k : Int) < B) = false := decide_eq_false hki
      go_wp2
      refine bodyPost_ret (v := .tuple #[.pointer (some ⟨rb, 0, none⟩), .int .i64 0]) (by simp [results, Try.results33, go_sem]) rfl ?_
      obtain rfl : k = l.length := by have := HK.out; omega
      exact ⟨rb, lb, v, rfl, HN1.out⟩

/-- The error of the document's New, given what May says. -/
def rnewErr (B P S : Int) (l : List S34) (cursor last : Int) (m : Bool) : Int := if fitsB B P S then if placeB B l.length cursor last then if m then 0 else 110 else 41 else 40
theorem rnew_calls (B P S : Int) (A : Option Addr) (l : List S34) (c : Nat) (cursor last : Int) (w : World) (hl : Kd.C k34 w A l.length l) (hc : l.length ≤ c) (kk : Nat) (m : Bool) (hm : shaleref11_May.f kk l P last = some m) :
    Calls Try.prog 33 #[.agg #[.int .i64 B, .int .i64 P, .int .i64 S], .slice A l.length c, .int .i64 cursor, .int .i64 last] w fun e W => Below w.heap.size w W ∧
      ((rnewErr B P S l cursor last m = 0 ∧ RNewEnd w l P cursor last e W) ∨ (rnewErr B P S l cursor last m ≠ 0 ∧ e = .returned (.tuple #[.pointer none, .int .i64 (rnewErr B P S l cursor last m)]))) := by
  cases hf : fitsB B P S
  · have hn : rnewErr B P S l cursor last m = 40 := by unfold rnewErr; rw [hf]; rfl
    refine (rnew_shape B P S A l.length c cursor last w hf).mono fun e W h => ⟨h.2, .inr ?_⟩
    rw [hn]
    exact ⟨by decide, h.1⟩
  cases hp : placeB B l.length cursor last
  · have hn : rnewErr B P S l cursor last m = 41 := by unfold rnewErr; rw [hf, hp]; rfl
    refine (rnew_place B P S A l.length c cursor last w hf hp).mono fun e W h => ⟨h.2, .inr ?_⟩
    rw [hn]
    exact ⟨by decide, h.1⟩
  cases m
  · have hn : rnewErr B P S l cursor last false = 110 := by unfold rnewErr; rw [hf, hp]; rfl
    refine (rnew_may B P S A l c cursor last w hf hp hl hc kk hm).mono fun e W h => ⟨h.2, .inr ?_⟩
    rw [hn]
    exact ⟨by decide, h.1⟩
  · have hn : rnewErr B P S l cursor last true = 0 := by unfold rnewErr; rw [hf, hp]; rfl
    refine (rnew_walk B P S A l c cursor last w hf hp hl hc kk hm).mono fun e W h => ⟨?_, .inl ⟨hn, h⟩⟩
    obtain ⟨rb, lb, v, _, h⟩ := h
    exact h.below
end Go.Proofs.Ytmohijpkhmeibaa
