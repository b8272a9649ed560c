/- Put, walked. -/
import Derived.Test.YthpjcbaijbppiaaPutPure
namespace Go.Proofs.Ythpjcbaijbppiaa
open Go.RowKit Go.Proofs
set_option linter.unusedVariables false
set_option linter.unusedSimpArgs false
set_option maxRecDepth 100000
theorem PI.drewN {V : Type} {s : TS V} {κ : Tk V} {w : World} {p : Nat} {n : Int} {k L a : Nat} {s1 : TS V} {wx : World} (h : PI κ s p n k w L a s1 wx) (m : Nat) : PI κ s p n k w L a s1 (wx.drewN m) :=
  ⟨h.isT.drewN m, h.wf, h.at', h.full, h.same, h.room, h.min, h.new, h.off.drewN m⟩
theorem put_bad (p : Nat) (k v : Int) (w : World) (hk : k < 0 ∨ 1048575 < k) :
    Calls Try.prog 21 #[.pointer (some ⟨p, 0, none⟩), .int .i64 k, .int .i64 v] w fun e w' => e = .returned (.int .i64 90) ∧ w' = w.alloc (.cells #[.int .i64 v] 3) := by
  by_cases h0 : k < 0
  · clear hk
    go_enter Try.func21, Try.ntmps21
    go_wp2
    go_ret
    exact ⟨rfl, rfl⟩
  · have h1 : 1048575 < k := by omega
    have h2 : ¬ k < 0 := h0
    clear hk h0
    go_enter Try.func21, Try.ntmps21
    go_wp2
    go_ret
    exact ⟨rfl, rfl⟩
def PutEnd (s : TS Int) (p : Nat) (n : Int) (k : Nat) (v : Int) (w : World) (e : Ending) (w' : World) : Prop :=
  e = .returned (.int .i64 0) ∧ PutIn kInt s p n k w.heap.size v (w.alloc (.cells #[.int .i64 v] 3)) w'
theorem put_ok (s : TS Int) (p : Nat) (n : Int) (k : Nat) (v : Int) (w : World) (hk : k < 1048576) (hT : Tree kInt w p n s) :
    Calls Try.prog 21 #[.pointer (some ⟨p, 0, none⟩), .int .i64 (k : Int), .int .i64 v] w (PutEnd s p n k v w) := by
  have hI0 := hT.isT.alloc (.cells #[.int .i64 v] 3)
  have GC := Lib.hid (grow_calls s p n _ k hk hI0 hT.wf hT.full hT.min)
  have DZ := Lib.hid (fun W => digit0_q k hk W)
  have DC := Lib.hid (fun L (hL : L ≤ 4) W => digit_q k L hk hL W)
  have HT := Lib.hid hT
  have HB := Lib.hid (heap_alloc_new w (.cells #[.int .i64 v] 3))
  have h1 : ¬ (k : Int) < 0 := by omega
  have h2 : ¬ 1048575 < (k : Int) := by omega
  have HZ := Lib.hid (show w.heap.size < (w.alloc (.cells #[.int .i64 v] 3)).heap.size by simp)
  have HP := Lib.hid (show ∀ b, (b = p ∨ Nodes s b) → b ≠ w.heap.size from fun b hb => by
    rcases hb with rfl | ⟨L, q, h⟩
    · have := hT.isT.plt; omega
    · have := (hT.isT.node _ _ _ h).lt; omega)
  clear hT hI0 hk
  go_enter Try.func21, Try.ntmps21
  go_wp2_with (go_at_call 43; refine GC.out.mono ?_; rintro e w1 ⟨⟨vv, rfl⟩, s0, hG, hroom⟩; have c1 := hG.isT.c1; obtain ⟨a0, ha0⟩ := hG.wf.root hG.pos; have c0 := hG.isT.c0; rw [ha0, ptr_some] at c0; have h5 := hG.wf.h5; have hp0 := hG.pos)
  have hq : k / 16 ^ (s0.h - 1 + 1) = 0 := by rw [show s0.h - 1 + 1 = s0.h by omega]; exact Nat.div_eq_of_lt hroom
  have HPI := Lib.hid (show PI kInt s p n k (w.alloc (.cells #[.int .i64 v] 3)) (s0.h - 1) a0 s0 w1 from ⟨hG.isT, hG.wf, by rw [hq]; exact ha0, by rw [hq]; exact hG.full, hG.same, hroom, hG.min, hG.new, hG.off.mono fun i _ e => .inl e⟩)
  clear hG hroom ha0 hq GC
  revert HPI HZ HP HB
  generalize hW0 : w.alloc (.cells #[.int .i64 v] 3) = W0
  intro HB HZ HP HPI
  go_loopw [7, 8] (fun s7 s8 wx => ∃ (L a : Nat) (s1 : TS Int), s8 = .int .i64 (L : Int) ∧ s7 = .pointer (some ⟨a, 0, none⟩) ∧ L ≤ 4 ∧ PI kInt s p n k W0 L a s1 wx) (fun _ s8 _ => (intOf s8).toNat)
  case atStart => exact ⟨s0.h - 1, a0, s0, by go_num, rfl, by omega, HPI.out⟩
  case round =>
    obtain ⟨L, a, s1, rfl, rfl, hL, hP⟩ := hrel
    have HQ := Lib.hid hP
    have hat := hP.at'
    have hn := hP.isT.node _ _ _ hat
    have f2 := hn.free 32
    have c2 := hn.used
    have halt := hn.lt
    cases L with
    | zero =>
      clear c2
      have hd : k % 16 < 16 := Nat.mod_lt _ (by decide)
      have DD := Lib.hid (fun W => DZ.out W)
      have hat0 : s1.N 0 (k / 16) = some a := by rw [Nat.zero_add, Nat.pow_one] at hat; exact hat
      have hn0 := hP.isT.node _ _ _ hat0
      have hc := hn0.things' hd
      rw [show k / 16 * 16 + k % 16 = k by omega, hP.same] at hc
      have c2 := hn0.used
      have hu := usedOf_le (s1.child 0 (k / 16))
      have fd := hn0.free (16 + k % 16)
      have hbox : wr.heap[w.heap.size]? = some (.cells #[.int .i64 v] 3 (0, 0)) := (hP.off.block _ HZ.out (fun h => HP.out _ h rfl)).trans HB.out
      have p2 := hP.isT.c2
      have fp := hP.isT.cf 2
      have hle := HT.out.cnt.le HT.out.wf
      have hge := HT.out.cnt.nonneg
      have hnl := hP.node_lt
      have hoff : ∀ m i j l x y z, Off (fun i => i = p ∨ Nodes s i) W0 ((((wr.drewN m).setCell ⟨a, i, none⟩ x).setCell ⟨p, j, none⟩ y).setCell ⟨a, l, none⟩ z) := fun m i j l x y z =>
        (((hP.off.drewN m).setCell (p := ⟨a, i, none⟩) hnl _).setCell (p := ⟨p, j, none⟩) (.inl (.inl rfl)) _).setCell (p := ⟨a, l, none⟩) hnl _
      have hoff2 : ∀ m l z, Off (fun i => i = p ∨ Nodes s i) W0 ((wr.drewN m).setCell ⟨a, l, none⟩ z) := fun m l z => (hP.off.drewN m).setCell (p := ⟨a, l, none⟩) hnl _
      have HNEW := Lib.hid (fun m hk => (hP.drewN m).done (b := w.heap.size) (v := v) HT.out.cnt ((hP.isT.drewN m).key_new hP.wf hat0 (by rw [hP.same]; exact hk) hbox rfl) (by rw [if_pos hk]) (hoff _ _ _ _ _ _ _))
      have HOLD := Lib.hid (fun m x hk => (hP.drewN m).done (b := w.heap.size) (v := v) HT.out.cnt ((hP.isT.drewN m).key_old (x := x) hP.wf hat0 (by rw [hP.same]; exact hk) hbox) (by rw [hk, if_neg (by simp)]) (hoff2 _ _ _))
      have HX := Lib.hid hP.same
      clear hn hat hP hat0 hn0 hbox hnl hoff hoff2 HQ
      revert hd DD hc c2 hu fd HNEW HOLD
      generalize usedOf (s1.child 0 (k / 16)) = U
      generalize k % 16 = d
      intro hd DD hc c2 hu fd HNEW HOLD
      have hd2 : (d : Int) < 16 := by omega
      cases hk : s.K k with
      | none =>
        rw [hk] at hc
        replace hc : wr.cell? ⟨a, 16 + d, none⟩ = some (.pointer none) := hc
        have HE := Lib.hid (fun m => HNEW.out m hk)
        clear HNEW HOLD hk
        go_wp2
        go_quiet ((go_at_call 44; exact Calls.quiet_of_same (DD.out _)))
        go_wp2
        go_ret
        refine ⟨rfl, ?_⟩
        rw [hW0]
        exact HE.out _
      | some x =>
        rw [hk] at hc
        replace hc : wr.cell? ⟨a, 16 + d, none⟩ = some (.pointer (some ⟨x.1, 0, none⟩)) := hc
        have HE := Lib.hid (fun m => HOLD.out m x hk)
        clear HNEW HOLD hk
        go_wp2
        go_quiet ((go_at_call 44; exact Calls.quiet_of_same (DD.out _)))
        go_wp2
        go_ret
        refine ⟨rfl, ?_⟩
        rw [hW0]
        exact HE.out _
    | succ L =>
      have hd : k / 16 ^ (L + 1) % 16 < 16 := Nat.mod_lt _ (by decide)
      have DD := Lib.hid (fun W => DC.out (L + 1) hL W)
      have hc := hn.below' hd
      rw [digit_split] at hc
      have fd := hn.free (k / 16 ^ (L + 1) % 16)
      have HMK := Lib.hid (fun m h => (hP.drewN m).make h)
      have HDN := Lib.hid (fun c h => hP.down (c := c) h)
      have hu := usedOf_le (s1.child (L + 1) (k / 16 ^ (L + 1 + 1)))
      have na : ¬ a = wr.heap.size := by omega
      revert hd DD hc fd HMK c2 hu
      generalize k / 16 ^ (L + 1) % 16 = d
      generalize usedOf (s1.child (L + 1) (k / 16 ^ (L + 1 + 1))) = U
      intro c2 hd DD hc fd HMK hu
      have hd2 : (d : Int) < 16 := by omega
      have hpos : (0 : Int) < ((L + 1 : Nat) : Int) := by omega
      have hm1 : ((L + 1 : Nat) : Int) - 1 = (L : Int) := by omega
      clear hn hat hP
      cases hcn : s1.N L (k / 16 ^ (L + 1)) with
      | none =>
        rw [hcn, ptr_none] at hc
        have HE := Lib.hid (fun m => HMK.out m hcn)
        have k1 : ∀ m ob, ((wr.drewN m).alloc ob).cell? ⟨a, d, none⟩ = some (.pointer none) := fun m ob => cellA (w := wr.drewN m) hc ob
        have k2 : ∀ m ob, ((wr.drewN m).alloc ob).cell? ⟨a, 32, none⟩ = some (.int .i64 (U : Int)) := fun m ob => cellA (w := wr.drewN m) c2 ob
        have g1 : ∀ m ob, ((wr.drewN m).alloc ob).frozen? ⟨a, d, none⟩ = false := fun m ob => freeA (w := wr.drewN m) halt fd ob
        have g2 : ∀ m ob, ((wr.drewN m).alloc ob).frozen? ⟨a, 32, none⟩ = false := fun m ob => freeA (w := wr.drewN m) halt f2 ob
        clear HMK HDN hcn halt
        go_wp2
        go_quiet ((go_at_call 44; exact Calls.quiet_of_same (DD.out _)))
        go_wp2
        go_roundw
        case rel => exact ⟨L, _, _, by go_num, rfl, by omega, HE.out _⟩
        case measure => simp [intOf]
      | some c =>
        rw [hcn, ptr_some] at hc
        have HE := Lib.hid (HDN.out c hcn)
        clear HMK HDN hcn halt
        go_wp2
        go_quiet ((go_at_call 44; exact Calls.quiet_of_same (DD.out _)))
        go_wp2
        go_roundw
        case rel => exact ⟨L, c, s1, by go_num, rfl, by omega, HE.out.drewN _⟩
        case measure => simp [intOf]
end Go.Proofs.Ythpjcbaijbppiaa
