/- The document's book: Live. -/
import Derived.Test.YtmohijpkhmeibaaMRefB
namespace Go.Proofs.Ytmohijpkhmeibaa
open Go.RowKit Go.Proofs
set_option linter.unusedVariables false
set_option linter.unusedSimpArgs false
set_option maxRecDepth 100000
theorem rlive_away (p q t cap : Nat) (b : Bks) (n m : Int) (w : World) (hI : IsR w p q t cap b) (hn : n < 0 ∨ b.all.length ≤ n) :
    Calls Try.prog 58 #[.pointer (some ⟨p, 0, none⟩), .int .i64 n, .int .i64 m] w fun e w' => e = .returned (.int .i64 41) ∧ w = w' := by
  have NC := rin_calls p q t cap b n w hI
  rw [in_not hn] at NC
  have NC := Lib.hid NC
  clear hI hn
  go_enter Try.func58, Try.ntmps58
  go_wp2_with fail
  refine NC.out.mono ?_
  rintro e w' ⟨rfl, rfl⟩
  go_wp2
  go_ret
  exact ⟨rfl, rfl⟩
def LiveOk (b : Bks) (x : Blk) (m : Int) : Prop := countedB x = true ∧ -x.live ≤ m ∧ m ≤ b.pages - 1 - x.live
set_option maxHeartbeats 16000000 in
theorem rlive_in (p q t cap : Nat) (b : Bks) (k : Nat) (x : Blk) (m : Int) (w : World) (hI : IsR w p q t cap b) (hx : b.all[k]? = some x) (hp0 : 1 ≤ b.pages) (hp1 : b.pages ≤ 256) (hl0 : 0 ≤ x.live) (hl1 : x.live < b.pages) (hlf : x.left = true → x.state = 4) :
    Calls Try.prog 58 #[.pointer (some ⟨p, 0, none⟩), .int .i64 (k : Int), .int .i64 m] w fun e w' =>
      (LiveOk b x m ∧ e = .returned (.int .i64 0) ∧ IsR w' p q t cap (settleB { b with all := b.all.set k { x with live := x.live + m } } k { x with live := x.live + m }) ∧ Off (· = q) w w') ∨
      (¬ LiveOk b x m ∧ e = .returned (.int .i64 110) ∧ Below w.heap.size w w') := by
  have hk : k < b.all.length := (List.getElem?_eq_some_iff.1 hx).1
  have NC := rin_calls p q t cap b k w hI
  rw [in_yes hk] at NC
  have NC := Lib.hid NC
  have hle := hI.le
  have hkl : (k : Int) < (b.all.length : Int) := by omega
  have c0 := hI.c0
  have c1 := hI.c1
  have e0 := hI.e0 hx
  have e1 := hI.e1 hx
  have e2 := hI.e2 hx
  have e3 := hI.e3 hx
  have a0 := fun o : Obj => (hI.alloc o).c0
  have a1 := fun o : Obj => (hI.alloc o).c1
  have a2 := fun o : Obj => (hI.alloc o).c2
  have a5 := fun o : Obj => (hI.alloc o).c5
  have l4 := fun o : Obj => (hI.alloc o).e4 hx
  have HBB := Lib.hid (fun (o : Obj) (n : Nat) => pw_below_drewN' ((Below.refl w.heap.size w).alloc (Nat.le_refl _) o) n)
  have wp : IntKind.i64.wrap (-b.pages) = -b.pages := by rw [IntKind.wrap_i64]; omega
  have wp' : wrap64 (-b.pages) = -b.pages := by unfold wrap64; omega
  have wq : IntKind.i64.wrap (b.pages - 1) = b.pages - 1 := by rw [IntKind.wrap_i64]; omega
  have HI := Lib.hid hI
  have HX := Lib.hid hx
  have HLF := Lib.hid hlf
  have hok : LiveOk b x m ↔ (countedB x = true ∧ -x.live ≤ m ∧ m ≤ b.pages - 1 - x.live) := Iff.rfl
  have HOK := Lib.hid hok
  clear hI hx hok hlf
  by_cases s1 : x.state = 1
  · have n1 : (x.state != 1) = false := by rw [s1]; rfl
    have q1 : (x.state == 1) = true := beq_iff_eq.2 s1
    have hL : x.left = false := by
      cases e : x.left
      · rfl
      · have := HLF.out e; omega
    rw [hL] at l4
    have HC := Lib.hid (show countedB x = true by unfold countedB; rw [q1]; rfl)
    have HLX := Lib.hid hL
    clear s1 hL
    by_cases m1 : m < -b.pages
    · have d1 : decide (m < -b.pages) = true := decide_eq_true m1
      have HN := Lib.hid (show ¬ LiveOk b x m by rw [HOK.out]; intro h; have := h.2.1; omega)
      go_enter Try.func58, Try.ntmps58
      go_wp2_with (go_at_call 64; refine NC.out.mono ?_; rintro e w' ⟨rfl, rfl⟩)
      go_quiet (fail)
      go_wp2
      go_ret
      exact .inr ⟨HN.out, rfl, HBB.out _ _⟩
    have d1 : decide (m < -b.pages) = false := decide_eq_false m1
    by_cases m2 : m > b.pages
    · have d2 : decide (m > b.pages) = true := decide_eq_true m2
      have HN := Lib.hid (show ¬ LiveOk b x m by rw [HOK.out]; intro h; have := h.2.2; omega)
      go_enter Try.func58, Try.ntmps58
      go_wp2_with (go_at_call 64; refine NC.out.mono ?_; rintro e w' ⟨rfl, rfl⟩)
      go_quiet (fail)
      go_wp2
      go_ret
      exact .inr ⟨HN.out, rfl, HBB.out _ _⟩
    have d2 : decide (m > b.pages) = false := decide_eq_false m2
    have wa : IntKind.i64.wrap (x.live + m) = x.live + m := by rw [IntKind.wrap_i64]; omega
    by_cases m3 : x.live + m < 0
    · have d3 : decide (x.live + m < 0) = true := decide_eq_true m3
      have HN := Lib.hid (show ¬ LiveOk b x m by rw [HOK.out]; intro h; have := h.2.1; omega)
      go_enter Try.func58, Try.ntmps58
      go_wp2_with (go_at_call 64; refine NC.out.mono ?_; rintro e w' ⟨rfl, rfl⟩)
      go_quiet (fail)
      go_wp2
      go_ret
      exact .inr ⟨HN.out, rfl, HBB.out _ _⟩
    have d3 : decide (x.live + m < 0) = false := decide_eq_false m3
    by_cases m4 : x.live + m > b.pages - 1
    · have d4 : decide (x.live + m > b.pages - 1) = true := decide_eq_true m4
      have HN := Lib.hid (show ¬ LiveOk b x m by rw [HOK.out]; intro h; have := h.2.2; omega)
      go_enter Try.func58, Try.ntmps58
      go_wp2_with (go_at_call 64; refine NC.out.mono ?_; rintro e w' ⟨rfl, rfl⟩)
      go_quiet (fail)
      go_wp2
      go_ret
      exact .inr ⟨HN.out, rfl, HBB.out _ _⟩
    have d4 : decide (x.live + m > b.pages - 1) = false := decide_eq_false m4
    have HY := Lib.hid (show LiveOk b x m from ⟨HC.out, by omega, by omega⟩)
    have wl : wrap64 (x.live + m) = x.live + m := by unfold wrap64; omega
    have SF := fun (o : Obj) (n : Nat) => (((HI.out.alloc o).drewN n).drewN 1).setRow (y := { x with live := x.live + m }) HX.out (j := 3) (v := .int .i64 (x.live + m)) (by decide) rfl rfl
    have SF := Lib.hid SF
    have f3 := fun (o : Obj) (n : Nat) => ((HI.out.alloc o).drewN n).rf (k * 4 + 3)
    have u3 := fun (o : Obj) (n : Nat) => ((HI.out.alloc o).drewN n).e3 HX.out
    have u1 := fun (o : Obj) (n : Nat) => ((HI.out.alloc o).drewN n).c1
    have hqs := HI.out.qlt
    have OF := Lib.hid (fun (o : Obj) (n : Nat) => (((Off.of_below (S := (· = q)) (HBB.out o n)).drew).setCell (p := ⟨q, k * 4 + 3, none⟩) (.inl rfl) (.int .i64 (x.live + m))))
    have w5 := fun (o : Obj) (n : Nat) => (SF.out o n).c5
    have hx2 : ({ b with all := b.all.set k { x with live := x.live + m } } : Bks).all[k]? = some { x with live := x.live + m } := List.getElem?_set_self hk
    have EC := Lib.hid (fun (o : Obj) (n : Nat) => emptied_calls p q t cap _ k _ _ (SF.out o n) hx2 HLX.out)
    clear hx2
    rcases (Bool.eq_false_or_eq_true x.real).symm with hr | hr
    · rw [hr] at e2
      rcases (Bool.eq_false_or_eq_true (x.live + m == 0)).symm with h3 | h3
      · have H3 := Lib.hid h3
        have HE := Lib.hid (show settleB { b with all := b.all.set k { x with live := x.live + m } } k { x with live := x.live + m } = { b with all := b.all.set k { x with live := x.live + m } } by unfold settleB; split; rfl; rw [if_neg (by unfold hollowB; simp only [H3.out]; simp)])
        go_enter Try.func58, Try.ntmps58
        go_wp2_with (go_at_call 64; refine NC.out.mono ?_; rintro e w' ⟨rfl, rfl⟩)
        go_quiet (fail)
        go_wp2
        go_region
        go_wp2
        go_ret
        exact .inl ⟨HY.out, rfl, by rw [HE.out]; exact SF.out _ _, OF.out _ _⟩
      · by_cases hkv : (k : Int) = b.victim
        · have nkv : ((k : Int) != b.victim) = false := by rw [hkv]; simp
          have HKV := Lib.hid hkv
          clear hkv
          have HE := Lib.hid (show settleB { b with all := b.all.set k { x with live := x.live + m } } k { x with live := x.live + m } = { b with all := b.all.set k { x with live := x.live + m } } by unfold settleB; rw [if_pos HKV.out])
          go_enter Try.func58, Try.ntmps58
          go_wp2_with (go_at_call 64; refine NC.out.mono ?_; rintro e w' ⟨rfl, rfl⟩)
          go_quiet (fail)
          go_wp2
          go_region
          go_wp2
          go_ret
          exact .inl ⟨HY.out, rfl, by rw [HE.out]; exact SF.out _ _, OF.out _ _⟩
        · have nkv : ((k : Int) != b.victim) = true := bne_iff_ne.2 hkv
          have HE := Lib.hid (show settleB { b with all := b.all.set k { x with live := x.live + m } } k { x with live := x.live + m } = emptyB { b with all := b.all.set k { x with live := x.live + m } } k by unfold settleB; rw [if_neg hkv, if_pos (by unfold hollowB; simp only [q1, hr, h3]; rfl)])
          clear hkv
          go_enter Try.func58, Try.ntmps58
          go_wp2_with (go_at_call 64; refine NC.out.mono ?_; rintro e w' ⟨rfl, rfl⟩)
          go_quiet (fail)
          go_wp2
          go_region
          go_wp2_with (go_at_call 74; refine (EC.out _ _).mono ?_; rintro e w2 ⟨⟨u, rfl⟩, h1, h2⟩; have K1 := Lib.hid h1; have K2 := Lib.hid h2; clear h1 h2)
          go_ret
          exact .inl ⟨HY.out, rfl, by rw [HE.out]; exact K1.out, (OF.out _ _).trans K2.out⟩
    · rw [hr] at e2
      have HE := Lib.hid (show settleB { b with all := b.all.set k { x with live := x.live + m } } k { x with live := x.live + m } = { b with all := b.all.set k { x with live := x.live + m } } by unfold settleB; split; rfl; rw [if_neg (by unfold hollowB; simp only [hr]; simp)])
      go_enter Try.func58, Try.ntmps58
      go_wp2_with (go_at_call 64; refine NC.out.mono ?_; rintro e w' ⟨rfl, rfl⟩)
      go_quiet (fail)
      go_wp2
      go_region
      go_wp2
      go_ret
      exact .inl ⟨HY.out, rfl, by rw [HE.out]; exact SF.out _ _, OF.out _ _⟩
  have n1 : (x.state != 1) = true := bne_iff_ne.2 s1
  have q1 : (x.state == 1) = false := beq_eq_false_iff_ne.2 s1
  by_cases s2 : x.state = 2
  · have n2 : (x.state != 2) = false := by rw [s2]; rfl
    have q2 : (x.state == 2) = true := beq_iff_eq.2 s2
    have hL : x.left = false := by
      cases e : x.left
      · rfl
      · have := HLF.out e; omega
    rw [hL] at l4
    have HC := Lib.hid (show countedB x = true by unfold countedB; rw [q1, q2]; rfl)
    clear s1 s2 hL
    by_cases m1 : m < -b.pages
    · have d1 : decide (m < -b.pages) = true := decide_eq_true m1
      have HN := Lib.hid (show ¬ LiveOk b x m by rw [HOK.out]; intro h; have := h.2.1; omega)
      go_enter Try.func58, Try.ntmps58
      go_wp2_with (go_at_call 64; refine NC.out.mono ?_; rintro e w' ⟨rfl, rfl⟩)
      go_quiet (fail)
      go_wp2
      go_ret
      exact .inr ⟨HN.out, rfl, HBB.out _ _⟩
    have d1 : decide (m < -b.pages) = false := decide_eq_false m1
    by_cases m2 : m > b.pages
    · have d2 : decide (m > b.pages) = true := decide_eq_true m2
      have HN := Lib.hid (show ¬ LiveOk b x m by rw [HOK.out]; intro h; have := h.2.2; omega)
      go_enter Try.func58, Try.ntmps58
      go_wp2_with (go_at_call 64; refine NC.out.mono ?_; rintro e w' ⟨rfl, rfl⟩)
      go_quiet (fail)
      go_wp2
      go_ret
      exact .inr ⟨HN.out, rfl, HBB.out _ _⟩
    have d2 : decide (m > b.pages) = false := decide_eq_false m2
    have wa : IntKind.i64.wrap (x.live + m) = x.live + m := by rw [IntKind.wrap_i64]; omega
    by_cases m3 : x.live + m < 0
    · have d3 : decide (x.live + m < 0) = true := decide_eq_true m3
      have HN := Lib.hid (show ¬ LiveOk b x m by rw [HOK.out]; intro h; have := h.2.1; omega)
      go_enter Try.func58, Try.ntmps58
      go_wp2_with (go_at_call 64; refine NC.out.mono ?_; rintro e w' ⟨rfl, rfl⟩)
      go_quiet (fail)
      go_wp2
      go_ret
      exact .inr ⟨HN.out, rfl, HBB.out _ _⟩
    have d3 : decide (x.live + m < 0) = false := decide_eq_false m3
    by_cases m4 : x.live + m > b.pages - 1
    · have d4 : decide (x.live + m > b.pages - 1) = true := decide_eq_true m4
      have HN := Lib.hid (show ¬ LiveOk b x m by rw [HOK.out]; intro h; have := h.2.2; omega)
      go_enter Try.func58, Try.ntmps58
      go_wp2_with (go_at_call 64; refine NC.out.mono ?_; rintro e w' ⟨rfl, rfl⟩)
      go_quiet (fail)
      go_wp2
      go_ret
      exact .inr ⟨HN.out, rfl, HBB.out _ _⟩
    have d4 : decide (x.live + m > b.pages - 1) = false := decide_eq_false m4
    have HY := Lib.hid (show LiveOk b x m from ⟨HC.out, by omega, by omega⟩)
    have wl : wrap64 (x.live + m) = x.live + m := by unfold wrap64; omega
    have SF := fun (o : Obj) (n : Nat) => (((HI.out.alloc o).drewN n).drewN 1).setRow (y := { x with live := x.live + m }) HX.out (j := 3) (v := .int .i64 (x.live + m)) (by decide) rfl rfl
    have SF := Lib.hid SF
    have f3 := fun (o : Obj) (n : Nat) => ((HI.out.alloc o).drewN n).rf (k * 4 + 3)
    have u3 := fun (o : Obj) (n : Nat) => ((HI.out.alloc o).drewN n).e3 HX.out
    have u1 := fun (o : Obj) (n : Nat) => ((HI.out.alloc o).drewN n).c1
    have hqs := HI.out.qlt
    have OF := Lib.hid (fun (o : Obj) (n : Nat) => (((Off.of_below (S := (· = q)) (HBB.out o n)).drew).setCell (p := ⟨q, k * 4 + 3, none⟩) (.inl rfl) (.int .i64 (x.live + m))))
    have HE := Lib.hid (show settleB { b with all := b.all.set k { x with live := x.live + m } } k { x with live := x.live + m } = { b with all := b.all.set k { x with live := x.live + m } } by unfold settleB; split; rfl; rw [if_neg (by unfold hollowB; simp [q1])])
    go_enter Try.func58, Try.ntmps58
    go_wp2_with (go_at_call 64; refine NC.out.mono ?_; rintro e w' ⟨rfl, rfl⟩)
    go_quiet (fail)
    go_wp2
    go_region
    go_wp2
    go_ret
    exact .inl ⟨HY.out, rfl, by rw [HE.out]; exact SF.out _ _, OF.out _ _⟩
  have n2 : (x.state != 2) = true := bne_iff_ne.2 s2
  have q2 : (x.state == 2) = false := beq_eq_false_iff_ne.2 s2
  by_cases s4 : x.state = 4
  · have n4 : (x.state != 4) = false := by rw [s4]; rfl
    have q4 : (x.state == 4) = true := beq_iff_eq.2 s4
    rcases (Bool.eq_false_or_eq_true x.left).symm with hL | hL
    · have HC := Lib.hid (show countedB x = true by unfold countedB; rw [q1, q2, q4, hL]; rfl)
      rw [hL] at l4
      clear s1 s2 s4 hL
      by_cases m1 : m < -b.pages
      · have d1 : decide (m < -b.pages) = true := decide_eq_true m1
        have HN := Lib.hid (show ¬ LiveOk b x m by rw [HOK.out]; intro h; have := h.2.1; omega)
        go_enter Try.func58, Try.ntmps58
        go_wp2_with (go_at_call 64; refine NC.out.mono ?_; rintro e w' ⟨rfl, rfl⟩)
        go_quiet (fail)
        go_wp2
        go_ret
        exact .inr ⟨HN.out, rfl, HBB.out _ _⟩
      have d1 : decide (m < -b.pages) = false := decide_eq_false m1
      by_cases m2 : m > b.pages
      · have d2 : decide (m > b.pages) = true := decide_eq_true m2
        have HN := Lib.hid (show ¬ LiveOk b x m by rw [HOK.out]; intro h; have := h.2.2; omega)
        go_enter Try.func58, Try.ntmps58
        go_wp2_with (go_at_call 64; refine NC.out.mono ?_; rintro e w' ⟨rfl, rfl⟩)
        go_quiet (fail)
        go_wp2
        go_ret
        exact .inr ⟨HN.out, rfl, HBB.out _ _⟩
      have d2 : decide (m > b.pages) = false := decide_eq_false m2
      have wa : IntKind.i64.wrap (x.live + m) = x.live + m := by rw [IntKind.wrap_i64]; omega
      by_cases m3 : x.live + m < 0
      · have d3 : decide (x.live + m < 0) = true := decide_eq_true m3
        have HN := Lib.hid (show ¬ LiveOk b x m by rw [HOK.out]; intro h; have := h.2.1; omega)
        go_enter Try.func58, Try.ntmps58
        go_wp2_with (go_at_call 64; refine NC.out.mono ?_; rintro e w' ⟨rfl, rfl⟩)
        go_quiet (fail)
        go_wp2
        go_ret
        exact .inr ⟨HN.out, rfl, HBB.out _ _⟩
      have d3 : decide (x.live + m < 0) = false := decide_eq_false m3
      by_cases m4 : x.live + m > b.pages - 1
      · have d4 : decide (x.live + m > b.pages - 1) = true := decide_eq_true m4
        have HN := Lib.hid (show ¬ LiveOk b x m by rw [HOK.out]; intro h; have := h.2.2; omega)
        go_enter Try.func58, Try.ntmps58
        go_wp2_with (go_at_call 64; refine NC.out.mono ?_; rintro e w' ⟨rfl, rfl⟩)
        go_quiet (fail)
        go_wp2
        go_ret
        exact .inr ⟨HN.out, rfl, HBB.out _ _⟩
      have d4 : decide (x.live + m > b.pages - 1) = false := decide_eq_false m4
      have HY := Lib.hid (show LiveOk b x m from ⟨HC.out, by omega, by omega⟩)
      have wl : wrap64 (x.live + m) = x.live + m := by unfold wrap64; omega
      have SF := fun (o : Obj) (n : Nat) => (((HI.out.alloc o).drewN n).drewN 1).setRow (y := { x with live := x.live + m }) HX.out (j := 3) (v := .int .i64 (x.live + m)) (by decide) rfl rfl
      have SF := Lib.hid SF
      have f3 := fun (o : Obj) (n : Nat) => ((HI.out.alloc o).drewN n).rf (k * 4 + 3)
      have u3 := fun (o : Obj) (n : Nat) => ((HI.out.alloc o).drewN n).e3 HX.out
      have u1 := fun (o : Obj) (n : Nat) => ((HI.out.alloc o).drewN n).c1
      have hqs := HI.out.qlt
      have OF := Lib.hid (fun (o : Obj) (n : Nat) => (((Off.of_below (S := (· = q)) (HBB.out o n)).drew).setCell (p := ⟨q, k * 4 + 3, none⟩) (.inl rfl) (.int .i64 (x.live + m))))
      have HE := Lib.hid (show settleB { b with all := b.all.set k { x with live := x.live + m } } k { x with live := x.live + m } = { b with all := b.all.set k { x with live := x.live + m } } by unfold settleB; split; rfl; rw [if_neg (by unfold hollowB; simp [q1])])
      go_enter Try.func58, Try.ntmps58
      go_wp2_with (go_at_call 64; refine NC.out.mono ?_; rintro e w' ⟨rfl, rfl⟩)
      go_quiet (fail)
      go_wp2
      go_region
      go_wp2
      go_ret
      exact .inl ⟨HY.out, rfl, by rw [HE.out]; exact SF.out _ _, OF.out _ _⟩
    · have HC := Lib.hid (show countedB x = false by unfold countedB; rw [q1, q2, q4, hL]; rfl)
      rw [hL] at l4
      clear s1 s2 s4 hL
      have HN := Lib.hid (show ¬ LiveOk b x m by rw [HOK.out]; intro h; rw [HC.out] at h; cases h.1)
      go_enter Try.func58, Try.ntmps58
      go_wp2_with (go_at_call 64; refine NC.out.mono ?_; rintro e w' ⟨rfl, rfl⟩)
      go_quiet (fail)
      go_wp2
      go_ret
      exact .inr ⟨HN.out, rfl, HBB.out _ _⟩
  have n4 : (x.state != 4) = true := bne_iff_ne.2 s4
  have q4 : (x.state == 4) = false := beq_eq_false_iff_ne.2 s4
  have HC := Lib.hid (show countedB x = false by unfold countedB; rw [q1, q2, q4]; rfl)
  clear s1 s2 s4
  have HN := Lib.hid (show ¬ LiveOk b x m by rw [HOK.out]; intro h; rw [HC.out] at h; cases h.1)
  go_enter Try.func58, Try.ntmps58
  go_wp2_with (go_at_call 64; refine NC.out.mono ?_; rintro e w' ⟨rfl, rfl⟩)
  go_quiet (fail)
  go_wp2
  go_ret
  exact .inr ⟨HN.out, rfl, HBB.out _ _⟩
end Go.Proofs.Ytmohijpkhmeibaa
/- The document's book: Commit. -/
namespace Go.Proofs.Ytmohijpkhmeibaa
open Go.RowKit Go.Proofs
set_option linter.unusedVariables false
set_option linter.unusedSimpArgs false
set_option maxRecDepth 100000
theorem rcommit_away (p q t cap : Nat) (b : Bks) (n : Int) (w : World) (hI : IsR w p q t cap b) (hn : n < 0 ∨ b.all.length ≤ n) :
    Calls Try.prog 31 #[.pointer (some ⟨p, 0, none⟩), .int .i64 n] w fun e w' => e = .returned (.tuple #[.slice none 0 0, .int .i64 41]) ∧ w = w' := by
  have NC := rin_calls p q t cap b n w hI
  rw [in_not hn] at NC
  have NC := Lib.hid NC
  clear hI hn
  go_enter Try.func31, Try.ntmps31
  go_wp2_with fail
  refine NC.out.mono ?_
  rintro e w' ⟨rfl, rfl⟩
  go_wp2
  go_ret2
  exact ⟨rfl, rfl⟩
theorem rcommit_other (p q t cap : Nat) (b : Bks) (k : Nat) (x : Blk) (w : World) (hI : IsR w p q t cap b) (hx : b.all[k]? = some x) (hs : x.state ≠ 2) :
    Calls Try.prog 31 #[.pointer (some ⟨p, 0, none⟩), .int .i64 (k : Int)] w fun e w' => e = .returned (.tuple #[.slice none 0 0, .int .i64 110]) ∧ w = w' := by
  have hk : k < b.all.length := (List.getElem?_eq_some_iff.1 hx).1
  have NC := rin_calls p q t cap b k w hI
  rw [in_yes hk] at NC
  have NC := Lib.hid NC
  have hle := hI.le
  have hkl : (k : Int) < (b.all.length : Int) := by omega
  have c1 := hI.c1
  have e0 := hI.e0 hx
  have ns : (x.state != 2) = true := bne_iff_ne.2 hs
  clear hI hx hs
  go_enter Try.func31, Try.ntmps31
  go_wp2_with fail
  refine NC.out.mono ?_
  rintro e w' ⟨rfl, rfl⟩
  go_wp2
  go_ret2
  exact ⟨rfl, rfl⟩
set_option maxHeartbeats 4000000 in
theorem rcommit_open (p q t cap : Nat) (b : Bks) (k : Nat) (xk : Blk) (w : World) (hI : IsR w p q t cap b) (hxk : b.all[k]? = some xk) (hs : xk.state = 2) (hlf : ∀ (k : Nat) (x : Blk), b.all[k]? = some x → x.left = true → x.state = 4) :
    Calls Try.prog 31 #[.pointer (some ⟨p, 0, none⟩), .int .i64 (k : Int)] w fun e w' => ∃ v, e = .returned (.tuple #[v, .int .i64 0]) ∧ w'.ownsRow w.heap.size 3 1 v (marksB b.all k b.all.length).length (encN (marksB b.all k b.all.length)) ∧
      IsR w' p q t cap { b with last := (k : Int), all := allJ b.all b.all.length } ∧ Off (fun i => i = q ∨ i = p) w w' := by
  obtain ⟨i0, hi, hz0, hz1, hz2⟩ := info_parts info3b
  have hk : k < b.all.length := (List.getElem?_eq_some_iff.1 hxk).1
  have NC := rin_calls p q t cap b k w hI
  rw [in_yes hk] at NC
  have NC := Lib.hid NC
  have hle := hI.le
  have hkl : (k : Int) < (b.all.length : Int) := by omega
  have c1 := hI.c1
  have e0 := hI.e0 hxk
  have ns : (xk.state != 2) = false := by rw [hs]; rfl
  have c4 := hI.c4
  have f4 := hI.cf 4
  have h2 := hI.setHead (j := 4) (v := .int .i64 (k : Int)) (b' := { b with last := (k : Int) }) rfl rfl
  have o1 : Off (fun i => i = q ∨ i = p) w (w.setCell ⟨p, 4, none⟩ (.int .i64 (k : Int))) := (Off.refl (fun i => i = q ∨ i = p) w).setCell (p := ⟨p, 4, none⟩) (.inl (.inr rfl)) _
  have H2 := Lib.hid h2
  have O1 := Lib.hid o1
  have LQ := Lib.hid hI.qlt
  have LP := Lib.hid hI.plt
  have LT := Lib.hid hI.tlt
  have HLF := Lib.hid hlf
  clear hI h2 o1 hxk hs hlf
  go_enter Try.func31, Try.ntmps31
  go_wp2_with fail
  refine NC.out.mono ?_
  rintro e w' ⟨rfl, rfl⟩
  go_wp2
  clear e0 c1 c4
  go_loopw [6, 7] (fun s6 s7 wr => ∃ (j : Nat) (v6 : Value), v6 = s6 ∧ s7 = .int .i64 (j : Int) ∧ j ≤ b.all.length ∧ wr.ownsRow w.heap.size 3 1 s6 (marksB b.all k j).length (encN (marksB b.all k j)) ∧ IsR wr p q t cap { b with last := (k : Int), all := allJ b.all j } ∧ Off (fun i => i = q ∨ i = p) w wr) (fun _ s7 _ => b.all.length - (intOf s7).toNat)
  case atStart => exact ⟨0, _, rfl, rfl, by omega, World.ownsRow_nil _ _ _ _, by rw [allJ_zero]; exact H2.out, O1.out⟩
  case round =>
    obtain ⟨j, v6, rfl, rfl, hj, ho, hI, hoff⟩ := hrel
    have HO := Lib.hid ho
    have HI := Lib.hid hI
    have HOFF := Lib.hid hoff
    have c1 := hI.c1
    simp only [allJ_len] at c1
    by_cases hlt : j < b.all.length
    · obtain ⟨y, hy⟩ : ∃ y, b.all[j]? = some y := ⟨_, List.getElem?_eq_getElem hlt⟩
      have hy2 : ({ b with last := (k : Int), all := allJ b.all j } : Bks).all[j]? = some y := allJ_at hy
      have g0 := hI.e0 hy2
      have g1 := hI.e1 hy2
      have g2 := hI.e2 hy2
      have g3 := hI.e3 hy2
      have hjl : (j : Int) < (b.all.length : Int) := by omega
      have hml := marks_len b.all k j
      have f0 := hI.rf (j * 4)
      have f1 := hI.rf (j * 4 + 1)
      have f2 := hI.rf (j * 4 + 2)
      have f3 := hI.rf (j * 4 + 3)
      have hsz := hoff.size
      have hjA : j < (allJ b.all j).length := by rw [allJ_len]; exact hlt
      by_cases hfr : y.state = 3 ∨ y.state = 5
      · have hfx : freedX y = freeBlk := by unfold freedX; rw [if_pos hfr]
        have hly : freeBlk.left = y.left := by
          cases e : y.left
          · rfl
          · have := HLF.out j y hy e; omega
        have AJ := Lib.hid (show allJ b.all (j + 1) = (allJ b.all j).set j freeBlk by rw [allJ_succ hy, hfx])
        have DN := Lib.hid (show doneB freeBlk j (k : Int) = false from rfl)
        have MK := Lib.hid (show marksB b.all (k : Int) (j + 1) = marksB b.all k j by rw [marks_succ, show markAt b.all (k : Int) j = false by unfold markAt; rw [hy]; show doneB (freedX y) j k = false; rw [hfx]; rfl]; simp)
        have FI := Lib.hid (hI.setAll freeBlk hy2 hly)
        have DF := Lib.hid (rdone_calls p q t cap { b with last := (k : Int), all := (allJ b.all j).set j freeBlk } j freeBlk _ (hI.setAll freeBlk hy2 hly) (List.getElem?_set_self hjA))
        clear ho hI hoff hy hy2 hjA hfx hly
        by_cases h3 : y.state = 3
        · have n3 : (y.state == 3) = true := beq_iff_eq.2 h3
          clear hfr h3
          go_wp2_with (go_at_call 65; refine DF.out.mono ?_; rintro e w1 ⟨rfl, hb⟩; rw [DN.out]; have HB := Lib.hid hb; clear hb)
          go_roundw
          case rel =>
            have o2 : Off (fun i => i = q ∨ i = p) wr _ := (((((Off.refl (fun i => i = q ∨ i = p) wr).setCell (p := ⟨q, j * 4, none⟩) (.inl (.inl rfl)) (.int .i64 0)).setCell (p := ⟨q, j * 4 + 1, none⟩) (.inl (.inl rfl)) (.int .u64 0)).setCell (p := ⟨q, j * 4 + 2, none⟩) (.inl (.inl rfl)) (.bool false)).setCell (p := ⟨q, j * 4 + 3, none⟩) (.inl (.inl rfl)) (.int .i64 0)).trans' (Off.of_below (S := fun _ => False) HB.out) fun _ _ h => h.elim
            refine ⟨j + 1, _, rfl, by go_num, by omega, ?_, ?_, HOFF.out.trans' o2 fun _ _ h => h⟩
            · rw [MK.out]
              exact own_same HO.out fun i hi hlt => o2.block i hlt fun h => by have := LQ.out; have := LP.out; omega
            · rw [AJ.out]
              exact FI.out.below HB.out
          case measure => simp [intOf]; omega
        · have n3 : (y.state == 3) = false := beq_eq_false_iff_ne.2 h3
          have n5 : (y.state == 5) = true := beq_iff_eq.2 (hfr.resolve_left h3)
          clear hfr h3
          go_wp2_with (go_at_call 65; refine DF.out.mono ?_; rintro e w1 ⟨rfl, hb⟩; rw [DN.out]; have HB := Lib.hid hb; clear hb)
          go_roundw
          case rel =>
            have o2 : Off (fun i => i = q ∨ i = p) wr _ := (((((Off.refl (fun i => i = q ∨ i = p) wr).setCell (p := ⟨q, j * 4, none⟩) (.inl (.inl rfl)) (.int .i64 0)).setCell (p := ⟨q, j * 4 + 1, none⟩) (.inl (.inl rfl)) (.int .u64 0)).setCell (p := ⟨q, j * 4 + 2, none⟩) (.inl (.inl rfl)) (.bool false)).setCell (p := ⟨q, j * 4 + 3, none⟩) (.inl (.inl rfl)) (.int .i64 0)).trans' (Off.of_below (S := fun _ => False) HB.out) fun _ _ h => h.elim
            refine ⟨j + 1, _, rfl, by go_num, by omega, ?_, ?_, HOFF.out.trans' o2 fun _ _ h => h⟩
            · rw [MK.out]
              exact own_same HO.out fun i hi hlt => o2.block i hlt fun h => by have := LQ.out; have := LP.out; omega
            · rw [AJ.out]
              exact FI.out.below HB.out
          case measure => simp [intOf]; omega
      · have hfx : freedX y = y := by unfold freedX; rw [if_neg hfr]
        have n3 : (y.state == 3) = false := beq_eq_false_iff_ne.2 fun h => hfr (.inl h)
        have n5 : (y.state == 5) = false := beq_eq_false_iff_ne.2 fun h => hfr (.inr h)
        have AJ := Lib.hid (show allJ b.all (j + 1) = allJ b.all j by
          rw [allJ_succ hy, hfx]
          apply List.ext_getElem?
          intro i
          by_cases e : j = i
          · subst e; rw [List.getElem?_set_self hjA]; exact (allJ_at hy).symm
          · rw [List.getElem?_set_ne e])
        have DF := Lib.hid (rdone_calls p q t cap { b with last := (k : Int), all := allJ b.all j } j y _ hI hy2)
        have hma : markAt b.all (k : Int) j = doneB y j k := by unfold markAt; rw [hy]; show doneB (freedX y) j k = _; rw [hfx]
        cases hd : doneB y j (k : Int)
        · have MK := Lib.hid (show marksB b.all (k : Int) (j + 1) = marksB b.all k j by rw [marks_succ, hma, hd]; simp)
          have DN := Lib.hid hd
          clear ho hI hoff hy hy2 hjA hfx hfr hma hd
          go_wp2_with (go_at_call 65; refine DF.out.mono ?_; rintro e w1 ⟨rfl, hb⟩; rw [DN.out]; have HB := Lib.hid hb; clear hb)
          go_roundw
          case rel =>
            have o2 : Off (fun i => i = q ∨ i = p) wr _ := (Off.of_below (S := fun i => i = q ∨ i = p) HB.out)
            refine ⟨j + 1, _, rfl, by go_num, by omega, ?_, ?_, HOFF.out.trans' o2 fun _ _ h => h⟩
            · rw [MK.out]
              exact own_same HO.out fun i hi hlt => o2.block i hlt fun h => by have := LQ.out; have := LP.out; omega
            · rw [AJ.out]
              exact HI.out.below HB.out
          case measure => simp [intOf]; omega
        · have MK := Lib.hid (show marksB b.all (k : Int) (j + 1) = marksB b.all k j ++ [j] by rw [marks_succ, hma, hd]; rfl)
          have DN := Lib.hid hd
          clear ho hI hoff hy hy2 hjA hfx hfr hma hd
          go_wp2_with (first
            | (go_at_call 65; refine DF.out.mono ?_; rintro e w1 ⟨rfl, hb⟩; rw [DN.out]; have hsz1 := hb.size; have HO1 := Lib.hid (own_same HO.out fun i hi hlt => (hb.block i hlt)); have HB := Lib.hid hb; clear hb)
            | (at_builtin; refine wpList_append_own _ rfl _ _ 45 rfl w.heap.size 3 i0 (.int .i64 0) 1 8 Try.underlying45 hi hz0 hz1 hz2 rfl (by decide) v6 _ _ (by rfl) (HO1.out.alloc _) ⟨w1.heap.size, 0, none⟩ 1 1 [.int .i64 (j : Int)] rfl rfl (World.news_of_block (heap_alloc_new _ _)) (by simp [Value.oneCell']) (by unfold maxLen; omega) (by omega) (by have := HOFF.out.size; rw [World.size_alloc] at *; omega) ?_; intro v' w2 hown' hgrow _; have HO' := Lib.hid hown'; have HG := Lib.hid hgrow; clear hown' hgrow))
          go_roundw
          case rel =>
            have hv6 : ∀ i, v6.ownBlock = some i → w.heap.size ≤ i := fun i e => (HO.out.lt i e).1
            have o2 : Off (fun i => i = q ∨ i = p) wr w1 := (Off.of_below (S := fun i => i = q ∨ i = p) HB.out)
            have o3 := (HOFF.out.trans' o2 fun _ _ h => h).alloc (.cells #[.int .i64 (j : Int)] 3)
            refine ⟨j + 1, _, rfl, by go_num, by omega, ?_, ?_, o3.grown HG.out fun i e => .inr (hv6 i e)⟩
            · rw [MK.out, List.length_append, show encN (marksB b.all (k : Int) j ++ [j]) = encN (marksB b.all (k : Int) j) ++ [.int .i64 (j : Int)] by unfold encN; rw [List.map_append]; rfl]
              exact HO'.out
            · rw [AJ.out]
              have h1 := (HI.out.below HB.out).alloc (.cells #[.int .i64 (j : Int)] 3)
              refine h1.off ((Off.refl (fun i => v6.ownBlock = some i) _).grown HG.out fun i e => .inl e) (fun e => ?_) (fun e => ?_) fun e => ?_
              · have := hv6 _ e; have := LP.out; omega
              · have := hv6 _ e; have := LQ.out; omega
              · have := hv6 _ e; have := LT.out; omega
          case measure => simp [intOf]; omega
    · obtain rfl : j = b.all.length := by omega
      clear ho hI hoff
      go_wp2
      go_ret2
      exact ⟨_, rfl, HO.out, HI.out, HOFF.out⟩
end Go.Proofs.Ytmohijpkhmeibaa
