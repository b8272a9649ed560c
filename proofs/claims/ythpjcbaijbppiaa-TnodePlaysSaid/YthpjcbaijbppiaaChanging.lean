/- changing: goes through all things while others are put and dropped. -/
import Derived.Test.YthpjcbaijbppiaaChg
namespace Go.Proofs.Ythpjcbaijbppiaa
open Go.RowKit Go.Proofs
set_option linter.unusedVariables false
set_option linter.unusedSimpArgs false
set_option maxRecDepth 100000
attribute [local go_sem] Oper.semAt_some
set_option maxHeartbeats 1600000 in
theorem changing_calls (w0 w : World) (S0 : Nat → Prop) (p r : Nat) (l : List (Nat × Int)) (h : Duo w0 w S0 p r l l) (kd ko vo : Int) :
    Calls Try.prog 38 #[.pointer (some ⟨p, 0, none⟩), .pointer (some ⟨r, 0, none⟩), .agg #[.int .i64 kd, .int .i64 ko, .int .i64 vo]] w (DuoEnd w0 S0 p r) := by
  obtain ⟨A, cap, c0, hcap, hrow, hown⟩ := h.row
  have H := Lib.hid h
  have HR := Lib.hid hrow
  have HO := Lib.hid hown
  have hlen := h.lenT
  clear h hrow hown
  have q0 : ∀ a b c d : Obj, ((((w.alloc a).alloc b).alloc c).alloc d).cell? ⟨r, 0, none⟩ = some (.slice A l.length cap) := fun a b c d => by
    have hlt : r < w.heap.size := World.block_lt_of_cell? w _ c0
    have B : Below w.heap.size w ((((w.alloc a).alloc b).alloc c).alloc d) := ((((Below.refl _ w).alloc (Nat.le_refl _) _).alloc (by simp) _).alloc (by simp; omega) _).alloc (by simp; omega) _
    exact (B.cell (p := ⟨r, 0, none⟩) hlt).trans c0
  refine (callsIn_wide (n := 6)).1 ?_
  refine callsIn_of_wp_marks Try.func38 rfl trivial ?_ rfl
  simp only [Try.ntmps38, List.size_toArray, List.length_cons, List.length_nil, Nat.reduceAdd, Nat.reduceSub, Array.replicate_succ, Array.replicate_zero, List.push_toArray, List.append_toArray, List.nil_append, List.cons_append]
  gi_wp2_with (refine ⟨trivial, ?_⟩; gi_at_call 39; refine (callsIn_wide.2 (all_calls p _)).mono ?_; rintro e w' ⟨rfl, rfl⟩)
  obtain ⟨WL, hWL⟩ : ∃ WL, WL = (((((((w.alloc (.cells #[.pointer (some ⟨p, 0, none⟩)] 23)).alloc (.cells #[.pointer (some ⟨r, 0, none⟩)] 25)).alloc (.cells #[.int .i64 kd, .int .i64 ko, .int .i64 vo] 31)).alloc (.cells #[.bool false] 4)).alloc (.cells #[.slice A l.length cap] 26)).alloc (.cells #[.int .i64 0] 3)).alloc (.cells #[.pointer (some ⟨p, 0, none⟩)] 23)) := ⟨_, rfl⟩
  have zL : WL.heap.size = w.heap.size + 7 := by rw [hWL]; simp
  have bL : Below w.heap.size w WL := by rw [hWL]; exact (((((((Below.refl _ w).alloc (Nat.le_refl _) _).alloc (by simp) _).alloc (by simp; omega) _).alloc (by simp; omega) _).alloc (by simp; omega) _).alloc (by simp; omega) _).alloc (by simp; omega) _
  have an : ∀ (W : World) (o : Obj) (k : Nat), k = W.heap.size → (W.alloc o).heap[k]? = some o := fun W o k h => by subst h; exact heap_alloc_new _ _
  have k0 : WL.heap[w.heap.size]? = some (.cells #[.pointer (some ⟨p, 0, none⟩)] 23 (0, 0)) := by rw [hWL]; exact heap_alloc_old (heap_alloc_old (heap_alloc_old (heap_alloc_old (heap_alloc_old (heap_alloc_old (an _ _ _ rfl) _) _) _) _) _) _
  have k1 : WL.heap[w.heap.size + 1]? = some (.cells #[.pointer (some ⟨r, 0, none⟩)] 25 (0, 0)) := by rw [hWL]; exact heap_alloc_old (heap_alloc_old (heap_alloc_old (heap_alloc_old (heap_alloc_old (an _ _ _ (by simp)) _) _) _) _) _
  have k2 : WL.heap[w.heap.size + 1 + 1]? = some (.cells #[.int .i64 kd, .int .i64 ko, .int .i64 vo] 31 (0, 0)) := by rw [hWL]; exact heap_alloc_old (heap_alloc_old (heap_alloc_old (heap_alloc_old (an _ _ _ (by simp)) _) _) _) _
  have k3 : WL.heap[w.heap.size + 1 + 1 + 1]? = some (.cells #[.bool false] 4 (0, 0)) := by rw [hWL]; exact heap_alloc_old (heap_alloc_old (heap_alloc_old (an _ _ _ (by simp)) _) _) _
  have k4 : WL.heap[w.heap.size + 1 + 1 + 1 + 1]? = some (.cells #[.slice A l.length cap] 26 (0, 0)) := by rw [hWL]; exact heap_alloc_old (heap_alloc_old (an _ _ _ (by simp)) _) _
  have k5 : WL.heap[w.heap.size + 1 + 1 + 1 + 1 + 1]? = some (.cells #[.int .i64 0] 3 (0, 0)) := by rw [hWL]; exact heap_alloc_old (an _ _ _ (by simp)) _
  have k6 : WL.heap[w.heap.size + 1 + 1 + 1 + 1 + 1 + 1]? = some (.cells #[.pointer (some ⟨p, 0, none⟩)] 23 (0, 0)) := by rw [hWL]; exact an _ _ _ (by simp)
  rw [← hWL]
  clear hWL q0
  have hJ0 : CJ w0 S0 w.heap.size p r kd ko vo l (.slice A l.length cap) [] WL := by
    obtain ⟨⟨fp, u, h1, h2, h3⟩, hg, ho⟩ := H.out
    refine ⟨List.nil_prefix, ⟨k0, k1, k2, k3, k4⟩, k5, HR.out.below bL, (PairBlock.of_own HO.out).kt (KT.below bL), ⟨l, fp, u, h1.below bL, h2.below bL, hg, fun e => ?_, h3, .inl ⟨rfl, rfl⟩⟩, ho.trans' (Off.of_below (S := fun _ => False) bL) fun _ _ h => h.elim, ho.size⟩
    have := h1.lt e
    omega
  have hStops : SeqStopsK Fence.wide 5 Try.prog 52 #[.pointer (some ⟨w.heap.size + 1 + 1 + 1 + 1 + 1 + 1, 0, none⟩)] encX KpE (fun xs => xs = l) (fun pre => pre <+: l) l.length WL := by
    obtain ⟨⟨fp, u, h1, h2, h3⟩, hg, ho⟩ := H.out
    obtain ⟨n, s, hT, hl, hf⟩ := h1.below bL
    exact all_stops s p n 5 WL _ l hl k6 hT
  clear k0 k1 k2 k3 k4 k5 k6 an
  refine wpIn_rangeFunc_ownG (α := Nat × Int) rfl (by decide) (gf := 52) (lb := #[.pointer (some ⟨w.heap.size + 1 + 1 + 1 + 1 + 1 + 1, 0, none⟩)]) rfl trivial (enters_of Try.func52 (by kernel_rfl) rfl)
    hStops (fun h k => h.trans k) (fun W l o o' _ h ho _ => KpE.put W l o o' h ho) (Below.refl _ _) (fun _ => rfl)
    (CJ w0 S0 w.heap.size p r kd ko vo l (.slice A l.length cap)) (fun c pre W => ¬ pre <+: l)
    (cj_own _ (by omega)) (fun c s A B row hs hg hr => hs) hJ0
    (fun x => { tmps := #[.pointer (some ⟨p, 0, none⟩), .pointer (some ⟨r, 0, none⟩), .agg #[.int .i64 kd, .int .i64 ko, .int .i64 vo], .pointer (some ⟨w.heap.size, 0, none⟩), .pointer (some ⟨w.heap.size + 1, 0, none⟩), .pointer (some ⟨w.heap.size + 1 + 1, 0, none⟩), .pointer (some ⟨w.heap.size + 1 + 1 + 1, 0, none⟩), .pointer (some ⟨w.heap.size + 1 + 1 + 1 + 1, 0, none⟩), .pointer (some ⟨w.heap.size + 1 + 1 + 1 + 1 + 1, 0, none⟩), .int .i64 (x.1 : Int), .int .i64 x.2, .pointer (some ⟨r, 0, none⟩), .pointer (some ⟨r, 0, none⟩), .pointer (some ⟨r, 0, none⟩), .slice A l.length cap, .pointer (some ⟨p, 0, none⟩), .func (.func 52) #[] #[.pointer (some ⟨w.heap.size + 1 + 1 + 1 + 1 + 1 + 1, 0, none⟩)], .int .i64 (x.1 : Int), .int .i64 x.2, undef, undef, undef, undef, undef, undef, undef, undef, undef, undef, undef, undef, undef, undef, undef, undef, undef, undef, undef, undef, undef, undef, undef, undef, undef, undef, undef, undef, undef, undef, undef, undef, undef, undef, undef, undef, undef, undef, undef, undef, undef, undef, undef, undef, undef, undef, undef, undef, undef], defers := [] }) ?assign ?body ?done ?stop
  case assign =>
    intro l x W K hK
    dsimp only [encX]
    gi_wp2
    exact hK
  case stop =>
    rintro D c pre W hD hpre hn hK
    exact absurd hpre hn
  case done =>
    rintro D xs W hD rfl hJ hK
    have hc := cell_of hJ.c5 (o := 0) rfl
    have hc4 := cell_of hJ.st.c4 (o := 0) rfl
    have hc3 := cell_of hJ.st.c3 (o := 0) rfl
    have hf3 : W.frozen? ⟨w.heap.size + 1 + 1 + 1, 0, none⟩ = false := free_of hJ.st.c3
    have b1 : ((xs.length : Int) == (xs.length : Int)) = true := beq_self_eq_true _
    have HJ := Lib.hid hJ
    clear hJ hJ0 hStops
    gi_wp2
    have hne : D ≠ w.heap.size + 1 + 1 + 1 := by omega
    have hK' : (W.setCell ⟨w.heap.size + 1 + 1 + 1, 0, none⟩ (.bool true)).heap[D]? = some (.deferred (some [])) := (heap_set_ne _ hne).trans hK
    refine ⟨by simp, .inl ⟨_, _, rfl, run_takeDeferred hK', ?_⟩⟩
    have h3 := heap_set_same HJ.out.st.c3 (o := 0) (.bool true)
    have hoff : Off (fun b => b = w.heap.size + 1 + 1 + 1 ∨ b = D) W ((W.setCell ⟨w.heap.size + 1 + 1 + 1, 0, none⟩ (.bool true)).putObj D (.deferred none)) :=
      ((Off.refl (fun b => b = w.heap.size + 1 + 1 + 1 ∨ b = D) W).setCell (p := ⟨w.heap.size + 1 + 1 + 1, 0, none⟩) (.inl (.inl rfl)) _).grown (grownBy_putObj' _ _ _) fun k e => by cases e; exact .inl (.inr rfl)
    obtain ⟨lc, hD2⟩ := cj_done HJ.out (by omega) hK rfl hoff
    refine ⟨_, results_cell1 rfl rfl ?_, rfl, lc, hD2⟩
    have hce : ((W.setCell ⟨w.heap.size + 1 + 1 + 1, 0, none⟩ (.bool true)).putObj D (.deferred none)).cell? ⟨w.heap.size + 1 + 1 + 1, 0, none⟩ = some (.bool true) :=
      cell_of ((World.putObj_heap_other (fun e => hne e.symm)).trans h3) rfl
    simp [loadVar, go_sem, hce]
  case body =>
    rintro lb pre x W hJ hpl
    have pf := hJ.pf
    have y3 := hJ.st.c3
    have y4 := cell_of hJ.st.c4 (o := 0) rfl
    have y5 := cell_of hJ.c5 (o := 0) rfl
    have f3 : W.frozen? ⟨w.heap.size + 1 + 1 + 1, 0, none⟩ = false := free_of y3
    have f5 : W.frozen? ⟨w.heap.size + 1 + 1 + 1 + 1 + 1, 0, none⟩ = false := free_of hJ.c5
    replace y3 := cell_of y3 (o := 0) rfl
    obtain ⟨y, hy⟩ : ∃ y, l[pre.length]? = some y := ⟨_, List.getElem?_eq_getElem hpl⟩
    obtain ⟨g, rfl, e1, e2⟩ : ∃ g, A = some ⟨g, 0, none⟩ ∧ W.cell? ⟨g, pre.length * 2, none⟩ = some (.int .i64 (y.1 : Int)) ∧ W.cell? ⟨g, pre.length * 2 + 1, none⟩ = some (.int .i64 y.2) := by
      rcases hJ.row with ⟨c, e, rfl⟩ | ⟨g, c, e, h⟩
      · cases hy
      · injection e with e1
        exact ⟨g, e1, h _ y hy⟩
    have hil : (pre.length : Int) < (l.length : Int) := by omega
    have hKO := KeepsOthers.setCell W ⟨w.heap.size + 1 + 1 + 1, 0, none⟩ (.bool false)
    by_cases hx1 : y.1 = x.1
    · by_cases hx2 : y.2 = x.2
      · obtain rfl : y = x := Prod.ext hx1 hx2
        have hx : pre ++ [y] <+: l := by
          obtain ⟨t, rfl⟩ := pf
          rw [List.getElem?_append_right (Nat.le_refl _), Nat.sub_self] at hy
          cases t with
          | nil => cases hy
          | cons z t =>
            rw [List.getElem?_cons_zero] at hy
            cases hy
            exact ⟨t, by rw [List.append_assoc]; rfl⟩
        have n1 : ((y.1 : Int) != (y.1 : Int)) = false := by rw [bne, beq_self_eq_true]; rfl
        have n2 : (y.2 != y.2) = false := by rw [bne, beq_self_eq_true]; rfl
        obtain ⟨lc, S, hK0, hStill, hEnd⟩ := cj_round hJ hx
        have KS := Lib.hid hStill
        have KE := Lib.hid hEnd
        have D0 := Lib.hid hK0.drew
        have HS0 := Lib.hid (hStill _ (Off.refl _ _)).cells
        have b1 : ((valAt lc (y.1 : Int)).isSome != (valAt lc (y.1 : Int)).isSome) = false := by rw [bne, beq_self_eq_true]; rfl
        have b2 : (putR ko != putR ko) = false := by rw [bne, beq_self_eq_true]; rfl
        generalize hR1 : (valAt lc (y.1 : Int)).isSome = R1 at b1
        generalize hR2 : putR ko = R2 at b2
        have HRR := Lib.hid (And.intro hR1 hR2)
        clear hJ hJ0 hStops pf hy hx1 hx2 hx hK0 hStill hEnd hKO H HR HO c0 hR1 hR2
        gi_wp2
        refine region_round (S := (fun V => V.cell? ⟨w.heap.size, 0, none⟩ = some (.pointer (some ⟨p, 0, none⟩)) ∧ V.cell? ⟨w.heap.size + 1, 0, none⟩ = some (.pointer (some ⟨r, 0, none⟩)) ∧ V.cell? ⟨w.heap.size + 1 + 1, 1, none⟩ = some (.int .i64 ko) ∧ V.cell? ⟨w.heap.size + 1 + 1, 2, none⟩ = some (.int .i64 vo))) (by kernel_rfl) (by kernel_rfl) (fun ⟨_, _, h⟩ => h) ?_ (fun hHeld => ?_)
        · exact HS0.out
        refine wpAnyH_take (i := 0) (v := .pointer (some ⟨r, 0, none⟩)) rfl (by kernel_rfl) (by kernel_rfl) (by kernel_rfl) (fun _ _ _ h => h) (Or.inl ⟨by rfl, ?_⟩) (by assumption) ?_
        · intro V hV
          obtain ⟨s0, s1, s2, s3⟩ := hV
          go_simp
        try simp only [List.getElem_toArray, List.getElem_cons_succ, List.getElem_cons_zero, Act.put, List.setIfInBounds_toArray, List.set_cons_zero, List.set_cons_succ]
        refine wpAnyH_take (i := 1) (v := .int .i64 (y.1 : Int)) rfl (by kernel_rfl) (by kernel_rfl) (by kernel_rfl) (fun _ _ _ h => h) (Or.inl ⟨by rfl, ?_⟩) (by assumption) ?_
        · intro V hV
          obtain ⟨s0, s1, s2, s3⟩ := hV
          go_simp
        try simp only [List.getElem_toArray, List.getElem_cons_succ, List.getElem_cons_zero, Act.put, List.setIfInBounds_toArray, List.set_cons_zero, List.set_cons_succ]
        refine wpAnyH_take (i := 3) (v := .pointer (some ⟨p, 0, none⟩)) rfl (by kernel_rfl) (by kernel_rfl) (by kernel_rfl) (fun _ _ _ h => h) (Or.inl ⟨by rfl, ?_⟩) (by assumption) ?_
        · intro V hV
          obtain ⟨s0, s1, s2, s3⟩ := hV
          go_simp
        try simp only [List.getElem_toArray, List.getElem_cons_succ, List.getElem_cons_zero, Act.put, List.setIfInBounds_toArray, List.set_cons_zero, List.set_cons_succ]
        refine wpAnyH_take (i := 4) (v := .int .i64 (y.1 : Int)) rfl (by kernel_rfl) (by kernel_rfl) (by kernel_rfl) (fun _ _ _ h => h) (Or.inl ⟨by rfl, ?_⟩) (by assumption) ?_
        · intro V hV
          obtain ⟨s0, s1, s2, s3⟩ := hV
          go_simp
        try simp only [List.getElem_toArray, List.getElem_cons_succ, List.getElem_cons_zero, Act.put, List.setIfInBounds_toArray, List.set_cons_zero, List.set_cons_succ]
        refine wpAnyH_ready (rs := [2]) (by kernel_rfl) (by simp) ?_
        refine AllReadyH.cons rfl (fun K hK => ?_) AllReadyH.nil
        go_simp
        refine (D0.out.rdrop).mono ?_
        rintro e w1 ⟨rfl, h1⟩
        rw [HRR.out.1]
        have HC := Lib.hid h1
        clear h1
        go_wp2_with fail
        refine hK.out _ _ ?_ (fun hHeld => ?_)
        · exact (KS.out _ HC.out.off).cells
        clear hK K
        try simp only [List.getElem_toArray, List.getElem_cons_succ, List.getElem_cons_zero, Act.put, List.setIfInBounds_toArray, List.set_cons_zero, List.set_cons_succ]
        refine wpAnyH_ready (rs := [5]) (by kernel_rfl) (by simp) ?_
        refine AllReadyH.cons rfl (fun K hK => ?_) AllReadyH.nil
        go_simp
        refine (HC.out.tdrop (y.1 : Int)).mono ?_
        rintro e w2 ⟨rfl, h2⟩
        rw [HRR.out.1]
        have HC2 := Lib.hid h2
        clear h2
        go_wp2_with fail
        refine hK.out _ _ ?_ (fun hHeld => ?_)
        · exact (KS.out _ HC2.out.off).cells
        clear hK K
        try simp only [List.getElem_toArray, List.getElem_cons_succ, List.getElem_cons_zero, Act.put, List.setIfInBounds_toArray, List.set_cons_zero, List.set_cons_succ]
        refine wpAnyH_take (i := 6) (v := .bool false) rfl (by kernel_rfl) (by kernel_rfl) (by kernel_rfl) (fun _ _ _ h => h) (Or.inl ⟨by rfl, ?_⟩) (by assumption) ?_
        · intro V hV
          obtain ⟨s0, s1, s2, s3⟩ := hV
          go_simp
        try simp only [List.getElem_toArray, List.getElem_cons_succ, List.getElem_cons_zero, Act.put, List.setIfInBounds_toArray, List.set_cons_zero, List.set_cons_succ]
        refine wpAnyH_done (by kernel_rfl) ?_ _
        clear hHeld HC
        gi_wp2
        have HC3 := Lib.hid HC2.out.drew
        clear HC2
        refine region_round (S := (fun V => V.cell? ⟨w.heap.size, 0, none⟩ = some (.pointer (some ⟨p, 0, none⟩)) ∧ V.cell? ⟨w.heap.size + 1, 0, none⟩ = some (.pointer (some ⟨r, 0, none⟩)) ∧ V.cell? ⟨w.heap.size + 1 + 1, 1, none⟩ = some (.int .i64 ko) ∧ V.cell? ⟨w.heap.size + 1 + 1, 2, none⟩ = some (.int .i64 vo))) (by kernel_rfl) (by kernel_rfl) (fun ⟨_, _, h⟩ => h) ?_ (fun hHeld => ?_)
        · exact (KS.out _ HC3.out.off).cells
        refine wpAnyH_take (i := 0) (v := .pointer (some ⟨p, 0, none⟩)) rfl (by kernel_rfl) (by kernel_rfl) (by kernel_rfl) (fun _ _ _ h => h) (Or.inl ⟨by rfl, ?_⟩) (by assumption) ?_
        · intro V hV
          obtain ⟨s0, s1, s2, s3⟩ := hV
          go_simp
        try simp only [List.getElem_toArray, List.getElem_cons_succ, List.getElem_cons_zero, Act.put, List.setIfInBounds_toArray, List.set_cons_zero, List.set_cons_succ]
        refine wpAnyH_take (i := 1) (v := .pointer (some ⟨w.heap.size + 1 + 1, 1, none⟩)) rfl (by kernel_rfl) (by kernel_rfl) (by kernel_rfl) (fun _ _ _ h => h) (Or.inl ⟨by rfl, ?_⟩) (by assumption) ?_
        · intro V hV
          obtain ⟨s0, s1, s2, s3⟩ := hV
          go_simp
        try simp only [List.getElem_toArray, List.getElem_cons_succ, List.getElem_cons_zero, Act.put, List.setIfInBounds_toArray, List.set_cons_zero, List.set_cons_succ]
        refine wpAnyH_take (i := 2) (v := .int .i64 ko) rfl (by kernel_rfl) (by kernel_rfl) (by kernel_rfl) (fun _ _ _ h => h) (Or.inl ⟨by rfl, ?_⟩) (by assumption) ?_
        · intro V hV
          obtain ⟨s0, s1, s2, s3⟩ := hV
          go_simp
        try simp only [List.getElem_toArray, List.getElem_cons_succ, List.getElem_cons_zero, Act.put, List.setIfInBounds_toArray, List.set_cons_zero, List.set_cons_succ]
        refine wpAnyH_take (i := 3) (v := .pointer (some ⟨w.heap.size + 1 + 1, 2, none⟩)) rfl (by kernel_rfl) (by kernel_rfl) (by kernel_rfl) (fun _ _ _ h => h) (Or.inl ⟨by rfl, ?_⟩) (by assumption) ?_
        · intro V hV
          obtain ⟨s0, s1, s2, s3⟩ := hV
          go_simp
        try simp only [List.getElem_toArray, List.getElem_cons_succ, List.getElem_cons_zero, Act.put, List.setIfInBounds_toArray, List.set_cons_zero, List.set_cons_succ]
        refine wpAnyH_take (i := 4) (v := .int .i64 vo) rfl (by kernel_rfl) (by kernel_rfl) (by kernel_rfl) (fun _ _ _ h => h) (Or.inl ⟨by rfl, ?_⟩) (by assumption) ?_
        · intro V hV
          obtain ⟨s0, s1, s2, s3⟩ := hV
          go_simp
        try simp only [List.getElem_toArray, List.getElem_cons_succ, List.getElem_cons_zero, Act.put, List.setIfInBounds_toArray, List.set_cons_zero, List.set_cons_succ]
        refine wpAnyH_take (i := 7) (v := .pointer (some ⟨r, 0, none⟩)) rfl (by kernel_rfl) (by kernel_rfl) (by kernel_rfl) (fun _ _ _ h => h) (Or.inl ⟨by rfl, ?_⟩) (by assumption) ?_
        · intro V hV
          obtain ⟨s0, s1, s2, s3⟩ := hV
          go_simp
        try simp only [List.getElem_toArray, List.getElem_cons_succ, List.getElem_cons_zero, Act.put, List.setIfInBounds_toArray, List.set_cons_zero, List.set_cons_succ]
        refine wpAnyH_take (i := 8) (v := .pointer (some ⟨w.heap.size + 1 + 1, 1, none⟩)) rfl (by kernel_rfl) (by kernel_rfl) (by kernel_rfl) (fun _ _ _ h => h) (Or.inl ⟨by rfl, ?_⟩) (by assumption) ?_
        · intro V hV
          obtain ⟨s0, s1, s2, s3⟩ := hV
          go_simp
        try simp only [List.getElem_toArray, List.getElem_cons_succ, List.getElem_cons_zero, Act.put, List.setIfInBounds_toArray, List.set_cons_zero, List.set_cons_succ]
        refine wpAnyH_take (i := 9) (v := .int .i64 ko) rfl (by kernel_rfl) (by kernel_rfl) (by kernel_rfl) (fun _ _ _ h => h) (Or.inl ⟨by rfl, ?_⟩) (by assumption) ?_
        · intro V hV
          obtain ⟨s0, s1, s2, s3⟩ := hV
          go_simp
        try simp only [List.getElem_toArray, List.getElem_cons_succ, List.getElem_cons_zero, Act.put, List.setIfInBounds_toArray, List.set_cons_zero, List.set_cons_succ]
        refine wpAnyH_take (i := 10) (v := .pointer (some ⟨w.heap.size + 1 + 1, 2, none⟩)) rfl (by kernel_rfl) (by kernel_rfl) (by kernel_rfl) (fun _ _ _ h => h) (Or.inl ⟨by rfl, ?_⟩) (by assumption) ?_
        · intro V hV
          obtain ⟨s0, s1, s2, s3⟩ := hV
          go_simp
        try simp only [List.getElem_toArray, List.getElem_cons_succ, List.getElem_cons_zero, Act.put, List.setIfInBounds_toArray, List.set_cons_zero, List.set_cons_succ]
        refine wpAnyH_take (i := 11) (v := .int .i64 vo) rfl (by kernel_rfl) (by kernel_rfl) (by kernel_rfl) (fun _ _ _ h => h) (Or.inl ⟨by rfl, ?_⟩) (by assumption) ?_
        · intro V hV
          obtain ⟨s0, s1, s2, s3⟩ := hV
          go_simp
        try simp only [List.getElem_toArray, List.getElem_cons_succ, List.getElem_cons_zero, Act.put, List.setIfInBounds_toArray, List.set_cons_zero, List.set_cons_succ]
        refine wpAnyH_ready (rs := [5]) (by kernel_rfl) (by simp) ?_
        refine AllReadyH.cons rfl (fun K hK => ?_) AllReadyH.nil
        go_simp
        refine (HC3.out.tput ko vo).mono ?_
        rintro e w3 ⟨rfl, h3⟩
        rw [HRR.out.2]
        have HC4 := Lib.hid h3
        clear h3
        go_wp2_with fail
        refine hK.out _ _ ?_ (fun hHeld => ?_)
        · exact (KS.out _ HC4.out.off).cells
        clear hK K
        try simp only [List.getElem_toArray, List.getElem_cons_succ, List.getElem_cons_zero, Act.put, List.setIfInBounds_toArray, List.set_cons_zero, List.set_cons_succ]
        refine wpAnyH_ready (rs := [6]) (by kernel_rfl) (by simp) ?_
        refine AllReadyH.cons rfl (fun K hK => ?_) AllReadyH.nil
        go_simp
        refine (no_calls _ _).mono ?_
        rintro e w4 ⟨rfl, rfl⟩
        go_wp2_with fail
        refine hK.out _ _ ?_ (fun hHeld => ?_)
        · exact (KS.out _ HC4.out.off).cells
        clear hK K
        try simp only [List.getElem_toArray, List.getElem_cons_succ, List.getElem_cons_zero, Act.put, List.setIfInBounds_toArray, List.set_cons_zero, List.set_cons_succ]
        refine wpAnyH_ready (rs := [12]) (by kernel_rfl) (by simp) ?_
        refine AllReadyH.cons rfl (fun K hK => ?_) AllReadyH.nil
        go_simp
        refine (HC4.out.rput ko vo).mono ?_
        rintro e w4 ⟨rfl, h4⟩
        rw [HRR.out.2]
        have HC5 := Lib.hid h4
        clear h4
        go_wp2_with fail
        refine hK.out _ _ ?_ (fun hHeld => ?_)
        · exact (KS.out _ HC5.out.off).cells
        clear hK K
        try simp only [List.getElem_toArray, List.getElem_cons_succ, List.getElem_cons_zero, Act.put, List.setIfInBounds_toArray, List.set_cons_zero, List.set_cons_succ]
        refine wpAnyH_take (i := 13) (v := .bool false) rfl (by kernel_rfl) (by kernel_rfl) (by kernel_rfl) (fun _ _ _ h => h) (Or.inl ⟨by rfl, ?_⟩) (by assumption) ?_
        · intro V hV
          obtain ⟨s0, s1, s2, s3⟩ := hV
          go_simp
        try simp only [List.getElem_toArray, List.getElem_cons_succ, List.getElem_cons_zero, Act.put, List.setIfInBounds_toArray, List.set_cons_zero, List.set_cons_succ]
        refine wpAnyH_done (by kernel_rfl) ?_ _
        clear hHeld HC3 HC4
        gi_wp2
        obtain ⟨z1, z2, z3⟩ := KE.out _ _ HC5.out
        exact ⟨z1.from _, z2, z3⟩
      · have n1 : ((y.1 : Int) != (x.1 : Int)) = false := by rw [hx1, bne, beq_self_eq_true]; rfl
        have n2 : (y.2 != x.2) = true := by rw [bne_iff_ne]; exact hx2
        have hx : ¬ pre ++ [x] <+: l := fun h => by
          obtain ⟨t, ht⟩ := h
          rw [← ht, List.append_assoc, List.getElem?_append_right (Nat.le_refl _), Nat.sub_self] at hy
          cases hy
          exact hx2 rfl
        have HX := Lib.hid hx
        have HK := Lib.hid hKO
        clear hJ hJ0 hStops pf hy hx hKO
        gi_wp2
        exact ⟨HK.out.from _, HX.out⟩
    · have n1 : ((y.1 : Int) != (x.1 : Int)) = true := by rw [bne_iff_ne]; omega
      have hx : ¬ pre ++ [x] <+: l := fun h => by
        obtain ⟨t, ht⟩ := h
        rw [← ht, List.append_assoc, List.getElem?_append_right (Nat.le_refl _), Nat.sub_self] at hy
        cases hy
        exact hx1 rfl
      have HX := Lib.hid hx
      have HK := Lib.hid hKO
      clear hJ hJ0 hStops pf hy hx hKO
      gi_wp2
      exact ⟨HK.out.from _, HX.out⟩
end Go.Proofs.Ythpjcbaijbppiaa
