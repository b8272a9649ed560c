/- pairs: all things of a tree, or the first so many. -/
import Derived.Test.YthpjcbaijbppiaaAll
import Derived.Maps.OwnIn
import Derived.RangeFuncBox
namespace Go.Proofs.Ythpjcbaijbppiaa
open Go.RowKit Go.Proofs
set_option linter.unusedVariables false
set_option linter.unusedSimpArgs false
set_option maxRecDepth 100000
attribute [local go_sem] Oper.semAt_some
theorem info45 : (Try.prog.info? 45).map (fun i => (i.zero, i.size, i.bytes)) = some (some (.agg #[.int .i64 0, .int .i64 0]), 2, 16) := by kernel_rfl
def firstN (l : List (Nat × Int)) (stop : Int) : List (Nat × Int) := if stop < 0 then l else l.take stop.toNat
def PairsEnd (l : List (Nat × Int)) (stop : Int) (w : World) (e : Ending) (w' : World) : Prop :=
  ∃ v', e = .returned v' ∧ w'.ownsRow w.heap.size 45 2 v' (firstN l stop).length (encP (firstN l stop)) ∧ Below w.heap.size w w'
theorem own_down {w : World} {B B' e size n : Nat} {v : Value} {xs : List Value} (h : w.ownsRow B' e size v n xs) (hB : B ≤ B') : w.ownsRow B e size v n xs :=
  ⟨h.1, h.2.imp id fun ⟨g, cap, cur, hv, hg, hb, ht, hs⟩ => ⟨g, cap, cur, hv, Nat.le_trans hB hg, hb, ht, hs⟩⟩
/-- Where pairs stands between two rounds. -/
def PairI (w : World) (stop : Int) (pre : List (Nat × Int)) (W : World) : Prop :=
  ∃ v, Boxed W (w.heap.size + 1 + 1) 26 v ∧ W.ownsRow (w.heap.size + 1) 45 2 v pre.length (encP pre) ∧ Boxed W w.heap.size 3 (.int .i64 stop) ∧ Below w.heap.size w W ∧ w.heap.size + 4 ≤ W.heap.size
theorem ownsRow_cells {w : World} {base e size n : Nat} {v : Value} {xs : List Value} (h : w.ownsRow base e size v n xs) {k : Nat} (hk : v.ownBlock = some k) : ∃ cells, w.heap[k]? = some (.cells cells e (0, 0)) := by
  rcases h.2 with ⟨rfl, _⟩ | ⟨g, cap, cur, rfl, _, hgb, _⟩
  · cases hk
  · cases hk; exact ⟨cur, hgb⟩
theorem pair_own (w : World) (stop : Int) : OwnFrom (w.heap.size + 4) (PairI w stop) := by
  rintro s X Y row ⟨v, hb, ho, hs, hB, h4⟩ hg hr
  refine ⟨v, hb.kept hg (fun e => by have := (hr _ e.symm).1; omega), ho.kept hg ?_, hs.kept hg (fun e => by have := (hr _ e.symm).1; omega), hB.grown hg hB.size (fun k e => by have := (hr k e).1; omega), Nat.le_trans h4 hg.size⟩
  cases hv : v.ownBlock with
  | none => exact .inl rfl
  | some k =>
    refine .inr fun e => ?_
    obtain ⟨_, o, hx, hc⟩ := hr k e.symm
    obtain ⟨cells, hcells⟩ := ownsRow_cells ho hv
    rw [hcells] at hx
    cases hx
    cases hc
theorem KpE.appended {W w1 : World} {B : Nat} {u v v' : Value} {k : Nat} {base : Nat} {xs : List Value} {tmp : Obj} (hv : Boxed w1 B 26 u) (hrow : W.ownsRow base 45 2 v k xs) (hgrow : (W.alloc tmp).grownBy w1 v.ownBlock) : KpE W (w1.setCell ⟨B, 0, none⟩ v') := by
  intro i c hi
  have hlt := lt_of_heap hi
  have h1 : w1.heap[i]? = some (.cells c 109 (0, 0)) := by
    rw [hgrow.block i (by simp; omega) (fun e => ?_)]
    · exact heap_alloc_old hi _
    · obtain ⟨cells, hc⟩ := ownsRow_cells hrow e.symm
      rw [hi] at hc
      cases hc
  rw [heap_set_ne]
  · exact h1
  · rintro rfl
    rw [show w1.heap[i]? = _ from hv] at h1
    cases h1
theorem pair_step {w W w1 : World} {stop : Int} {pre : List (Nat × Int)} {x : Nat × Int} {v v' : Value} {tmp : Obj} (hb : Boxed W (w.heap.size + 1 + 1) 26 v) (ho : W.ownsRow (w.heap.size + 1) 45 2 v pre.length (encP pre)) (hs : Boxed W w.heap.size 3 (.int .i64 stop)) (hB : Below w.heap.size w W) (h4 : w.heap.size + 4 ≤ W.heap.size)
    (hown' : w1.ownsRow (w.heap.size + 1) 45 2 v' (pre.length + 1) (encP pre ++ [.int .i64 (x.1 : Int), .int .i64 x.2])) (hgrow : (W.alloc tmp).grownBy w1 v.ownBlock) :
    KeepsOthers W (w1.setCell ⟨w.heap.size + 1 + 1, 0, none⟩ v') ∧ KpE W (w1.setCell ⟨w.heap.size + 1 + 1, 0, none⟩ v') ∧ PairI w stop (pre ++ [x]) (w1.setCell ⟨w.heap.size + 1 + 1, 0, none⟩ v') := by
  obtain ⟨hv1, hv2, hr2, hk2, hb2⟩ := hb.appended (by decide) ho (by omega) (by omega) hown' hgrow
  refine ⟨hk2, KpE.appended hv1 ho hgrow, v', hv2, ?_, (hb2.block _ (by omega)).trans hs, hB.trans (hb2.mono (by omega)), Nat.le_trans h4 hb2.size⟩
  rw [List.length_append, encP_append, encP_one]
  exact hr2
theorem pairs_go (s : TS Int) (p : Nat) (n0 : Int) (l : List (Nat × Int)) (hl : Lists s.val l) (w : World) (hT : Tree kInt w p n0 s) (stop : Int) (hs : stop ≠ 0) :
    Calls Try.prog 15 #[.pointer (some ⟨p, 0, none⟩), .int .i64 stop] w (PairsEnd l stop w) := by
  obtain ⟨i0, hi, hz0, hz1, hz2⟩ := info_parts info45
  have hsz : (stop == 0) = false := beq_eq_false_iff_ne.2 hs
  have HT := Lib.hid hT
  have hmk : ∀ W : World, (Instr.makeSlice 26 (.int .i64 0) (.int .i64 0)).run Try.prog W = .ok (.slice (some ⟨W.heap.size, 0, none⟩) 0 0) (W.alloc (.cells #[] 45)) := fun _ => by kernel_rfl
  clear hT
  refine (callsIn_wide (n := 6)).1 ?_
  refine callsIn_of_wp_marks Try.func15 rfl trivial ?_ rfl
  simp only [Try.ntmps15, List.size_toArray, List.length_cons, List.length_nil, Nat.reduceAdd, Nat.reduceSub, Array.replicate_succ, Array.replicate_zero, List.push_toArray, List.append_toArray, List.nil_append, List.cons_append]
  gi_wp2_with (refine ⟨trivial, ?_⟩; gi_at_call 39; refine (callsIn_wide.2 (all_calls p _)).mono ?_; rintro e w' ⟨rfl, rfl⟩)
  obtain ⟨WL, hWL⟩ : ∃ WL, WL = ((((w.alloc (.cells #[.int .i64 stop] 3)).alloc (.cells #[] 45)).alloc (.cells #[.slice (some ⟨w.heap.size + 1, 0, none⟩) 0 0] 26)).alloc (.cells #[.pointer (some ⟨p, 0, none⟩)] 23)) := ⟨_, rfl⟩
  have zL : WL.heap.size = w.heap.size + 4 := by rw [hWL]; simp
  have bL : Below w.heap.size w WL := by rw [hWL]; exact ((((Below.refl _ w).alloc (Nat.le_refl _) _).alloc (by simp) _).alloc (by simp; omega) _).alloc (by simp; omega) _
  have an : ∀ (W : World) (o : Obj) (k : Nat), k = W.heap.size → (W.alloc o).heap[k]? = some o := fun W o k h => by subst h; exact heap_alloc_new _ _
  have kS : WL.heap[w.heap.size]? = some (.cells #[.int .i64 stop] 3 (0, 0)) := by rw [hWL]; exact heap_alloc_old (heap_alloc_old (heap_alloc_old (an _ _ _ rfl) _) _) _
  have kA : WL.heap[w.heap.size + 1]? = some (.cells #[] 45 (0, 0)) := by rw [hWL]; exact heap_alloc_old (heap_alloc_old (an _ _ _ (by simp)) _) _
  have kL : WL.heap[w.heap.size + 1 + 1]? = some (.cells #[.slice (some ⟨w.heap.size + 1, 0, none⟩) 0 0] 26 (0, 0)) := by rw [hWL]; exact heap_alloc_old (an _ _ _ (by simp)) _
  have kP : WL.heap[w.heap.size + 1 + 1 + 1]? = some (.cells #[.pointer (some ⟨p, 0, none⟩)] 23 (0, 0)) := by rw [hWL]; exact an _ _ _ (by simp)
  have hTL : Tree kInt WL p n0 s := ⟨HT.out.isT.below bL, HT.out.wf, HT.out.full, HT.out.min, HT.out.cnt⟩
  have hlen : l.length ≤ 1048576 := by
    obtain ⟨l', hl', e⟩ := HT.out.cnt
    have := HT.out.cnt.le HT.out.wf
    rw [hl.uniq hl']
    omega
  rw [← hWL]
  clear hWL hmk
  refine wpIn_rangeFunc_ownG (α := Nat × Int) rfl (by decide) (gf := 52) (lb := #[.pointer (some ⟨w.heap.size + 1 + 1 + 1, 0, none⟩)]) rfl trivial (enters_of Try.func52 (by kernel_rfl) rfl)
    (all_stops s p n0 _ WL (w.heap.size + 1 + 1 + 1) l hl kP hTL) (fun h k => h.trans k) (fun W l o o' _ h ho _ => KpE.put W l o o' h ho) (Below.refl _ _) (fun _ => rfl)
    (fun pre W => PairI w stop pre W ∧ (stop < 0 ∨ (pre.length : Int) < stop)) (fun c pre W => c = .exit 0 ∧ PairI w stop pre W ∧ (pre.length : Int) = stop)
    (fun s A B row hs hg hr => ⟨pair_own w stop s A B row hs.1 hg (zL ▸ hr), hs.2⟩) (fun c s A B row hs hg hr => ⟨hs.1, pair_own w stop s A B row hs.2.1 hg (zL ▸ hr), hs.2.2⟩)
    ⟨⟨_, kL, ⟨rfl, .inr ⟨w.heap.size + 1, 0, #[], rfl, Nat.le_refl _, kA, Nat.le_refl _, by decide, rfl, rfl⟩⟩, kS, bL, by omega⟩, by simp; omega⟩
    (fun x => { tmps := #[.pointer (some ⟨p, 0, none⟩), .int .i64 stop, undef, .pointer (some ⟨w.heap.size, 0, none⟩), .slice none 0 0, .pointer (some ⟨w.heap.size + 1 + 1, 0, none⟩), .int .i64 (x.1 : Int), .int .i64 x.2,
      .slice (some ⟨w.heap.size + 1, 0, none⟩) 0 0, .int .i64 stop, .bool false, undef, .pointer (some ⟨p, 0, none⟩), .func (.func 52) #[] #[.pointer (some ⟨w.heap.size + 1 + 1 + 1, 0, none⟩)], .int .i64 (x.1 : Int), .int .i64 x.2,
      undef, undef, undef, undef, undef, undef, undef, undef, undef, undef, undef], defers := [] }) ?assign ?body ?done ?stop
  case assign =>
    intro l x W K hK
    dsimp only [encX]
    gi_wp2
    exact hK
  case body =>
    rintro lb pre x W ⟨⟨v, hb, ho, hs, hB, h4⟩, hst⟩ hpl
    have hc := hb.cell
    have cs := hs.cell
    have HKL := Lib.hid (show WL.heap.size = w.heap.size + 4 from zL)
    have HST := Lib.hid hst
    by_cases heq : (pre.length : Int) + 1 = stop
    · have hq : ((pre.length : Int) + 1 == stop) = true := beq_iff_eq.2 heq
      have HEQ := Lib.hid heq
      have HSS := Lib.hid hs
      clear heq hst hsz hs zL kS kA kL kP bL an hTL
      gi_wp2_with (gi_at_builtin; refine wpListIn_append_own _ rfl _ _ 26 rfl (w.heap.size + 1) 45 i0 (.agg #[.int .i64 0, .int .i64 0]) 2 16 Try.underlying26 hi hz0 hz1 hz2 rfl (by decide) v _ _ (by rfl) (ho.alloc _) ⟨W.heap.size, 0, none⟩ 1 1 [.int .i64 (x.1 : Int), .int .i64 x.2] rfl rfl (World.news_of_block (heap_alloc_new _ _)) ?c0 ?c1 ?c2 ?c3 ?_)
      case c0 => simp [Value.oneCell']
      case c1 => unfold maxLen; omega
      case c2 => omega
      case c3 => rw [World.size_alloc]; omega
      intro v' w1 hown' hgrow hnn
      obtain ⟨gg, cc, rfl⟩ := ownsRow_succ hown'
      obtain ⟨hk, hkp, hpi⟩ := pair_step hb ho HSS.out hB h4 hown' hgrow
      have hv1 : Boxed w1 (w.heap.size + 1 + 1) 26 v := (hb.alloc _).kept hgrow (hb.not_row (by decide) ho)
      have hs1 : Boxed w1 w.heap.size 3 (.int .i64 stop) := (HSS.out.alloc _).kept hgrow (HSS.out.not_row (by decide) ho)
      have c1 := hv1.cell
      have f1 := hv1.frozen
      have c2 := hs1.cell
      have HK := Lib.hid hk
      have HKP := Lib.hid hkp
      have HPI := Lib.hid hpi
      clear hk hkp hpi hown' hgrow hnn ho hb
      gi_wp2
      have h1 := HST.out
      have h2 := HEQ.out
      have h3 : ((pre ++ [x]).length : Int) = pre.length + 1 := by rw [List.length_append]; rfl
      exact ⟨HK.out.from _, rfl, HPI.out, by rw [h3]; exact h2⟩
    · have hq : ((pre.length : Int) + 1 == stop) = false := beq_eq_false_iff_ne.2 heq
      have HEQ := Lib.hid heq
      have HSS := Lib.hid hs
      clear heq hst hsz hs zL kS kA kL kP bL an hTL
      gi_wp2_with (gi_at_builtin; refine wpListIn_append_own _ rfl _ _ 26 rfl (w.heap.size + 1) 45 i0 (.agg #[.int .i64 0, .int .i64 0]) 2 16 Try.underlying26 hi hz0 hz1 hz2 rfl (by decide) v _ _ (by rfl) (ho.alloc _) ⟨W.heap.size, 0, none⟩ 1 1 [.int .i64 (x.1 : Int), .int .i64 x.2] rfl rfl (World.news_of_block (heap_alloc_new _ _)) ?c0 ?c1 ?c2 ?c3 ?_)
      case c0 => simp [Value.oneCell']
      case c1 => unfold maxLen; omega
      case c2 => omega
      case c3 => rw [World.size_alloc]; omega
      intro v' w1 hown' hgrow hnn
      obtain ⟨gg, cc, rfl⟩ := ownsRow_succ hown'
      obtain ⟨hk, hkp, hpi⟩ := pair_step hb ho HSS.out hB h4 hown' hgrow
      have hv1 : Boxed w1 (w.heap.size + 1 + 1) 26 v := (hb.alloc _).kept hgrow (hb.not_row (by decide) ho)
      have hs1 : Boxed w1 w.heap.size 3 (.int .i64 stop) := (HSS.out.alloc _).kept hgrow (HSS.out.not_row (by decide) ho)
      have c1 := hv1.cell
      have f1 := hv1.frozen
      have c2 := hs1.cell
      have HK := Lib.hid hk
      have HKP := Lib.hid hkp
      have HPI := Lib.hid hpi
      clear hk hkp hpi hown' hgrow hnn ho hb
      gi_wp2
      have h1 := HST.out
      have h2 := HEQ.out
      have h3 : ((pre ++ [x]).length : Int) = pre.length + 1 := by rw [List.length_append]; rfl
      exact ⟨HK.out.from _, HKP.out, HPI.out, by rw [h3]; omega⟩
  case done =>
    rintro D xs W hD rfl ⟨⟨v, hb, ho, hs, hB, h4⟩, hst⟩ hK
    have hc := hb.cell
    have HST := Lib.hid hst
    clear hst hsz
    gi_wp2
    refine ⟨by simp, .inl ⟨_, _, rfl, run_takeDeferred hK, ?_⟩⟩
    have e : firstN xs stop = xs := by
      unfold firstN
      have := HST.out
      by_cases h : stop < 0
      · rw [if_pos h]
      · rw [if_neg h, List.take_of_length_le (by omega)]
    refine ⟨_, results_tmp rfl _ _ _, _, rfl, ?_, hB.grown (grownBy_putObj' _ _ _) hB.size (fun k e => by cases e; omega)⟩
    rw [e]
    exact own_down (ownsRow_putObj ho _ hK rfl) (by omega)
  case stop =>
    rintro D c pre W hD hpre ⟨rfl, ⟨v, hb, ho, hs, hB, h4⟩, hst⟩ hK
    have hc := hb.cell
    have HST := Lib.hid hst
    clear hst hsz
    gi_wp2
    refine ⟨by simp, .inl ⟨_, _, rfl, run_takeDeferred hK, ?_⟩⟩
    have e : firstN l stop = pre := by
      unfold firstN
      have := HST.out
      rw [if_neg (by omega), ← this, Int.toNat_natCast]
      exact (List.prefix_iff_eq_take.1 hpre).symm
    refine ⟨_, results_tmp rfl _ _ _, _, rfl, ?_, hB.grown (grownBy_putObj' _ _ _) hB.size (fun k e => by cases e; omega)⟩
    rw [e]
    exact own_down (ownsRow_putObj ho _ hK rfl) (by omega)
theorem pairs_zero (p : Nat) (l : List (Nat × Int)) (w : World) :
    Calls Try.prog 15 #[.pointer (some ⟨p, 0, none⟩), .int .i64 0] w (PairsEnd l 0 w) := by
  have hmk : ∀ W : World, (Instr.makeSlice 26 (.int .i64 0) (.int .i64 0)).run Try.prog W = .ok (.slice (some ⟨W.heap.size, 0, none⟩) 0 0) (W.alloc (.cells #[] 45)) := fun _ => by kernel_rfl
  go_enter Try.func15, Try.ntmps15
  go_wp2
  go_ret
  have hA : (((w.alloc (.cells #[.int .i64 0] 3)).alloc (.cells #[] 45)).alloc (.cells #[.slice (some ⟨w.heap.size + 1, 0, none⟩) 0 0] 26)).heap[w.heap.size + 1]? = some (.cells #[] 45 (0, 0)) := by
    refine heap_alloc_old ?_ _
    have := heap_alloc_new (w.alloc (.cells #[.int .i64 0] 3)) (.cells #[] 45)
    rwa [World.size_alloc] at this
  exact ⟨_, rfl, ⟨rfl, .inr ⟨w.heap.size + 1, 0, #[], rfl, by omega, hA, Nat.le_refl _, by decide, rfl, rfl⟩⟩, (((Below.refl _ w).alloc (Nat.le_refl _) _).alloc (by simp) _).alloc (by simp; omega) _⟩
theorem pairs_calls (s : TS Int) (p : Nat) (n0 : Int) (l : List (Nat × Int)) (hl : Lists s.val l) (w : World) (hT : Tree kInt w p n0 s) (stop : Int) :
    Calls Try.prog 15 #[.pointer (some ⟨p, 0, none⟩), .int .i64 stop] w (PairsEnd l stop w) := by
  by_cases hs : stop = 0
  · subst hs; exact pairs_zero p l w
  · exact pairs_go s p n0 l hl w hT stop hs
end Go.Proofs.Ythpjcbaijbppiaa
