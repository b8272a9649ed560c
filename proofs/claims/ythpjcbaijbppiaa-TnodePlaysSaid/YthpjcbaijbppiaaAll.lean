/- All: what is there when it begins comes, by rising keys, whatever the body does. -/
import Derived.Test.YthpjcbaijbppiaaGather
import Derived.RangeFuncNested
import Derived.RangeFuncBound
import Derived.RangeFuncCalls
import Derived.RangeFuncLeaves
import Derived.RangeFuncWrites
import Derived.Shelf.RegionOpen
import Derived.OwnWalkIn
import Derived.TacticsInMore
import Derived.LoopNIn
import Derived.LoopIn
namespace Go.Proofs.Ythpjcbaijbppiaa
open Go.RowKit Go.Proofs
set_option linter.unusedVariables false
set_option linter.unusedSimpArgs false
set_option maxRecDepth 100000
attribute [local go_sem] Oper.semAt_some
def KpE (W W' : World) : Prop := ∀ (k : Nat) (c : Array Value), W.heap[k]? = some (.cells c 109 (0, 0)) → W'.heap[k]? = some (.cells c 109 (0, 0))
theorem KpE.trans {A B C : World} (h : KpE A B) (k : KpE B C) : KpE A C := fun i c hi => k i c (h i c hi)
theorem KpE.put (W : World) (l : Nat) (o o' : Obj) (h : W.heap[l]? = some o) (ho : o.isCells = false) : KpE W (W.putObj l o') := fun k c hk => by
  rw [World.putObj_heap_other]
  · exact hk
  · rintro rfl
    rw [h] at hk
    cases hk
    cases ho
def encX (x : Nat × Int) : Array Value := #[.int .i64 (x.1 : Int), .int .i64 x.2]
theorem encP_get : ∀ {l : List (Nat × Int)} {i : Nat} {x : Nat × Int}, l[i]? = some x → (encP l)[i * 2]? = some (.int .i64 (x.1 : Int)) ∧ (encP l)[i * 2 + 1]? = some (.int .i64 x.2)
  | [], _, _, h => by simp at h
  | y :: t, 0, x, h => by
    simp at h
    subst h
    exact ⟨rfl, rfl⟩
  | y :: t, i + 1, x, h => by
    have ih := encP_get (l := t) (i := i) (by simpa using h)
    have e : encP (y :: t) = .int .i64 (y.1 : Int) :: .int .i64 y.2 :: encP t := rfl
    rw [e, show (i + 1) * 2 = i * 2 + 1 + 1 by omega]
    simpa using ih
/-- A row of entries, its block known. -/
structure EntRow (W : World) (g : Nat) (cur : Array Value) (l : List (Nat × Int)) : Prop where
  heap : W.heap[g]? = some (.cells cur 109 (0, 0))
  cells : cur.toList.take (l.length * 2) = encP l
theorem EntRow.cell {W : World} {g : Nat} {cur : Array Value} {l : List (Nat × Int)} (h : EntRow W g cur l) {i : Nat} {x : Nat × Int} (hx : l[i]? = some x) :
    W.cell? ⟨g, i * 2, none⟩ = some (.int .i64 (x.1 : Int)) ∧ W.cell? ⟨g, i * 2 + 1, none⟩ = some (.int .i64 x.2) := by
  have hi : i < l.length := (List.getElem?_eq_some_iff.1 hx).1
  obtain ⟨e1, e2⟩ := encP_get hx
  rw [← h.cells, List.getElem?_take_of_lt (by omega)] at e1 e2
  exact ⟨cell_of h.heap (by simpa using e1), cell_of h.heap (by simpa using e2)⟩
theorem grown_of_below {W W' : World} (h : Below W.heap.size W W') : W.grownBy W' none := ⟨h.os, h.tape, h.output, h.size, fun k hk _ => h.block k hk⟩
theorem take_succ' {α : Type} {l : List α} {i : Nat} {x : α} (h : l[i]? = some x) : l.take (i + 1) = l.take i ++ [x] := by
  rw [List.take_add_one, h]; rfl
theorem all_none (s : TS Int) (p : Nat) (n0 : Int) (n : Nat) (w : World) (Bn : Nat) (hB : w.heap[Bn]? = some (.cells #[.pointer (some ⟨p, 0, none⟩)] 23 (0, 0))) (hT : Tree kInt w p n0 s) (h0 : s.h = 0) :
    SeqStopsK Fence.wide n Try.prog 52 #[.pointer (some ⟨Bn, 0, none⟩)] encX KpE (fun xs => xs = []) (fun pre => pre <+: []) 0 w := by
  intro l J Jx W hW hJ hJx hY hJ0
  have hr : s.N (s.h - 1) 0 = none := by
    cases e : s.N (s.h - 1) 0 with
    | none => rfl
    | some x => have := hT.wf.lv _ _ _ e; omega
  have hI := hT.isT.below hW
  have c0 := hI.c0
  rw [hr, ptr_none] at c0
  have cb : W.cell? ⟨Bn, 0, none⟩ = some (.pointer (some ⟨p, 0, none⟩)) := cell_of ((hW.block _ (lt_of_heap hB)).trans hB) rfl
  have HJ0 := Lib.hid hJ0
  clear hW hJ hJx hY hJ0 hT hI hr hB h0
  refine callsIn_of_wp Try.func52 rfl trivial ?_ rfl
  simp only [Try.ntmps52, List.size_toArray, List.length_cons, List.length_nil, Nat.reduceAdd, Nat.reduceSub, Array.replicate_succ, Array.replicate_zero, List.push_toArray, List.append_toArray, List.nil_append, List.cons_append]
  gi_wp2
  refine bodyPost_ret (results_none rfl _ _ _) rfl ?_
  exact ⟨⟨_, rfl⟩, .inl ⟨_, rfl, HJ0.out⟩⟩
theorem all_some (s : TS Int) (p : Nat) (n0 : Int) (n : Nat) (w : World) (Bn : Nat) (l : List (Nat × Int)) (hl : Lists s.val l) (hB : w.heap[Bn]? = some (.cells #[.pointer (some ⟨p, 0, none⟩)] 23 (0, 0))) (hT : Tree kInt w p n0 s) (h0 : 0 < s.h) :
    SeqStopsK Fence.wide n Try.prog 52 #[.pointer (some ⟨Bn, 0, none⟩)] encX KpE (fun xs => xs = l) (fun pre => pre <+: l) l.length w := by
  intro lb J Jx W hW hJ hJx hY hJ0
  obtain ⟨a, ha⟩ := hT.wf.root h0
  have hI := hT.isT.below hW
  have c0 := hI.c0
  rw [ha, ptr_some] at c0
  have c1 := hI.c1
  have cb : W.cell? ⟨Bn, 0, none⟩ = some (.pointer (some ⟨p, 0, none⟩)) := cell_of ((hW.block _ (lt_of_heap hB)).trans hB) rfl
  have el : lst s.val 0 (16 ^ s.h) = l := hT.wf.lists.uniq hl
  have hlen : l.length ≤ 1048576 := by
    have h1 := lst_length s.val 0 (16 ^ s.h)
    rw [el] at h1
    have := pow16_le hT.wf.h5
    omega
  have hpos : 0 < l.length := by
    obtain ⟨k, x, hk⟩ := some_key hT.wf hT.full h0
    have := (hl.mem k x.2).2 (by unfold TS.val; rw [hk]; rfl)
    exact List.length_pos_of_mem this
  have GC : ∀ w1, Below W.heap.size W w1 → Calls Try.prog 53 #[.pointer (some ⟨a, 0, none⟩), .int .i64 0, .int .i64 ((s.h - 1 : Nat) : Int), .slice none 0 0] w1 fun e w' =>
      ∃ g cap cur, e = .returned (.slice (some ⟨g, 0, none⟩) l.length cap) ∧ EntRow w' g cur l ∧ l.length ≤ cap ∧ cap ≤ maxLen ∧ Below W.heap.size W w' := fun w1 hb => by
    have := gather_calls s p n0 W hI hT.wf (s.h - 1) a 0 ha [] (by simp) (.slice none 0 0) w1 (World.ownsRow_nil _ _ _ _) hb
    rw [Nat.zero_mul, show s.h - 1 + 1 = s.h by omega, el] at this
    refine this.mono ?_
    rintro e w' ⟨v', rfl, hown, hb'⟩
    rw [List.nil_append] at hown
    rcases hown.2 with ⟨_, h⟩ | ⟨g, cap, cur, rfl, hg, hh, hc, hm, hs, ht⟩
    · omega
    · exact ⟨g, cap, cur, rfl, ⟨hh, ht⟩, hc, hm, hb'⟩
  have GC := Lib.hid GC
  have h5 := hT.wf.h5
  have e1 : IntKind.i64.wrap ((s.h : Int) - 1) = ((s.h - 1 : Nat) : Int) := by rw [IntKind.wrap_i64]; omega
  have HJ0 := Lib.hid hJ0
  have HJ := Lib.hid hJ
  have HY := Lib.hid hY
  have ih : (0 : Int) < (s.h : Int) := by omega
  have LB := Lib.hid (World.block_lt_of_cell? W _ cb)
  have LP := Lib.hid hI.plt
  clear hW hJ hJx hY hJ0 hT hI hB ha el
  refine callsIn_of_wp Try.func52 rfl trivial ?_ rfl
  simp only [Try.ntmps52, List.size_toArray, List.length_cons, List.length_nil, Nat.reduceAdd, Nat.reduceSub, Array.replicate_succ, Array.replicate_zero, List.push_toArray, List.append_toArray, List.nil_append, List.cons_append]
  gi_wp2
  refine wpIn_wide.2 ?_
  go_region_held3 (fun w' => w'.cell? ⟨Bn, 0, none⟩ = some (.pointer (some ⟨p, 0, none⟩)) ∧ w'.cell? ⟨p, 0, none⟩ = some (.pointer (some ⟨a, 0, none⟩)) ∧ w'.cell? ⟨p, 1, none⟩ = some (.int .i64 (s.h : Int)))
    (first | go_keep | exact ⟨cc0, cc1, cc2⟩)
    ((go_at_call 53; (with_reducible refine (GC.out _ ((Below.refl _ _).drew)).mono ?_); rintro e w1 ⟨g, cap, cur, rfl, hrow, hcap, hcm, hb⟩; have cc0 := (hb.cell (p := ⟨Bn, 0, none⟩) LB.out).trans cb; have cc1 := (hb.cell (p := ⟨p, 0, none⟩) LP.out).trans c0; have cc2 := (hb.cell (p := ⟨p, 1, none⟩) LP.out).trans c1))
  have HR := Lib.hid hrow
  have HJ1 := Lib.hid (HJ.out _ _ _ none HJ0.out (grown_of_below hb) (fun r e => by cases e))
  clear hrow cc0 cc1 cc2 hb GC HJ0
  unfold maxLen at hcm
  gi_wp2
  gi_loopw [21] (fun s21 wr => ∃ i : Nat, s21 = .int .i64 (i : Int) ∧ i ≤ l.length ∧ J (l.take i) wr ∧ EntRow wr g cur l) (fun s21 _ => l.length - (intOf s21).toNat)
  case atStart => exact ⟨0, rfl, by omega, HJ1.out, HR.out⟩
  case round =>
    obtain ⟨i, rfl, hi, hJi, hr⟩ := hrel
    have HR2 := Lib.hid hr
    have HJi := Lib.hid hJi
    by_cases hlt : i < l.length
    · obtain ⟨x, hx⟩ : ∃ x, l[i]? = some x := ⟨_, List.getElem?_eq_getElem hlt⟩
      obtain ⟨e1, e2⟩ := hr.cell hx
      have hJa : J (l.take i) (wr.alloc (.cells #[.int .i64 (x.1 : Int), .int .i64 x.2] 109)) := HJ.out _ _ _ none hJi (World.grownBy_alloc wr _ none) (fun r e => by cases e)
      have hpl : (l.take i).length < l.length := by rw [List.length_take]; omega
      obtain ⟨fn, tmps, assign, body, hy, hRR⟩ := HY.out (l.take i) x _ hJa hpl
      have hR3 : (wr.alloc (.cells #[.int .i64 (x.1 : Int), .int .i64 x.2] 109)).heap[g]? = some (.cells cur 109 (0, 0)) := heap_alloc_old hr.heap _
      have HR3 := Lib.hid hR3
      have HRR := Lib.hid hRR
      have HX := Lib.hid (take_succ' hx)
      have hil : (i : Int) < (l.length : Int) := by omega
      dsimp only [encX] at hy
      clear hr hJi hx hJa hpl hR3 hRR
      gi_wp2
      refine ⟨fun h => absurd h (by decide), ?_⟩
      refine HRR.out.mono ?_
      rintro e W3 (⟨rfl, hJ3, hk3⟩ | ⟨rfl, hJx3⟩)
      · have HH3 := Lib.hid (hk3 g cur HR3.out)
        have HJ3 := Lib.hid hJ3
        clear hJ3 hk3 hy e1 e2
        gi_wp2
        go_roundw
        case rel => exact ⟨i + 1, by go_num, by omega, by rw [HX.out]; exact HJ3.out, ⟨HH3.out, HR2.out.cells⟩⟩
        case measure => simp [intOf]; omega
      · have HJ3 := Lib.hid hJx3
        have HPX := Lib.hid (show l.take i ++ [x] <+: l by rw [← HX.out]; exact List.take_prefix _ _)
        clear hJx3 hy e1 e2
        gi_wp2
        refine bodyPost_ret (results_none rfl _ _ _) rfl ?_
        exact ⟨⟨_, rfl⟩, .inr ⟨_, HPX.out, HJ3.out⟩⟩
    · obtain rfl : i = l.length := by omega
      rw [List.take_length] at hJi
      have HJi := Lib.hid hJi
      clear hr hJi
      gi_wp2
      go_end0
      exact ⟨⟨_, rfl⟩, .inl ⟨_, rfl, HJi.out⟩⟩
theorem all_stops (s : TS Int) (p : Nat) (n0 : Int) (n : Nat) (w : World) (Bn : Nat) (l : List (Nat × Int)) (hl : Lists s.val l) (hB : w.heap[Bn]? = some (.cells #[.pointer (some ⟨p, 0, none⟩)] 23 (0, 0))) (hT : Tree kInt w p n0 s) :
    SeqStopsK Fence.wide n Try.prog 52 #[.pointer (some ⟨Bn, 0, none⟩)] encX KpE (fun xs => xs = l) (fun pre => pre <+: l) l.length w := by
  by_cases h0 : s.h = 0
  · have hz : ∀ k, s.val k = none := fun k => by
      unfold TS.val
      cases e : s.K k with
      | none => rfl
      | some x => obtain ⟨b, hb⟩ := hT.wf.ku _ _ e; have := hT.wf.lv _ _ _ hb; omega
    obtain rfl : l = [] := hl.uniq (Lists.nil hz)
    exact all_none s p n0 n w Bn hB hT h0
  · exact all_some s p n0 n w Bn l hl hB hT (by omega)
theorem all_calls (p : Nat) (w : World) : Calls Try.prog 39 #[.pointer (some ⟨p, 0, none⟩)] w fun e w' => e = .returned (.func (.func 52) #[] #[.pointer (some ⟨w.heap.size, 0, none⟩)]) ∧ w' = w.alloc (.cells #[.pointer (some ⟨p, 0, none⟩)] 23) := by
  go_enter Try.func39, Try.ntmps39
  go_wp2
  go_ret
  exact ⟨rfl, rfl⟩
end Go.Proofs.Ythpjcbaijbppiaa
