/- path.names: what it tells of a text. -/
import Derived.Test.YtbinnghemkppdaaDoorSeq
import Derived.Test.YtbinnghemkppdaaDoorFar
import Derived.Test.YtbinnghemkppdaaDoorWWords
import Derived.Maps.OwnIn
import Derived.Maps.AppendAt
namespace Go.Proofs.YtbinnghemkppdaaDoor
open Go.RowKit Go.Proofs Go.Proofs.YtbinnghemkppdaaDoorW.PrintWords
set_option linter.unusedVariables false
set_option linter.unusedSimpArgs false
attribute [local go_sem] Oper.semAt_some

theorem seq_calls (s sep : ByteArray) (w : World) :
    Calls Tryd.prog 41 #[.string s, .string sep] w fun e w' => e = .returned (.func (.func 56) #[] #[.pointer (some ⟨w.heap.size + 1, 0, none⟩), .pointer (some ⟨w.heap.size, 0, none⟩), .pointer (some ⟨w.heap.size + 2, 0, none⟩)]) ∧
      w' = (((w.alloc (.cells #[.string s] 9)).alloc (.cells #[.string sep] 9)).alloc (.cells #[.int .i64 0] 3)) := by
  go_enter Tryd.func41, Tryd.ntmps41
  go_wp2
  go_ret
  exact ⟨rfl, rfl⟩

def keepP (p : List UInt8) : Bool := !(p == []) && !(p == [46])
def partsOf (l : List UInt8) : List (List UInt8) := (cutAt l).filter keepP
def keptOf (pre : List ByteArray) : List ByteArray := pre.filter fun x => keepP x.data.toList

theorem cutAt_len : ∀ l : List UInt8, (cutAt l).length ≤ l.length + 1
  | [] => by simp [cutAt]
  | c :: t => by
    have ih := cutAt_len t
    unfold cutAt
    split
    · simp; omega
    · split
      · simp
      · rename_i h
        rw [h] at ih
        simp at ih ⊢
        omega
theorem kept_snoc (pre : List ByteArray) (x : ByteArray) : keptOf (pre ++ [x]) = keptOf pre ++ if keepP x.data.toList then [x] else [] := by
  unfold keptOf
  rw [List.filter_append]
  congr 1
  cases h : keepP x.data.toList <;> simp [List.filter_cons, h]
theorem kept_len (pre : List ByteArray) : (keptOf pre).length ≤ pre.length := List.length_filter_le _ _

theorem info9 : (Tryd.prog.info? 9).map (fun i => (i.zero, i.size, i.bytes)) = some (some (.string ⟨#[]⟩), 1, 16) := by kernel_rfl

/-- What holds between two rounds: the box of the list, the row that it owns; of what was there nothing has turned. -/
def NamesI (w : World) (pre : List ByteArray) (W : World) : Prop :=
  ∃ v, Boxed W w.heap.size 22 v ∧ W.ownsRow (w.heap.size + 4) 9 1 v (keptOf pre).length (encs Value.string (keptOf pre)) ∧ Below w.heap.size w W ∧ w.heap.size + 4 ≤ W.heap.size

theorem NamesI.mk {w : World} {pre : List ByteArray} {W : World} {v : Value} {L : List ByteArray} (h : L = keptOf pre) (hb : Boxed W w.heap.size 22 v) (ho : W.ownsRow (w.heap.size + 4) 9 1 v L.length (encs Value.string L)) (hB : Below w.heap.size w W) (h4 : w.heap.size + 4 ≤ W.heap.size) : NamesI w pre W := by
  subst h; exact ⟨v, hb, ho, hB, h4⟩

theorem names_own (w : World) : OwnFrom (w.heap.size + 4) (NamesI w) := by
  rintro s X Y row ⟨v, hb, ho, hB, h4⟩ hg hr
  refine ⟨v, hb.kept hg (fun e => by have := (hr _ e.symm).1; omega), own_move ho (fun k hk => hg.block k (own_lt ho k hk) (fun e => ?_)), hB.grown hg hB.size (fun k e => by have := (hr k e).1; omega), Nat.le_trans h4 hg.size⟩
  obtain ⟨_, o, hx, hc⟩ := hr k e.symm
  obtain ⟨cells, hcells⟩ := own_typed ho k hk
  rw [hcells] at hx
  cases hx
  cases hc
theorem names_cell (w : World) (pre : List ByteArray) (W : World) (u : Value) (h : NamesI w pre W) : NamesI w pre (W.setCell ⟨w.heap.size + 1, 0, none⟩ u) := by
  obtain ⟨v, hb, ho, hB, h4⟩ := h
  refine ⟨v, hb.other (by omega) u, own_move ho (fun k hk => other_set ?_), hB.setCell (p := ⟨w.heap.size + 1, 0, none⟩) (Nat.le_succ _) u, by rw [World.size_setCell]; exact h4⟩
  have := own_base ho k hk
  omega

theorem alloc_old {w : World} {k : Nat} {x : Obj} (h : w.heap[k]? = some x) (o : Obj) : (w.alloc o).heap[k]? = some x := by
  rw [Below.heap_alloc _ _ _ (Array.getElem?_eq_some_iff.1 h).1]; exact h
theorem alloc_new (w : World) (o : Obj) (k : Nat) (h : k = w.heap.size) : (w.alloc o).heap[k]? = some o := by subst h; exact World.alloc_heap_new w o

theorem own_le {w : World} {B B' e size n : Nat} {v : Value} {xs : List Value} (hB : B ≤ B') (h : w.ownsRow B' e size v n xs) : w.ownsRow B e size v n xs :=
  ⟨h.1, h.2.imp id fun ⟨g, cap, cur, hv, hg, hb, ht, hs⟩ => ⟨g, cap, cur, hv, Nat.le_trans hB hg, hb, ht, hs⟩⟩

/-- What names tells. -/
def mkB (l : List UInt8) : ByteArray := ⟨l.toArray⟩
def namesL (s : ByteArray) : List ByteArray := (partsOf s.data.toList).map mkB
def namesR (s : ByteArray) : List ByteArray × Int :=
  if 0 ≤ Lib.indexByte s.data.toList 0 then ([], 160) else if 1023 < s.size then ([], 161) else if 64 < (namesL s).length ∨ (namesL s).any farB = true then ([], 161) else (namesL s, 0)

theorem kept_eq (s : ByteArray) (xs : List ByteArray) (h : xs.map (·.data.toList) = cutAt s.data.toList) : keptOf xs = namesL s := by
  unfold keptOf namesL partsOf
  rw [← h, List.filter_map, List.map_map]
  have : (fun x : ByteArray => keepP x.data.toList) = keepP ∘ (fun x : ByteArray => x.data.toList) := rfl
  rw [this]
  refine (List.map_id'' (fun x => ?_) _).symm
  rfl

theorem cFar_own {base cap : Nat} (g : Option Addr) (L : List ByteArray) (w : World) (hl : L.length ≤ 4096) (ho : w.ownsRow base 9 1 (.slice g L.length cap) L.length (encs Value.string L)) :
    Calls Tryd.prog 42 #[.slice g L.length cap, .func (.func 43) #[] #[]] w fun e w' => e = .returned (.bool (L.any farB)) ∧ w' = w := by
  rcases ho.2 with ⟨h, hn⟩ | ⟨b, c, cur, h, _, hb, _⟩
  · simp only [Value.slice.injEq] at h
    obtain ⟨rfl, h2, rfl⟩ := h
    obtain rfl : L = [] := List.eq_nil_of_length_eq_zero h2
    exact cFar_nil w
  · simp only [Value.slice.injEq] at h
    obtain ⟨rfl, _, rfl⟩ := h
    refine cFar_calls _ L _ w hl fun j x hx => ?_
    have hr := own_reads_of' (d := ByteArray.empty) ho
    have hj : j < L.length := (List.getElem?_eq_some_iff.1 hx).1
    obtain ⟨ad, e, hc⟩ := hr.2.2 (by omega)
    cases e
    rw [hc j hj, List.getD_eq_getElem?_getD, hx]
    rfl

set_option maxHeartbeats 4000000 in
set_option maxRecDepth 100000 in
theorem names_try (s : ByteArray) (w : World) (hs : s.size ≤ 1023) (hz : decide (0 ≤ Lib.indexByte s.data.toList 0) = false) :
    Calls Tryd.prog 27 #[.string s] w fun e w' => ∃ v, e = .returned (.tuple #[v, .int .i64 (namesR s).2]) ∧ Kd.R Kd.string 9 w' w.heap.size (fun _ => True) v (namesR s).1 ∧ Below w.heap.size w w' := by
  have hsz : decide ((1023 : Int) < (s.size : Int)) = false := decide_eq_false (by omega)
  obtain ⟨i0, hi, hzz⟩ := Option.map_eq_some_iff.1 info9
  simp only [Prod.mk.injEq] at hzz
  obtain ⟨hz0, hz1, hz2⟩ := hzz
  have HI := Lib.hid hi
  have HZ0 := Lib.hid hz0
  have HZ1 := Lib.hid hz1
  have HZ2 := Lib.hid hz2
  clear hi hz0 hz1 hz2
  refine (callsIn_wide (n := 6)).1 ?_
  refine callsIn_of_wp_marks Tryd.func27 rfl trivial ?_ rfl
  simp only [Tryd.ntmps27, List.size_toArray, List.length_cons, List.length_nil, Nat.reduceAdd, Nat.reduceSub, Array.replicate_succ, Array.replicate_zero, List.push_toArray, List.append_toArray, List.nil_append, List.cons_append]
  gi_wp2_with (first | (refine ⟨trivial, ?_⟩; gi_at_call 40; refine (callsIn_wide.2 (Tryd.strings_Contains_one s 0 _)).mono ?_; rintro e w' ⟨rfl, hw⟩; rw [hw, hz]) | (refine ⟨trivial, ?_⟩; gi_at_call 41; refine (callsIn_wide.2 (seq_calls s ⟨#[47]⟩ _)).mono ?_; rintro e w' ⟨rfl, rfl⟩))
  obtain ⟨WL, hWL⟩ : ∃ WL, WL = ((((w.alloc (.cells #[.slice none 0 0] 22)).alloc (.cells #[.string s] 9)).alloc (.cells #[.string ⟨#[47]⟩] 9)).alloc (.cells #[.int .i64 0] 3)) := ⟨_, rfl⟩
  have zL : WL.heap.size = w.heap.size + 4 := by rw [hWL]; simp
  have kL : WL.heap[w.heap.size]? = some (.cells #[.slice none 0 0] 22 (0, 0)) := by rw [hWL]; exact alloc_old (alloc_old (alloc_old (alloc_new _ _ _ rfl) _) _) _
  have kS : WL.heap[w.heap.size + 1]? = some (.cells #[.string s] 9 (0, 0)) := by rw [hWL]; exact alloc_old (alloc_old (alloc_new _ _ _ (by simp)) _) _
  have kP : WL.heap[w.heap.size + 1 + 1]? = some (.cells #[.string ⟨#[47]⟩] 9 (0, 0)) := by rw [hWL]; exact alloc_old (alloc_new _ _ _ (by simp)) _
  have kV : WL.heap[w.heap.size + 1 + 2]? = some (.cells #[.int .i64 0] 3 (0, 0)) := by rw [hWL]; exact alloc_new _ _ _ (by simp)
  have bL : Below w.heap.size w WL := by rw [hWL]; exact ((((Below.refl _ w).alloc (Nat.le_refl _) _).alloc (by simp) _).alloc (by simp; omega) _).alloc (by simp; omega) _
  rw [← hWL]
  clear hWL
  refine wpIn_range_cell (α := ByteArray) rfl (by decide) (gf := 56) (lb := #[.pointer (some ⟨w.heap.size + 1 + 1, 0, none⟩), .pointer (some ⟨w.heap.size + 1, 0, none⟩), .pointer (some ⟨w.heap.size + 1 + 2, 0, none⟩)]) rfl trivial (enters_of Tryd.func56 (by kernel_rfl) rfl)
    (split_seq _ s (by omega) (w.heap.size + 1 + 1) (w.heap.size + 1) (w.heap.size + 1 + 2) WL (by omega) (by omega) kP kS kV) (fun k hk => by simp at hk; omega) (fun _ => rfl)
    (NamesI w) (zL ▸ names_own w) (names_cell w) ⟨_, kL, own_nil _ _ _ _, bL, by omega⟩
    (fun x => { tmps := #[.string s, undef, .slice none 0 0, .int .i64 0, .pointer (some ⟨w.heap.size, 0, none⟩), .string x, .string s, .bool false, .string s, .int .i64 s.size, .bool false, .string s,
      .func (.func 56) #[] #[.pointer (some ⟨w.heap.size + 1 + 1, 0, none⟩), .pointer (some ⟨w.heap.size + 1, 0, none⟩), .pointer (some ⟨w.heap.size + 1 + 2, 0, none⟩)], .string x, undef, undef, undef, undef, undef, undef, undef, undef, undef, undef, undef, undef, undef, undef, undef, undef], defers := [] }) ?assign ?body ?done
  case assign =>
    intro l x W K hK
    gi_wp2
    exact hK
  case body =>
    rintro l pre x W hl ⟨v, hb, ho, hB, h4⟩ hlen
    have hc := hb.cell
    have hkl := kept_len pre
    have hcl := cutAt_len s.data.toList
    have hss : s.data.toList.length = s.size := (Lib.size_eq s).symm
    have hx : x.toList = x.data.toList := Lib.toList_data x
    have HKx : Hid (keptOf (pre ++ [x]) = keptOf pre ++ if keepP x.data.toList then [x] else []) := Lib.hid (kept_snoc pre x)
    cases hE : (x.data.toList == [])
    · have hE1 : x.toList.isEmpty = false := by rw [hx]; cases h : x.data.toList <;> simp_all
      cases hD : (x.data.toList == [46])
      · have hD1 : (x.toList == [46]) = false := by rw [hx]; exact hD
        have hkeep : keepP x.data.toList = true := by unfold keepP; rw [hE, hD]; rfl
        have HK := Lib.hid hkeep
        clear hE hD hkeep hx
        have hwl := hb.lt
        gi_wp2_with (gi_at_builtin; refine wpListIn_append_own _ rfl _ _ 22 rfl (w.heap.size + 4) 9 i0 (.string ⟨#[]⟩) 1 16 Tryd.underlying22 HI.out HZ0.out HZ1.out HZ2.out rfl (by decide) _ _ _ rfl (ho.alloc _) ⟨W.heap.size, 0, none⟩ 1 1 [.string x] rfl rfl (cell_one_new _ _ _) ?c0 ?c1 ?c2 ?c3 ?_)
        case c0 => intro u hu; simp only [List.mem_singleton] at hu; subst hu; rfl
        case c1 => unfold maxLen; omega
        case c2 => omega
        case c3 => rw [World.size_alloc]; omega
        intro v' w1 hown' hgrow hnn
        have hwle : w.heap.size ≤ W.heap.size := Nat.le_of_lt hb.lt
        obtain ⟨hv1, hv2, hown2, hko, hbl⟩ := hb.appended (by decide) (own_le (Nat.le_add_right _ 4) ho) hwle (Nat.le_refl _) (own_le (Nat.le_add_right _ 4) hown') hgrow
        have hc1 := hv1.cell
        have hfz1 := hv1.frozen
        obtain ⟨gg, cc, rfl⟩ := ownsRow_succ hown'
        gi_wp2
        have hkv : KeptAt [w.heap.size + 1 + 1, w.heap.size + 1, w.heap.size + 1 + 2] W (w1.setCell ⟨w.heap.size, 0, none⟩ (Value.slice (some ⟨gg, 0, none⟩) ((keptOf pre).length + 1) cc)) := by
          intro k hk
          have hk' : w.heap.size < k ∧ k < w.heap.size + 4 := by simp only [List.mem_cons, List.not_mem_nil, or_false] at hk; omega
          refine (other_set (by omega)).trans ((hgrow.block k (by rw [World.size_alloc]; omega) (fun e => ?_)).trans (Below.heap_alloc _ _ _ (by omega)))
          have := own_base ho k e.symm
          omega
        exact ⟨hko.from _, hkv, NamesI.mk (by rw [HKx.out, HK.out]) hv2 (by
          have := own_move (w1 := w1.setCell ⟨w.heap.size, 0, none⟩ (Value.slice (some ⟨gg, 0, none⟩) ((keptOf pre).length + 1) cc)) hown' (fun k hk => other_set (fun e => by have := own_base hown' k hk; omega))
          simpa [encs] using this) (hB.trans hbl) (by rw [World.size_setCell]; exact Nat.le_trans h4 (Nat.le_trans (by simp) hgrow.size))⟩
      · have hD1 : (x.toList == [46]) = true := by rw [hx]; exact hD
        have hkeep : keepP x.data.toList = false := by unfold keepP; rw [hE, hD]; rfl
        have HK := Lib.hid hkeep
        clear hE hD hkeep hx
        gi_wp2
        exact ⟨KeepsFrom.refl _ _, KeptAt.refl _ _, NamesI.mk (by rw [HKx.out, HK.out]; simp) hb ho hB h4⟩
    · have hE1 : x.toList.isEmpty = true := by rw [hx]; simpa using hE
      have hkeep : keepP x.data.toList = false := by unfold keepP; rw [hE]; rfl
      have HK := Lib.hid hkeep
      clear hE hkeep hx
      gi_wp2
      exact ⟨KeepsFrom.refl _ _, KeptAt.refl _ _, NamesI.mk (by rw [HKx.out, HK.out]; simp) hb ho hB h4⟩
  case done =>
    rintro D xs W hD hS ⟨v, hb, ho, hB, h4⟩ hK
    have hc := hb.cell
    obtain ⟨gg, hgg⟩ : ∃ g : Option Addr, ∃ c, v = .slice g (keptOf xs).length c := by
      rcases ho.2 with ⟨rfl, h⟩ | ⟨g, cap, cur, rfl, _⟩
      · exact ⟨none, 0, by rw [h]⟩
      · exact ⟨_, _, rfl⟩
    obtain ⟨cc, rfl⟩ := hgg
    have hke := kept_eq s xs hS
    have hkl := kept_len xs
    have hcl := cutAt_len s.data.toList
    have hss : s.data.toList.length = s.size := (Lib.size_eq s).symm
    have hxl : xs.length = (cutAt s.data.toList).length := by rw [← hS, List.length_map]
    have hl : (keptOf xs).length ≤ 4096 := by omega
    have hz' : ¬ 0 ≤ Lib.indexByte s.data.toList 0 := of_decide_eq_false hz
    have HKE := Lib.hid hke
    clear hke
    have HZ' := Lib.hid hz'
    clear hz'
    by_cases h64 : 64 < (keptOf xs).length
    · have h64' : (64 : Int) < ((keptOf xs).length : Int) := by omega
      have HN : Hid (namesR s = ([], 161)) := Lib.hid (by unfold namesR; rw [if_neg HZ'.out, if_neg (by omega), if_pos (Or.inl (HKE.out ▸ h64))])
      gi_wp2_with (refine ⟨trivial, ?_⟩)
      refine ⟨by simp, .inl ⟨_, _, rfl, run_takeDeferred hK, ?_⟩⟩
      refine ⟨_, results_tmp2 rfl _ _ _, .slice none 0 0, ?_, ?_, ?_⟩
      · rw [HN.out]; rfl
      · rw [HN.out]; exact Kd.R_of_own (own_nil _ _ _ _) (fun _ _ => trivial)
      · exact hB.grown (grownBy_putObj' _ _ _) hB.size (fun k e => by cases e; omega)
    · have h64' : ¬ (64 : Int) < ((keptOf xs).length : Int) := by omega
      cases hf : (keptOf xs).any farB
      · have HF := Lib.hid hf
        clear hf
        have HN : Hid (namesR s = (namesL s, 0)) := Lib.hid (by unfold namesR; rw [if_neg HZ'.out, if_neg (by omega), if_neg]; rw [← HKE.out, HF.out]; simp; omega)
        gi_wp2_with (refine ⟨trivial, ?_⟩; gi_at_call 42; refine (callsIn_wide.2 (cFar_own _ _ _ hl ho)).mono ?_; rintro e w' ⟨rfl, rfl⟩; rw [HF.out])
        refine ⟨by simp, .inl ⟨_, _, rfl, run_takeDeferred hK, ?_⟩⟩
        refine ⟨_, results_tmp2 rfl _ _ _, .slice gg (keptOf xs).length cc, ?_, ?_, ?_⟩
        · rw [HN.out]; rfl
        · rw [HN.out, ← HKE.out]; exact Kd.R_of_own (ownsRow_putObj (own_le (Nat.le_add_right _ 4) ho) _ hK rfl) (fun _ _ => trivial)
        · exact hB.grown (grownBy_putObj' _ _ _) hB.size (fun k e => by cases e; omega)
      · have HF := Lib.hid hf
        clear hf
        have HN : Hid (namesR s = ([], 161)) := Lib.hid (by unfold namesR; rw [if_neg HZ'.out, if_neg (by omega), if_pos]; rw [← HKE.out, HF.out]; exact Or.inr rfl)
        gi_wp2_with (refine ⟨trivial, ?_⟩; gi_at_call 42; refine (callsIn_wide.2 (cFar_own _ _ _ hl ho)).mono ?_; rintro e w' ⟨rfl, rfl⟩; rw [HF.out])
        refine ⟨by simp, .inl ⟨_, _, rfl, run_takeDeferred hK, ?_⟩⟩
        refine ⟨_, results_tmp2 rfl _ _ _, .slice none 0 0, ?_, ?_, ?_⟩
        · rw [HN.out]; rfl
        · rw [HN.out]; exact Kd.R_of_own (own_nil _ _ _ _) (fun _ _ => trivial)
        · exact hB.grown (grownBy_putObj' _ _ _) hB.size (fun k e => by cases e; omega)

theorem names_calls (s : ByteArray) (w : World) :
    Calls Tryd.prog 27 #[.string s] w fun e w' => ∃ v, e = .returned (.tuple #[v, .int .i64 (namesR s).2]) ∧ Kd.R Kd.string 9 w' w.heap.size (fun _ => True) v (namesR s).1 ∧ Below w.heap.size w w' := by
  cases hz : decide (0 ≤ Lib.indexByte s.data.toList 0) with
  | true =>
    have HN : Hid (namesR s = ([], 160)) := Lib.hid (by unfold namesR; rw [if_pos (of_decide_eq_true hz)])
    go_enter Tryd.func27, Tryd.ntmps27
    go_wp2_with (go_at_call 40; refine (Tryd.strings_Contains_one s 0 _).mono ?_; rintro e w' ⟨rfl, hw⟩; rw [hw, hz])
    refine bodyPost_ret (results_tmp2 rfl _ _ _) rfl ?_
    exact ⟨.slice none 0 0, by rw [HN.out]; rfl, by rw [HN.out]; exact Kd.R_of_own (own_nil _ _ _ _) (fun _ _ => trivial), Below.refl _ _⟩
  | false =>
    by_cases hs : s.size ≤ 1023
    · exact names_try s w hs hz
    · have hs' : (1023 : Int) < (s.size : Int) := by omega
      have HN : Hid (namesR s = ([], 161)) := Lib.hid (by unfold namesR; rw [if_neg (of_decide_eq_false hz), if_pos (by omega)])
      go_enter Tryd.func27, Tryd.ntmps27
      go_wp2_with (go_at_call 40; refine (Tryd.strings_Contains_one s 0 _).mono ?_; rintro e w' ⟨rfl, hw⟩; rw [hw, hz])
      refine bodyPost_ret (results_tmp2 rfl _ _ _) rfl ?_
      exact ⟨.slice none 0 0, by rw [HN.out]; rfl, by rw [HN.out]; exact Kd.R_of_own (own_nil _ _ _ _) (fun _ _ => trivial), Below.refl _ _⟩
end Go.Proofs.YtbinnghemkppdaaDoor
