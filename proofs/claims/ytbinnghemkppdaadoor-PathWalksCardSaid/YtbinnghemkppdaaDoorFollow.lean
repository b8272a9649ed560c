/- (*way[int]).follow: goes on where a link leads. -/
import Derived.Test.YtbinnghemkppdaaDoorBase
import Derived.Test.YtbinnghemkppdaaDoorPHDPathWalksx3
import Derived.Test.YtbinnghemkppdaaDoorSplits
namespace Go.Proofs.YtbinnghemkppdaaDoor
open Go.RowKit Go.Proofs Go.Proofs.YtbinnghemkppdaaDoorW.PrintWords Go.Proofs.YtbinnghemkppdaaDoorW.PrintLast Go.Proofs.YtbinnghemkppdaaDoorW.PrintMore
open PHDPathWalks
set_option linter.unusedVariables false
set_option linter.unusedSimpArgs false

/-- A row of texts of the call's own, cut ahead. -/
def ToRow (W : World) (base : Nat) (v : Value) (L : List ByteArray) : Prop :=
  ∃ A c, v = .slice A L.length c ∧ L.length ≤ c ∧ L.length ≤ 9223372036854775807 ∧ (0 < L.length → ∃ g o cur, A = some ⟨g, o, none⟩ ∧ base ≤ g ∧ W.heap[g]? = some (.cells cur 9 (0, 0)) ∧ ∀ i x, L[i]? = some x → cur[o + i]? = some (.string x))
theorem ToRow.of_own {W : World} {base : Nat} {v : Value} {L : List ByteArray} (h : W.ownsRow base 9 1 v L.length (encs Value.string L)) : ToRow W base v L := by
  rcases h.2 with ⟨rfl, hn⟩ | ⟨g, cap, cur, rfl, hb, hg, hn, hm, hs, ht⟩
  · exact ⟨none, 0, by rw [hn], by omega, by omega, fun h => by omega⟩
  · unfold maxLen at hm
    refine ⟨some ⟨g, 0, none⟩, cap, rfl, hn, by omega, fun _ => ⟨g, 0, cur, rfl, hb, hg, fun i x hx => ?_⟩⟩
    have hi : i < L.length := (List.getElem?_eq_some_iff.1 hx).1
    have : (cur.toList.take (L.length * 1))[i]? = some (.string x) := by rw [ht]; simp [encs, hx]
    rw [List.getElem?_take, if_pos (by omega), Array.getElem?_toList] at this
    rw [Nat.zero_add]
    exact this
theorem ToRow.of_R {W : World} {base : Nat} {ok : Nat → Prop} {v : Value} {L : List ByteArray} (h : Kd.R Kd.string 9 W base ok v L) : ToRow W base v L := ToRow.of_own (Kd.own_of_R h)
theorem ToRow.reads {W : World} {base n c : Nat} {A : Option Addr} {L : List ByteArray} (h : ToRow W base (.slice A n c) L) : n = L.length ∧ n ≤ c ∧ Kd.C Kd.string W A L.length L := by
  obtain ⟨A', c', e, h1, h2, h3⟩ := h
  injection e with e1 e2 e3
  subst e1
  subst e2
  subst e3
  refine ⟨rfl, h1, Kd.C_of_reads (d := ByteArray.empty) ⟨rfl, h2, fun h0 => ?_⟩⟩
  obtain ⟨g, o, cur, rfl, _, hg, hc⟩ := h3 h0
  refine ⟨_, rfl, fun j hj => ?_⟩
  rw [Addr.add_lit]
  refine cell_of hg (hc j _ ?_)
  rw [List.getD_eq_getElem?_getD, List.getElem?_eq_getElem hj]
  rfl
theorem ToRow.off {S : Nat → Prop} {W W' : World} {base : Nat} {v : Value} {L : List ByteArray} (h : ToRow W base v L) (o : Off S W W') (hS : ∀ k cur, S k → W.heap[k]? ≠ some (.cells cur 9 (0, 0))) : ToRow W' base v L := by
  obtain ⟨A, c, rfl, h1, h2, h3⟩ := h
  refine ⟨A, c, rfl, h1, h2, fun h0 => ?_⟩
  obtain ⟨g, of, cur, rfl, hb, hg, hc⟩ := h3 h0
  exact ⟨g, of, cur, rfl, hb, (o.block g (lt_of_heap hg) (fun s => hS g cur s hg)).trans hg, hc⟩
theorem ToRow.below {W W' : World} {base : Nat} {v : Value} {L : List ByteArray} (h : ToRow W base v L) (hb : Below W.heap.size W W') : ToRow W' base v L :=
  h.off (Off.of_below (S := fun _ => False) hb) (fun _ _ h => h.elim)
theorem ToRow.lower {W : World} {base base' : Nat} {v : Value} {L : List ByteArray} (h : ToRow W base v L) (hb : base' ≤ base) : ToRow W base' v L := by
  obtain ⟨A, c, rfl, h1, h2, h3⟩ := h
  refine ⟨A, c, rfl, h1, h2, fun h0 => ?_⟩
  obtain ⟨g, of, cur, rfl, hbb, hg, hc⟩ := h3 h0
  exact ⟨g, of, cur, rfl, Nat.le_trans hb hbb, hg, hc⟩

/-- The walk's own block. -/
def WayAt (W : World) (wb : Nat) (at_ : Int) (v : Value) (links : Nat) : Prop := W.heap[wb]? = some (.cells #[.int .i64 0, .int .i64 at_, v, .int .i64 links] 67 (0, 0))
section
variable {W W' : World} {wb : Nat} {at_ : Int} {v : Value} {links : Nat}
theorem WayAt.c0 (h : WayAt W wb at_ v links) : W.cell? ⟨wb, 0, none⟩ = some (.int .i64 0) := cell_of h rfl
theorem WayAt.c1 (h : WayAt W wb at_ v links) : W.cell? ⟨wb, 1, none⟩ = some (.int .i64 at_) := cell_of h rfl
theorem WayAt.c2 (h : WayAt W wb at_ v links) : W.cell? ⟨wb, 2, none⟩ = some v := cell_of h rfl
theorem WayAt.c3 (h : WayAt W wb at_ v links) : W.cell? ⟨wb, 3, none⟩ = some (.int .i64 links) := cell_of h rfl
theorem WayAt.f (h : WayAt W wb at_ v links) (j : Nat) : W.frozen? ⟨wb, j, none⟩ = false := free_of h
theorem WayAt.below (h : WayAt W wb at_ v links) (hb : Below W.heap.size W W') : WayAt W' wb at_ v links := (hb.block _ (lt_of_heap h)).trans h
theorem WayAt.off {S : Nat → Prop} (h : WayAt W wb at_ v links) (o : Off S W W') (hS : ¬ S wb) : WayAt W' wb at_ v links := (o.block _ (lt_of_heap h) hS).trans h
theorem WayAt.set1 (h : WayAt W wb at_ v links) (a : Int) : WayAt (W.setCell ⟨wb, 1, none⟩ (.int .i64 a)) wb a v links := heap_set_same h _
theorem WayAt.set2 (h : WayAt W wb at_ v links) (u : Value) : WayAt (W.setCell ⟨wb, 2, none⟩ u) wb at_ u links := heap_set_same h _
theorem WayAt.set3 (h : WayAt W wb at_ v links) (n : Nat) : WayAt (W.setCell ⟨wb, 3, none⟩ (.int .i64 n)) wb at_ v n := heap_set_same h _
end
theorem off_set {wb j : Nat} (W : World) (u : Value) : Off (· = wb) W (W.setCell ⟨wb, j, none⟩ u) := (Off.refl (· = wb) W).setCell (p := ⟨wb, j, none⟩) (.inl rfl) u
theorem set_row {W : World} {wb j base : Nat} {a : Int} {v u x : Value} {l : Nat} {L : List ByteArray} (hw : WayAt W wb a x l) (h : ToRow W base v L) : ToRow (W.setCell ⟨wb, j, none⟩ u) base v L :=
  h.off (off_set W u) (fun k cur e hk => by subst e; unfold WayAt at hw; rw [hw] at hk; injection hk with hk; injection hk with _ hk; cases hk)

def folText (link : ByteArray) : ByteArray := if bt link 0 = 47 then link else (⟨#[47]⟩ : ByteArray) ++ link
def folAt (at_ : Int) (link : ByteArray) : Int := if bt link 0 = 47 then 0 else at_
theorem prefix_f (link : ByteArray) (h : 0 < link.size) : strings_HasPrefix.f link ⟨#[47]⟩ = some (decide (bt link 0 = 47)) := by
  unfold strings_HasPrefix.f stringslite_HasPrefix.f
  have e : (⟨#[47]⟩ : ByteArray).size = 1 := rfl
  rw [e, if_pos (by omega), if_pos (by omega), if_pos (by omega), Option.bind_some]
  refine congrArg some ?_
  rw [Bool.eq_iff_iff, beq_iff_eq, decide_eq_true_eq]
  obtain ⟨x, l, hx⟩ : ∃ x l, link.data.toList = x :: l := by
    cases hd : link.data.toList with
    | nil => rw [Lib.size_eq, hd] at h; cases h
    | cons x l => exact ⟨x, l, rfl⟩
  have hb := bt_nat link 0 (by rw [hx]; simp)
  have h1 : (link.extract 0 ((1 : Nat) : Int).toNat).toList = [x] := by
    rw [Lib.toList_data, Lib.extract_data, hx]; rfl
  have h2 : (⟨#[47]⟩ : ByteArray).toList = [47] := by rw [Lib.toList_data]
  rw [h1, h2]
  simp only [hx, List.getElem_cons_zero] at hb
  have hb' : bt link 0 = (x.toNat : Int) := hb
  rw [hb']
  simp only [List.cons.injEq, and_true]
  constructor
  · rintro rfl; rfl
  · intro hn
    have h3 : x.toNat = 47 := by omega
    exact UInt8.toNat_inj.1 h3

set_option maxHeartbeats 1000000 in
theorem follow_loop (wb : Nat) (at_ : Int) (v : Value) (link : ByteArray) (W : World) (h : WayAt W wb at_ v 8) :
    Calls Tryd.prog 33 #[.pointer (some ⟨wb, 0, none⟩), .string link] W fun e W' => e = .returned (.int .i64 177) ∧ W = W' := by
  have c3 := h.c3
  clear h
  go_enter Tryd.func33, Tryd.ntmps33
  go_wp2
  go_ret
  exact ⟨rfl, rfl⟩

set_option maxHeartbeats 1000000 in
theorem follow_empty (wb : Nat) (at_ : Int) (v : Value) (links : Nat) (link : ByteArray) (W : World) (h : WayAt W wb at_ v links) (hl : links < 8) (he : link.toList = []) :
    Calls Tryd.prog 33 #[.pointer (some ⟨wb, 0, none⟩), .string link] W fun e W' => e = .returned (.int .i64 160) ∧ Off (· = wb) W W' := by
  have c3 := h.c3
  have f3 := h.f 3
  have hl8 : ((links : Int) == 8) = false := by rw [beq_eq_false_iff_ne]; omega
  have he2 : link.toList.isEmpty = true := by rw [he]; rfl
  clear h
  go_enter Tryd.func33, Tryd.ntmps33
  go_wp2
  go_ret
  exact ⟨rfl, off_set _ _⟩

/-- What follow answers where a link leads somewhere. -/
def folNo (L : List ByteArray) (link : ByteArray) : Int := if (namesR (folText link)).2 = 0 then (if 64 < (namesR (folText link)).1.length + L.length then 161 else 0) else (namesR (folText link)).2
def FolEnd (wb base : Nat) (at_ : Int) (links : Nat) (L : List ByteArray) (link : ByteArray) (W : World) (e : Ending) (W' : World) : Prop :=
  e = .returned (.int .i64 (folNo L link)) ∧ Off (· = wb) W W' ∧ (folNo L link = 0 → ∃ v, WayAt W' wb (folAt at_ link) v (links + 1) ∧ ToRow W' base v ((namesR (folText link)).1 ++ L))

set_option maxHeartbeats 4000000 in
theorem follow_go (wb base : Nat) (at_ : Int) (v : Value) (links : Nat) (L : List ByteArray) (link : ByteArray) (W : World) (h : WayAt W wb at_ v links) (hL : ToRow W base v L) (hbase : base ≤ W.heap.size) (hLn : L.length ≤ 64) (hl : links < 8) (he : 0 < link.size) (hs : 1 + link.size ≤ 9223372036854775807) (sl : Bool) (hsl : decide (bt link 0 = 47) = sl) :
    Calls Tryd.prog 33 #[.pointer (some ⟨wb, 0, none⟩), .string link] W (FolEnd wb base at_ links L link W) := by
  obtain ⟨A, c, rfl, _⟩ := hL
  have hL : ToRow W base (.slice A L.length c) L := ⟨A, c, rfl, by assumption⟩
  obtain ⟨m, hm⟩ : ∃ m, m = L.length := ⟨_, rfl⟩
  have c3 := h.c3
  have f3 := h.f 3
  have hl8 : ((links : Int) == 8) = false := by rw [beq_eq_false_iff_ne]; omega
  have hne : link.toList.isEmpty = false := by
    rw [Lib.toList_data]
    cases hd : link.data.toList with
    | nil => rw [Lib.size_eq, hd] at he; cases he
    | cons x l => rfl
  have hp := prefix_f link he
  rw [hsl] at hp
  have pre := fun w => strings_HasPrefix.calls link ⟨#[47]⟩ sl w hp
  have PRE := Lib.hid pre
  have NMS := Lib.hid (fun w => names_calls (folText link) w)
  obtain ⟨tx, htx⟩ : ∃ tx, tx = folText link := ⟨_, rfl⟩
  obtain ⟨ax, hax⟩ : ∃ ax, ax = folAt at_ link := ⟨_, rfl⟩
  obtain ⟨M, hM⟩ : ∃ M, M = (namesR (folText link)).1 := ⟨_, rfl⟩
  obtain ⟨E, hE⟩ : ∃ E, E = (namesR (folText link)).2 := ⟨_, rfl⟩
  have hM64 : M.length ≤ 64 := by rw [hM]; exact namesR_len _
  have NMS : Hid (∀ w, Calls Tryd.prog 27 #[.string tx] w fun e w' => ∃ A c, e = .returned (.tuple #[.slice A M.length c, .int .i64 E]) ∧ Kd.R Kd.string 9 w' w.heap.size (fun _ => True) (.slice A M.length c) M ∧ Below w.heap.size w w') := Lib.hid (fun w => by
    rw [htx, hE, hM]
    refine (names_calls (folText link) w).mono fun e w' ⟨v, h1, h2, h3⟩ => ?_
    obtain ⟨A, c, rfl⟩ := Kd.R_slice h2
    exact ⟨A, c, h1, h2, h3⟩)
  have h1 := h.set3 (links + 1)
  have hL1 : ToRow (W.setCell ⟨wb, 3, none⟩ (.int .i64 ((links + 1 : Nat) : Int))) base (.slice A L.length c) L := set_row h hL
  have e1 : ((links + 1 : Nat) : Int) = (links : Int) + 1 := by omega
  rw [e1] at h1 hL1
  have H1 := Lib.hid h1
  have HL1 := Lib.hid hL1
  have HNO : Hid (folNo L link = if E = 0 then (if 64 < M.length + m then 161 else 0) else E) := Lib.hid (by unfold folNo; rw [← hM, ← hE, hm])
  have HM := Lib.hid hm
  have HMM := Lib.hid hM
  have HAX := Lib.hid hax
  have HTX := Lib.hid htx
  have HSL := Lib.hid hsl
  have HLE := Lib.hid (show m ≤ 64 by omega)
  have HBS := Lib.hid hbase
  rw [← hm] at hLn
  clear h hL h1 hL1 hp pre htx hax hM hE hm hsl e1 hbase
  cases sl with
  | true =>
    have hsl1 : bt link 0 = 47 := of_decide_eq_true HSL.out
    have HT : Hid (tx = link) := Lib.hid (by rw [HTX.out]; unfold folText; rw [if_pos hsl1])
    have HA : Hid (ax = 0) := Lib.hid (by rw [HAX.out]; unfold folAt; rw [if_pos hsl1])
    clear hsl1
    go_enter Tryd.func33, Tryd.ntmps33
    go_wp2_with (go_at_call 26; fail)
    refine (PRE.out _).mono ?_
    rintro e w1 ⟨rfl, hd⟩
    obtain ⟨⟨dn, rfl⟩⟩ := hd
    have K1 : WayAt ((W.setCell ⟨wb, 3, none⟩ (.int .i64 ((links : Int) + 1))).drewN dn) wb at_ (.slice A m c) (links + 1) := by rw [HM.out]; exact H1.out
    have KL1 : ToRow ((W.setCell ⟨wb, 3, none⟩ (.int .i64 ((links : Int) + 1))).drewN dn) base (.slice A m c) L := by rw [HM.out]; exact HL1.out
    have KO1 : Off (· = wb) W ((W.setCell ⟨wb, 3, none⟩ (.int .i64 ((links : Int) + 1))).drewN dn) := (off_set W _).drewN dn
    revert K1 KL1 KO1
    generalize (W.setCell ⟨wb, 3, none⟩ (.int .i64 ((links : Int) + 1))).drewN dn = W1
    intro K1 KL1 KO1
    have d0 := K1.c0
    have d1 := K1.f 1
    have d1c := K1.c1
    have H2 := Lib.hid (K1.set1 0)
    have HL2 := Lib.hid (set_row (j := 1) (u := .int .i64 0) K1 KL1)
    have HO2 := Lib.hid (KO1.trans (off_set (j := 1) W1 (.int .i64 0)))
    clear K1 KL1 KO1 H1 HL1 c3 f3
    go_wp2_with (go_at_call 27; fail)
    rw [← HT.out]
    refine (NMS.out _).mono ?_
    rintro e w3 ⟨A3, k3, rfl, r3, b3⟩
    have H3 := Lib.hid (H2.out.below b3)
    have L3 := Lib.hid (HL2.out.below b3)
    have O3 := Lib.hid (HO2.out.trans (Off.of_below (S := (· = wb)) b3) : Off (· = wb) W w3)
    have R3 := Lib.hid r3
    have d2 := H3.out.c2
    have g2 := H3.out.f 2
    have W2SZ := Lib.hid HO2.out.size
    clear r3 b3 H2 HL2 HO2 PRE NMS
    by_cases hE0 : E = 0
    · have hEb : (E != 0) = false := by rw [hE0]; rfl
      have HE := Lib.hid hE0
      clear hE0
      by_cases h64 : 64 < M.length + m
      · have H64 := Lib.hid h64
        go_wp2
        go_ret
        exact ⟨by rw [HNO.out, if_pos HE.out, if_pos H64.out]; rfl, O3.out, fun h0 => by rw [HNO.out, if_pos HE.out, if_pos H64.out] at h0; cases h0⟩
      · have H64 := Lib.hid h64
        have h64' : ¬ (64 : Int) < (M.length : Int) + (m : Int) := by omega
        have hml := H64.out
        clear h64
        go_wp2_with ((with_reducible refine gate_builtin (b := .append) (xs := #[.tmp 50, .tmp 54]) rfl ?_); at_builtin; refine Kd.R_append_rows Kd.string (w0 := w3) base rfl (.tmp 50) (.tmp 54) 22 9 (.string ⟨#[]⟩) 16 rfl Tryd.underlying22 info9 rfl (by decide) (by decide) _ M L _ _ _ (fun _ => True) (fun _ => False) rfl rfl ?aO ?aR (fun _ _ h => h) (fun _ h => h.elim) ?aF ?aB ?aS ?aL ?_; (case aR => (have q := L3.out.reads; rw [HM.out]; exact q.2.2)); (case aB => exact Below.refl _ _); (case aF => exact fun _ _ => trivial); (case aO => exact Kd.R_lower R3.out (Nat.le_trans HBS.out W2SZ.out)); (case aS => exact (by have := O3.out.size; have := HBS.out; omega)); (case aL => omega); intro v5 w5 ho hb hg hat; obtain ⟨A5, k5, rfl⟩ := Kd.R_slice ho; have R5 := Lib.hid (ToRow.of_R ho); have O5 := Lib.hid (O3.out.grown hg (fun k hk => .inr (Nat.le_trans W2SZ.out (own_base (Kd.own_of_R R3.out) k hk)))); have H5 := Lib.hid (show WayAt w5 wb 0 (.slice A m c) (links + 1) from (hg.block wb (lt_of_heap H3.out) (Kd.R_ne R3.out H3.out (by decide))).trans H3.out); have u2 := H5.out.c2; have v2 := H5.out.f 2; clear ho hb hg hat)
        go_ret
        refine ⟨by rw [HNO.out, if_pos HE.out, if_neg H64.out]; rfl, O5.out.trans (off_set w5 _), fun _ => ⟨_, by rw [← HAX.out, HA.out]; exact H5.out.set2 _, ?_⟩⟩
        rw [← HMM.out]
        have q := R5.out
        rw [List.length_append] at q
        exact set_row H5.out q
    · have hEb : (E != 0) = true := by rw [bne_iff_ne]; exact hE0
      have HE := Lib.hid hE0
      clear hE0
      go_wp2
      go_ret
      exact ⟨by rw [HNO.out, if_neg HE.out]; rfl, O3.out, fun h0 => by rw [HNO.out, if_neg HE.out] at h0; exact absurd h0 HE.out⟩
  | false =>
    have hsl1 : ¬ bt link 0 = 47 := of_decide_eq_false HSL.out
    have HT : Hid (tx = (⟨#[47]⟩ : ByteArray) ++ link) := Lib.hid (by rw [HTX.out]; unfold folText; rw [if_neg hsl1])
    have HA : Hid (ax = at_) := Lib.hid (by rw [HAX.out]; unfold folAt; rw [if_neg hsl1])
    clear hsl1
    go_enter Tryd.func33, Tryd.ntmps33
    go_wp2_with (go_at_call 26; fail)
    refine (PRE.out _).mono ?_
    rintro e w1 ⟨rfl, hd⟩
    obtain ⟨⟨dn, rfl⟩⟩ := hd
    have K1 : WayAt ((W.setCell ⟨wb, 3, none⟩ (.int .i64 ((links : Int) + 1))).drewN dn) wb at_ (.slice A m c) (links + 1) := by rw [HM.out]; exact H1.out
    have KL1 : ToRow ((W.setCell ⟨wb, 3, none⟩ (.int .i64 ((links : Int) + 1))).drewN dn) base (.slice A m c) L := by rw [HM.out]; exact HL1.out
    have KO1 : Off (· = wb) W ((W.setCell ⟨wb, 3, none⟩ (.int .i64 ((links : Int) + 1))).drewN dn) := (off_set W _).drewN dn
    revert K1 KL1 KO1
    generalize (W.setCell ⟨wb, 3, none⟩ (.int .i64 ((links : Int) + 1))).drewN dn = W1
    intro K1 KL1 KO1
    have H2 := Lib.hid K1
    have HL2 := Lib.hid KL1
    have HO2 := Lib.hid KO1
    clear K1 KL1 KO1 H1 HL1 c3 f3
    go_wp2_with (go_at_call 27; fail)
    rw [← HT.out]
    refine (NMS.out _).mono ?_
    rintro e w3 ⟨A3, k3, rfl, r3, b3⟩
    have H3 := Lib.hid (H2.out.below b3)
    have L3 := Lib.hid (HL2.out.below b3)
    have O3 := Lib.hid (HO2.out.trans (Off.of_below (S := (· = wb)) b3) : Off (· = wb) W w3)
    have R3 := Lib.hid r3
    have d2 := H3.out.c2
    have g2 := H3.out.f 2
    have W2SZ := Lib.hid HO2.out.size
    clear r3 b3 H2 HL2 HO2 PRE NMS
    by_cases hE0 : E = 0
    · have hEb : (E != 0) = false := by rw [hE0]; rfl
      have HE := Lib.hid hE0
      clear hE0
      by_cases h64 : 64 < M.length + m
      · have H64 := Lib.hid h64
        go_wp2
        go_ret
        exact ⟨by rw [HNO.out, if_pos HE.out, if_pos H64.out]; rfl, O3.out, fun h0 => by rw [HNO.out, if_pos HE.out, if_pos H64.out] at h0; cases h0⟩
      · have H64 := Lib.hid h64
        have h64' : ¬ (64 : Int) < (M.length : Int) + (m : Int) := by omega
        have hml := H64.out
        clear h64
        go_wp2_with ((with_reducible refine gate_builtin (b := .append) (xs := #[.tmp 50, .tmp 54]) rfl ?_); at_builtin; refine Kd.R_append_rows Kd.string (w0 := w3) base rfl (.tmp 50) (.tmp 54) 22 9 (.string ⟨#[]⟩) 16 rfl Tryd.underlying22 info9 rfl (by decide) (by decide) _ M L _ _ _ (fun _ => True) (fun _ => False) rfl rfl ?aO ?aR (fun _ _ h => h) (fun _ h => h.elim) ?aF ?aB ?aS ?aL ?_; (case aR => (have q := L3.out.reads; rw [HM.out]; exact q.2.2)); (case aB => exact Below.refl _ _); (case aF => exact fun _ _ => trivial); (case aO => exact Kd.R_lower R3.out (Nat.le_trans HBS.out W2SZ.out)); (case aS => exact (by have := O3.out.size; have := HBS.out; omega)); (case aL => omega); intro v5 w5 ho hb hg hat; obtain ⟨A5, k5, rfl⟩ := Kd.R_slice ho; have R5 := Lib.hid (ToRow.of_R ho); have O5 := Lib.hid (O3.out.grown hg (fun k hk => .inr (Nat.le_trans W2SZ.out (own_base (Kd.own_of_R R3.out) k hk)))); have H5 := Lib.hid (show WayAt w5 wb at_ (.slice A m c) (links + 1) from (hg.block wb (lt_of_heap H3.out) (Kd.R_ne R3.out H3.out (by decide))).trans H3.out); have u2 := H5.out.c2; have v2 := H5.out.f 2; clear ho hb hg hat)
        go_ret
        refine ⟨by rw [HNO.out, if_pos HE.out, if_neg H64.out]; rfl, O5.out.trans (off_set w5 _), fun _ => ⟨_, by rw [← HAX.out, HA.out]; exact H5.out.set2 _, ?_⟩⟩
        rw [← HMM.out]
        have q := R5.out
        rw [List.length_append] at q
        exact set_row H5.out q
    · have hEb : (E != 0) = true := by rw [bne_iff_ne]; exact hE0
      have HE := Lib.hid hE0
      clear hE0
      go_wp2
      go_ret
      exact ⟨by rw [HNO.out, if_neg HE.out]; rfl, O3.out, fun h0 => by rw [HNO.out, if_neg HE.out] at h0; exact absurd h0 HE.out⟩
end Go.Proofs.YtbinnghemkppdaaDoor
