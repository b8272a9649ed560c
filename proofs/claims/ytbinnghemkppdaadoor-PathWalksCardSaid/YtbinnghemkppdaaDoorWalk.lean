/- path.Walk through a tree that answers as the reference's. -/
import Derived.Test.YtbinnghemkppdaaDoorWalkPure
import Derived.Deep.LoopGhost
namespace Go.Proofs.YtbinnghemkppdaaDoor
open Go.RowKit Go.Proofs Go.Proofs.YtbinnghemkppdaaDoorW.PrintWords Go.Proofs.YtbinnghemkppdaaDoorW.PrintLast Go.Proofs.YtbinnghemkppdaaDoorW.PrintMore
open PHDPathWalks
set_option linter.unusedVariables false
set_option linter.unusedSimpArgs false

/-- What follow answers, whatever the link. -/
def folAll (links : Nat) (L : List ByteArray) (link : ByteArray) : Int := if links = 8 then 177 else if link.size = 0 then 160 else folNo L link
def FolAll (wb base : Nat) (at_ : Int) (links : Nat) (L : List ByteArray) (link : ByteArray) (W : World) (e : Ending) (W' : World) : Prop :=
  e = .returned (.int .i64 (folAll links L link)) ∧ Off (· = wb) W W' ∧ (folAll links L link = 0 → links < 8 ∧ ∃ v, WayAt W' wb (folAt at_ link) v (links + 1) ∧ ToRow W' base v ((namesR (folText link)).1 ++ L))
theorem follow_any (wb base : Nat) (at_ : Int) (v : Value) (links : Nat) (L : List ByteArray) (link : ByteArray) (W : World) (h : WayAt W wb at_ v links) (hL : ToRow W base v L) (hbase : base ≤ W.heap.size) (hLn : L.length ≤ 64) (hl : links ≤ 8) (hs : link.size ≤ 140737488351232) :
    Calls Tryd.prog 33 #[.pointer (some ⟨wb, 0, none⟩), .string link] W (FolAll wb base at_ links L link W) := by
  by_cases h8 : links = 8
  · subst h8
    exact (follow_loop wb at_ v link W h).mono fun e W' ⟨h1, h2⟩ => ⟨h1, h2 ▸ Off.refl _ _, fun h => by cases h⟩
  by_cases hz : link.size = 0
  · have he : link.toList = [] := by rw [Lib.toList_data]; rw [Lib.size_eq] at hz; exact List.eq_nil_of_length_eq_zero hz
    refine (follow_empty wb at_ v links link W h (by omega) he).mono fun e W' ⟨h1, h2⟩ => ?_
    unfold FolAll folAll
    rw [if_neg h8, if_pos hz]
    exact ⟨h1, h2, fun h => by cases h⟩
  · refine (follow_go wb base at_ v links L link W h hL hbase hLn (by omega) (by omega) (by omega) _ rfl).mono fun e W' ⟨h1, h2, h3⟩ => ?_
    unfold FolAll folAll
    rw [if_neg h8, if_neg hz]
    exact ⟨h1, h2, fun h => ⟨by omega, h3 h⟩⟩
inductive Round3 (T : TD) (last : Bool) (n : ByteArray) (t : List ByteArray) (at_ : Int) (links : Nat) (as_ : List S46) (R : Int × List S46 × Int) (k : Nat) (r1 : Int) (r2 : ByteArray) (r3 : Bool) (r4 : Int) : Prop
  | err (h : r4 ≠ 0) (hR : R = (0, as_ ++ [⟨at_, n⟩], r4))
  | on (h : r4 = 0) (hb : goesOn t last r3 = true) (k' : Nat) (hR : T.l0 k' last t r1 links (as_ ++ [⟨at_, n⟩]) = some R)
  | no (h : r4 = 0) (hb : goesOn t last r3 = false) (hf : folAll links t r2 ≠ 0) (hR : R = (0, as_ ++ [⟨at_, n⟩], folAll links t r2))
  | follow (h : r4 = 0) (hb : goesOn t last r3 = false) (hf : folAll links t r2 = 0) (h64 : (namesR (folText r2)).1.length + t.length ≤ 64) (k' : Nat) (hR : T.l0 k' last ((namesR (folText r2)).1 ++ t) (folAt at_ r2) ((links + 1 : Nat) : Int) (as_ ++ [⟨at_, n⟩]) = some R)
theorem round3 {T : TD} {last : Bool} {n : ByteArray} {t : List ByteArray} {at_ : Int} {links : Nat} {as_ : List S46} {R : Int × List S46 × Int} (h : Round T last n t at_ links as_ R) :
    ∃ k r1 r2 r3 r4, T.step k at_ n = some (r1, r2, r3, r4) ∧ Round3 T last n t at_ links as_ R k r1 r2 r3 r4 := by
  cases h with
  | err k r hs h hR => exact ⟨k, r.1, r.2.1, r.2.2.1, r.2.2.2, hs, .err h hR⟩
  | on k r hs h hb k' hR => exact ⟨k, r.1, r.2.1, r.2.2.1, r.2.2.2, hs, .on h hb k' hR⟩
  | loop k r hs h hb h8 hR =>
    have e : folAll links t r.2.1 = 177 := by unfold folAll; rw [if_pos h8]
    exact ⟨k, r.1, r.2.1, r.2.2.1, r.2.2.2, hs, .no h hb (by rw [e]; decide) (by rw [e]; exact hR)⟩
  | empty k r hs h hb h8 hz hR =>
    have e : folAll links t r.2.1 = 160 := by unfold folAll; rw [if_neg (by omega), if_pos hz]
    exact ⟨k, r.1, r.2.1, r.2.2.1, r.2.2.2, hs, .no h hb (by rw [e]; decide) (by rw [e]; exact hR)⟩
  | bad k r hs h hb h8 hz hf hR =>
    have e : folAll links t r.2.1 = folNo t r.2.1 := by unfold folAll; rw [if_neg (by omega), if_neg (by omega)]
    exact ⟨k, r.1, r.2.1, r.2.2.1, r.2.2.2, hs, .no h hb (by rw [e]; exact hf) (by rw [e]; exact hR)⟩
  | follow k r hs h hb h8 hz hf h64 k' hR =>
    have e : folAll links t r.2.1 = folNo t r.2.1 := by unfold folAll; rw [if_neg (by omega), if_neg (by omega)]
    exact ⟨k, r.1, r.2.1, r.2.2.1, r.2.2.2, hs, .follow h hb (by rw [e]; exact hf) h64 k' hR⟩

/-- What holds at a round's head: what is left of the way, what was asked. -/
structure WSt (T : TD) (last : Bool) (R : Int × List S46 × Int) (w0 : World) (gb tb wb base : Nat) (at_ : Int) (links : Nat) (L : List ByteArray) (v gv : Value) (as_ : List S46) (W : World) : Prop where
  way : WayAt W wb at_ v links
  row : ToRow W base v L
  got : Got W gb base gv as_
  tree : TBox W tb T
  below : Below w0.heap.size w0 W
  hgb : w0.heap.size ≤ gb
  hbase : w0.heap.size ≤ base
  hwb : base ≤ wb
  hl : links ≤ 8
  hL : L.length ≤ 64
  ha : as_.length + (65 * (8 - links) + L.length) ≤ 100000
  ref : ∃ k, T.l0 k last L at_ links as_ = some R
structure Mid (T : TD) (w0 : World) (gb tb wb base : Nat) (at_ : Int) (links : Nat) (t : List ByteArray) (gv : Value) (as_ : List S46) (W : World) (v : Value) : Prop where
  way : WayAt W wb at_ v links
  row : ToRow W base v t
  got : Got W gb base gv as_
  tree : TBox W tb T
  below : Below w0.heap.size w0 W
  hgb : w0.heap.size ≤ gb
  hbase : w0.heap.size ≤ base
  hwb : base ≤ wb
  nwg : wb ≠ gb
  nwt : wb ≠ tb
  ntg : tb ≠ gb
theorem Mid.step {T : TD} {w0 : World} {gb tb wb base : Nat} {at_ : Int} {links : Nat} {t : List ByteArray} {gv gv' : Value} {as_ as' : List S46} {W W' : World} {v : Value} (M : Mid T w0 gb tb wb base at_ links t gv as_ W v) (hG : Got W' gb base gv' as') (hO : Off (fun k => k = gb ∨ gv.ownBlock = some k) W W') : Mid T w0 gb tb wb base at_ links t gv' as' W' v := by
  refine ⟨M.way.off hO (fun h => h.elim M.nwg (fun h => Kd.R_ne M.got.2 M.way (by decide) h.symm)), M.row.off hO (fun k cur hS hk => ?_), hG, ?_, ?_, M.hgb, M.hbase, M.hwb, M.nwg, M.nwt, M.ntg⟩
  · rcases hS with rfl | hS
    · rw [M.got.1] at hk
      injection hk with hk
      injection hk with _ hk
      cases hk
    · exact Kd.R_ne M.got.2 hk (by decide) hS.symm
  · exact (hO.block tb (lt_of_heap M.tree) (fun h => h.elim M.ntg (fun h => Kd.R_ne M.got.2 M.tree (by decide) h.symm))).trans M.tree
  · obtain ⟨inner, ho⟩ := Kd.R_own M.got.2
    exact M.below.trans (hO.below M.below.size (fun i hi => hi.elim (fun e => e ▸ M.hgb) (fun e => Nat.le_trans M.hbase (own_base ho i e))))
theorem Mid.next {T : TD} {w0 : World} {gb tb wb base : Nat} {at_ : Int} {links : Nat} {t : List ByteArray} {gv : Value} {as_ : List S46} {W : World} {v : Value} (M : Mid T w0 gb tb wb base at_ links t gv as_ W v) (a : Int) : Mid T w0 gb tb wb base a links t gv as_ (W.setCell ⟨wb, 1, none⟩ (.int .i64 a)) v :=
  ⟨M.way.set1 a, set_row M.way M.row, ⟨(heap_set_ne _ (Ne.symm M.nwg)).trans M.got.1, Kd.R_mono (Kd.R_far (Kd.R_types M.got.2 M.way (by decide)) (fun k hk => hk.2) _) (fun _ _ => trivial)⟩, (heap_set_ne _ (Ne.symm M.nwt)).trans M.tree, M.below.setCell (p := ⟨wb, 1, none⟩) (Nat.le_trans M.hbase M.hwb) _, M.hgb, M.hbase, M.hwb, M.nwg, M.nwt, M.ntg⟩
theorem Mid.fol {T : TD} {w0 : World} {gb tb wb base : Nat} {at_ a : Int} {links l' : Nat} {t t' : List ByteArray} {gv : Value} {as_ : List S46} {W W' : World} {v v' : Value} (M : Mid T w0 gb tb wb base at_ links t gv as_ W v) (hO : Off (· = wb) W W') (hw : WayAt W' wb a v' l') (hr : ToRow W' base v' t') : Mid T w0 gb tb wb base a l' t' gv as_ W' v' := by
  have hb : Below wb W W' := hO.below (Nat.le_of_lt (lt_of_heap M.way)) (fun i hi => Nat.le_of_eq hi.symm)
  refine ⟨hw, hr, ⟨(hO.block gb (lt_of_heap M.got.1) (Ne.symm M.nwg)).trans M.got.1, ?_⟩, (hO.block tb (lt_of_heap M.tree) (Ne.symm M.nwt)).trans M.tree, M.below.trans (hb.mono (Nat.le_trans M.hbase M.hwb)), M.hgb, M.hbase, M.hwb, M.nwg, M.nwt, M.ntg⟩
  exact Kd.R_mono (Kd.R_step (Kd.R_types M.got.2 M.way (by decide)) (fun k hk hlt => hO.block k hlt hk.2)) (fun _ _ => trivial)
theorem Mid.end_ {T : TD} {w0 : World} {gb tb wb base : Nat} {at_ : Int} {links : Nat} {t : List ByteArray} {gv : Value} {as_ : List S46} {W W' : World} {v : Value} (M : Mid T w0 gb tb wb base at_ links t gv as_ W v) (hO : Off (· = wb) W W') : Got W' gb base gv as_ ∧ Below w0.heap.size w0 W' := by
  have hb : Below wb W W' := hO.below (Nat.le_of_lt (lt_of_heap M.way)) (fun i hi => Nat.le_of_eq hi.symm)
  exact ⟨⟨(hO.block gb (lt_of_heap M.got.1) (Ne.symm M.nwg)).trans M.got.1, Kd.R_mono (Kd.R_step (Kd.R_types M.got.2 M.way (by decide)) (fun k hk hlt => hO.block k hlt hk.2)) (fun _ _ => trivial)⟩, M.below.trans (hb.mono (Nat.le_trans M.hbase M.hwb))⟩
theorem Mid.wst {T : TD} {last : Bool} {R : Int × List S46 × Int} {w0 : World} {gb tb wb base : Nat} {at_ : Int} {links : Nat} {t : List ByteArray} {gv : Value} {as_ : List S46} {W : World} {v : Value} (M : Mid T w0 gb tb wb base at_ links t gv as_ W v) (hl : links ≤ 8) (hL : t.length ≤ 64) (ha : as_.length + (65 * (8 - links) + t.length) ≤ 100000) {k : Nat} (hR : T.l0 k last t at_ links as_ = some R) : WSt T last R w0 gb tb wb base at_ links t v gv as_ W :=
  ⟨M.way, M.row, M.got, M.tree, M.below, M.hgb, M.hbase, M.hwb, hl, hL, ha, k, hR⟩
def WRel (T : TD) (last : Bool) (R : Int × List S46 × Int) (w0 : World) (gb tb wb base : Nat) (g : Nat) (W : World) : Prop :=
  ∃ at_ links L v gv as_, WSt T last R w0 gb tb wb base at_ links L v gv as_ W ∧ 65 * (8 - links) + L.length ≤ g
def WEnd (R : Int × List S46 × Int) (w0 : World) (gb base : Nat) (e : Ending) (W : World) : Prop :=
  e = .returned (.tuple #[.int .i64 R.1, .int .i64 R.2.2]) ∧ (∃ gv, Got W gb base gv R.2.1) ∧ Below w0.heap.size w0 W

set_option maxRecDepth 100000 in
set_option maxHeartbeats 4000000 in
theorem walk_loop (T : TD) (hT : T.Ok) (s : ByteArray) (last : Bool) (R : Int × List S46 × Int) (k : Nat) (w0 W : World) (gb tb base : Nat) (hC : TreeC w0 T) (hs : s.size ≤ 140737488351300) (hR : T.walk k s last = some R) (hp0 : (splitR s).2 = 0)
    (hgot : Got W gb base (.slice none 0 0) []) (htree : TBox W tb T) (hbel : Below w0.heap.size w0 W) (hgb : w0.heap.size ≤ gb) (hbase : w0.heap.size ≤ base) (hbW : base ≤ W.heap.size) :
    Calls Tryd.prog 16 #[.int .i64 0, .string s, .bool last, .func (.func 17) #[] #[.pointer (some ⟨gb, 0, none⟩), .pointer (some ⟨tb, 0, none⟩)]] W (WEnd R w0 gb base) := by
  have sp := fun w => path_Split.calls s (splitR s).1 (splitR s).2 w (split_eq s)
  rw [hp0] at sp
  have h64 := splitR_len s
  have href : ∃ k, T.l0 k last (splitR s).1 0 0 [] = some R := by
    rcases walk_cut hs hR with ⟨_, h⟩ | ⟨h, _⟩
    · exact ⟨k, h⟩
    · exact absurd hp0 h
  obtain ⟨L0, hL0⟩ : ∃ L0, L0 = (splitR s).1 := ⟨_, rfl⟩
  rw [← hL0] at sp h64 href
  have SP := Lib.hid sp
  have HREF := Lib.hid href
  have H64 := Lib.hid h64
  have HGOT := Lib.hid hgot
  have HTREE := Lib.hid htree
  have HBEL := Lib.hid hbel
  have HGB := Lib.hid hgb
  have HBASE := Lib.hid hbase
  have HBW := Lib.hid hbW
  have HC := Lib.hid hC
  have HTK := Lib.hid hT
  clear sp href h64 hL0 hgot htree hbel hgb hbase hbW hC hT hR hp0 hs
  go_enter Tryd.func16, Tryd.ntmps16
  go_wp2_with (go_at_call 10; fail)
  refine (SP.out _).mono ?_
  rintro e w1 ⟨v, rfl, r1, b1⟩
  obtain ⟨A, c, rfl⟩ := Kd.R_slice r1
  obtain ⟨wb, hwb⟩ : ∃ wb, wb = w1.heap.size := ⟨_, rfl⟩
  have b2 : Below w1.heap.size w1 (w1.alloc (.cells #[.int .i64 0, .int .i64 0, .slice A L0.length c, .int .i64 ((0 : Nat) : Int)] 67)) := (Below.refl _ _).alloc (Nat.le_refl _) _
  have K : WSt T last R w0 gb tb wb base 0 0 L0 (.slice A L0.length c) (.slice none 0 0) [] (w1.alloc (.cells #[.int .i64 0, .int .i64 0, .slice A L0.length c, .int .i64 ((0 : Nat) : Int)] 67)) := by
    have e1 := b1.size
    refine ⟨by rw [hwb]; exact heap_alloc_new w1 _, (((ToRow.of_R r1).lower (Nat.le_trans HBW.out (Nat.le_refl _)))).below b2, ⟨heap_alloc_old ((b1.block gb (lt_of_heap HGOT.out.1)).trans HGOT.out.1) _, Kd.R_nil _ _ _ _ _⟩, heap_alloc_old ((b1.block tb (lt_of_heap HTREE.out)).trans HTREE.out) _, ?_, HGB.out, HBASE.out, by rw [hwb]; exact Nat.le_trans HBW.out e1, by omega, H64.out, by have := H64.out; simp; omega, HREF.out⟩
    exact (HBEL.out.trans (b1.mono HBEL.out.size)).alloc (Nat.le_trans HBEL.out.size e1) _
  --LOOP
  go_wp2_with fail
  rw [← hwb]
  revert K
  generalize w1.alloc (.cells #[.int .i64 0, .int .i64 0, .slice A L0.length c, .int .i64 0] 67) = W1
  intro K
  have K1 : Hid (WRel T last R w0 gb tb wb base 1000 W1) := Lib.hid ⟨0, 0, L0, _, _, _, K, by have := H64.out; omega⟩
  clear K b2 r1 b1 hwb SP HREF H64 HGOT HTREE HBEL HBW
  go_loopg [14] 1000 (fun g x14 wr => WRel T last R w0 gb tb wb base g wr)
  case atStart => exact K1.out
  case round =>
    obtain ⟨at_, links, L, v, gv, as_, S, hg⟩ := hrel
    clear K1
    obtain ⟨A, c, rfl, hLc, _, hrow⟩ := S.row
    cases L with
    | nil =>
      have d1 := S.way.c1
      have d2 : wr.cell? ⟨wb, 2, none⟩ = some (.slice A 0 c) := S.way.c2
      have hR : R = (at_, as_, 0) := by
        obtain ⟨k, hk⟩ := S.ref
        cases k with
        | zero => rw [l0_zero] at hk; cases hk
        | succ k => rw [l0_nil] at hk; exact (Option.some.inj hk).symm
      have HR := Lib.hid hR
      have HS := Lib.hid S
      clear hR S hrow hLc
      go_wp2
      refine bodyPost_ret (results_tmp2 rfl _ _ _) rfl ?_
      refine ⟨?_, ⟨gv, ?_⟩, HS.out.below⟩
      · rw [HR.out]; rfl
      · rw [HR.out]; exact HS.out.got
    | cons n t =>
      obtain ⟨gr, o, cur, rfl, hbg, hgr, hcur⟩ := hrow (by simp)
      have d0 : wr.cell? ⟨gr, o, none⟩ = some (.string n) := cell_of hgr (hcur 0 n rfl)
      have d1 := S.way.c1
      have d2 : wr.cell? ⟨wb, 2, none⟩ = some (.slice (some ⟨gr, o, none⟩) (t.length + 1) c) := S.way.c2
      have f2 := S.way.f 2
      have htl : t.length ≤ 63 := by have := S.hL; simp at this; omega
      simp only [List.length_cons] at hg
      have hasl : as_.length + (65 * (8 - links) + t.length) + 1 ≤ 100000 := by have := S.ha; simp at this; omega
      have hlc : t.length + 1 ≤ c := by simpa using hLc
      have hrnd := round3 (by
        obtain ⟨k, hk⟩ := S.ref
        exact l0_round HTK.out hk S.hl (by omega) (by omega))
      obtain ⟨ks, q1, q2, q3, q4, hstep, hcase⟩ := hrnd
      have hq2 := step_link HTK.out hstep
      have rows : ∀ o', (o' = o + 1 ∨ t = []) → ToRow (wr.setCell ⟨wb, 2, none⟩ (.slice (some ⟨gr, o', none⟩) t.length (c - 1))) base (.slice (some ⟨gr, o', none⟩) t.length (c - 1)) t := fun o' ho => by
        refine set_row (L := t) S.way ⟨_, _, rfl, by omega, by omega, fun h0 => ⟨gr, o', cur, rfl, hbg, hgr, fun i x hx => ?_⟩⟩
        rcases ho with rfl | rfl
        · rw [Nat.add_assoc, Nat.add_comm 1 i]
          exact hcur (i + 1) x (by simpa using hx)
        · cases h0
      have ways : ∀ u, WayAt (wr.setCell ⟨wb, 2, none⟩ u) wb at_ u links := fun u => S.way.set2 u
      have nwg : wb ≠ gb := by
        rintro rfl
        have a1 := S.way
        have a2 := S.got.1
        unfold WayAt at a1
        rw [a1] at a2
        injection a2 with a2
        injection a2 with _ a2
        cases a2
      have nwt : wb ≠ tb := by
        rintro rfl
        have a1 := S.way
        have a2 := S.tree
        unfold WayAt at a1
        unfold TBox at a2
        rw [a1] at a2
        injection a2 with a2
        injection a2 with _ a2
        cases a2
      have ntg : tb ≠ gb := by
        rintro rfl
        have a1 := S.tree
        have a2 := S.got.1
        unfold TBox at a1
        rw [a1] at a2
        injection a2 with a2
        injection a2 with _ a2
        cases a2
      have gots : ∀ u, Got (wr.setCell ⟨wb, 2, none⟩ u) gb base gv as_ := fun u => ⟨(heap_set_ne _ (Ne.symm nwg)).trans S.got.1, Kd.R_mono (Kd.R_far (Kd.R_types S.got.2 S.way (by decide)) (fun k hk => hk.2) _) (fun _ _ => trivial)⟩
      have trees : ∀ u, TBox (wr.setCell ⟨wb, 2, none⟩ u) tb T := fun u => (heap_set_ne _ (Ne.symm nwt)).trans S.tree
      have bels : ∀ u, Below w0.heap.size w0 (wr.setCell ⟨wb, 2, none⟩ u) := fun u => S.below.setCell (p := ⟨wb, 2, none⟩) (Nat.le_trans S.hbase S.hwb) _
      have MID : Hid (∀ o', (o' = o + 1 ∨ t = []) → Mid T w0 gb tb wb base at_ links t gv as_ (wr.setCell ⟨wb, 2, none⟩ (.slice (some ⟨gr, o', none⟩) t.length (c - 1))) (.slice (some ⟨gr, o', none⟩) t.length (c - 1))) := Lib.hid fun o' ho =>
        ⟨ways _, rows o' ho, gots _, trees _, bels _, S.hgb, S.hbase, S.hwb, nwg, nwt, ntg⟩
      have HSTEP := Lib.hid hstep
      have HCASE := Lib.hid hcase
      have HQ2 := Lib.hid hq2
      have HG := Lib.hid hg
      have HAS := Lib.hid hasl
      have HLK := Lib.hid S.hl
      clear S hrow hcur hgr hbg hLc rows ways gots trees bels nwg nwt ntg hstep hcase hq2 hg hasl
      by_cases hc1 : c = 1
      · subst hc1
        have ht0 : t.length = 0 := by omega
        have M := MID.out o (.inr (List.eq_nil_of_length_eq_zero ht0))
        rw [ht0] at M
        have HT0 := Lib.hid ht0
        clear MID ht0
        go_wp2_with (go_at_call 17; fail)
        refine (ask_calls gb tb base ks gv as_ at_ n T q1 q2 q3 q4 w0 _ HC.out M.below M.hbase M.hgb M.got M.tree (Nat.le_trans M.hwb (Nat.le_of_lt (lt_of_heap M.way))) (by have := HAS.out; omega) HSTEP.out).mono ?_
        rintro e w2 ⟨rfl, ⟨gv2, hG2⟩, hO⟩
        have M2 := Lib.hid (M.step hG2 hO)
        clear M hG2 hO d0 d1 d2 f2
        have hcase := HCASE.out
        clear HCASE HSTEP
        cases hcase with
        | err h hR =>
          have hq : (q4 != 0) = true := by rw [bne_iff_ne]; exact h
          have HR := Lib.hid hR
          clear h hR
          go_wp2
          refine bodyPost_ret (results_tmp2 rfl _ _ _) rfl ?_
          refine ⟨by rw [HR.out]; rfl, ⟨gv2, by rw [HR.out]; exact M2.out.got⟩, M2.out.below⟩
        | on h hb k' hR =>
          subst h
          have HR := Lib.hid hR
          clear hR
          have c1 := M2.out.way.c1
          have c2 : w2.cell? ⟨wb, 2, none⟩ = some (.slice (some ⟨gr, o, none⟩) 0 0) := M2.out.way.c2
          have g1 := M2.out.way.f 1
          cases q3 with
          | false =>
            clear hb
            go_wp2
            go_roundg (65 * (8 - links) + t.length)
            case measure => have := HG.out; omega
            case rel => exact ⟨q1, links, t, _, gv2, _, (M2.out.next q1).wst HLK.out (by omega) (by have := HAS.out; simp; omega) HR.out, Nat.le_refl _⟩
          | true =>
            have hb2 : t = [] ∧ last = false := by simpa [goesOn] using hb
            clear hb
            obtain ⟨ht, hla⟩ := hb2
            subst ht
            subst hla
            try simp only [List.length_nil] at c2
            go_wp2
            go_roundg (65 * (8 - links) + 0)
            case measure => have := HG.out; simp at this; omega
            case rel => exact ⟨q1, links, [], _, gv2, _, (M2.out.next q1).wst HLK.out (by simp) (by have := HAS.out; simp at this ⊢; omega) HR.out, Nat.le_refl _⟩
        | no h hb hf hR =>
          subst h
          have HR := Lib.hid hR
          obtain ⟨F, hF⟩ : ∃ F, F = folAll links t q2 := ⟨_, rfl⟩
          have hq : (F != 0) = true := by rw [bne_iff_ne, hF]; exact hf
          have HFF := Lib.hid hF
          clear hR hf hF
          have c1 := M2.out.way.c1
          have c2 : w2.cell? ⟨wb, 2, none⟩ = some (.slice (some ⟨gr, o, none⟩) 0 0) := M2.out.way.c2
          have hoff : (t = [] ∧ last = true) ∨ 0 < t.length := by
            cases q3 <;> cases t <;> cases last <;> simp [goesOn] at hb ⊢
          have hq3 : q3 = true := by cases q3; simp [goesOn] at hb; rfl
          subst hq3
          clear hb
          rcases hoff with ⟨ht, hla⟩ | ht
          · subst ht
            subst hla
            try simp only [List.length_nil] at c2
            go_wp2_with (go_at_call 33; fail)
            refine (follow_any wb base at_ _ links [] q2 _ M2.out.way M2.out.row (Nat.le_trans M2.out.hwb (Nat.le_of_lt (lt_of_heap M2.out.way))) (by omega) HLK.out HQ2.out).mono ?_
            rintro e w3 ⟨rfl, hO3, hF3⟩
            rw [← HFF.out] at hF3 ⊢
            have O3 := Lib.hid hO3
            clear hO3 hF3 c1 c2
            go_wp2
            refine bodyPost_ret (results_tmp2 rfl _ _ _) rfl ?_
            have me := M2.out.end_ O3.out
            refine ⟨by rw [HR.out, ← HFF.out]; rfl, ⟨gv2, by rw [HR.out]; exact me.1⟩, me.2⟩
          · exact absurd ht (by have := HT0.out; omega)
        | follow h hb hf h64f k' hR =>
          subst h
          have HR := Lib.hid hR
          obtain ⟨F, hF⟩ : ∃ F, F = folAll links t q2 := ⟨_, rfl⟩
          have hf0 : F = 0 := by rw [hF]; exact hf
          have hq : (F != 0) = false := by rw [hf0]; rfl
          have HFF := Lib.hid hF
          have HF0 := Lib.hid hf0
          have H64F := Lib.hid h64f
          clear hR hf hF hf0 h64f
          have c1 := M2.out.way.c1
          have c2 : w2.cell? ⟨wb, 2, none⟩ = some (.slice (some ⟨gr, o, none⟩) 0 0) := M2.out.way.c2
          have hoff : (t = [] ∧ last = true) ∨ 0 < t.length := by
            cases q3 <;> cases t <;> cases last <;> simp [goesOn] at hb ⊢
          have hq3 : q3 = true := by cases q3; simp [goesOn] at hb; rfl
          subst hq3
          clear hb
          rcases hoff with ⟨ht, hla⟩ | ht
          · subst ht
            subst hla
            try simp only [List.length_nil] at c2
            go_wp2_with (go_at_call 33; fail)
            refine (follow_any wb base at_ _ links [] q2 _ M2.out.way M2.out.row (Nat.le_trans M2.out.hwb (Nat.le_of_lt (lt_of_heap M2.out.way))) (by omega) HLK.out HQ2.out).mono ?_
            rintro e w3 ⟨rfl, hO3, hF3⟩
            rw [← HFF.out] at hF3 ⊢
            have O3 := Lib.hid hO3
            have F3 := Lib.hid (hF3 HF0.out)
            clear hO3 hF3 c1 c2
            go_wp2
            obtain ⟨hl8, v3, hw3, hr3⟩ := F3.out
            go_roundg (65 * (8 - (links + 1)) + ((namesR (folText q2)).1 ++ ([] : List ByteArray)).length)
            case measure =>
              have := HG.out
              have := H64F.out
              rw [List.length_append]
              omega
            case rel => exact ⟨_, _, _, _, gv2, _, (M2.out.fol O3.out hw3 hr3).wst (by omega) (by rw [List.length_append]; exact H64F.out) (by have := HAS.out; have := H64F.out; simp; omega) HR.out, Nat.le_refl _⟩
          · exact absurd ht (by have := HT0.out; omega)
      · have M := MID.out (o + 1) (.inl rfl)
        clear MID
        have hc2 : ¬ c = 1 := hc1
        have hc3 : ¬ (c - 1 = 0) := by omega
        go_wp2_with (go_at_call 17; fail)
        refine (ask_calls gb tb base ks gv as_ at_ n T q1 q2 q3 q4 w0 _ HC.out M.below M.hbase M.hgb M.got M.tree (Nat.le_trans M.hwb (Nat.le_of_lt (lt_of_heap M.way))) (by have := HAS.out; omega) HSTEP.out).mono ?_
        rintro e w2 ⟨rfl, ⟨gv2, hG2⟩, hO⟩
        have M2 := Lib.hid (M.step hG2 hO)
        clear M hG2 hO d0 d1 d2 f2
        have hcase := HCASE.out
        clear HCASE HSTEP
        cases hcase with
        | err h hR =>
          have hq : (q4 != 0) = true := by rw [bne_iff_ne]; exact h
          have HR := Lib.hid hR
          clear h hR
          go_wp2
          refine bodyPost_ret (results_tmp2 rfl _ _ _) rfl ?_
          refine ⟨by rw [HR.out]; rfl, ⟨gv2, by rw [HR.out]; exact M2.out.got⟩, M2.out.below⟩
        | on h hb k' hR =>
          subst h
          have HR := Lib.hid hR
          clear hR
          have c1 := M2.out.way.c1
          have c2 : w2.cell? ⟨wb, 2, none⟩ = some (.slice (some ⟨gr, o + 1, none⟩) t.length (c - 1)) := M2.out.way.c2
          have g1 := M2.out.way.f 1
          cases q3 with
          | false =>
            clear hb
            go_wp2
            go_roundg (65 * (8 - links) + t.length)
            case measure => have := HG.out; omega
            case rel => exact ⟨q1, links, t, _, gv2, _, (M2.out.next q1).wst HLK.out (by omega) (by have := HAS.out; simp; omega) HR.out, Nat.le_refl _⟩
          | true =>
            have hb2 : t = [] ∧ last = false := by simpa [goesOn] using hb
            clear hb
            obtain ⟨ht, hla⟩ := hb2
            subst ht
            subst hla
            try simp only [List.length_nil] at c2
            go_wp2
            go_roundg (65 * (8 - links) + 0)
            case measure => have := HG.out; simp at this; omega
            case rel => exact ⟨q1, links, [], _, gv2, _, (M2.out.next q1).wst HLK.out (by simp) (by have := HAS.out; simp at this ⊢; omega) HR.out, Nat.le_refl _⟩
        | no h hb hf hR =>
          subst h
          have HR := Lib.hid hR
          obtain ⟨F, hF⟩ : ∃ F, F = folAll links t q2 := ⟨_, rfl⟩
          have hq : (F != 0) = true := by rw [bne_iff_ne, hF]; exact hf
          have HFF := Lib.hid hF
          clear hR hf hF
          have c1 := M2.out.way.c1
          have c2 : w2.cell? ⟨wb, 2, none⟩ = some (.slice (some ⟨gr, o + 1, none⟩) t.length (c - 1)) := M2.out.way.c2
          have hoff : (t = [] ∧ last = true) ∨ 0 < t.length := by
            cases q3 <;> cases t <;> cases last <;> simp [goesOn] at hb ⊢
          have hq3 : q3 = true := by cases q3; simp [goesOn] at hb; rfl
          subst hq3
          clear hb
          rcases hoff with ⟨ht, hla⟩ | ht
          · subst ht
            subst hla
            try simp only [List.length_nil] at c2
            go_wp2_with (go_at_call 33; fail)
            refine (follow_any wb base at_ _ links [] q2 _ M2.out.way M2.out.row (Nat.le_trans M2.out.hwb (Nat.le_of_lt (lt_of_heap M2.out.way))) (by omega) HLK.out HQ2.out).mono ?_
            rintro e w3 ⟨rfl, hO3, hF3⟩
            rw [← HFF.out] at hF3 ⊢
            have O3 := Lib.hid hO3
            clear hO3 hF3 c1 c2
            go_wp2
            refine bodyPost_ret (results_tmp2 rfl _ _ _) rfl ?_
            have me := M2.out.end_ O3.out
            refine ⟨by rw [HR.out, ← HFF.out]; rfl, ⟨gv2, by rw [HR.out]; exact me.1⟩, me.2⟩
          · have hz : ((t.length : Int) == 0) = false := by rw [beq_eq_false_iff_ne]; omega
            go_wp2_with (go_at_call 33; fail)
            refine (follow_any wb base at_ _ links t q2 _ M2.out.way M2.out.row (Nat.le_trans M2.out.hwb (Nat.le_of_lt (lt_of_heap M2.out.way))) (by omega) HLK.out HQ2.out).mono ?_
            rintro e w3 ⟨rfl, hO3, hF3⟩
            rw [← HFF.out] at hF3 ⊢
            have O3 := Lib.hid hO3
            clear hO3 hF3 c1 c2
            go_wp2
            refine bodyPost_ret (results_tmp2 rfl _ _ _) rfl ?_
            have me := M2.out.end_ O3.out
            refine ⟨by rw [HR.out, ← HFF.out]; rfl, ⟨gv2, by rw [HR.out]; exact me.1⟩, me.2⟩
        | follow h hb hf h64f k' hR =>
          subst h
          have HR := Lib.hid hR
          obtain ⟨F, hF⟩ : ∃ F, F = folAll links t q2 := ⟨_, rfl⟩
          have hf0 : F = 0 := by rw [hF]; exact hf
          have hq : (F != 0) = false := by rw [hf0]; rfl
          have HFF := Lib.hid hF
          have HF0 := Lib.hid hf0
          have H64F := Lib.hid h64f
          clear hR hf hF hf0 h64f
          have c1 := M2.out.way.c1
          have c2 : w2.cell? ⟨wb, 2, none⟩ = some (.slice (some ⟨gr, o + 1, none⟩) t.length (c - 1)) := M2.out.way.c2
          have hoff : (t = [] ∧ last = true) ∨ 0 < t.length := by
            cases q3 <;> cases t <;> cases last <;> simp [goesOn] at hb ⊢
          have hq3 : q3 = true := by cases q3; simp [goesOn] at hb; rfl
          subst hq3
          clear hb
          rcases hoff with ⟨ht, hla⟩ | ht
          · subst ht
            subst hla
            try simp only [List.length_nil] at c2
            go_wp2_with (go_at_call 33; fail)
            refine (follow_any wb base at_ _ links [] q2 _ M2.out.way M2.out.row (Nat.le_trans M2.out.hwb (Nat.le_of_lt (lt_of_heap M2.out.way))) (by omega) HLK.out HQ2.out).mono ?_
            rintro e w3 ⟨rfl, hO3, hF3⟩
            rw [← HFF.out] at hF3 ⊢
            have O3 := Lib.hid hO3
            have F3 := Lib.hid (hF3 HF0.out)
            clear hO3 hF3 c1 c2
            go_wp2
            obtain ⟨hl8, v3, hw3, hr3⟩ := F3.out
            go_roundg (65 * (8 - (links + 1)) + ((namesR (folText q2)).1 ++ ([] : List ByteArray)).length)
            case measure =>
              have := HG.out
              have := H64F.out
              rw [List.length_append]
              omega
            case rel => exact ⟨_, _, _, _, gv2, _, (M2.out.fol O3.out hw3 hr3).wst (by omega) (by rw [List.length_append]; exact H64F.out) (by have := HAS.out; have := H64F.out; simp; omega) HR.out, Nat.le_refl _⟩
          · have hz : ((t.length : Int) == 0) = false := by rw [beq_eq_false_iff_ne]; omega
            go_wp2_with (go_at_call 33; fail)
            refine (follow_any wb base at_ _ links t q2 _ M2.out.way M2.out.row (Nat.le_trans M2.out.hwb (Nat.le_of_lt (lt_of_heap M2.out.way))) (by omega) HLK.out HQ2.out).mono ?_
            rintro e w3 ⟨rfl, hO3, hF3⟩
            rw [← HFF.out] at hF3 ⊢
            have O3 := Lib.hid hO3
            have F3 := Lib.hid (hF3 HF0.out)
            clear hO3 hF3 c1 c2
            go_wp2
            obtain ⟨hl8, v3, hw3, hr3⟩ := F3.out
            go_roundg (65 * (8 - (links + 1)) + ((namesR (folText q2)).1 ++ t).length)
            case measure =>
              have := HG.out
              have := H64F.out
              rw [List.length_append]
              omega
            case rel => exact ⟨_, _, _, _, gv2, _, (M2.out.fol O3.out hw3 hr3).wst (by omega) (by rw [List.length_append]; exact H64F.out) (by have := HAS.out; have := H64F.out; simp; omega) HR.out, Nat.le_refl _⟩
end Go.Proofs.YtbinnghemkppdaaDoor
