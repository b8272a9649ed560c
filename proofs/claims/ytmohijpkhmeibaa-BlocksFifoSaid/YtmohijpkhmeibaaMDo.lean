/- do of the law: one call of both books. -/
import Derived.Test.YtmohijpkhmeibaaMDuo
import Derived.Test.YtmohijpkhmeibaaMBase
namespace Go.Proofs.Ytmohijpkhmeibaa
open Go.RowKit Go.Proofs
set_option linter.unusedVariables false
set_option linter.unusedSimpArgs false
set_option maxRecDepth 100000
theorem box_off {S : Nat → Prop} {W W' : World} {x : Nat} {a b c : Value} (h1 : W.cell? ⟨x, 1, none⟩ = some a) (h2 : W.cell? ⟨x, 2, none⟩ = some b) (h3 : W.cell? ⟨x, 3, none⟩ = some c) (ho : Off S W W') (hn : ¬ S x) :
    W'.cell? ⟨x, 1, none⟩ = some a ∧ W'.cell? ⟨x, 2, none⟩ = some b ∧ W'.cell? ⟨x, 3, none⟩ = some c := by
  have hx : x < W.heap.size := World.block_lt_of_cell? _ _ h1
  have e : W'.heap[x]? = W.heap[x]? := ho.block x hx hn
  unfold World.cell? at *
  rw [e]
  exact ⟨h1, h2, h3⟩
/-- The box of a call's description stands apart from the books. -/
theorem Duo.box {w0 w : World} {p q cap p' q' t' cap' : Nat} {bB bR : Bks} (h : Duo w0 p q cap p' q' t' cap' bB bR w) {x : Nat} {c : Array Value} (hx : w.heap[x]? = some (.cells c 50 (0, 0))) : ¬ (x = q ∨ x = p) ∧ ¬ (x = q' ∨ x = t' ∨ x = p') := by
  obtain ⟨c1, hc, _⟩ := h.isB.rows
  obtain ⟨d, hd, _⟩ := h.isR.rows
  obtain ⟨e, he, _⟩ := h.isR.left
  have h1 := typ_ne hx h.isB.head (by decide)
  have h2 := typ_ne hx hc (by decide)
  have h3 := typ_ne hx h.isR.head (by decide)
  have h4 := typ_ne hx hd (by decide)
  have h5 := typ_ne hx he (by decide)
  omega
structure DoEnd (w0 : World) (p q cap p' q' t' cap' : Nat) (b : Bks) (e : Ending) (w : World) : Prop where
  ret : e = .returned (.bool true)
  next : ∃ b', WFB b' ∧ b'.all.length = b.all.length ∧ b'.pages = b.pages ∧ Duo w0 p q cap p' q' t' cap' b' b' w
set_option maxHeartbeats 8000000 in
theorem do_calls (w0 : World) (p q cap p' q' t' cap' : Nat) (b : Bks) (kind block more head : Int) (w : World) (hD : Duo w0 p q cap p' q' t' cap' b b w) (hw : WFB b) (hm : -9223372036854775808 ≤ more ∧ more ≤ 9223372036854775807) (hh : 0 ≤ head) :
    Calls Try.prog 30 #[.pointer (some ⟨p, 0, none⟩), .pointer (some ⟨p', 0, none⟩), .agg #[.int .i64 kind, .int .i64 block, .int .i64 more, .int .u64 head]] w (DoEnd w0 p q cap p' q' t' cap' b) := by
  have hle := hD.isB.le
  have HD := Lib.hid (hD.alloc (.cells #[.int .i64 kind, .int .i64 block, .int .i64 more, .int .u64 head] 50))
  have hbx := heap_alloc_new w (.cells #[.int .i64 kind, .int .i64 block, .int .i64 more, .int .u64 head] 50)
  obtain ⟨nB, nR⟩ := HD.out.box hbx
  have NB := Lib.hid nB
  have NR := Lib.hid nR
  have x1 := cell_of (o := 1) hbx rfl
  have x2 := cell_of (o := 2) hbx rfl
  have x3 := cell_of (o := 3) hbx rfl
  have HW := Lib.hid hw
  clear hD hbx nB nR hw
  by_cases k1 : kind = 1
  · subst k1
    obtain ⟨v, ok, b', hB, hR, hs, _⟩ := op_pick HW.out
    have HB := Lib.hid hB
    have HR := Lib.hid hR
    have HS := Lib.hid hs
    clear hB hR hs
    go_enter Try.func30, Try.ntmps30
    go_wp2_with fail
    refine (HB.out _ p q cap HD.out.isB).mono ?_
    rintro e w1 ⟨rfl, hI1, ho1⟩
    have HD1 := Lib.hid (HD.out.toB hI1 ho1)
    have y := box_off x1 x2 x3 ho1 NB.out
    obtain ⟨y1, y2, y3⟩ := y
    clear hI1 ho1 x1 x2 x3
    go_wp2_with fail
    refine (HR.out w1 p' q' t' cap' HD1.out.isR).mono ?_
    rintro e w2 ⟨rfl, hI2, ho2⟩
    have HD2 := Lib.hid (HD1.out.toR hI2 ho2)
    clear hI2 ho2
    go_wp2
    go_ret
    exact ⟨rfl, b', HS.out.wf, HS.out.len, HS.out.pages, HD2.out⟩
  have n1 : (kind == 1) = false := beq_eq_false_iff_ne.2 k1
  by_cases k2 : kind = 2
  · subst k2
    obtain ⟨er, b', hB, hR, hs, _⟩ := op_start HW.out block head hh
    have HB := Lib.hid hB
    have HR := Lib.hid hR
    have HS := Lib.hid hs
    clear hB hR hs
    go_enter Try.func30, Try.ntmps30
    go_wp2_with fail
    go_region_held3 (fun W => W.cell? ⟨w.heap.size, 1, none⟩ = some (.int .i64 block) ∧ W.cell? ⟨w.heap.size, 2, none⟩ = some (.int .i64 more) ∧ W.cell? ⟨w.heap.size, 3, none⟩ = some (.int .u64 head))
      (first
        | exact ⟨x1, x2, x3⟩
        | (go_split_ands; exact box_off (by assumption) (by assumption) (by assumption) (by assumption) NB.out)
        | (go_split_ands; exact box_off (by assumption) (by assumption) (by assumption) (by assumption) NR.out))
      (first
        | (go_at_call 41; refine (HB.out _ p q cap (HD.out.drewN 1).isB).mono ?_; rintro e w1 ⟨rfl, hI1, ho1⟩; have HD1 := Lib.hid ((HD.out.drewN 1).toB hI1 ho1))
        | (go_at_call 56; refine (HR.out _ p' q' t' cap' HD1.out.isR).mono ?_; rintro e w2 ⟨rfl, hI2, ho2⟩; have HD2 := Lib.hid (HD1.out.toR hI2 ho2)))
    go_wp2
    go_ret
    exact ⟨rfl, b', HS.out.wf, HS.out.len, HS.out.pages, HD2.out⟩
  have n2 : (kind == 2) = false := beq_eq_false_iff_ne.2 k2
  by_cases k3 : kind = 3
  · subst k3
    obtain ⟨er, b', hB, hR, hs, _⟩ := op_real HW.out
    have HB := Lib.hid hB
    have HR := Lib.hid hR
    have HS := Lib.hid hs
    clear hB hR hs
    go_enter Try.func30, Try.ntmps30
    go_wp2_with fail
    refine (HB.out _ p q cap HD.out.isB).mono ?_
    rintro e w1 ⟨rfl, hI1, ho1⟩
    have HD1 := Lib.hid (HD.out.toB hI1 ho1)
    have y := box_off x1 x2 x3 ho1 NB.out
    obtain ⟨y1, y2, y3⟩ := y
    clear hI1 ho1 x1 x2 x3
    go_wp2_with fail
    refine (HR.out w1 p' q' t' cap' HD1.out.isR).mono ?_
    rintro e w2 ⟨rfl, hI2, ho2⟩
    have HD2 := Lib.hid (HD1.out.toR hI2 ho2)
    clear hI2 ho2
    go_wp2
    go_ret
    exact ⟨rfl, b', HS.out.wf, HS.out.len, HS.out.pages, HD2.out⟩
  have n3 : (kind == 3) = false := beq_eq_false_iff_ne.2 k3
  by_cases k4 : kind = 4
  · subst k4
    obtain ⟨er, b', hB, hR, hs, _⟩ := op_live HW.out block more hm
    have HB := Lib.hid hB
    have HR := Lib.hid hR
    have HS := Lib.hid hs
    clear hB hR hs
    go_enter Try.func30, Try.ntmps30
    go_wp2_with fail
    go_region_held3 (fun W => W.cell? ⟨w.heap.size, 1, none⟩ = some (.int .i64 block) ∧ W.cell? ⟨w.heap.size, 2, none⟩ = some (.int .i64 more) ∧ W.cell? ⟨w.heap.size, 3, none⟩ = some (.int .u64 head))
      (first
        | exact ⟨x1, x2, x3⟩
        | (go_split_ands; exact box_off (by assumption) (by assumption) (by assumption) (by assumption) NB.out)
        | (go_split_ands; exact box_off (by assumption) (by assumption) (by assumption) (by assumption) NR.out))
      (first
        | (go_at_call 17; refine (HB.out _ p q cap (HD.out.drewN 1).isB).mono ?_; rintro e w1 ⟨rfl, hI1, ho1⟩; have HD1 := Lib.hid ((HD.out.drewN 1).toB hI1 ho1))
        | (go_at_call 58; refine (HR.out _ p' q' t' cap' HD1.out.isR).mono ?_; rintro e w2 ⟨rfl, hI2, ho2⟩; have HD2 := Lib.hid (HD1.out.toR hI2 ho2)))
    go_wp2
    go_ret
    exact ⟨rfl, b', HS.out.wf, HS.out.len, HS.out.pages, HD2.out⟩
  have n4 : (kind == 4) = false := beq_eq_false_iff_ne.2 k4
  by_cases k5 : kind = 5
  · subst k5
    obtain ⟨er, b', hB, hR, hs, _⟩ := op_shut HW.out
    have HB := Lib.hid hB
    have HR := Lib.hid hR
    have HS := Lib.hid hs
    clear hB hR hs
    go_enter Try.func30, Try.ntmps30
    go_wp2_with fail
    refine (HB.out _ p q cap HD.out.isB).mono ?_
    rintro e w1 ⟨rfl, hI1, ho1⟩
    have HD1 := Lib.hid (HD.out.toB hI1 ho1)
    have y := box_off x1 x2 x3 ho1 NB.out
    obtain ⟨y1, y2, y3⟩ := y
    clear hI1 ho1 x1 x2 x3
    go_wp2_with fail
    refine (HR.out w1 p' q' t' cap' HD1.out.isR).mono ?_
    rintro e w2 ⟨rfl, hI2, ho2⟩
    have HD2 := Lib.hid (HD1.out.toR hI2 ho2)
    clear hI2 ho2
    go_wp2
    go_ret
    exact ⟨rfl, b', HS.out.wf, HS.out.len, HS.out.pages, HD2.out⟩
  have n5 : (kind == 5) = false := beq_eq_false_iff_ne.2 k5
  by_cases k6 : kind = 6
  · subst k6
    obtain ⟨er, b', hB, hR, hs, _⟩ := op_wait HW.out
    have HB := Lib.hid hB
    have HR := Lib.hid hR
    have HS := Lib.hid hs
    clear hB hR hs
    go_enter Try.func30, Try.ntmps30
    go_wp2_with fail
    refine (HB.out _ p q cap HD.out.isB).mono ?_
    rintro e w1 ⟨rfl, hI1, ho1⟩
    have HD1 := Lib.hid (HD.out.toB hI1 ho1)
    have y := box_off x1 x2 x3 ho1 NB.out
    obtain ⟨y1, y2, y3⟩ := y
    clear hI1 ho1 x1 x2 x3
    go_wp2_with fail
    refine (HR.out w1 p' q' t' cap' HD1.out.isR).mono ?_
    rintro e w2 ⟨rfl, hI2, ho2⟩
    have HD2 := Lib.hid (HD1.out.toR hI2 ho2)
    clear hI2 ho2
    go_wp2
    go_ret
    exact ⟨rfl, b', HS.out.wf, HS.out.len, HS.out.pages, HD2.out⟩
  have n6 : (kind == 6) = false := beq_eq_false_iff_ne.2 k6
  by_cases k7 : kind = 7
  · subst k7
    obtain ⟨er, b', hB, hR, hs, _⟩ := op_bad HW.out block
    have HB := Lib.hid hB
    have HR := Lib.hid hR
    have HS := Lib.hid hs
    clear hB hR hs
    go_enter Try.func30, Try.ntmps30
    go_wp2_with fail
    go_region_held3 (fun W => W.cell? ⟨w.heap.size, 1, none⟩ = some (.int .i64 block) ∧ W.cell? ⟨w.heap.size, 2, none⟩ = some (.int .i64 more) ∧ W.cell? ⟨w.heap.size, 3, none⟩ = some (.int .u64 head))
      (first
        | exact ⟨x1, x2, x3⟩
        | (go_split_ands; exact box_off (by assumption) (by assumption) (by assumption) (by assumption) NB.out)
        | (go_split_ands; exact box_off (by assumption) (by assumption) (by assumption) (by assumption) NR.out))
      (first
        | (go_at_call 12; refine (HB.out _ p q cap (HD.out.drewN 1).isB).mono ?_; rintro e w1 ⟨rfl, hI1, ho1⟩; have HD1 := Lib.hid ((HD.out.drewN 1).toB hI1 ho1))
        | (go_at_call 61; refine (HR.out _ p' q' t' cap' HD1.out.isR).mono ?_; rintro e w2 ⟨rfl, hI2, ho2⟩; have HD2 := Lib.hid (HD1.out.toR hI2 ho2)))
    go_wp2
    go_ret
    exact ⟨rfl, b', HS.out.wf, HS.out.len, HS.out.pages, HD2.out⟩
  have n7 : (kind == 7) = false := beq_eq_false_iff_ne.2 k7
  by_cases k8 : kind = 8
  · subst k8
    obtain ⟨er, b', hB, hR, hs, _⟩ := op_leave HW.out block
    have HB := Lib.hid hB
    have HR := Lib.hid hR
    have HS := Lib.hid hs
    clear hB hR hs
    go_enter Try.func30, Try.ntmps30
    go_wp2_with fail
    go_region_held3 (fun W => W.cell? ⟨w.heap.size, 1, none⟩ = some (.int .i64 block) ∧ W.cell? ⟨w.heap.size, 2, none⟩ = some (.int .i64 more) ∧ W.cell? ⟨w.heap.size, 3, none⟩ = some (.int .u64 head))
      (first
        | exact ⟨x1, x2, x3⟩
        | (go_split_ands; exact box_off (by assumption) (by assumption) (by assumption) (by assumption) NB.out)
        | (go_split_ands; exact box_off (by assumption) (by assumption) (by assumption) (by assumption) NR.out))
      (first
        | (go_at_call 18; refine (HB.out _ p q cap (HD.out.drewN 1).isB).mono ?_; rintro e w1 ⟨rfl, hI1, ho1⟩; have HD1 := Lib.hid ((HD.out.drewN 1).toB hI1 ho1))
        | (go_at_call 62; refine (HR.out _ p' q' t' cap' HD1.out.isR).mono ?_; rintro e w2 ⟨rfl, hI2, ho2⟩; have HD2 := Lib.hid (HD1.out.toR hI2 ho2)))
    go_wp2
    go_ret
    exact ⟨rfl, b', HS.out.wf, HS.out.len, HS.out.pages, HD2.out⟩
  have n8 : (kind == 8) = false := beq_eq_false_iff_ne.2 k8
  by_cases k9 : kind = 9
  · subst k9
    obtain ⟨er, M, b', hB, hR, hwf, hlen, hpg, _, _, _, hml⟩ := op_commit HW.out block
    have HB := Lib.hid hB
    have HR := Lib.hid hR
    have HS := Lib.hid (And.intro hwf (And.intro hlen hpg))
    clear hB hR hwf hlen hpg
    go_enter Try.func30, Try.ntmps30
    go_wp2_with fail
    refine (HB.out _ p q cap HD.out.isB).mono ?_
    rintro e w1 ⟨v1, rfl, hown1, hI1, ho1⟩
    have HD1 := Lib.hid (HD.out.toB hI1 ho1)
    obtain ⟨A1, c1, rfl, hn1, hg1⟩ := owns_shape hown1
    obtain ⟨y1, y2, y3⟩ := box_off x1 x2 x3 ho1 NB.out
    have HN1 := Lib.hid hn1
    have HG1 := Lib.hid hg1
    have hsz1 := HD.out.isB.qlt
    have BQ := Lib.hid (And.intro HD.out.isR.plt (And.intro HD.out.isR.qlt HD.out.isR.tlt))
    clear hI1 ho1 x1 x2 x3 hown1 hn1 hg1
    go_wp2_with fail
    refine (HR.out w1 p' q' t' cap' HD1.out.isR).mono ?_
    rintro e w2 ⟨v2, rfl, hown2, hI2, ho2⟩
    have HD2 := Lib.hid (HD1.out.toR hI2 ho2)
    obtain ⟨A2, c2, rfl, hn2, hg2⟩ := owns_shape hown2
    have HN2 := Lib.hid hn2
    have HN1' := Lib.hid (HN1.out.off ho2 fun g hg => by have := HG1.out g hg; have := BQ.out; omega)
    clear hI2 ho2 hown2 hn2 hg2 HN1 HG1 y1 y2 y3 BQ
    go_wp2_with fail
    refine (sameInts_calls A1 A2 c1 c2 M w2 HN1'.out HN2.out hml).mono ?_
    rintro e w3 ⟨rfl, n3, rfl⟩
    go_wp2
    go_ret
    exact ⟨rfl, b', HS.out.1, HS.out.2.1, HS.out.2.2, HD2.out.drewN n3⟩
  have n9 : (kind == 9) = false := beq_eq_false_iff_ne.2 k9
  by_cases k10 : kind = 10
  · subst k10
    obtain ⟨v, hd, ok, b', _, _, hB, hR, hs, _⟩ := op_clean HW.out
    have HB := Lib.hid hB
    have HR := Lib.hid hR
    have HS := Lib.hid hs
    clear hB hR hs
    go_enter Try.func30, Try.ntmps30
    go_wp2_with fail
    refine (HB.out _ p q cap HD.out.isB).mono ?_
    rintro e w1 ⟨rfl, hI1, ho1⟩
    have HD1 := Lib.hid (HD.out.toB hI1 ho1)
    clear hI1 ho1 x1 x2 x3
    go_wp2_with fail
    refine (HR.out w1 p' q' t' cap' HD1.out.isR).mono ?_
    rintro e w2 ⟨rfl, hI2, ho2⟩
    have HD2 := Lib.hid (HD1.out.toR hI2 ho2)
    clear hI2 ho2
    go_wp2
    go_ret
    exact ⟨rfl, b', HS.out.wf, HS.out.len, HS.out.pages, HD2.out⟩
  have n10 : (kind == 10) = false := beq_eq_false_iff_ne.2 k10
  go_enter Try.func30, Try.ntmps30
  go_wp2
  go_ret
  exact ⟨rfl, b, HW.out, rfl, rfl, HD.out⟩
end Go.Proofs.Ytmohijpkhmeibaa
/- The two books at the start of a law. -/
namespace Go.Proofs.Ytmohijpkhmeibaa
open Go.RowKit Go.Proofs Go.Proofs.YtmohijpkhmeibaaW.PrintWords
open PBlocksRound
set_option linter.unusedVariables false
set_option linter.unusedSimpArgs false
set_option maxRecDepth 100000
def blkS (x : S34) : Blk := ⟨x.f0, x.f1, x.f2, x.f3, false⟩
theorem at71 {w : World} {g : Nat} {l : List S34} {cap : Nat} (h : Kd.C k71 w (some ⟨g, 0, none⟩) l.length (l.map blkOf)) {i : Nat} {x : S34} (hx : l[i]? = some x) :
    ∀ j v, (blkS x).cells[j]? = some v → w.cell? ⟨g, i * 5 + j, none⟩ = some v := by
  have hi : i < l.length := (List.getElem?_eq_some_iff.1 hx).1
  obtain ⟨ad, e, a0, a1, a2, a3, a4⟩ := at_T71 h (i : Int) (by omega) (by omega)
  cases e
  have ex : rd_T71 (l.map blkOf) (i : Int) = blkOf x := by
    show (l.map blkOf).getD (i : Int).toNat z71 = blkOf x
    rw [Int.toNat_natCast, List.getD_eq_getElem?_getD, List.getElem?_map, hx]
    rfl
  rw [ex] at a0 a1 a2 a3 a4
  rw [Int.toNat_natCast, Addr.add_lit] at a0 a1 a2 a3 a4
  simp only [Nat.zero_add] at a0 a1 a2 a3 a4
  intro j v hv
  match j, hv with
  | 0, hv => cases hv; exact a0
  | 1, hv => cases hv; exact a1
  | 2, hv => cases hv; exact a2
  | 3, hv => cases hv; exact a3
  | 4, hv => cases hv; exact a4
theorem PBook.isB {w : World} {l : List S34} {P cursor last opn : Int} {p : Nat} {v : Value} {W : World} (h : PBook w l P cursor last opn p v W) (hpos : 0 < l.length) (hle : l.length ≤ 4096) :
    ∃ q cap, IsB W p q cap ⟨P, l.map blkS, cursor, last, -1, opn⟩ ∧ w.heap.size ≤ q := by
  obtain ⟨A, cap, rfl⟩ := Kd.R_slice h.row
  obtain ⟨inner, ho⟩ := Kd.R_own h.row
  obtain ⟨_, hcap, hC⟩ := Kd.R_reads' h.row
  rcases ho.2 with ⟨e, _⟩ | ⟨g, cap', cur, e, hg, hh, r⟩
  · injection e with _ e _
    rw [List.length_map] at e
    omega
  · injection e with e _ _
    subst e
    refine ⟨g, cap, ⟨?_, ⟨cur, hh, ?_⟩, ?_, by simpa using hpos, by simpa using hle⟩, hg⟩
    · have := h.head
      rw [List.length_map] at this
      simpa using this
    · intro i y hy j u hu
      have hy' : (l.map blkS)[i]? = some y := hy
      rw [List.getElem?_map] at hy'
      cases hx : l[i]? with
      | none => rw [hx] at hy'; cases hy'
      | some x =>
        rw [hx] at hy'
        cases hy'
        have hC' : Kd.C k71 W (some ⟨g, 0, none⟩) l.length (l.map blkOf) := by rw [List.length_map] at hC; exact hC
        have := at71 (cap := cap) hC' hx j u hu
        by_cases hlt : i * 5 + j < cur.size
        · unfold World.cell? at this
          rw [hh] at this
          simpa using this
        · unfold World.cell? at this
          rw [hh] at this
          simp only at this
          rw [Array.getElem?_eq_none (by omega)] at this
          cases this
    · exact ne_of_type h.head hh (by decide)

theorem newRes_place {B P S : Int} {l : List S34} {cursor last opn : Int} (h : newRes B P S l cursor last = some opn) : 8 ≤ B ∧ B ≤ 4096 ∧ (l.length : Int) = B ∧ -1 ≤ cursor ∧ cursor < l.length := by
  unfold newRes at h
  by_cases hb : (fitsB B P S && placeB B l.length cursor last) = true
  · rw [Bool.and_eq_true] at hb
    have h1 := hb.1
    have h2 := hb.2
    unfold fitsB at h1
    have := of_decide_eq_true h1
    unfold placeB at h2
    simp only [Bool.not_eq_true', Bool.or_eq_false_iff, decide_eq_false_iff_not] at h2
    obtain ⟨⟨⟨⟨h3, h4⟩, h5⟩, h6⟩, h7⟩ := h2
    have hlen : (l.length : Int) = B := by simpa using h3
    omega
  · rw [if_neg hb] at h
    cases h
theorem made_bools (n : Nat) : madeCells #[.bool false] n = ((List.replicate n false).map Value.bool).toArray := by
  apply Array.ext'
  apply List.ext_getElem
  · simp [madeCells]
  · intro i h1 h2
    simp [madeCells, Nat.mod_one]
theorem RN.isR {w : World} {l : List S34} {P cursor last : Int} {rb lb : Nat} {v : Value} {W : World} (h : RN w l P cursor last rb lb l.length v W) (opn : Int) (hpos : 0 < l.length) (hle : l.length ≤ 4096) :
    ∃ q cap, IsR W rb q lb cap ⟨P, l.map blkS, cursor, last, -1, opn⟩ ∧ w.heap.size ≤ q ∧ l.length ≤ cap := by
  obtain ⟨A, cap, rfl⟩ := Kd.R_slice h.row
  have hrow := h.row
  have hhead := h.head
  rw [List.take_length] at hrow
  rw [List.take_length] at hhead
  obtain ⟨inner, ho⟩ := Kd.R_own hrow
  obtain ⟨_, hcap, hC⟩ := Kd.R_reads' hrow
  rcases ho.2 with ⟨e, _⟩ | ⟨g, cap', cur, e, hg, hh, r⟩
  · injection e with _ e _
    omega
  · injection e with e _ _
    subst e
    obtain ⟨g', o', e, rows⟩ := kd_rows hC hpos
    injection e with e
    injection e with e1 e2
    subst e1 e2
    refine ⟨g, cap, ⟨by simpa using hhead, ⟨cur, hh, fun i y hy j u hu => ?_⟩, ⟨_, h.left, fun i y hy => ?_⟩, by simpa using hpos, by simpa using hle⟩, hg, hcap⟩
    · have hy' : (l.map blkS)[i]? = some y := hy
      rw [List.getElem?_map] at hy'
      cases hx : l[i]? with
      | none => rw [hx] at hy'; cases hy'
      | some x =>
        rw [hx] at hy'
        cases hy'
        obtain ⟨a0, a1, a2, a3⟩ := rows i x hx
        simp only [Nat.zero_add] at a0 a1 a2 a3
        have key : W.cell? ⟨g, i * 4 + j, none⟩ = some u := by
          match j, hu with
          | 0, hu => cases hu; exact a0
          | 1, hu => cases hu; exact a1
          | 2, hu => cases hu; exact a2
          | 3, hu => cases hu; exact a3
        unfold World.cell? at key
        rw [hh] at key
        simpa using key
    · have hi : i < l.length := by
        have := (List.getElem?_eq_some_iff.1 hy).1
        simpa using this
      rw [made_bools]
      have hy' : (l.map blkS)[i]? = some y := hy
      rw [List.getElem?_map, List.getElem?_eq_getElem hi] at hy'
      cases hy'
      simp [hi, blkS]
/-- What New has asked of a list so far. -/
structure NJ (P last : Int) (pre : List S34) (opn : Int) : Prop where
  row : ∀ (i : Nat) (x : S34), pre[i]? = some x → RowW P last (-1) i (blkS x) ∧ ((i : Int) = last → x.f0 ≠ 0 ∧ x.f0 ≠ 6)
  opn : OpnW (pre.map blkS) opn
  heads : ∀ (i j : Nat) (x y : S34), pre[i]? = some x → pre[j]? = some y → x.f1 = y.f1 → x.f1 ≠ 0 → i = j
theorem get_snoc {α : Type} {l : List α} {x z : α} {i : Nat} (h : (l ++ [x])[i]? = some z) : (i < l.length ∧ l[i]? = some z) ∨ (i = l.length ∧ z = x) := by
  by_cases e : i < l.length
  · rw [List.getElem?_append_left e] at h
    exact .inl ⟨e, h⟩
  · rw [List.getElem?_append_right (by omega)] at h
    have hi : i - l.length = 0 := by
      have := (List.getElem?_eq_some_iff.1 h).1
      simp at this
      omega
    rw [hi] at h
    simp at h
    exact .inr ⟨by omega, h.symm⟩
theorem headIn_iff {pre : List S34} {h : Int} : headIn pre h = true ↔ ∃ (i : Nat) (y : S34), pre[i]? = some y ∧ y.f1 ≠ 0 ∧ y.f1 = h := by
  unfold headIn
  rw [List.any_eq_true]
  constructor
  · rintro ⟨y, hy, h1⟩
    obtain ⟨i, hi⟩ := List.getElem?_of_mem hy
    simp only [Bool.and_eq_true, bne_iff_ne, beq_iff_eq] at h1
    exact ⟨i, y, hi, h1⟩
  · rintro ⟨i, y, hi, h1, h2⟩
    exact ⟨y, List.mem_of_getElem? hi, by rw [show (y.f1 != 0) = true from bne_iff_ne.2 h1, show (y.f1 == h) = true from beq_iff_eq.2 h2]; rfl⟩
/-- A block that New lets by. -/
theorem sound_row {P last : Int} {k : Nat} {x : S34} (hP : 4 ≤ P) (h0 : 0 ≤ x.f1) (hb : badPlace P last k x = false) : RowW P last (-1) k (blkS x) ∧ ((k : Int) = last → x.f0 ≠ 0 ∧ x.f0 ≠ 6) := by
  obtain ⟨a, b, c, d⟩ := x
  unfold badPlace at hb
  simp only [Bool.or_eq_false_iff, Bool.not_eq_false'] at hb
  obtain ⟨⟨hs, h5⟩, hl⟩ := hb
  unfold soundB vacB at hs
  unfold vacB at hl
  simp only [beq_iff_eq, Bool.or_eq_true] at hs h5 hl h0
  have h5' : a = 5 → (k : Int) = last := fun e => by
    subst e
    simpa using h5
  have hl' : (k : Int) = last → a ≠ 0 ∧ a ≠ 6 := fun e => by
    constructor
    · rintro rfl
      simp [e] at hl
    · rintro rfl
      simp [e] at hl
  refine ⟨⟨fun h => (by cases h), ?_, h5', ?_, ?_⟩, hl'⟩
  · show ((a = 0 ∨ a = 5 ∨ a = 6) ∧ b = 0 ∧ c = false ∧ d = 0) ∨ ((a = 1 ∨ a = 2 ∨ a = 3 ∨ a = 4) ∧ 1 ≤ b ∧ b ≤ 281474976710655 ∧ 0 ≤ d ∧ d < P)
    by_cases hv : (a = 0 ∨ a = 5) ∨ a = 6
    · rw [if_pos hv] at hs
      simp at hs
      exact .inl ⟨by omega, hs.1, hs.2.1, hs.2.2⟩
    · rw [if_neg hv] at hs
      by_cases hc : a < 0 ∨ 6 < a ∨ b = 0 ∨ 281474976710655 < b ∨ d < 0 ∨ P ≤ d
      · rw [if_pos hc] at hs
        cases hs
      · exact .inr ⟨by omega, by omega, by omega, by omega, by omega⟩
  · show a = 3 → d = 0
    rintro rfl
    simp at hs
    exact hs.2
  · show a = 1 → c = true ∨ d ≠ 0 ∨ (k : Int) = -1
    rintro rfl
    simp at hs
    rcases hs.2 with h | h
    · exact .inl h
    · exact .inr (.inl (by omega))
theorem NJ.step {P last : Int} {pre : List S34} {opn : Int} (h : NJ P last pre opn) {x : S34} (hP : 4 ≤ P) (h0 : 0 ≤ x.f1) (hok : entryOk P last pre opn x = true) : NJ P last (pre ++ [x]) (if x.f0 = 2 then (pre.length : Int) else opn) := by
  unfold entryOk at hok
  simp only [Bool.and_eq_true, Bool.not_eq_true'] at hok
  obtain ⟨⟨hb, ho⟩, hh⟩ := hok
  refine ⟨fun i z hz => ?_, ?_, fun i j y z hy hz he hn => ?_⟩
  · rcases get_snoc hz with ⟨_, hz⟩ | ⟨rfl, rfl⟩
    · exact h.row i z hz
    · exact sound_row hP h0 hb
  · rw [List.map_append]
    by_cases h2 : x.f0 = 2
    · rw [if_pos h2]
      have hon : opn = -1 := by
        rw [h2] at ho
        simpa using ho
      refine .inr ⟨pre.length, blkS x, rfl, by rw [List.getElem?_append_right (by simp)]; simp, h2, fun i y hy hs => ?_⟩
      rcases get_snoc hy with ⟨_, hy⟩ | ⟨hi, rfl⟩
      · rcases h.opn with ⟨_, h4⟩ | ⟨k, z, h3, _⟩
        · exact absurd hs (h4 i y hy)
        · omega
      · simpa using hi
    · rw [if_neg h2]
      rcases h.opn with ⟨h3, h4⟩ | ⟨k, z, h3, h4, h5, h6⟩
      · refine .inl ⟨h3, fun i y hy => ?_⟩
        rcases get_snoc hy with ⟨_, hy⟩ | ⟨hi, rfl⟩
        · exact h4 i y hy
        · exact h2
      · refine .inr ⟨k, z, h3, ?_, h5, fun i y hy hs => ?_⟩
        · rw [List.getElem?_append_left (List.getElem?_eq_some_iff.1 h4).1]
          exact h4
        · rcases get_snoc hy with ⟨_, hy⟩ | ⟨hi, rfl⟩
          · exact h6 i y hy hs
          · exact absurd hs h2
  · have hno : ∀ (m : Nat) (u : S34), pre[m]? = some u → u.f1 = x.f1 → x.f1 ≠ 0 → False := fun m u hu e hx => by
      rw [show (x.f1 != 0) = true from bne_iff_ne.2 hx, Bool.true_and] at hh
      have := headIn_iff.2 ⟨m, u, hu, by omega, e⟩
      rw [hh] at this
      cases this
    rcases get_snoc hy with ⟨_, hy2⟩ | ⟨ei, ey⟩
    · rcases get_snoc hz with ⟨_, hz2⟩ | ⟨ej, ez⟩
      · exact h.heads i j y z hy2 hz2 he hn
      · rw [ez] at he
        exact (hno i y hy2 he (by omega)).elim
    · rcases get_snoc hz with ⟨_, hz2⟩ | ⟨ej, ez⟩
      · rw [ey] at he hn
        exact (hno j z hz2 he.symm hn).elim
      · omega
theorem new_inv {P last : Int} (hP : 4 ≤ P) : ∀ (r pre : List S34) (opn o : Int), NJ P last pre opn → (∀ x ∈ r, 0 ≤ x.f1) → newFrom P last pre opn r = some o → NJ P last (pre ++ r) o := by
  intro r
  induction r with
  | nil =>
    intro pre opn o h _ hn
    unfold newFrom at hn
    rw [List.append_nil]
    rw [← Option.some.inj hn]
    exact h
  | cons x r ih =>
    intro pre opn o h h0 hn
    rw [newFrom_cons] at hn
    by_cases hok : entryOk P last pre opn x = true
    · rw [if_pos hok] at hn
      have := ih _ _ o (h.step hP (h0 x (List.mem_cons_self ..)) hok) (fun y hy => h0 y (List.mem_cons_of_mem _ hy)) hn
      rwa [List.append_assoc] at this
    · rw [if_neg hok] at hn
      cases hn
theorem new_wf {B P S : Int} {l : List S34} {cursor last opn : Int} (h0 : ∀ x ∈ l, 0 ≤ x.f1) (h : newRes B P S l cursor last = some opn) : WFB ⟨P, l.map blkS, cursor, last, -1, opn⟩ ∧ NoLeft ⟨P, l.map blkS, cursor, last, -1, opn⟩ := by
  have hpl := newRes_place h
  have hfit : fitsB B P S = true ∧ placeB B l.length cursor last = true ∧ newFrom P last [] (-1) l = some opn := by
    unfold newRes at h
    by_cases hb : (fitsB B P S && placeB B l.length cursor last) = true
    · rw [if_pos hb] at h
      rw [Bool.and_eq_true] at hb
      exact ⟨hb.1, hb.2, h⟩
    · rw [if_neg hb] at h
      cases h
  have hf := of_decide_eq_true (show decide (8 ≤ B ∧ B ≤ 4096 ∧ 4 ≤ P ∧ P ≤ 256 ∧ 1 ≤ S ∧ S ≤ 8 ∧ B * P ≤ 65536) = true from hfit.1)
  have hp := hfit.2.1
  unfold placeB at hp
  simp only [Bool.not_eq_true', Bool.or_eq_false_iff, decide_eq_false_iff_not] at hp
  have hJ := new_inv (P := P) (last := last) hf.2.2.1 l [] (-1) opn ⟨fun i x hx => by simp at hx, .inl ⟨rfl, fun i x hx => by simp at hx⟩, fun i j x y hx => by simp at hx⟩ h0 hfit.2.2
  rw [List.nil_append] at hJ
  have hlen : ((l.map blkS).length : Int) = B := by rw [List.length_map]; exact hpl.2.2.1
  have gm : ∀ {i : Nat} {y : Blk}, (l.map blkS)[i]? = some y → ∃ x, l[i]? = some x ∧ y = blkS x := fun {i y} hy => by
    rw [List.getElem?_map] at hy
    cases hx : l[i]? with
    | none => rw [hx] at hy; cases hy
    | some x => rw [hx] at hy; cases hy; exact ⟨x, rfl, rfl⟩
  refine ⟨⟨by show 8 ≤ (l.map blkS).length; omega, by show (l.map blkS).length ≤ 4096; omega, ⟨hf.2.2.1, hf.2.2.2.1⟩, ⟨by show -1 ≤ cursor; omega, by show cursor < ((l.map blkS).length : Int); omega⟩, ⟨by show -1 ≤ last; omega, by show last < ((l.map blkS).length : Int); omega⟩, fun i y hy => ?_, hJ.opn, fun i j y z hy hz he hn => ?_, .inl rfl, fun i y hy hi => ?_⟩, fun i y hy => ?_⟩
  · obtain ⟨x, hx, rfl⟩ := gm hy
    exact (hJ.row i x hx).1
  · obtain ⟨x, hx, rfl⟩ := gm hy
    obtain ⟨x', hx', rfl⟩ := gm hz
    exact hJ.heads i j x x' hx hx' he hn
  · obtain ⟨x, hx, rfl⟩ := gm hy
    exact (hJ.row i x hx).2 hi
  · obtain ⟨x, hx, rfl⟩ := gm hy
    rfl
/-- begun, in the words of the two books. -/
def StartEnd (w : World) (B P S : Int) (l : List S34) (cursor last : Int) (e : Ending) (W : World) : Prop :=
  (Below w.heap.size w W ∧ e = .returned (.tuple #[.pointer none, .pointer none, .bool true])) ∨
  (∃ (opn : Int) (p q cap p' q' t' cap' : Nat), newRes B P S l cursor last = some opn ∧ e = .returned (.tuple #[.pointer (some ⟨p, 0, none⟩), .pointer (some ⟨p', 0, none⟩), .bool true]) ∧
    Duo w p q cap p' q' t' cap' ⟨P, l.map blkS, cursor, last, -1, opn⟩ ⟨P, l.map blkS, cursor, last, -1, opn⟩ W ∧ WFB ⟨P, l.map blkS, cursor, last, -1, opn⟩ ∧ NoLeft ⟨P, l.map blkS, cursor, last, -1, opn⟩ ∧ l.length ≤ cap')
theorem start_all (B P S : Int) (A : Option Addr) (l : List S34) (c : Nat) (cursor last : Int) (w : World) (hl : Kd.C k34 w A l.length l) (hc : l.length ≤ c) (hreach : l.length * 32 ≤ 140737488351232) (hwf : ∀ x, x ∈ l → 0 ≤ x.f1) :
    Calls Try.prog 8 #[.agg #[.int .i64 B, .int .i64 P, .int .i64 S], .slice A l.length c, .int .i64 cursor, .int .i64 last] w (StartEnd w B P S l cursor last) := by
  refine (begun_calls B P S A l c cursor last w hl hc hreach hwf).mono ?_
  rintro e W ⟨hb, h⟩
  rcases h with ⟨_, rfl⟩ | ⟨opn, p, v, rb, lb, rv, hres, rfl, hpb, hrn⟩
  · exact .inl ⟨hb, rfl⟩
  · have hpl := newRes_place hres
    obtain ⟨q, cap, hI, hq⟩ := hpb.isB (by omega) (by omega)
    obtain ⟨q', cap', hR, hq', hcap⟩ := hrn.isR opn (by omega) (by omega)
    obtain ⟨h1, h2⟩ := new_wf hwf hres
    exact .inr ⟨opn, p, q, cap, rb, q', lb, cap', hres, rfl, ⟨hI, hR, hb, hpb.pb, hq, hrn.rbb, hq', hrn.lbb⟩, h1, h2, hcap⟩
end Go.Proofs.Ytmohijpkhmeibaa
/- A list of calls in memory. -/
namespace Go.Proofs.Ytmohijpkhmeibaa
open Go.RowKit Go.Proofs
set_option linter.unusedVariables false
set_option linter.unusedSimpArgs false
structure Op4 where
  kind : Int
  block : Int
  more : Int
  head : Int
def Op4.cells (x : Op4) : List Value := [.int .i64 x.kind, .int .i64 x.block, .int .i64 x.more, .int .u64 x.head]
def OpsAt (w : World) (A : Option Addr) (os : List Op4) : Prop := os = [] ∨ ∃ g o, A = some ⟨g, o, none⟩ ∧ ∀ (i : Nat) (x : Op4), os[i]? = some x → ∀ (j : Nat) (v : Value), x.cells[j]? = some v → w.cell? ⟨g, o + i * 4 + j, none⟩ = some v
structure OpsOk (os : List Op4) : Prop where
  ok : ∀ x ∈ os, (-9223372036854775808 ≤ x.more ∧ x.more ≤ 9223372036854775807) ∧ 0 ≤ x.head
  len : os.length ≤ 4398046511104
theorem OpsAt.below {w w' : World} {A : Option Addr} {os : List Op4} (h : OpsAt w A os) (hb : Below w.heap.size w w') : OpsAt w' A os := by
  rcases h with h | ⟨g, o, h1, h2⟩
  · exact .inl h
  · exact .inr ⟨g, o, h1, fun i x hx j v hv => (hb.cell (p := ⟨g, o + i * 4 + j, none⟩) (World.block_lt_of_cell? _ _ (h2 i x hx j v hv))).trans (h2 i x hx j v hv)⟩
theorem OpsAt.get {w : World} {A : Option Addr} {os : List Op4} (h : OpsAt w A os) {i : Nat} {x : Op4} (hx : os[i]? = some x) :
    ∃ g o, A = some ⟨g, o, none⟩ ∧ w.cell? ⟨g, o + i * 4, none⟩ = some (.int .i64 x.kind) ∧ w.cell? ⟨g, o + i * 4 + 1, none⟩ = some (.int .i64 x.block) ∧ w.cell? ⟨g, o + i * 4 + 2, none⟩ = some (.int .i64 x.more) ∧ w.cell? ⟨g, o + i * 4 + 3, none⟩ = some (.int .u64 x.head) := by
  rcases h with rfl | ⟨g, o, h1, h2⟩
  · cases hx
  · exact ⟨g, o, h1, h2 i x hx 0 _ rfl, h2 i x hx 1 _ rfl, h2 i x hx 2 _ rfl, h2 i x hx 3 _ rfl⟩
end Go.Proofs.Ytmohijpkhmeibaa
