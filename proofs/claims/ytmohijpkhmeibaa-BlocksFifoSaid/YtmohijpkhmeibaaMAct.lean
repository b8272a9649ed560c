/- act of the law: one call of the program's book alone. -/
import Derived.Test.YtmohijpkhmeibaaMDo
namespace Go.Proofs.Ytmohijpkhmeibaa
open Go.RowKit Go.Proofs
set_option linter.unusedVariables false
set_option linter.unusedSimpArgs false
set_option maxRecDepth 100000
/-- The program's book (b), made since w0. -/
structure Solo (w0 : World) (p q cap : Nat) (b : Bks) (w : World) : Prop where
  isB : IsB w p q cap b
  below : Below w0.heap.size w0 w
  lp : w0.heap.size ≤ p
  lq : w0.heap.size ≤ q
section
variable {w0 w w' : World} {p q cap : Nat} {b b' : Bks}
theorem Duo.solo {p' q' t' cap' : Nat} {bR : Bks} (h : Duo w0 p q cap p' q' t' cap' b bR w) : Solo w0 p q cap b w := ⟨h.isB, h.below, h.lp, h.lq⟩
theorem Solo.toB (h : Solo w0 p q cap b w) (hI : IsB w' p q cap b') (ho : Off (fun i => i = q ∨ i = p) w w') : Solo w0 p q cap b' w' :=
  ⟨hI, h.below.trans (ho.below h.below.size fun i hi => by rcases hi with rfl | rfl; exact h.lq; exact h.lp), h.lp, h.lq⟩
theorem Solo.of_below (h : Solo w0 p q cap b w) (hb : Below w.heap.size w w') : Solo w0 p q cap b w' :=
  ⟨h.isB.below hb, h.below.trans (hb.mono h.below.size), h.lp, h.lq⟩
theorem Solo.drewN (h : Solo w0 p q cap b w) (n : Nat) : Solo w0 p q cap b (w.drewN n) := ⟨h.isB.drewN n, pw_below_drewN' h.below n, h.lp, h.lq⟩
theorem Solo.alloc (h : Solo w0 p q cap b w) (o : Obj) : Solo w0 p q cap b (w.alloc o) := h.of_below ((Below.refl _ _).alloc (Nat.le_refl _) o)
theorem Solo.box (h : Solo w0 p q cap b w) {x : Nat} {c : Array Value} (hx : w.heap[x]? = some (.cells c 50 (0, 0))) : ¬ (x = q ∨ x = p) := by
  obtain ⟨c1, hc, _⟩ := h.isB.rows
  have h1 := typ_ne hx h.isB.head (by decide)
  have h2 := typ_ne hx hc (by decide)
  omega
end
/-- What one call does to the program's book. -/
structure ActStep (b b' : Bks) (kind block er : Int) : Prop where
  wf : WFB b'
  len : b'.all.length = b.all.length
  pages : b'.pages = b.pages
  same : er ≠ 0 → b'.all = b.all ∧ b'.cursor = b.cursor
  last : b'.last = if er = 0 ∧ kind = 9 then block else b.last
  noleft : NoLeft b → ¬ (kind = 8 ∧ ∃ (k : Nat) (x : Blk), block = (k : Int) ∧ b.all[k]? = some x ∧ x.state = 4) → NoLeft b'
structure ActEnd (w0 : World) (p q cap : Nat) (b : Bks) (kind block : Int) (w : World) (e : Ending) (w' : World) : Prop where
  step : ∃ (er : Int) (b' : Bks), e = .returned (.int .i64 er) ∧ ActStep b b' kind block er ∧ Solo w0 p q cap b' w' ∧ Off (fun i => i = q ∨ i = p) w w'
theorem ActStep.of {b b' : Bks} {kind block er : Int} (hs : Stp b b') (he : er ≠ 0 → b' = b) (hk : kind ≠ 9) (hn : NoLeft b → ¬ (kind = 8 ∧ ∃ (k : Nat) (x : Blk), block = (k : Int) ∧ b.all[k]? = some x ∧ x.state = 4) → NoLeft b') : ActStep b b' kind block er :=
  ⟨hs.wf, hs.len, hs.pages, fun h => by rw [he h]; exact ⟨rfl, rfl⟩, by rw [if_neg fun h => hk h.2]; exact hs.last, hn⟩
set_option maxHeartbeats 8000000 in
theorem act_calls (w0 : World) (p q cap : Nat) (b : Bks) (kind block more head : Int) (w : World) (hD : Solo w0 p q cap b w) (hw : WFB b) (hm : -9223372036854775808 ≤ more ∧ more ≤ 9223372036854775807) (hh : 0 ≤ head) :
    Calls Try.prog 22 #[.pointer (some ⟨p, 0, none⟩), .agg #[.int .i64 kind, .int .i64 block, .int .i64 more, .int .u64 head]] w (ActEnd w0 p q cap b kind block w) := by
  have hle := hD.isB.le
  have HD := Lib.hid (hD.alloc (.cells #[.int .i64 kind, .int .i64 block, .int .i64 more, .int .u64 head] 50))
  have HO0 := Lib.hid (show Off (fun i => i = q ∨ i = p) w (w.alloc (.cells #[.int .i64 kind, .int .i64 block, .int .i64 more, .int .u64 head] 50)) from Off.of_below ((Below.refl _ _).alloc (Nat.le_refl _) _))
  have hbx := heap_alloc_new w (.cells #[.int .i64 kind, .int .i64 block, .int .i64 more, .int .u64 head] 50)
  have x1 := cell_of (o := 1) hbx rfl
  have x2 := cell_of (o := 2) hbx rfl
  have x3 := cell_of (o := 3) hbx rfl
  have HW := Lib.hid hw
  clear hD hbx hw
  by_cases k1 : kind = 1
  · subst k1
    obtain ⟨v, ok, b', hB, _, hs, hn⟩ := op_pick HW.out
    have HB := Lib.hid hB
    have HS := Lib.hid hs
    have HN := Lib.hid hn
    clear hB hs hn
    go_enter Try.func22, Try.ntmps22
    go_wp2_with fail
    refine (HB.out _ p q cap HD.out.isB).mono ?_
    rintro e w1 ⟨rfl, hI1, ho1⟩
    have HD1 := Lib.hid (HD.out.toB hI1 ho1)
    have HO1 := Lib.hid (HO0.out.trans ho1)
    clear hI1 ho1 x1 x2 x3
    go_wp2
    go_ret
    exact ⟨0, b', rfl, ActStep.of HS.out (fun h => absurd rfl h) (by decide) (fun h _ i x hx => h i x (by rw [← HN.out]; exact hx)), HD1.out, HO1.out⟩
  have n1 : (kind == 1) = false := beq_eq_false_iff_ne.2 k1
  by_cases k2 : kind = 2
  · subst k2
    obtain ⟨er, b', hB, _, hs, he, hn⟩ := op_start HW.out block head hh
    have HB := Lib.hid hB
    have HS := Lib.hid hs
    have HE := Lib.hid he
    have HN := Lib.hid hn
    clear hB hs he hn
    go_enter Try.func22, Try.ntmps22
    go_wp2_with fail
    refine (HB.out _ p q cap HD.out.isB).mono ?_
    rintro e w1 ⟨rfl, hI1, ho1⟩
    have HD1 := Lib.hid (HD.out.toB hI1 ho1)
    have HO1 := Lib.hid (HO0.out.trans ho1)
    clear hI1 ho1 x1 x2 x3
    go_wp2
    go_ret
    exact ⟨er, b', rfl, ActStep.of HS.out HE.out (by decide) (fun h _ => HN.out h), HD1.out, HO1.out⟩
  have n2 : (kind == 2) = false := beq_eq_false_iff_ne.2 k2
  by_cases k3 : kind = 3
  · subst k3
    obtain ⟨er, b', hB, _, hs, he, hn⟩ := op_real HW.out
    have HB := Lib.hid hB
    have HS := Lib.hid hs
    have HE := Lib.hid he
    have HN := Lib.hid hn
    clear hB hs he hn
    go_enter Try.func22, Try.ntmps22
    go_wp2_with fail
    refine (HB.out _ p q cap HD.out.isB).mono ?_
    rintro e w1 ⟨rfl, hI1, ho1⟩
    have HD1 := Lib.hid (HD.out.toB hI1 ho1)
    have HO1 := Lib.hid (HO0.out.trans ho1)
    clear hI1 ho1 x1 x2 x3
    go_wp2
    go_ret
    exact ⟨er, b', rfl, ActStep.of HS.out HE.out (by decide) (fun h _ => HN.out h), HD1.out, HO1.out⟩
  have n3 : (kind == 3) = false := beq_eq_false_iff_ne.2 k3
  by_cases k4 : kind = 4
  · subst k4
    obtain ⟨er, b', hB, _, hs, he, hn⟩ := op_live HW.out block more hm
    have HB := Lib.hid hB
    have HS := Lib.hid hs
    have HE := Lib.hid he
    have HN := Lib.hid hn
    clear hB hs he hn
    go_enter Try.func22, Try.ntmps22
    go_wp2_with fail
    refine (HB.out _ p q cap HD.out.isB).mono ?_
    rintro e w1 ⟨rfl, hI1, ho1⟩
    have HD1 := Lib.hid (HD.out.toB hI1 ho1)
    have HO1 := Lib.hid (HO0.out.trans ho1)
    clear hI1 ho1 x1 x2 x3
    go_wp2
    go_ret
    exact ⟨er, b', rfl, ActStep.of HS.out HE.out (by decide) (fun h _ => HN.out h), HD1.out, HO1.out⟩
  have n4 : (kind == 4) = false := beq_eq_false_iff_ne.2 k4
  by_cases k5 : kind = 5
  · subst k5
    obtain ⟨er, b', hB, _, hs, he, hn⟩ := op_shut HW.out
    have HB := Lib.hid hB
    have HS := Lib.hid hs
    have HE := Lib.hid he
    have HN := Lib.hid hn
    clear hB hs he hn
    go_enter Try.func22, Try.ntmps22
    go_wp2_with fail
    refine (HB.out _ p q cap HD.out.isB).mono ?_
    rintro e w1 ⟨rfl, hI1, ho1⟩
    have HD1 := Lib.hid (HD.out.toB hI1 ho1)
    have HO1 := Lib.hid (HO0.out.trans ho1)
    clear hI1 ho1 x1 x2 x3
    go_wp2
    go_ret
    exact ⟨er, b', rfl, ActStep.of HS.out HE.out (by decide) (fun h _ => HN.out h), HD1.out, HO1.out⟩
  have n5 : (kind == 5) = false := beq_eq_false_iff_ne.2 k5
  by_cases k6 : kind = 6
  · subst k6
    obtain ⟨er, b', hB, _, hs, he, hn⟩ := op_wait HW.out
    have HB := Lib.hid hB
    have HS := Lib.hid hs
    have HE := Lib.hid he
    have HN := Lib.hid hn
    clear hB hs he hn
    go_enter Try.func22, Try.ntmps22
    go_wp2_with fail
    refine (HB.out _ p q cap HD.out.isB).mono ?_
    rintro e w1 ⟨rfl, hI1, ho1⟩
    have HD1 := Lib.hid (HD.out.toB hI1 ho1)
    have HO1 := Lib.hid (HO0.out.trans ho1)
    clear hI1 ho1 x1 x2 x3
    go_wp2
    go_ret
    exact ⟨er, b', rfl, ActStep.of HS.out HE.out (by decide) (fun h _ => HN.out h), HD1.out, HO1.out⟩
  have n6 : (kind == 6) = false := beq_eq_false_iff_ne.2 k6
  by_cases k7 : kind = 7
  · subst k7
    obtain ⟨er, b', hB, _, hs, he, hn⟩ := op_bad HW.out block
    have HB := Lib.hid hB
    have HS := Lib.hid hs
    have HE := Lib.hid he
    have HN := Lib.hid hn
    clear hB hs he hn
    go_enter Try.func22, Try.ntmps22
    go_wp2_with fail
    refine (HB.out _ p q cap HD.out.isB).mono ?_
    rintro e w1 ⟨rfl, hI1, ho1⟩
    have HD1 := Lib.hid (HD.out.toB hI1 ho1)
    have HO1 := Lib.hid (HO0.out.trans ho1)
    clear hI1 ho1 x1 x2 x3
    go_wp2
    go_ret
    exact ⟨er, b', rfl, ActStep.of HS.out HE.out (by decide) (fun h _ => HN.out h), HD1.out, HO1.out⟩
  have n7 : (kind == 7) = false := beq_eq_false_iff_ne.2 k7
  by_cases k8 : kind = 8
  · subst k8
    obtain ⟨er, b', hB, _, hs, he, hn⟩ := op_leave HW.out block
    have HB := Lib.hid hB
    have HS := Lib.hid hs
    have HE := Lib.hid he
    have HN := Lib.hid hn
    clear hB hs he hn
    go_enter Try.func22, Try.ntmps22
    go_wp2_with fail
    refine (HB.out _ p q cap HD.out.isB).mono ?_
    rintro e w1 ⟨rfl, hI1, ho1⟩
    have HD1 := Lib.hid (HD.out.toB hI1 ho1)
    have HO1 := Lib.hid (HO0.out.trans ho1)
    clear hI1 ho1 x1 x2 x3
    go_wp2
    go_ret
    exact ⟨er, b', rfl, ActStep.of HS.out HE.out (by decide) (fun h hc => HN.out h fun k x e hx hs => hc ⟨rfl, k, x, e, hx, hs⟩), HD1.out, HO1.out⟩
  have n8 : (kind == 8) = false := beq_eq_false_iff_ne.2 k8
  by_cases k9 : kind = 9
  · subst k9
    obtain ⟨er, M, b', hB, _, hwf, hlen, hpg, he, hz, hn, _⟩ := op_commit HW.out block
    have HB := Lib.hid hB
    have HS := Lib.hid (show ActStep b b' 9 block er from ⟨hwf, hlen, hpg, fun h => by rw [(he h).1]; exact ⟨rfl, rfl⟩, by
      by_cases e : er = 0
      · obtain ⟨k, x, e1, _, _, _, e2, _⟩ := hz e
        rw [if_pos ⟨e, rfl⟩, e2, e1]
        rfl
      · rw [if_neg fun h => e h.1, (he e).1], fun h _ => hn h⟩)
    clear hB hwf hlen hpg he hz hn
    go_enter Try.func22, Try.ntmps22
    go_wp2_with fail
    refine (HB.out _ p q cap HD.out.isB).mono ?_
    rintro e w1 ⟨v1, rfl, _, hI1, ho1⟩
    have HD1 := Lib.hid (HD.out.toB hI1 ho1)
    have HO1 := Lib.hid (HO0.out.trans ho1)
    clear hI1 ho1 x1 x2 x3
    go_wp2
    go_ret
    exact ⟨er, b', rfl, HS.out, HD1.out, HO1.out⟩
  have n9 : (kind == 9) = false := beq_eq_false_iff_ne.2 k9
  by_cases k10 : kind = 10
  · subst k10
    obtain ⟨v, hd, ok, b', _, _, hB, _, hs, hn⟩ := op_clean HW.out
    have HB := Lib.hid hB
    have HS := Lib.hid hs
    have HN := Lib.hid hn
    clear hB hs hn
    go_enter Try.func22, Try.ntmps22
    go_wp2_with fail
    refine (HB.out _ p q cap HD.out.isB).mono ?_
    rintro e w1 ⟨rfl, hI1, ho1⟩
    have HD1 := Lib.hid (HD.out.toB hI1 ho1)
    have HO1 := Lib.hid (HO0.out.trans ho1)
    clear hI1 ho1 x1 x2 x3
    go_wp2
    go_ret
    exact ⟨0, b', rfl, ActStep.of HS.out (fun h => absurd rfl h) (by decide) (fun h _ => HN.out h), HD1.out, HO1.out⟩
  have n10 : (kind == 10) = false := beq_eq_false_iff_ne.2 k10
  go_enter Try.func22, Try.ntmps22
  go_wp2
  go_ret
  exact ⟨0, b, rfl, ActStep.of (Stp.refl HW.out) (fun h => absurd rfl h) k9 (fun h _ => h), HD.out, HO0.out⟩
end Go.Proofs.Ytmohijpkhmeibaa
/- hollow of the law: the used blocks with nothing in them as free or held ones. -/
namespace Go.Proofs.Ytmohijpkhmeibaa
open Go.RowKit Go.Proofs
set_option linter.unusedVariables false
set_option linter.unusedSimpArgs false
set_option maxRecDepth 100000
def hollowX (last : Int) (i : Nat) (x : Blk) : Blk := if hollowB x = true then (if (i : Int) = last then heldBlk else freeBlk) else x
def hollowL (last : Int) (l : List Blk) : List Blk := l.mapIdx (hollowX last)
def hollowN (l : List Blk) : Nat := (l.filter hollowB).length
theorem hollowL_get (last : Int) (l : List Blk) (i : Nat) : (hollowL last l)[i]? = l[i]?.map (hollowX last i) := by unfold hollowL; rw [List.getElem?_mapIdx]
theorem hollowL_len (last : Int) (l : List Blk) : (hollowL last l).length = l.length := by unfold hollowL; simp
theorem hollowL_at {last : Int} {l : List Blk} {j : Nat} {x : Blk} (h : l[j]? = some x) : (hollowL last l)[j]? = some (hollowX last j x) := by rw [hollowL_get, h]; rfl
theorem hollowN_snoc (l : List Blk) (x : Blk) : hollowN (l ++ [x]) = hollowN l + if hollowB x then 1 else 0 := by
  unfold hollowN
  rw [List.filter_append, List.length_append]
  cases h : hollowB x <;> simp [List.filter_cons, h]
theorem hollowN_le (l : List Blk) : hollowN l ≤ l.length := List.length_filter_le _ _
set_option maxHeartbeats 4000000 in
theorem hollow_calls (g c : Nat) (l : List Blk) (last : Int) (w : World) (hr : Rows4 w g l) (hle : l.length ≤ 4096) :
    Calls Try.prog 24 #[.slice (some ⟨g, 0, none⟩) l.length c, .int .i64 last] w fun e w' => ∃ v, e = .returned (.tuple #[v, .int .i64 (hollowN l)]) ∧ w'.ownsRow w.heap.size 34 4 v l.length (encB (hollowL last l)) ∧ Below w.heap.size w w' := by
  obtain ⟨i0, hi, hz0, hz1, hz2⟩ := info_parts info34
  have HI := Lib.hid hr
  clear hr
  go_enter Try.func24, Try.ntmps24
  go_wp2
  go_loopw [6, 7, 8, 9] (fun s6 s7 s8 _ wr => ∃ (j : Nat) (v6 : Value), v6 = s6 ∧ s8 = .int .i64 (j : Int) ∧ s7 = .int .i64 (hollowN (l.take j)) ∧ j ≤ l.length ∧ wr.ownsRow w.heap.size 34 4 s6 j (encB ((hollowL last l).take j)) ∧ Below w.heap.size w wr) (fun _ _ s8 _ _ => l.length - (intOf s8).toNat)
  case atStart => exact ⟨0, _, rfl, rfl, rfl, by omega, World.ownsRow_nil _ _ _ _, Below.refl _ _⟩
  case round =>
    obtain ⟨j, v6, rfl, rfl, rfl, hj, ho, hb⟩ := hrel
    have HO := Lib.hid ho
    have HB := Lib.hid hb
    by_cases hlt : j < l.length
    · obtain ⟨y, hy⟩ : ∃ y, l[j]? = some y := ⟨_, List.getElem?_eq_getElem hlt⟩
      have hrw : Rows4 wr g l := fun i x hx k v hv => (hb.cell (p := ⟨g, i * 4 + k, none⟩) (World.block_lt_of_cell? _ _ (HI.out i x hx k v hv))).trans (HI.out i x hx k v hv)
      have g0 : wr.cell? ⟨g, j * 4, none⟩ = some (.int .i64 y.state) := hrw j y hy 0 _ rfl
      have g1 : wr.cell? ⟨g, j * 4 + 1, none⟩ = some (.int .u64 y.head) := hrw j y hy 1 _ rfl
      have g2 : wr.cell? ⟨g, j * 4 + 2, none⟩ = some (.bool y.real) := hrw j y hy 2 _ rfl
      have g3 : wr.cell? ⟨g, j * 4 + 3, none⟩ = some (.int .i64 y.live) := hrw j y hy 3 _ rfl
      have hjl : (j : Int) < (l.length : Int) := by omega
      have hsz := hb.size
      have HLT := Lib.hid ho.lt
      have hhn := hollowN_le (l.take j)
      have hhl : (l.take j).length ≤ j := List.length_take_le _ _
      have HT := Lib.hid (take_snoc (hollowL_at (last := last) hy))
      have HN := Lib.hid (show hollowN (l.take (j + 1)) = hollowN (l.take j) + if hollowB y then 1 else 0 by rw [take_snoc hy]; exact hollowN_snoc _ _)
      have n1 : (wr.alloc (.cells #[.int .i64 y.state, .int .u64 y.head, .bool y.real, .int .i64 y.live] 34)).heap.size = wr.heap.size + 1 := World.size_alloc _ _
      clear ho hb hy hrw
      rcases (Bool.eq_false_or_eq_true (y.state == 1)).symm with h1 | h1
      · have k1 := h1
        have ENC := Lib.hid (show encB [y] = [.int .i64 y.state, .int .u64 y.head, .bool y.real, .int .i64 y.live] from rfl)
        have HX := Lib.hid (show hollowX last j y = y by unfold hollowX; rw [if_neg (by unfold hollowB; rw [k1]; exact Bool.false_ne_true)])
        have HH := Lib.hid (show hollowB y = false by unfold hollowB; rw [k1]; rfl)
        go_wp2_with (at_builtin; refine wpList_append_own _ rfl _ _ 24 rfl w.heap.size 34 i0 (.agg #[.int .i64 0, .int .u64 0, .bool false, .int .i64 0]) 4 32 Try.underlying24 hi hz0 hz1 hz2 rfl (by decide) v6 _ _ (by rfl) ((HO.out.alloc _).alloc _) ⟨wr.heap.size + 1, 0, none⟩ 1 1 [.int .i64 y.state, .int .u64 y.head, .bool y.real, .int .i64 y.live] rfl rfl (World.news_of_block (by have := heap_alloc_new (wr.alloc (.cells #[.int .i64 y.state, .int .u64 y.head, .bool y.real, .int .i64 y.live] 34)) (.cells #[.int .i64 y.state, .int .u64 y.head, .bool y.real, .int .i64 y.live] 34); rwa [World.size_alloc] at this)) (by simp [Value.oneCell']) (by unfold maxLen; omega) (by omega) (by rw [World.size_alloc, World.size_alloc]; omega) ?_; intro v' w1 hown' hgrow _; have HO' := Lib.hid hown'; have HG := Lib.hid hgrow; clear hown' hgrow)
        go_roundw
        case rel =>
          refine ⟨j + 1, _, rfl, by go_num, by rw [HN.out, HH.out]; rfl, by omega, ?_, ((HB.out.alloc hsz _).alloc (by rw [World.size_alloc]; omega) _).grown HG.out (by rw [World.size_alloc, World.size_alloc]; omega) fun k e => (HLT.out k e).1⟩
          rw [HT.out, encB_append, HX.out, ENC.out]
          exact HO'.out
        case measure => simp [intOf]; omega
      rcases (Bool.eq_false_or_eq_true y.real).symm with hr | hr
      · have ENC := Lib.hid (show encB [y] = [.int .i64 y.state, .int .u64 y.head, .bool false, .int .i64 y.live] by rw [← hr]; rfl)
        have HR := Lib.hid hr
        rw [hr] at g2 n1
        clear hr
        rcases (Bool.eq_false_or_eq_true (y.live == 0)).symm with h3 | h3
        · have K1 := Lib.hid h1
          have K3 := Lib.hid h3
          have HX := Lib.hid (show hollowX last j y = y by unfold hollowX; rw [if_neg (by unfold hollowB; rw [K1.out, HR.out, K3.out]; exact Bool.false_ne_true)])
          have HH := Lib.hid (show hollowB y = false by unfold hollowB; rw [K1.out, HR.out, K3.out]; rfl)
          go_wp2_with (at_builtin; refine wpList_append_own _ rfl _ _ 24 rfl w.heap.size 34 i0 (.agg #[.int .i64 0, .int .u64 0, .bool false, .int .i64 0]) 4 32 Try.underlying24 hi hz0 hz1 hz2 rfl (by decide) v6 _ _ (by rfl) ((HO.out.alloc _).alloc _) ⟨wr.heap.size + 1, 0, none⟩ 1 1 [.int .i64 y.state, .int .u64 y.head, .bool false, .int .i64 y.live] rfl rfl (World.news_of_block (by have := heap_alloc_new (wr.alloc (.cells #[.int .i64 y.state, .int .u64 y.head, .bool false, .int .i64 y.live] 34)) (.cells #[.int .i64 y.state, .int .u64 y.head, .bool false, .int .i64 y.live] 34); rwa [World.size_alloc] at this)) (by simp [Value.oneCell']) (by unfold maxLen; omega) (by omega) (by rw [World.size_alloc, World.size_alloc]; omega) ?_; intro v' w1 hown' hgrow _; have HO' := Lib.hid hown'; have HG := Lib.hid hgrow; clear hown' hgrow)
          go_roundw
          case rel =>
            refine ⟨j + 1, _, rfl, by go_num, by rw [HN.out, HH.out]; rfl, by omega, ?_, ((HB.out.alloc hsz _).alloc (by rw [World.size_alloc]; omega) _).grown HG.out (by rw [World.size_alloc, World.size_alloc]; omega) fun k e => (HLT.out k e).1⟩
            rw [HT.out, encB_append, HX.out, ENC.out]
            exact HO'.out
          case measure => simp [intOf]; omega
        · have HH := Lib.hid (show hollowB y = true by unfold hollowB; rw [h1, HR.out, h3]; rfl)
          by_cases hjl2 : (j : Int) = last
          · have e2 : ((j : Int) == last) = true := beq_iff_eq.2 hjl2
            have HX := Lib.hid (show hollowX last j y = heldBlk by unfold hollowX; rw [if_pos HH.out, if_pos hjl2])
            clear hjl2
            have n2 : (wr.alloc (.cells #[.int .i64 5, .int .u64 0, .bool false, .int .i64 0] 34)).heap.size = wr.heap.size + 1 := World.size_alloc _ _
            go_wp2_with (at_builtin; refine wpList_append_own _ rfl _ _ 24 rfl w.heap.size 34 i0 (.agg #[.int .i64 0, .int .u64 0, .bool false, .int .i64 0]) 4 32 Try.underlying24 hi hz0 hz1 hz2 rfl (by decide) v6 _ _ (by rfl) ((HO.out.alloc _).alloc _) ⟨wr.heap.size + 1, 0, none⟩ 1 1 [.int .i64 5, .int .u64 0, .bool false, .int .i64 0] rfl rfl (World.news_of_block (by have := heap_alloc_new (wr.alloc (.cells #[.int .i64 5, .int .u64 0, .bool false, .int .i64 0] 34)) (.cells #[.int .i64 5, .int .u64 0, .bool false, .int .i64 0] 34); rwa [World.size_alloc] at this)) (by simp [Value.oneCell']) (by unfold maxLen; omega) (by omega) (by rw [World.size_alloc, World.size_alloc]; omega) ?_; intro v' w1 hown' hgrow _; have HO' := Lib.hid hown'; have HG := Lib.hid hgrow; clear hown' hgrow)
            go_roundw
            case rel =>
              refine ⟨j + 1, _, rfl, by go_num, by rw [HN.out, HH.out]; first | rfl | go_num, by omega, ?_, ((HB.out.alloc hsz _).alloc (by rw [World.size_alloc]; omega) _).grown HG.out (by rw [World.size_alloc, World.size_alloc]; omega) fun k e => (HLT.out k e).1⟩
              rw [HT.out, encB_append, HX.out]
              exact HO'.out
            case measure => simp [intOf]; omega
          · have e2 : ((j : Int) == last) = false := beq_eq_false_iff_ne.2 hjl2
            have HX := Lib.hid (show hollowX last j y = freeBlk by unfold hollowX; rw [if_pos HH.out, if_neg hjl2])
            clear hjl2
            have n2 : (wr.alloc (.cells #[.int .i64 0, .int .u64 0, .bool false, .int .i64 0] 34)).heap.size = wr.heap.size + 1 := World.size_alloc _ _
            go_wp2_with (at_builtin; refine wpList_append_own _ rfl _ _ 24 rfl w.heap.size 34 i0 (.agg #[.int .i64 0, .int .u64 0, .bool false, .int .i64 0]) 4 32 Try.underlying24 hi hz0 hz1 hz2 rfl (by decide) v6 _ _ (by rfl) ((HO.out.alloc _).alloc _) ⟨wr.heap.size + 1, 0, none⟩ 1 1 [.int .i64 0, .int .u64 0, .bool false, .int .i64 0] rfl rfl (World.news_of_block (by have := heap_alloc_new (wr.alloc (.cells #[.int .i64 0, .int .u64 0, .bool false, .int .i64 0] 34)) (.cells #[.int .i64 0, .int .u64 0, .bool false, .int .i64 0] 34); rwa [World.size_alloc] at this)) (by simp [Value.oneCell']) (by unfold maxLen; omega) (by omega) (by rw [World.size_alloc, World.size_alloc]; omega) ?_; intro v' w1 hown' hgrow _; have HO' := Lib.hid hown'; have HG := Lib.hid hgrow; clear hown' hgrow)
            go_roundw
            case rel =>
              refine ⟨j + 1, _, rfl, by go_num, by rw [HN.out, HH.out]; first | rfl | go_num, by omega, ?_, ((HB.out.alloc hsz _).alloc (by rw [World.size_alloc]; omega) _).grown HG.out (by rw [World.size_alloc, World.size_alloc]; omega) fun k e => (HLT.out k e).1⟩
              rw [HT.out, encB_append, HX.out]
              exact HO'.out
            case measure => simp [intOf]; omega
      · have ENC := Lib.hid (show encB [y] = [.int .i64 y.state, .int .u64 y.head, .bool true, .int .i64 y.live] by rw [← hr]; rfl)
        have HR := Lib.hid hr
        have K1 := Lib.hid h1
        rw [hr] at g2 n1
        clear hr
        have HX := Lib.hid (show hollowX last j y = y by unfold hollowX; rw [if_neg (by unfold hollowB; rw [K1.out, HR.out]; exact Bool.false_ne_true)])
        have HH := Lib.hid (show hollowB y = false by unfold hollowB; rw [K1.out, HR.out]; rfl)
        go_wp2_with (at_builtin; refine wpList_append_own _ rfl _ _ 24 rfl w.heap.size 34 i0 (.agg #[.int .i64 0, .int .u64 0, .bool false, .int .i64 0]) 4 32 Try.underlying24 hi hz0 hz1 hz2 rfl (by decide) v6 _ _ (by rfl) ((HO.out.alloc _).alloc _) ⟨wr.heap.size + 1, 0, none⟩ 1 1 [.int .i64 y.state, .int .u64 y.head, .bool true, .int .i64 y.live] rfl rfl (World.news_of_block (by have := heap_alloc_new (wr.alloc (.cells #[.int .i64 y.state, .int .u64 y.head, .bool true, .int .i64 y.live] 34)) (.cells #[.int .i64 y.state, .int .u64 y.head, .bool true, .int .i64 y.live] 34); rwa [World.size_alloc] at this)) (by simp [Value.oneCell']) (by unfold maxLen; omega) (by omega) (by rw [World.size_alloc, World.size_alloc]; omega) ?_; intro v' w1 hown' hgrow _; have HO' := Lib.hid hown'; have HG := Lib.hid hgrow; clear hown' hgrow)
        go_roundw
        case rel =>
          refine ⟨j + 1, _, rfl, by go_num, by rw [HN.out, HH.out]; rfl, by omega, ?_, ((HB.out.alloc hsz _).alloc (by rw [World.size_alloc]; omega) _).grown HG.out (by rw [World.size_alloc, World.size_alloc]; omega) fun k e => (HLT.out k e).1⟩
          rw [HT.out, encB_append, HX.out, ENC.out]
          exact HO'.out
        case measure => simp [intOf]; omega
    · obtain rfl : j = l.length := by omega
      rw [List.take_of_length_le (by rw [hollowL_len]; omega)] at ho
      have HO2 := Lib.hid ho
      have HT := Lib.hid (List.take_length (l := l))
      clear ho hb
      go_wp2
      go_ret2
      exact ⟨_, by rw [HT.out]; rfl, HO2.out, HB.out⟩
end Go.Proofs.Ytmohijpkhmeibaa
/- BlocksMay: what a book's list is: it may be, but for the hollow ones; a new book of it counts alike. -/
namespace Go.Proofs.Ytmohijpkhmeibaa
open Go.RowKit Go.Proofs Go.Proofs.YtmohijpkhmeibaaW.PrintWords
open PBlocksRound
set_option linter.unusedVariables false
set_option linter.unusedSimpArgs false
set_option maxRecDepth 100000
/-- A block that New lets by: the other way. -/
theorem row_sound {P last victim : Int} {k : Nat} {x : Blk} (h : RowW P last victim k x) (hu : x.state = 1 → x.real = true ∨ x.live ≠ 0) (hl : (k : Int) = last → x.state ≠ 0 ∧ x.state ≠ 6) : badPlace P last k (sOf x) = false := by
  obtain ⟨a, b, c, d, lf⟩ := x
  have hb := h.body
  have h5 := h.held
  have h3 := h.leav
  simp only at hb h5 h3 hu hl
  unfold badPlace soundB vacB sOf
  simp only
  have hs : (if (a == 0 || a == 5 || a == 6) = true then b == 0 && (!c && d == 0)
      else if a < 0 ∨ 6 < a ∨ b = 0 ∨ 281474976710655 < b ∨ d < 0 ∨ P ≤ d then false
      else if a = 1 then c || decide (0 < d) else if a = 3 then d == 0 else true) = true := by
    rcases hb with ⟨h1, rfl, rfl, rfl⟩ | ⟨h1, h2, h4, h6, h7⟩
    · rw [if_pos (by rcases h1 with rfl | rfl | rfl <;> rfl)]
      rfl
    · rw [if_neg (by simp; omega), if_neg (by omega)]
      by_cases e1 : a = 1
      · rw [if_pos e1]
        rcases hu e1 with h | h
        · rw [h]; rfl
        · rw [show decide (0 < d) = true from decide_eq_true (by omega)]; simp
      · rw [if_neg e1]
        by_cases e3 : a = 3
        · rw [if_pos e3, h3 e3]; rfl
        · rw [if_neg e3]
  rw [hs]
  have t2 : ((a == 5) && (k : Int) != last) = false := by
    by_cases e : a = 5
    · rw [h5 e]; simp
    · rw [show (a == 5) = false from beq_eq_false_iff_ne.2 e]; rfl
  have t3 : ((k : Int) == last && (a == 0 || a == 5 || a == 6) && !(a == 5)) = false := by
    by_cases e : (k : Int) = last
    · obtain ⟨h0, h6⟩ := hl e
      rw [show (a == 0) = false from beq_eq_false_iff_ne.2 h0, show (a == 6) = false from beq_eq_false_iff_ne.2 h6]
      cases (a == 5) <;> simp
    · rw [show ((k : Int) == last) = false from beq_eq_false_iff_ne.2 e]; rfl
  rw [t2, t3]
  rfl
def curOpn (opn : Int) (n : Nat) : Int := if opn < (n : Int) then opn else -1
theorem newFrom_of {P last opn : Int} {L : List S34} (hb : ∀ (i : Nat) (x : S34), L[i]? = some x → badPlace P last i x = false)
    (hh : ∀ (i j : Nat) (x y : S34), L[i]? = some x → L[j]? = some y → x.f1 = y.f1 → x.f1 ≠ 0 → i = j)
    (ho : (opn = -1 ∧ ∀ (i : Nat) (x : S34), L[i]? = some x → x.f0 ≠ 2) ∨ (∃ (k : Nat) (x : S34), opn = (k : Int) ∧ L[k]? = some x ∧ x.f0 = 2 ∧ ∀ (i : Nat) (y : S34), L[i]? = some y → y.f0 = 2 → i = k)) :
    ∀ m n, n + m = L.length → newFrom P last (L.take n) (curOpn opn n) (L.drop n) = some opn := by
  intro m
  induction m with
  | zero =>
    intro n hn
    rw [List.drop_eq_nil_of_le (by omega)]
    unfold newFrom curOpn
    rcases ho with ⟨h1, _⟩ | ⟨k, x, h1, h2, _⟩
    · rw [if_pos (by omega)]
    · have := (List.getElem?_eq_some_iff.1 h2).1
      rw [if_pos (by omega)]
  | succ m ih =>
    intro n hn
    have hx := List.getElem?_eq_getElem (show n < L.length by omega)
    have hkl : (L.take n).length = n := by rw [List.length_take]; omega
    rw [List.drop_eq_getElem_cons (by omega), newFrom_cons]
    have hopn : (L[n]'(by omega)).f0 = 2 ↔ opn = (n : Int) := by
      rcases ho with ⟨h1, h2⟩ | ⟨k, x, h1, h2, h3, h4⟩
      · exact ⟨fun e => absurd e (h2 n _ hx), fun e => by omega⟩
      · constructor
        · intro e
          have := h4 n _ hx e
          omega
        · intro e
          have : k = n := by omega
          subst this
          rw [hx] at h2
          cases h2
          exact h3
    have hok : entryOk P last (L.take n) (curOpn opn n) (L[n]'(by omega)) = true := by
      unfold entryOk
      rw [hkl, hb n _ hx]
      have t1 : ((((L[n]'(by omega)).f0 == 2) && curOpn opn n != -1) : Bool) = false := by
        by_cases e : (L[n]'(by omega)).f0 = 2
        · unfold curOpn
          rw [if_neg (by have := hopn.1 e; omega)]
          simp
        · rw [show ((L[n]'(by omega)).f0 == 2) = false from beq_eq_false_iff_ne.2 e]; rfl
      have t2 : ((((L[n]'(by omega)).f1 != 0) && headIn (L.take n) (L[n]'(by omega)).f1) : Bool) = false := by
        cases hc : (((L[n]'(by omega)).f1 != 0) && headIn (L.take n) (L[n]'(by omega)).f1)
        · rfl
        · exfalso
          rw [Bool.and_eq_true] at hc
          obtain ⟨i, y, hi, _, h2⟩ := headIn_iff.1 hc.2
          rw [List.getElem?_take] at hi
          split at hi
          · rename_i hlt
            have := hh i n y _ hi hx h2 (by rw [h2]; exact bne_iff_ne.1 hc.1)
            omega
          · cases hi
      rw [t1, t2]
      rfl
    rw [if_pos hok, hkl]
    have hc : (if (L[n]'(by omega)).f0 = 2 then (n : Int) else curOpn opn n) = curOpn opn (n + 1) := by
      unfold curOpn
      by_cases e : (L[n]'(by omega)).f0 = 2
      · rw [if_pos e, hopn.1 e, if_pos (by omega)]
      · rw [if_neg e]
        have : opn ≠ (n : Int) := fun h => e (hopn.2 h)
        by_cases e2 : opn < (n : Int)
        · rw [if_pos e2, if_pos (by omega)]
        · rw [if_neg e2, if_neg (by omega)]
    have ht : L.take n ++ [L[n]'(by omega)] = L.take (n + 1) := (take_snoc hx).symm
    rw [hc, ht]
    exact ih (n + 1) (by omega)
theorem hollowX_row {b : Bks} (hw : WFB b) {i : Nat} {x : Blk} (hx : b.all[i]? = some x) : RowW b.pages b.last b.victim i (hollowX b.last i x) ∧ ((hollowX b.last i x).state = 1 → (hollowX b.last i x).real = true ∨ (hollowX b.last i x).live ≠ 0) ∧ ((i : Int) = b.last → (hollowX b.last i x).state ≠ 0 ∧ (hollowX b.last i x).state ≠ 6) ∧
    ((hollowX b.last i x).state = 2 ↔ x.state = 2) ∧ ((hollowX b.last i x).head = x.head ∨ (hollowX b.last i x).head = 0) := by
  have hr := hw.row i x hx
  unfold hollowX
  by_cases hh : hollowB x = true
  · rw [if_pos hh]
    have h1 := (hollow_yes hh).1
    have e : (if (i : Int) = b.last then heldBlk else freeBlk) = emptyX b i := rfl
    rw [e]
    obtain ⟨e1, e2, e3⟩ := emptyX_state b i
    refine ⟨emptyX_row b i _, fun h => ?_, e3, ⟨fun h => absurd h e1, fun h => by omega⟩, .inr e2⟩
    exfalso
    unfold emptyX at h
    split at h <;> cases h
  · rw [if_neg hh]
    exact ⟨hr, fun h => hollow_no (by simpa using hh) h, fun h => hw.lastS i x hx h, Iff.rfl, .inl rfl⟩
/-- The list behind any calls may be, but for the hollow ones. -/
theorem full_new {b : Bks} (hw : WFB b) : newFrom b.pages b.last [] (-1) ((hollowL b.last b.all).map sOf) = some b.opn := by
  have gm : ∀ {i : Nat} {y : S34}, ((hollowL b.last b.all).map sOf)[i]? = some y → ∃ x, b.all[i]? = some x ∧ y = sOf (hollowX b.last i x) := fun {i y} hy => by
    rw [List.getElem?_map, hollowL_get] at hy
    cases hx : b.all[i]? with
    | none => rw [hx] at hy; cases hy
    | some x => rw [hx] at hy; cases hy; exact ⟨x, rfl, rfl⟩
  have gx : ∀ {i : Nat} {x : Blk}, b.all[i]? = some x → ((hollowL b.last b.all).map sOf)[i]? = some (sOf (hollowX b.last i x)) := fun {i x} hx => by
    rw [List.getElem?_map, hollowL_get, hx]; rfl
  have := newFrom_of (P := b.pages) (last := b.last) (opn := b.opn) (L := (hollowL b.last b.all).map sOf) (fun i y hy => by
      obtain ⟨x, hx, rfl⟩ := gm hy
      obtain ⟨h1, h2, h3, _⟩ := hollowX_row hw hx
      exact row_sound h1 h2 h3) (fun i j y z hy hz he hn => by
      obtain ⟨x, hx, rfl⟩ := gm hy
      obtain ⟨x', hx', rfl⟩ := gm hz
      obtain ⟨_, _, _, _, e1⟩ := hollowX_row hw hx
      obtain ⟨_, _, _, _, e2⟩ := hollowX_row hw hx'
      have he' : (hollowX b.last i x).head = (hollowX b.last j x').head := he
      have hn' : (hollowX b.last i x).head ≠ 0 := hn
      exact hw.heads i j x x' hx hx' (by omega) (by omega)) (by
      rcases hw.opn with ⟨h1, h2⟩ | ⟨k, x, h1, h2, h3, h4⟩
      · refine .inl ⟨h1, fun i y hy => ?_⟩
        obtain ⟨x, hx, rfl⟩ := gm hy
        obtain ⟨_, _, _, e, _⟩ := hollowX_row hw hx
        exact fun h => h2 i x hx (e.1 h)
      · obtain ⟨_, _, _, e, _⟩ := hollowX_row hw h2
        refine .inr ⟨k, _, h1, gx h2, e.2 h3, fun i y hy hs => ?_⟩
        obtain ⟨x', hx', rfl⟩ := gm hy
        obtain ⟨_, _, _, e', _⟩ := hollowX_row hw hx'
        exact h4 i x' hx' (e'.1 hs)) _ 0 (Nat.zero_add _)
  have e0 : curOpn b.opn 0 = -1 := by
    unfold curOpn
    rcases hw.opn with ⟨h1, _⟩ | ⟨k, _, h1, _⟩
    · rw [if_pos (by omega)]; exact h1
    · rw [if_neg (by omega)]
  rw [e0, List.take_zero, List.drop_zero] at this
  exact this
theorem hollow_one {b : Bks} (hw : WFB b) : hollowN b.all ≤ 1 := by
  have key : ∀ (i : Nat) (x : Blk), b.all[i]? = some x → hollowB x = true → (i : Int) = b.victim := fun i x hx hh => by
    obtain ⟨h1, h2, h3⟩ := hollow_yes hh
    rcases (hw.row i x hx).used h1 with h | h | h
    · rw [h2] at h; cases h
    · exact absurd h3 h
    · exact h
  have gen : ∀ j, j ≤ b.all.length → hollowN (b.all.take j) ≤ if b.victim < (j : Int) ∧ 0 ≤ b.victim then 1 else 0 := by
    intro j
    induction j with
    | zero => intro _; unfold hollowN; simp
    | succ j ih =>
      intro hj
      have hx := List.getElem?_eq_getElem (show j < b.all.length by omega)
      have := ih (by omega)
      rw [take_snoc hx, hollowN_snoc]
      by_cases hh : hollowB (b.all[j]'(by omega)) = true
      · have hk := key j _ hx hh
        rw [if_neg (by omega)] at this
        rw [if_pos hh, if_pos (by omega)]
        omega
      · rw [if_neg hh]
        split at this
        · rw [if_pos (by omega)]; omega
        · split <;> omega
  have := gen b.all.length (Nat.le_refl _)
  rw [List.take_length] at this
  split at this <;> omega
theorem hollow_zero {b : Bks} (h : hollowN b.all = 0) : hollowL b.last b.all = b.all := by
  have hno : ∀ x ∈ b.all, hollowB x = false := fun x hx => by
    unfold hollowN at h
    cases e : hollowB x
    · rfl
    · have := List.length_pos_of_mem (List.mem_filter.2 ⟨hx, e⟩)
      omega
  apply List.ext_getElem?
  intro i
  rw [hollowL_get]
  cases hx : b.all[i]? with
  | none => rfl
  | some x =>
    show some (hollowX b.last i x) = some x
    unfold hollowX
    rw [if_neg (by rw [hno x (List.mem_of_getElem? hx)]; exact Bool.false_ne_true)]
theorem map_back {b : Bks} (h : NoLeft b) : (b.all.map sOf).map blkS = b.all := by
  apply List.ext_getElem?
  intro i
  rw [List.getElem?_map, List.getElem?_map]
  cases hx : b.all[i]? with
  | none => rfl
  | some x =>
    have := h i x hx
    obtain ⟨a, c, d, e, f⟩ := x
    cases this
    rfl
/-- A new book of the list. -/
theorem again_new {B S : Int} {b : Bks} (hw : WFB b) (hf : fitsB B b.pages S = true) (hB : (b.all.length : Int) = B) (hz : hollowN b.all = 0) : newRes B b.pages S (b.all.map sOf) b.cursor b.last = some b.opn := by
  have h1 := full_new hw
  rw [hollow_zero hz] at h1
  have hc := hw.cur
  have hl := hw.lst
  have hp : placeB B (b.all.map sOf).length b.cursor b.last = true := by
    unfold placeB
    rw [List.length_map]
    have e1 : ((b.all.length : Int) != B) = false := by rw [hB]; simp
    have e2 : decide (b.cursor < -1) = false := decide_eq_false (by omega)
    have e3 : decide (b.cursor ≥ B) = false := decide_eq_false (by omega)
    have e4 : decide (b.last < -1) = false := decide_eq_false (by omega)
    have e5 : decide (b.last ≥ B) = false := decide_eq_false (by omega)
    rw [e1, e2, e3, e4, e5]
    rfl
  unfold newRes
  rw [hf, hp]
  exact h1
/-- What Oldest tells does not hang on the victim. -/
theorem OldR.vic_free {b : Bks} {v h v2 : Int} {ok : Bool} (H : OldR b v h ok) : OldR { b with victim := v2 } v h ok := H
/-- Oldest's block and serial are the first two heads. -/
theorem OldR.heads {b : Bks} (hw : WFB b) {v h : Int} (H : OldR b v h true) : ∃ (k : Nat) (x : Blk), v = (k : Int) ∧ b.all[k]? = some x ∧ x.head < h ∧ x.state ≠ 2 := by
  rcases H with ⟨_, _, e, _⟩ | ⟨k, l, x, y, rfl, rfl, _, hN, hx, hN2, hy⟩
  · cases e
  · refine ⟨k, x, rfl, hx, ?_, ?_⟩
    · rcases hN2 with ⟨h1, _⟩ | ⟨k', x', h1, _, hx', hok, _⟩
      · omega
      · have : k' = l := by omega
        subst this
        rw [hy] at hx'
        cases hx'
        exact (nextOk_next.1 hok).2
    · rcases hN with ⟨h1, _⟩ | ⟨k', x', h1, _, hx', hok, _⟩
      · omega
      · have : k' = k := by omega
        subst this
        rw [hx] at hx'
        cases hx'
        exact fun e => ((nextOk_old hw hx).1 hok).2 ((LogIs.open_iff hw hx).1 e)
end Go.Proofs.Ytmohijpkhmeibaa
