/- BlocksFresh: the walk of the law. -/
import Derived.Test.YtmohijpkhmeibaaMFresh1
namespace Go.Proofs.Ytmohijpkhmeibaa
open Go.RowKit Go.Proofs Go.Proofs.YtmohijpkhmeibaaW.PrintWords
open PBlocksRound
set_option linter.unusedVariables false
set_option linter.unusedSimpArgs false
set_option maxRecDepth 100000
/-- A round's state: the two books, and two lists of our own (N: the heap's size when the round began). -/
structure FR (w0 : World) (p q cap p' q' t' cap' : Nat) (b : Bks) (N g1 c1 k1 g2 c2 k2 : Nat) (W : World) : Prop where
  duo : Duo w0 p q cap p' q' t' cap' b b W
  r1 : RowS W g1 b.all.length c1 k1 74
  r2 : RowS W g2 b.all.length c2 k2 75
  n1 : N ≤ g1
  n2 : N ≤ g2
  ne : g1 ≠ g2
  lo : w0.heap.size ≤ N
  ids : p < N ∧ q < N ∧ p' < N ∧ q' < N ∧ t' < N
section
variable {w0 W W' : World} {p q cap p' q' t' cap' : Nat} {b : Bks} {N g1 c1 k1 g2 c2 k2 : Nat}
theorem FR.of_below (h : FR w0 p q cap p' q' t' cap' b N g1 c1 k1 g2 c2 k2 W) (hb : Below W.heap.size W W') : FR w0 p q cap p' q' t' cap' b N g1 c1 k1 g2 c2 k2 W' :=
  ⟨h.duo.of_below hb, h.r1.below hb, h.r2.below hb, h.n1, h.n2, h.ne, h.lo, h.ids⟩
theorem FR.alloc (h : FR w0 p q cap p' q' t' cap' b N g1 c1 k1 g2 c2 k2 W) (o : Obj) : FR w0 p q cap p' q' t' cap' b N g1 c1 k1 g2 c2 k2 (W.alloc o) := h.of_below ((Below.refl _ _).alloc (Nat.le_refl _) o)
theorem FR.off1 {k : Nat} (h : FR w0 p q cap p' q' t' cap' b N g1 c1 k1 g2 c2 k2 W) (ho : Off (· = g1) W W') (hr : RowS W' g1 b.all.length c1 k 74) : FR w0 p q cap p' q' t' cap' b N g1 c1 k g2 c2 k2 W' :=
  ⟨h.duo.off ho fun i hi => by have := h.n1; have := h.lo; have := h.ids; omega, hr, h.r2.off ho (fun e => h.ne e.symm), h.n1, h.n2, h.ne, h.lo, h.ids⟩
theorem FR.off2 {k : Nat} (h : FR w0 p q cap p' q' t' cap' b N g1 c1 k1 g2 c2 k2 W) (ho : Off (· = g2) W W') (hr : RowS W' g2 b.all.length c2 k 75) : FR w0 p q cap p' q' t' cap' b N g1 c1 k1 g2 c2 k W' :=
  ⟨h.duo.off ho fun i hi => by have := h.n2; have := h.lo; have := h.ids; omega, h.r1.off ho h.ne, hr, h.n1, h.n2, h.ne, h.lo, h.ids⟩
theorem off_set4 (w : World) (g o1 o2 o3 o4 : Nat) (v0 v1 v2 v3 : Value) : Off (· = g) w ((((w.setCell ⟨g, o1, none⟩ v0).setCell ⟨g, o2, none⟩ v1).setCell ⟨g, o3, none⟩ v2).setCell ⟨g, o4, none⟩ v3) :=
  ((((Off.refl (· = g) w).setCell (p := ⟨g, _, none⟩) (.inl rfl) _).setCell (p := ⟨g, _, none⟩) (.inl rfl) _).setCell (p := ⟨g, _, none⟩) (.inl rfl) _).setCell (p := ⟨g, _, none⟩) (.inl rfl) _
end
theorem cell_below {w w' : World} {a : Addr} {v : Value} (h : w.cell? a = some v) (hb : Below w.heap.size w w') : w'.cell? a = some v := (hb.cell (World.block_lt_of_cell? _ _ h)).trans h
theorem cell_off {S : Nat → Prop} {w w' : World} {g o : Nat} {v : Value} (h : w.cell? ⟨g, o, none⟩ = some v) (ho : Off S w w') (hn : ¬ S g) : w'.cell? ⟨g, o, none⟩ = some v := by
  have hl := World.block_lt_of_cell? _ _ h
  unfold World.cell? at h ⊢
  rw [show w'.heap[g]? = w.heap[g]? from ho.block g hl hn]
  exact h
/-- A row of numbers of our own that may be written over. -/
def MR (w : World) (base : Nat) (A : Option Addr) (n : Nat) : Prop := n = 0 ∨ ∃ (gm : Nat) (cur : Array Value), A = some ⟨gm, 0, none⟩ ∧ base ≤ gm ∧ w.heap[gm]? = some (.cells cur 3 (0, 0)) ∧ n ≤ cur.size
theorem MR.off {S : Nat → Prop} {w w' : World} {base n : Nat} {A : Option Addr} (h : MR w base A n) (ho : Off S w w') (hS : ∀ g, base ≤ g → ¬ S g) : MR w' base A n := by
  rcases h with h | ⟨gm, cur, h1, h2, h3, h4⟩
  · exact .inl h
  · exact .inr ⟨gm, cur, h1, h2, (ho.block gm (lt_of_heap h3) (hS gm h2)).trans h3, h4⟩
theorem owns_mr {w : World} {base : Nat} {v : Value} {L : List Nat} (h : w.ownsRow base 3 1 v L.length (encN L)) : ∃ A c, v = .slice A L.length c ∧ HoldsN w A L ∧ MR w base A L.length ∧ ∀ g, A = some g → base ≤ g.block := by
  obtain ⟨A, c, rfl, h1, h2⟩ := owns_shape h
  refine ⟨A, c, rfl, h1, ?_, h2⟩
  rcases h.2 with ⟨e, h0⟩ | ⟨g, cap, cur, e, hg, hh, hn, _, hs, _⟩
  · exact .inl h0
  · cases e
    exact .inr ⟨g, cur, rfl, hg, hh, by omega⟩
set_option maxHeartbeats 16000000 in
theorem fresh_walk (B P S : Int) (A : Option Addr) (l : List S34) (c : Nat) (cursor last : Int) (A2 : Option Addr) (os : List Op4) (c2 : Nat) (w : World) (hl : Kd.C k34 w A l.length l) (hc : l.length ≤ c) (hreach : l.length * 32 ≤ 140737488351232) (hwf : ∀ x, x ∈ l → 0 ≤ x.f1) (hos : OpsAt w A2 os) (hok : OpsOk os) :
    Calls Try.prog 7 #[.agg #[.int .i64 B, .int .i64 P, .int .i64 S], .slice A l.length c, .int .i64 cursor, .int .i64 last, .slice A2 os.length c2] w (LawEnd w) := by
  have BC := Lib.hid (fun W (hB : Below w.heap.size w W) => start_all B P S A l c cursor last W (Kd.C_below hl hB) hc hreach hwf)
  have HOS := Lib.hid hos
  have HOK := Lib.hid hok
  have hlen := hok.len
  clear hl hreach hwf hos hok
  go_enter Try.func7, Try.ntmps7
  go_wp2_with (go_at_call 8; fail)
  refine (BC.out _ ((Below.refl _ _).alloc (Nat.le_refl _) _)).mono ?_
  rintro e w1 h
  rcases h with ⟨hb1, rfl⟩ | ⟨opn, p, q, cap, p', q', t', cap', _, rfl, hD, hw, _, hcap⟩
  · have KB := Lib.hid (show Below w.heap.size w w1 from ((Below.refl _ _).alloc (Nat.le_refl _) _).trans (hb1.mono (by rw [World.size_alloc]; omega)))
    clear hb1
    go_wp2
    go_ret
    exact ⟨rfl, KB.out⟩
  have HW0 := Lib.hid (show Below w.heap.size w (w.alloc (.cells #[.int .i64 B, .int .i64 P, .int .i64 S] 23)) from (Below.refl _ _).alloc (Nat.le_refl _) _)
  have HS0 := Lib.hid (World.size_alloc w (.cells #[.int .i64 B, .int .i64 P, .int .i64 S] 23))
  have HD := Lib.hid hD
  have HW := Lib.hid (And.intro hw (show (⟨P, l.map blkS, cursor, last, -1, opn⟩ : Bks).all.length = l.length from List.length_map ..))
  have HCAP := Lib.hid hcap
  clear hD hw hcap
  revert HW0 HS0 HD HW
  generalize (w.alloc (.cells #[.int .i64 B, .int .i64 P, .int .i64 S] 23)) = w0
  generalize (⟨P, l.map blkS, cursor, last, -1, opn⟩ : Bks) = b0
  intro HW0 HS0 HD HW
  go_wp2
  go_loopw [14, 15, 16, 17, 18, 19, 20, 21, 22, 23, 24, 25] (fun s14 _ _ _ _ _ _ _ _ _ _ _ wr => ∃ (i : Nat) (b : Bks), s14 = .int .i64 (i : Int) ∧ i ≤ os.length ∧ Hid (WFB b ∧ b.all.length = l.length) ∧ Hid (Duo w0 p q cap p' q' t' cap' b b wr)) (fun s14 _ _ _ _ _ _ _ _ _ _ _ _ => os.length - (intOf s14).toNat)
  case atStart => exact ⟨0, b0, rfl, by omega, HW, HD⟩
  case round =>
    obtain ⟨i, b, rfl, hi, HWb, HDb⟩ := hrel
    clear HD HW
    by_cases hlt : i < os.length
    · obtain ⟨x, hx⟩ : ∃ x, os[i]? = some x := ⟨_, List.getElem?_eq_getElem hlt⟩
      have HX := Lib.hid hx
      have hil : (i : Int) < (os.length : Int) := by omega
      have hn4 : b.all.length ≤ 4096 := HWb.out.1.le
      clear hx
      go_wp2_with fail
      refine (list_row p q cap b wr HDb.out.isB 74).mono ?_
      rintro e w3 ⟨g1, c1, rfl, hg1, hr1, hb1⟩
      have HD3 := Lib.hid (HDb.out.of_below hb1)
      have HR1 := Lib.hid hr1
      have hsz1 := hb1.size
      have HG1 := Lib.hid (And.intro hg1 hr1.lt)
      clear hg1 hr1 hb1
      go_wp2_with fail
      refine (list_row p q cap b w3 HD3.out.isB 75).mono ?_
      rintro e w4 ⟨g2, c2', rfl, hg2, hr2, hb2⟩
      obtain ⟨N, hN⟩ : ∃ N : Nat, N = wr.heap.size := ⟨_, rfl⟩
      have HF := Lib.hid (show FR w0 p q cap p' q' t' cap' b N g1 c1 0 g2 c2' 0 w4 from by
        rw [hN]
        exact ⟨HD3.out.of_below hb2, HR1.out.below hb2, hr2, HG1.out.1, by omega, by have := HG1.out.2; omega, HDb.out.below.size, HDb.out.isB.plt, HDb.out.isB.qlt, HDb.out.isR.plt, HDb.out.isR.qlt, HDb.out.isR.tlt⟩)
      clear hg2 hr2 hb2 HR1 HG1 HD3 hsz1 hN HDb
      go_wp2
      go_loopw [17] (fun s17 wx => ∃ k : Nat, s17 = .int .i64 (k : Int) ∧ k ≤ b.all.length ∧ Hid (FR w0 p q cap p' q' t' cap' b N g1 c1 k g2 c2' k wx)) (fun s17 _ => b.all.length - (intOf s17).toNat)
      case atStart => exact ⟨0, rfl, by omega, HF⟩
      case round =>
        obtain ⟨k, rfl, hk, HFk⟩ := hrel
        clear HF
        by_cases hkn : k < b.all.length
        · have hki : (k : Int) < (b.all.length : Int) := by omega
          obtain ⟨⟨u0, a0'⟩, m0'⟩ := HFk.out.r1.any hkn (j := 0) (by omega)
          obtain ⟨⟨u1, a1⟩, m1⟩ := HFk.out.r1.any hkn (j := 1) (by omega)
          obtain ⟨⟨u2, a2⟩, m2⟩ := HFk.out.r1.any hkn (j := 2) (by omega)
          obtain ⟨⟨u3, a3⟩, m3⟩ := HFk.out.r1.any hkn (j := 3) (by omega)
          have a0 : wr.cell? ⟨g1, k * 4, none⟩ = some u0 := a0'
          have m0 : wr.frozen? ⟨g1, k * 4, none⟩ = false := m0'
          have P1 := HFk.out.r1.put hkn (.int .u64 0) (.bool false) (.int .i64 0)
          have F1 := HFk.out.off1 (off_set4 wr g1 _ _ _ _ _ _ _ _) P1
          obtain ⟨⟨y0, b0'⟩, n0'⟩ := F1.r2.any hkn (j := 0) (by omega)
          obtain ⟨⟨y1, b1⟩, n1⟩ := F1.r2.any hkn (j := 1) (by omega)
          obtain ⟨⟨y2, b2⟩, n2⟩ := F1.r2.any hkn (j := 2) (by omega)
          obtain ⟨⟨y3, b3⟩, n3⟩ := F1.r2.any hkn (j := 3) (by omega)
          simp only [Nat.add_zero] at b0' n0'
          have P2 := F1.r2.put hkn (.int .u64 0) (.bool false) (.int .i64 0)
          have F2 := Lib.hid (F1.off2 (off_set4 _ g2 _ _ _ _ _ _ _ _) P2)
          clear P1 F1 P2 a0' m0'
          go_wp2
          go_roundw
          case rel => exact ⟨k + 1, by go_num, by omega, F2⟩
          case measure => simp [intOf]; omega
        · obtain rfl : k = b.all.length := by omega
          have HFa := Lib.hid (HFk.out.alloc (.cells #[.int .i64 76, .int .u64 0, .bool false, .int .i64 0] 34))
          have hn1 : (b.all.length : Int) < (b.all.length : Int) + 1 := by omega
          have hn2 : (b.all.length : Int) < ((b.all.length + 1 : Nat) : Int) := by omega
          have hg2l := HFk.out.r2.lt
          go_wp2_with (first
            | (at_builtin; refine wpList_append_blk rfl _ _ rfl g1 b.all.length c1 74 76 (by rfl) ⟨wr.heap.size, 0, none⟩ 1 (by rfl) (World.news_of_block (heap_alloc_new _ _)) HFa.out.r1 hn4 ?_; intro ga ca wa h1 h2 h3 h4; have HFb := Lib.hid ((HFa.out.off1 h3 h1).alloc (.cells #[.int .i64 77, .int .u64 0, .bool false, .int .i64 0] 34)); have K1 := Lib.hid (cell_below h2 ((Below.refl _ _).alloc (Nat.le_refl _) (.cells #[.int .i64 77, .int .u64 0, .bool false, .int .i64 0] 34))); have K2 := Lib.hid (show ga ≠ g2 by have := HFk.out.ne; rw [World.size_alloc] at h4; omega); clear h1 h2 h3 h4)
            | (at_builtin; refine wpList_append_blk rfl _ _ rfl g2 b.all.length c2' 75 77 (by rfl) ⟨wa.heap.size, 0, none⟩ 1 (by rfl) (World.news_of_block (heap_alloc_new _ _)) HFb.out.r2 hn4 ?_; intro gb cb wb h1 h2 h3 h4; have HFc := Lib.hid (HFb.out.off2 h3 h1); have d1 := cell_off K1.out h3 K2.out; have d2 := h2; clear h1 h2 h3 h4))
          clear d1 d2 K1 K2 HFa HFb HFk
          go_loop [20] (fun s20 => ∃ k : Nat, s20 = .int .i64 (k : Int) ∧ k ≤ b.all.length) (fun s20 => b.all.length - (intOf s20).toNat)
          case atStart => exact ⟨0, rfl, by omega⟩
          case round =>
            obtain ⟨k, rfl, hk⟩ := hrel
            by_cases hkn : k < b.all.length
            · have hki : (k : Int) < (b.all.length : Int) := by omega
              have d1 := HFc.out.r1.cell hkn
              have d2 := HFc.out.r2.cell hkn
              go_wp2
              go_roundw
              case rel => exact ⟨k + 1, by go_num, by omega⟩
              case measure => simp [intOf]; omega
            · obtain rfl : k = b.all.length := by omega
              have hb := HW0.out.trans (HFc.out.duo.below.mono (by rw [HS0.out]; omega))
              have HOSb := Lib.hid (HOS.out.below hb)
              obtain ⟨g, o, rfl, d0, d1, d2, d3⟩ := HOSb.out.get HX.out
              obtain ⟨hm, hh⟩ := HOK.out.ok x (List.mem_of_getElem? HX.out)
              clear hb
              by_cases hk9 : x.kind = 9
              · have n9 : (x.kind == 9) = true := beq_iff_eq.2 hk9
                obtain ⟨er, M, b', hB, hR, hwf', hlen', _, _, _, _, hml⟩ := op_commit HWb.out.1 x.block
                have HB := Lib.hid hB
                have HR := Lib.hid hR
                have HWb' := Lib.hid (And.intro hwf' (hlen'.trans HWb.out.2))
                clear hB hR hwf' hlen' hk9
                go_wp2_with fail
                refine (HB.out wb p q cap HFc.out.duo.isB).mono ?_
                rintro e w5 ⟨v1, rfl, hown1, hI1, ho1⟩
                have HD5 := Lib.hid (HFc.out.duo.toB hI1 ho1)
                obtain ⟨A1, ca1, rfl, hn5, hmr, hg5⟩ := owns_mr hown1
                have HN5 := Lib.hid hn5
                have HM5 := Lib.hid hmr
                have HG5 := Lib.hid hg5
                have HIDS := Lib.hid (show p < wb.heap.size ∧ q < wb.heap.size ∧ p' < wb.heap.size ∧ q' < wb.heap.size ∧ t' < wb.heap.size ∧ w0.heap.size ≤ wb.heap.size from ⟨HFc.out.duo.isB.plt, HFc.out.duo.isB.qlt, HFc.out.duo.isR.plt, HFc.out.duo.isR.qlt, HFc.out.duo.isR.tlt, HFc.out.duo.below.size⟩)
                clear hown1 hI1 ho1 hn5 hmr hg5 d0 d1 d2 d3
                obtain ⟨g0, o0, e0, d0, d1, d2, d3⟩ := (HOS.out.below (HW0.out.trans (HD5.out.below.mono (by rw [HS0.out]; omega)))).get HX.out
                cases e0
                go_wp2_with fail
                refine (HR.out w5 p' q' t' cap' HD5.out.isR).mono ?_
                rintro e w6 ⟨v2, rfl, hown2, hI2, ho2⟩
                have HD6 := Lib.hid (HD5.out.toR hI2 ho2)
                obtain ⟨A3, ca3, rfl, hn6, _, hg6⟩ := owns_mr hown2
                have HN6 := Lib.hid hn6
                have HN5' := Lib.hid (HN5.out.off ho2 fun g hg => by have := HG5.out g hg; have := HIDS.out; omega)
                have HM6 := Lib.hid (HM5.out.off ho2 fun g hg => by have := HIDS.out; omega)
                clear hown2 hI2 ho2 hn6 hg6 HN5 HG5 HM5 d0 d1 d2 d3
                go_wp2_with fail
                refine (sameInts_calls A1 A3 ca1 ca3 M w6 HN5'.out HN6.out hml).mono ?_
                rintro e w7 ⟨rfl, n7, hw7⟩
                have HD7 := Lib.hid (show Duo w0 p q cap p' q' t' cap' b' b' w7 by rw [hw7]; exact HD6.out.drewN n7)
                have HM7 := Lib.hid (show MR w7 wb.heap.size A1 M.length by rw [hw7]; exact HM6.out)
                clear hw7 HD6 HM6 HN5' HN6 HD5
                go_wp2
                go_loopw [25] (fun s25 wx => ∃ k : Nat, s25 = .int .i64 (k : Int) ∧ k ≤ M.length ∧ Hid (Duo w0 p q cap p' q' t' cap' b' b' wx) ∧ Hid (MR wx wb.heap.size A1 M.length)) (fun s25 _ => M.length - (intOf s25).toNat)
                case atStart => exact ⟨0, rfl, by omega, HD7, HM7⟩
                case round =>
                  obtain ⟨k, rfl, hk, HDk, HMk⟩ := hrel
                  clear HD7 HM7
                  by_cases hkm : k < M.length
                  · have hki : (k : Int) < (M.length : Int) := by omega
                    rcases HMk.out with h0 | ⟨gm, cur, rfl, hgm, hh, hcs⟩
                    · omega
                    have a0 := cell_of hh (Array.getElem?_eq_getElem (show k < cur.size by omega))
                    have m0 := free_of (o := k) hh
                    have HMn := Lib.hid (show MR (wr.setCell ⟨gm, k, none⟩ (.int .i64 (-1))) wb.heap.size (some ⟨gm, 0, none⟩) M.length from .inr ⟨gm, _, rfl, hgm, heap_set_same hh _, by simpa using hcs⟩)
                    have HDn := Lib.hid (HDk.out.off ((Off.refl (· = gm) wr).setCell (p := ⟨gm, k, none⟩) (.inl rfl) (.int .i64 (-1))) fun i hi => by have := HIDS.out; omega)
                    clear hh
                    go_wp2
                    go_roundw
                    case rel => exact ⟨k + 1, by go_num, by omega, HDn, HMn⟩
                    case measure => simp [intOf]; omega
                  · obtain rfl : k = M.length := by omega
                    go_wp2_with fail
                    refine (alike_calls w0 p q cap p' q' t' cap' b' wr HDk.out HWb'.out.1 (by rw [HWb'.out.2]; exact HCAP.out)).mono ?_
                    rintro e w8 ⟨rfl, hD8, _⟩
                    have HD8 := Lib.hid hD8
                    clear hD8
                    go_wp2
                    go_roundw
                    case rel => exact ⟨i + 1, b', by go_num, by omega, HWb', HD8⟩
                    case measure => simp [intOf]; omega
              · have n9 : (x.kind == 9) = false := beq_eq_false_iff_ne.2 hk9
                have DC := Lib.hid (do_calls w0 p q cap p' q' t' cap' b x.kind x.block x.more x.head wb HFc.out.duo HWb.out.1 hm hh)
                clear hk9
                go_wp2_with fail
                refine DC.out.mono ?_
                rintro e w5 ⟨rfl, b', hwf', hlen', _, hD'⟩
                have HWb' := Lib.hid (And.intro hwf' (hlen'.trans HWb.out.2))
                have HDb' := Lib.hid hD'
                clear hwf' hlen' hD' DC d0 d1 d2 d3
                go_wp2_with fail
                refine (alike_calls w0 p q cap p' q' t' cap' b' w5 HDb'.out HWb'.out.1 (by rw [HWb'.out.2]; exact HCAP.out)).mono ?_
                rintro e w8 ⟨rfl, hD8, _⟩
                have HD8 := Lib.hid hD8
                clear hD8
                go_wp2
                go_roundw
                case rel => exact ⟨i + 1, b', by go_num, by omega, HWb', HD8⟩
                case measure => simp [intOf]; omega
    · obtain rfl : i = os.length := by omega
      have KB := Lib.hid (HW0.out.trans (HDb.out.below.mono (by rw [HS0.out]; omega)))
      have AC := Lib.hid (alike_calls w0 p q cap p' q' t' cap' b wr HDb.out HWb.out.1 (by rw [HWb.out.2]; exact HCAP.out))
      go_wp2_with fail
      refine AC.out.mono ?_
      rintro e w3 ⟨rfl, hD3, hb3⟩
      have KB3 := Lib.hid (KB.out.trans (hb3.mono KB.out.size))
      clear hD3 hb3
      go_wp2
      go_ret
      exact ⟨rfl, KB3.out⟩
end Go.Proofs.Ytmohijpkhmeibaa
