/- PathWalks: what the law runs. -/
import Derived.Test.YtbinnghemkppdaaDoorWalk
import Derived.BigQuiet
import Derived.Deep.QuietTactic
namespace Go.Proofs.YtbinnghemkppdaaDoor
open Go.RowKit Go.Proofs Go.Proofs.YtbinnghemkppdaaDoorW.PrintWords Go.Proofs.YtbinnghemkppdaaDoorW.PrintLast Go.Proofs.YtbinnghemkppdaaDoorW.PrintMore
open PHDPathWalks
set_option linter.unusedVariables false
set_option linter.unusedSimpArgs false

theorem eqA46 (d : Nat) (w : World) (x0 y0 : Int) (x1 y1 : ByteArray) :
    (Op.equalIn (d + 2) 46 (.agg #[.int .i64 x0, .string x1]) (.agg #[.int .i64 y0, .string y1])).run Tryd.prog w = .ok (x0 == y0 && (x1.toList == y1.toList)) w := by
  refine eqA_of Tryd.underlying46 (by kernel_rfl) ?_
  refine eqf_cons (by rfl) (by go_simp; rfl) (by go_simp; rfl) (by go_simp) ?_
  exact eqf_last (by rfl) (by go_simp; rfl) (by go_simp; rfl) (by go_simp)
attribute [local go_sem high] eqA46

set_option maxRecDepth 100000 in
set_option maxHeartbeats 2000000 in
theorem walk_bad (T : TD) (s : ByteArray) (last : Bool) (R : Int × List S46 × Int) (k : Nat) (w0 W : World) (gb tb base : Nat) (hs : s.size ≤ 140737488351300) (hR : T.walk k s last = some R) (hp0 : (splitR s).2 ≠ 0)
    (hgot : Got W gb base (.slice none 0 0) []) (hbel : Below w0.heap.size w0 W) :
    Calls Tryd.prog 16 #[.int .i64 0, .string s, .bool last, .func (.func 17) #[] #[.pointer (some ⟨gb, 0, none⟩), .pointer (some ⟨tb, 0, none⟩)]] W (WEnd R w0 gb base) := by
  have sp := fun w => path_Split.calls s (splitR s).1 (splitR s).2 w (split_eq s)
  have hRR : R = (0, [], (splitR s).2) := by
    rcases walk_cut hs hR with ⟨h, _⟩ | ⟨_, h⟩
    · exact absurd h hp0
    · exact h
  obtain ⟨E, hE⟩ : ∃ E, E = (splitR s).2 := ⟨_, rfl⟩
  rw [← hE] at sp hRR hp0
  have he : (E != 0) = true := by rw [bne_iff_ne]; exact hp0
  have SP := Lib.hid sp
  have HR := Lib.hid hRR
  have HG := Lib.hid hgot
  have HB := Lib.hid hbel
  clear sp hRR hgot hbel hR hs hE hp0
  go_enter Tryd.func16, Tryd.ntmps16
  go_wp2_with (go_at_call 10; fail)
  refine (SP.out _).mono ?_
  rintro e w1 ⟨v, rfl, r1, b1⟩
  obtain ⟨A, c, rfl⟩ := Kd.R_slice r1
  have B1 := Lib.hid b1
  clear r1 b1
  go_wp2
  refine bodyPost_ret (results_tmp2 rfl _ _ _) rfl ?_
  rw [HR.out]
  exact ⟨rfl, ⟨_, (B1.out.block _ (lt_of_heap HG.out.1)).trans HG.out.1, Kd.R_nil _ _ _ _ _⟩, HB.out.trans (B1.out.mono HB.out.size)⟩
theorem walk_calls (T : TD) (hT : T.Ok) (s : ByteArray) (last : Bool) (R : Int × List S46 × Int) (k : Nat) (w0 W : World) (gb tb base : Nat) (hC : TreeC w0 T) (hs : s.size ≤ 140737488351300) (hR : T.walk k s last = some R)
    (hgot : Got W gb base (.slice none 0 0) []) (htree : TBox W tb T) (hbel : Below w0.heap.size w0 W) (hgb : w0.heap.size ≤ gb) (hbase : w0.heap.size ≤ base) (hbW : base ≤ W.heap.size) :
    Calls Tryd.prog 16 #[.int .i64 0, .string s, .bool last, .func (.func 17) #[] #[.pointer (some ⟨gb, 0, none⟩), .pointer (some ⟨tb, 0, none⟩)]] W (WEnd R w0 gb base) := by
  by_cases h0 : (splitR s).2 = 0
  · exact walk_loop T hT s last R k w0 W gb tb base hC hs hR h0 hgot htree hbel hgb hbase hbW
  · exact walk_bad T s last R k w0 W gb tb base hs hR h0 hgot hbel
/-- A row of askings: its slice, its cells. -/
theorem asks_row {W : World} {base : Nat} {ok : Nat → Prop} {v : Value} {xs : List S46} (h : Kd.R k46 46 W base ok v xs) :
    ∃ A c, v = .slice A xs.length c ∧ xs.length ≤ c ∧ (0 < xs.length → ∃ g, A = some ⟨g, 0, none⟩ ∧ ∀ i x, xs[i]? = some x → W.cell? ⟨g, i * 2, none⟩ = some (.int .i64 x.f0) ∧ W.cell? ⟨g, i * 2 + 1, none⟩ = some (.string x.f1)) := by
  obtain ⟨A, c, rfl⟩ := Kd.R_slice h
  obtain ⟨_, h2, hC⟩ := Kd.R_reads' h
  refine ⟨A, c, rfl, h2, fun hp => ?_⟩
  obtain ⟨inner, ho⟩ := Kd.R_own h
  rcases ho.2 with ⟨e, hn⟩ | ⟨g, cap, cur, e, _⟩
  · omega
  · simp only [Value.slice.injEq] at e
    obtain ⟨rfl, _, _⟩ := e
    refine ⟨g, rfl, fun i x hx => ?_⟩
    have hi : i < xs.length := (List.getElem?_eq_some_iff.1 hx).1
    obtain ⟨ad, e, a0, a1⟩ := at_T46 hC (i : Int) (by omega) (by omega)
    cases e
    have ex : rd_T46 xs (i : Int) = x := by
      show xs.getD (i : Int).toNat z46 = x
      rw [Int.toNat_natCast, List.getD_eq_getElem?_getD, hx]
      rfl
    rw [ex, Int.toNat_natCast, Addr.add_lit, Nat.zero_add] at a0 a1
    exact ⟨a0, a1⟩

set_option maxRecDepth 100000 in
set_option maxHeartbeats 4000000 in
theorem walks_walk (T : TD) (hT : T.Ok) (s : ByteArray) (last : Bool) (w : World) (hC : TreeC w T) (hs : s.size ≤ 140737488351232) :
    Calls Tryd.prog 5 #[.agg T.vs, .string s, .bool last] w fun e w' => e = .returned (.bool true) ∧ Below w.heap.size w w' := by
  obtain ⟨k, R, hR⟩ := walk_ends T hT s last (by omega)
  obtain ⟨r1, r2, r3⟩ := R
  have c1 := fun W (hb : Below w.heap.size w W) => shaleref16_Walk.calls k T.A0 T.c0 T.n T.A1 T.c1 T.t T.A2 T.c2 T.l T.A3 T.c3 T.s s last r1 r2 r3 W (Kd.C_below hC.h0 hb) hC.k0 (Kd.C_below hC.h1 hb) hC.k1 (Kd.C_below hC.h2 hb) hC.k2 (Kd.C_below hC.h3 hb) hC.k3 hR
  have c2 := fun w0 (hb : Below w.heap.size w w0) W gb tb base => walk_calls T hT s last (r1, r2, r3) k w0 W gb tb base (hC.below hb) (by omega) hR
  have HC1 := Lib.hid c1
  have HC2 := Lib.hid c2
  have b0 : Below w.heap.size w (w.alloc (.cells T.vs 39)) := (Below.refl _ _).alloc (Nat.le_refl _) _
  have x0 : TBox (w.alloc (.cells T.vs 39)) w.heap.size T := heap_alloc_new w _
  have X0 := Lib.hid x0
  have B0 := Lib.hid b0
  obtain ⟨tb, htb⟩ : ∃ tb, tb = w.heap.size := ⟨_, rfl⟩
  have HTB := Lib.hid htb
  clear c1 c2 b0 x0 hR hC hT hs htb
  unfold TD.vs at *
  go_enter Tryd.func5, Tryd.ntmps5
  go_wp2_with (go_at_call 15; fail)
  refine (HC1.out _ B0.out).mono ?_
  rintro e w1 ⟨v1, rfl, h1, b1⟩
  obtain ⟨A1, k1, rfl⟩ := Kd.R_slice h1
  have B1 := Lib.hid (B0.out.trans (b1.mono B0.out.size))
  have H1 := Lib.hid h1
  have X1 := Lib.hid ((b1.block _ (lt_of_heap X0.out)).trans X0.out)
  clear h1 b1
  go_wp2_with (go_at_call 16; fail)
  have b2 : Below w1.heap.size w1 (w1.alloc (.cells #[.slice none 0 0] 40)) := (Below.refl _ _).alloc (Nat.le_refl _) _
  have g2 : Got (w1.alloc (.cells #[.slice none 0 0] 40)) w1.heap.size w1.heap.size (.slice none 0 0) [] := ⟨heap_alloc_new w1 _, Kd.R_nil _ _ _ _ _⟩
  refine (HC2.out w1 B1.out _ _ _ w1.heap.size g2 (heap_alloc_old X1.out _) b2 (Nat.le_refl _) (Nat.le_refl _) (by simp)).mono ?_
  clear b2 g2
  rintro e w2 ⟨rfl, ⟨gv, hG, hR2⟩, hB2⟩
  have H2 := Kd.R_below H1.out hB2
  obtain ⟨A2, k2, rfl, hk2, ha2⟩ := asks_row hR2
  obtain ⟨A1', k1', e1, hk1, ha1⟩ := asks_row H2
  cases e1
  have c0 := cell_of (o := 0) hG rfl
  have BE := Lib.hid (B1.out.trans (hB2.mono B1.out.size))
  have HA1 := Lib.hid ha1
  have HA2 := Lib.hid ha2
  obtain ⟨m, hm⟩ : ∃ m, m = r2.length := ⟨_, rfl⟩
  have hm9 : m ≤ 9223372036854775807 := by rw [hm]; exact Kd.C_max (Kd.R_reads' hR2).2.2
  rw [← hm] at c0 hk1 hk2
  have HM := Lib.hid hm
  clear hG hR2 hB2 H2 ha1 ha2 B1 H1 X1 HC1 HC2 X0
  go_wp2_with fail
  go_loopw [13] (fun i wr => ∃ j q : Nat, j ≤ m ∧ i = .int .i64 j ∧ wr = w2.drewN q) (fun i _ => m - (intOf i).toNat)
  case atStart => exact ⟨0, 0, Nat.zero_le _, rfl, rfl⟩
  case round =>
    obtain ⟨j, q, hj, rfl, rfl⟩ := hrel
    by_cases hlt : j < m
    · have hpos : 0 < r2.length := by rw [← HM.out]; omega
      obtain ⟨ga, rfl, hxa⟩ := HA1.out hpos
      obtain ⟨gc, rfl, hxc⟩ := HA2.out hpos
      obtain ⟨x, hx⟩ : ∃ x, r2[j]? = some x := ⟨_, List.getElem?_eq_getElem (by rw [← HM.out]; exact hlt)⟩
      obtain ⟨a0, a1⟩ := hxa j x hx
      obtain ⟨d0, d1⟩ := hxc j x hx
      have hj1 : (j : Int) < (m : Int) := by omega
      have hj0 : (0 : Int) ≤ (j : Int) := by omega
      clear hxa hxc hx hpos
      go_wp2
      go_quiet (fail)
      go_wp2
      go_roundw
      case rel => exact ⟨j + 1, _, by omega, by go_num, rfl⟩
      case measure => simp [intOf]; omega
    · obtain rfl : j = m := by omega
      go_wp2
      go_ret
      exact ⟨rfl, pw_below_drewN BE.out _⟩
end Go.Proofs.YtbinnghemkppdaaDoor
