/- node.Read's own small functions: take, counted; the round trip of a header and its bytes. -/
import Derived.Laws.BytesArg
import Derived.Test.YtljamhpdgmelcaaDoorGet
import Derived.Deep.RegionHeld3
import Derived.Lib.LazyBuf
namespace Go.Proofs.YtljamhpdgmelcaaDoor
section
open Go.RowKit Go.Proofs Go.Proofs.YtljamhpdgmelcaaDoorW.PrintWords
set_option linter.unusedVariables false
set_option linter.unusedSimpArgs false
attribute [local go_sem] Oper.semAt_some

/-- The three boxes, and the bytes that are left. -/
structure St (W : World) (rb kb fb g o c : Nat) (L : List Int) (ok : Bool) : Prop where
  r : W.heap[rb]? = some (.cells #[.slice (some ⟨g, o, none⟩) L.length c] 22 (0, 0))
  k : W.heap[kb]? = some (.cells #[.bool ok] 4 (0, 0))
  f : W.heap[fb]? = some (.cells #[.func (.func 17) #[] #[.pointer (some ⟨rb, 0, none⟩), .pointer (some ⟨kb, 0, none⟩)]] 46 (0, 0))
  v : Vw W g o L
  b : Byts L
  le : L.length ≤ c
  ln : L.length ≤ 281474976710656
  lo : L.length ≤ 281474976710656
  hrk : rb ≠ kb
  hrf : rb ≠ fb
  hkf : kb ≠ fb
  hgr : g ≠ rb
  hgk : g ≠ kb
/-- Nothing but the two boxes changed. -/
structure Near (rb kb : Nat) (W W' : World) : Prop where
  os : W'.os = W.os
  tape : W'.tape = W.tape
  output : W'.output = W.output
  size : W.heap.size ≤ W'.heap.size
  block : ∀ j, j < W.heap.size → j ≠ rb → j ≠ kb → W'.heap[j]? = W.heap[j]?
theorem Near.trans {rb kb : Nat} {W W' W'' : World} (h : Near rb kb W W') (h' : Near rb kb W' W'') : Near rb kb W W'' :=
  ⟨h'.os.trans h.os, h'.tape.trans h.tape, h'.output.trans h.output, Nat.le_trans h.size h'.size, fun j hj h1 h2 => (h'.block j (Nat.lt_of_lt_of_le hj h.size) h1 h2).trans (h.block j hj h1 h2)⟩
theorem Near.refl (rb kb : Nat) (W : World) : Near rb kb W W := ⟨rfl, rfl, rfl, Nat.le_refl _, fun _ _ _ _ => rfl⟩
theorem Near.of_below {rb kb : Nat} {W W' : World} (h : Below W.heap.size W W') : Near rb kb W W' := ⟨h.os, h.tape, h.output, h.size, fun j hj _ _ => h.block j hj⟩
theorem Near.set {rb kb j : Nat} {W W' : World} (h : Near rb kb W W') (hj : j = rb ∨ j = kb) (v : Value) : Near rb kb W (W'.setCell ⟨j, 0, none⟩ v) := by
  obtain ⟨h1, h2, h3, h4, h5⟩ := h
  refine ⟨?_, ?_, ?_, ?_, fun b hb k1 k2 => (heap_setCell_other _ _ _ _ (fun e => by rcases hj with rfl | rfl; exact k1 e; exact k2 e)).trans (h5 b hb k1 k2)⟩
  all_goals simpa using (by assumption)
theorem cell_of_heap1 {W : World} {b : Nat} {v : Value} {t : TypeId} (h : W.heap[b]? = some (.cells #[v] t (0, 0))) : W.cell? ⟨b, 0, none⟩ = some v ∧ W.frozen? ⟨b, 0, none⟩ = false :=
  ⟨by simp [World.cell?, h], frozen_of_row _ _ _ _ _ h⟩
theorem cell_set_far {W : World} {b j i : Nat} {u v : Value} (h : W.cell? ⟨b, i, none⟩ = some u) (hne : b ≠ j) : (W.setCell ⟨j, 0, none⟩ v).cell? ⟨b, i, none⟩ = some u := by
  unfold World.cell? at h ⊢
  rw [heap_setCell_other _ _ _ _ (show b ≠ (⟨j, 0, none⟩ : Addr).block from hne)]
  exact h

theorem St.rest {w : World} {rb kb fb g o c n : Nat} {L : List Int} {ok : Bool} (h : St w rb kb fb g o c L ok) (hn : n ≤ L.length) (o' m : Nat) (ho' : o' = o + n ∨ (o' = o ∧ L.length = n)) (hm : m = c - n) :
    St (w.setCell ⟨rb, 0, none⟩ (.slice (some ⟨g, o', none⟩) (L.length - n) m)) rb kb fb g o' m (L.drop n) ok := by
  subst hm
  obtain ⟨h1, h2, h3, h4, h5, h6, h7, h8, h9, ha, hb, hc, hd⟩ := h
  refine ⟨?_, (heap_setCell_other _ _ _ _ h9.symm).trans h2, (heap_setCell_other _ _ _ _ ha.symm).trans h3, ?_, h5.drop n, ?_, ?_, ?_, h9, ha, hb, hc, hd⟩
  · rw [heap_setCell_same _ _ _ _ _ _ h1, List.length_drop]
    rfl
  · rcases ho' with rfl | ⟨rfl, e⟩
    · exact fun i x hx => cell_set_far (h4.drop n i x hx) hc
    · intro i x hx
      rw [List.drop_eq_nil_of_le (Nat.le_of_eq e)] at hx
      cases hx
  · rw [List.length_drop]; omega
  · rw [List.length_drop]; omega
  · rw [List.length_drop]; omega

set_option maxHeartbeats 2000000 in
theorem take_yes (rb kb fb g o c n : Nat) (L : List Int) (ok : Bool) (w : World) (h : St w rb kb fb g o c L ok) (hn : n ≤ L.length) :
    Calls Tryd.prog 17 #[.int .i64 n, .pointer (some ⟨rb, 0, none⟩), .pointer (some ⟨kb, 0, none⟩)] w fun e w' => e = .returned (.slice (some ⟨g, o, none⟩) n c) ∧ (∃ o', St w' rb kb fb g o' (c - n) (L.drop n) ok) ∧ Near rb kb w w' := by
  obtain ⟨hr, hfr⟩ := cell_of_heap1 h.r
  have hc := h.le
  have hl := h.ln
  have H := Lib.hid h
  have key : ∀ o' m, (o' = o + n ∨ (o' = o ∧ L.length = n)) → m = c - n → (∃ o', St (w.setCell ⟨rb, 0, none⟩ (.slice (some ⟨g, o', none⟩) (L.length - n) m)) rb kb fb g o' (c - n) (L.drop n) ok) ∧ Near rb kb w (w.setCell ⟨rb, 0, none⟩ (.slice (some ⟨g, o', none⟩) (L.length - n) m)) := fun o' m h1 h2 =>
    ⟨⟨o', h2 ▸ h.rest hn o' m h1 h2⟩, (Near.refl rb kb w).set (.inl rfl) _⟩
  have key2 : ∀ o' m, (o' = o + n ∨ (o' = o ∧ L.length = n)) → m = c - n → (∃ o'', St (w.setCell ⟨rb, 0, none⟩ (.slice (some ⟨g, o', none⟩) (L.length - n) m)) rb kb fb g o'' (c - n) (L.drop n) ok) := fun o' m h1 h2 => ⟨o', h2 ▸ h.rest hn o' m h1 h2⟩
  have K := Lib.hid (fun o' m h1 h2 => And.intro (key2 o' m h1 h2) ((Near.refl rb kb w).set (.inl rfl) (.slice (some ⟨g, o', none⟩) (L.length - n) m)))
  obtain ⟨m, hm⟩ : ∃ m, m = L.length := ⟨_, rfl⟩
  rw [← hm] at hn hr hc hl K
  clear h hm key key2
  go_enter Tryd.func17, Tryd.ntmps17
  go_wp2
  all_goals go_ret
  all_goals first
    | exact ⟨rfl, K.out _ _ (.inl rfl) rfl⟩
    | (have q := K.out o 0 (.inr ⟨rfl, by omega⟩) (by omega)
       rw [show c - n = 0 by omega] at q
       exact ⟨rfl, q⟩)

set_option maxHeartbeats 2000000 in
theorem take_no (rb kb fb g o c n : Nat) (L : List Int) (ok : Bool) (w : World) (h : St w rb kb fb g o c L ok) (hn : L.length < n) (hn2 : n ≤ 1024) :
    Calls Tryd.prog 17 #[.int .i64 n, .pointer (some ⟨rb, 0, none⟩), .pointer (some ⟨kb, 0, none⟩)] w fun e w' => e = .returned (.slice none 0 0) ∧ St w' rb kb fb g o c L false ∧ Near rb kb w w' := by
  obtain ⟨hr, hfr⟩ := cell_of_heap1 h.r
  obtain ⟨hk, hfk⟩ := cell_of_heap1 h.k
  have hS : St (w.setCell ⟨kb, 0, none⟩ (.bool false)) rb kb fb g o c L false := by
    obtain ⟨h1, h2, h3, h4, h5, h6, h7, h8, h9, ha, hb, hc, hd⟩ := h
    exact ⟨(heap_setCell_other _ _ _ _ h9).trans h1, by rw [heap_setCell_same _ _ _ _ _ _ h2]; rfl, (heap_setCell_other _ _ _ _ hb.symm).trans h3, fun i x hx => cell_set_far (h4 i x hx) hd, h5, h6, h7, h8, h9, ha, hb, hc, hd⟩
  have H := Lib.hid hS
  obtain ⟨m, hm⟩ : ∃ m, m = L.length := ⟨_, rfl⟩
  rw [← hm] at hn hr
  clear h hm hS
  go_enter Tryd.func17, Tryd.ntmps17
  go_wp2
  go_ret
  exact ⟨rfl, H.out, (Near.refl rb kb w).set (.inr rfl) _⟩

/-- What counted tells, what it leaves. -/
def cntS : List Int → ByteArray
  | [] => ByteArray.empty
  | x :: t => if x.toNat ≤ t.length then strOfNums (t.take x.toNat) else ByteArray.empty
def cntL : List Int → List Int
  | [] => []
  | x :: t => if x.toNat ≤ t.length then t.drop x.toNat else t
def cntK : List Int → Bool
  | [] => false
  | x :: t => decide (x.toNat ≤ t.length)
theorem Near.heap {rb kb b : Nat} {W W' : World} {o : Obj} (h : Near rb kb W W') (hb : W.heap[b]? = some o) (h1 : b ≠ rb) (h2 : b ≠ kb) : W'.heap[b]? = some o :=
  (h.block b (Array.getElem?_eq_some_iff.1 hb).1 h1 h2).trans hb

theorem Near.cell {rb kb : Nat} {W W' : World} {b i : Nat} {v : Value} (h : Near rb kb W W') (hc : W.cell? ⟨b, i, none⟩ = some v) (h1 : b ≠ rb) (h2 : b ≠ kb) : W'.cell? ⟨b, i, none⟩ = some v := by
  have hlt : b < W.heap.size := lt_of_cell hc
  unfold World.cell? at hc ⊢
  rw [show W'.heap[(⟨b, i, none⟩ : Addr).block]? = W.heap[(⟨b, i, none⟩ : Addr).block]? from h.block b hlt h1 h2]
  exact hc
theorem eqnil (W : World) (a : Option Addr) (l c : Nat) : (Go.binOp .eql 22 (.slice a l c) (.slice none 0 0)).run Tryd.prog W = .ok (.bool a.isNone) W := by
  have := _root_.Go.run_eql_slice_nil (P := Tryd.prog) W 22 5 a l c Tryd.underlying22
  exact this

theorem St.drew {W : World} {rb kb fb g o c : Nat} {L : List Int} {ok : Bool} (h : St W rb kb fb g o c L ok) : St W.drew rb kb fb g o c L ok := ⟨h.r, h.k, h.f, h.v, h.b, h.le, h.ln, h.lo, h.hrk, h.hrf, h.hkf, h.hgr, h.hgk⟩
theorem Near.vw {rb kb : Nat} {W W' : World} {g o : Nat} {L : List Int} (hv : Vw W g o L) (h : Near rb kb W W') (h1 : g ≠ rb) (h2 : g ≠ kb) : Vw W' g o L := fun i x hx => h.cell (hv i x hx) h1 h2
theorem vw_conv {W : World} {g o n : Nat} {L : List Int} (c : Nat) (h : Vw W g o L) (hn : L.length = n) : (Go.convert 22 9 (.slice (some ⟨g, o, none⟩) n c)).run Tryd.prog W = .ok (.string (strOfNums L)) W := by
  refine run_convert_bytes_arg W 22 5 Tryd.underlying22 Tryd.underlying5 g o n c L hn (fun i hi => ?_) 9 Tryd.underlying9
  rw [h i (L.getD i 0) ?_]
  rw [List.getD_eq_getElem?_getD, List.getElem?_eq_getElem (by omega)]
  rfl

theorem two_keep {W W' : World} {a b : Addr} {u v : Value} (h : Below W.heap.size W W') (h1 : W.cell? a = some u) (h2 : W.cell? b = some v) : W'.cell? a = some u ∧ W'.cell? b = some v :=
  ⟨(h.cell (lt_of_cell h1)).trans h1, (h.cell (lt_of_cell h2)).trans h2⟩
theorem two_near {rb kb b i b' i' : Nat} {W W' : World} {u v : Value} (h : Near rb kb W W') (x1 : b ≠ rb) (x2 : b ≠ kb) (y1 : b' ≠ rb) (y2 : b' ≠ kb) (h1 : W.cell? ⟨b, i, none⟩ = some u) (h2 : W.cell? ⟨b', i', none⟩ = some v) : W'.cell? ⟨b, i, none⟩ = some u ∧ W'.cell? ⟨b', i', none⟩ = some v :=
  ⟨h.cell h1 x1 x2, h.cell h2 y1 y2⟩

theorem three_keep {W W' : World} {a b : Addr} {u v : Value} {g o n c : Nat} {L : List Int} (h : Below W.heap.size W W') (h1 : W.cell? a = some u) (h2 : W.cell? b = some v) (hv : Vw W g o L) (hn : L.length = n) : W'.cell? a = some u ∧ W'.cell? b = some v ∧ (Go.convert 22 9 (.slice (some ⟨g, o, none⟩) n c)).run Tryd.prog W' = .ok (.string (strOfNums L)) W' :=
  ⟨(h.cell (lt_of_cell h1)).trans h1, (h.cell (lt_of_cell h2)).trans h2, vw_conv c (hv.below h) hn⟩
theorem three_near {rb kb b i b' i' : Nat} {W W' : World} {u v : Value} {g o n c : Nat} {L : List Int} (h : Near rb kb W W') (x1 : b ≠ rb) (x2 : b ≠ kb) (y1 : b' ≠ rb) (y2 : b' ≠ kb) (h1 : W.cell? ⟨b, i, none⟩ = some u) (h2 : W.cell? ⟨b', i', none⟩ = some v) (hv : Vw W' g o L) (hn : L.length = n) : W'.cell? ⟨b, i, none⟩ = some u ∧ W'.cell? ⟨b', i', none⟩ = some v ∧ (Go.convert 22 9 (.slice (some ⟨g, o, none⟩) n c)).run Tryd.prog W' = .ok (.string (strOfNums L)) W' :=
  ⟨h.cell h1 x1 x2, h.cell h2 y1 y2, vw_conv c hv hn⟩

set_option maxHeartbeats 2000000 in
theorem counted_nil (rb kb fb g o c : Nat) (ok : Bool) (w : World) (h : St w rb kb fb g o c [] ok) :
    Calls Tryd.prog 18 #[.pointer (some ⟨fb, 0, none⟩)] w fun e w' => e = .returned (.string ByteArray.empty) ∧ St w' rb kb fb g o c [] false ∧ Near rb kb w w' := by
  obtain ⟨hf, hff⟩ := cell_of_heap1 h.f
  have H := Lib.hid h
  clear h
  go_enter Tryd.func18, Tryd.ntmps18
  go_wp2_with (go_at_call 17; fail)
  refine (take_no rb kb fb g o c 1 [] ok w H.out (by decide) (by decide)).mono ?_
  rintro e w1 ⟨rfl, h1, h2⟩
  have H1 := Lib.hid h1
  have H2 := Lib.hid h2
  clear h1 h2
  have en := eqnil
  go_wp2
  go_ret
  exact ⟨rfl, H1.out, H2.out⟩

set_option maxHeartbeats 1000000 in
theorem counted_cons (rb kb fb g o c x : Nat) (t : List Int) (ok : Bool) (w : World) (h : St w rb kb fb g o c ((x : Int) :: t) ok) :
    Calls Tryd.prog 18 #[.pointer (some ⟨fb, 0, none⟩)] w fun e w' => e = .returned (.string (cntS ((x : Int) :: t))) ∧ (∃ o' c', St w' rb kb fb g o' c' (cntL ((x : Int) :: t)) (ok && cntK ((x : Int) :: t))) ∧ Near rb kb w w' := by
  obtain ⟨hf, hff⟩ := cell_of_heap1 h.f
  have H := Lib.hid h
  clear h
  go_enter Tryd.func18, Tryd.ntmps18
  go_wp2_with (go_at_call 17; fail)
  refine (take_yes rb kb fb g o c 1 _ ok w H.out (by simp)).mono ?_
  rintro e w1 ⟨rfl, ⟨o1, h1⟩, h2⟩
  replace h1 : St w1 rb kb fb g o1 (c - 1) t ok := h1
  generalize c - 1 = c1 at h1
  have hx : w1.cell? ⟨g, o, none⟩ = some (.int .u8 x) := by
    have := h2.cell (H.out.v 0 _ rfl) H.out.hgr H.out.hgk
    exact this
  obtain ⟨hf1, _⟩ := cell_of_heap1 h1.f
  have H1 := Lib.hid h1
  have H2 := Lib.hid h2
  clear h1 h2 hf hff
  have en := eqnil
  have hx256 : x < 256 := by have := H.out.b (x : Int) (by simp); omega
  have hw : IntKind.i64.wrap (x : Int) = (x : Int) := by
    rw [IntKind.wrap_i64]
    omega
  by_cases hxt : x ≤ t.length
  · have hx0 : (x : Int).toNat ≤ t.length := by rw [Int.toNat_natCast]; exact hxt
    go_wp2_with fail
    clear en
    have tv := H1.out.v.take x
    have tl : (t.take x).length = x := List.length_take_of_le hxt
    have TV := Lib.hid tv
    have TL := Lib.hid tl
    clear tv tl
    go_region_held3 (fun W => W.cell? ⟨fb, 0, none⟩ = some (.func (.func 17) #[] #[.pointer (some ⟨rb, 0, none⟩), .pointer (some ⟨kb, 0, none⟩)]) ∧ W.cell? ⟨g, o, none⟩ = some (.int .u8 x) ∧ (Go.convert 22 9 (.slice (some ⟨g, o1, none⟩) x c1)).run Tryd.prog W = .ok (.string (strOfNums (t.take x))) W)
      (first
        | exact three_keep (Below.refl _ _).drew hf1 hx TV.out TL.out
        | (go_split_ands; exact three_near k2 H1.out.hrf.symm H1.out.hkf.symm H1.out.hgr H1.out.hgk (by assumption) (by assumption) (Near.vw ((St.drew H1.out).v.take x) k2 H1.out.hgr H1.out.hgk) TL.out))
      (first
        | (go_at_call 17; refine (take_yes rb kb fb g o1 c1 x t ok w1.drew (St.drew H1.out) hxt).mono ?_; rintro e w2 ⟨rfl, ⟨o2, k1⟩, k2⟩))
    have nr : Near rb kb w w2 := H2.out.trans ((Near.of_below (Below.refl _ _).drew).trans k2)
    have e1 : cntS ((x : Int) :: t) = strOfNums (List.take x t) := by rw [cntS, if_pos hx0, Int.toNat_natCast]
    have e2 : cntL ((x : Int) :: t) = List.drop x t := by rw [cntL, if_pos hx0, Int.toNat_natCast]
    have e3 : cntK ((x : Int) :: t) = true := by rw [cntK]; exact decide_eq_true hx0
    have E1 := Lib.hid e1
    have E2 := Lib.hid e2
    have E3 := Lib.hid e3
    have K1 := Lib.hid k1
    have NR := Lib.hid nr
    clear k1 k2 nr e1 e2 e3 hx0 hxt hw hx256
    go_wp2
    go_ret
    refine ⟨?_, ⟨o2, _, by rw [E2.out, E3.out, Bool.and_true]; exact K1.out⟩, NR.out⟩
    rw [E1.out]
    rfl
  · have hx0 : ¬ (x : Int).toNat ≤ t.length := by rw [Int.toNat_natCast]; exact hxt
    go_wp2_with fail
    clear en
    have cv := fun W => run_convert_bytes_nil (P := Tryd.prog) W 22 5 Tryd.underlying22 Tryd.underlying5 0 0 9 Tryd.underlying9
    go_region_held3 (fun W => W.cell? ⟨fb, 0, none⟩ = some (.func (.func 17) #[] #[.pointer (some ⟨rb, 0, none⟩), .pointer (some ⟨kb, 0, none⟩)]) ∧ W.cell? ⟨g, o, none⟩ = some (.int .u8 x))
      (first
        | exact two_keep (Below.refl _ _).drew hf1 hx
        | (go_split_ands; exact two_near k2 H1.out.hrf.symm H1.out.hkf.symm H1.out.hgr H1.out.hgk (by assumption) (by assumption)))
      (first
        | (go_at_call 17; refine (take_no rb kb fb g o1 c1 x t ok w1.drew (St.drew H1.out) (by omega) (by omega)).mono ?_; rintro e w2 ⟨rfl, k1, k2⟩))
    have nr : Near rb kb w w2 := H2.out.trans ((Near.of_below (Below.refl _ _).drew).trans k2)
    have e1 : cntS ((x : Int) :: t) = ByteArray.empty := by rw [cntS, if_neg hx0]
    have e2 : cntL ((x : Int) :: t) = t := by rw [cntL, if_neg hx0]
    have e3 : cntK ((x : Int) :: t) = false := by rw [cntK]; exact decide_eq_false hx0
    have E1 := Lib.hid e1
    have E2 := Lib.hid e2
    have E3 := Lib.hid e3
    have K1 := Lib.hid k1
    have NR := Lib.hid nr
    clear k1 k2 nr e1 e2 e3 cv hx0 hxt hw hx256
    go_wp2
    go_ret
    refine ⟨?_, ⟨o1, _, by rw [E2.out, E3.out, Bool.and_false]; exact K1.out⟩, NR.out⟩
    rw [E1.out]
    rfl
end

section
open Go.RowKit Go.Proofs Go.Proofs.YtljamhpdgmelcaaDoorW.PrintWords
set_option linter.unusedVariables false
set_option linter.unusedSimpArgs false

theorem drop_cons {L : List Int} {i : Nat} (h : i < L.length) : L.drop i = L.getD i 0 :: L.drop (i + 1) := by
  rw [List.drop_eq_getElem_cons h, List.getD_eq_getElem?_getD, List.getElem?_eq_getElem h]
  rfl
theorem shaped_iff (L : List Int) (h23 : 23 ≤ L.length) : shaped L = true ↔ (cntK (L.drop 23) && cntK (cntL (L.drop 23))) = true ∧ cntL (cntL (L.drop 23)) = [] := by
  unfold shaped
  rw [Bool.and_eq_true, decide_eq_true_eq, decide_eq_true_eq, Bool.and_eq_true]
  by_cases h24 : 23 < L.length
  case neg =>
    have e : L.drop 23 = [] := List.drop_eq_nil_of_le (by omega)
    rw [e]
    simp [cntK]
    omega
  rw [drop_cons h24]
  have n0 : (L.getD 23 0).toNat = nlen L := rfl
  have hl : (L.drop (23 + 1)).length = L.length - 24 := by rw [List.length_drop]
  unfold cntK cntL
  simp only [n0, hl]
  by_cases h1 : nlen L ≤ L.length - 24
  case neg =>
    simp only [if_neg h1, decide_eq_true_eq]
    omega
  simp only [if_pos h1, decide_eq_true_eq]
  rw [List.drop_drop]
  by_cases h2 : 24 + nlen L < L.length
  case neg =>
    have e : L.drop (23 + 1 + nlen L) = [] := List.drop_eq_nil_of_le (by omega)
    rw [e]
    simp
    omega
  rw [show 23 + 1 + nlen L = 24 + nlen L by omega, drop_cons h2]
  have n1 : (L.getD (24 + nlen L) 0).toNat = tlen L := rfl
  have hl2 : (L.drop (24 + nlen L + 1)).length = L.length - (25 + nlen L) := by rw [List.length_drop]; omega
  simp only [n1, hl2]
  by_cases h3 : tlen L ≤ L.length - (25 + nlen L)
  case neg =>
    simp only [if_neg h3, decide_eq_true_eq]
    omega
  simp only [if_pos h3, List.drop_drop, decide_eq_true_eq]
  rw [List.drop_eq_nil_iff]
  omega
theorem shaped_len {L : List Int} (h : shaped L = true) : 25 + nlen L ≤ L.length ∧ L.length = 25 + nlen L + tlen L := by
  unfold shaped at h
  rw [Bool.and_eq_true, decide_eq_true_eq, decide_eq_true_eq] at h
  exact h
theorem shaped_strs {L : List Int} (h : shaped L = true) : cntS (L.drop 23) = strOfNums ((L.drop 24).take (nlen L)) ∧ cntS (cntL (L.drop 23)) = strOfNums (L.drop (25 + nlen L)) := by
  obtain ⟨h1, h2⟩ := shaped_len h
  rw [drop_cons (show 23 < L.length by omega)]
  have n0 : (L.getD 23 0).toNat = nlen L := rfl
  have hl : (L.drop (23 + 1)).length = L.length - 24 := by rw [List.length_drop]
  unfold cntL
  rw [cntS]
  simp only [n0, hl]
  rw [if_pos (by omega), if_pos (by omega), List.drop_drop, show 23 + 1 + nlen L = 24 + nlen L by omega, drop_cons (show 24 + nlen L < L.length by omega), cntS]
  have n1 : (L.getD (24 + nlen L) 0).toNat = tlen L := rfl
  have hl2 : (L.drop (24 + nlen L + 1)).length = L.length - (25 + nlen L) := by rw [List.length_drop]; omega
  simp only [n1, hl2]
  rw [if_pos (by omega)]
  refine ⟨trivial, ?_⟩
  rw [List.take_of_length_le (by rw [hl2]; omega), show 24 + nlen L + 1 = 25 + nlen L by omega]
theorem nd_take {L : List Int} (h : shaped L = true) : (⟨leV (L.take 23) 0 1, leV (L.take 23) 1 4, cntS (L.drop 23), leV (L.take 23) 5 4, leV (L.take 23) 9 2, leV (L.take 23) 11 8, leV (L.take 23) 19 4, cntS (cntL (L.drop 23))⟩ : Nd) = ndOf L := by
  obtain ⟨h1, h2⟩ := shaped_len h
  obtain ⟨s1, s2⟩ := shaped_strs h
  have k : ∀ a k, a + k ≤ 23 → leV (L.take 23) a k = leV L a k := fun a k hk => by
    have := leV_left (L.take 23) (L.drop 23) a k (by rw [List.length_take]; omega)
    rw [List.take_append_drop] at this
    exact this.symm
  rw [k 0 1 (by decide), k 1 4 (by decide), k 5 4 (by decide), k 9 2 (by decide), k 11 8 (by decide), k 19 4 (by decide), s1, s2]
  rfl

/-- P8.2: what is read is written as it was. -/
theorem bytes_nd {L : List Int} (hb : Byts L) (h : shaped L = true) : bytesB (ndOf L) = L := by
  obtain ⟨h1, h2⟩ := shaped_len h
  have hn : nlen L < 256 := by
    unfold nlen
    rw [List.getD_eq_getElem?_getD, List.getElem?_eq_getElem (by omega)]
    have := hb _ (List.getElem_mem (show 23 < L.length by omega))
    simp only [Option.getD_some]
    omega
  have ht : tlen L < 256 := by
    unfold tlen
    rw [List.getD_eq_getElem?_getD, List.getElem?_eq_getElem (by omega)]
    have := hb _ (List.getElem_mem (show 24 + nlen L < L.length by omega))
    simp only [Option.getD_some]
    omega
  have e23 : L.getD 23 0 = (nlen L : Int) := by
    unfold nlen
    rw [Int.toNat_of_nonneg]
    rw [List.getD_eq_getElem?_getD, List.getElem?_eq_getElem (by omega)]
    exact (hb _ (List.getElem_mem (show 23 < L.length by omega))).1
  have e24 : L.getD (24 + nlen L) 0 = (tlen L : Int) := by
    unfold tlen
    rw [Int.toNat_of_nonneg]
    rw [List.getD_eq_getElem?_getD, List.getElem?_eq_getElem (by omega)]
    exact (hb _ (List.getElem_mem (show 24 + nlen L < L.length by omega))).1
  have le : ∀ a k, a + k ≤ 23 → leN (leV L a k) k = (L.drop a).take k := fun a k hk => leN_leV hb a k (by omega)
  have sz : ∀ X : List Int, (strOfNums X).size = X.length := fun X => by simp [strOfNums, ByteArray.size]
  unfold bytesB ndOf headB textL
  simp only [Int.toNat_natCast]
  rw [le 0 1 (by decide), le 1 4 (by decide), le 5 4 (by decide), le 9 2 (by decide), le 11 8 (by decide), le 19 4 (by decide), bytesOf_str _ ((hb.drop 24).take _), bytesOf_str _ (hb.drop _), sz, sz]
  have l1 : ((L.drop 24).take (nlen L)).length = nlen L := by rw [List.length_take, List.length_drop]; omega
  have l2 : (L.drop (25 + nlen L)).length = tlen L := by rw [List.length_drop]; omega
  rw [l1, l2, show ((nlen L : Int) % 256) = L.getD 23 0 by rw [e23]; omega, show ((tlen L : Int) % 256) = L.getD (24 + nlen L) 0 by rw [e24]; omega]
  have t : ∀ a k m : Nat, (L.drop a).take k ++ L.drop (a + k) = L.drop a := fun a k m => by
    rw [← List.drop_drop, List.take_append_drop]
  have d0 : L.getD (24 + nlen L) 0 :: L.drop (25 + nlen L) = L.drop (24 + nlen L) := by rw [drop_cons (show 24 + nlen L < L.length by omega), show 24 + nlen L + 1 = 25 + nlen L by omega]
  have d1 : L.getD 23 0 :: (L.drop 24).take (nlen L) ++ L.drop (24 + nlen L) = L.drop 23 := by rw [List.cons_append, t 24 (nlen L) 0, drop_cons (show 23 < L.length by omega)]
  simp only [List.append_assoc]
  rw [d0, d1, t 19 4 0, t 11 8 0, t 9 2 0, t 5 4 0, t 1 4 0, t 0 1 0]
  rfl

/-- P8.1: what is written is read as it was. -/
theorem nd_bytes (n : Nd) (F : Fine n) (hx0 : 0 ≤ n.stamp) (hx1 : n.stamp < 18446744073709551616) : shaped (bytesB n) = true ∧ ndOf (bytesB n) = n := by
  obtain ⟨ty, pa, nm, sz, mo, st, sh, tg⟩ := n
  obtain ⟨t1, t3, p0, p1, hnm, nl, s0, s1, m0, m1, h0, h1, tl⟩ := F
  simp only at t1 t3 p0 p1 hnm nl s0 s1 m0 m1 h0 h1 tl hx0 hx1
  obtain ⟨T, rfl⟩ := Int.eq_ofNat_of_zero_le (show 0 ≤ ty by omega)
  obtain ⟨P, rfl⟩ := Int.eq_ofNat_of_zero_le p0
  obtain ⟨S, rfl⟩ := Int.eq_ofNat_of_zero_le s0
  obtain ⟨M, rfl⟩ := Int.eq_ofNat_of_zero_le m0
  obtain ⟨X, rfl⟩ := Int.eq_ofNat_of_zero_le hx0
  obtain ⟨H, rfl⟩ := Int.eq_ofNat_of_zero_le h0
  have hB : bytesB ⟨(T : Int), (P : Int), nm, (S : Int), (M : Int), (X : Int), (H : Int), tg⟩ = headB T P S M X H ++ (textL nm ++ textL tg) := by
    unfold bytesB
    simp only [Int.toNat_natCast, List.append_assoc]
  rw [hB]
  have hl := headB_len T P S M X H
  have a0 : nlen (headB T P S M X H ++ (textL nm ++ textL tg)) = nm.size := by
    unfold nlen
    have := getD_append_right' (headB T P S M X H) (textL nm ++ textL tg) 0
    rw [hl] at this
    rw [this]
    unfold textL
    simp only [List.cons_append, List.getD_cons_zero]
    omega
  have a1 : (headB T P S M X H ++ (textL nm ++ textL tg)).getD (24 + nm.size) 0 = (tg.size : Int) % 256 := by
    have e : headB T P S M X H ++ (textL nm ++ textL tg) = (headB T P S M X H ++ textL nm) ++ textL tg := by rw [List.append_assoc]
    have := getD_append_right' (headB T P S M X H ++ textL nm) (textL tg) 0
    rw [List.length_append, hl, textL_len] at this
    rw [e, show 24 + nm.size = 23 + (nm.size + 1) + 0 by omega, this]
    rfl
  have a2 : tlen (headB T P S M X H ++ (textL nm ++ textL tg)) = tg.size := by
    unfold tlen
    rw [a0, a1]
    omega
  have hlen : (headB T P S M X H ++ (textL nm ++ textL tg)).length = 25 + nm.size + tg.size := by
    rw [List.length_append, List.length_append, hl, textL_len, textL_len]; omega
  refine ⟨?_, ?_⟩
  · unfold shaped
    rw [a0, a2, hlen, Bool.and_eq_true, decide_eq_true_eq, decide_eq_true_eq]
    exact ⟨by omega, rfl⟩
  · have d24 : (headB T P S M X H ++ (textL nm ++ textL tg)).drop 24 = bytesOf nm ++ textL tg := by
      rw [show (24 : Nat) = (headB T P S M X H).length + 1 by rw [hl], ← List.drop_drop, List.drop_left]
      rfl
    have d25 : (headB T P S M X H ++ (textL nm ++ textL tg)).drop (25 + nm.size) = bytesOf tg := by
      have e : headB T P S M X H ++ (textL nm ++ textL tg) = (headB T P S M X H ++ textL nm) ++ textL tg := by rw [List.append_assoc]
      have hh : (headB T P S M X H ++ textL nm).length = 24 + nm.size := by rw [List.length_append, hl, textL_len]; omega
      rw [e, show 25 + nm.size = (headB T P S M X H ++ textL nm).length + 1 by rw [hh]; omega, ← List.drop_drop, List.drop_left]
      rfl
    have g : ∀ (A B : List Int) (v k : Nat), v < 2 ^ (8 * k) → leV (A ++ (leN v k ++ B)) A.length k = v := fun A B v k hv => by
      have := leV_right A (leN v k ++ B) k 0
      rw [Nat.add_zero] at this
      rw [this, leV_leN, Nat.mod_eq_of_lt hv]
    have f0 : leV (headB T P S M X H ++ (textL nm ++ textL tg)) 0 1 = T := by
      have := g [] (leN P 4 ++ (leN S 4 ++ (leN M 2 ++ (leN X 8 ++ (leN H 4 ++ (textL nm ++ textL tg)))))) T 1 (by omega)
      simpa [headB] using this
    have f1 : leV (headB T P S M X H ++ (textL nm ++ textL tg)) 1 4 = P := by
      have := g (leN T 1) (leN S 4 ++ (leN M 2 ++ (leN X 8 ++ (leN H 4 ++ (textL nm ++ textL tg))))) P 4 (by omega)
      rw [leN_len] at this
      simpa [headB] using this
    have f2 : leV (headB T P S M X H ++ (textL nm ++ textL tg)) 5 4 = S := by
      have := g (leN T 1 ++ leN P 4) (leN M 2 ++ (leN X 8 ++ (leN H 4 ++ (textL nm ++ textL tg)))) S 4 (by omega)
      rw [List.length_append, leN_len, leN_len] at this
      simpa [headB] using this
    have f3 : leV (headB T P S M X H ++ (textL nm ++ textL tg)) 9 2 = M := by
      have := g (leN T 1 ++ leN P 4 ++ leN S 4) (leN X 8 ++ (leN H 4 ++ (textL nm ++ textL tg))) M 2 (by omega)
      simp only [List.length_append, leN_len] at this
      simpa [headB] using this
    have f4 : leV (headB T P S M X H ++ (textL nm ++ textL tg)) 11 8 = X := by
      have := g (leN T 1 ++ leN P 4 ++ leN S 4 ++ leN M 2) (leN H 4 ++ (textL nm ++ textL tg)) X 8 (by omega)
      simp only [List.length_append, leN_len] at this
      simpa [headB] using this
    have f5 : leV (headB T P S M X H ++ (textL nm ++ textL tg)) 19 4 = H := by
      have := g (leN T 1 ++ leN P 4 ++ leN S 4 ++ leN M 2 ++ leN X 8) (textL nm ++ textL tg) H 4 (by omega)
      simp only [List.length_append, leN_len] at this
      simpa [headB] using this
    unfold ndOf
    rw [a0, d24, d25, f0, f1, f2, f3, f4, f5]
    rw [List.take_left' (bytesOf_len nm), str_bytesOf, str_bytesOf]
theorem readN_bytes (n : Nd) (h : checkNo n = 0) (hx0 : 0 ≤ n.stamp) (hx1 : n.stamp < 18446744073709551616) : readN (bytesB n) = (n, 0) := by
  obtain ⟨a, b⟩ := nd_bytes n (fine_of h) hx0 hx1
  unfold readN
  rw [if_pos a, b, if_pos h]
end

section
open Go.RowKit Go.Proofs Go.Proofs.YtljamhpdgmelcaaDoorW.PrintWords
set_option linter.unusedVariables false
set_option linter.unusedSimpArgs false

theorem readN_ok {L : List Int} (hb : Byts L) (h : (readN L).2 = 0) : shaped L = true ∧ (readN L).1 = ndOf L ∧ checkNo (ndOf L) = 0 ∧ bytesB (ndOf L) = L := by
  unfold readN at h ⊢
  by_cases hs : shaped L = true
  · rw [if_pos hs] at h ⊢
    by_cases hc : checkNo (ndOf L) = 0
    · rw [if_pos hc]
      exact ⟨hs, rfl, hc, bytes_nd hb hs⟩
    · rw [if_neg hc] at h
      exact absurd h hc
  · rw [if_neg hs] at h
    exact absurd h (by decide)
theorem readN_bad {L : List Int} (h : (readN L).2 ≠ 0) : (readN L).1 = zeroNd := by
  unfold readN at h ⊢
  by_cases hs : shaped L = true
  · rw [if_pos hs] at h ⊢
    by_cases hc : checkNo (ndOf L) = 0
    · rw [if_pos hc] at h
      exact absurd rfl h
    · rw [if_neg hc]
  · rw [if_neg hs]
theorem getD_take' (L : List Int) (k i : Nat) (h : i < k) : (L.take k).getD i 0 = L.getD i 0 := by
  rw [List.getD_eq_getElem?_getD, List.getElem?_take, if_pos h, ← List.getD_eq_getElem?_getD]
theorem readN_cut {L : List Int} (h : shaped L = true) (k : Nat) (hk : k < L.length) : readN (L.take k) = (zeroNd, 80) := by
  obtain ⟨h1, h2⟩ := shaped_len h
  have hl : (L.take k).length = k := by rw [List.length_take]; omega
  unfold readN
  rw [if_neg]
  intro hs
  obtain ⟨k1, k2⟩ := shaped_len hs
  rw [hl] at k1 k2
  have e1 : nlen (L.take k) = nlen L := by unfold nlen; rw [getD_take' _ _ _ (by omega)]
  rw [e1] at k1 k2
  have e2 : tlen (L.take k) = tlen L := by unfold tlen; rw [e1, getD_take' _ _ _ (by omega)]
  omega
theorem readN_more {L : List Int} (h : shaped L = true) (x : Int) : readN (L ++ [x]) = (zeroNd, 80) := by
  obtain ⟨h1, h2⟩ := shaped_len h
  unfold readN
  rw [if_neg]
  intro hs
  obtain ⟨k1, k2⟩ := shaped_len hs
  rw [List.length_append, List.length_singleton] at k1 k2
  have e1 : nlen (L ++ [x]) = nlen L := by unfold nlen; rw [getD_append_left' _ _ _ (by omega)]
  rw [e1] at k1 k2
  have e2 : tlen (L ++ [x]) = tlen L := by unfold tlen; rw [e1, getD_append_left' _ _ _ (by omega)]
  omega
theorem readN_set {L : List Int} (hb : Byts L) (h0 : (readN L).2 = 0) (k : Nat) (hk : k < L.length) (y : Int) (hy0 : 0 ≤ y) (hy1 : y < 256) (hne : y ≠ L.getD k 0) : (readN (L.set k y)).2 ≠ 0 ∨ (readN (L.set k y)).1 ≠ (readN L).1 := by
  by_cases h1 : (readN (L.set k y)).2 = 0
  · refine .inr fun e => ?_
    have hb' : Byts (L.set k y) := fun x hx => by
      rcases List.mem_or_eq_of_mem_set hx with h | h
      · exact hb x h
      · exact h ▸ ⟨hy0, hy1⟩
    obtain ⟨_, e1, _, b1⟩ := readN_ok hb h0
    obtain ⟨_, e2, _, b2⟩ := readN_ok hb' h1
    have : L.set k y = L := by rw [← b2, ← e2, e, e1, b1]
    have g : (L.set k y).getD k 0 = L.getD k 0 := by rw [this]
    rw [List.getD_eq_getElem?_getD, List.getElem?_set_self hk] at g
    exact hne g
  · exact .inl h1
theorem readN_stamp {L : List Int} (hb : Byts L) : 0 ≤ (readN L).1.stamp ∧ (readN L).1.stamp < 18446744073709551616 := by
  unfold readN
  split
  · split
    · have := leV_lt hb 11 8
      exact ⟨Int.natCast_nonneg _, by show (leV L 11 8 : Int) < _; omega⟩
    · exact ⟨Int.le_refl 0, (by decide : (0 : Int) < 18446744073709551616)⟩
  · exact ⟨Int.le_refl 0, (by decide : (0 : Int) < 18446744073709551616)⟩
end
end Go.Proofs.YtljamhpdgmelcaaDoor
