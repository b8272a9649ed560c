/- The two books beside each other; rows that are the same. -/
import Derived.Test.YtmohijpkhmeibaaMWf
import Derived.Test.YtmohijpkhmeibaaMNew
import Derived.Deep.RegionHeld3
namespace Go.Proofs.Ytmohijpkhmeibaa
open Go.RowKit Go.Proofs Go.Proofs.YtmohijpkhmeibaaW.PrintWords
open PBlocksRound
set_option linter.unusedVariables false
set_option linter.unusedSimpArgs false
set_option maxRecDepth 100000
/-- The program's book (bB) and the document's (bR), both made since w0. -/
structure Duo (w0 : World) (p q cap p' q' t' cap' : Nat) (bB bR : Bks) (w : World) : Prop where
  isB : IsB w p q cap bB
  isR : IsR w p' q' t' cap' bR
  below : Below w0.heap.size w0 w
  lp : w0.heap.size ≤ p
  lq : w0.heap.size ≤ q
  lp' : w0.heap.size ≤ p'
  lq' : w0.heap.size ≤ q'
  lt' : w0.heap.size ≤ t'
section
variable {w0 w w' : World} {p q cap p' q' t' cap' : Nat} {bB bR bB' bR' : Bks}
theorem Duo.sepB (h : Duo w0 p q cap p' q' t' cap' bB bR w) (i : Nat) (hi : i = p' ∨ i = q' ∨ i = t') : ¬ (i = q ∨ i = p) := by
  obtain ⟨c, hc, _⟩ := h.isB.rows
  obtain ⟨d, hd, _⟩ := h.isR.rows
  obtain ⟨e, he, _⟩ := h.isR.left
  have h1 := typ_ne h.isB.head h.isR.head (by decide)
  have h2 := typ_ne h.isB.head hd (by decide)
  have h3 := typ_ne h.isB.head he (by decide)
  have h4 := typ_ne hc h.isR.head (by decide)
  have h5 := typ_ne hc hd (by decide)
  have h6 := typ_ne hc he (by decide)
  omega
theorem Duo.toB (h : Duo w0 p q cap p' q' t' cap' bB bR w) (hI : IsB w' p q cap bB') (ho : Off (fun i => i = q ∨ i = p) w w') : Duo w0 p q cap p' q' t' cap' bB' bR w' :=
  ⟨hI, h.isR.off ho (h.sepB _ (.inl rfl)) (h.sepB _ (.inr (.inl rfl))) (h.sepB _ (.inr (.inr rfl))), h.below.trans (ho.below h.below.size fun i hi => by rcases hi with rfl | rfl; exact h.lq; exact h.lp), h.lp, h.lq, h.lp', h.lq', h.lt'⟩
theorem Duo.toR (h : Duo w0 p q cap p' q' t' cap' bB bR w) (hI : IsR w' p' q' t' cap' bR') (ho : Off (fun i => i = q' ∨ i = t' ∨ i = p') w w') : Duo w0 p q cap p' q' t' cap' bB bR' w' :=
  ⟨h.isB.off ho (fun e => h.sepB p (by omega) (.inr rfl)) (fun e => h.sepB q (by omega) (.inl rfl)), hI, h.below.trans (ho.below h.below.size fun i hi => by rcases hi with rfl | rfl | rfl; exact h.lq'; exact h.lt'; exact h.lp'), h.lp, h.lq, h.lp', h.lq', h.lt'⟩
theorem Duo.of_below (h : Duo w0 p q cap p' q' t' cap' bB bR w) (hb : Below w.heap.size w w') : Duo w0 p q cap p' q' t' cap' bB bR w' :=
  ⟨h.isB.below hb, h.isR.below hb, h.below.trans (hb.mono h.below.size), h.lp, h.lq, h.lp', h.lq', h.lt'⟩
theorem Duo.drewN (h : Duo w0 p q cap p' q' t' cap' bB bR w) (n : Nat) : Duo w0 p q cap p' q' t' cap' bB bR (w.drewN n) :=
  ⟨h.isB.drewN n, h.isR.drewN n, pw_below_drewN' h.below n, h.lp, h.lq, h.lp', h.lq', h.lt'⟩
theorem Duo.alloc (h : Duo w0 p q cap p' q' t' cap' bB bR w) (o : Obj) : Duo w0 p q cap p' q' t' cap' bB bR (w.alloc o) := h.of_below ((Below.refl _ _).alloc (Nat.le_refl _) o)
end
/-- A slice of numbers that a row of its own holds. -/
theorem owns_shape {w : World} {base : Nat} {v : Value} {L : List Nat} (h : w.ownsRow base 3 1 v L.length (encN L)) : ∃ A c, v = .slice A L.length c ∧ HoldsN w A L ∧ ∀ g, A = some g → base ≤ g.block := by
  by_cases hne : L = []
  · subst hne
    rcases h.2 with ⟨e, _⟩ | ⟨g, cap, cur, e, hg, _⟩
    · exact ⟨_, _, e, .inl rfl, fun g hg => by cases hg⟩
    · exact ⟨_, _, e, .inl rfl, fun g' hg' => by cases hg'; exact hg⟩
  · obtain ⟨g, c, cur, e, hg, hh, hc⟩ := owns_nums h hne
    exact ⟨_, c, e, .inr ⟨g, rfl, fun i k hk => cell_of hh (hc i k hk)⟩, fun g' hg' => by cases hg'; exact hg⟩
theorem HoldsN.below {w w' : World} {A : Option Addr} {L : List Nat} (h : HoldsN w A L) (hb : Below w.heap.size w w') : HoldsN w' A L := by
  rcases h with h | ⟨g, h1, h2⟩
  · exact .inl h
  · exact .inr ⟨g, h1, fun i k hk => (hb.cell (p := ⟨g, i, none⟩) (World.block_lt_of_cell? _ _ (h2 i k hk))).trans (h2 i k hk)⟩
theorem HoldsN.off {S : Nat → Prop} {w w' : World} {A : Option Addr} {L : List Nat} (h : HoldsN w A L) (hb : Off S w w') (hS : ∀ g, A = some g → ¬ S g.block) : HoldsN w' A L := by
  rcases h with h | ⟨g, h1, h2⟩
  · exact .inl h
  · refine .inr ⟨g, h1, fun i k hk => ?_⟩
    have := h2 i k hk
    unfold World.cell? at this ⊢
    rw [show w'.heap[g]? = w.heap[g]? from hb.block g (World.block_lt_of_cell? _ _ (h2 i k hk)) (hS _ h1)]
    exact this
set_option maxHeartbeats 1000000 in
theorem sameInts_calls (A A' : Option Addr) (c c' : Nat) (L : List Nat) (w : World) (h : HoldsN w A L) (h' : HoldsN w A' L) (hlen : L.length ≤ 4096) :
    Calls Try.prog 32 #[.slice A L.length c, .slice A' L.length c'] w fun e w' => e = .returned (.bool true) ∧ ∃ n, w' = w.drewN n := by
  have H := Lib.hid h
  have H' := Lib.hid h'
  clear h h'
  go_enter Try.func32, Try.ntmps32
  go_wp2
  go_loopw [5] (fun s5 wr => ∃ i m : Nat, s5 = .int .i64 (i : Int) ∧ i ≤ L.length ∧ wr = w.drewN m) (fun s5 _ => L.length - (intOf s5).toNat)
  case atStart => exact ⟨0, 0, rfl, by omega, rfl⟩
  case round =>
    obtain ⟨i, m, rfl, hi, rfl⟩ := hrel
    by_cases hlt : i < L.length
    · have hil : (i : Int) < (L.length : Int) := by omega
      obtain ⟨k, hk⟩ : ∃ k, L[i]? = some k := ⟨_, List.getElem?_eq_getElem hlt⟩
      rcases H.out with h0 | ⟨g, rfl, hg⟩
      · rw [h0] at hlt; cases hlt
      rcases H'.out with h0 | ⟨g', rfl, hg'⟩
      · rw [h0] at hlt; cases hlt
      have d1 := hg i k hk
      have d2 := hg' i k hk
      clear hg hg' hk
      go_wp2
      go_quiet (fail)
      go_wp2
      go_roundw
      case rel => exact ⟨i + 1, _, by go_num, by omega, rfl⟩
      case measure => simp [intOf]; omega
    · obtain rfl : i = L.length := by omega
      go_wp2
      go_ret
      exact ⟨rfl, _, rfl⟩
/-- A block's list in memory, four cells a block. -/
def Rows4 (w : World) (g : Nat) (l : List Blk) : Prop := ∀ (i : Nat) (x : Blk), l[i]? = some x → ∀ (j : Nat) (v : Value), x.cells4[j]? = some v → w.cell? ⟨g, i * 4 + j, none⟩ = some v
def sOf (x : Blk) : S34 := ⟨x.state, x.head, x.real, x.live⟩
theorem kc_of {w : World} {g : Nat} {l : List Blk} (h : Rows4 w g l) (hl : l.length ≤ 4096) : Kd.C k34 w (some ⟨g, 0, none⟩) (l.map sOf).length (l.map sOf) := by
  refine ⟨rfl, by rw [List.length_map]; omega, fun _ => ⟨_, rfl, fun j x hj => ?_⟩⟩
  rw [List.getElem?_map] at hj
  cases hy : l[j]? with
  | none => rw [hy] at hj; cases hj
  | some y =>
    rw [hy] at hj
    cases hj
    refine ⟨_, rfl, k34_mk w (sOf y), fun k u hu => ?_⟩
    rw [Addr.add_lit, Nat.zero_add]
    exact h j y hy k u hu
theorem IsR.rows4 {w : World} {p q t cap : Nat} {b : Bks} (h : IsR w p q t cap b) : Rows4 w q b.all := fun i x hx j v hv => h.cell hx hv
theorem encB_get {l : List Blk} : ∀ {i : Nat} {x : Blk}, l[i]? = some x → ∀ (j : Nat) (v : Value), x.cells4[j]? = some v → (encB l)[i * 4 + j]? = some v := by
  induction l with
  | nil => intro i x hx; cases hx
  | cons a l ih =>
    intro i x hx j v hv
    have ej : j < 4 := (List.getElem?_eq_some_iff.1 hv).1
    have e : encB (a :: l) = a.cells4 ++ encB l := rfl
    rw [e]
    have hl4 : a.cells4.length = 4 := rfl
    cases i with
    | zero =>
      simp at hx
      subst hx
      rw [List.getElem?_append_left (by omega), show 0 * 4 + j = j by omega]
      exact hv
    | succ i =>
      rw [List.getElem?_append_right (by omega), hl4, show (i + 1) * 4 + j - 4 = i * 4 + j by omega]
      exact ih hx j v hv
/-- What List answers. -/
theorem owns_blks {w : World} {base : Nat} {v : Value} {l : List Blk} (h : w.ownsRow base 34 4 v l.length (encB l)) (hpos : 0 < l.length) : ∃ g cap, v = .slice (some ⟨g, 0, none⟩) l.length cap ∧ base ≤ g ∧ Rows4 w g l ∧ l.length ≤ cap := by
  rcases h.2 with ⟨_, e⟩ | ⟨g, cap, cur, e, hg, hh, hn, _, hs, ht⟩
  · omega
  · refine ⟨g, cap, e, hg, fun i x hx j u hu => ?_, hn⟩
    have hi : i < l.length := (List.getElem?_eq_some_iff.1 hx).1
    have hj : j < 4 := (List.getElem?_eq_some_iff.1 hu).1
    have h1 := encB_get hx j u hu
    rw [← ht, List.getElem?_take_of_lt (by omega)] at h1
    exact cell_of hh (by simpa using h1)
theorem Rows4.below {w w' : World} {g : Nat} {l : List Blk} (h : Rows4 w g l) (hb : Below w.heap.size w w') : Rows4 w' g l := fun i x hx j v hv =>
  (hb.cell (p := ⟨g, i * 4 + j, none⟩) (World.block_lt_of_cell? _ _ (h i x hx j v hv))).trans (h i x hx j v hv)
theorem same_calls (g g' c c' : Nat) (l : List Blk) (w : World) (h : Rows4 w g l) (h' : Rows4 w g' l) (hc : l.length ≤ c) (hc' : l.length ≤ c') (hlen : l.length ≤ 4096) :
    Calls Try.prog 23 #[.slice (some ⟨g, 0, none⟩) l.length c, .slice (some ⟨g', 0, none⟩) l.length c'] w fun e w' => e = .returned (.bool true) ∧ ∃ n, w' = w.drewN n := by
  have hm : (l.map sOf).length = l.length := List.length_map ..
  have := shalelaw11_same.calls ((l.map sOf).length + 1) (some ⟨g, 0, none⟩) c (l.map sOf) (some ⟨g', 0, none⟩) c' (l.map sOf) true w (kc_of h hlen) (by omega) (kc_of h' hlen) (by omega) (same_f _ (by omega))
  rw [hm] at this
  exact this.mono fun e w' h => ⟨h.1, h.2.out⟩
end Go.Proofs.Ytmohijpkhmeibaa
/- alike of the law: the two books stand alike. -/
namespace Go.Proofs.Ytmohijpkhmeibaa
open Go.RowKit Go.Proofs
set_option linter.unusedVariables false
set_option linter.unusedSimpArgs false
set_option maxRecDepth 100000
theorem op_open {b : Bks} (h : WFB b) : ∃ (o : Int) (is : Bool),
    (∀ (w : World) (p q cap : Nat), IsB w p q cap b → Calls Try.prog 19 #[.pointer (some ⟨p, 0, none⟩)] w fun e w' => e = .returned (.tuple #[.int .i64 o, .bool is]) ∧ w = w') ∧
    (∀ (w : World) (p q t cap : Nat), IsR w p q t cap b → Calls Try.prog 51 #[.pointer (some ⟨p, 0, none⟩)] w fun e w' => e = .returned (.tuple #[.int .i64 o, .bool is]) ∧ w = w') := by
  rcases h.open_cases with ⟨h1, h2, h3⟩ | ⟨k, x, h1, hx, hs, hb, h5, hk⟩
  · refine ⟨0, false, fun w p q cap hI => ?_, fun w p q t cap hI => ?_⟩
    · have := open_calls p q cap b w hI
      rw [if_pos h1, h1] at this
      exact this
    · have := ropen_calls p q t cap b _ w hI h3.1 h3.2.1 h3.2.2
      rw [if_neg (Nat.lt_irrefl _), show decide (b.all.length < b.all.length) = false from decide_eq_false (Nat.lt_irrefl _)] at this
      exact this
  · refine ⟨(k : Int), true, fun w p q cap hI => ?_, fun w p q t cap hI => ?_⟩
    · have := open_calls p q cap b w hI
      rw [if_neg (by omega), h1, show ((k : Int) != -1) = true from bne_iff_ne.2 (by omega)] at this
      exact this
    · have := ropen_calls p q t cap b _ w hI h5.1 h5.2.1 h5.2.2
      rw [if_pos hk, show decide (k < b.all.length) = true from decide_eq_true hk] at this
      exact this
section
variable {w0 W W' : World} {p q cap p' q' t' cap' : Nat} {b : Bks}
theorem as_step2 {w : World} (h : Duo w0 p q cap p' q' t' cap' b b W) (h0 : Below w.heap.size w W) (hb : Below W.heap.size W W') :
    W'.cell? ⟨p', 1, none⟩ = some (.slice (some ⟨q', 0, none⟩) b.all.length cap') ∧ W'.cell? ⟨p', 3, none⟩ = some (.int .i64 b.cursor) ∧ Duo w0 p q cap p' q' t' cap' b b W' ∧ Below w.heap.size w W' :=
  ⟨(h.of_below hb).isR.c1, (h.of_below hb).isR.c3, h.of_below hb, h0.trans (hb.mono h0.size)⟩
end
/-- Good, Near, Logged, Cursor, List of the program's book leave all as it was; so do the document's. -/
theorem list_shape (p q cap : Nat) (b : Bks) (w : World) (hI : IsB w p q cap b) :
    Calls Try.prog 16 #[.pointer (some ⟨p, 0, none⟩)] w fun e w' => ∃ g c, e = .returned (.slice (some ⟨g, 0, none⟩) b.all.length c) ∧ w.heap.size ≤ g ∧ Rows4 w' g b.all ∧ b.all.length ≤ c ∧ Below w.heap.size w w' := by
  refine (list_calls p q cap b w hI).mono ?_
  rintro e w' ⟨v, rfl, h1, h2⟩
  obtain ⟨g, c, rfl, h3, h4, h5⟩ := owns_blks h1 hI.pos
  exact ⟨g, c, rfl, h3, h4, h5, h2⟩
theorem logged_both (p q cap : Nat) (b : Bks) (w : World) (hI : IsB w p q cap b) :
    Calls Try.prog 13 #[.pointer (some ⟨p, 0, none⟩)] w fun e w' => e = .returned (.int .i64 (logN b.all)) ∧ Below w.heap.size w w' := by
  have := logged_calls p q cap b w hI
  rw [logIdx_logN] at this
  exact this
theorem same_below (g q' c p' t' cap' : Nat) (b : Bks) (w : World) (h : Rows4 w g b.all) (hI : IsR w p' q' t' cap' b) (hc : b.all.length ≤ c) (hc' : b.all.length ≤ cap') :
    Calls Try.prog 23 #[.slice (some ⟨g, 0, none⟩) b.all.length c, .slice (some ⟨q', 0, none⟩) b.all.length cap'] w fun e w' => e = .returned (.bool true) ∧ Below w.heap.size w w' := by
  refine (same_calls g q' c cap' b.all w h hI.rows4 hc hc' hI.le).mono ?_
  rintro e w' ⟨rfl, n, rfl⟩
  exact ⟨rfl, below_drewN' _ _⟩
set_option maxHeartbeats 8000000 in
theorem alike_calls (w0 : World) (p q cap p' q' t' cap' : Nat) (b : Bks) (w : World) (hD : Duo w0 p q cap p' q' t' cap' b b w) (hw : WFB b) (hcap : b.all.length ≤ cap') :
    Calls Try.prog 29 #[.pointer (some ⟨p, 0, none⟩), .pointer (some ⟨p', 0, none⟩)] w fun e w' => e = .returned (.bool true) ∧ Duo w0 p q cap p' q' t' cap' b b w' ∧ Below w.heap.size w w' := by
  obtain ⟨o, is, hoB, hoR⟩ := op_open hw
  obtain ⟨v, hd, ok, _, hB, hR⟩ := op_oldest hw
  have HD := Lib.hid hD
  have HoB := Lib.hid (hoB w p q cap hD.isB)
  have HoR := Lib.hid (hoR w p' q' t' cap' hD.isR)
  have HB := Lib.hid (hB w p q cap hD.isB)
  have HR := Lib.hid hR
  clear hD hoB hoR hB hR hw
  go_enter Try.func29, Try.ntmps29
  go_wp2_with fail
  refine HoB.out.mono ?_
  rintro e w' ⟨rfl, rfl⟩
  go_wp2_with fail
  refine HoR.out.mono ?_
  rintro e w' ⟨rfl, rfl⟩
  go_wp2_with fail
  refine HB.out.mono ?_
  rintro e w1 ⟨rfl, hb1⟩
  have HD1 := Lib.hid (HD.out.of_below hb1)
  have HB1 := Lib.hid hb1
  clear hb1
  go_wp2_with fail
  refine (HR.out w1 p' q' t' cap' HD1.out.isR).mono ?_
  rintro e w2 ⟨rfl, n2, hw2⟩
  have HD2 := Lib.hid (show Duo w0 p q cap p' q' t' cap' b b w2 by rw [hw2]; exact HD1.out.drewN n2)
  have HB2 := Lib.hid (show Below w.heap.size w w2 by rw [hw2]; exact pw_below_drewN' HB1.out n2)
  clear hw2 HR HB HoB HoR HD1 HB1 HD
  go_wp2_with fail
  go_region_held3 (fun W => W.cell? ⟨p', 1, none⟩ = some (.slice (some ⟨q', 0, none⟩) b.all.length cap') ∧ W.cell? ⟨p', 3, none⟩ = some (.int .i64 b.cursor) ∧ Duo w0 p q cap p' q' t' cap' b b W ∧ Below w.heap.size w W)
    (first
      | exact as_step2 HD2.out HB2.out ((Below.refl _ _).drew)
      | (go_split_ands; exact as_step2 (by assumption) (by assumption) (by assumption))
      | (go_split_ands; exact as_step2 (by assumption) (by assumption) (Below.refl _ _)))
    (first
      | (go_at_call 16; refine (list_shape p q cap b _ (by go_split_ands; exact Duo.isB (by assumption))).mono ?_; rintro e wa ⟨ga, ca, rfl, hga, hra, hca, hba⟩)
      | (go_at_call 23; refine (same_below _ q' _ p' t' cap' b _ (by go_split_ands; exact hra) (by go_split_ands; exact Duo.isR (by assumption)) hca hcap).mono ?_; rintro e wb ⟨rfl, hbb⟩)
      | (go_at_call 11; refine (good_calls p q cap b _ (by go_split_ands; exact Duo.isB (by assumption))).mono ?_; rintro e wc ⟨rfl, hbc⟩)
      | (go_at_call 53; refine (rgood_calls p' q' t' cap' b _ (by go_split_ands; exact Duo.isR (by assumption))).mono ?_; rintro e wd ⟨rfl, hbd⟩)
      | (go_at_call 20; refine (near_calls p q cap b _ (by go_split_ands; exact Duo.isB (by assumption))).mono ?_; rintro e we ⟨rfl, hbe⟩)
      | (go_at_call 54; refine (rnear_calls p' q' t' cap' b _ (by go_split_ands; exact Duo.isR (by assumption))).mono ?_; rintro e wf ⟨rfl, rfl⟩)
      | (go_at_call 13; refine (logged_both p q cap b _ (by go_split_ands; exact Duo.isB (by assumption))).mono ?_; rintro e wg ⟨rfl, hbg⟩)
      | (go_at_call 14; refine (rloggedN_calls p' q' t' cap' b _ (by go_split_ands; exact Duo.isR (by assumption))).mono ?_; rintro e wh ⟨rfl, rfl⟩)
      | (go_at_call 9; refine (cursor_calls p q cap b _ (by go_split_ands; exact Duo.isB (by assumption))).mono ?_; rintro e wi ⟨rfl, rfl⟩))
  all_goals
    rename_i hHeld
    obtain ⟨_, _, hDD, hBB⟩ := hHeld
    go_wp2
    go_ret
    exact ⟨rfl, hDD, hBB⟩
end Go.Proofs.Ytmohijpkhmeibaa
