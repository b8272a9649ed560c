/- The law PathJoins' walk. -/
import Derived.Test.YtbinnghemkppdaaJoinPure
import Derived.Lib.Hide
namespace Go.Proofs.Ytbinnghemkppdaa.PHJ
open Go.RowKit Go.Proofs.Ytbinnghemkppdaa Go.Proofs.YtbinnghemkppdaaW.PrintWords Go.Proofs.YtbinnghemkppdaaW.PrintLast
set_option linter.unusedVariables false
set_option linter.unusedSimpArgs false

theorem info9 : (Try.prog.info? 9).map (fun i => (i.zero, i.size, i.bytes)) = some (some (.string ⟨#[]⟩), 1, 16) := by kernel_rfl
theorem own_empty {W : World} {g base e : Nat} (h : W.heap[g]? = some (.cells #[] e (0, 0))) (hb : base ≤ g) : W.ownsRow base e 1 (.slice (some ⟨g, 0, none⟩) 0 0) 0 [] :=
  ⟨rfl, .inr ⟨g, 0, #[], rfl, hb, h, Nat.le_refl _, by decide, rfl, rfl⟩⟩
theorem bel_n (w : World) (n : Nat) : Below w.heap.size w (w.drewN n) := ⟨rfl, rfl, rfl, Nat.le_refl _, fun _ _ => rfl⟩
theorem new_at (w : World) (o : Obj) (n : Nat) : ((w.alloc o).drewN n).heap[w.heap.size]? = some o := by
  show (w.heap.push o)[w.heap.size]? = _
  simp

theorem own_below {w w1 : World} {base : Nat} {e : TypeId} {size n : Nat} {v : Value} {xs : List Value} (h : w.ownsRow base e size v n xs) (hb : Below w.heap.size w w1) : w1.ownsRow base e size v n xs :=
  own_move h (fun k hk => hb.block k (own_lt h k hk))
theorem reads_pre {w : World} {A : Option Addr} {n : Nat} {xs ys : List ByteArray} (h : ReadsOf Value.string ByteArray.empty w A n (xs ++ ys)) : Kd.C Kd.string w A xs.length xs := by
  refine Kd.C_of_reads (enc := Value.string) (d := ByteArray.empty) (h1 := fun _ => rfl) ⟨rfl, ?_, fun hn => ?_⟩
  · have h1 := h.1; have h2 := h.2.1; rw [List.length_append] at h1; omega
  · have h1 := h.1
    rw [List.length_append] at h1
    obtain ⟨ad, e, hc⟩ := h.2.2 (by omega)
    refine ⟨ad, e, fun j hj => ?_⟩
    have := hc j (by omega)
    rw [List.getD_eq_getElem?_getD, List.getElem?_append_left hj, ← List.getD_eq_getElem?_getD] at this
    exact this
/-- l with its first k texts taken over from m. -/
def mix (m l : List ByteArray) (k : Nat) : List ByteArray := m.take k ++ l.drop k
theorem mix_len {m l : List ByteArray} {k : Nat} (h1 : k ≤ m.length) (h2 : k ≤ l.length) : (mix m l k).length = l.length := by
  unfold mix; rw [List.length_append, List.length_take, List.length_drop]; omega
theorem mix_set {m l : List ByteArray} {k : Nat} (h1 : k < m.length) (h2 : k < l.length) (t : List ByteArray) : (mix m l k ++ t).set k (rdOf ByteArray.empty m (k : Int)) = mix m l (k + 1) ++ t := by
  rw [List.set_append_left _ _ (by rw [mix_len (by omega) (by omega)]; exact h2)]
  congr 1
  unfold mix
  rw [rd_take h1, List.set_append_right _ _ (by rw [List.length_take]; omega), List.length_take, Nat.min_eq_left (by omega), Nat.sub_self]
  have e : l.drop k = l[k] :: l.drop (k + 1) := List.drop_eq_getElem_cons h2
  rw [e, List.set_cons_zero, List.append_assoc]
  rfl
theorem same_from (l : List ByteArray) (hl : l.length ≤ 8796093022208) (d : Nat) : ∀ (k i : Nat), i + d = l.length → d < k → shalelaw16_same.l0 k l l i = some true := by
  induction d with
  | zero =>
    intro k i hi hk
    obtain ⟨k, rfl⟩ : ∃ m, k = m + 1 := ⟨k - 1, by omega⟩
    simp only [shalelaw16_same.l0]
    rw [if_neg (by omega)]
  | succ d ih =>
    intro k i hi hk
    obtain ⟨k, rfl⟩ : ∃ m, k = m + 1 := ⟨k - 1, by omega⟩
    simp only [shalelaw16_same.l0]
    have e1 : wrap64 ((i : Int) + 1) = ((i + 1 : Nat) : Int) := by unfold wrap64; omega
    rw [if_pos (by omega), if_pos (by omega), if_pos (by omega), e1, if_pos trivial]
    exact ih k (i + 1) (by omega) (by omega)
theorem same_self (l : List ByteArray) (hl : l.length ≤ 8796093022208) : shalelaw16_same.f (l.length + 1) l l = some true := by
  unfold shalelaw16_same.f
  rw [if_pos rfl]
  exact same_from l hl l.length (l.length + 1) 0 (by omega) (by omega)

set_option maxHeartbeats 2000000 in
set_option maxRecDepth 100000 in
theorem joins_calls (A0 A1 : Option Addr) (c0 c1 : Nat) (l m : List ByteArray) (w : World) (h0 : Kd.C Kd.string w A0 l.length l) (hc0 : l.length ≤ c0) (h1 : Kd.C Kd.string w A1 m.length m) (hc1 : m.length ≤ c1) (hl : l.length ≤ 8796093022208) (hl16 : l.length * 16 ≤ 140737488351232) :
    Calls Try.prog 3 #[.slice A0 l.length c0, .slice A1 m.length c1] w fun e w' => e = .returned (.bool true) ∧ Below w.heap.size w w' := by
  have H0 := Lib.hid h0
  have H1 := Lib.hid h1
  clear h0 h1
  go_enter Try.func3, Try.ntmps3
  go_wp2_with fail
  refine (shaleref16_Join.calls (l.length + 67) A0 c0 l (JR l).1 (JR l).2 _ H0.out hc0 (join_ref l hl)).mono ?_
  rintro e w1 ⟨rfl, ⟨n1, rfl⟩⟩
  go_wp2_with (at_builtin; refine print_append_row_of (w0 := w) Value.string ByteArray.empty w.heap.size rfl (.tmp 19) (.tmp 20) 22 9 (.string ⟨#[]⟩) 16 rfl Try.underlying22 info9 rfl (by decide) (fun _ => rfl) _ [] l A0 l.length c0 rfl rfl (own_empty (new_at w _ n1) (Nat.le_refl _)) ?c2 ?c3 ?c4 ?c5 ?_)
  case c2 => exact (Kd.reads_of_C (enc := Value.string) (d := ByteArray.empty) (h1 := fun _ => rfl) H0.out).below ((bel_n w n1).alloc (Nat.le_refl _) _)
  case c3 => exact (bel_n w n1).alloc (Nat.le_refl _) _
  case c4 => simp
  case c5 => simp; omega
  intro v1 w2 hown hB2 hg2 _
  have hB2s := hB2.size
  have HB2 := Lib.hid hB2
  have HO := Lib.hid hown
  clear hB2 hown hg2
  have hm12 : ReadsOf Value.string ByteArray.empty (w2.alloc (.cells #[.string ⟨#[109, 49]⟩, .string ⟨#[109, 50]⟩] 9)) (some ⟨w2.heap.size, 0, none⟩) 2 [⟨#[109, 49]⟩, ⟨#[109, 50]⟩] := by
    refine ⟨rfl, by decide, fun _ => ⟨_, rfl, fun j hj => ?_⟩⟩
    match j, hj with
    | 0, _ => simp [Addr.add, World.cell?_alloc_at]
    | 1, _ => simp [Addr.add, World.cell?_alloc_at]
  have HM := Lib.hid hm12
  clear hm12
  go_wp2_with (at_builtin; refine print_append_row_of (w0 := w) Value.string ByteArray.empty w.heap.size rfl (.tmp 21) (.tmp 22) 22 9 (.string ⟨#[]⟩) 16 rfl Try.underlying22 info9 rfl (by decide) (fun _ => rfl) _ l [⟨#[109, 49]⟩, ⟨#[109, 50]⟩] (some ⟨w2.heap.size, 0, none⟩) 2 2 rfl rfl (HO.out.alloc _) HM.out (HB2.out.alloc hB2s _) ?c4 ?c5 ?_)
  case c4 => simp; omega
  case c5 => omega
  intro v2 w3 hown3 hB3 hg3 _
  clear HO HM
  obtain ⟨g, cap, hv, hg, hcap⟩ : ∃ g cap, v2 = .slice (some ⟨g, 0, none⟩) (l.length + 2) cap ∧ w.heap.size ≤ g ∧ l.length + 2 ≤ cap := by
    rcases hown3.2 with ⟨_, h⟩ | ⟨g, cap, cur, hv, hg, _, hc, _⟩
    · omega
    · exact ⟨g, cap, hv, hg, hc⟩
  rw [hv] at hown3 ⊢
  have HO := Lib.hid hown3
  have HB3 := Lib.hid hB3
  clear hown3 hB3 hg3 hv
  go_wp2_with fail
  refine (path_Join.calls (l.length + 1) (some ⟨g, 0, none⟩) cap l (JR l).1 (JR l).2 _ (reads_pre (own_reads_of' HO.out)) (by omega) (join_path l hl)).mono ?_
  rintro e w4 ⟨rfl, hb4⟩
  have HO4 := Lib.hid (own_below HO.out hb4)
  have HB4 := Lib.hid (HB3.out.trans (hb4.mono HB3.out.size))
  clear hb4 HO HB3
  have k0 : w4.cell? ⟨g, l.length, none⟩ = some (.string ⟨#[109, 49]⟩) := by
    have := (own_at_of (d := ByteArray.empty) HO4.out (l.length : Int) (by omega) (by omega)).1
    rw [Int.toNat_natCast] at this
    rw [this]
    show some (Value.string ((l ++ _).getD _ _)) = _
    rw [Int.toNat_natCast, List.getD_eq_getElem?_getD, List.getElem?_append_right (Nat.le_refl _), Nat.sub_self]
    rfl
  have k1 : w4.cell? ⟨g, l.length + 1, none⟩ = some (.string ⟨#[109, 50]⟩) := by
    have := (own_at_of (d := ByteArray.empty) HO4.out ((l.length + 1 : Nat) : Int) (by omega) (by omega)).1
    rw [Int.toNat_natCast] at this
    rw [this]
    show some (Value.string ((l ++ _).getD _ _)) = _
    rw [Int.toNat_natCast, List.getD_eq_getElem?_getD, List.getElem?_append_right (by omega), show l.length + 1 - l.length = 1 by omega]
    rfl
  go_wp2_with fail
  refine (shalelaw16_same.calls (l.length + 1) (some ⟨g, 0, none⟩) cap l A0 c0 l true _ (reads_pre (own_reads_of' HO4.out)) (by omega) (Kd.C_below (d := Kd.string) H0.out HB4.out) hc0 (same_self l hl)).mono ?_
  rintro e w5 ⟨rfl, ⟨n5, rfl⟩⟩
  go_wp2_with fail
  clear k0 k1
  go_loopw [11] (fun i wr => ∃ k : Nat, k ≤ l.length ∧ k ≤ m.length ∧ i = .int .i64 k ∧ Hid (wr.ownsRow w.heap.size 9 1 (.slice (some ⟨g, 0, none⟩) (l.length + 2) cap) (l.length + 2) (encs Value.string (mix m l k ++ [⟨#[109, 49]⟩, ⟨#[109, 50]⟩]))) ∧ Hid (Below w.heap.size w wr)) (fun i _ => l.length - (intOf i).toNat)
  case atStart => exact ⟨0, by omega, by omega, rfl, Lib.hid (own_below HO4.out (bel_n w4 n5)), Lib.hid (HB4.out.trans ((bel_n w4 n5).mono HB4.out.size))⟩
  case round =>
    clear HO4 HB4
    obtain ⟨k, hkl, hkm, rfl, HO, HB⟩ := hrel
    by_cases hlt : k < l.length ∧ k < m.length
    · have g1 : decide (k < l.length) = true := decide_eq_true hlt.1
      have g2 : decide (k < m.length) = true := decide_eq_true hlt.2
      obtain ⟨ad, rfl, hc⟩ := Kd.at_string (Kd.C_below (d := Kd.string) H1.out HB.out) (k : Int) (by omega) (by omega)
      rw [Int.toNat_natCast] at hc
      obtain ⟨hs, hf⟩ := own_at_of (d := ByteArray.empty) HO.out (k : Int) (by omega) (by omega)
      rw [Int.toNat_natCast] at hs hf
      have i1 : k < l.length := hlt.1
      have i2 : k < m.length := hlt.2
      have HST := Lib.hid (own_store_of HO.out (k : Int) (rdOf ByteArray.empty m (k : Int))).1
      have hbs := HB.out.size
      clear hlt
      go_wp2
      go_roundw
      case rel =>
        refine ⟨k + 1, by omega, by omega, by go_num, ?_, Lib.hid (HB.out.setCell (p := ⟨g, k, none⟩) hg _)⟩
        have := HST.out
        rw [Int.toNat_natCast, mix_set i2 i1] at this
        exact Lib.hid this
      case measure => simp [intOf]; omega
    · have hml := mix_len hkm hkl
      have g1 : (if decide (k < l.length) then decide (k < m.length) else false) = false := by
        by_cases h1 : k < l.length
        · rw [decide_eq_true h1, decide_eq_false (fun h2 => hlt ⟨h1, h2⟩)]; rfl
        · rw [decide_eq_false h1]; rfl
      have HR : Hid (Kd.C Kd.string wr (some ⟨g, 0, none⟩) (mix m l k).length (mix m l k)) := Lib.hid (reads_pre (own_reads_of' HO.out))
      have HRd : Hid (ReadsOf Value.string ByteArray.empty wr (some ⟨g, 0, none⟩) l.length (mix m l k)) := Lib.hid (by rw [← hml]; exact Kd.reads_of_C (enc := Value.string) (d := ByteArray.empty) (h1 := fun _ => rfl) HR.out)
      have HL : Hid (∃ c, c = mix m l k) := Lib.hid ⟨_, rfl⟩
      have hbs := HB.out.size
      obtain ⟨c, hc⟩ : ∃ c, c = mix m l k := ⟨_, rfl⟩
      rw [← hc] at HR HRd hml
      have HML := Lib.hid hml
      clear hlt HO HL hc hml
      have g2 : k < l.length → decide (k < m.length) = false := by
        intro h1
        rw [decide_eq_true h1, if_pos rfl] at g1
        exact g1
      have G2 := Lib.hid g2
      clear g1 g2
      have hor : decide (k < l.length) = false ∨ decide (k < l.length) = true ∧ decide (k < m.length) = false := by
        by_cases h1 : k < l.length
        · exact .inr ⟨decide_eq_true h1, G2.out h1⟩
        · exact .inl (decide_eq_false h1)
      clear G2
      rcases hor with h3 | ⟨h3, h2⟩
      all_goals
        go_wp2_with (at_builtin; refine print_append_row_of (w0 := w) Value.string ByteArray.empty w.heap.size rfl (.tmp 83) (.tmp 84) 22 9 (.string ⟨#[]⟩) 16 rfl Try.underlying22 info9 rfl (by decide) (fun _ => rfl) _ [] c (some ⟨g, 0, none⟩) l.length cap rfl rfl (own_empty (new_at wr _ 0) (by omega)) ?c2 ?c3 ?c4 ?c5 ?_)
        case c2 => exact HRd.out.below ((Below.refl _ _).alloc (Nat.le_refl _) _)
        case c3 => exact HB.out.alloc hbs _
        case c4 => simp; omega
        case c5 => simp; omega
        intro v6 w6 hown6 hB6 hg6 _
        have hst : Hid (Below wr.heap.size wr w6) := Lib.hid (((Below.refl wr.heap.size wr).alloc (Nat.le_refl _) _).grown hg6 (by simp) (fun k e => by simp [Value.ownBlock] at e; omega))
        obtain ⟨A6, c6, hv6, hl6, hr6⟩ := own_reads_of_le (d := ByteArray.empty) hown6
        rw [hv6]
        have HR6 : Hid (Kd.C Kd.string w6 A6 c.length c) := Lib.hid (Kd.C_of_reads (enc := Value.string) (d := ByteArray.empty) (h1 := fun _ => rfl) hr6)
        have HB6 := Lib.hid hB6
        have hcl : c.length ≤ 8796093022208 := by rw [HML.out]; exact hl
        have HCL := Lib.hid hcl
        clear hown6 hB6 hg6 hr6 hv6 hcl
        go_wp2_with fail
        refine (shaleref16_Join.calls (c.length + 67) A6 c6 c (JR c).1 (JR c).2 _ HR6.out hl6 (join_ref c HCL.out)).mono ?_
        rintro e w7 ⟨rfl, ⟨n7, rfl⟩⟩
        go_wp2_with fail
        have cl := path_Join.calls (c.length + 1) (some ⟨g, 0, none⟩) cap c (JR c).1 (JR c).2 (w6.drewN n7) (Kd.C_below (d := Kd.string) HR.out (hst.out.trans ((bel_n w6 n7).mono hst.out.size))) (by rw [HML.out]; omega) (join_path c HCL.out)
        rw [HML.out] at cl
        refine cl.mono ?_
        rintro e w8 ⟨rfl, hb8⟩
        clear cl
        go_wp2_with fail
        go_ret
        exact ⟨rfl, (HB6.out.trans ((bel_n w6 n7).mono HB6.out.size)).trans (hb8.mono (Nat.le_trans HB6.out.size (bel_n w6 n7).size))⟩

theorem joins_row {w : World} (A0 : Option Addr) (c0 : Nat) (l : List ByteArray) (h0 : Kd.C Kd.string w A0 l.length l) (hc0 : l.length ≤ c0) (hl16 : l.length * 16 ≤ 140737488351232)
    (A1 : Option Addr) (c1 : Nat) (m : List ByteArray) (h1 : Kd.C Kd.string w A1 m.length m) (hc1 : m.length ≤ c1) (w1 : m.length * 16 ≤ 140737488351232) :
    Calls Try.prog 3 #[.slice A0 l.length c0, .slice A1 m.length c1] w fun e w' => e = .returned (.bool true) ∧ Below w.heap.size w w' :=
  joins_calls A0 A1 c0 c1 l m w h0 hc0 h1 hc1 (by omega) hl16
end Go.Proofs.Ytbinnghemkppdaa.PHJ
