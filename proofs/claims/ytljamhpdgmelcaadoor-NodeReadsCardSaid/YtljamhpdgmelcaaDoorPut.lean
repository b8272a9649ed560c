/- words.Put: a number's bytes, the lowest first, stored into a row of the call's own. -/
import Derived.Test.YtljamhpdgmelcaaDoorRowsOwn
import Derived.Deep.LoopGhost
namespace Go.Proofs.YtljamhpdgmelcaaDoor
open Go.RowKit Go.Proofs Go.Proofs.YtljamhpdgmelcaaDoorW.PrintWords
set_option linter.unusedVariables false
set_option linter.unusedSimpArgs false
attribute [local go_sem] Oper.semAt_some

/-- The first n bytes of v, the lowest first, laid from at on. -/
def setLE (L : List Int) (at_ v : Nat) : Nat → List Int
  | 0 => L
  | n + 1 => (setLE L at_ v n).set (at_ + n) ((v / 2 ^ (8 * n) % 256 : Nat) : Int)
theorem setLE_len (L : List Int) (at_ v : Nat) : ∀ n, (setLE L at_ v n).length = L.length
  | 0 => rfl
  | n + 1 => by rw [setLE, List.length_set, setLE_len L at_ v n]

theorem SRow.cell2 {W : World} {base g c n : Nat} {L : List Int} (h : SRow W base (.slice (some ⟨g, 0, none⟩) n c) L) {k : Nat} {x : Int} (hx : L[k]? = some x) : W.cell? ⟨g, k, none⟩ = some (.int .u8 x) ∧ W.frozen? ⟨g, k, none⟩ = false := by
  obtain ⟨g', c', e, h1, h2⟩ := h.cell hx
  simp only [Value.slice.injEq, Option.some.injEq, Addr.mk.injEq] at e
  obtain ⟨⟨rfl, _⟩, _⟩ := e
  exact ⟨h1, h2⟩
theorem SRow.store2 {W : World} {base g c n : Nat} {L : List Int} (h : SRow W base (.slice (some ⟨g, 0, none⟩) n c) L) (k : Nat) (x : Int) :
    SRow (W.setCell ⟨g, k, none⟩ (.int .u8 x)) base (.slice (some ⟨g, 0, none⟩) n c) (L.set k x) := by
  obtain ⟨g', c', e⟩ := h.shape
  simp only [Value.slice.injEq] at e
  obtain ⟨_, rfl, _⟩ := e
  exact h.store k x
theorem grown_set {w W : World} {g : Nat} (h : w.grownBy W (some g)) (k : Nat) (v : Value) : w.grownBy (W.setCell ⟨g, k, none⟩ v) (some g) := by
  obtain ⟨h1, h2, h3, h4, h5⟩ := h
  refine ⟨?_, ?_, ?_, ?_, fun b hb hne => (heap_setCell_other _ _ _ _ (fun e => hne (congrArg some e))).trans (h5 b hb hne)⟩
  all_goals simpa using (by assumption)
theorem bitLen_le : ∀ k v : Nat, k ≤ 64 → v < 2 ^ k → Lib.bitLen v ≤ k
  | 0, v, _, h => by
    obtain rfl : v = 0 := by simpa using h
    exact Nat.le_of_eq (by decide)
  | k + 1, v, hk, h => by
    by_cases h0 : v = 0
    · subst h0; exact Nat.le_trans (Nat.le_of_eq (show Lib.bitLen 0 = 0 by decide)) (Nat.zero_le _)
    · rw [Lib.bitLen_half v h0 (Nat.lt_of_lt_of_le h (Nat.pow_le_pow_right (by decide) hk))]
      have := bitLen_le k (v / 2) (by omega) (by rw [Nat.pow_succ] at h; omega)
      omega

set_option maxHeartbeats 2000000 in
theorem put_calls (g c at_ size v : Nat) (L : List Int) (w : World) (base : Nat) (h : SRow w base (.slice (some ⟨g, 0, none⟩) L.length c) L) (hs1 : 1 ≤ size) (hs8 : size ≤ 8) (hv : v < 2 ^ (8 * size)) (hat : at_ + size ≤ L.length) (hL : L.length ≤ 1024) :
    Calls Tryd.prog 23 #[.slice (some ⟨g, 0, none⟩) L.length c, .int .i64 at_, .int .i64 size, .int .u64 v] w fun e w' => e = .returned (.int .i64 0) ∧ SRow w' base (.slice (some ⟨g, 0, none⟩) L.length c) (setLE L at_ v size) ∧ w.grownBy w' (some g) := by
  have HV := Lib.hid hv
  have HR := Lib.hid h
  have hv64 : v < 18446744073709551616 := by
    have h64 : 8 * size ≤ 64 := by omega
    exact Nat.lt_of_lt_of_le hv (Nat.le_trans (Nat.pow_le_pow_right (by decide) h64) (by decide))
  have hbl : ¬ (8 * (size : Int) < (Lib.bitLen v : Int)) := by have := bitLen_le (8 * size) v (by omega) hv; omega
  obtain ⟨n, hn⟩ : ∃ n, n = L.length := ⟨_, rfl⟩
  have HN := Lib.hid hn
  rw [← hn] at hat hL ⊢
  clear hv h hn
  go_enter Tryd.func23, Tryd.ntmps23
  go_wp2_with (go_at_call 31; refine (Tryd.bits_Len64 _ _ (by omega) (by omega)).mono ?_; rintro e w' ⟨rfl, rfl⟩)
  go_loopg [34] size (fun gg x34 wr => ∃ i, i ≤ size ∧ size - i ≤ gg ∧ x34 = .int .i64 i ∧ Aside (SRow wr base (.slice (some ⟨g, 0, none⟩) L.length c) (setLE L at_ v i)) ∧ Aside (w'.grownBy wr (some g)))
  case atStart => exact ⟨0, Nat.zero_le _, by omega, rfl, HR.out, ⟨rfl, rfl, rfl, Nat.le_refl _, fun k _ _ => rfl⟩⟩
  case round =>
    obtain ⟨i, hi, hg, rfl, AR, AG⟩ := hrel
    by_cases hlt : i < size
    · have hltz : (i : Int) < (size : Int) := by omega
      have hi8 : i < 8 := by omega
      have hx : ∃ x, (setLE L at_ v i)[at_ + i]? = some x := ⟨_, List.getElem?_eq_getElem (by rw [setLE_len, ← HN.out]; omega)⟩
      obtain ⟨x, hx⟩ := hx
      have hcell := AR.out.cell2 hx
      obtain ⟨hcx, hfx⟩ := hcell
      clear hx
      go_wp2
      go_roundg (size - (i + 1))
      case measure => omega
      case rel =>
        refine ⟨i + 1, by omega, by omega, by go_num, (show Aside _ from ?_), (show Aside _ from ?_)⟩
        · have e : ((v : Int) / 2 ^ (8 * i) % 256) = ((v / 2 ^ (8 * i) % 256 : Nat) : Int) := by simp
          rw [e, setLE]
          exact AR.out.store2 _ _
        · exact grown_set AG.out _ _
    · have hltz : ¬ (i : Int) < (size : Int) := by omega
      obtain rfl : i = size := by omega
      go_wp2
      go_ret
      exact ⟨rfl, HN.out ▸ AR.out, AG.out⟩
end Go.Proofs.YtljamhpdgmelcaaDoor
