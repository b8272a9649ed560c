/- text, and words.Join of three rows. -/
import Derived.Test.YtljamhpdgmelcaaDoorPut
import Derived.Test.YtljamhpdgmelcaaDoorPHDNodePacksx1
namespace Go.Proofs.YtljamhpdgmelcaaDoor
open Go.RowKit Go.Proofs Go.Proofs.YtljamhpdgmelcaaDoorW.PrintWords Go.Proofs.YtljamhpdgmelcaaDoor.PHDNodePacks
set_option linter.unusedVariables false
set_option linter.unusedSimpArgs false

theorem SRow.of_R {W : World} {base : Nat} {ok : Nat → Prop} {v : Value} {L : List Int} (h : Kd.R (Kd.int .u8) 5 W base ok v L) : SRow W base v L := SRow.of_own (Kd.own_of_R h)
theorem SRow.below {W W' : World} {base B : Nat} {v : Value} {L : List Int} (h : SRow W base v L) (hB : W.heap.size ≤ B) (hb : Below B W W') : SRow W' base v L :=
  h.of_heap fun b hv => hb.block b (Nat.lt_of_lt_of_le (h.lt hv) hB)
theorem SRow.mono {W : World} {base base' : Nat} {v : Value} {L : List Int} (h : SRow W base v L) (hb : base' ≤ base) : SRow W base' v L :=
  h.imp id fun ⟨g, c, cur, hv, hg, r⟩ => ⟨g, c, cur, hv, Nat.le_trans hb hg, r⟩
theorem SRow.reads {W : World} {base c : Nat} {A : Option Addr} {L : List Int} (h : SRow W base (.slice A L.length c) L) (hl : L.length ≤ 1024) : Kd.C (Kd.int .u8) W A L.length L ∧ L.length ≤ c := by
  refine ⟨Kd.C_of_reads (d := (0 : Int)) ⟨rfl, by omega, fun h0 => ?_⟩, ?_⟩
  · obtain ⟨g, c', e, _, _⟩ := h.cell (List.getElem?_eq_getElem h0)
    simp only [Value.slice.injEq] at e
    obtain ⟨rfl, _, _⟩ := e
    refine ⟨⟨g, 0, none⟩, rfl, fun j hj => ?_⟩
    obtain ⟨g', c'', e', hc, _⟩ := h.cell (List.getElem?_eq_getElem hj)
    simp only [Value.slice.injEq, Option.some.injEq, Addr.mk.injEq] at e'
    obtain ⟨⟨rfl, _⟩, _⟩ := e'
    rw [Addr.add_lit, Nat.zero_add, hc, List.getD_eq_getElem?_getD, List.getElem?_eq_getElem hj]
    rfl
  · rcases h with ⟨e, rfl⟩ | ⟨g, c', cur, e, _, _, h1, _⟩
    · simp
    · simp only [Value.slice.injEq] at e
      obtain ⟨_, _, rfl⟩ := e
      exact h1

/-- A text with its length ahead. -/
def textL (s : ByteArray) : List Int := ((s.size : Int) % 256) :: bytesOf s
theorem bytesOf_len (s : ByteArray) : (bytesOf s).length = s.size := by simp [bytesOf]
theorem text_row (s : ByteArray) (h : s.size ≤ 1000) (w : World) : Calls Tryd.prog 25 #[.string s] w fun e w' => ∃ v, e = .returned v ∧ SRow w' w.heap.size v (textL s) ∧ Below w.heap.size w w' :=
  (node_text.calls s (textL s) w (by
    unfold node_text.f
    rw [Option.bind_some, if_pos (by show 1 + s.size < _; omega)]
    rfl)).mono fun e w' ⟨v, he, hr, hb⟩ => ⟨v, he, SRow.of_R hr, hb⟩
theorem join3_f (L0 L1 L2 : List Int) (h0 : L0.length ≤ 1000) (h1 : L1.length ≤ 1000) (h2 : L2.length ≤ 1000) : words_Join.f 4 [L0, L1, L2] = some (L0 ++ L1 ++ L2) := by
  have e0 : rd_L1 [L0, L1, L2] 0 = L0 := rfl
  have e1 : rd_L1 [L0, L1, L2] 1 = L1 := rfl
  have e2 : rd_L1 [L0, L1, L2] 2 = L2 := rfl
  have x1 : wrap64 (0 + 1) = 1 := by unfold wrap64; omega
  have x2 : wrap64 (1 + 1) = 2 := by unfold wrap64; omega
  have x3 : wrap64 (2 + 1) = 3 := by unfold wrap64; omega
  show words_Join.l0 4 [] [L0, L1, L2] 3 0 = _
  rw [words_Join.l0, if_pos (by simp), if_pos (by decide), if_pos (by simp), e0, if_pos (by simp; omega), x1]
  rw [words_Join.l0, if_pos (by simp), if_pos (by decide), if_pos (by simp), e1, if_pos (by simp; omega), x2]
  rw [words_Join.l0, if_pos (by simp), if_pos (by decide), if_pos (by simp), e2, if_pos (by simp; omega), x3]
  rw [words_Join.l0, if_neg (by decide)]
  simp
theorem join_row {W : World} {q b0 b1 b2 : Nat} {v0 v1 v2 : Value} {L0 L1 L2 : List Int} (hq : W.heap[q]? = some (.cells #[v0, v1, v2] 22 (0, 0))) (r0 : SRow W b0 v0 L0) (r1 : SRow W b1 v1 L1) (r2 : SRow W b2 v2 L2) (h0 : L0.length ≤ 1000) (h1 : L1.length ≤ 1000) (h2 : L2.length ≤ 1000) :
    Calls Tryd.prog 24 #[.slice (some ⟨q, 0, none⟩) 3 3] W fun e w' => ∃ v, e = .returned v ∧ SRow w' W.heap.size v (L0 ++ L1 ++ L2) ∧ Below W.heap.size W w' ∧ w'.ownsRow W.heap.size 5 1 v (L0 ++ L1 ++ L2).length (encs (Value.int .u8) (L0 ++ L1 ++ L2)) := by
  have one : ∀ {b : Nat} {v : Value} {L : List Int}, SRow W b v L → L.length ≤ 1000 → ∃ A c, [v] = [.slice A L.length c] ∧ L.length ≤ c ∧ Kd.C (Kd.int .u8) W A L.length L := fun h hl => by
    obtain ⟨A, c, rfl⟩ := h.shape
    obtain ⟨k1, k2⟩ := h.reads (by omega)
    exact ⟨A, c, rfl, k2, k1⟩
  have hC : Kd.C (Kd.slice 5 (Kd.int .u8)) W (some ⟨q, 0, none⟩) [L0, L1, L2].length [L0, L1, L2] := by
    refine ⟨rfl, by simp, fun _ => ⟨_, rfl, fun j p hj => ?_⟩⟩
    have cl : ∀ (j : Nat) (v : Value), #[v0, v1, v2][j]? = some v → W.cell? ((⟨q, 0, none⟩ : Addr).add (j * 1 + 0)) = some v := fun j v hv => by
      rw [Addr.add_lit]
      simp only [World.cell?, hq, Nat.mul_one, Nat.add_zero, Nat.zero_add]
      exact hv
    match j, hj with
    | 0, hj => cases hj; exact ⟨[v0], rfl, one r0 h0, fun i u hi => by match i, hi with | 0, hi => cases hi; exact cl 0 _ rfl | i + 1, hi => simp at hi⟩
    | 1, hj => cases hj; exact ⟨[v1], rfl, one r1 h1, fun i u hi => by match i, hi with | 0, hi => cases hi; exact cl 1 _ rfl | i + 1, hi => simp at hi⟩
    | 2, hj => cases hj; exact ⟨[v2], rfl, one r2 h2, fun i u hi => by match i, hi with | 0, hi => cases hi; exact cl 2 _ rfl | i + 1, hi => simp at hi⟩
    | j + 3, hj => simp at hj
  exact (words_Join.calls 4 (some ⟨q, 0, none⟩) 3 [L0, L1, L2] _ W hC (by simp) (join3_f L0 L1 L2 h0 h1 h2)).mono fun e w' ⟨v, he, hr, hb⟩ => ⟨v, he, SRow.of_R hr, hb, Kd.own_of_R hr⟩
end Go.Proofs.YtljamhpdgmelcaaDoor
