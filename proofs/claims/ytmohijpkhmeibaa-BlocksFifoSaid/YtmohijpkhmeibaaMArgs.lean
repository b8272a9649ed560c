/- The arguments of the laws of blocks: a geometry, a list of blocks. -/
import Derived.Test.YtmohijpkhmeibaaRows
import Derived.Test.YtmohijpkhmeibaaPBlocksRoundx0
import Derived.ProofKit
import Derived.SliceStrings
import Derived.SizedLaws
import Derived.DataReads
import Derived.Deep.Slices
import Derived.Lib.SmallJoins
import Derived.Test.YtmohijpkhmeibaaMDo
namespace Go.Proofs.Ytmohijpkhmeibaa
open Go.Joins Go.ChangeShapes Go.WideShapes Go.RowKit Go.Proofs.YtmohijpkhmeibaaW.PrintWords Go.Deep
open PBlocksRound
set_option linter.unusedVariables false
set_option linter.unusedSimpArgs false
set_option maxRecDepth 100000
local instance : Inhabited S34 := ⟨z34⟩
theorem cons_inj {a b : Value} (h : [a] = [b]) : a = b := by cases h; rfl
theorem open_geo {H : Type} {enc : TypeId × Value → H} {W : World} {base b0 : Nat} {spare : Nat → Bool} {held : Bool} {r : Reach} {v : Value} {d : DataW H} {p : List MemPlace}
    (hv : Value.okWide Try.prog W r b0 23 v) (h : DataW.Trod enc Try.prog W base spare held 23 v d p) : ∃ B P S : Int, v = .agg #[.int .i64 B, .int .i64 P, .int .i64 S] := by
  obtain ⟨v0, v1, v2, y0, y1, y2, n, rfl, rfl, _, h0, h1, h2⟩ := open_agg3 Try.underlying23 (by kernel_rfl) (by kernel_rfl) hv h
  obtain ⟨a0, e0, _, _⟩ := DataW.trod_int Try.underlying3 h0
  obtain ⟨a1, e1, _, _⟩ := DataW.trod_int Try.underlying3 h1
  obtain ⟨a2, e2, _, _⟩ := DataW.trod_int Try.underlying3 h2
  cases cons_inj e0
  cases cons_inj e1
  cases cons_inj e2
  exact ⟨a0, a1, a2, rfl⟩
theorem four_of {cs : List Value} {a b c d : Value} (hl : cs.length = 4) (h0 : (cs.drop 0).take 1 = [a]) (h1 : (cs.drop 1).take 1 = [b]) (h2 : (cs.drop 2).take 1 = [c]) (h3 : (cs.drop 3).take 1 = [d]) : cs = [a, b, c, d] := by
  match cs, hl with
  | [w, x, y, z], _ =>
    simp at h0 h1 h2 h3
    subst h0 h1 h2 h3
    rfl
theorem elem_blk {H : Type} {enc : TypeId × Value → H} {W : World} {base : Nat} {spare : Nat → Bool} {held : Bool} {n : Nat} {cs : List Value} {y : DataW H × List MemPlace} (h : DataW.trod enc Try.prog W base spare held n 34 cs = some y) :
    ∃ x : S34, cs = [.int .i64 x.f0, .int .u64 x.f1, .bool x.f2, .int .i64 x.f3] ∧ 0 ≤ x.f1 := by
  obtain ⟨y0, y1, y2, y3, m, _, hl, h0, h1, h2, h3⟩ := trod_struct4 Try.underlying34 h
  obtain ⟨a0, e0, _, _⟩ := DataW.trod_int Try.underlying3 h0
  obtain ⟨a1, e1, _, w1⟩ := DataW.trod_int Try.underlying32 h1
  obtain ⟨a2, e2, _⟩ := DataW.trod_bool Try.underlying4 h2
  obtain ⟨a3, e3, _, _⟩ := DataW.trod_int Try.underlying3 h3
  refine ⟨⟨a0, a1, a2, a3⟩, four_of (hl.trans (by kernel_rfl)) e0 e1 e2 e3, ?_⟩
  simp only [Lit.wf] at w1
  simp [IntKind.min, IntKind.max, IntKind.signed, IntKind.bits] at w1
  exact w1.1
theorem open_blks {H : Type} {enc : TypeId × Value → H} {W : World} {base b0 : Nat} {spare : Nat → Bool} {held : Bool} {r : Reach} {v : Value} {d : DataW H} {ps : List MemPlace} {ts : List TypeId} {ds : List (DataW H)} {j : Nat}
    (hsz : (DataW.weightsEach Try.prog ts ds).all (· ≤ reachBytes) = true) (ht : ts[j]? = some 24) (hd : ds[j]? = some d) (hv : Value.okWide Try.prog W r b0 24 v) (h : DataW.Trod enc Try.prog W base spare held 24 v d ps) :
    ∃ (A : Option Addr) (cap : Nat) (l : List S34), v = .slice A l.length cap ∧ Kd.C k34 W A l.length l ∧ l.length ≤ cap ∧ l.length * 32 ≤ 140737488351232 ∧ ∀ x, x ∈ l → 0 ≤ x.f1 := by
  obtain ⟨a0, len0, cap0, rfl⟩ := okWide_slice Try.underlying24 hv
  obtain ⟨fuel, hf⟩ := h
  have hcell : Try.prog.cellsOf 34 = 4 := by kernel_rfl
  have hbytes : Try.prog.bytesOf 34 = 32 := by kernel_rfl
  rcases open_slice Try.underlying24 hf with ⟨hcs, hx⟩ | ⟨a, len, cap, m, n, D, Pl, hcs, hb, hl, hm, hmm, hx, hel⟩
  · simp [Value.cells] at hcs
    obtain ⟨rfl, rfl, rfl⟩ := hcs
    exact ⟨none, 0, [], rfl, ⟨rfl, by decide, fun h => absurd h (Nat.lt_irrefl _)⟩, Nat.le_refl _, by decide, fun x hx => by cases hx⟩
  · simp [Value.cells] at hcs
    obtain ⟨rfl, rfl, rfl⟩ := hcs
    obtain ⟨hx, _⟩ := Prod.mk.inj hx
    subst hx
    have z := sized_slice hsz ht hd Try.underlying24
    rw [hbytes] at z
    simp only [List.length_map, List.length_range, reachBytes] at z
    have hlm : len0 ≤ m := by rw [hmm]; split; exact hl; exact Nat.le_refl _
    have each : ∀ i, i < len0 → ∃ x : S34, (∀ k u, [Value.int .i64 x.f0, .int .u64 x.f1, .bool x.f2, .int .i64 x.f3][k]? = some u → W.cell? (a.add (i * 4 + k)) = some u) ∧ 0 ≤ x.f1 := fun i hi => by
      obtain ⟨cs', hc, ht'⟩ := hel i (by omega)
      obtain ⟨x, rfl, hx0⟩ := elem_blk ht'
      refine ⟨x, fun k u hu => ?_, hx0⟩
      rw [hcell] at hc
      obtain ⟨_, _, hg⟩ := World.cells?_some hc
      have hk : k < 4 := (List.getElem?_eq_some_iff.1 hu).1
      have e : a.add (i * 4 + k) = (a.add (i * 4)).add k := (Go.Deep.add_add a (i * 4) k).symm
      rw [e, hg k hk]
      exact hu
    obtain ⟨y, hy⟩ := choose_lt each
    have hcap : cap0 ≤ 9223372036854775807 := hm
    have e1 : ((List.range len0).map y).length = len0 := by simp
    have hget : ∀ i x, ((List.range len0).map y)[i]? = some x → i < len0 ∧ x = y i := fun i x h => by
      rw [List.getElem?_map] at h
      cases hr : (List.range len0)[i]? with
      | none => rw [hr] at h; cases h
      | some j =>
        rw [hr] at h
        obtain ⟨h1, h2⟩ := List.getElem?_eq_some_iff.1 hr
        simp at h1 h2
        subst h2
        exact ⟨h1, (Option.some.inj h).symm⟩
    refine ⟨some a, cap0, (List.range len0).map y, by rw [e1], ⟨rfl, by rw [e1]; omega, fun _ => ⟨a, rfl, fun j x hj => ?_⟩⟩, by rw [e1]; exact hl, by rw [e1]; omega, fun x hx => ?_⟩
    · obtain ⟨hj1, rfl⟩ := hget j x hj
      exact ⟨_, rfl, k34_mk W (y j), (hy j hj1).1⟩
    · obtain ⟨i, hi⟩ := List.getElem?_of_mem hx
      obtain ⟨hj1, rfl⟩ := hget i x hi
      exact (hy i hj1).2
end Go.Proofs.Ytmohijpkhmeibaa
/- The arguments of the laws of blocks: lists of calls. -/
namespace Go.Proofs.Ytmohijpkhmeibaa
open Go.Joins Go.ChangeShapes Go.WideShapes Go.RowKit Go.Proofs.YtmohijpkhmeibaaW.PrintWords Go.Deep
open PBlocksRound
set_option linter.unusedVariables false
set_option linter.unusedSimpArgs false
set_option maxRecDepth 100000
local instance : Inhabited Op4 := ⟨⟨0, 0, 0, 0⟩⟩
theorem elem_op4 {H : Type} {enc : TypeId × Value → H} {W : World} {base : Nat} {spare : Nat → Bool} {held : Bool} {n : Nat} {cs : List Value} {y : DataW H × List MemPlace} (h : DataW.trod enc Try.prog W base spare held n 50 cs = some y) :
    ∃ x : Op4, cs = x.cells ∧ (-9223372036854775808 ≤ x.more ∧ x.more ≤ 9223372036854775807) ∧ 0 ≤ x.head := by
  obtain ⟨y0, y1, y2, y3, m, _, hl, h0, h1, h2, h3⟩ := trod_struct4 Try.underlying50 h
  obtain ⟨a0, e0, _, _⟩ := DataW.trod_int Try.underlying3 h0
  obtain ⟨a1, e1, _, _⟩ := DataW.trod_int Try.underlying3 h1
  obtain ⟨a2, e2, _, w2⟩ := DataW.trod_int Try.underlying3 h2
  obtain ⟨a3, e3, _, w3⟩ := DataW.trod_int Try.underlying32 h3
  refine ⟨⟨a0, a1, a2, a3⟩, four_of (hl.trans (by kernel_rfl)) e0 e1 e2 e3, ?_, ?_⟩
  · simp only [Lit.wf] at w2
    simp [IntKind.min, IntKind.max, IntKind.signed, IntKind.bits] at w2
    exact ⟨by show _ ≤ a2; omega, by show a2 ≤ _; omega⟩
  · simp only [Lit.wf] at w3
    simp [IntKind.min, IntKind.max, IntKind.signed, IntKind.bits] at w3
    exact w3.1
theorem open_ops {H : Type} {enc : TypeId × Value → H} {W : World} {base b0 : Nat} {spare : Nat → Bool} {held : Bool} {r : Reach} {v : Value} {d : DataW H} {ps : List MemPlace} {ts : List TypeId} {ds : List (DataW H)} {j : Nat}
    (hsz : (DataW.weightsEach Try.prog ts ds).all (· ≤ reachBytes) = true) (ht : ts[j]? = some 48) (hd : ds[j]? = some d) (hv : Value.okWide Try.prog W r b0 48 v) (h : DataW.Trod enc Try.prog W base spare held 48 v d ps) :
    ∃ (A : Option Addr) (cap : Nat) (l : List Op4), v = .slice A l.length cap ∧ OpsAt W A l ∧ OpsOk l := by
  obtain ⟨a0, len0, cap0, rfl⟩ := okWide_slice Try.underlying48 hv
  obtain ⟨fuel, hf⟩ := h
  have hcell : Try.prog.cellsOf 50 = 4 := by kernel_rfl
  have hbytes : Try.prog.bytesOf 50 = 32 := by kernel_rfl
  rcases open_slice Try.underlying48 hf with ⟨hcs, hx⟩ | ⟨a, len, cap, m, n, D, Pl, hcs, hb, hl, hm, hmm, hx, hel⟩
  · simp [Value.cells] at hcs
    obtain ⟨rfl, rfl, rfl⟩ := hcs
    exact ⟨none, 0, [], rfl, .inl rfl, ⟨fun x hx => (by cases hx), by decide⟩⟩
  · simp [Value.cells] at hcs
    obtain ⟨rfl, rfl, rfl⟩ := hcs
    obtain ⟨hx, _⟩ := Prod.mk.inj hx
    subst hx
    have z := sized_slice hsz ht hd Try.underlying48
    rw [hbytes] at z
    simp only [List.length_map, List.length_range, reachBytes] at z
    have hlm : len0 ≤ m := by rw [hmm]; split; exact hl; exact Nat.le_refl _
    have each : ∀ i, i < len0 → ∃ x : Op4, (∀ (k : Nat) (u : Value), x.cells[k]? = some u → W.cell? (a.add (i * 4 + k)) = some u) ∧ (-9223372036854775808 ≤ x.more ∧ x.more ≤ 9223372036854775807) ∧ 0 ≤ x.head := fun i hi => by
      obtain ⟨cs', hc, ht'⟩ := hel i (by omega)
      obtain ⟨x, rfl, hx1⟩ := elem_op4 ht'
      refine ⟨x, fun k u hu => ?_, hx1⟩
      rw [hcell] at hc
      obtain ⟨_, _, hg⟩ := World.cells?_some hc
      have hk : k < 4 := (List.getElem?_eq_some_iff.1 hu).1
      have e : a.add (i * 4 + k) = (a.add (i * 4)).add k := (Go.Deep.add_add a (i * 4) k).symm
      rw [e, hg k hk]
      exact hu
    obtain ⟨y, hy⟩ := choose_lt each
    have e1 : ((List.range len0).map y).length = len0 := by simp
    have hget : ∀ i x, ((List.range len0).map y)[i]? = some x → i < len0 ∧ x = y i := fun i x h => by
      rw [List.getElem?_map] at h
      cases hr : (List.range len0)[i]? with
      | none => rw [hr] at h; cases h
      | some j =>
        rw [hr] at h
        obtain ⟨h1, h2⟩ := List.getElem?_eq_some_iff.1 hr
        simp at h1 h2
        subst h2
        exact ⟨h1, (Option.some.inj h).symm⟩
    refine ⟨some a, cap0, (List.range len0).map y, by rw [e1], ?_, ⟨fun x hx => ?_, by rw [e1]; omega⟩⟩
    · by_cases hp : len0 = 0
      · left
        rw [hp]
        rfl
      · right
        have hs := World.cell?_spot ((hy 0 (by omega)).1 0 _ rfl)
        obtain ⟨g', o', s'⟩ := a
        have e3 : s' = none := by simpa [Addr.add] using hs
        subst e3
        refine ⟨g', o', rfl, fun i x hx k u hu => ?_⟩
        obtain ⟨hi, rfl⟩ := hget i x hx
        have h0 := (hy i hi).1 k u hu
        rw [Addr.add_lit] at h0
        rw [Nat.add_assoc]
        exact h0
    · obtain ⟨i, hi⟩ := List.getElem?_of_mem hx
      obtain ⟨hj1, rfl⟩ := hget i x hi
      exact (hy i hj1).2
end Go.Proofs.Ytmohijpkhmeibaa
