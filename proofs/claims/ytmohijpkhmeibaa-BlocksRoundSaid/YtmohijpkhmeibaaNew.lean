/- blocks.New: the walk. -/
import Derived.Test.YtmohijpkhmeibaaNewPure
import Derived.Test.YtmohijpkhmeibaaPBlocksRoundx2
import Derived.Deep.DeepCutAuto
import Derived.Deep.LoopGhost
import Derived.Deep.RegionLaw
import Derived.Maps.Own
import Derived.Maps.OwnSet
namespace Go.Proofs.Ytmohijpkhmeibaa
open Go.RowKit Go.Proofs Go.Proofs.YtmohijpkhmeibaaW.PrintWords
open PBlocksRound
set_option linter.unusedVariables false
set_option linter.unusedSimpArgs false
attribute [local go_sem high] PBlocksRound.eqA34

theorem info71 : (Try.prog.info? 71).map (fun i => (i.zero, i.size, i.bytes)) = some (some (.agg #[(.int .i64 0), (.int .u64 0), (.bool false), (.int .i64 0), .bool false]), 5, 40) := by kernel_rfl
def fitsB (B P S : Int) : Bool := decide (8 ≤ B ∧ B ≤ 4096 ∧ 4 ≤ P ∧ P ≤ 256 ∧ 1 ≤ S ∧ S ≤ 8 ∧ B * P ≤ 65536)
theorem fits_calls (B P S : Int) (w : World) : Calls Try.prog 46 #[.agg #[.int .i64 B, .int .i64 P, .int .i64 S]] w fun e w' => e = .returned (.bool (fitsB B P S)) ∧ Below w.heap.size w w' := by
  refine (blocks_fits.calls B P S (fitsB B P S) w ?_).mono fun e w' h => ?_
  · unfold blocks_fits.f fitsB
    by_cases h1 : B ≥ 8
    case neg => rw [if_neg h1]; simp; omega
    by_cases h2 : B ≤ 4096
    case neg => rw [if_pos h1, if_neg h2]; simp; omega
    by_cases h3 : P ≥ 4
    case neg => rw [if_pos h1, if_pos h2, if_neg h3]; simp; omega
    by_cases h4 : P ≤ 256
    case neg => rw [if_pos h1, if_pos h2, if_pos h3, if_neg h4]; simp; omega
    by_cases h5 : S ≥ 1
    case neg => rw [if_pos h1, if_pos h2, if_pos h3, if_pos h4, if_neg h5]; simp; omega
    by_cases h6 : S ≤ 8
    case neg => rw [if_pos h1, if_pos h2, if_pos h3, if_pos h4, if_pos h5, if_neg h6]; simp; omega
    rw [if_pos h1, if_pos h2, if_pos h3, if_pos h4, if_pos h5, if_pos h6]
    have e : wrap64 (B * P) = B * P := by
      have hb1 : B * P ≤ 4096 * P := Int.mul_le_mul_of_nonneg_right h2 (by omega)
      have hb2 : 0 ≤ B * P := Int.mul_nonneg (by omega) (by omega)
      unfold wrap64
      omega
    rw [e]
    refine congrArg some (decide_eq_decide.2 ?_)
    exact ⟨fun h => ⟨h1, h2, h3, h4, h5, h6, h⟩, fun h => h.2.2.2.2.2.2⟩
  · exact ⟨h.1, h.2⟩

theorem kd_rows {w : World} {A : Option Addr} {l : List S34} {n : Nat} (h : Kd.C k34 w A n l) (hpos : 0 < n) : ∃ g o, A = some ⟨g, o, none⟩ ∧ ∀ i x, l[i]? = some x → w.cell? ⟨g, o + i * 4, none⟩ = some (.int .i64 x.f0) ∧ w.cell? ⟨g, o + i * 4 + 1, none⟩ = some (.int .u64 x.f1) ∧ w.cell? ⟨g, o + i * 4 + 2, none⟩ = some (.bool x.f2) ∧ w.cell? ⟨g, o + i * 4 + 3, none⟩ = some (.int .i64 x.f3) := by
  have hn := Kd.C_len h
  subst hn
  obtain ⟨ad, rfl, hc0, _⟩ := at_T34 h 0 (by omega) (by omega)
  obtain ⟨g, o, s⟩ := ad
  have hs : s = none := by
    cases s with
    | none => rfl
    | some x =>
      exfalso
      unfold World.cell? at hc0
      simp only [Addr.add, Int.toNat_zero, Nat.zero_mul, if_true] at hc0
      split at hc0
      · simp at hc0
      · cases hc0
  subst hs
  refine ⟨g, o, rfl, fun i x hx => ?_⟩
  have hi : i < l.length := (List.getElem?_eq_some_iff.1 hx).1
  obtain ⟨ad, e, a0, a1, a2, a3⟩ := at_T34 h (i : Int) (by omega) (by omega)
  cases e
  have ex : rd_T34 l (i : Int) = x := by
    show l.getD (i : Int).toNat z34 = x
    rw [Int.toNat_natCast, List.getD_eq_getElem?_getD, hx]
    rfl
  rw [ex] at a0 a1 a2 a3
  rw [Int.toNat_natCast, Addr.add_lit] at a0 a1 a2 a3
  exact ⟨a0, a1, a2, a3⟩

/-- While New runs: the book so far, the heads so far. -/
structure NSt (w : World) (l : List S34) (pages cursor last : Int) (p mb k : Nat) (v : Value) (D : DataW Unit) (opn : Int) (W : World) : Prop where
  head : W.heap[p]? = some (.cells #[.int .i64 pages, v, .int .i64 cursor, .int .i64 last, .int .i64 (-1), .int .i64 opn] 69 (0, 0))
  row : Kd.R k71 71 W w.heap.size (fun _ => True) v ((l.take k).map blkOf)
  map : W.ownsMap Try.prog 32 (plainElem Try.prog 3) mb k D
  heads : Heads D (l.take k)
  below : Below w.heap.size w W
  pb : w.heap.size ≤ p
  mbb : w.heap.size ≤ mb
section
variable {w : World} {l : List S34} {pages cursor last : Int} {p mb k : Nat} {v : Value} {D : DataW Unit} {opn : Int} {W W' : World}
theorem NSt.pm (h : NSt w l pages cursor last p mb k v D opn W) : p ≠ mb := by
  rintro rfl
  obtain ⟨es, clock, hm, _⟩ := h.map
  have := h.head
  rw [hm] at this
  injection this with this
  cases this
theorem NSt.of_below (h : NSt w l pages cursor last p mb k v D opn W) (hb : Below W.heap.size W W') : NSt w l pages cursor last p mb k v D opn W' :=
  ⟨(hb.block _ (lt_of_heap h.head)).trans h.head, Kd.R_below h.row hb, by obtain ⟨es, clock, hm, r⟩ := h.map; exact ⟨es, clock, (hb.block _ (lt_of_heap hm)).trans hm, r⟩, h.heads, h.below.trans (hb.mono h.below.size), h.pb, h.mbb⟩
theorem NSt.cell (h : NSt w l pages cursor last p mb k v D opn W) : W.cell? ⟨p, 0, none⟩ = some (.int .i64 pages) ∧ W.cell? ⟨p, 1, none⟩ = some v ∧ W.cell? ⟨p, 5, none⟩ = some (.int .i64 opn) ∧ ∀ j, W.frozen? ⟨p, j, none⟩ = false :=
  ⟨cell_of h.head rfl, cell_of h.head rfl, cell_of h.head rfl, fun j => free_of h.head⟩
theorem NSt.setOpn (h : NSt w l pages cursor last p mb k v D opn W) (x : Int) : NSt w l pages cursor last p mb k v D x (W.setCell ⟨p, 5, none⟩ (.int .i64 x)) :=
  ⟨heap_set_same h.head _, Kd.R_mono (Kd.R_far (Kd.R_types h.row h.head (by decide)) (fun k hk => hk.2) _) (fun _ _ => trivial), World.ownsMap.setCell h.map (Ne.symm h.pm) _, h.heads, h.below.setCell (p := ⟨p, 5, none⟩) h.pb _, h.pb, h.mbb⟩
theorem NSt.put {D' : DataW Unit} (h : NSt w l pages cursor last p mb k v D opn W) {k' : Nat} (hg : W.grownBy W' (some mb)) (hm : W'.ownsMap Try.prog 32 (plainElem Try.prog 3) mb k' D') :
    W'.heap[p]? = some (.cells #[.int .i64 pages, v, .int .i64 cursor, .int .i64 last, .int .i64 (-1), .int .i64 opn] 69 (0, 0)) ∧ Kd.R k71 71 W' w.heap.size (fun _ => True) v ((l.take k).map blkOf) ∧ Below w.heap.size w W' :=
  ⟨(hg.block p (lt_of_heap h.head) (fun e => h.pm (Option.some.inj e))).trans h.head, (by
    refine Kd.R_mono (Kd.R_grown (Kd.R_mono (Kd.R_bound h.row) (ok' := fun k => k ≠ mb) (fun j hj => ?_)) hg (fun j hj e => hj (Option.some.inj e))) (fun _ _ => trivial)
    rintro rfl
    obtain ⟨_, _, _, q, hq, cells, hc⟩ := hj
    obtain ⟨es, clock, hmm, _⟩ := h.map
    rw [hmm] at hc
    injection hc with hc
    cases hc), h.below.grown hg h.below.size (fun j hj => by cases hj; exact h.mbb)⟩
end
def NewEnd (w : World) (l : List S34) (pages cursor last : Int) (e : Ending) (W : World) : Prop :=
  Below w.heap.size w W ∧ match newFrom pages last [] (-1) l with
    | none => e = .returned (.tuple #[.pointer none, .int .i64 110])
    | some opn => ∃ p v, e = .returned (.tuple #[.pointer (some ⟨p, 0, none⟩), .int .i64 0]) ∧ w.heap.size ≤ p ∧ W.heap[p]? = some (.cells #[.int .i64 pages, v, .int .i64 cursor, .int .i64 last, .int .i64 (-1), .int .i64 opn] 69 (0, 0)) ∧ Kd.R k71 71 W w.heap.size (fun _ => True) v (l.map blkOf)
def NRel (w : World) (l : List S34) (pages cursor last : Int) (p mb k : Nat) (W : World) : Prop :=
  ∃ v D opn, NSt w l pages cursor last p mb k v D opn W ∧ newFrom pages last [] (-1) l = newFrom pages last (l.take k) opn (l.drop k)
end Go.Proofs.Ytmohijpkhmeibaa
