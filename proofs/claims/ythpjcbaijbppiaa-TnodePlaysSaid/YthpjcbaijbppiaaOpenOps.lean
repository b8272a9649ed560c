/- The arguments of TnodePlays: lists of calls. -/
import Derived.Test.YthpjcbaijbppiaaOpenArgs
import Derived.Test.YthpjcbaijbppiaaPair
namespace Go.Proofs.Ythpjcbaijbppiaa
open Go.Joins Go.ChangeShapes Go.WideShapes Go.RowKit Go.Deep
set_option linter.unusedVariables false
set_option linter.unusedSimpArgs false
set_option maxRecDepth 100000
theorem cons_inj {a b : Value} (h : [a] = [b]) : a = b := by cases h; rfl
theorem three_of {cs : List Value} {a b c : Value} (hl : cs.length = 3) (h0 : (cs.drop 0).take 1 = [a]) (h1 : (cs.drop 1).take 1 = [b]) (h2 : (cs.drop 2).take 1 = [c]) : cs = [a, b, c] := by
  match cs, hl with
  | [w, x, y], _ =>
    simp at h0 h1 h2
    subst h0 h1 h2
    rfl
theorem elem_op {H : Type} {enc : TypeId × Value → H} {W : World} {base : Nat} {spare : Nat → Bool} {held : Bool} {n : Nat} {cs : List Value} {y : DataW H × List MemPlace} (h : DataW.trod enc Try.prog W base spare held n 31 cs = some y) :
    ∃ x : Int × Int × Int, cs = [.int .i64 x.1, .int .i64 x.2.1, .int .i64 x.2.2] := by
  obtain ⟨y0, y1, y2, m, _, hl, h0, h1, h2⟩ := trod_struct3 Try.underlying31 h
  obtain ⟨a0, e0, _, _⟩ := DataW.trod_int Try.underlying3 h0
  obtain ⟨a1, e1, _, _⟩ := DataW.trod_int Try.underlying3 h1
  obtain ⟨a2, e2, _, _⟩ := DataW.trod_int Try.underlying3 h2
  exact ⟨⟨a0, a1, a2⟩, three_of (hl.trans (by kernel_rfl)) e0 e1 e2⟩
theorem open_ops {H : Type} {enc : TypeId × Value → H} {W : World} {base b0 : Nat} {spare : Nat → Bool} {held : Bool} {r : Reach} {v : Value} {d : DataW H} {ps : List MemPlace} {ts : List TypeId} {ds : List (DataW H)} {j : Nat}
    (hsz : (DataW.weightsEach Try.prog ts ds).all (· ≤ reachBytes) = true) (ht : ts[j]? = some 22) (hd : ds[j]? = some d) (hv : Value.okWide Try.prog W r b0 22 v) (h : DataW.Trod enc Try.prog W base spare held 22 v d ps) :
    ∃ (A : Option Addr) (cap : Nat) (l : List (Int × Int × Int)), v = .slice A l.length cap ∧ OpsAt W A l ∧ l.length ≤ 17592186044416 := by
  obtain ⟨a0, len0, cap0, rfl⟩ := okWide_slice Try.underlying22 hv
  obtain ⟨fuel, hf⟩ := h
  have hcell : Try.prog.cellsOf 31 = 3 := by kernel_rfl
  have hbytes : Try.prog.bytesOf 31 = 24 := by kernel_rfl
  rcases open_slice Try.underlying22 hf with ⟨hcs, hx⟩ | ⟨a, len, cap, m, n, D, Pl, hcs, hb, hl, hm, hmm, hx, hel⟩
  · simp [Value.cells] at hcs
    obtain ⟨rfl, rfl, rfl⟩ := hcs
    exact ⟨none, 0, [], rfl, fun h => absurd h (Nat.lt_irrefl _), by decide⟩
  · simp [Value.cells] at hcs
    obtain ⟨rfl, rfl, rfl⟩ := hcs
    obtain ⟨hx, _⟩ := Prod.mk.inj hx
    subst hx
    have z := sized_slice hsz ht hd Try.underlying22
    rw [hbytes] at z
    simp only [List.length_map, List.length_range, reachBytes] at z
    have hlm : len0 ≤ m := by rw [hmm]; split; exact hl; exact Nat.le_refl _
    have each : ∀ i, i < len0 → ∃ x : Int × Int × Int, ∀ k u, [Value.int .i64 x.1, .int .i64 x.2.1, .int .i64 x.2.2][k]? = some u → W.cell? (a.add (i * 3 + k)) = some u := fun i hi => by
      obtain ⟨cs', hc, ht'⟩ := hel i (by omega)
      obtain ⟨x, rfl⟩ := elem_op ht'
      refine ⟨x, fun k u hu => ?_⟩
      rw [hcell] at hc
      obtain ⟨_, _, hg⟩ := World.cells?_some hc
      have hk : k < 3 := (List.getElem?_eq_some_iff.1 hu).1
      have e : a.add (i * 3 + k) = (a.add (i * 3)).add k := (Go.Deep.add_add a (i * 3) k).symm
      rw [e, hg k hk]
      exact hu
    obtain ⟨y, hy⟩ := choose_lt each
    have e1 : ((List.range len0).map y).length = len0 := by simp
    have hget : ∀ i x, ((List.range len0).map y)[i]? = some x → i < len0 ∧ x = y i := fun i x h => by
      rw [List.getElem?_map] at h
      cases hr : (List.range len0)[i]? with
      | none => rw [hr] at h; cases h
      | some j =>
        rw [hr] at h
        obtain ⟨h1, h2⟩ := List.getElem?_eq_some_iff.1 hr
        simp at h1 h2
        subst h2
        exact ⟨h1, (Option.some.inj h).symm⟩
    refine ⟨some a, cap0, (List.range len0).map y, by rw [e1], fun hp => ?_, by rw [e1]; omega⟩
    rw [e1] at hp
    obtain ⟨g, o, e⟩ := plain_addr (hy 0 hp 0 _ rfl)
    obtain ⟨g', o', s'⟩ := a
    have e3 : s' = none := by
      have := congrArg (fun x : Addr => match x with | ⟨_, _, s⟩ => s) e
      exact this
    subst e3
    refine ⟨_, o', rfl, fun i x hx => ?_⟩
    obtain ⟨hi, rfl⟩ := hget i x hx
    have h0 := hy i hi 0 _ rfl
    have h1 := hy i hi 1 _ rfl
    have h2 := hy i hi 2 _ rfl
    rw [Addr.add_lit] at h0 h1 h2
    exact ⟨h0, h1, h2⟩
end Go.Proofs.Ythpjcbaijbppiaa
