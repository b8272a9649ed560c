/- An argument that is a tree of names: its four slices. -/
import Derived.Test.YtbinnghemkppdaaDoorRows
import Derived.Test.YtbinnghemkppdaaDoorWalkPure
import Derived.ProofKit
import Derived.SliceStrings
import Derived.SizedLaws
import Derived.Deep.Slices
import Derived.Lib.SmallJoins
namespace Go.Proofs.YtbinnghemkppdaaDoor
open Go.Joins Go.ChangeShapes Go.WideShapes Go.RowKit Go.Proofs.YtbinnghemkppdaaDoorW.PrintWords Go.Deep
set_option linter.unusedVariables false
set_option linter.unusedSimpArgs false
section
variable {H : Type} {enc : TypeId × Value → H} {P : Program} {W : World} {base : Nat} {spare : Nat → Bool} {held : Bool}
/-- A slice whose elements lie in one cell each and are read. -/
theorem open_kd {α : Type} [Inhabited α] (d : Kd α) (hd1 : d.sz = 1) (Q : α → DataW H → Prop) {t e : TypeId} {fuel : Nat} {cs : List Value} {x : DataW H × List MemPlace} (ht : P.underlying t = some (.slice e)) (hc : P.cellsOf e = 1)
    (elem : ∀ {n : Nat} {v : Value} {y : DataW H × List MemPlace}, DataW.trod enc P W base spare held n e [v] = some y → ∃ a : α, d.K W a [v] ∧ Q a y.1) (h : DataW.trod enc P W base spare held fuel t cs = some x) :
    ∃ (A : Option Addr) (cap : Nat) (l : List α), cs = [.slice A l.length cap] ∧ l.length ≤ cap ∧ d.C W A l.length l ∧ ((l = [] ∧ x.1 = .nil) ∨ ∃ (D : Nat → DataW H) (rest : List (DataW H)), x.1 = .slice ((List.range l.length).map D) rest ∧ ∀ i a, l[i]? = some a → Q a (D i)) := by
  rcases open_slice1 ht hc h with ⟨rfl, rfl⟩ | ⟨a, len, cap, m, n, V, D, Pl, rfl, hb, hl, hm, hmm, rfl, hx⟩
  · exact ⟨none, 0, [], rfl, Nat.le_refl _, ⟨rfl, by simp, fun h => absurd h (Nat.lt_irrefl _)⟩, .inl ⟨rfl, rfl⟩⟩
  · have hlm : len ≤ m := by rw [hmm]; split; exact hl; exact Nat.le_refl _
    have each : ∀ i, i < len → ∃ a : α, d.K W a [V i] ∧ Q a (D i) := fun i hi => elem (hx i (by omega)).2
    obtain ⟨y, hy⟩ := choose_lt each
    have hcap : cap ≤ 9223372036854775807 := hm
    have e1 : ((List.range len).map y).length = len := by simp
    have hget : ∀ i a, ((List.range len).map y)[i]? = some a → i < len ∧ a = y i := fun i a h => by
      rw [List.getElem?_map] at h
      cases hr : (List.range len)[i]? with
      | none => rw [hr] at h; cases h
      | some j =>
        rw [hr] at h
        obtain ⟨h1, h2⟩ := List.getElem?_eq_some_iff.1 hr
        simp at h1 h2
        subst h2
        exact ⟨h1, (Option.some.inj h).symm⟩
    refine ⟨some a, cap, (List.range len).map y, by rw [e1], by rw [e1]; exact hl, ⟨rfl, by rw [e1]; omega, fun _ => ⟨a, rfl, fun j p hj => ?_⟩⟩, .inr ⟨D, _, by rw [e1], fun i p hi => ?_⟩⟩
    · obtain ⟨hj1, rfl⟩ := hget j p hj
      refine ⟨[V j], by rw [hd1]; rfl, (hy j hj1).1, fun i u hu => ?_⟩
      match i, hu with
      | 0, hu =>
        cases hu
        rw [hd1, Nat.mul_one, Nat.add_zero]
        exact (hx j (by omega)).1
      | i + 1, hu => simp at hu
    · obtain ⟨hi1, rfl⟩ := hget i p hi
      exact (hy i hi1).2
theorem elem_int {k : IntKind} {e : TypeId} (he : P.underlying e = some (.int k)) {n : Nat} {v : Value} {y : DataW H × List MemPlace} (h : DataW.trod enc P W base spare held n e [v] = some y) : ∃ a : Int, (Kd.int k).K W a [v] ∧ True := by
  obtain ⟨a, e0, _, _⟩ := DataW.trod_int he h
  exact ⟨a, e0, trivial⟩
theorem elem_str {e : TypeId} (he : P.underlying e = some .string) {n : Nat} {v : Value} {y : DataW H × List MemPlace} (h : DataW.trod enc P W base spare held n e [v] = some y) : ∃ a : ByteArray, Kd.string.K W a [v] ∧ y.1 = .lit (.string a.data.toList) := by
  obtain ⟨a, e0, e1, _⟩ := DataW.trod_string he h
  exact ⟨a, e0, by rw [e1]⟩
theorem elem_bool {e : TypeId} (he : P.underlying e = some .bool) {n : Nat} {v : Value} {y : DataW H × List MemPlace} (h : DataW.trod enc P W base spare held n e [v] = some y) : ∃ a : Bool, Kd.bool.K W a [v] ∧ True := by
  obtain ⟨a, e0, _⟩ := DataW.trod_bool he h
  exact ⟨a, e0, trivial⟩
theorem elem_slice {α : Type} [Inhabited α] (d : Kd α) (hd1 : d.sz = 1) (Q : α → DataW H → Prop) {t e : TypeId} (ht : P.underlying t = some (.slice e)) (hc : P.cellsOf e = 1)
    (elem : ∀ {n : Nat} {v : Value} {y : DataW H × List MemPlace}, DataW.trod enc P W base spare held n e [v] = some y → ∃ a : α, d.K W a [v] ∧ Q a y.1) {n : Nat} {v : Value} {y : DataW H × List MemPlace} (h : DataW.trod enc P W base spare held n t [v] = some y) :
    ∃ l : List α, (Kd.slice e d).K W l [v] ∧ True := by
  obtain ⟨A, cap, l, e0, h1, h2, _⟩ := open_kd d hd1 Q ht hc elem h
  exact ⟨l, ⟨A, cap, e0, h1, h2⟩, trivial⟩
end
theorem cons_inj {a b : Value} (h : [a] = [b]) : a = b := by cases h; rfl
theorem weights_all {H : Type} {P : Program} {e : TypeId} {d : DataW H} : ∀ {ds : List (DataW H)}, d ∈ ds → ∀ n ∈ d.weights P e, n ∈ DataW.weightsAll P e ds
  | [], h, _, _ => by cases h
  | x :: r, h, n, hn => by
    simp only [DataW.weightsAll, List.mem_append]
    rcases List.mem_cons.1 h with rfl | h
    · exact .inl hn
    · exact .inr (weights_all h n hn)
set_option maxRecDepth 100000 in
theorem open_tree {H : Type} {enc : TypeId × Value → H} {W : World} {base b0 : Nat} {spare : Nat → Bool} {held : Bool} {r : Reach} {v : Value} {d : DataW H} {p : List MemPlace} {ts : List TypeId} {ds : List (DataW H)} {j : Nat}
    (hsz : (DataW.weightsEach Tryd.prog ts ds).all (· ≤ reachBytes) = true) (ht : ts[j]? = some 39) (hd : ds[j]? = some d) (hv : Value.okWide Tryd.prog W r b0 39 v) (h : DataW.Trod enc Tryd.prog W base spare held 39 v d p) :
    ∃ T : TD, v = .agg T.vs ∧ TreeC W T ∧ T.Ok := by
  obtain ⟨v0, v1, v2, v3, y0, y1, y2, y3, n, rfl, rfl, _, h0, h1, h2, h3⟩ := open_agg4 Tryd.underlying39 (by kernel_rfl) (by kernel_rfl) hv h
  obtain ⟨A0, c0, l0, e0, k0, C0, _⟩ := open_kd (Kd.slice 9 Kd.string) rfl (fun _ _ => True) Tryd.underlying30 (by kernel_rfl) (fun h => elem_slice Kd.string rfl (fun a D => D = .lit (.string a.data.toList)) Tryd.underlying22 (by kernel_rfl) (fun h => elem_str Tryd.underlying9 h) h) h0
  obtain ⟨A1, c1, l1, e1, k1, C1, _⟩ := open_kd (Kd.slice 3 (Kd.int .i64)) rfl (fun _ _ => True) Tryd.underlying36 (by kernel_rfl) (fun h => elem_slice (Kd.int .i64) rfl (fun _ _ => True) Tryd.underlying70 (by kernel_rfl) (fun h => elem_int Tryd.underlying3 h) h) h1
  obtain ⟨A2, c2, l2, e2, k2, C2, X2⟩ := open_kd Kd.string rfl (fun a D => D = .lit (.string a.data.toList)) Tryd.underlying22 (by kernel_rfl) (fun h => elem_str Tryd.underlying9 h) h2
  obtain ⟨A3, c3, l3, e3, k3, C3, _⟩ := open_kd Kd.bool rfl (fun _ _ => True) Tryd.underlying37 (by kernel_rfl) (fun h => elem_bool Tryd.underlying4 h) h3
  cases cons_inj e0
  cases cons_inj e1
  cases cons_inj e2
  cases cons_inj e3
  refine ⟨⟨l0, l1, l2, l3, A0, c0, A1, c1, A2, c2, A3, c3⟩, rfl, ⟨C0, k0, C1, k1, C2, k2, C3, k3⟩, fun x hx => ?_, fun xs hxs => ?_⟩
  · obtain ⟨i, hi, hxi⟩ := List.getElem_of_mem hx
    have hxi' : l2[i]? = some x := by rw [List.getElem?_eq_getElem hi, hxi]
    rcases X2 with ⟨rfl, _⟩ | ⟨D, rest, hX, hq⟩
    · cases hxi'
    · have hD := hq i x hxi'
      have hm1 : x.data.toList.length ∈ DataW.weights Tryd.prog 9 (D i) := by rw [hD]; simp [DataW.weights]
      have hm2 := weights_all (P := Tryd.prog) (e := 9) (ds := (List.range l2.length).map D) (List.mem_map.2 ⟨i, List.mem_range.2 hi, rfl⟩) _ hm1
      have hm3 : x.data.toList.length ∈ DataW.weights Tryd.prog 22 y2.1 := by
        rw [hX]
        simp only [DataW.weights, Tryd.underlying22, List.mem_cons, List.mem_append]
        exact .inr (.inl hm2)
      have hm4 : x.data.toList.length ∈ DataW.weights Tryd.prog 39 (.agg [y0.1, y1.1, y2.1, y3.1]) := by
        simp only [DataW.weights, Tryd.underlying39]
        exact DataW.weights_mem_each (j := 2) rfl rfl _ hm3
      have := List.all_eq_true.1 hsz _ (DataW.weights_mem_each ht hd _ hm4)
      have h47 : x.data.toList.length ≤ reachBytes := by simpa using this
      rw [Lib.size_eq]
      exact Nat.le_trans h47 (by decide)
  · obtain ⟨i, hi, hxi⟩ := List.getElem_of_mem hxs
    have hi' : i < l0.length := hi
    obtain ⟨ad, A, c, _, _, _, hC⟩ := PHDPathWalks.at_L1 C0 (i : Int) (by omega) (by omega)
    have e : PHDPathWalks.rd_L1 l0 (i : Int) = xs := by
      show l0.getD (i : Int).toNat [] = xs
      rw [Int.toNat_natCast, List.getD_eq_getElem?_getD, List.getElem?_eq_getElem hi, hxi]
      rfl
    rw [e] at hC
    exact Kd.C_max hC
end Go.Proofs.YtbinnghemkppdaaDoor
