/- TnodeTypes: its second argument, and its arguments in the order of the row. -/
import Derived.Test.YthpjcbaijbppiaaTypesWalk
import Derived.Test.YthpjcbaijbppiaaOpenArgs
namespace Go.Proofs.Ythpjcbaijbppiaa
open Go.ChangeShapes Go.WideShapes Go.RowKit
set_option linter.unusedVariables false
set_option linter.unusedSimpArgs false
set_option maxRecDepth 100000
theorem open_strs {H : Type} {enc : TypeId × Value → H} {W : World} {base b0 : Nat} {spare : Nat → Bool} {held : Bool} {r : Reach} {v : Value} {d : DataW H} {ps : List MemPlace} {ts : List TypeId} {ds : List (DataW H)} {j : Nat}
    (hsz : (DataW.weightsEach Try.prog ts ds).all (· ≤ reachBytes) = true) (ht : ts[j]? = some 52) (hd : ds[j]? = some d) (hv : Value.okWide Try.prog W r b0 52 v) (h : DataW.Trod enc Try.prog W base spare held 52 v d ps) :
    ∃ (A : Option Addr) (cap : Nat) (l : List ByteArray), v = .slice A l.length cap ∧ StrsAt W A l ∧ l.length ≤ 17592186044416 := by
  obtain ⟨a0, len, cap, rfl⟩ := okWide_slice Try.underlying52 hv
  obtain ⟨fuel, hf⟩ := h
  rcases open_strings Try.underlying52 Try.underlying9 (by kernel_rfl) hf with ⟨hcs, hx⟩ | ⟨a, len', cap', ss, hcs, _, hl, hm, hz, hx, hcell, _⟩
  · simp [Value.cells] at hcs
    obtain ⟨rfl, rfl, rfl⟩ := hcs
    exact ⟨none, 0, [], rfl, fun h => absurd h (Nat.lt_irrefl _), by decide⟩
  · simp [Value.cells] at hcs
    obtain ⟨rfl, rfl, rfl⟩ := hcs
    obtain ⟨hx, _⟩ := Prod.mk.inj hx
    subst hx
    have z := sized_slice hsz ht hd Try.underlying52
    have hB : Try.prog.bytesOf 9 = 16 := by kernel_rfl
    rw [hB] at z
    have hl2 : len ≤ ss.length := by
      rw [hz]
      split
      · exact hl
      · exact Nat.le_refl _
    have h1 : (strs (H := H) (ss.take len)).length + (strs (H := H) (ss.drop len)).length = ss.length := by
      simp [strs]
      omega
    rw [h1] at z
    have e1 : (ss.take len).length = len := by rw [List.length_take]; omega
    refine ⟨some a, cap, ss.take len, by rw [e1], fun hp => ?_, ?_⟩
    · rw [e1] at hp
      obtain ⟨g, o, rfl⟩ := plain_addr (hcell 0 (by omega))
      refine ⟨g, o, rfl, fun i k hk => ?_⟩
      have hi : i < len := by have := (List.getElem?_eq_some_iff.1 hk).1; omega
      have hc := hcell i (by omega)
      rw [Addr.add_lit] at hc
      rw [hc]
      rw [List.getElem?_take_of_lt hi] at hk
      rw [List.getD_eq_getElem?_getD, hk]; rfl
    · simp only [reachBytes] at z
      rw [e1]
      omega
theorem types_row (A : Option Addr) (c : Nat) (ks : List Int) {w : World} (hA : IntsAt w A ks) (hks : ks.length ≤ 17592186044416) (T : Option Addr) (ct : Nat) (ts : List ByteArray) (hT : StrsAt w T ts) (hts : ts.length ≤ 17592186044416) :
    Calls Try.prog 8 #[.slice A ks.length c, .slice T ts.length ct] w (HeadsEnd w) := types_walk ks hks A c ts hts T ct w hA hT
end Go.Proofs.Ythpjcbaijbppiaa
