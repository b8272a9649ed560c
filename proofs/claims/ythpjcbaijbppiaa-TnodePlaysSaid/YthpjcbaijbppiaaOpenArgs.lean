/- The arguments of the laws of trees: lists of numbers. -/
import Derived.Test.YthpjcbaijbppiaaRows
import Derived.Test.YthpjcbaijbppiaaFilled
import Derived.ProofKit
import Derived.SliceStrings
import Derived.SizedLaws
import Derived.DataReads
import Derived.Deep.Slices
import Derived.Lib.SmallJoins
namespace Go.Proofs.Ythpjcbaijbppiaa
open Go.Joins Go.ChangeShapes Go.WideShapes Go.RowKit Go.Deep
set_option linter.unusedVariables false
set_option linter.unusedSimpArgs false
set_option maxRecDepth 100000
theorem plain_addr {w : World} {a : Addr} {v : Value} (h : w.cell? a = some v) : ∃ g o, a = ⟨g, o, none⟩ := by
  obtain ⟨g, o, s⟩ := a
  cases s with
  | none => exact ⟨g, o, rfl⟩
  | some x =>
    exfalso
    unfold World.cell? at h
    split at h
    · simp at h
    · cases h
theorem open_keys {H : Type} {enc : TypeId × Value → H} {W : World} {base b0 : Nat} {spare : Nat → Bool} {held : Bool} {r : Reach} {v : Value} {d : DataW H} {ps : List MemPlace} {ts : List TypeId} {ds : List (DataW H)} {j : Nat}
    (hsz : (DataW.weightsEach Try.prog ts ds).all (· ≤ reachBytes) = true) (ht : ts[j]? = some 36) (hd : ds[j]? = some d) (hv : Value.okWide Try.prog W r b0 36 v) (h : DataW.Trod enc Try.prog W base spare held 36 v d ps) :
    ∃ (A : Option Addr) (cap : Nat) (ks : List Int), v = .slice A ks.length cap ∧ IntsAt W A ks ∧ ks.length ≤ 17592186044416 := by
  obtain ⟨a0, len0, cap0, rfl⟩ := okWide_slice Try.underlying36 hv
  obtain ⟨fuel, hf⟩ := h
  rcases open_ints Try.underlying36 Try.underlying3 (by kernel_rfl) hf with ⟨hcs, hx⟩ | ⟨a, len, cap, zs, hcs, hb, hl, hm, hlen, hx, hcell, hwf⟩
  · simp [Value.cells] at hcs
    obtain ⟨rfl, rfl, rfl⟩ := hcs
    exact ⟨none, 0, [], rfl, fun h => absurd h (Nat.lt_irrefl _), by decide⟩
  · simp [Value.cells] at hcs
    obtain ⟨rfl, rfl, rfl⟩ := hcs
    obtain ⟨hx, _⟩ := Prod.mk.inj hx
    subst hx
    have z := sized_slice hsz ht hd Try.underlying36
    have hbytes : Try.prog.bytesOf 3 = 8 := by kernel_rfl
    rw [hbytes] at z
    have hzl : len0 ≤ zs.length := by rw [hlen]; split; exact hl; exact Nat.le_refl _
    have el : (zs.take len0).length = len0 := by rw [List.length_take]; omega
    refine ⟨some a, cap0, zs.take len0, by rw [el], fun hp => ?_, ?_⟩
    · rw [el] at hp
      obtain ⟨g, o, rfl⟩ := plain_addr (hcell 0 (by omega))
      refine ⟨g, o, rfl, fun i k hk => ?_⟩
      have hi : i < len0 := by have := (List.getElem?_eq_some_iff.1 hk).1; omega
      have hc := hcell i (by omega)
      rw [Addr.add_lit] at hc
      rw [hc]
      rw [List.getElem?_take_of_lt hi] at hk
      rw [List.getD_eq_getElem?_getD, hk]; rfl
    · simp only [lits, List.length_map, reachBytes] at z
      rw [el] at z ⊢
      omega
end Go.Proofs.Ythpjcbaijbppiaa
