/- Contracts that the rest is written over: path.names, strings.Join. -/
import Derived.Test.YtbinnghemkppdaaDoorNames
import Derived.Test.YtbinnghemkppdaaDoorWWords
namespace Go.Proofs.YtbinnghemkppdaaDoor
open Go.RowKit Go.Proofs.YtbinnghemkppdaaDoor Go.Proofs.YtbinnghemkppdaaDoorW.PrintWords
set_option linter.unusedVariables false
set_option linter.unusedSimpArgs false
def path_names.f (a0 : ByteArray) : Option (List ByteArray × Int) := some (namesR a0)
theorem path_names.calls (a0 : ByteArray) (r1 : List ByteArray) (r2 : Int) (w : World) (h : path_names.f a0 = some (r1, r2)) :
    Calls Tryd.prog 27 #[.string a0] w fun e w' => ∃ v0_, e = .returned (.tuple #[v0_, .int .i64 r2]) ∧ Kd.R Kd.string 9 w' w.heap.size (fun _ => True) v0_ r1 ∧ Below w.heap.size w w' := by
  have h' : namesR a0 = (r1, r2) := Option.some.inj h
  have := names_calls a0 w
  rw [h'] at this
  exact this

/-- What the texts are together; none where that is beyond all reach. -/
def strings_Join.f (l0 : List ByteArray) (a1 : ByteArray) : Option ByteArray :=
  if l0.length ≤ 4294967296 ∧ (Lib.join (l0.map (·.data.toList)) a1.data.toList).length ≤ 4294967296 then some ⟨(Lib.join (l0.map (·.data.toList)) a1.data.toList).toArray⟩ else none

theorem lt_of_cell {w : World} {a : Addr} {v : Value} (h : w.cell? a = some v) : a.block < w.heap.size := by
  unfold World.cell? at h
  by_cases hlt : a.block < w.heap.size
  · exact hlt
  · rw [Array.getElem?_eq_none (by omega)] at h
    cases h

theorem strings_Join.calls (A0 : Option Addr) (c0 : Nat) (l0 : List ByteArray) (a1 : ByteArray) (r : ByteArray) (w : World) (hr0 : Kd.C Kd.string w A0 l0.length l0) (hc0 : l0.length ≤ c0) (h : strings_Join.f l0 a1 = some r) :
    Calls Tryd.prog 35 #[.slice A0 l0.length c0, .string a1] w fun e w' => e = .returned (.string r) ∧ Below w.heap.size w w' := by
  unfold strings_Join.f at h
  split at h
  case isFalse => cases h
  rename_i hb
  cases h
  match l0, hr0, hc0, hb with
  | [], _, _, _ => exact (Tryd.strings_Join_none A0 c0 a1 w).mono fun e w' ⟨he, hw⟩ => ⟨he, hw ▸ Below.refl _ _⟩
  | x :: t, hr0, hc0, hb =>
    obtain ⟨ad, rfl, hcell⟩ := Kd.at_string hr0 0 (Int.le_refl _) (by simp)
    have hz : ad = ⟨ad.block, ad.off, none⟩ := by
      have : ad.spot = none := by
        cases hs : ad.spot with
        | none => rfl
        | some s =>
          exfalso
          unfold World.cell? at hcell
          split at hcell
          · simp [Addr.add, hs] at hcell
          · cases hcell
      rw [← this]
    have hlt := lt_of_cell hcell
    rw [hz]
    refine Tryd.strings_Join ad.block ad.off c0 (x :: t) a1 w (fun j y hj => ?_) hlt (by omega) hc0 (by omega)
    have hjl : j < (x :: t).length := (List.getElem?_eq_some_iff.1 hj).1
    obtain ⟨ad', e', hc'⟩ := Kd.at_string hr0 j (by omega) (by omega)
    cases e'
    rw [hz] at hc'
    have e1 : ({ block := ad.block, off := ad.off, spot := none } : Addr).add (j : Int).toNat = ⟨ad.block, ad.off + j, none⟩ := by rw [Int.toNat_natCast]; simp [Addr.add]
    have e2 : rdOf ByteArray.empty (x :: t) (j : Int) = y := by
      show ((x :: t).getD (j : Int).toNat ByteArray.empty) = y
      rw [List.getD_eq_getElem?_getD, Int.toNat_natCast, hj]
      rfl
    rw [e1, e2] at hc'
    exact hc'
end Go.Proofs.YtbinnghemkppdaaDoor
