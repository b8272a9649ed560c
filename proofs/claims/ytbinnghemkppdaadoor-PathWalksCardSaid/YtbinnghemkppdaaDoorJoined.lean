/- Names joined by slashes, and cut again. -/
import Derived.Test.YtbinnghemkppdaaDoorSpec
namespace Go.Proofs.YtbinnghemkppdaaDoor
open Go.RowKit Go.Proofs.YtbinnghemkppdaaDoorW.PrintWords
set_option linter.unusedVariables false
set_option linter.unusedSimpArgs false

def GoodP (p : List UInt8) : Prop := keepP p = true ∧ ∀ c ∈ p, c ≠ 47

theorem join_two (x y : List UInt8) (r : List (List UInt8)) : Lib.join (x :: y :: r) [47] = x ++ 47 :: Lib.join (y :: r) [47] := by
  rw [Lib.join_cons, Lib.join_cons]
  simp [Lib.joinTail]
theorem parts_join : ∀ L : List (List UInt8), (∀ x ∈ L, GoodP x) → partsOf (Lib.join L [47]) = L
  | [], _ => rfl
  | [x], h => by
    have hx := h x List.mem_cons_self
    unfold partsOf
    rw [Lib.join_one, cutAt_word _ hx.2, List.filter_cons, hx.1]
    rfl
  | x :: y :: r, h => by
    have hx := h x List.mem_cons_self
    have ih := parts_join (y :: r) (fun z hz => h z (List.mem_cons_of_mem _ hz))
    unfold partsOf at ih ⊢
    rw [join_two, cutAt_slash _ _ hx.2, List.filter_cons, hx.1, ih]
    rfl
theorem cutAt_mem : ∀ l : List UInt8, ∀ p ∈ cutAt l, ∀ c ∈ p, c ≠ 47
  | [], p, hp, c, hc => by
    simp only [cutAt, List.mem_singleton] at hp
    rw [hp] at hc
    cases hc
  | d :: t, p, hp, c, hc => by
    have ih := cutAt_mem t
    unfold cutAt at hp
    cases hd : d == 47
    · rw [hd] at hp
      simp only [Bool.false_eq_true, if_false] at hp
      cases hcut : cutAt t with
      | nil => exact absurd hcut (cutAt_ne t)
      | cons q r =>
        rw [hcut] at hp ih
        simp only [List.mem_cons] at hp
        rcases hp with rfl | hp
        · rcases List.mem_cons.1 hc with rfl | hc'
          · simpa using hd
          · exact ih q List.mem_cons_self c hc'
        · exact ih p (List.mem_cons_of_mem _ hp) c hc
    · rw [hd] at hp
      simp only [if_true, List.mem_cons] at hp
      rcases hp with rfl | hp
      · cases hc
      · exact ih p hp c hc
theorem parts_good (l : List UInt8) : ∀ p ∈ partsOf l, GoodP p := fun p hp => by
  have := List.mem_filter.1 hp
  exact ⟨this.2, cutAt_mem l p this.1⟩
theorem namesL_good (s : ByteArray) : ∀ x ∈ namesL s, GoodP x.data.toList := fun x hx => by
  obtain ⟨p, hp, rfl⟩ := List.mem_map.1 hx
  rw [mkB_list]
  exact parts_good _ p hp
theorem splitR_good (s : ByteArray) : ∀ x ∈ (splitR s).1, GoodP x.data.toList ∧ x.size ≤ 63 := fun x hx => by
  unfold splitR at hx
  split at hx
  · unfold namesR at hx
    split at hx
    · cases hx
    · split at hx
      · cases hx
      · split at hx
        · cases hx
        · rename_i h
          refine ⟨namesL_good s x hx, ?_⟩
          refine Nat.le_of_not_lt fun hlt => h (Or.inr (List.any_eq_true.2 ⟨x, hx, ?_⟩))
          exact decide_eq_true (by omega)
  · cases hx
theorem trim_mem {l : List ByteArray} {x : ByteArray} (h : x ∈ trim l) : x ∈ l := (List.dropWhile_suffix _).subset h

def joinS (l : List ByteArray) : ByteArray := ⟨(47 :: Lib.join (l.map (·.data.toList)) [47]).toArray⟩
theorem join_len : ∀ L : List (List UInt8), (∀ x ∈ L, x.length ≤ 63) → (Lib.join L [47]).length ≤ 64 * L.length
  | [], _ => by simp [Lib.join_nil]
  | [x], h => by
    have := h x List.mem_cons_self
    rw [Lib.join_one]
    simp
    omega
  | x :: y :: r, h => by
    have := h x List.mem_cons_self
    have ih := join_len (y :: r) (fun z hz => h z (List.mem_cons_of_mem _ hz))
    rw [join_two, List.length_append, List.length_cons]
    simp only [List.length_cons] at ih ⊢
    omega
theorem joinS_inj {l m : List ByteArray} (hl : ∀ x ∈ l, GoodP x.data.toList) (hm : ∀ x ∈ m, GoodP x.data.toList) (h : joinS l = joinS m) : l = m := by
  have h1 : Lib.join (l.map (·.data.toList)) [47] = Lib.join (m.map (·.data.toList)) [47] := by
    have := congrArg (fun b : ByteArray => b.data.toList) h
    simpa [joinS] using this
  have e1 := parts_join (l.map (·.data.toList)) (fun x hx => by obtain ⟨y, hy, rfl⟩ := List.mem_map.1 hx; exact hl y hy)
  have e2 := parts_join (m.map (·.data.toList)) (fun x hx => by obtain ⟨y, hy, rfl⟩ := List.mem_map.1 hx; exact hm y hy)
  rw [h1, e2] at e1
  have := congrArg (List.map mkB) e1
  rw [List.map_map, List.map_map] at this
  have hid : ∀ q : List ByteArray, q.map (mkB ∘ fun x => x.data.toList) = q := fun q => (List.map_congr_left (fun x _ => mkB_of x)).trans (List.map_id q)
  rw [hid, hid] at this
  exact this.symm
def cleanR (s : ByteArray) : ByteArray × Int := if (splitR s).2 = 0 then (joinS (trim (splitR s).1), 0) else (⟨#[]⟩, (splitR s).2)
theorem join_f (s : ByteArray) : strings_Join.f (trim (splitR s).1) ⟨#[47]⟩ = some ⟨(Lib.join ((trim (splitR s).1).map (·.data.toList)) [47]).toArray⟩ := by
  have h1 := splitR_len s
  have h2 := trim_len (splitR s).1
  have h3 := join_len ((trim (splitR s).1).map (·.data.toList)) (fun x hx => by
    obtain ⟨y, hy, rfl⟩ := List.mem_map.1 hx
    have := (splitR_good s y (trim_mem hy)).2
    rw [Lib.size_eq] at this
    exact this)
  rw [List.length_map] at h3
  unfold strings_Join.f
  rw [if_pos ⟨by omega, (show (Lib.join ((trim (splitR s).1).map (·.data.toList)) [47]).length ≤ 4294967296 by omega)⟩]
theorem joinS_eq (l : List ByteArray) : (⟨#[47]⟩ : ByteArray) ++ ⟨(Lib.join (l.map (·.data.toList)) [47]).toArray⟩ = joinS l := by
  refine ba_ext ?_
  rw [ByteArray.data_append, Array.toList_append]
  rfl
end Go.Proofs.YtbinnghemkppdaaDoor
