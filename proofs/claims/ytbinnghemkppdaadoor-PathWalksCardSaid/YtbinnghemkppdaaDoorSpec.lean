/- What the path functions answer, in plain lists. -/
import Derived.Test.YtbinnghemkppdaaDoorHD
namespace Go.Proofs.YtbinnghemkppdaaDoor
open Go.RowKit Go.Proofs.YtbinnghemkppdaaDoorW.PrintWords
set_option linter.unusedVariables false
set_option linter.unusedSimpArgs false

/-- With rounds enough it tells v. -/
def Ev {α : Type} (g : Nat → Option α) (v : α) : Prop := ∃ K, ∀ k, K ≤ k → g k = some v
theorem Ev.bind {α β : Type} {g : Nat → Option α} {h : Nat → α → Option β} {a : α} {b : β} (hg : Ev g a) (hh : Ev (fun k => h k a) b) : Ev (fun k => (g k).bind (h k)) b := by
  obtain ⟨K, hK⟩ := hg
  obtain ⟨M, hM⟩ := hh
  exact ⟨max K M, fun k hk => by show (g k).bind (h k) = some b; rw [hK k (by omega)]; exact hM k (by omega)⟩
theorem Ev.pos {α : Type} {c : Prop} [Decidable c] {A B : Nat → Option α} {v : α} (hc : c) (h : Ev A v) : Ev (fun k => if c then A k else B k) v := by
  obtain ⟨K, hK⟩ := h
  exact ⟨K, fun k hk => by show (if c then A k else B k) = some v; rw [if_pos hc]; exact hK k hk⟩
theorem Ev.neg {α : Type} {c : Prop} [Decidable c] {A B : Nat → Option α} {v : α} (hc : ¬ c) (h : Ev B v) : Ev (fun k => if c then A k else B k) v := by
  obtain ⟨K, hK⟩ := h
  exact ⟨K, fun k hk => by show (if c then A k else B k) = some v; rw [if_neg hc]; exact hK k hk⟩
theorem Ev.ret {α : Type} {v : α} : Ev (fun _ => some v) v := ⟨0, fun _ _ => rfl⟩
theorem Ev.of {α : Type} {g : Nat → Option α} {v : α} (n : Nat) (h : ∀ k, n ≤ k → g k = some v) : Ev g v := ⟨n, h⟩
theorem Ev.eq {α : Type} {g : Nat → Option α} {v u : α} (h : Ev g v) (e : v = u) : Ev g u := e ▸ h

theorem w1 (i : Nat) (h : i ≤ 4611686018427387904) : wrap64 ((i : Int) + 1) = ((i + 1 : Nat) : Int) := by unfold wrap64; omega
theorem bt_nat (x : ByteArray) (i : Nat) (h : i < x.data.toList.length) : bt x (i : Int) = ((x.data.toList[i]).toNat : Int) := by
  have h' : i < x.size := by rw [Lib.size_eq]; exact h
  unfold bt
  rw [dif_pos (by rw [Int.toNat_natCast]; exact h')]
  rfl
theorem rd_nat (l : List ByteArray) (i : Nat) (h : i < l.length) : rdOf ByteArray.empty l (i : Int) = l[i] := by
  show l.getD (i : Int).toNat ByteArray.empty = l[i]
  rw [Int.toNat_natCast, List.getD_eq_getElem?_getD, List.getElem?_eq_getElem h]
  rfl
theorem ba_ext {a b : ByteArray} (h : a.data.toList = b.data.toList) : a = b := by
  cases a; cases b
  congr 1
  exact Array.toList_inj.1 h
theorem ba_eq {a b : ByteArray} : a.toList = b.toList ↔ a = b := ⟨fun h => ba_ext (by rw [Lib.toList_data, Lib.toList_data] at h; exact h), fun h => h ▸ rfl⟩
theorem mkB_list (l : List UInt8) : (mkB l).data.toList = l := by simp [mkB]
theorem mkB_of (x : ByteArray) : mkB x.data.toList = x := by simp [mkB]

theorem cutAt_word : ∀ w : List UInt8, (∀ c ∈ w, c ≠ 47) → cutAt w = [w]
  | [], _ => rfl
  | c :: t, h => by
    have ih := cutAt_word t (fun d hd => h d (List.mem_cons_of_mem _ hd))
    have hc : (c == 47) = false := by simpa using h c List.mem_cons_self
    unfold cutAt
    rw [hc, ih]
    rfl
theorem cutAt_slash (t : List UInt8) : ∀ w : List UInt8, (∀ c ∈ w, c ≠ 47) → cutAt (w ++ 47 :: t) = w :: cutAt t
  | [], _ => by rw [List.nil_append, cutAt]; rfl
  | c :: r, h => by
    have ih := cutAt_slash t r (fun d hd => h d (List.mem_cons_of_mem _ hd))
    have hc : (c == 47) = false := by simpa using h c List.mem_cons_self
    rw [List.cons_append, cutAt, hc, ih]
    rfl

/-- The names of a path. -/
def splitR (s : ByteArray) : List ByteArray × Int := if s.data.toList.head? = some 47 then namesR s else ([], 160)
def isUp (x : ByteArray) : Bool := x.toList == [46, 46]
def trim (l : List ByteArray) : List ByteArray := l.dropWhile isUp
def withinR (a b : ByteArray) : Bool × Int :=
  if (splitR a).2 = 0 then
    if (splitR b).2 = 0 then
      if (trim (splitR a).1).any isUp = true ∨ (trim (splitR b).1).any isUp = true then (false, 160)
      else (decide ((trim (splitR b).1) <+: (trim (splitR a).1)), 0)
    else (false, (splitR b).2)
  else (false, (splitR a).2)

theorem namesR_len (s : ByteArray) : (namesR s).1.length ≤ 64 := by
  unfold namesR
  split
  · simp
  · split
    · simp
    · split
      · simp
      · rename_i h
        simp only [not_or] at h
        show (namesL s).length ≤ 64
        omega
theorem splitR_len (s : ByteArray) : (splitR s).1.length ≤ 64 := by
  unfold splitR
  split
  · exact namesR_len s
  · simp
theorem trim_len (l : List ByteArray) : (trim l).length ≤ l.length := by
  unfold trim
  exact (List.dropWhile_suffix _).length_le
theorem zero_any (l : List UInt8) : (l.any (· == 0)) = decide (0 ≤ Lib.indexByte l 0) := by
  induction l with
  | nil => rfl
  | cons b t ih =>
    have hge := Lib.indexByte_ge t 0
    rw [List.any_cons, ih]
    rw [show Lib.indexByte (b :: t) 0 = if b == 0 then 0 else if Lib.indexByte t 0 == -1 then -1 else Lib.indexByte t 0 + 1 from rfl]
    generalize Lib.indexByte t 0 = n at hge ih ⊢
    cases hb : b == 0
    · simp only [Bool.false_or, Bool.false_eq_true, if_false]
      by_cases h : n = -1
      · rw [h]; rfl
      · have h1 : (n == -1) = false := by simpa using h
        rw [h1]
        simp only [Bool.false_eq_true, if_false, decide_eq_decide]
        omega
    · simp
end Go.Proofs.YtbinnghemkppdaaDoor
