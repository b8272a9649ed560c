/- What path.Join computes. -/
import Derived.Test.YtbinnghemkppdaaDoorPHDPathTherex1
import Derived.Test.YtbinnghemkppdaaDoorJoined
namespace Go.Proofs.YtbinnghemkppdaaDoor.PHDPathThere
open Go.RowKit Go.Proofs.YtbinnghemkppdaaDoorW.PrintWords Go.Proofs.YtbinnghemkppdaaDoorW.PrintLast
set_option linter.unusedVariables false
set_option linter.unusedSimpArgs false

def badName (x : ByteArray) : Bool := !(x.toList == [46, 46]) && !(nameNo x.data.toList == 0)
def total (l : List ByteArray) : Nat := (l.map fun x => 1 + x.size).sum
def slashed (l : List ByteArray) : List UInt8 := l.flatMap fun x => 47 :: x.data.toList
def joined (l : List ByteArray) : ByteArray := if l.length = 0 then ⟨#[47]⟩ else ⟨(slashed l).toArray⟩
def JR (l : List ByteArray) : ByteArray × Int :=
  if l.any badName then (⟨#[]⟩, 81) else if 64 < l.length then (⟨#[]⟩, 161) else if 1023 < total l then (⟨#[]⟩, 161) else (joined l, 0)

theorem ba_ext {a b : ByteArray} (h : a.data.toList = b.data.toList) : a = b := by
  cases a; cases b
  congr 1
  exact Array.toList_inj.1 h
theorem slashed_len (l : List ByteArray) : (slashed l).length = total l := by
  induction l with
  | nil => rfl
  | cons x t ih =>
    simp only [slashed, total, List.flatMap_cons, List.length_append, List.map_cons, List.sum_cons, List.length_cons] at ih ⊢
    rw [ih, ← Lib.size_eq]
    omega
theorem size_mk (l : List UInt8) : (⟨l.toArray⟩ : ByteArray).size = l.length := by simp [ByteArray.size]
theorem slashed_snoc (l : List ByteArray) (x : ByteArray) : slashed (l ++ [x]) = slashed l ++ 47 :: x.data.toList := by simp [slashed]
theorem total_snoc (l : List ByteArray) (x : ByteArray) : total (l ++ [x]) = total l + (1 + x.size) := by simp [total]
theorem rd_take {l : List ByteArray} {i : Nat} (h : i < l.length) : l.take (i + 1) = l.take i ++ [rdOf ByteArray.empty l (i : Int)] := by
  rw [List.take_succ_eq_append_getElem h]
  congr 2
  show l[i] = l.getD (i : Int).toNat ByteArray.empty
  rw [Int.toNat_natCast, List.getD_eq_getElem?_getD, List.getElem?_eq_getElem h]
  rfl
theorem rd_mem {l : List ByteArray} {i : Nat} (h : i < l.length) : rdOf ByteArray.empty l (i : Int) = l[i] := by
  show l.getD (i : Int).toNat ByteArray.empty = l[i]
  rw [Int.toNat_natCast, List.getD_eq_getElem?_getD, List.getElem?_eq_getElem h]
  rfl
theorem good_small {x : ByteArray} (h : badName x = false) : x.size ≤ 63 := by
  unfold badName at h
  rw [Bool.and_eq_false_iff] at h
  rcases h with h | h
  · rw [Bool.not_eq_false', beq_iff_eq] at h
    have : x.size = 2 := by rw [Lib.size_eq, ← Lib.toList_data, h]; rfl
    omega
  · rw [Bool.not_eq_false', beq_iff_eq] at h
    unfold nameNo at h
    split at h
    · rename_i hok
      unfold nameOk at hok
      simp only [Bool.and_eq_true, decide_eq_true_eq] at hok
      rw [Lib.size_eq]
      exact hok.1.1.1.2
    · cases h
theorem total_le {l : List ByteArray} (h : l.any badName = false) : total l ≤ 64 * l.length := by
  induction l with
  | nil => exact Nat.le_refl _
  | cons x t ih =>
    rw [List.any_cons, Bool.or_eq_false_iff] at h
    have := ih h.2
    have := good_small h.1
    simp only [total, List.map_cons, List.sum_cons, List.length_cons] at *
    omega
theorem JR_bad {l : List ByteArray} (h : l.any badName = true) : JR l = (⟨#[]⟩, 81) := if_pos h
theorem JR_len {l : List ByteArray} (h : l.any badName = false) (h1 : 64 < l.length) : JR l = (⟨#[]⟩, 161) := by
  unfold JR; rw [h, if_neg Bool.false_ne_true, if_pos h1]
theorem JR_tot {l : List ByteArray} (h : l.any badName = false) (h2 : 1023 < total l) : JR l = (⟨#[]⟩, 161) := by
  unfold JR; rw [h, if_neg Bool.false_ne_true, if_pos h2]
  split <;> rfl
theorem JR_ok {l : List ByteArray} (h : l.any badName = false) (h1 : ¬ 64 < l.length) (h2 : ¬ 1023 < total l) : JR l = (joined l, 0) := by
  unfold JR; rw [h, if_neg Bool.false_ne_true, if_neg h1, if_neg h2]
theorem join_slash (l : List ByteArray) : [47] ++ Lib.join (l.map (·.data.toList)) [47] = (joined l).data.toList := by
  unfold joined
  cases l with
  | nil => rfl
  | cons x t =>
    rw [if_neg (by simp)]
    show _ = slashed (x :: t)
    unfold Lib.join slashed
    induction t generalizing x with
    | nil => simp [List.intercalate]
    | cons y s ih =>
      have := ih y
      simp only [List.map_cons, List.flatMap_cons, List.intercalate, List.intersperse] at this ⊢
      simp only [List.flatten_cons, List.cons_append, List.nil_append] at this ⊢
      rw [← this]
theorem joined_len (l : List ByteArray) : (joined l).data.toList.length = if l.length = 0 then 1 else total l := by
  unfold joined
  split
  · rfl
  · exact slashed_len l
theorem join_len (l : List ByteArray) : (Lib.join (l.map (·.data.toList)) [47]).length ≤ total l := by
  have h : 1 + (Lib.join (l.map (·.data.toList)) [47]).length = (joined l).data.toList.length := by rw [← join_slash, List.length_append]; rfl
  rw [joined_len] at h
  split at h <;> omega
theorem join_some {l : List ByteArray} (h1 : l.length ≤ 64) (h2 : total l ≤ 1023) : strings_Join.f l ⟨#[47]⟩ = some ⟨(Lib.join (l.map (·.data.toList)) [47]).toArray⟩ := by
  unfold strings_Join.f
  have := join_len l
  exact if_pos ⟨by omega, by show (Lib.join (l.map (·.data.toList)) [47]).length ≤ _; omega⟩

theorem join_from (l : List ByteArray) (hl : l.length ≤ 8796093022208) (d : Nat) : ∀ (k i : Nat), i + d = l.length → d < k → (l.take i).any badName = false →
    path_Join.l0 k l (total (l.take i) : Nat) l l.length i = some (JR l) := by
  induction d with
  | zero =>
    intro k i hi hk hok
    obtain ⟨k, rfl⟩ : ∃ m, k = m + 1 := ⟨k - 1, by omega⟩
    obtain rfl : i = l.length := by omega
    rw [List.take_length] at hok ⊢
    simp only [path_Join.l0]
    rw [if_neg (by omega)]
    by_cases h64 : 64 < l.length
    · rw [if_pos (by omega), JR_len hok h64]
    · rw [if_neg (by omega)]
      by_cases ht : 1023 < total l
      · rw [if_pos (by omega), JR_tot hok ht]
      · rw [if_neg (by omega), JR_ok hok h64 ht, join_some (by omega) (by omega)]
        have hlen := join_len l
        simp only [Option.bind_some]
        rw [if_pos (by rw [size_mk]; omega)]
        congr 2
        refine ba_ext ?_
        rw [ByteArray.data_append, Array.toList_append]
        exact join_slash l
  | succ d ih =>
    intro k i hi hk hok
    obtain ⟨k, rfl⟩ : ∃ m, k = m + 1 := ⟨k - 1, by omega⟩
    have hlt : i < l.length := by omega
    simp only [path_Join.l0]
    rw [if_pos (by omega), if_pos (by omega), if_pos (by omega)]
    have hts := rd_take hlt
    have htot := total_le hok
    have htl : (l.take i).length = i := by rw [List.length_take]; omega
    cases hb : badName (rdOf ByteArray.empty l i)
    · have hok' : (l.take (i + 1)).any badName = false := by rw [hts, List.any_append, hok, List.any_cons, hb]; rfl
      have hsm := good_small hb
      have hnx := ih k (i + 1) (by omega) (by omega) hok'
      have e1 : wrap64 ((i : Int) + 1) = ((i + 1 : Nat) : Int) := by unfold wrap64; omega
      have e2 : wrap64 (((total (l.take i) : Nat) : Int) + wrap64 (1 + ((rdOf ByteArray.empty l i).size : Int))) = ((total (l.take (i + 1)) : Nat) : Int) := by
        rw [hts, total_snoc]
        unfold wrap64
        omega
      rw [e1, e2]
      by_cases hdd : (rdOf ByteArray.empty l i).toList = [46, 46]
      · rw [if_pos hdd]; exact hnx
      · rw [if_neg hdd]
        have hn : nameNo (rdOf ByteArray.empty l i).data.toList = 0 := by
          unfold badName at hb
          rw [Bool.and_eq_false_iff] at hb
          rcases hb with h | h
          · rw [Bool.not_eq_false', beq_iff_eq] at h; exact absurd h hdd
          · rw [Bool.not_eq_false', beq_iff_eq] at h; exact h
        rw [node_Name.f, hn]
        simp only [Option.bind_some, if_true]
        exact hnx
    · have hn : ¬ (rdOf ByteArray.empty l i).toList = [46, 46] ∧ ¬ nameNo (rdOf ByteArray.empty l i).data.toList = 0 := by
        unfold badName at hb
        simp only [Bool.and_eq_true, Bool.not_eq_true', beq_eq_false_iff_ne] at hb
        exact hb
      rw [if_neg hn.1, node_Name.f]
      simp only [Option.bind_some]
      rw [if_neg hn.2]
      have : l.any badName = true := by
        rw [List.any_eq_true]
        exact ⟨l[i], List.getElem_mem hlt, by rw [← rd_mem hlt]; exact hb⟩
      rw [JR_bad this]

theorem join_path (l : List ByteArray) (hl : l.length ≤ 8796093022208) : path_Join.f (l.length + 1) l = some (JR l) :=
  join_from l hl l.length (l.length + 1) 0 (by omega) (by omega) rfl


end Go.Proofs.YtbinnghemkppdaaDoor.PHDPathThere
