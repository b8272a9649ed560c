/- strings.SplitSeq at one slash: the pieces of a text, one behind the other. -/
import Derived.Test.YtbinnghemkppdaaDoorShelf
import Derived.Test.YtbinnghemkppdaaDoorRange
import Derived.WalkSpells
import Derived.WalkLawsBesides
import Derived.Lib.IndexLaws
namespace Go.Proofs.YtbinnghemkppdaaDoor
open Go.RowKit Go.Proofs
set_option linter.unusedVariables false
set_option linter.unusedSimpArgs false
attribute [local go_sem] Oper.semAt_some

/-- What stands between the slashes. -/
def cutAt : List UInt8 → List (List UInt8)
  | [] => [[]]
  | c :: t => if c == 47 then [] :: cutAt t else match cutAt t with | [] => [[c]] | p :: ps => (c :: p) :: ps

theorem cutAt_ne (l : List UInt8) : cutAt l ≠ [] := by
  cases l with
  | nil => simp [cutAt]
  | cons c t =>
    unfold cutAt
    split
    · simp
    · split <;> simp
theorem cutAt_none : ∀ {l : List UInt8}, Lib.indexByte l 47 = -1 → cutAt l = [l]
  | [], _ => rfl
  | c :: t, h => by
    unfold Lib.indexByte at h
    split at h
    · cases h
    · rename_i hc
      split at h
      · rename_i h1
        have ih := cutAt_none (l := t) (by simpa using h1)
        unfold cutAt
        rw [if_neg hc, ih]
      · have := Lib.indexByte_ge t 47
        omega
theorem cutAt_some : ∀ {l : List UInt8} {k : Nat}, Lib.indexByte l 47 = k → cutAt l = l.take k :: cutAt (l.drop (k + 1))
  | [], k, h => by simp [Lib.indexByte] at h
  | c :: t, k, h => by
    unfold Lib.indexByte at h
    split at h
    · rename_i hc
      have : k = 0 := by omega
      subst this
      conv => lhs; unfold cutAt
      rw [if_pos hc]
      rfl
    · rename_i hc
      split at h
      · omega
      · rename_i h1
        have h2 : ¬ Lib.indexByte t 47 = -1 := by simpa using h1
        have h3 := Lib.indexByte_ge t 47
        obtain ⟨j, hj⟩ : ∃ j : Nat, Lib.indexByte t 47 = j := ⟨(Lib.indexByte t 47).toNat, by omega⟩
        have ih := cutAt_some hj
        have : k = j + 1 := by omega
        subst this
        conv => lhs; unfold cutAt
        rw [if_neg hc, ih]
        rfl
theorem index_lt {l : List UInt8} {k : Nat} (h : Lib.indexByte l 47 = k) : k < l.length := by
  have := (Lib.indexByte_some h).1
  exact (List.getElem?_eq_some_iff.1 this).1

def leftAt (w : World) (B : Nat) : Nat := match w.heap[B]? with
  | some (.cells c _ _) => match c[0]? with
    | some (Value.string r) => r.size
    | _ => 0
  | _ => 0
theorem leftAt_of {w : World} {B : Nat} {r : ByteArray} (h : w.heap[B]? = some (.cells #[.string r] 9 (0, 0))) : leftAt w B = r.size := by
  unfold leftAt; rw [h]; rfl

theorem one_cell {w : World} {B : Nat} {v : Value} {t : TypeId} (h : w.heap[B]? = some (.cells #[v] t (0, 0))) : w.cell? ⟨B, 0, none⟩ = some v := by
  simp [World.cell?, h]
theorem one_free {w : World} {B : Nat} {v : Value} {t : TypeId} (h : w.heap[B]? = some (.cells #[v] t (0, 0))) : w.frozen? ⟨B, 0, none⟩ = false := by
  simp [World.frozen?, h]
theorem one_set {w : World} {B : Nat} {v u : Value} {t : TypeId} (h : w.heap[B]? = some (.cells #[v] t (0, 0))) : (w.setCell ⟨B, 0, none⟩ u).heap[B]? = some (.cells #[u] t (0, 0)) := by
  have hlt : B < w.heap.size := (Array.getElem?_eq_some_iff.1 h).1
  simp only [World.setCell, Array.getElem?_modify, h]
  simp
theorem other_set {w : World} {B C : Nat} {u : Value} (hn : C ≠ B) : (w.setCell ⟨B, 0, none⟩ u).heap[C]? = w.heap[C]? := Below.heap_setCell _ _ _ _ hn

theorem cut_step (pre : List ByteArray) (rest : ByteArray) (k : Nat) (hk : Lib.indexByte rest.data.toList 47 = k) :
    (pre ++ [rest.extract 0 k]).map (·.data.toList) ++ cutAt (rest.extract (k + 1) rest.size).data.toList = pre.map (·.data.toList) ++ cutAt rest.data.toList := by
  have e1 : (rest.extract 0 k).data.toList = rest.data.toList.take k := by rw [Lib.extract_data]; rfl
  have e2 : (rest.extract (k + 1) rest.size).data.toList = rest.data.toList.drop (k + 1) := by
    rw [Lib.extract_data, List.take_of_length_le]
    rw [List.length_drop, Lib.size_eq]
    exact Nat.le_refl _
  rw [cutAt_some hk, List.map_append, e2, List.append_assoc]
  show _ ++ ([(rest.extract 0 k).data.toList] ++ _) = _
  rw [e1]
  rfl

set_option maxHeartbeats 2000000 in
set_option maxRecDepth 100000 in
theorem split_seq (n : Nat) (s : ByteArray) (hs : s.size ≤ 4096) (B1 B2 B3 : Nat) (w : World) (h12 : B1 ≠ B2) (h32 : B3 ≠ B2)
    (k1 : w.heap[B1]? = some (.cells #[.string ⟨#[47]⟩] 9 (0, 0))) (k2 : w.heap[B2]? = some (.cells #[.string s] 9 (0, 0))) (k3 : w.heap[B3]? = some (.cells #[.int .i64 0] 3 (0, 0))) :
    SeqCell Fence.wide n Tryd.prog 56 #[.pointer (some ⟨B1, 0, none⟩), .pointer (some ⟨B2, 0, none⟩), .pointer (some ⟨B3, 0, none⟩)] (fun x : ByteArray => #[.string x]) [B1, B2, B3] B2
      (fun xs => xs.map (·.data.toList) = cutAt s.data.toList) (cutAt s.data.toList).length w := by
  intro l J W hW hJ hJB hY h0
  have q1 := (hW.block B1 (Array.getElem?_eq_some_iff.1 k1).1).trans k1
  have q2 := (hW.block B2 (Array.getElem?_eq_some_iff.1 k2).1).trans k2
  have q3 := (hW.block B3 (Array.getElem?_eq_some_iff.1 k3).1).trans k3
  have HY := Lib.hid hY
  have HJB := Lib.hid hJB
  have H0 := Lib.hid h0
  clear hW hJ hJB hY h0 k1 k2 k3
  have g1 := one_cell q1
  have Q1 := Lib.hid q1
  have Q2 := Lib.hid q2
  have Q3 := Lib.hid q3
  clear q1 q2 q3
  refine callsIn_of_wp Tryd.func56 rfl trivial ?_ rfl
  simp only [Tryd.ntmps56, List.size_toArray, List.length_cons, List.length_nil, Nat.reduceAdd, Nat.reduceSub, Array.replicate_succ, Array.replicate_zero, List.push_toArray, List.append_toArray, List.nil_append, List.cons_append]
  gi_wp2
  clear g1
  gi_loopw [7, 8] (fun i f wr => ∃ (pre : List ByteArray) (rest : ByteArray), Hid (J pre wr) ∧ Hid (pre.map (·.data.toList) ++ cutAt rest.data.toList = cutAt s.data.toList) ∧ rest.size ≤ 4096 ∧ Hid (wr.heap[B1]? = some (.cells #[.string ⟨#[47]⟩] 9 (0, 0))) ∧ Hid (wr.heap[B2]? = some (.cells #[.string rest] 9 (0, 0))) ∧ Hid (wr.heap[B3]? = some (.cells #[.int .i64 0] 3 (0, 0)))) (fun _ _ wr => leftAt wr B2)
  case atStart => exact ⟨[], s, H0, rfl, hs, Q1, Q2, Q3⟩
  case round =>
    clear Q1 Q2 Q3 H0
    obtain ⟨pre, rest, HJ, HC, hr, Q1, Q2, Q3⟩ := hrel
    have g1 := one_cell Q1.out
    have g2 := one_cell Q2.out
    have g3 := one_cell Q3.out
    by_cases hneg : Lib.indexByte rest.data.toList 47 = -1
    · have hcut := cutAt_none hneg
      have hlen : pre.length < (cutAt s.data.toList).length := by
        rw [← HC.out, List.length_append, List.length_map, hcut]; simp
      obtain ⟨fn, tmps, assign, body, hy, hR⟩ := HY.out pre rest wr HJ.out hlen
      have HCut : Hid (((pre ++ [rest]).map (·.data.toList)) = cutAt s.data.toList) := Lib.hid (by rw [← HC.out, hcut]; simp)
      have HR := Lib.hid hR
      clear hcut hlen hR
      gi_wp2_with (refine ⟨trivial, fun h => absurd h (by decide), ?_⟩; gi_at_call 49; refine (callsIn_wide.2 (Tryd.strings_Index_one rest 47 _)).mono ?_; rintro e w' ⟨rfl, hw⟩; rw [hw, hneg])
      refine ⟨fun h => absurd h (by decide), ?_⟩
      refine HR.out.mono ?_
      rintro e W3 ⟨rfl, hJ3, hk3⟩
      gi_wp2
      go_end0
      exact ⟨⟨_, rfl⟩, _, HCut.out, hJ3⟩
    · obtain ⟨k, hk⟩ : ∃ k : Nat, Lib.indexByte rest.data.toList 47 = k := ⟨(Lib.indexByte rest.data.toList 47).toNat, by have := Lib.indexByte_ge rest.data.toList 47; omega⟩
      have hcut := cutAt_some hk
      have hlt : k < rest.size := by rw [Lib.size_eq]; exact index_lt hk
      have hlen : pre.length < (cutAt s.data.toList).length := by
        rw [← HC.out, List.length_append, List.length_map, hcut]; simp
      obtain ⟨fn, tmps, assign, body, hy, hR⟩ := HY.out pre (rest.extract 0 k) wr HJ.out hlen
      have HCut : Hid ((pre ++ [rest.extract 0 k]).map (·.data.toList) ++ cutAt (rest.extract (k + 1) rest.size).data.toList = cutAt s.data.toList) := Lib.hid (by rw [← HC.out]; exact cut_step pre rest k hk)
      have HR := Lib.hid hR
      have hsz : (rest.extract (k + 1) rest.size).size = rest.size - (k + 1) := by simp
      clear hcut hlen hR hneg
      gi_wp2_with (refine ⟨trivial, fun h => absurd h (by decide), ?_⟩; gi_at_call 49; refine (callsIn_wide.2 (Tryd.strings_Index_one rest 47 _)).mono ?_; rintro e w' ⟨rfl, hw⟩; rw [hw, hk])
      refine ⟨fun h => absurd h (by decide), ?_⟩
      refine HR.out.mono ?_
      rintro e W3 ⟨rfl, hJ3, hk3⟩
      have R1 := (hk3 B1 (by simp)).trans Q1.out
      have R2 := (hk3 B2 (by simp)).trans Q2.out
      have R3 := (hk3 B3 (by simp)).trans Q3.out
      have HJ3 := Lib.hid hJ3
      have e1 := one_cell R1
      have e2 := one_cell R2
      have e3 := one_cell R3
      have f2 := one_free R2
      have HR1 := Lib.hid R1
      have HR2 := Lib.hid R2
      have HR3 := Lib.hid R3
      clear hJ3 hk3 R1 R2 R3 g1 g2 g3
      gi_wp2
      go_roundw
      case rel => exact ⟨pre ++ [rest.extract 0 k], rest.extract (k + 1) rest.size, Lib.hid (HJB.out _ _ _ HJ3.out), HCut, by omega, Lib.hid ((other_set h12).trans HR1.out), Lib.hid (one_set HR2.out), Lib.hid ((other_set h32).trans HR3.out)⟩
      case measure => rw [leftAt_of (one_set HR2.out), leftAt_of Q2.out]; omega
end Go.Proofs.YtbinnghemkppdaaDoor
