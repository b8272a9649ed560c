/- The bytes of a header, one by one; a header out of its bytes, and back: plain lists. -/
import Derived.Test.YtljamhpdgmelcaaDoorRefPack
import Derived.Deep.LoopGhost
namespace Go.Proofs.YtljamhpdgmelcaaDoor
section
open Go.RowKit Go.Proofs Go.Proofs.YtljamhpdgmelcaaDoorW.PrintWords
set_option linter.unusedVariables false
set_option linter.unusedSimpArgs false
attribute [local go_sem] Oper.semAt_some

/-- From ⟨g, o⟩ on lie the bytes L. -/
def Vw (W : World) (g o : Nat) (L : List Int) : Prop := ∀ i x, L[i]? = some x → W.cell? ⟨g, o + i, none⟩ = some (.int .u8 x)
def Byts (L : List Int) : Prop := ∀ x ∈ L, 0 ≤ x ∧ x < 256
theorem Byts.at_ {L : List Int} (h : Byts L) {i : Nat} {x : Int} (hx : L[i]? = some x) : 0 ≤ x ∧ x < 256 := h x (List.mem_of_getElem? hx)
theorem Vw.below {W W' : World} {g o : Nat} {L : List Int} (h : Vw W g o L) (hb : Below W.heap.size W W') : Vw W' g o L := fun i x hx => (hb.cell (lt_of_cell (h i x hx))).trans (h i x hx)
theorem Vw.drop {W : World} {g o : Nat} {L : List Int} (h : Vw W g o L) (n : Nat) : Vw W g (o + n) (L.drop n) := fun i x hx => by
  rw [List.getElem?_drop] at hx
  rw [Nat.add_assoc]
  exact h _ _ hx
theorem Vw.take {W : World} {g o : Nat} {L : List Int} (h : Vw W g o L) (n : Nat) : Vw W g o (L.take n) := fun i x hx => by
  rw [List.getElem?_take] at hx
  split at hx
  · exact h _ _ hx
  · cases hx
theorem Byts.take {L : List Int} (h : Byts L) (n : Nat) : Byts (L.take n) := fun x hx => h x (List.mem_of_mem_take hx)
theorem Byts.drop {L : List Int} (h : Byts L) (n : Nat) : Byts (L.drop n) := fun x hx => h x (List.mem_of_mem_drop hx)

/-- The number that k bytes from at_ on are. -/
def leV (L : List Int) (at_ : Nat) : Nat → Nat
  | 0 => 0
  | k + 1 => leV L at_ k + (L.getD (at_ + k) 0).toNat * 2 ^ (8 * k)
theorem leV_lt {L : List Int} (h : Byts L) (at_ : Nat) : ∀ k, leV L at_ k < 2 ^ (8 * k)
  | 0 => by simp [leV]
  | k + 1 => by
    have ih := leV_lt h at_ k
    have hb : (L.getD (at_ + k) 0).toNat < 256 := by
      rw [List.getD_eq_getElem?_getD]
      cases hx : L[at_ + k]? with
      | none => simp
      | some x => have := h.at_ hx; simp; omega
    rw [leV, show 8 * (k + 1) = 8 * k + 8 by omega, Nat.pow_add]
    have : (L.getD (at_ + k) 0).toNat * 2 ^ (8 * k) ≤ 255 * 2 ^ (8 * k) := Nat.mul_le_mul_right _ (by omega)
    omega

theorem wraps_u64 (n : Int) (h0 : 0 ≤ n) (h1 : n < 2 ^ 64) : IntKind.u64.wrap n = n := by
  simp only [IntKind.wrap, IntKind.bits, IntKind.signed]
  simp
  omega
theorem get_step (lo y i : Nat) (hi : i < 8) (hlo : lo < 2 ^ (8 * i)) (hy : y < 256) : Go.bits .or .u64 (lo : Int) (IntKind.u64.wrap ((y : Int) * 2 ^ (8 * i))) = ((lo + y * 2 ^ (8 * i) : Nat) : Int) := by
  have hp : 2 ^ (8 * i) * 256 ≤ 2 ^ 64 := by
    rw [show (256 : Nat) = 2 ^ 8 from rfl, ← Nat.pow_add]
    exact Nat.pow_le_pow_right (by decide) (by omega)
  have hlt : y * 2 ^ (8 * i) < 2 ^ 64 := by
    have : y * 2 ^ (8 * i) ≤ 255 * 2 ^ (8 * i) := Nat.mul_le_mul_right _ (by omega)
    have h0 := Nat.two_pow_pos (8 * i)
    omega
  have hlo64 : lo < 2 ^ 64 := by
    have h0 := Nat.two_pow_pos (8 * i)
    omega
  have e : (y : Int) * 2 ^ (8 * i) = ((y * 2 ^ (8 * i) : Nat) : Int) := by simp
  rw [e, wraps_u64 _ (Int.natCast_nonneg _) (by exact_mod_cast hlt)]
  rw [(bits_nat .u64 64 (by decide) wraps_u64 lo _ hlo64 hlt).2, Nat.or_comm, ← (bits_nat .u64 64 (by decide) wraps_u64 _ lo hlt hlo64).2]
  rw [bits_join .u64 64 (by decide) wraps_u64 (8 * i) _ _ (Int.natCast_nonneg _) (by exact_mod_cast Nat.mul_mod_left _ _) (by exact_mod_cast hlt) (Int.natCast_nonneg _) (by exact_mod_cast hlo) (by exact_mod_cast hlo64)]
  rw [Nat.add_comm]
  simp

set_option maxHeartbeats 2000000 in
theorem get_calls (g o c at_ size : Nat) (L : List Int) (w : World) (h : Vw w g o L) (hB : Byts L) (hs1 : 1 ≤ size) (hs8 : size ≤ 8) (hat : at_ + size ≤ L.length) (hL : L.length ≤ 1024) (ho : (0 : Nat) ≤ 281474976710656) :
    Calls Tryd.prog 20 #[.slice (some ⟨g, o, none⟩) L.length c, .int .i64 at_, .int .i64 size] w fun e w' => e = .returned (.tuple #[.int .u64 (leV L at_ size), .int .i64 0]) ∧ w = w' := by
  have HR := Lib.hid h
  have HB := Lib.hid hB
  obtain ⟨n, hn⟩ : ∃ n, n = L.length := ⟨_, rfl⟩
  have HN := Lib.hid hn
  rw [← hn] at hat hL ⊢
  clear h hn hB
  go_enter Tryd.func20, Tryd.ntmps20
  go_wp2
  go_loopg [8, 27] size (fun gg x8 x27 wr => ∃ i, i ≤ size ∧ size - i ≤ gg ∧ x27 = .int .i64 i ∧ x8 = .int .u64 (leV L at_ i) ∧ wr = w)
  case atStart => exact ⟨0, Nat.zero_le _, by omega, rfl, rfl, rfl⟩
  case round =>
    obtain ⟨i, hi, hg, rfl, rfl, rfl⟩ := hrel
    by_cases hlt : i < size
    · have hltz : (i : Int) < (size : Int) := by omega
      have hi8 : i < 8 := by omega
      have hx : ∃ x, L[at_ + i]? = some x := ⟨_, List.getElem?_eq_getElem (by rw [← HN.out]; omega)⟩
      obtain ⟨x, hx⟩ := hx
      obtain ⟨x0, x1⟩ := HB.out.at_ hx
      obtain ⟨y, rfl⟩ := Int.eq_ofNat_of_zero_le x0
      have hcell : wr.cell? ⟨g, o + (at_ + i), none⟩ = some (.int .u8 y) := HR.out _ _ hx
      have HX := Lib.hid hx
      clear hx x0
      go_wp2
      go_roundg (size - (i + 1))
      case measure => omega
      case rel =>
        refine ⟨i + 1, by omega, by omega, by go_num, ?_, rfl⟩
        rw [get_step _ _ _ hi8 (leV_lt HB.out at_ i) (by omega), leV, List.getD_eq_getElem?_getD, HX.out]
        rfl
    · have hltz : ¬ (i : Int) < (size : Int) := by omega
      obtain rfl : i = size := by omega
      go_wp2
      refine bodyPost_ret (results_tmp2 rfl _ _ _) rfl ?_
      exact ⟨rfl, rfl⟩
end

section
open Go.RowKit Go.Proofs Go.Proofs.YtljamhpdgmelcaaDoorW.PrintWords
set_option linter.unusedVariables false
set_option linter.unusedSimpArgs false

def zeroNd : Nd := ⟨0, 0, ByteArray.empty, 0, 0, 0, 0, ByteArray.empty⟩
def nlen (L : List Int) : Nat := (L.getD 23 0).toNat
def tlen (L : List Int) : Nat := (L.getD (24 + nlen L) 0).toNat
def ndOf (L : List Int) : Nd := ⟨leV L 0 1, leV L 1 4, strOfNums ((L.drop 24).take (nlen L)), leV L 5 4, leV L 9 2, leV L 11 8, leV L 19 4, strOfNums (L.drop (25 + nlen L))⟩
def shaped (L : List Int) : Bool := decide (25 + nlen L ≤ L.length) && decide (L.length = 25 + nlen L + tlen L)
def readN (L : List Int) : Nd × Int := if shaped L then (if checkNo (ndOf L) = 0 then (ndOf L, 0) else (zeroNd, checkNo (ndOf L))) else (zeroNd, 80)

theorem getD_append_right' (A B : List Int) (i : Nat) : (A ++ B).getD (A.length + i) 0 = B.getD i 0 := by
  rw [List.getD_eq_getElem?_getD, List.getElem?_append_right (by omega), Nat.add_sub_cancel_left, ← List.getD_eq_getElem?_getD]
theorem getD_append_left' (A B : List Int) (i : Nat) (h : i < A.length) : (A ++ B).getD i 0 = A.getD i 0 := by
  rw [List.getD_eq_getElem?_getD, List.getElem?_append_left h, ← List.getD_eq_getElem?_getD]
theorem leV_left (A B : List Int) (at_ : Nat) : ∀ k, at_ + k ≤ A.length → leV (A ++ B) at_ k = leV A at_ k
  | 0, _ => rfl
  | k + 1, h => by rw [leV, leV, leV_left A B at_ k (by omega), getD_append_left' _ _ _ (by omega)]
theorem leV_right (A B : List Int) : ∀ k i, leV (A ++ B) (A.length + i) k = leV B i k
  | 0, _ => rfl
  | k + 1, i => by rw [leV, leV, leV_right A B k i, Nat.add_assoc, getD_append_right']
theorem leV_leN (v : Nat) : ∀ k B, leV (leN v k ++ B) 0 k = v % 2 ^ (8 * k)
  | 0, B => by simp [leV, Nat.mod_one]
  | k + 1, B => by
    have e : (leN v (k + 1) ++ B) = leN v k ++ (((v / 2 ^ (8 * k) % 256 : Nat) : Int) :: B) := by rw [leN_succ]; simp
    have g : (leN v k ++ (((v / 2 ^ (8 * k) % 256 : Nat) : Int) :: B)).getD (0 + k) 0 = ((v / 2 ^ (8 * k) % 256 : Nat) : Int) := by
      have := getD_append_right' (leN v k) (((v / 2 ^ (8 * k) % 256 : Nat) : Int) :: B) 0
      rw [leN_len, Nat.add_zero] at this
      rw [Nat.zero_add, this]
      rfl
    rw [leV, e, leV_leN v k, g, Int.toNat_natCast, show 8 * (k + 1) = 8 * k + 8 by omega, Nat.pow_add, Nat.mod_mul]
    exact congrArg (v % 2 ^ (8 * k) + ·) (Nat.mul_comm _ _)
theorem leN_leV {L : List Int} (hb : Byts L) (at_ : Nat) : ∀ k, at_ + k ≤ L.length → leN (leV L at_ k) k = (L.drop at_).take k
  | 0, _ => by simp [leN]
  | k + 1, h => by
    obtain ⟨x, hx⟩ : ∃ x, L[at_ + k]? = some x := ⟨_, List.getElem?_eq_getElem (by omega)⟩
    obtain ⟨x0, x1⟩ := hb.at_ hx
    have hg : L.getD (at_ + k) 0 = x := by rw [List.getD_eq_getElem?_getD, hx]; rfl
    have hlt := leV_lt hb at_ k
    have ih := leN_leV hb at_ k (by omega)
    have e1 : leN (leV L at_ (k + 1)) k = leN (leV L at_ k) k := by
      unfold leN
      refine List.map_congr_left fun i hi => ?_
      have hik : i < k := List.mem_range.1 hi
      have e : (leV L at_ k + x.toNat * 2 ^ (8 * k)) / 2 ^ (8 * i) = leV L at_ k / 2 ^ (8 * i) + x.toNat * 2 ^ (8 * (k - i)) := by
        have : x.toNat * 2 ^ (8 * k) = 2 ^ (8 * i) * (x.toNat * 2 ^ (8 * (k - i))) := by
          rw [show 8 * k = 8 * i + 8 * (k - i) by omega, Nat.pow_add]
          rw [Nat.mul_left_comm]
        rw [this, Nat.add_mul_div_left _ _ (Nat.two_pow_pos _)]
      have e' : x.toNat * 2 ^ (8 * (k - i)) = 256 * (x.toNat * 2 ^ (8 * (k - i - 1))) := by
        rw [show 8 * (k - i) = 8 + 8 * (k - i - 1) by omega, Nat.pow_add]
        rw [Nat.mul_left_comm]
      rw [leV, hg, e, e', Nat.add_mul_mod_self_left]
    have e2 : leV L at_ (k + 1) / 2 ^ (8 * k) % 256 = x.toNat := by
      rw [leV, hg, Nat.add_mul_div_right _ _ (Nat.two_pow_pos _), Nat.div_eq_of_lt hlt, Nat.zero_add]
      omega
    rw [leN_succ, e1, ih, e2, List.take_add_one, List.getElem?_drop, hx]
    rw [Int.toNat_of_nonneg x0]
    rfl

theorem bytesOf_str (l : List Int) (h : Byts l) : bytesOf (strOfNums l) = l := by
  unfold bytesOf strOfNums
  simp only [List.map_map]
  conv => rhs; rw [← List.map_id l]
  refine List.map_congr_left fun x hx => ?_
  obtain ⟨a, b⟩ := h x hx
  simp only [Function.comp_apply, id]
  simp [UInt8.toNat_ofNat']
  omega
theorem str_bytesOf (s : ByteArray) : strOfNums (bytesOf s) = s := by
  apply ba_ext
  unfold bytesOf strOfNums
  simp only [List.map_map]
  conv => rhs; rw [← List.map_id s.data.toList]
  refine List.map_congr_left fun x hx => ?_
  simp
theorem Byts_bytesOf (s : ByteArray) : Byts (bytesOf s) := fun x hx => by
  unfold bytesOf at hx
  obtain ⟨b, _, rfl⟩ := List.mem_map.1 hx
  have := b.toNat_lt
  omega
end
end Go.Proofs.YtljamhpdgmelcaaDoor
