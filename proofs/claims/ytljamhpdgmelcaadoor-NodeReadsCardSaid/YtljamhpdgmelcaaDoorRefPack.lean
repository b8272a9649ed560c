/- A header's bytes: node.Pack and the reference's Pack tell the same. -/
import Derived.Test.YtljamhpdgmelcaaDoorPack
import Derived.Laws.BitsLemmas
namespace Go.Proofs.YtljamhpdgmelcaaDoor
open Go.RowKit Go.Proofs Go.Proofs.YtljamhpdgmelcaaDoorW.PrintWords Go.Proofs.YtljamhpdgmelcaaDoorW.PrintMore Go.Proofs.YtljamhpdgmelcaaDoor.PHDNodePacks
set_option linter.unusedVariables false
set_option linter.unusedSimpArgs false

/-- The first k bytes of a number, the lowest first. -/
def leN (v : Nat) (k : Nat) : List Int := (List.range k).map fun i => ((v / 2 ^ (8 * i) % 256 : Nat) : Int)
theorem leN_len (v k : Nat) : (leN v k).length = k := by simp [leN]
theorem leN_succ (v k : Nat) : leN v (k + 1) = leN v k ++ [((v / 2 ^ (8 * k) % 256 : Nat) : Int)] := by simp [leN, List.range_succ]
def headB (T P S M X H : Nat) : List Int := leN T 1 ++ leN P 4 ++ leN S 4 ++ leN M 2 ++ leN X 8 ++ leN H 4
theorem headB_len (T P S M X H : Nat) : (headB T P S M X H).length = 23 := by simp [headB, leN_len]
theorem head_eq (T P S M X H : Nat) : setLE (setLE (setLE (setLE (setLE (setLE (List.replicate 23 0) 0 T 1) 1 P 4) 5 S 4) 9 M 2) 11 X 8) 19 H 4 = headB T P S M X H := by
  simp [setLE, headB, leN, List.range_succ, List.replicate, List.set]
/-- A header's bytes. -/
def bytesB (n : Nd) : List Int := headB n.ty.toNat n.parent.toNat n.size.toNat n.mode.toNat n.stamp.toNat n.shadow.toNat ++ textL n.name ++ textL n.target
def packB (n : Nd) : List Int := if checkNo n = 0 then bytesB n else []

/-- What a header that may be is. -/
structure Fine (n : Nd) : Prop where
  t1 : 1 ≤ n.ty
  t3 : n.ty ≤ 3
  p0 : 0 ≤ n.parent
  p1 : n.parent ≤ 1048575
  nm : nameNo n.name.data.toList = 0
  nl : n.name.size ≤ 63
  s0 : 0 ≤ n.size
  s1 : n.size ≤ 2147483648
  m0 : 0 ≤ n.mode
  m1 : n.mode ≤ 4095
  h0 : 0 ≤ n.shadow
  h1 : n.shadow ≤ 1048575
  tl : n.target.size ≤ 127
theorem fine_of {n : Nd} (h : checkNo n = 0) : Fine n := by
  unfold checkNo at h
  by_cases h1 : (!inB n.ty 1 3 || !inB n.parent 0 1048575) = true
  · rw [if_pos h1] at h; exact absurd h (by decide)
  rw [if_neg h1] at h
  by_cases h2 : (nameNo n.name.data.toList == 81) = true
  · rw [if_pos h2] at h; exact absurd h (by decide)
  rw [if_neg h2] at h
  by_cases h3 : (!inB n.size 0 (if n.ty == 1 then 2147483648 else 0) || !inB n.mode 0 4095 || (n.shadow != 0 && !inB n.shadow 2 1048575)) = true
  · rw [if_pos h3] at h; exact absurd h (by decide)
  rw [if_neg h3] at h
  by_cases h4 : tgtOk n.ty n.target = true
  case neg => rw [if_neg h4] at h; exact absurd h (by decide)
  generalize hmx : (if n.ty == 1 then (2147483648 : Int) else 0) = mx at h3
  have hmx' : mx ≤ 2147483648 := by rw [← hmx]; split <;> decide
  simp only [Bool.or_eq_true, Bool.not_eq_true', not_or, Bool.not_eq_false, inB, decide_eq_true_eq, Bool.and_eq_true, not_and, bne_iff_ne, ne_eq] at h1 h2 h3
  obtain ⟨⟨a1, a2⟩, a3, a4⟩ := h1
  obtain ⟨⟨⟨b1, b2⟩, b3, b4⟩, b5⟩ := h3
  have hn : nameNo n.name.data.toList = 0 := (nameNo_two _).resolve_right (fun e => by rw [e] at h2; exact h2 rfl)
  refine ⟨a1, a2, a3, a4, hn, ?_, b1, ?_, b3, b4, ?_, ?_, ?_⟩
  · unfold nameNo at hn
    split at hn
    · rename_i h5
      unfold nameOk at h5
      simp only [Bool.and_eq_true, decide_eq_true_eq] at h5
      have := h5.1.1.1.2
      simpa using this
    · cases hn
  · omega
  · by_cases h0 : n.shadow = 0
    · omega
    · have := b5 h0; omega
  · by_cases h0 : n.shadow = 0
    · omega
    · have := b5 h0; omega
  · unfold tgtOk at h4
    split at h4
    · simp only [Bool.and_eq_true, inB, decide_eq_true_eq] at h4
      omega
    · have : n.target.toList = [] := by simpa using h4
      have : n.target.size = 0 := by rw [Lib.toList_data] at this; rw [ByteArray.size, ← Array.length_toList, this]; rfl
      omega
theorem pack_own (n : Nd) (hx0 : 0 ≤ n.stamp) (hx1 : n.stamp < 18446744073709551616) (w : World) (hG : Gl w) :
    Calls Tryd.prog 12 #[n.v] w fun e w' => ∃ v, e = .returned (.tuple #[v, .int .i64 (checkNo n)]) ∧ SRow w' w.heap.size v (packB n) ∧ Below w.heap.size w w' ∧ w'.ownsRow w.heap.size 5 1 v (packB n).length (encs (Value.int .u8) (packB n)) := by
  by_cases h : checkNo n = 0
  · have F := fine_of h
    have hn : n = ⟨(n.ty.toNat : Int), (n.parent.toNat : Int), n.name, (n.size.toNat : Int), (n.mode.toNat : Int), (n.stamp.toNat : Int), (n.shadow.toNat : Int), n.target⟩ := by
      rw [Int.toNat_of_nonneg (by have := F.t1; omega), Int.toNat_of_nonneg F.p0, Int.toNat_of_nonneg F.s0, Int.toNat_of_nonneg F.m0, Int.toNat_of_nonneg hx0, Int.toNat_of_nonneg F.h0]
    have := pack_ok n n.ty.toNat n.parent.toNat n.size.toNat n.mode.toNat n.stamp.toNat n.shadow.toNat w hG hn h (by have := F.t3; omega) (by have := F.p1; omega) (by have := F.s1; omega) (by have := F.m1; omega) (by omega) (by have := F.h1; omega) F.nl F.tl
    rw [head_eq] at this
    rw [h]
    unfold packB
    rw [if_pos h]
    exact this
  · refine (pack_bad n w (checkNo n) rfl (by simpa using h)).mono ?_
    rintro e w' ⟨rfl, hb⟩
    unfold packB
    rw [if_neg h]
    exact ⟨_, rfl, .inl ⟨rfl, rfl⟩, hb, World.ownsRow_nil _ _ _ _⟩
theorem pack_row (n : Nd) (hx0 : 0 ≤ n.stamp) (hx1 : n.stamp < 18446744073709551616) (w : World) (hG : Gl w) :
    Calls Tryd.prog 12 #[n.v] w fun e w' => ∃ v, e = .returned (.tuple #[v, .int .i64 (checkNo n)]) ∧ SRow w' w.heap.size v (packB n) ∧ Below w.heap.size w w' :=
  (pack_own n hx0 hx1 w hG).mono fun e w' ⟨v, h1, h2, h3, _⟩ => ⟨v, h1, h2, h3⟩

theorem refput (v : Nat) (hv : v < 18446744073709551616) (size : Nat) (hs : size ≤ 8) (b : List Int) (hb : b.length ≤ 1000) : ∀ d i : Nat, d + i = size → ∀ k, d < k → shaleref08_put.l0 k (b ++ leN v i) v size i = some (b ++ leN v size)
  | 0, i, hi, k, hk => by
    obtain ⟨k, rfl⟩ : ∃ m, k = m + 1 := ⟨k - 1, by omega⟩
    obtain rfl : i = size := by omega
    rw [shaleref08_put.l0, if_neg (by omega)]
  | d + 1, i, hi, k, hk => by
    obtain ⟨k, rfl⟩ : ∃ m, k = m + 1 := ⟨k - 1, by omega⟩
    have e1 : wrap64 (8 * (i : Int)) = ((8 * i : Nat) : Int) := by unfold wrap64; omega
    have e2 : IntKind.u64.wrap ((8 * i : Nat) : Int) = ((8 * i : Nat) : Int) := by
      simp only [IntKind.wrap, IntKind.bits, IntKind.signed]
      simp
      omega
    have e3 : shr .u64 (v : Int) ((8 * i : Nat) : Int) = ((v / 2 ^ (8 * i) : Nat) : Int) := by
      unfold shr
      rw [Int.toNat_natCast, Nat.min_eq_left (by show 8 * i ≤ 64; omega)]
      simp
    have hlt : v / 2 ^ (8 * i) < 18446744073709551616 := Nat.lt_of_le_of_lt (Nat.div_le_self _ _) hv
    have e4 : Go.bits .and .u64 ((v / 2 ^ (8 * i) : Nat) : Int) 255 = ((v / 2 ^ (8 * i) : Nat) : Int) % 256 := bits_mask .u64 64 (by decide) (fun n h0 h1 => by
      simp only [IntKind.wrap, IntKind.bits, IntKind.signed]
      simp
      omega) 8 (by decide) _ (Int.natCast_nonneg _) (by exact_mod_cast hlt)
    rw [shaleref08_put.l0, if_pos (by omega), e1, e2, if_pos (Int.natCast_nonneg _), if_pos (by rw [List.length_append, leN_len]; omega), e3, e4]
    have e5 : ((v / 2 ^ (8 * i) : Nat) : Int) % 256 % 256 = ((v / 2 ^ (8 * i) % 256 : Nat) : Int) := by omega
    have e6 : wrap64 ((i : Int) + 1) = ((i + 1 : Nat) : Int) := by unfold wrap64; omega
    rw [e5, e6, List.append_assoc, ← leN_succ]
    exact refput v hv size hs b hb d (i + 1) (by omega) k (by omega)
theorem refput_f (v : Nat) (hv : v < 18446744073709551616) (size : Nat) (hs : size ≤ 8) (b : List Int) (hb : b.length ≤ 1000) (k : Nat) (hk : size < k) : shaleref08_put.f k b v size = some (b ++ leN v size) := by
  have := refput v hv size hs b hb size 0 (by omega) k hk
  have e : b ++ leN v 0 = b := by simp [leN]
  rw [e] at this
  exact this
theorem wrapN (i : Int) (h0 : 0 ≤ i) (h1 : i < 18446744073709551616) : IntKind.u64.wrap i = ((i.toNat : Nat) : Int) := by
  rw [Int.toNat_of_nonneg h0]
  simp only [IntKind.wrap, IntKind.bits, IntKind.signed]
  simp
  omega
theorem one_len (s : ByteArray) (h : s.size ≤ 127) : leN s.size 1 = [(s.size : Int) % 256] := by
  simp [leN, List.range_succ]
theorem refpack_f (n : Nd) (hx0 : 0 ≤ n.stamp) (hx1 : n.stamp < 18446744073709551616) : shaleref08_Pack.f 20 n.ty n.parent n.name n.size n.mode n.stamp n.shadow n.target = some (packB n, checkNo n) := by
  unfold shaleref08_Pack.f shaleref08_Check.f
  rw [Option.bind_some]
  by_cases h : checkNo n = 0
  · have F := fine_of h
    rw [if_pos h, h]
    have b1 := F.t1
    have b2 := F.t3
    have b3 := F.p0
    have b4 := F.p1
    have b5 := F.s0
    have b6 := F.s1
    have b7 := F.m0
    have b8 := F.m1
    have b9 := F.h0
    have c1 := F.h1
    have c2 := F.nl
    have c3 := F.tl
    have x8 : n.stamp = ((n.stamp.toNat : Nat) : Int) := (Int.toNat_of_nonneg hx0).symm
    have q := fun v hv size hs b hb => refput_f v hv size hs b hb 20
    rw [wrapN n.ty (by omega) (by omega), wrapN n.parent (by omega) (by omega), wrapN n.size (by omega) (by omega), wrapN n.mode (by omega) (by omega), wrapN n.shadow (by omega) (by omega), wrapN (n.name.size : Int) (by omega) (by omega), wrapN (n.target.size : Int) (by omega) (by omega)]
    rw [show shaleref08_put.f 20 [] (n.ty.toNat : Int) 1 = _ from q n.ty.toNat (by omega) 1 (by decide) [] (by simp) (by decide), Option.bind_some]
    rw [show shaleref08_put.f 20 _ (n.parent.toNat : Int) 4 = _ from q n.parent.toNat (by omega) 4 (by decide) _ (by simp [leN_len]) (by decide), Option.bind_some]
    rw [show shaleref08_put.f 20 _ (n.size.toNat : Int) 4 = _ from q n.size.toNat (by omega) 4 (by decide) _ (by simp [leN_len]) (by decide), Option.bind_some]
    rw [show shaleref08_put.f 20 _ (n.mode.toNat : Int) 2 = _ from q n.mode.toNat (by omega) 2 (by decide) _ (by simp [leN_len]) (by decide), Option.bind_some]
    rw [x8, show shaleref08_put.f 20 _ (n.stamp.toNat : Int) 8 = _ from q n.stamp.toNat (by omega) 8 (by decide) _ (by simp [leN_len]) (by decide), Option.bind_some]
    rw [show shaleref08_put.f 20 _ (n.shadow.toNat : Int) 4 = _ from q n.shadow.toNat (by omega) 4 (by decide) _ (by simp [leN_len]) (by decide), Option.bind_some]
    rw [Int.toNat_natCast, show shaleref08_put.f 20 _ (n.name.size : Int) 1 = _ from q n.name.size (by omega) 1 (by decide) _ (by simp [leN_len]) (by decide), Option.bind_some]
    rw [if_pos (by simp [leN_len]; omega)]
    rw [Int.toNat_natCast, show shaleref08_put.f 20 _ (n.target.size : Int) 1 = _ from q n.target.size (by omega) 1 (by decide) _ (by simp [leN_len, bytesOf_len]; omega) (by decide), Option.bind_some]
    rw [if_pos (by simp [leN_len, bytesOf_len]; omega)]
    unfold packB
    rw [if_pos h]
    rw [one_len _ (by omega), one_len _ (by omega)]
    simp [bytesB, headB, textL]
  · rw [if_neg h]
    unfold packB
    rw [if_neg h]
theorem refPack_row (n : Nd) (hx0 : 0 ≤ n.stamp) (hx1 : n.stamp < 18446744073709551616) (w : World) :
    Calls Tryd.prog 11 #[n.v] w fun e w' => ∃ v, e = .returned (.tuple #[v, .int .i64 (checkNo n)]) ∧ SRow w' w.heap.size v (packB n) ∧ Below w.heap.size w w' :=
  (shaleref08_Pack.calls 20 n.ty n.parent n.name n.size n.mode n.stamp n.shadow n.target _ _ w (refpack_f n hx0 hx1)).mono fun e w' ⟨v, he, hr, hb⟩ => ⟨v, he, SRow.of_R hr, hb⟩
end Go.Proofs.YtljamhpdgmelcaaDoor
