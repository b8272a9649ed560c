/- gather: what lies below a node is appended, by rising keys. -/
import Derived.Test.YthpjcbaijbppiaaCutAll
import Derived.Deep.AppendLies
import Derived.Maps.AppendAt
import Derived.OwnWalk
import Derived.RowKit3
namespace Go.Proofs.Ythpjcbaijbppiaa
open Go.RowKit Go.Proofs
set_option linter.unusedVariables false
set_option linter.unusedSimpArgs false
set_option maxRecDepth 100000
def encP (l : List (Nat × Int)) : List Value := l.flatMap fun x => [.int .i64 (x.1 : Int), .int .i64 x.2]
theorem encP_append (a b : List (Nat × Int)) : encP (a ++ b) = encP a ++ encP b := List.flatMap_append
theorem encP_length : ∀ l : List (Nat × Int), (encP l).length = l.length * 2
  | [] => rfl
  | x :: t => by
    show (Value.int .i64 (x.1 : Int) :: Value.int .i64 x.2 :: encP t).length = _
    rw [List.length_cons, List.length_cons, encP_length t, List.length_cons]
    omega
theorem encP_one (k : Nat) (v : Int) : encP [(k, v)] = [.int .i64 (k : Int), .int .i64 v] := rfl
theorem info109 : (Try.prog.info? 109).map (fun i => (i.zero, i.size, i.bytes)) = some (some (.agg #[.int .i64 0, .int .i64 0]), 2, 16) := by kernel_rfl
theorem IsT.belowB {V : Type} {κ : Tk V} {w w' : World} {p : Nat} {n : Int} {s : TS V} (h : IsT κ w p n s) (hb : Below w.heap.size w w') : IsT κ w' p n s := h.below hb
def GatherEnd (s : TS Int) (w0 : World) (xs ys : List (Nat × Int)) (e : Ending) (w' : World) : Prop :=
  ∃ v', e = .returned v' ∧ w'.ownsRow w0.heap.size 109 2 v' (xs ++ ys).length (encP (xs ++ ys)) ∧ Below w0.heap.size w0 w'
theorem gather_leaf (s : TS Int) (p : Nat) (n : Int) (w0 : World) (hI : IsT kInt w0 p n s) (hw : WF s) (a q : Nat) (ha : s.N 0 q = some a) (xs : List (Nat × Int)) (hx : xs.length ≤ q * 16) (v : Value) (w : World)
    (hv : w.ownsRow w0.heap.size 109 2 v xs.length (encP xs)) (hb : Below w0.heap.size w0 w) :
    Calls Try.prog 53 #[.pointer (some ⟨a, 0, none⟩), .int .i64 ((q * 16 : Nat) : Int), .int .i64 0, v] w (GatherEnd s w0 xs (lst s.val (q * 16) 16)) := by
  have hroom := node_room hw ha
  rw [Nat.zero_add, Nat.pow_one, Nat.pow_zero] at hroom
  have HI := Lib.hid hI
  have HA := Lib.hid ha
  have HV := Lib.hid hv
  have HB := Lib.hid hb
  obtain ⟨i0, hi, hz0, hz1, hz2⟩ := info_parts info109
  obtain ⟨B, hB⟩ : ∃ B : Int, ((q * 16 : Nat) : Int) = B := ⟨_, rfl⟩
  have hB0 : 0 ≤ B := by omega
  have hB1 : B + 16 ≤ 1048576 := by omega
  rw [hB]
  have HBQ := Lib.hid hB
  clear hI hw ha hv hb hB
  go_enter Try.func53, Try.ntmps53
  go_wp2
  go_loopw [3, 11] (fun s3 s11 wx => ∃ (d : Nat) (v3 : Value), v3 = s3 ∧ s11 = .int .i64 (d : Int) ∧ d ≤ 16 ∧ wx.ownsRow w0.heap.size 109 2 s3 (xs ++ lst s.val (q * 16) d).length (encP (xs ++ lst s.val (q * 16) d)) ∧ Below w0.heap.size w0 wx) (fun _ s11 _ => 16 - (intOf s11).toNat)
  case atStart => exact ⟨0, _, rfl, rfl, by omega, by show w.ownsRow w0.heap.size 109 2 v (xs ++ []).length (encP (xs ++ [])); rw [List.append_nil]; exact HV.out, HB.out⟩
  case round =>
    obtain ⟨d, v3, rfl, rfl, hd16, hown, hb⟩ := hrel
    have HO := Lib.hid hown
    have HBB := Lib.hid hb
    by_cases hd : d < 16
    · have hI1 := HI.out.belowB hb
      have hn := hI1.node _ _ _ HA.out
      have c1 := hn.things' hd
      have hd2 : (d : Int) < 16 := by omega
      have hlen := lst_length s.val (q * 16) d
      cases hk : s.K (q * 16 + d) with
      | none =>
        rw [hk] at c1
        replace c1 : wr.cell? ⟨a, 16 + d, none⟩ = some (.pointer none) := c1
        have e1 : lst s.val (q * 16) (d + 1) = lst s.val (q * 16) d := by
          show lst s.val (q * 16) d ++ _ = _
          have : s.val (q * 16 + d) = none := by unfold TS.val; rw [hk]; rfl
          rw [this, List.append_nil]
        have HE := Lib.hid e1
        clear hown hb hI1 hn hk e1
        go_wp2
        go_roundw
        case rel => exact ⟨d + 1, _, rfl, by go_num, by omega, by rw [HE.out]; exact HO.out, HBB.out⟩
        case measure => simp [intOf]; omega
      | some x =>
        rw [hk] at c1
        replace c1 : wr.cell? ⟨a, 16 + d, none⟩ = some (.pointer (some ⟨x.1, 0, none⟩)) := c1
        have c2 : wr.cell? ⟨x.1, 0, none⟩ = some (.int .i64 x.2) := cell_of (hI1.thing _ x.1 x.2 hk) rfl
        have e1 : lst s.val (q * 16) (d + 1) = lst s.val (q * 16) d ++ [(q * 16 + d, x.2)] := by
          show lst s.val (q * 16) d ++ _ = _
          have : s.val (q * 16 + d) = some x.2 := by unfold TS.val; rw [hk]; rfl
          rw [this]
        have HE := Lib.hid e1
        have hn1 : (xs ++ lst s.val (q * 16) d).length + 1 ≤ 1048576 := by rw [List.length_append]; omega
        have HLN := Lib.hid hn1
        have HLT := Lib.hid hown.lt
        clear hown hb hI1 hn hk e1 hn1
        go_wp2_with (at_builtin; refine wpList_append_own _ rfl _ _ 106 rfl w0.heap.size 109 i0 (.agg #[.int .i64 0, .int .i64 0]) 2 16 Try.underlying106 hi hz0 hz1 hz2 rfl (by decide) v3 _ _ (by rfl) (HO.out.alloc _) ⟨wr.heap.size, 0, none⟩ 1 1 [.int .i64 (B + (d : Int)), .int .i64 x.2] rfl rfl (World.news_of_block (heap_alloc_new _ _)) (by simp [Value.oneCell']) (by have := HLN.out; unfold maxLen; omega) (by have := HLN.out; omega) (by have := HBB.out.size; rw [World.size_alloc]; omega) ?_; intro v' w1 hown' hgrow _; have HO' := Lib.hid hown'; have HG := Lib.hid hgrow; clear hown' hgrow)
        go_roundw
        case rel =>
          refine ⟨d + 1, _, rfl, by go_num, by omega, ?_, ?_⟩
          · have := HO'.out
            have eF : B + (d : Int) = ((q * 16 + d : Nat) : Int) := by have := HBQ.out; omega
            rw [eF] at this
            rw [HE.out, ← List.append_assoc, encP_append (xs ++ _), encP_one, @List.length_append _ (xs ++ _)]
            exact this
          · exact (HBB.out.alloc HBB.out.size _).grown HG.out (by rw [World.size_alloc]; have := HBB.out.size; omega) (fun k e => (HLT.out k e).1)
        case measure => simp [intOf]; omega
    · obtain rfl : d = 16 := by omega
      clear hown hb
      go_wp2
      go_ret
      exact ⟨_, rfl, HO.out, HBB.out⟩
theorem gather_calls (s : TS Int) (p : Nat) (n : Int) (w0 : World) (hI : IsT kInt w0 p n s) (hw : WF s) : ∀ (L a q : Nat), s.N L q = some a → ∀ (xs : List (Nat × Int)), xs.length ≤ q * 16 ^ (L + 1) → ∀ (v : Value) (w : World),
    w.ownsRow w0.heap.size 109 2 v xs.length (encP xs) → Below w0.heap.size w0 w →
    Calls Try.prog 53 #[.pointer (some ⟨a, 0, none⟩), .int .i64 ((q * 16 ^ (L + 1) : Nat) : Int), .int .i64 (L : Int), v] w (GatherEnd s w0 xs (lst s.val (q * 16 ^ (L + 1)) (16 ^ (L + 1)))) := by
  intro L
  induction L with
  | zero =>
    intro a q ha xs hx v w hv hb
    rw [Nat.zero_add, Nat.pow_one] at hx ⊢
    exact gather_leaf s p n w0 hI hw a q ha xs hx v w hv hb
  | succ L ih =>
    intro a q ha xs hx v w hv hb
    have hroom := node_room hw ha
    have hlv := hw.lv _ _ _ ha
    have h5 := hw.h5
    have HI := Lib.hid hI
    have HW := Lib.hid hw
    have HA := Lib.hid ha
    have HV := Lib.hid hv
    have HB := Lib.hid hb
    have HX := Lib.hid hx
    have IH := Lib.hid ih
    obtain ⟨M, hM⟩ : ∃ M, L + 1 = M := ⟨_, rfl⟩
    have hSp : 0 < 16 ^ (L + 1) := pow_pos16 _
    obtain ⟨S, hS⟩ : ∃ S : Int, ((16 ^ (L + 1) : Nat) : Int) = S := ⟨_, rfl⟩
    obtain ⟨B, hB⟩ : ∃ B : Int, ((q * 16 ^ (L + 1 + 1) : Nat) : Int) = B := ⟨_, rfl⟩
    have hpw : (2 : Int) ^ (4 * M) = S := by
      rw [← hM, ← hS]
      have e : (2 : Nat) ^ (4 * (L + 1)) = 16 ^ (L + 1) := by rw [Nat.pow_mul]
      rw [← e]
      exact (Int.natCast_pow 2 _).symm
    have hpos : ((M : Int) == 0) = false := beq_eq_false_iff_ne.2 (by omega)
    have hpos2 : (0 : Int) < (M : Int) := by omega
    have hm1 : (M : Int) - 1 = (L : Int) := by omega
    have hM4 : M ≤ 4 := by omega
    have hroom2 : B + 16 * S ≤ 1048576 := by rw [← hB, ← hS]; omega
    have hSp2 : 0 < S := by rw [← hS]; omega
    have hB0 : 0 ≤ B := by rw [← hB]; omega
    have HL := Lib.hid (show L < s.h by omega)
    rw [hB, hM]
    have HM := Lib.hid hM
    have HSS := Lib.hid hS
    have HBB := Lib.hid hB
    have HR := Lib.hid hroom
    clear hI hw ha hv hb hx ih hM hS hB hlv h5 hroom hSp
    go_enter Try.func53, Try.ntmps53
    go_wp2
    go_loopw [3, 11] (fun s3 s11 wx => ∃ (d : Nat) (v3 : Value), v3 = s3 ∧ s11 = .int .i64 (d : Int) ∧ d ≤ 16 ∧ wx.ownsRow w0.heap.size 109 2 s3 (xs ++ lst s.val (q * 16 ^ (L + 1 + 1)) (d * 16 ^ (L + 1))).length (encP (xs ++ lst s.val (q * 16 ^ (L + 1 + 1)) (d * 16 ^ (L + 1)))) ∧ Below w0.heap.size w0 wx) (fun _ s11 _ => 16 - (intOf s11).toNat)
    case atStart => exact ⟨0, _, rfl, rfl, by omega, by rw [Nat.zero_mul]; show w.ownsRow w0.heap.size 109 2 v (xs ++ []).length (encP (xs ++ [])); rw [List.append_nil]; exact HV.out, HB.out⟩
    case round =>
      obtain ⟨d, v3, rfl, rfl, hd16, hown, hb⟩ := hrel
      have HO := Lib.hid hown
      have HBW := Lib.hid hb
      by_cases hd : d < 16
      · have hI1 := HI.out.belowB hb
        have hn := hI1.node _ _ _ HA.out
        have c1 := hn.below' hd
        have hd2 : (d : Int) < 16 := by omega
        have hXN : d * 16 ^ (L + 1) + 16 ^ (L + 1) ≤ 16 * 16 ^ (L + 1) := by
          have := Nat.mul_le_mul_right (16 ^ (L + 1)) (show d + 1 ≤ 16 by omega)
          rw [Nat.succ_mul] at this
          exact this
        obtain ⟨X, hX⟩ : ∃ X : Int, ((d * 16 ^ (L + 1) : Nat) : Int) = X := ⟨_, rfl⟩
        obtain ⟨F, hF⟩ : ∃ F : Int, (((q * 16 + d) * 16 ^ (L + 1) : Nat) : Int) = F := ⟨_, rfl⟩
        have eF := chunk_eq q d (L + 1)
        have hFi : B + X = F := by rw [← HBB.out, ← hX, ← hF, ← eF]; omega
        have hXi : (d : Int) * S = X := by rw [← HSS.out, ← hX, Int.natCast_mul]
        have hFb : F + S ≤ 1048576 := by
          have := HR.out
          rw [← hF, ← HSS.out, ← eF]; omega
        have hF0 : 0 ≤ F := by rw [← hF]; omega
        have hX0 : 0 ≤ X := by rw [← hX]; omega
        have hXb : X ≤ 1048576 := by omega
        have hwX : wrap64 X = X := by unfold wrap64; omega
        have hwF : wrap64 F = F := by unfold wrap64; omega
        have HFF := Lib.hid hF
        have e1 : lst s.val (q * 16 ^ (L + 1 + 1)) ((d + 1) * 16 ^ (L + 1)) = lst s.val (q * 16 ^ (L + 1 + 1)) (d * 16 ^ (L + 1)) ++ lst s.val ((q * 16 + d) * 16 ^ (L + 1)) (16 ^ (L + 1)) := by
          rw [Nat.succ_mul, lst_add, eF]
        have hlen := lst_length s.val (q * 16 ^ (L + 1 + 1)) (d * 16 ^ (L + 1))
        have hxl : (xs ++ lst s.val (q * 16 ^ (L + 1 + 1)) (d * 16 ^ (L + 1))).length ≤ (q * 16 + d) * 16 ^ (L + 1) := by
          have := HX.out
          rw [List.length_append, ← eF]; omega
        cases hc : s.N L (q * 16 + d) with
        | none =>
          rw [hc, ptr_none] at c1
          have e2 : lst s.val ((q * 16 + d) * 16 ^ (L + 1)) (16 ^ (L + 1)) = [] := lst_none fun i h1 h2 => by
            have : s.K i = none := HW.out.key_none (L := L) HL.out (by rw [chunk_div (q := q) (d := d) (by rw [eF]; exact h1) (by rw [eF]; exact h2)]; exact hc)
            unfold TS.val; rw [this]; rfl
          rw [e2, List.append_nil] at e1
          have HE := Lib.hid e1
          clear hX hF eF hXN hown hb hI1 hn hc e1 e2 hlen hxl
          go_wp2
          go_roundw
          case rel => exact ⟨d + 1, _, rfl, by go_num, by omega, by rw [HE.out]; exact HO.out, HBW.out⟩
          case measure => simp [intOf]; omega
        | some c =>
          rw [hc, ptr_some] at c1
          have HCC := IH.out c (q * 16 + d) hc _ hxl v3 wr hown hb
          rw [HFF.out] at HCC
          have HCC := Lib.hid HCC
          have HE := Lib.hid e1
          clear hX hF eF hXN hown hb hI1 hn hc e1 hlen hxl
          go_wp2_with (go_at_call 53; refine HCC.out.mono ?_; rintro e w2 ⟨v2, rfl, hown2, hb2⟩; have HO2 := Lib.hid hown2; have HB2 := Lib.hid hb2; clear hown2 hb2)
          go_roundw
          case rel => exact ⟨d + 1, _, rfl, by go_num, by omega, by rw [HE.out, ← List.append_assoc]; exact HO2.out, HB2.out⟩
          case measure => simp [intOf]; omega
      · obtain rfl : d = 16 := by omega
        have e16 : 16 * 16 ^ (L + 1) = 16 ^ (L + 1 + 1) := by conv => rhs; rw [Nat.pow_succ, Nat.mul_comm]
        rw [e16] at hown
        have HO := Lib.hid hown
        clear hown hb e16
        go_wp2
        go_ret
        rw [← HM.out]
        exact ⟨_, rfl, HO.out, HBW.out⟩
end Go.Proofs.Ythpjcbaijbppiaa
