/- TnodeTypes, walked. -/
import Derived.Test.YthpjcbaijbppiaaTypesLaw
namespace Go.Proofs.Ythpjcbaijbppiaa
open Go.RowKit Go.Proofs
set_option linter.unusedVariables false
set_option linter.unusedSimpArgs false
set_option maxRecDepth 100000
theorem types_walk (ks : List Int) (hks : ks.length ≤ 17592186044416) (A : Option Addr) (c : Nat) (ts : List ByteArray) (hts : ts.length ≤ 17592186044416) (T : Option Addr) (ct : Nat) (w : World) (hA : IntsAt w A ks) (hT : StrsAt w T ts) :
    Calls Try.prog 8 #[.slice A ks.length c, .slice T ts.length ct] w (HeadsEnd w) := by
  have HA := Lib.hid hA
  have HS := Lib.hid hT
  clear hA hT
  go_enter Try.func8, Try.ntmps8
  go_wp2_with fail
  refine (heads_calls w).mono ?_
  rintro e w1 ⟨rfl, h1⟩
  have H1 := Lib.hid h1
  clear h1
  go_wp2_with fail
  refine (Pl.api_new w1).mono ?_
  rintro e w2 ⟨rfl, h2, hb2⟩
  have H2 := Lib.hid h2
  have HB2 := Lib.hid hb2
  clear h2 hb2
  go_wp2_with fail
  refine (St.api_new w2).mono ?_
  rintro e w3 ⟨rfl, h3, hb3⟩
  have HP := Lib.hid (show PT w w3 w1.heap.size [] w2.heap.size [] from
    ⟨⟨_, _, H2.out.below hb3, h3, fun b a c => by have := H2.out.lt a; omega, fun b a => by rw [a]; exact H1.out.size, fun b a => by rw [a]; exact Nat.le_trans H1.out.size HB2.out.size⟩, rfl, (H1.out.trans (HB2.out.mono H1.out.size)).trans (hb3.mono (Nat.le_trans H1.out.size HB2.out.size))⟩)
  clear h3 hb3 H2 HB2 H1
  generalize w1.heap.size = p at HP ⊢
  generalize w2.heap.size = q at HP ⊢
  go_wp2_with fail
  go_loopw [7] (fun s7 wx => ∃ (i : Nat) (l : List (Nat × (Int × Int))) (m : List (Nat × ByteArray)), s7 = .int .i64 (i : Int) ∧ i ≤ ks.length ∧ PT w wx p l q m) (fun s7 _ => ks.length - (intOf s7).toNat)
  case atStart => exact ⟨0, _, _, rfl, by omega, HP.out⟩
  case round =>
    clear HP
    obtain ⟨i, l, m, rfl, hi, hP⟩ := hrel
    have HP := Lib.hid hP
    by_cases hlt : i < ks.length
    · obtain ⟨k, hk⟩ : ∃ k, ks[i]? = some k := ⟨_, List.getElem?_eq_getElem hlt⟩
      obtain ⟨g, o, rfl, hc⟩ := HA.out (by omega)
      have HC := Lib.hid (fun W (hB : Below w.heap.size w W) => (hB.cell (p := ⟨g, o + i, none⟩) (World.block_lt_of_cell? w _ (hc i k hk))).trans (hc i k hk))
      have hil : (i : Int) < (ks.length : Int) := by omega
      have hneg : wrap64 (-(i : Int)) = -(i : Int) := by unfold wrap64; omega
      have hgl := Lib.hid hP.good
      have c1 := HC.out wr hP.B
      have n1 : ((i : Int) != (i : Int)) = false := by rw [bne, beq_self_eq_true]; rfl
      have n2 : ((-(i : Int)) != (-(i : Int))) = false := by rw [bne, beq_self_eq_true]; rfl
      have n3 : (i != i) = false := by rw [bne, beq_self_eq_true]; rfl
      clear hP hk hc
      by_cases hti : i < ts.length
      · obtain ⟨s, hs⟩ : ∃ s, ts[i]? = some s := ⟨_, List.getElem?_eq_getElem hti⟩
        obtain ⟨g2, o2, rfl, hc2⟩ := HS.out (by omega)
        have d1 : wr.cell? ⟨g2, o2 + i, none⟩ = some (.string s) := (HP.out.B.cell (p := ⟨g2, o2 + i, none⟩) (World.block_lt_of_cell? w _ (hc2 i s hs))).trans (hc2 i s hs)
        have hti2 : (i : Int) < (ts.length : Int) := by omega
        clear hs hc2
        go_wp2_with fail
        refine (HP.out.put k ((i : Int), -(i : Int))).mono ?_
        rintro e w4 ⟨rfl, h4⟩
        have c4 := HC.out w4 h4.B
        have H4 := Lib.hid h4
        clear h4 c1
        go_wp2_with fail
        refine (H4.out.put s).mono ?_
        rintro e w5 ⟨rfl, h5⟩
        have c5 := HC.out w5 h5.B
        have H5 := Lib.hid h5
        clear h5 c4
        have hmk := H5.out.get hgl.out.1
        cases hm : mayB k with
        | true =>
          rw [hm] at hmk
          have GC : Calls Try.prog 28 #[.pointer (some ⟨p, 0, none⟩), .int .i64 k] w5 fun e w' => e = .returned (.tuple #[.agg #[.int .i64 (i : Int), .int .i64 (-(i : Int))], .bool true]) ∧ PT w w' p (putG l k ((i : Int), -(i : Int))) q (putG m k s) ∧ Below w5.heap.size w5 w' := hmk
          replace GC := Lib.hid GC
          have HM := Lib.hid hm
          clear hmk hm
          go_wp2_with fail
          refine GC.out.mono ?_
          rintro e w6 ⟨rfl, h6, _⟩
          have hb7 := (Below.refl w6.heap.size w6).alloc (Nat.le_refl _) (.cells #[.int .i64 (i : Int), .int .i64 (-(i : Int))] 56)
          have h7 := h6.below hb7
          have c7 := HC.out _ h7.B
          have z7 := heap_alloc_new w6 (.cells #[.int .i64 (i : Int), .int .i64 (-(i : Int))] 56)
          have hmk := h7.get2 hgl.out.2
          rw [HM.out] at hmk
          have GD : Calls Try.prog 29 #[.pointer (some ⟨q, 0, none⟩), .int .i64 k] (w6.alloc (.cells #[.int .i64 (i : Int), .int .i64 (-(i : Int))] 56)) fun e w' => e = .returned (.tuple #[.string s, .bool true]) ∧ PT w w' p (putG l k ((i : Int), -(i : Int))) q (putG m k s) ∧ Below (w6.alloc (.cells #[.int .i64 (i : Int), .int .i64 (-(i : Int))] 56)).heap.size (w6.alloc (.cells #[.int .i64 (i : Int), .int .i64 (-(i : Int))] 56)) w' := hmk
          replace GD := Lib.hid GD
          have Z7 := Lib.hid z7
          clear hmk h6 hb7 h7 c5 z7
          go_wp2_with fail
          refine GD.out.mono ?_
          rintro e w8 ⟨rfl, h8, hb8⟩
          have z8 := (hb8.block w6.heap.size (by simp)).trans Z7.out
          have e0 : w8.cell? ⟨w6.heap.size, 0, none⟩ = some (.int .i64 (i : Int)) := cell_of z8 rfl
          have e1 : w8.cell? ⟨w6.heap.size, 1, none⟩ = some (.int .i64 (-(i : Int))) := cell_of z8 rfl
          have c8 := HC.out w8 h8.B
          have H8 := Lib.hid h8
          clear h8 hb8 z8 c7
          go_wp2_with (first | (go_at_call 23; refine (no_calls _ _).mono ?_; rintro e w' ⟨rfl, rfl⟩) | (go_at_call 19; refine (may_calls k _).mono ?_; rintro e w' ⟨rfl, rfl⟩; rw [HM.out]))
          go_roundw
          case rel => exact ⟨i + 1, _, _, by go_num, by omega, H8.out⟩
          case measure => simp [intOf]; omega
        | false =>
          rw [hm] at hmk
          have GC : Calls Try.prog 28 #[.pointer (some ⟨p, 0, none⟩), .int .i64 k] w5 fun e w' => e = .returned (.tuple #[.agg #[.int .i64 0, .int .i64 0], .bool false]) ∧ PT w w' p (putG l k ((i : Int), -(i : Int))) q (putG m k s) ∧ Below w5.heap.size w5 w' := hmk
          replace GC := Lib.hid GC
          have HM := Lib.hid hm
          clear hmk hm
          go_wp2_with fail
          refine GC.out.mono ?_
          rintro e w6 ⟨rfl, h6, _⟩
          have hb7 := (Below.refl w6.heap.size w6).alloc (Nat.le_refl _) (.cells #[.int .i64 0, .int .i64 0] 56)
          have h7 := h6.below hb7
          have c7 := HC.out _ h7.B
          have z7 := heap_alloc_new w6 (.cells #[.int .i64 0, .int .i64 0] 56)
          have hmk := h7.get2 hgl.out.2
          rw [HM.out] at hmk
          have GD : Calls Try.prog 29 #[.pointer (some ⟨q, 0, none⟩), .int .i64 k] (w6.alloc (.cells #[.int .i64 0, .int .i64 0] 56)) fun e w' => e = .returned (.tuple #[.string ⟨#[]⟩, .bool false]) ∧ PT w w' p (putG l k ((i : Int), -(i : Int))) q (putG m k s) ∧ Below (w6.alloc (.cells #[.int .i64 0, .int .i64 0] 56)).heap.size (w6.alloc (.cells #[.int .i64 0, .int .i64 0] 56)) w' := hmk
          replace GD := Lib.hid GD
          have Z7 := Lib.hid z7
          clear hmk h6 hb7 h7 c5 z7
          go_wp2_with fail
          refine GD.out.mono ?_
          rintro e w8 ⟨rfl, h8, hb8⟩
          have z8 := (hb8.block w6.heap.size (by simp)).trans Z7.out
          have e0 : w8.cell? ⟨w6.heap.size, 0, none⟩ = some (.int .i64 0) := cell_of z8 rfl
          have e1 : w8.cell? ⟨w6.heap.size, 1, none⟩ = some (.int .i64 0) := cell_of z8 rfl
          have c8 := HC.out w8 h8.B
          have H8 := Lib.hid h8
          clear h8 hb8 z8 c7
          go_wp2_with (first | (go_at_call 23; refine (no_calls _ _).mono ?_; rintro e w' ⟨rfl, rfl⟩) | (go_at_call 19; refine (may_calls k _).mono ?_; rintro e w' ⟨rfl, rfl⟩; rw [HM.out]))
          go_roundw
          case rel => exact ⟨i + 1, _, _, by go_num, by omega, H8.out⟩
          case measure => simp [intOf]; omega
      · have hti3 : ¬ (i : Int) < (ts.length : Int) := by omega
        go_wp2_with fail
        refine (HP.out.put k ((i : Int), -(i : Int))).mono ?_
        rintro e w4 ⟨rfl, h4⟩
        have c4 := HC.out w4 h4.B
        have H4 := Lib.hid h4
        clear h4 c1
        go_wp2_with fail
        refine (H4.out.put ⟨#[]⟩).mono ?_
        rintro e w5 ⟨rfl, h5⟩
        have c5 := HC.out w5 h5.B
        have H5 := Lib.hid h5
        clear h5 c4
        have hmk := H5.out.get hgl.out.1
        cases hm : mayB k with
        | true =>
          rw [hm] at hmk
          have GC : Calls Try.prog 28 #[.pointer (some ⟨p, 0, none⟩), .int .i64 k] w5 fun e w' => e = .returned (.tuple #[.agg #[.int .i64 (i : Int), .int .i64 (-(i : Int))], .bool true]) ∧ PT w w' p (putG l k ((i : Int), -(i : Int))) q (putG m k ⟨#[]⟩) ∧ Below w5.heap.size w5 w' := hmk
          replace GC := Lib.hid GC
          have HM := Lib.hid hm
          clear hmk hm
          go_wp2_with fail
          refine GC.out.mono ?_
          rintro e w6 ⟨rfl, h6, _⟩
          have hb7 := (Below.refl w6.heap.size w6).alloc (Nat.le_refl _) (.cells #[.int .i64 (i : Int), .int .i64 (-(i : Int))] 56)
          have h7 := h6.below hb7
          have c7 := HC.out _ h7.B
          have z7 := heap_alloc_new w6 (.cells #[.int .i64 (i : Int), .int .i64 (-(i : Int))] 56)
          have hmk := h7.get2 hgl.out.2
          rw [HM.out] at hmk
          have GD : Calls Try.prog 29 #[.pointer (some ⟨q, 0, none⟩), .int .i64 k] (w6.alloc (.cells #[.int .i64 (i : Int), .int .i64 (-(i : Int))] 56)) fun e w' => e = .returned (.tuple #[.string ⟨#[]⟩, .bool true]) ∧ PT w w' p (putG l k ((i : Int), -(i : Int))) q (putG m k ⟨#[]⟩) ∧ Below (w6.alloc (.cells #[.int .i64 (i : Int), .int .i64 (-(i : Int))] 56)).heap.size (w6.alloc (.cells #[.int .i64 (i : Int), .int .i64 (-(i : Int))] 56)) w' := hmk
          replace GD := Lib.hid GD
          have Z7 := Lib.hid z7
          clear hmk h6 hb7 h7 c5 z7
          go_wp2_with fail
          refine GD.out.mono ?_
          rintro e w8 ⟨rfl, h8, hb8⟩
          have z8 := (hb8.block w6.heap.size (by simp)).trans Z7.out
          have e0 : w8.cell? ⟨w6.heap.size, 0, none⟩ = some (.int .i64 (i : Int)) := cell_of z8 rfl
          have e1 : w8.cell? ⟨w6.heap.size, 1, none⟩ = some (.int .i64 (-(i : Int))) := cell_of z8 rfl
          have c8 := HC.out w8 h8.B
          have H8 := Lib.hid h8
          clear h8 hb8 z8 c7
          go_wp2_with (first | (go_at_call 23; refine (no_calls _ _).mono ?_; rintro e w' ⟨rfl, rfl⟩) | (go_at_call 19; refine (may_calls k _).mono ?_; rintro e w' ⟨rfl, rfl⟩; rw [HM.out]))
          go_roundw
          case rel => exact ⟨i + 1, _, _, by go_num, by omega, H8.out⟩
          case measure => simp [intOf]; omega
        | false =>
          rw [hm] at hmk
          have GC : Calls Try.prog 28 #[.pointer (some ⟨p, 0, none⟩), .int .i64 k] w5 fun e w' => e = .returned (.tuple #[.agg #[.int .i64 0, .int .i64 0], .bool false]) ∧ PT w w' p (putG l k ((i : Int), -(i : Int))) q (putG m k ⟨#[]⟩) ∧ Below w5.heap.size w5 w' := hmk
          replace GC := Lib.hid GC
          have HM := Lib.hid hm
          clear hmk hm
          go_wp2_with fail
          refine GC.out.mono ?_
          rintro e w6 ⟨rfl, h6, _⟩
          have hb7 := (Below.refl w6.heap.size w6).alloc (Nat.le_refl _) (.cells #[.int .i64 0, .int .i64 0] 56)
          have h7 := h6.below hb7
          have c7 := HC.out _ h7.B
          have z7 := heap_alloc_new w6 (.cells #[.int .i64 0, .int .i64 0] 56)
          have hmk := h7.get2 hgl.out.2
          rw [HM.out] at hmk
          have GD : Calls Try.prog 29 #[.pointer (some ⟨q, 0, none⟩), .int .i64 k] (w6.alloc (.cells #[.int .i64 0, .int .i64 0] 56)) fun e w' => e = .returned (.tuple #[.string ⟨#[]⟩, .bool false]) ∧ PT w w' p (putG l k ((i : Int), -(i : Int))) q (putG m k ⟨#[]⟩) ∧ Below (w6.alloc (.cells #[.int .i64 0, .int .i64 0] 56)).heap.size (w6.alloc (.cells #[.int .i64 0, .int .i64 0] 56)) w' := hmk
          replace GD := Lib.hid GD
          have Z7 := Lib.hid z7
          clear hmk h6 hb7 h7 c5 z7
          go_wp2_with fail
          refine GD.out.mono ?_
          rintro e w8 ⟨rfl, h8, hb8⟩
          have z8 := (hb8.block w6.heap.size (by simp)).trans Z7.out
          have e0 : w8.cell? ⟨w6.heap.size, 0, none⟩ = some (.int .i64 0) := cell_of z8 rfl
          have e1 : w8.cell? ⟨w6.heap.size, 1, none⟩ = some (.int .i64 0) := cell_of z8 rfl
          have c8 := HC.out w8 h8.B
          have H8 := Lib.hid h8
          clear h8 hb8 z8 c7
          go_wp2_with (first | (go_at_call 23; refine (no_calls _ _).mono ?_; rintro e w' ⟨rfl, rfl⟩) | (go_at_call 19; refine (may_calls k _).mono ?_; rintro e w' ⟨rfl, rfl⟩; rw [HM.out]))
          go_roundw
          case rel => exact ⟨i + 1, _, _, by go_num, by omega, H8.out⟩
          case measure => simp [intOf]; omega
    · obtain rfl : i = ks.length := by omega
      obtain ⟨n, hn, hh1, hh2⟩ := hP.height
      obtain ⟨hl1, hl2⟩ := hP.len
      have HH1 := Lib.hid hh1
      have HH2 := Lib.hid hh2
      have HL1 := Lib.hid hl1
      have HL2 := Lib.hid hl2
      clear hh1 hh2 hl1 hl2 hP
      have b1 : ∀ b : Int, (b == b) = true := fun b => beq_self_eq_true b
      go_wp2_with (first | (go_at_call 30; refine HL1.out.mono ?_; rintro e w' ⟨rfl, rfl⟩) | (go_at_call 31; refine HL2.out.mono ?_; rintro e w' ⟨rfl, rfl⟩) | (go_at_call 32; refine HH1.out.mono ?_; rintro e w' ⟨rfl, rfl⟩) | (go_at_call 33; refine HH2.out.mono ?_; rintro e w' ⟨rfl, rfl⟩))
      go_ret
      exact ⟨by first | rfl | simp, HP.out.B⟩
end Go.Proofs.Ythpjcbaijbppiaa
