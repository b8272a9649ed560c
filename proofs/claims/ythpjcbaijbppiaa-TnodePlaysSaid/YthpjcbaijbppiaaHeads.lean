/- heads: what must come at any rate. -/
import Derived.Test.YthpjcbaijbppiaaSmall
namespace Go.Proofs.Ythpjcbaijbppiaa
open Go.RowKit Go.Proofs
set_option linter.unusedVariables false
set_option linter.unusedSimpArgs false
set_option maxRecDepth 100000
theorem ptr_row_lit {w : World} {b : Nat} {c : Array Value} {l : List (Nat × Int)} (h : w.heap[b]? = some (.cells c 45 (0, 0))) (hc : c.toList = encP l) (cap : Nat) : PRow w (.slice (some ⟨b, 0, none⟩) l.length cap) l := by
  refine .inr ⟨b, cap, rfl, fun i x hx => ?_⟩
  obtain ⟨e1, e2⟩ := encP_get hx
  rw [← hc] at e1 e2
  exact ⟨cell_of h (by simpa using e1), cell_of h (by simpa using e2)⟩
def HeadsEnd (w : World) (e : Ending) (w' : World) : Prop := e = .returned (.bool true) ∧ Below w.heap.size w w'
theorem heads_calls (w : World) : Calls Try.prog 16 #[] w (HeadsEnd w) := by
  have hL1 : putL (putL [] 5 50) 16 160 = [(5, 50), (16, 160)] := by decide
  have hL2 : putL [(5, 50), (16, 160)] (-1) 0 = [(5, 50), (16, 160)] := by decide
  have hR1 : putR 5 = 0 := by decide
  have hR2 : putR 16 = 0 := by decide
  have hR3 : putR (-1) = 90 := by decide
  have hG1 : valAt ([(5, 50), (16, 160)] : List (Nat × Int)) 16 = some 160 := by decide
  have hG2 : valAt ([(5, 50), (16, 160)] : List (Nat × Int)) 6 = none := by decide
  have hH2 : HtR ([(5, 50), (16, 160)] : List (Nat × Int)) 2 := .inr ⟨(16, 160), rfl, by decide, by decide, by decide⟩
  have hC : cutL ([(5, 50), (16, 160)] : List (Nat × Int)) 6 = [(5, 50)] := by decide
  have hH1 : HtR ([(5, 50)] : List (Nat × Int)) 1 := .inr ⟨(5, 50), rfl, by decide, by decide, by decide⟩
  have hD1 : dropL ([(5, 50)] : List (Nat × Int)) 5 = [] := by decide
  have hD2 : dropL ([] : List (Nat × Int)) 5 = [] := by decide
  have hG3 : valAt ([(5, 50)] : List (Nat × Int)) 5 = some 50 := by decide
  have hG4 : valAt ([] : List (Nat × Int)) 5 = none := by decide
  have hH0 : HtR ([] : List (Nat × Int)) 0 := .inl ⟨rfl, rfl⟩
  have F := Lib.hid (And.intro hL1 (And.intro hL2 (And.intro hR1 (And.intro hR2 (And.intro hR3 (And.intro hG1 (And.intro hG2 (And.intro hH2 (And.intro hC (And.intro hH1 (And.intro hD1 (And.intro hD2 (And.intro hG3 (And.intro hG4 hH0))))))))))))))
  clear hL1 hL2 hR1 hR2 hR3 hG1 hG2 hH2 hC hH1 hD1 hD2 hG3 hG4 hH0
  go_enter Try.func16, Try.ntmps16
  go_wp2_with fail
  refine (OT.new w w (Below.refl _ _)).mono ?_
  rintro e w1 ⟨rfl, h1, _⟩
  have H1 := Lib.hid h1
  clear h1
  go_wp2_with fail
  refine (H1.out.put 5 50).mono ?_
  rintro e w2 ⟨rfl, h2, _⟩
  have H2 := Lib.hid h2
  clear h2
  go_wp2_with fail
  refine (H2.out.put 16 160).mono ?_
  rintro e w3 ⟨rfl, h3, _⟩
  rw [F.out.1] at h3
  have H3 := Lib.hid h3
  clear h3
  go_wp2_with fail
  refine (H3.out.put (-1) 0).mono ?_
  rintro e w4 ⟨rfl, h4, _⟩
  rw [F.out.2.1] at h4
  have H4 := Lib.hid h4
  clear h4
  go_wp2_with fail
  refine (H4.out.get 16).mono ?_
  rintro e w5 ⟨rfl, h5, _⟩
  rw [F.out.2.2.2.2.2.1]
  have H5 := Lib.hid h5
  clear h5
  go_wp2_with fail
  refine (H5.out.get 6).mono ?_
  rintro e w6 ⟨rfl, h6, _⟩
  rw [F.out.2.2.2.2.2.2.1]
  have H6 := Lib.hid h6
  clear h6
  rw [F.out.2.2.1, F.out.2.2.2.1, F.out.2.2.2.2.1]
  go_wp2_with (first | (go_at_call 23; refine (no_calls _ _).mono ?_; rintro e w' ⟨rfl, rfl⟩))
  refine (H6.out.len).mono ?_
  rintro e w7 ⟨rfl, rfl⟩
  rw [show ((([(5, 50), (16, 160)] : List (Nat × Int)).length : Nat) : Int) = 2 from rfl]
  go_wp2_with fail
  refine (H6.out.height 2 F.out.2.2.2.2.2.2.2.1).mono ?_
  rintro e w7 ⟨rfl, rfl⟩
  rw [show ((2 : Nat) : Int) = 2 from rfl]
  go_wp2_with fail
  refine (H6.out.pairs (-1)).mono ?_
  rintro e w7 ⟨v7, rfl, ⟨hp7, _⟩, h7, hb7⟩
  rw [show firstN ([(5, 50), (16, 160)] : List (Nat × Int)) (-1) = [(5, 50), (16, 160)] from rfl] at hp7
  have H7 := Lib.hid h7
  have HP7 := Lib.hid hp7
  clear h7 hp7 hb7
  go_wp2_with fail
  have hb8 := (Below.refl w7.heap.size w7).alloc (Nat.le_refl _) (.cells #[.int .i64 5, .int .i64 50, .int .i64 16, .int .i64 160] 45)
  refine (same_yes [(5, 50), (16, 160)] (by decide) _ _ _ (HP7.out.below hb8) (ptr_row_lit (heap_alloc_new _ _) rfl 2)).mono ?_
  rintro e w8 ⟨rfl, m, rfl⟩
  have H8 := Lib.hid ((H7.out.below hb8).below (below_drewN' _ m))
  clear hb8
  revert H8
  generalize (w7.alloc (.cells #[.int .i64 5, .int .i64 50, .int .i64 16, .int .i64 160] 45)).drewN m = w8
  intro H8
  go_wp2_with fail
  refine (H8.out.cut 6).mono ?_
  rintro e w9 ⟨rfl, h9, _⟩
  rw [F.out.2.2.2.2.2.2.2.2.1] at h9
  rw [F.out.2.2.2.2.2.2.2.2.1]
  rw [show ((([(5, 50), (16, 160)] : List (Nat × Int)).length : Nat) : Int) - ((([(5, 50)] : List (Nat × Int)).length : Nat) : Int) = 1 from rfl]
  have H9 := Lib.hid h9
  clear h9
  go_wp2_with fail
  refine (H9.out.height 1 F.out.2.2.2.2.2.2.2.2.2.1).mono ?_
  rintro e w10 ⟨rfl, rfl⟩
  rw [show ((1 : Nat) : Int) = 1 from rfl]
  go_wp2_with fail
  refine (H9.out.drop 5).mono ?_
  rintro e w10 ⟨rfl, h10, _⟩
  rw [F.out.2.2.2.2.2.2.2.2.2.2.1] at h10
  rw [F.out.2.2.2.2.2.2.2.2.2.2.2.2.1]
  have H10 := Lib.hid h10
  clear h10
  go_wp2_with fail
  refine (H10.out.drop 5).mono ?_
  rintro e w11 ⟨rfl, h11, _⟩
  rw [F.out.2.2.2.2.2.2.2.2.2.2.2.1] at h11
  rw [F.out.2.2.2.2.2.2.2.2.2.2.2.2.2.1]
  have H11 := Lib.hid h11
  clear h11
  go_wp2_with fail
  refine (H11.out.height 0 F.out.2.2.2.2.2.2.2.2.2.2.2.2.2.2).mono ?_
  rintro e w12 ⟨rfl, rfl⟩
  go_wp2
  go_ret
  exact ⟨rfl, H11.out.B⟩
end Go.Proofs.Ythpjcbaijbppiaa
