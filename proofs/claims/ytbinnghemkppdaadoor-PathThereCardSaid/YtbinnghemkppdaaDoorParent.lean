/- Parent, the program's and the document's. -/
import Derived.Test.YtbinnghemkppdaaDoorSplits
namespace Go.Proofs.YtbinnghemkppdaaDoor
open Go.RowKit Go.Proofs Go.Proofs.YtbinnghemkppdaaDoorW.PrintWords
set_option linter.unusedVariables false
set_option linter.unusedSimpArgs false
attribute [local go_sem] Oper.semAt_some

/-- The names but the last one, that one, the error. -/
def parentR (s : ByteArray) : List ByteArray × ByteArray × Int :=
  if (splitR s).2 = 0 then
    match (splitR s).1.getLast? with
    | none => ([], ⟨#[]⟩, 160)
    | some x => if isUp x = true then ([], ⟨#[]⟩, 160) else ((splitR s).1.dropLast, x, 0)
  else ([], ⟨#[]⟩, (splitR s).2)

theorem SRow.cutc {W : World} {base g c : Nat} {L : List ByteArray} (h : SRow W base (.slice (some ⟨g, 0, none⟩) L.length c) L) (n : Nat) (hn : n ≤ L.length) : SRow W base (.slice (some ⟨g, 0, none⟩) n c) (L.take n) := by
  rcases h with ⟨h, _⟩ | ⟨g', c', cur, he, hb, hg, h1, h2, h3⟩
  · cases h
  · simp only [Value.slice.injEq, Option.some.injEq, Addr.mk.injEq] at he
    obtain ⟨⟨rfl, _⟩, _, rfl⟩ := he
    have hl : (L.take n).length = n := by rw [List.length_take]; omega
    refine .inr ⟨g, c, cur, by rw [hl], hb, hg, by omega, by omega, ?_⟩
    rw [hl, List.map_take, ← h3, List.take_take, Nat.min_eq_left hn]

set_option maxHeartbeats 4000000 in
theorem refParent_row (s : ByteArray) (hs : s.size ≤ 140737488351232) (w : World) :
    Calls Tryd.prog 22 #[.string s] w fun e w' => ∃ v, e = .returned (.tuple #[v, .string (parentR s).2.1, .int .i64 (parentR s).2.2]) ∧ SRow w' w.heap.size v (parentR s).1 ∧ Below w.heap.size w w' := by
  have l1 := splitR_len s
  obtain ⟨P, hP⟩ : ∃ P, parentR s = P := ⟨_, rfl⟩
  rw [hP]
  unfold parentR at hP
  have c1 := fun w => refSplit_row s hs w
  obtain ⟨S, hS⟩ : ∃ S, splitR s = S := ⟨_, rfl⟩
  simp only [hS] at l1 hP c1
  obtain ⟨L, E⟩ := S
  have HC1 := Lib.hid c1
  have HP := Lib.hid hP
  have HL := Lib.hid l1
  clear c1 hP hS l1
  go_enter Tryd.func22, Tryd.ntmps22
  go_wp2_with (go_at_call 9; fail)
  refine (HC1.out w).mono ?_
  rintro e w1 ⟨v1, rfl, r1, b1⟩
  by_cases hE : E = 0
  · have hE' := hE
    subst hE
    rcases List.eq_nil_or_concat L with rfl | ⟨L', x, rfl⟩
    · obtain ⟨g1, n1, rfl⟩ := r1.shape
      have R1 := Lib.hid r1
      have B1 := Lib.hid b1
      clear r1 b1
      have HP0 : P = ([], ⟨#[]⟩, 160) := by rw [← HP.out]; rfl
      subst HP0
      go_wp2
      refine bodyPost_ret (results_tmp3 rfl _ _ _) rfl ?_
      exact ⟨_, rfl, .inl ⟨rfl, rfl⟩, B1.out⟩
    · rw [List.concat_eq_append] at *
      obtain ⟨g, c, rfl, hcx, _⟩ := r1.cell (k := L'.length) (x := x) (by simp)
      have hcut := r1.cutc L'.length (by simp)
      rw [List.take_left' rfl] at hcut
      have hle : L'.length + 1 ≤ c := by
        have := (r1.reads (by have := HL.out; simp at this ⊢; omega)).2
        simpa using this
      have hlen : (L' ++ [x]).length = L'.length + 1 := by simp
      have HPx : (if isUp x = true then (([] : List ByteArray), (⟨#[]⟩ : ByteArray), (160 : Int)) else (L', x, 0)) = P := by
        have := HP.out
        simpa using this
      have hL : L'.length + 1 ≤ 64 := hlen ▸ HL.out
      rw [hlen]
      obtain ⟨m, hm⟩ : ∃ m, m = L'.length := ⟨_, rfl⟩
      rw [← hm] at hcx hle hL hcut ⊢
      clear HC1
      have R1 := Lib.hid hcut
      have B1 := Lib.hid b1
      have HM := Lib.hid hm
      clear r1 b1 hcut hlen hm HP HL
      by_cases hu : x.toList = [46, 46]
      · have hu2 : isUp x = true := by unfold isUp; rw [hu]; rfl
        rw [if_pos hu2] at HPx
        subst HPx
        have hu3 : (x.toList == [46, 46]) = true := by rw [hu]; rfl
        clear hu
        go_wp2
        refine bodyPost_ret (results_tmp3 rfl _ _ _) rfl ?_
        exact ⟨_, rfl, .inl ⟨rfl, rfl⟩, B1.out⟩
      · have hu2 : isUp x = false := by unfold isUp; simpa using hu
        rw [if_neg (by rw [hu2]; exact Bool.false_ne_true)] at HPx
        subst HPx
        have hu3 : (x.toList == [46, 46]) = false := by simpa using hu
        clear hu
        go_wp2
        go_region
        go_wp2
        refine bodyPost_ret (results_tmp3 rfl _ _ _) rfl ?_
        exact ⟨_, rfl, SRow.of_heap R1.out (fun _ _ => rfl), by first | exact B1.out | exact B1.out.drew⟩
  · obtain ⟨g1, n1, rfl⟩ := r1.shape
    have R1 := Lib.hid r1
    have B1 := Lib.hid b1
    have HP0 : P = ([], ⟨#[]⟩, E) := by rw [← HP.out]; exact if_neg hE
    subst HP0
    clear r1 b1
    go_wp2
    refine bodyPost_ret (results_tmp3 rfl _ _ _) rfl ?_
    exact ⟨_, rfl, .inl ⟨rfl, rfl⟩, B1.out⟩
set_option maxHeartbeats 4000000 in
theorem pathParent_row (s : ByteArray) (w : World) :
    Calls Tryd.prog 23 #[.string s] w fun e w' => ∃ v, e = .returned (.tuple #[v, .string (parentR s).2.1, .int .i64 (parentR s).2.2]) ∧ SRow w' w.heap.size v (parentR s).1 ∧ Below w.heap.size w w' := by
  have l1 := splitR_len s
  obtain ⟨P, hP⟩ : ∃ P, parentR s = P := ⟨_, rfl⟩
  rw [hP]
  unfold parentR at hP
  have c1 := fun w => pathSplit_row s w
  obtain ⟨S, hS⟩ : ∃ S, splitR s = S := ⟨_, rfl⟩
  simp only [hS] at l1 hP c1
  obtain ⟨L, E⟩ := S
  have HC1 := Lib.hid c1
  have HP := Lib.hid hP
  have HL := Lib.hid l1
  clear c1 hP hS l1
  go_enter Tryd.func23, Tryd.ntmps23
  go_wp2_with (go_at_call 10; fail)
  refine (HC1.out w).mono ?_
  rintro e w1 ⟨v1, rfl, r1, b1⟩
  by_cases hE : E = 0
  · have hE' := hE
    subst hE
    rcases List.eq_nil_or_concat L with rfl | ⟨L', x, rfl⟩
    · obtain ⟨g1, n1, rfl⟩ := r1.shape
      have R1 := Lib.hid r1
      have B1 := Lib.hid b1
      clear r1 b1
      have HP0 : P = ([], ⟨#[]⟩, 160) := by rw [← HP.out]; rfl
      subst HP0
      go_wp2
      refine bodyPost_ret (results_tmp3 rfl _ _ _) rfl ?_
      exact ⟨_, rfl, .inl ⟨rfl, rfl⟩, B1.out⟩
    · rw [List.concat_eq_append] at *
      obtain ⟨g, c, rfl, hcx, _⟩ := r1.cell (k := L'.length) (x := x) (by simp)
      have hcut := r1.cut L'.length (by simp)
      rw [List.take_left' rfl] at hcut
      have hle : L'.length + 1 ≤ c := by
        have := (r1.reads (by have := HL.out; simp at this ⊢; omega)).2
        simpa using this
      have hlen : (L' ++ [x]).length = L'.length + 1 := by simp
      have HPx : (if isUp x = true then (([] : List ByteArray), (⟨#[]⟩ : ByteArray), (160 : Int)) else (L', x, 0)) = P := by
        have := HP.out
        simpa using this
      have hL : L'.length + 1 ≤ 64 := hlen ▸ HL.out
      rw [hlen]
      obtain ⟨m, hm⟩ : ∃ m, m = L'.length := ⟨_, rfl⟩
      rw [← hm] at hcx hle hL hcut ⊢
      clear HC1
      have R1 := Lib.hid hcut
      have B1 := Lib.hid b1
      have HM := Lib.hid hm
      clear r1 b1 hcut hlen hm HP HL
      by_cases hu : x.toList = [46, 46]
      · have hu2 : isUp x = true := by unfold isUp; rw [hu]; rfl
        rw [if_pos hu2] at HPx
        subst HPx
        have hu3 : (x.toList == [46, 46]) = true := by rw [hu]; rfl
        clear hu
        go_wp2
        refine bodyPost_ret (results_tmp3 rfl _ _ _) rfl ?_
        exact ⟨_, rfl, .inl ⟨rfl, rfl⟩, B1.out⟩
      · have hu2 : isUp x = false := by unfold isUp; simpa using hu
        rw [if_neg (by rw [hu2]; exact Bool.false_ne_true)] at HPx
        subst HPx
        have hu3 : (x.toList == [46, 46]) = false := by simpa using hu
        clear hu
        go_wp2
        go_region
        go_wp2
        refine bodyPost_ret (results_tmp3 rfl _ _ _) rfl ?_
        exact ⟨_, rfl, SRow.of_heap R1.out (fun _ _ => rfl), by first | exact B1.out | exact B1.out.drew⟩
  · obtain ⟨g1, n1, rfl⟩ := r1.shape
    have R1 := Lib.hid r1
    have B1 := Lib.hid b1
    have HP0 : P = ([], ⟨#[]⟩, E) := by rw [← HP.out]; exact if_neg hE
    subst HP0
    clear r1 b1
    go_wp2
    refine bodyPost_ret (results_tmp3 rfl _ _ _) rfl ?_
    exact ⟨_, rfl, .inl ⟨rfl, rfl⟩, B1.out⟩
end Go.Proofs.YtbinnghemkppdaaDoor
