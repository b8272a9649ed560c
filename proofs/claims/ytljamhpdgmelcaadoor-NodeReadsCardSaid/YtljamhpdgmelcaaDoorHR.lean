/- node.Read, the reference's Read, of any bytes; contracts that the laws are written over. -/
import Derived.Test.YtljamhpdgmelcaaDoorRead3
import Derived.Test.YtljamhpdgmelcaaDoorRefRead2
import Derived.Test.YtljamhpdgmelcaaDoorHC
import Derived.Test.YtljamhpdgmelcaaDoorRefPack
namespace Go.Proofs.YtljamhpdgmelcaaDoor
section
open Go.RowKit Go.Proofs Go.Proofs.YtljamhpdgmelcaaDoorW.PrintWords
set_option linter.unusedVariables false

theorem readN_off {L : List Int} (h : shaped L = false) : readN L = (zeroNd, 80) := by unfold readN; rw [h]; rfl
theorem readN_on {L : List Int} (h : shaped L = true) : readN L = (if checkNo (ndOf L) = 0 then ndOf L else zeroNd, checkNo (ndOf L)) := by
  unfold readN
  rw [if_pos h]
  by_cases h0 : checkNo (ndOf L) = 0
  · rw [if_pos h0, if_pos h0, h0]
  · rw [if_neg h0, if_neg h0]
theorem shaped_short {L : List Int} (h : L.length < 25) : shaped L = false := by
  unfold shaped
  rw [Bool.and_eq_false_iff]
  exact .inl (decide_eq_false (by omega))
theorem read_at (g o c : Nat) (L : List Int) (w : World) (hv : Vw w g o L) (hB : Byts L) (hc : L.length ≤ c) (hl : L.length ≤ 281474976710656) (hg : g < w.heap.size) (hG : Gl w) :
    Calls Tryd.prog 9 #[.slice (some ⟨g, o, none⟩) L.length c] w fun e w' => e = .returned (.tuple #[(readN L).1.v, .int .i64 (readN L).2]) ∧ Below w.heap.size w w' := by
  by_cases h23 : L.length < 23
  · rw [readN_off (shaped_short (by omega))]
    exact read_short g o c L w hv hB hc hl hl hg h23
  have h23' : 23 ≤ L.length := by omega
  cases hs : shaped L
  · rw [readN_off hs]
    cases hk : (cntK (L.drop 23) && cntK (cntL (L.drop 23)))
    · exact read_bad1 g o c L w hv hB hc hl hl hg h23' hk
    · refine read_bad2 g o c L w hv hB hc hl hl hg h23' hk (fun hr => ?_)
      rw [(shaped_iff L h23').2 ⟨hk, hr⟩] at hs
      cases hs
  · rw [readN_on hs]
    obtain ⟨hk, hr⟩ := (shaped_iff L h23').1 hs
    exact read_good g o c L w hv hB hc hl hl hg h23' hG hk hr (ndOf L) (nd_take hs).symm
theorem ref_at (g o c : Nat) (L : List Int) (w : World) (hv : Vw w g o L) (hB : Byts L) (hc : L.length ≤ c) (hl : L.length ≤ 281474976710656) (hg : g < w.heap.size) :
    Calls Tryd.prog 7 #[.slice (some ⟨g, o, none⟩) L.length c] w fun e w' => e = .returned (.tuple #[(readN L).1.v, .int .i64 (readN L).2]) ∧ Below w.heap.size w w' := by
  by_cases h24 : L.length < 24
  · rw [readN_off (shaped_short (by omega))]
    exact ref_short g o c L w hv hB hc hl hl hg h24
  by_cases h25 : L.length < 25 + nlen L
  · have hs : shaped L = false := by
      unfold shaped
      rw [Bool.and_eq_false_iff]
      exact .inl (decide_eq_false (by omega))
    rw [readN_off hs]
    exact ref_mid g o c L w hv hB hc hl hl hg (by omega) h25
  by_cases ht : L.length = 25 + nlen L + tlen L
  · have hs : shaped L = true := by
      unfold shaped
      rw [Bool.and_eq_true, decide_eq_true_eq, decide_eq_true_eq]
      exact ⟨by omega, ht⟩
    rw [readN_on hs]
    by_cases hcc : c = 25 + nlen L
    · exact ref_good_b g o c L w hv hB hc hl hl hg hs hcc
    · exact ref_good_a g o c L w hv hB hc hl hl hg hs hcc
  · have hs : shaped L = false := by
      unfold shaped
      rw [Bool.and_eq_false_iff]
      exact .inr (decide_eq_false ht)
    rw [readN_off hs]
    exact ref_len g o c L w hv hB hc hl hl hg (by omega) ht
theorem readN_nil : readN [] = (zeroNd, 80) := readN_off (shaped_short (by decide))
theorem read_row (A : Option Addr) (c : Nat) (L : List Int) (w : World) (h : Kd.C (Kd.int .u8) w A L.length L) (hc : L.length ≤ c) (hB : Byts L) (hl : L.length ≤ 281474976710656) (hG : Gl w) :
    Calls Tryd.prog 9 #[.slice A L.length c] w fun e w' => e = .returned (.tuple #[(readN L).1.v, .int .i64 (readN L).2]) ∧ Below w.heap.size w w' := by
  match L, h, hc, hB, hl with
  | [], _, _, _, _ => rw [readN_nil]; exact read_nil A c w
  | x :: t, h, hc, hB, hl =>
    obtain ⟨g, o, rfl, hv⟩ := kd_vw h (by simp)
    exact read_at g o c (x :: t) w hv hB hc hl (lt_of_cell (hv 0 x rfl)) hG
theorem ref_row (A : Option Addr) (c : Nat) (L : List Int) (w : World) (h : Kd.C (Kd.int .u8) w A L.length L) (hc : L.length ≤ c) (hB : Byts L) (hl : L.length ≤ 281474976710656) :
    Calls Tryd.prog 7 #[.slice A L.length c] w fun e w' => e = .returned (.tuple #[(readN L).1.v, .int .i64 (readN L).2]) ∧ Below w.heap.size w w' := by
  match L, h, hc, hB, hl with
  | [], _, _, _, _ => rw [readN_nil]; exact ref_nil A c w
  | x :: t, h, hc, hB, hl =>
    obtain ⟨g, o, rfl, hv⟩ := kd_vw h (by simp)
    exact ref_at g o c (x :: t) w hv hB hc hl (lt_of_cell (hv 0 x rfl))
end

section
open Go.RowKit Go.Proofs.YtljamhpdgmelcaaDoorW.PrintWords
set_option linter.unusedVariables false
def tup (n : Nd) (e : Int) : Int × Int × ByteArray × Int × Int × Int × Int × ByteArray × Int := (n.ty, n.parent, n.name, n.size, n.mode, n.stamp, n.shadow, n.target, e)
def node_Pack.f (a0 : Int) (a1 : Int) (a2 : ByteArray) (a3 : Int) (a4 : Int) (a5 : Int) (a6 : Int) (a7 : ByteArray) : Option (List Int × Int) :=
  if 0 ≤ a5 ∧ a5 < 18446744073709551616 then some (packB ⟨a0, a1, a2, a3, a4, a5, a6, a7⟩, checkNo ⟨a0, a1, a2, a3, a4, a5, a6, a7⟩) else none
def node_Read.f (l0 : List Int) : Option (Int × Int × ByteArray × Int × Int × Int × Int × ByteArray × Int) :=
  if (∀ x ∈ l0, 0 ≤ x ∧ x < 256) ∧ l0.length ≤ 140737488351300 then some (tup (readN l0).1 (readN l0).2) else none
def shaleref08_Read.f (l0 : List Int) : Option (Int × Int × ByteArray × Int × Int × Int × Int × ByteArray × Int) := node_Read.f l0
theorem Gl.under {w w' : World} (h : Gl w) (hb : Below w.heap.size w w') : Gl w' := h.below h.2 hb
theorem node_Pack.calls (a0 : Int) (a1 : Int) (a2 : ByteArray) (a3 : Int) (a4 : Int) (a5 : Int) (a6 : Int) (a7 : ByteArray) (r1 : List Int) (r2 : Int) (w : World) (h : node_Pack.f a0 a1 a2 a3 a4 a5 a6 a7 = some (r1, r2))
    (hG : Gl w := by exact Gl.under hGl (by repeat (first | (with_reducible first | exact HB.out | apply below_alloc | apply pw_below_drewN | apply below_drew1 | refine below_set ?_ (Aside0.out (by assumption))) | exact HB.out))) :
    Calls Tryd.prog 12 #[.agg #[.int .i64 a0, .int .i64 a1, .string a2, .int .i64 a3, .int .i64 a4, .int .u64 a5, .int .i64 a6, .string a7]] w fun e w' => ∃ v0_, e = .returned (.tuple #[v0_, .int .i64 r2]) ∧ Kd.R (Kd.int .u8) 5 w' w.heap.size (fun _ => True) v0_ r1 ∧ Below w.heap.size w w' := by
  unfold node_Pack.f at h
  split at h
  · rename_i hx
    simp only [Option.some.injEq, Prod.mk.injEq] at h
    obtain ⟨rfl, rfl⟩ := h
    exact (pack_own ⟨a0, a1, a2, a3, a4, a5, a6, a7⟩ hx.1 hx.2 w hG).mono fun e w' ⟨v, h1, _, h3, h4⟩ => ⟨v, h1, Kd.R_of_own h4 (fun _ _ => trivial), h3⟩
  · cases h
theorem node_Read.calls (A0 : Option Addr) (c0 : Nat) (l0 : List Int) (r1 r2 : Int) (r3 : ByteArray) (r4 r5 r6 r7 : Int) (r8 : ByteArray) (r9 : Int) (w : World) (hr0 : Kd.C (Kd.int .u8) w A0 l0.length l0) (hc0 : l0.length ≤ c0) (h : node_Read.f l0 = some (r1, r2, r3, r4, r5, r6, r7, r8, r9))
    (hG : Gl w := by exact Gl.under hGl (by repeat (first | (with_reducible first | exact HB.out | apply below_alloc | apply pw_below_drewN | apply below_drew1 | refine below_set ?_ (Aside0.out (by assumption))) | exact HB.out))) :
    Calls Tryd.prog 9 #[.slice A0 l0.length c0] w fun e w' => e = .returned (.tuple #[.agg #[.int .i64 r1, .int .i64 r2, .string r3, .int .i64 r4, .int .i64 r5, .int .u64 r6, .int .i64 r7, .string r8], .int .i64 r9]) ∧ Below w.heap.size w w' := by
  unfold node_Read.f at h
  split at h
  · rename_i hx
    simp only [Option.some.injEq, tup, Prod.mk.injEq] at h
    obtain ⟨rfl, rfl, rfl, rfl, rfl, rfl, rfl, rfl, rfl⟩ := h
    exact read_row A0 c0 l0 w hr0 hc0 hx.1 (by omega) hG
  · cases h
theorem shaleref08_Read.calls (A0 : Option Addr) (c0 : Nat) (l0 : List Int) (r1 r2 : Int) (r3 : ByteArray) (r4 r5 r6 r7 : Int) (r8 : ByteArray) (r9 : Int) (w : World) (hr0 : Kd.C (Kd.int .u8) w A0 l0.length l0) (hc0 : l0.length ≤ c0) (h : shaleref08_Read.f l0 = some (r1, r2, r3, r4, r5, r6, r7, r8, r9)) :
    Calls Tryd.prog 7 #[.slice A0 l0.length c0] w fun e w' => e = .returned (.tuple #[.agg #[.int .i64 r1, .int .i64 r2, .string r3, .int .i64 r4, .int .i64 r5, .int .u64 r6, .int .i64 r7, .string r8], .int .i64 r9]) ∧ Below w.heap.size w w' := by
  unfold shaleref08_Read.f node_Read.f at h
  split at h
  · rename_i hx
    simp only [Option.some.injEq, tup, Prod.mk.injEq] at h
    obtain ⟨rfl, rfl, rfl, rfl, rfl, rfl, rfl, rfl, rfl⟩ := h
    exact ref_row A0 c0 l0 w hr0 hc0 hx.1 (by omega)
  · cases h
end
end Go.Proofs.YtljamhpdgmelcaaDoor
