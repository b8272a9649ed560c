/- TnodeTypes, walked. -/
import Derived.Test.YthpjcbaijbppiaaTypesPl
import Derived.Test.YthpjcbaijbppiaaTypesSt
import Derived.Test.YthpjcbaijbppiaaFilled
namespace Go.Proofs.Ythpjcbaijbppiaa
open Go.RowKit Go.Proofs
set_option linter.unusedVariables false
set_option linter.unusedSimpArgs false
set_option maxRecDepth 100000
def StrsAt (w : World) (A : Option Addr) (ts : List ByteArray) : Prop := 0 < ts.length → ∃ g o, A = some ⟨g, o, none⟩ ∧ ∀ i s, ts[i]? = some s → w.cell? ⟨g, o + i, none⟩ = some (.string s)
section
variable {V U : Type}
def putG (l : List (Nat × V)) (k : Int) (v : V) : List (Nat × V) := if mayB k = true then insL k.toNat v l else l
theorem insL_keys {l : List (Nat × V)} {m : List (Nat × U)} (h : l.map Prod.fst = m.map Prod.fst) (k : Nat) (v : V) (u : U) : (insL k v l).map Prod.fst = (insL k u m).map Prod.fst := by
  induction l generalizing m with
  | nil =>
    cases m with
    | nil => rfl
    | cons y t => cases h
  | cons x t ih =>
    cases m with
    | nil => cases h
    | cons y s =>
      simp only [List.map_cons, List.cons.injEq] at h
      unfold insL
      rw [h.1]
      by_cases h1 : y.1 < k
      · rw [if_pos h1, if_pos h1, List.map_cons, List.map_cons, ih h.2, h.1]
      · rw [if_neg h1, if_neg h1]
        by_cases h2 : y.1 = k
        · rw [if_pos h2, if_pos h2, List.map_cons, List.map_cons, h.2]
        · rw [if_neg h2, if_neg h2, List.map_cons, List.map_cons, List.map_cons, List.map_cons, h.1, h.2]
theorem putG_keys {l : List (Nat × V)} {m : List (Nat × U)} (h : l.map Prod.fst = m.map Prod.fst) (k : Int) (v : V) (u : U) : (putG l k v).map Prod.fst = (putG m k u).map Prod.fst := by
  unfold putG
  split
  · exact insL_keys h _ _ _
  · exact h
theorem HtR.keys {l : List (Nat × V)} {m : List (Nat × U)} (h : l.map Prod.fst = m.map Prod.fst) {n : Nat} (hl : HtR l n) : HtR m n := by
  have hlast : (l.getLast?).map Prod.fst = (m.getLast?).map Prod.fst := by rw [← List.getLast?_map, ← List.getLast?_map, h]
  rcases hl with ⟨rfl, hn⟩ | ⟨x, hx, h1, h2, h3⟩
  · left
    refine ⟨?_, hn⟩
    cases m with
    | nil => rfl
    | cons y t => cases h
  · rw [hx] at hlast
    cases hy : m.getLast? with
    | none => rw [hy] at hlast; cases hlast
    | some y =>
      rw [hy] at hlast
      have e : x.1 = y.1 := by simpa using hlast
      exact .inr ⟨y, hy, h1, by rw [← e]; exact h2, by rw [← e]; exact h3⟩
theorem valAt_ins {l : List (Nat × V)} (hs : Srt l) (k : Nat) (v : V) : valAt (insL k v l) (k : Int) = some v := by
  unfold valAt
  cases e : (insL k v l).find? (fun x => (x.1 : Int) == (k : Int)) with
  | none =>
    have := List.find?_eq_none.1 e (k, v) ((mem_insL hs _).2 (.inl rfl))
    simp at this
  | some y =>
    have h1 := List.mem_of_find?_eq_some e
    have h2 := List.find?_some e
    simp at h2
    rcases (mem_insL hs _).1 h1 with rfl | h3
    · rfl
    · exact absurd (by omega) h3.1
def GoodL (l : List (Nat × V)) : Prop := Srt l ∧ ∀ x ∈ l, x.1 < 1048576
theorem TR.good {κ : Tk V} {w : World} {p : Nat} {l : List (Nat × V)} {fp : Nat → Prop} (h : TR κ w p l fp) : GoodL l := ⟨h.srt, fun x hx => h.key hx⟩
theorem valAt_putG {l : List (Nat × V)} (h : GoodL l) (k : Int) (v : V) : valAt (putG l k v) k = if mayB k = true then some v else none := by
  unfold putG
  by_cases hm : mayB k = true
  · have hm' := of_decide_eq_true hm
    rw [if_pos hm, if_pos hm]
    have := valAt_ins h.1 k.toNat v
    rwa [show ((k.toNat : Nat) : Int) = k by omega] at this
  · rw [if_neg hm, if_neg hm]
    have hm' : ¬ (0 ≤ k ∧ k ≤ 1048575) := fun h => hm (decide_eq_true h)
    unfold valAt
    rw [Option.map_eq_none_iff, List.find?_eq_none]
    intro x hx
    have := h.2 x hx
    simp
    omega
end
theorem pl_put (w : World) (p : Nat) (l : List (Nat × (Int × Int))) (fp : Nat → Prop) (h : TR Pl.kPl w p l fp) (k : Int) (v : Int × Int) :
    Calls Try.prog 26 #[.pointer (some ⟨p, 0, none⟩), .int .i64 k, .agg #[.int .i64 v.1, .int .i64 v.2]] w fun e w' => e = .returned (.int .i64 (putR k)) ∧ Turn Pl.kPl w p (putG l k v) fp w' := by
  unfold putG putR
  by_cases hk : mayB k = true
  · rw [if_pos hk, if_pos hk]
    have hk' := of_decide_eq_true hk
    obtain ⟨j, rfl⟩ : ∃ j : Nat, k = j := ⟨k.toNat, by omega⟩
    rw [Int.toNat_natCast]
    exact Pl.api_put w p l fp h j v (by omega)
  · rw [if_neg hk, if_neg hk]
    exact Pl.api_bad w p l fp h k v (by
      have : ¬ (0 ≤ k ∧ k ≤ 1048575) := fun h => hk (decide_eq_true h)
      omega)
theorem st_put (w : World) (p : Nat) (l : List (Nat × ByteArray)) (fp : Nat → Prop) (h : TR St.kSt w p l fp) (k : Int) (v : ByteArray) :
    Calls Try.prog 27 #[.pointer (some ⟨p, 0, none⟩), .int .i64 k, .string v] w fun e w' => e = .returned (.int .i64 (putR k)) ∧ Turn St.kSt w p (putG l k v) fp w' := by
  unfold putG putR
  by_cases hk : mayB k = true
  · rw [if_pos hk, if_pos hk]
    have hk' := of_decide_eq_true hk
    obtain ⟨j, rfl⟩ : ∃ j : Nat, k = j := ⟨k.toNat, by omega⟩
    rw [Int.toNat_natCast]
    exact St.api_put w p l fp h j v (by omega)
  · rw [if_neg hk, if_neg hk]
    exact St.api_bad w p l fp h k v (by
      have : ¬ (0 ≤ k ∧ k ≤ 1048575) := fun h => hk (decide_eq_true h)
      omega)
/-- A tree of places and a tree of texts with the same keys. -/
structure PT (w0 w : World) (p : Nat) (l : List (Nat × (Int × Int))) (q : Nat) (m : List (Nat × ByteArray)) : Prop where
  ex : ∃ fp fq, TR Pl.kPl w p l fp ∧ TR St.kSt w q m fq ∧ (∀ b, fp b → fq b → False) ∧ (∀ b, fp b → w0.heap.size ≤ b) ∧ (∀ b, fq b → w0.heap.size ≤ b)
  keys : l.map Prod.fst = m.map Prod.fst
  B : Below w0.heap.size w0 w
theorem PT.below {w0 w w' : World} {p q : Nat} {l : List (Nat × (Int × Int))} {m : List (Nat × ByteArray)} (h : PT w0 w p l q m) (hb : Below w.heap.size w w') : PT w0 w' p l q m := by
  obtain ⟨⟨fp, fq, h1, h2, h3, h4, h5⟩, hk, hB⟩ := h
  exact ⟨⟨fp, fq, h1.below hb, h2.below hb, h3, h4, h5⟩, hk, hB.trans (hb.mono hB.size)⟩
/-- Behind the put into the first tree. -/
structure PT1 (w0 w : World) (k : Int) (v : Int × Int) (p : Nat) (l : List (Nat × (Int × Int))) (q : Nat) (m : List (Nat × ByteArray)) : Prop where
  ex : ∃ fp fq, TR Pl.kPl w p (putG l k v) fp ∧ TR St.kSt w q m fq ∧ (∀ b, fp b → fq b → False) ∧ (∀ b, fp b → w0.heap.size ≤ b) ∧ (∀ b, fq b → w0.heap.size ≤ b)
  keys : l.map Prod.fst = m.map Prod.fst
  B : Below w0.heap.size w0 w
theorem PT.put {w0 w : World} {p q : Nat} {l : List (Nat × (Int × Int))} {m : List (Nat × ByteArray)} (h : PT w0 w p l q m) (k : Int) (v : Int × Int) :
    Calls Try.prog 26 #[.pointer (some ⟨p, 0, none⟩), .int .i64 k, .agg #[.int .i64 v.1, .int .i64 v.2]] w fun e w' => e = .returned (.int .i64 (putR k)) ∧ PT1 w0 w' k v p l q m := by
  obtain ⟨⟨fp, fq, h1, h2, h3, h4, h5⟩, hk, hB⟩ := h
  refine (pl_put w p l fp h1 k v).mono ?_
  rintro e w' ⟨rfl, fp', k1, k2, k3⟩
  refine ⟨rfl, ⟨fp', fq, k1, h2.frame k2 h3, fun b a c => ?_, fun b hb => (k3 b hb).elim (h4 b) fun h => Nat.le_trans hB.size h, h5⟩, hk, hB.trans (k2.below hB.size h4)⟩
  rcases k3 b a with h | h
  · exact h3 b h c
  · have := h2.lt c; omega
theorem PT1.put {w0 w : World} {k : Int} {v : Int × Int} {p q : Nat} {l : List (Nat × (Int × Int))} {m : List (Nat × ByteArray)} (h : PT1 w0 w k v p l q m) (s : ByteArray) :
    Calls Try.prog 27 #[.pointer (some ⟨q, 0, none⟩), .int .i64 k, .string s] w fun e w' => e = .returned (.int .i64 (putR k)) ∧ PT w0 w' p (putG l k v) q (putG m k s) := by
  obtain ⟨⟨fp, fq, h1, h2, h3, h4, h5⟩, hk, hB⟩ := h
  refine (st_put w q m fq h2 k s).mono ?_
  rintro e w' ⟨rfl, fq', k1, k2, k3⟩
  refine ⟨rfl, ⟨fp, fq', h1.frame k2 fun b a c => h3 b c a, k1, fun b a c => ?_, h4, fun b hb => (k3 b hb).elim (h5 b) fun h => Nat.le_trans hB.size h⟩, putG_keys hk k v s, hB.trans (k2.below hB.size h5)⟩
  rcases k3 b c with h | h
  · exact h3 b a h
  · have := h1.lt a; omega
theorem PT.good {w0 w : World} {p q : Nat} {l : List (Nat × (Int × Int))} {m : List (Nat × ByteArray)} (h : PT w0 w p l q m) : GoodL l ∧ GoodL m := by
  obtain ⟨fp, fq, h1, h2, _⟩ := h.ex
  exact ⟨h1.good, h2.good⟩
theorem PT.get {w0 w : World} {k : Int} {v : Int × Int} {p q : Nat} {l : List (Nat × (Int × Int))} {m : List (Nat × ByteArray)} (h : PT w0 w p (putG l k v) q m) (hg : GoodL l) :
    Calls Try.prog 28 #[.pointer (some ⟨p, 0, none⟩), .int .i64 k] w fun e w' => e = .returned (.tuple #[.agg #[.int .i64 (if mayB k = true then v else (0, 0)).1, .int .i64 (if mayB k = true then v else (0, 0)).2], .bool (mayB k)]) ∧ PT w0 w' p (putG l k v) q m ∧ Below w.heap.size w w' := by
  obtain ⟨fp, fq, h1, h2, h3, h4, h5⟩ := h.ex
  refine (Pl.api_get w p _ fp h1 k).mono ?_
  rintro e w' ⟨rfl, hb⟩
  refine ⟨?_, h.below hb, hb⟩
  rw [valAt_putG hg]
  cases mayB k <;> rfl
theorem PT.get2 {w0 w : World} {k : Int} {s : ByteArray} {p q : Nat} {l : List (Nat × (Int × Int))} {m : List (Nat × ByteArray)} (h : PT w0 w p l q (putG m k s)) (hg : GoodL m) :
    Calls Try.prog 29 #[.pointer (some ⟨q, 0, none⟩), .int .i64 k] w fun e w' => e = .returned (.tuple #[.string (if mayB k = true then s else ⟨#[]⟩), .bool (mayB k)]) ∧ PT w0 w' p l q (putG m k s) ∧ Below w.heap.size w w' := by
  obtain ⟨fp, fq, h1, h2, h3, h4, h5⟩ := h.ex
  refine (St.api_get w q _ fq h2 k).mono ?_
  rintro e w' ⟨rfl, hb⟩
  refine ⟨?_, h.below hb, hb⟩
  rw [valAt_putG hg]
  cases mayB k <;> rfl
theorem PT.len {w0 w : World} {p q : Nat} {l : List (Nat × (Int × Int))} {m : List (Nat × ByteArray)} (h : PT w0 w p l q m) :
    Calls Try.prog 30 #[.pointer (some ⟨p, 0, none⟩)] w (fun e w' => e = .returned (.int .i64 (l.length : Int)) ∧ w = w') ∧ Calls Try.prog 31 #[.pointer (some ⟨q, 0, none⟩)] w (fun e w' => e = .returned (.int .i64 (l.length : Int)) ∧ w = w') := by
  obtain ⟨fp, fq, h1, h2, _⟩ := h.ex
  have hl : m.length = l.length := by have := congrArg List.length h.keys; simpa using this.symm
  refine ⟨Pl.api_len w p l fp h1, ?_⟩
  have := St.api_len w q m fq h2
  rwa [hl] at this
theorem PT.height {w0 w : World} {p q : Nat} {l : List (Nat × (Int × Int))} {m : List (Nat × ByteArray)} (h : PT w0 w p l q m) : ∃ n : Nat, n ≤ 5 ∧
    Calls Try.prog 32 #[.pointer (some ⟨p, 0, none⟩)] w (fun e w' => e = .returned (.int .i64 (n : Int)) ∧ w = w') ∧ Calls Try.prog 33 #[.pointer (some ⟨q, 0, none⟩)] w (fun e w' => e = .returned (.int .i64 (n : Int)) ∧ w = w') := by
  obtain ⟨fp, fq, h1, h2, _⟩ := h.ex
  obtain ⟨n, hn, h5⟩ := h1.ht
  exact ⟨n, h5, Pl.api_height w p l fp h1 n hn, St.api_height w q m fq h2 n (hn.keys h.keys)⟩
theorem PT.new {w0 w : World} (hB : Below w0.heap.size w0 w) :
    Calls Try.prog 24 #[] w fun e w' => e = .returned (.pointer (some ⟨w.heap.size, 0, none⟩)) ∧ TR Pl.kPl w' w.heap.size [] (· = w.heap.size) ∧ Below w.heap.size w w' := Pl.api_new w
end Go.Proofs.Ythpjcbaijbppiaa
