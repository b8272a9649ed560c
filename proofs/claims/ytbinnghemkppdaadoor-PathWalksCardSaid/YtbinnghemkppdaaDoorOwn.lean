/- own: marks of its own into each list: true, whatever the lists hold, if no two lie in one block. -/
import Derived.Test.YtbinnghemkppdaaDoorRowsOwn
import Derived.Deep.LoopGhost
namespace Go.Proofs.YtbinnghemkppdaaDoor
open Go.RowKit Go.Proofs Go.Proofs.YtbinnghemkppdaaDoorW.PrintWords
set_option linter.unusedVariables false
set_option linter.unusedSimpArgs false
attribute [local go_sem] Oper.semAt_some

def marksL : List ByteArray := [⟨#[109, 48]⟩, ⟨#[109, 49]⟩, ⟨#[109, 50]⟩, ⟨#[109, 51]⟩, ⟨#[109, 52]⟩, ⟨#[109, 53]⟩, ⟨#[109, 54]⟩, ⟨#[109, 55]⟩]
def markOf (i : Nat) : ByteArray := marksL.getD (i % 8) ByteArray.empty
def marksV : Array Value := #[.string ⟨#[109, 48]⟩, .string ⟨#[109, 49]⟩, .string ⟨#[109, 50]⟩, .string ⟨#[109, 51]⟩, .string ⟨#[109, 52]⟩, .string ⟨#[109, 53]⟩, .string ⟨#[109, 54]⟩, .string ⟨#[109, 55]⟩]
theorem marksV_at (i : Nat) : marksV[i % 8]? = some (.string (markOf i)) := by
  have h : i % 8 < 8 := Nat.mod_lt _ (by decide)
  unfold markOf
  generalize i % 8 = r at h
  match r, h with
  | 0, _ => rfl
  | 1, _ => rfl
  | 2, _ => rfl
  | 3, _ => rfl
  | 4, _ => rfl
  | 5, _ => rfl
  | 6, _ => rfl
  | 7, _ => rfl

structure OwnI (q m base : Nat) (vs : List Value) (w : World) (Ls : List (List ByteArray)) (W : World) : Prop where
  hq : W.heap[q]? = some (.cells vs.toArray 22 (0, 0))
  hm : W.heap[m]? = some (.cells marksV 9 (0, 0))
  row : ∀ (j : Nat) (v : Value) (L : List ByteArray), vs[j]? = some v → Ls[j]? = some L → SRow W base v L
  len : vs.length = Ls.length
  small : ∀ L ∈ Ls, L.length ≤ 1024
  below : Below base w W

structure Apart (m : Nat) (vs : List Value) : Prop where
  ne : ∀ (i j : Nat) (u v : Value) (b : Nat), i ≠ j → vs[i]? = some u → vs[j]? = some v → u.ownBlock = some b → v.ownBlock ≠ some b
  off : ∀ (j : Nat) (v : Value) (b : Nat), vs[j]? = some v → v.ownBlock = some b → b ≠ m

variable {q m base : Nat} {vs : List Value} {w W : World} {Ls : List (List ByteArray)}
theorem OwnI.at_ (h : OwnI q m base vs w Ls W) {i : Nat} (hi : i < vs.length) : ∃ L g c, Ls[i]? = some L ∧ vs[i]? = some (.slice g L.length c) ∧ SRow W base (.slice g L.length c) L ∧ W.cell? ⟨q, i, none⟩ = some (.slice g L.length c) ∧ L.length ≤ 1024 := by
  have hl : i < Ls.length := h.len ▸ hi
  have e1 : vs[i]? = some vs[i] := List.getElem?_eq_getElem hi
  have e2 : Ls[i]? = some Ls[i] := List.getElem?_eq_getElem hl
  have hr := h.row i _ _ e1 e2
  obtain ⟨g, c, hv⟩ := hr.shape
  refine ⟨Ls[i], g, c, e2, by rw [e1, hv], hv ▸ hr, ?_, h.small _ (List.getElem_mem hl)⟩
  simp only [World.cell?, h.hq]
  simp only [List.getElem?_toArray, e1, hv]
  rfl
theorem OwnI.mark (h : OwnI q m base vs w Ls W) (i : Nat) : W.cell? ⟨m, i % 8, none⟩ = some (.string (markOf i)) := by
  simp only [World.cell?, h.hm]
  exact marksV_at i
theorem OwnI.not_q (h : OwnI q m base vs w Ls W) {j : Nat} {v : Value} {L : List ByteArray} (hv : vs[j]? = some v) (hL : Ls[j]? = some L) {b : Nat} (hb : v.ownBlock = some b) : b ≠ q := by
  rintro rfl
  obtain ⟨cur, hc⟩ := (h.row j v L hv hL).typed hb
  rw [h.hq] at hc
  cases hc
theorem OwnI.store (h : OwnI q m base vs w Ls W) (ha : Apart m vs) {i k g c : Nat} {L : List ByteArray} (hL : Ls[i]? = some L) (hv : vs[i]? = some (.slice (some ⟨g, 0, none⟩) L.length c)) (x : ByteArray) :
    OwnI q m base vs w (Ls.set i (L.set k x)) (W.setCell ⟨g, k, none⟩ (.string x)) := by
  have hb : (Value.slice (some ⟨g, 0, none⟩) L.length c).ownBlock = some g := rfl
  have hr := h.row i _ L hv hL
  have hil : i < Ls.length := (List.getElem?_eq_some_iff.1 hL).1
  refine ⟨(heap_setCell_other _ _ _ _ (h.not_q hv hL hb).symm).trans h.hq, (heap_setCell_other _ _ _ _ (ha.off i _ g hv hb).symm).trans h.hm, fun j v M hj hM => ?_, by rw [List.length_set]; exact h.len, fun M hM => ?_, h.below.setCell (p := ⟨g, k, none⟩) (hr.base_le hb) _⟩
  · by_cases e : j = i
    · subst e
      rw [List.getElem?_set_self hil] at hM
      cases hM
      rw [hv] at hj
      cases hj
      have := hr.store k x
      exact this
    · rw [List.getElem?_set_ne (fun e' => e e'.symm)] at hM
      exact (h.row j v M hj hM).store_other (ha.ne i j _ _ g (fun e' => e e'.symm) hv hj hb) _
  · rcases List.mem_or_eq_of_mem_set hM with h1 | h1
    · exact h.small M h1
    · rw [h1, List.length_set]
      exact h.small L (List.mem_of_getElem? hL)

theorem OwnI.at2 (h : OwnI q m base vs w Ls W) {i n c : Nat} {g : Option Addr} (hv : vs[i]? = some (.slice g n c)) : ∃ L, Ls[i]? = some L ∧ L.length = n ∧ W.cell? ⟨q, i, none⟩ = some (.slice g n c) ∧ n ≤ 1024 ∧
    ∀ (k : Nat) x, L[k]? = some x → ∃ ga, g = some ⟨ga, 0, none⟩ ∧ W.cell? ⟨ga, k, none⟩ = some (.string x) ∧ W.frozen? ⟨ga, k, none⟩ = false := by
  obtain ⟨L, g', c', h1, h2, h3, h4, h5⟩ := h.at_ (List.getElem?_eq_some_iff.1 hv).1
  rw [hv] at h2
  simp only [Option.some.injEq, Value.slice.injEq] at h2
  obtain ⟨rfl, rfl, rfl⟩ := h2
  refine ⟨L, h1, rfl, h4, h5, fun k x hx => ?_⟩
  obtain ⟨ga, c2, e, hc, hf⟩ := h3.cell hx
  simp only [Value.slice.injEq] at e
  exact ⟨ga, e.1, hc, hf⟩
theorem OwnI.drew (h : OwnI q m base vs w Ls W) : OwnI q m base vs w Ls W.drew := ⟨h.hq, h.hm, fun j v L hv hL => (h.row j v L hv hL).of_heap fun _ _ => rfl, h.len, h.small, h.below.drew⟩
def Marked (i : Nat) (L : List ByteArray) : Prop := ∀ x ∈ L, x = markOf i

set_option maxHeartbeats 800000 in
theorem own_true (c : Nat) (hn : vs.length ≤ 8) (hq : w.heap[q]? = some (.cells vs.toArray 22 (0, 0))) (hlen : vs.length = Ls.length)
    (hrow : ∀ (j : Nat) (v : Value) (L : List ByteArray), vs[j]? = some v → Ls[j]? = some L → SRow w base v L)
    (hap : ∀ (i j : Nat) (u v : Value) (b : Nat), i ≠ j → vs[i]? = some u → vs[j]? = some v → u.ownBlock = some b → v.ownBlock ≠ some b) (hsm : ∀ L ∈ Ls, L.length ≤ 1024) (hbase : base ≤ w.heap.size) :
    Calls Tryd.prog 12 #[.slice (some ⟨q, 0, none⟩) vs.length c] w fun e w' => e = .returned (.bool true) ∧ Below base w w' := by
  have hap' : Apart w.heap.size vs := ⟨hap, fun j v b hv hb e => by
    have hj : j < Ls.length := hlen ▸ (List.getElem?_eq_some_iff.1 hv).1
    have := (hrow j v _ hv (List.getElem?_eq_getElem hj)).lt hb
    omega⟩
  have hI0 : OwnI q w.heap.size base vs w Ls (w.alloc (.cells marksV 9)) := by
    have old : ∀ k, k < w.heap.size → (w.alloc (.cells marksV 9)).heap[k]? = w.heap[k]? := fun k hk => Below.heap_alloc _ _ _ hk
    exact ⟨(old q (Array.getElem?_eq_some_iff.1 hq).1).trans hq, World.alloc_heap_new w _, fun j v L hv hL => (hrow j v L hv hL).of_heap fun b hb => old b ((hrow j v L hv hL).lt hb), hlen, hsm, (Below.refl _ _).alloc hbase _⟩
  have HA := Lib.hid hap'
  have HI0 := Lib.hid hI0
  have HB := Lib.hid hbase
  clear hap' hI0 hq hrow hap hsm hlen hbase
  go_enter Tryd.func12, Tryd.ntmps12
  go_wp2
  go_loopg [4] vs.length (fun gg x4 wr => ∃ i Ls', i ≤ vs.length ∧ vs.length - i ≤ gg ∧ x4 = .int .i64 i ∧ Aside (OwnI q w.heap.size base vs w Ls' wr) ∧ Aside (∀ j L, j < i → Ls'[j]? = some L → Marked j L))
  case atStart => exact ⟨0, Ls, Nat.zero_le _, by omega, rfl, HI0.out, fun j L hj => absurd hj (Nat.not_lt_zero _)⟩
  case round =>
    obtain ⟨i, Ls', hi, hg, rfl, AI, AM⟩ := hrel
    by_cases hlt : i < vs.length
    · have hltz : (i : Int) < (vs.length : Int) := by omega
      obtain ⟨L, g, c', hLi, hvi, hri, hci, hs⟩ := AI.out.at_ hlt
      obtain ⟨n, hnl⟩ : ∃ n, n = L.length := ⟨_, rfl⟩
      rw [← hnl] at hvi hci hs
      have HV := Lib.hid hvi
      have HL := hLi
      clear hvi hri hLi hnl HL
      go_wp2
      go_loopg [5] n (fun gg2 x5 wr => ∃ k Ls2, k ≤ n ∧ n - k ≤ gg2 ∧ x5 = .int .i64 k ∧ Aside (OwnI q w.heap.size base vs w Ls2 wr) ∧ Aside (∀ j L, j < i → Ls2[j]? = some L → Marked j L) ∧ Aside (∀ (t : Nat) L x, t < k → Ls2[i]? = some L → L[t]? = some x → x = markOf i))
      case atStart => exact ⟨0, Ls', Nat.zero_le _, by omega, rfl, AI.out, AM.out, fun t L x ht => absurd ht (Nat.not_lt_zero _)⟩
      case round =>
        obtain ⟨k, Ls2, hk, hg2, rfl, BI, BM, BK⟩ := hrel
        obtain ⟨L2, hL2, hL2n, hc2, hn2, hx2⟩ := BI.out.at2 HV.out
        have HL2 := Lib.hid hL2
        clear hL2
        by_cases hkn : k < n
        · have hknz : (k : Int) < (n : Int) := by omega
          obtain ⟨x, hx⟩ : ∃ x, L2[k]? = some x := ⟨_, List.getElem?_eq_getElem (by omega)⟩
          obtain ⟨ga, rfl, hcx, hfx⟩ := hx2 k x hx
          have hmk := BI.out.mark i
          clear hx2 hx
          go_wp2
          go_region
          go_wp2
          go_roundg (n - (k + 1))
          case measure => omega
          case rel =>
            refine ⟨k + 1, Ls2.set i (L2.set k (markOf i)), by omega, by omega, by go_num, (show Aside _ from ?_), (show Aside _ from fun j M hj hM => ?_), (show Aside _ from fun t M y ht hM hy => ?_)⟩
            · exact OwnI.drew <| BI.out.store HA.out HL2.out (by rw [hL2n]; exact HV.out) (markOf i)
            · rw [List.getElem?_set_ne (by omega)] at hM
              exact BM.out j M hj hM
            · rw [List.getElem?_set_self (List.getElem?_eq_some_iff.1 HL2.out).1] at hM
              cases hM
              by_cases e : t = k
              · subst e
                rw [List.getElem?_set_self (by omega)] at hy
                exact (Option.some.inj hy).symm
              · rw [List.getElem?_set_ne (fun e' => e e'.symm)] at hy
                exact BK.out t L2 y (by omega) HL2.out hy
        · have hknz : ¬ (k : Int) < (n : Int) := by omega
          clear hx2
          go_wp2
          go_roundg (vs.length - (i + 1))
          case measure => omega
          case rel =>
            refine ⟨i + 1, Ls2, by omega, by omega, by go_num, BI.out, (show Aside _ from fun j M hj hM y hy => ?_)⟩
            by_cases e : j = i
            · subst e
              rw [HL2.out] at hM
              cases hM
              obtain ⟨t, ht⟩ := List.mem_iff_getElem?.1 hy
              have := (List.getElem?_eq_some_iff.1 ht).1
              exact BK.out t L2 y (by omega) HL2.out ht
            · exact BM.out j M (by omega) hM y hy
    · have hltz : ¬ (i : Int) < (vs.length : Int) := by omega
      have hiv : i = vs.length := by omega
      subst hiv
      go_wp2
      go_loopg [6] vs.length (fun gg x6 wr => ∃ i, i ≤ vs.length ∧ vs.length - i ≤ gg ∧ x6 = .int .i64 i ∧ Aside (OwnI q w.heap.size base vs w Ls' wr))
      case atStart => exact ⟨0, Nat.zero_le _, by omega, rfl, AI.out⟩
      case round =>
        obtain ⟨i, hi, hg, rfl, BI⟩ := hrel
        by_cases hlt : i < vs.length
        · have hltz : (i : Int) < (vs.length : Int) := by omega
          obtain ⟨L, g, c', hLi, hvi, hri, hci, hs⟩ := BI.out.at_ hlt
          obtain ⟨n, hnl⟩ : ∃ n, n = L.length := ⟨_, rfl⟩
          have HR := Lib.hid hri
          have HV := Lib.hid hvi
          have HL := Lib.hid hLi
          have HN := Lib.hid hnl
          rw [← hnl] at hci
          clear hvi hri hLi hnl
          go_wp2
          go_loopg [7, 8] 64 (fun gg2 x7 x8 wr => ∃ k M, k ≤ 64 ∧ 64 - k ≤ gg2 ∧ x8 = .int .i64 k ∧ M.length ≤ 1024 + k ∧ Aside (SRow wr base x7 M) ∧ Aside (∀ b, x7.ownBlock = some b → b ≠ q ∧ b ≠ w.heap.size) ∧ Aside (OwnI q w.heap.size base vs w Ls' wr) ∧
            Aside (∀ (j : Nat) v L b, vs[j]? = some v → Ls'[j]? = some L → x7.ownBlock = some b → v.ownBlock = some b → L.length ≤ M.length))
          case atStart =>
            refine ⟨0, L, by omega, by omega, rfl, by omega, (show Aside _ from HN.out ▸ HR.out), (show Aside _ from fun b hb => ?_), BI.out, (show Aside _ from fun j v L2 b hv hL2 hb hvb => ?_)⟩
            · rw [HN.out] at hb
              exact ⟨BI.out.not_q HV.out HL.out hb, HA.out.off i _ b HV.out hb⟩
            · rw [HN.out] at hb
              by_cases e : j = i
              · subst e
                rw [HL.out] at hL2
                cases hL2
                exact Nat.le_refl _
              · exact absurd hb (HA.out.ne j i _ _ b e hv HV.out hvb)
          case round =>
            obtain ⟨k, M, hk, hg2, rfl, hM, CR, CB, CI, CL⟩ := hrel
            by_cases hkn : k < 64
            · have hknz : (k : Int) < 64 := by omega
              have hM' : M.length + 1 ≤ 4096 := by omega
              have HM' := Lib.hid hM'
              have hbw : base ≤ wr.heap.size := Nat.le_trans HB.out CI.out.below.size
              have HBW := Lib.hid hbw
              have HM := Lib.hid hM
              have HG2 := Lib.hid hg2
              have HK := Lib.hid hk
              have HG := Lib.hid hg
              have HS := Lib.hid hs
              have HKN := Lib.hid hkn
              clear hbw hM hM' hg2 hk hg hs hkn
              obtain ⟨g7, c7, rfl⟩ := CR.out.shape
              clear AI AM HV HN HL HR hi hci hltz BI hlt
              go_wp2_with (at_builtin; refine wpList_append_srow rfl (.tmp 52) (.tmp 53) rfl rfl base (.slice g7 M.length c7) M ⟨#[103, 114, 111, 119, 110]⟩ rfl (CR.out.of_heap ?c0) HM'.out ?c1 ⟨wr.heap.size, 0, none⟩ 1 rfl (cell_one_new _ _ _) ?_)
              case c0 => intro b hb; exact Below.heap_alloc _ _ _ (CR.out.lt hb)
              case c1 => rw [World.size_alloc]; exact Nat.le_trans HBW.out (Nat.le_succ _)
              intro l' W' hr' hat hgrow hkeep
              obtain ⟨g8, c8, rfl⟩ := hr'.shape
              have HR' := Lib.hid hr'
              have HAT := Lib.hid hat
              have HGW := Lib.hid hgrow
              have HKP := Lib.hid hkeep
              clear hr' hat hgrow hkeep
              go_wp2
              go_roundg (64 - (k + 1))
              case measure => have := HKN.out; have := HG2.out; omega
              case rel =>
                have old : ∀ b, (∀ b', (Value.slice g7 M.length c7).ownBlock = some b' → b' ≠ b) → b < wr.heap.size → W'.heap[b]? = wr.heap[b]? := fun b hne hb =>
                  (HGW.out.block b (by rw [World.size_alloc]; omega) (fun e => hne b e.symm rfl)).trans (Below.heap_alloc _ _ _ hb)
                have hql := (Array.getElem?_eq_some_iff.1 CI.out.hq).1
                have hml := (Array.getElem?_eq_some_iff.1 CI.out.hm).1
                have hbb : ∀ b, (Value.slice g8 (M ++ [(⟨#[103, 114, 111, 119, 110]⟩ : ByteArray)]).length c8).ownBlock = some b → (Value.slice g7 M.length c7).ownBlock = some b ∨ b = wr.heap.size + 1 := fun b hb => by
                  rcases HAT.out with e | e
                  · exact .inl (e ▸ hb)
                  · rw [hb] at e
                    exact .inr (by simpa using e)
                have hI : OwnI q w.heap.size base vs w Ls' W' := by
                  refine ⟨(old q (fun b hb => (CB.out b hb).1) hql).trans CI.out.hq, (old _ (fun b hb => (CB.out b hb).2) hml).trans CI.out.hm, fun j v L hv hL => HKP.out v L ?_ (fun b hb hvb => CL.out j v L b hv hL hb hvb), CI.out.len, CI.out.small, ?_⟩
                  · exact (CI.out.row j v L hv hL).of_heap fun b hb => Below.heap_alloc _ _ _ ((CI.out.row j v L hv hL).lt hb)
                  · exact (CI.out.below.alloc HBW.out _).grown HGW.out (Nat.le_trans HB.out (Nat.le_trans CI.out.below.size (by simp))) (fun b hb => CR.out.base_le hb)
                have hkk := HKN.out
                have hmm := HM.out
                refine ⟨k + 1, M ++ [(⟨#[103, 114, 111, 119, 110]⟩ : ByteArray)], by omega, by omega, by go_num, by simp; omega, HR'.out, (show Aside _ from fun b hb => ?_), hI, (show Aside _ from fun j v L b hv hL hb hvb => ?_)⟩
                · rcases hbb b hb with e | e
                  · exact CB.out b e
                  · subst e; exact ⟨by omega, by omega⟩
                · rw [List.length_append]
                  rcases hbb b hb with e | e
                  · have := CL.out j v L b hv hL e hvb
                    omega
                  · have := (CI.out.row j v L hv hL).lt hvb
                    omega
            · have hknz : ¬ (k : Int) < 64 := by omega
              go_wp2
              go_roundg (vs.length - (i + 1))
              case measure => omega
              case rel => exact ⟨i + 1, by omega, by omega, by go_num, CI.out⟩
        · have hltz : ¬ (i : Int) < (vs.length : Int) := by omega
          have hiv : i = vs.length := by omega
          subst hiv
          go_wp2
          go_loopg [9] vs.length (fun gg x9 wr => ∃ i, i ≤ vs.length ∧ vs.length - i ≤ gg ∧ x9 = .int .i64 i ∧ Aside (OwnI q w.heap.size base vs w Ls' wr))
          case atStart => exact ⟨0, Nat.zero_le _, by omega, rfl, BI.out⟩
          case round =>
            obtain ⟨i, hi, hg, rfl, CI⟩ := hrel
            by_cases hlt : i < vs.length
            · have hltz : (i : Int) < (vs.length : Int) := by omega
              obtain ⟨L, g, c', hLi, hvi, hri, hci, hs⟩ := CI.out.at_ hlt
              obtain ⟨n, hnl⟩ : ∃ n, n = L.length := ⟨_, rfl⟩
              have HV := Lib.hid hvi
              have HL := Lib.hid hLi
              have HN := Lib.hid hnl
              rw [← hnl] at hci hs
              clear hvi hri hLi hnl
              go_wp2
              go_loopg [10] n (fun gg2 x10 wr => ∃ k, k ≤ n ∧ n - k ≤ gg2 ∧ x10 = .int .i64 k ∧ Aside (OwnI q w.heap.size base vs w Ls' wr))
              case atStart => exact ⟨0, Nat.zero_le _, by omega, rfl, CI.out⟩
              case round =>
                obtain ⟨k, hk, hg2, rfl, DI⟩ := hrel
                have hv2 : vs[i]? = some (.slice g n c') := by rw [HN.out]; exact HV.out
                obtain ⟨L2, hL2, hL2n, hc2, hn2, hx2⟩ := DI.out.at2 hv2
                have HL2 := Lib.hid hL2
                clear hL2 hv2
                by_cases hkn : k < n
                · have hknz : (k : Int) < (n : Int) := by omega
                  obtain ⟨x, hx⟩ : ∃ x, L2[k]? = some x := ⟨_, List.getElem?_eq_getElem (by omega)⟩
                  obtain ⟨ga, rfl, hcx, hfx⟩ := hx2 k x hx
                  have hxm : x = markOf i := AM.out i L2 hlt HL2.out x (List.mem_of_getElem? hx)
                  subst hxm
                  have hmk := DI.out.mark i
                  clear hx2 hx
                  go_wp2
                  go_region
                  go_wp2
                  go_roundg (n - (k + 1))
                  case measure => omega
                  case rel => exact ⟨k + 1, by omega, by omega, by go_num, OwnI.drew DI.out⟩
                · have hknz : ¬ (k : Int) < (n : Int) := by omega
                  clear hx2
                  go_wp2
                  go_roundg (vs.length - (i + 1))
                  case measure => omega
                  case rel => exact ⟨i + 1, by omega, by omega, by go_num, DI.out⟩
            · have hltz : ¬ (i : Int) < (vs.length : Int) := by omega
              go_wp2
              go_ret
              exact ⟨rfl, CI.out.below⟩

theorem own_four {va vb vc vd : Value} {La Lb Lc Ld : List ByteArray} {W : World} {S0 S1 S2 S3 : Nat} (ha : SRow W S0 va La) (hb : SRow W S1 vb Lb) (hc : SRow W S2 vc Lc) (hd : SRow W S3 vd Ld)
    (ua : ∀ b, va.ownBlock = some b → b < S1) (ub : ∀ b, vb.ownBlock = some b → b < S2) (uc : ∀ b, vc.ownBlock = some b → b < S3) (h01 : S0 ≤ S1) (h12 : S1 ≤ S2) (h23 : S2 ≤ S3) (h3 : S3 ≤ W.heap.size)
    (la : La.length ≤ 1024) (lb : Lb.length ≤ 1024) (lc : Lc.length ≤ 1024) (ld : Ld.length ≤ 1024) :
    Calls Tryd.prog 12 #[.slice (some ⟨W.heap.size, 0, none⟩) 4 4] (W.alloc (.cells #[va, vb, vc, vd] 22)) fun e w' => e = .returned (.bool true) ∧ Below S0 (W.alloc (.cells #[va, vb, vc, vd] 22)) w' := by
  have mono : ∀ {b b' : Nat} {v : Value} {L : List ByteArray}, SRow W b v L → b' ≤ b → SRow (W.alloc (.cells #[va, vb, vc, vd] 22)) b' v L := fun h hle =>
    SRow.of_heap (W := W) (h.imp id fun ⟨g, c, cur, hv, hg, r⟩ => ⟨g, c, cur, hv, Nat.le_trans hle hg, r⟩) fun b hb => Below.heap_alloc _ _ _ (h.lt hb)
  have ud := fun b => hd.lt (b := b)
  have key : ∀ (j : Nat) (u : Value) (b : Nat), [va, vb, vc, vd][j]? = some u → u.ownBlock = some b → (j = 0 ∧ S0 ≤ b ∧ b < S1) ∨ (j = 1 ∧ S1 ≤ b ∧ b < S2) ∨ (j = 2 ∧ S2 ≤ b ∧ b < S3) ∨ (j = 3 ∧ S3 ≤ b) := fun j u b hj hu => by
    match j, hj with
    | 0, hj => cases hj; exact .inl ⟨rfl, ha.base_le hu, ua b hu⟩
    | 1, hj => cases hj; exact .inr (.inl ⟨rfl, hb.base_le hu, ub b hu⟩)
    | 2, hj => cases hj; exact .inr (.inr (.inl ⟨rfl, hc.base_le hu, uc b hu⟩))
    | 3, hj => cases hj; exact .inr (.inr (.inr ⟨rfl, hd.base_le hu⟩))
    | j + 4, hj => simp at hj
  refine own_true (base := S0) (vs := [va, vb, vc, vd]) (Ls := [La, Lb, Lc, Ld]) 4 (by simp) (World.alloc_heap_new W _) rfl (fun j v L hv hL => ?_) (fun i j u v b hij hu hv hub hvb => ?_) (fun L hL => ?_) (by rw [World.size_alloc]; omega)
  · match j, hv, hL with
    | 0, hv, hL => cases hv; cases hL; exact mono ha (Nat.le_refl _)
    | 1, hv, hL => cases hv; cases hL; exact mono hb h01
    | 2, hv, hL => cases hv; cases hL; exact mono hc (Nat.le_trans h01 h12)
    | 3, hv, hL => cases hv; cases hL; exact mono hd (Nat.le_trans h01 (Nat.le_trans h12 h23))
    | j + 4, hv, _ => simp at hv
  · have k1 := key i u b hu hub
    have k2 := key j v b hv hvb
    omega
  · simp only [List.mem_cons, List.not_mem_nil, or_false] at hL
    rcases hL with rfl | rfl | rfl | rfl <;> assumption
end Go.Proofs.YtbinnghemkppdaaDoor
