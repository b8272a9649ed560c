/-
  DERIVED: THE SHELF's CONTRACTS AT THIS DUMP, IN PLAIN WORDS (tools/lay-plain.mjs out of 'YtmohijpkhmeibaaSortShelf.lean', which tools/lay-shelf.mjs wrote): THE SAME DECLARATIONS UNDER THE SAME NAMES: 'import', 'namespace', 'open', 'def', 'theorem' AND NOTHING ELSE: no command of the shelf's: FOR A HAND-IN. Each laying: the table of numbers ('.._ren') and one theorem, a field a fact of the dump's own or the kernel's comparison; each contract: ONE APPLICATION.
-/
import Derived.Shelf.SlSortCmp.NoneTotal
import Derived.Test.YtmohijpkhmeibaaProg
import Derived.Shelf.SlicesE.IndexFunc
import Derived.Test.YtmohijpkhmeibaaMOps
import Derived.BigQuiet
import Derived.Laws.EntriesVeiled
namespace Go.Proofs
open Go.Shelf
def Try.sortL_ren : Go.Shelf.Ren := ⟨fun | 6 => 68 | 15 => 77 | 14 => 76 | 28 => 87 | 29 => 88 | 20 => 79 | 21 => 80 | 22 => 81 | 23 => 82 | 24 => 83 | 25 => 84 | 26 => 85 | 27 => 86 | 46 => 89 | 47 => 90 | 48 => 91 | 49 => 92 | 50 => 93 | 57 => 94 | n => n, fun | 22 => 45 | 24 => 3 | 25 => 86 | 3 => 3 | 39 => 96 | 0 => 0 | 53 => 106 | 55 => 32 | 4 => 4 | 46 => 100 | 45 => 99 | 50 => 36 | 5 => 5 | 9 => 9 | 66 => 108 | 70 => 112 | 76 => 114 | 77 => 115 | n => n, fun | n => n⟩
theorem Try.sortL : Go.Proofs.SlLaysF.n6 Try.prog Try.sortL_ren := {
  mixed := by kernel_rfl
  f6 := ⟨Try.f68.name, by decide, Try.func68.trans (congrArg some (by kernel_rfl))⟩
  f14 := ⟨Try.f76.name, by decide, Try.func76.trans (congrArg some (by kernel_rfl))⟩
  f15 := Try.func77.trans (congrArg some (by kernel_rfl))
  f20 := ⟨Try.f79.name, by decide, Try.func79.trans (congrArg some (by kernel_rfl))⟩
  f21 := ⟨Try.f80.name, by decide, Try.func80.trans (congrArg some (by kernel_rfl))⟩
  f22 := ⟨Try.f81.name, by decide, Try.func81.trans (congrArg some (by kernel_rfl))⟩
  f23 := ⟨Try.f82.name, by decide, Try.func82.trans (congrArg some (by kernel_rfl))⟩
  f24 := ⟨Try.f83.name, by decide, Try.func83.trans (congrArg some (by kernel_rfl))⟩
  f25 := ⟨Try.f84.name, by decide, Try.func84.trans (congrArg some (by kernel_rfl))⟩
  f26 := ⟨Try.f85.name, by decide, Try.func85.trans (congrArg some (by kernel_rfl))⟩
  f27 := ⟨Try.f86.name, by decide, Try.func86.trans (congrArg some (by kernel_rfl))⟩
  f28 := Try.func87.trans (congrArg some (by kernel_rfl))
  f29 := Try.func88.trans (congrArg some (by kernel_rfl))
  f46 := ⟨Try.f89.name, by decide, Try.func89.trans (congrArg some (by kernel_rfl))⟩
  f47 := Try.func90.trans (congrArg some (by kernel_rfl))
  f48 := Try.func91.trans (congrArg some (by kernel_rfl))
  f49 := ⟨Try.f92.name, by decide, Try.func92.trans (congrArg some (by kernel_rfl))⟩
  f50 := ⟨Try.f93.name, by decide, Try.func93.trans (congrArg some (by kernel_rfl))⟩
  f57 := ⟨Try.f94.name, by decide, Try.func94.trans (congrArg some (by kernel_rfl))⟩
  t0 := Try.underlying0
  a0 := Try.isAgg0
  z0 := Try.sizeOf0
  v0 := Try.zeroValue0
  t3 := Try.underlying3
  a3 := Try.isAgg3
  z3 := Try.sizeOf3
  v3 := Try.zeroValue3
  t4 := Try.underlying4
  a4 := Try.isAgg4
  z4 := Try.sizeOf4
  v4 := Try.zeroValue4
  t5 := Try.underlying5
  a5 := Try.isAgg5
  z5 := Try.sizeOf5
  v5 := Try.zeroValue5
  t9 := Try.underlying9
  a9 := Try.isAgg9
  z9 := Try.sizeOf9
  v9 := Try.zeroValue9
  t22 := Try.underlying45
  a22 := Try.isAgg45
  z22 := Try.sizeOf45
  v22 := Try.zeroValue45
  a24 := Try.isAgg3
  z24 := Try.sizeOf3
  t25 := Try.underlying86
  a25 := Try.isAgg86
  z25 := Try.sizeOf86
  v25 := Try.zeroValue86
  t39 := Try.underlying96
  a39 := Try.isAgg96
  z39 := Try.sizeOf96
  v39 := Try.zeroValue96
  t45 := Try.underlying99
  a45 := Try.isAgg99
  z45 := Try.sizeOf99
  v45 := Try.zeroValue99
  t46 := Try.underlying100
  a46 := Try.isAgg100
  z46 := Try.sizeOf100
  v46 := Try.zeroValue100
  t50 := Try.underlying36
  a50 := Try.isAgg36
  z50 := Try.sizeOf36
  v50 := Try.zeroValue36
  t53 := Try.underlying106
  a53 := Try.isAgg106
  z53 := Try.sizeOf106
  v53 := Try.zeroValue106
  t55 := Try.underlying32
  a55 := Try.isAgg32
  z55 := Try.sizeOf32
  v55 := Try.zeroValue32
  t66 := Try.underlying108
  a66 := Try.isAgg108
  z66 := Try.sizeOf108
  v66 := Try.zeroValue108
  t70 := Try.underlying112
  a70 := Try.isAgg112
  z70 := Try.sizeOf112
  v70 := Try.zeroValue112
  t76 := Try.underlying114
  a76 := Try.isAgg114
  z76 := Try.sizeOf114
  v76 := Try.zeroValue114
  t77 := Try.underlying115
  a77 := Try.isAgg115
  z77 := Try.sizeOf115
  v77 := Try.zeroValue115 }
end Go.Proofs
/-
  DERIVED: THE SHELF's CONTRACTS AT THIS DUMP, IN PLAIN WORDS (tools/lay-plain.mjs out of 'YtmohijpkhmeibaaFindShelf.lean', which tools/lay-shelf.mjs wrote): THE SAME DECLARATIONS UNDER THE SAME NAMES: 'import', 'namespace', 'open', 'def', 'theorem' AND NOTHING ELSE: no command of the shelf's: FOR A HAND-IN. Each laying: the table of numbers ('.._ren') and one theorem, a field a fact of the dump's own or the kernel's comparison; each contract: ONE APPLICATION.
-/
namespace Go.Proofs
open Go.Shelf
def Try.findL_ren : Go.Shelf.Ren := ⟨fun | 6 => 49 | n => n, fun | 22 => 45 | 23 => 3 | 25 => 75 | 3 => 3 | 0 => 0 | 4 => 4 | n => n, fun | n => n⟩
theorem Try.findL : Go.Proofs.SlLaysH.n6 Try.prog Try.findL_ren := {
  mixed := by kernel_rfl
  f6 := ⟨Try.f49.name, by decide, Try.func49.trans (congrArg some (by kernel_rfl))⟩
  t0 := Try.underlying0
  a0 := Try.isAgg0
  z0 := Try.sizeOf0
  v0 := Try.zeroValue0
  t3 := Try.underlying3
  a3 := Try.isAgg3
  z3 := Try.sizeOf3
  v3 := Try.zeroValue3
  t4 := Try.underlying4
  a4 := Try.isAgg4
  z4 := Try.sizeOf4
  v4 := Try.zeroValue4
  t22 := Try.underlying45
  a22 := Try.isAgg45
  z22 := Try.sizeOf45
  v22 := Try.zeroValue45
  a23 := Try.isAgg3
  z23 := Try.sizeOf3
  t25 := Try.underlying75
  a25 := Try.isAgg75
  z25 := Try.sizeOf75
  v25 := Try.zeroValue75 }
end Go.Proofs
/- The log's blocks as a list; what compares two heads. -/
namespace Go.Proofs.Ytmohijpkhmeibaa
open Go.RowKit Go.Proofs
set_option linter.unusedVariables false
set_option linter.unusedSimpArgs false
set_option maxRecDepth 100000
def cmpI (x y : Int) : Int := if x < y then -1 else if y < x then 1 else 0
theorem nan_calls (x : Int) (w : World) : Calls Try.prog 78 #[.int .u64 x] w fun e w' => e = .returned (.bool false) ∧ w = w' := by
  go_enter Try.func78, Try.ntmps78
  go_wp2
  go_ret
  exact ⟨by simp, rfl⟩
theorem ccmp_calls (x y : Int) (w : World) : Calls Try.prog 70 #[.int .u64 x, .int .u64 y] w fun e w' => e = .returned (.int .i64 (cmpI x y)) ∧ w = w' := by
  have N1 := Lib.hid (nan_calls x w)
  have N2 := Lib.hid (nan_calls y w)
  unfold cmpI
  by_cases h1 : x < y
  · rw [if_pos h1]
    go_enter Try.func70, Try.ntmps70
    go_wp2_with fail
    refine N1.out.mono ?_
    rintro e w' ⟨rfl, rfl⟩
    go_wp2_with fail
    refine N2.out.mono ?_
    rintro e w' ⟨rfl, rfl⟩
    go_wp2
    go_ret
    exact ⟨rfl, rfl⟩
  · rw [if_neg h1]
    by_cases h2 : y < x
    · rw [if_pos h2]
      go_enter Try.func70, Try.ntmps70
      go_wp2_with fail
      refine N1.out.mono ?_
      rintro e w' ⟨rfl, rfl⟩
      go_wp2_with fail
      refine N2.out.mono ?_
      rintro e w' ⟨rfl, rfl⟩
      go_wp2
      go_ret
      exact ⟨rfl, rfl⟩
    · rw [if_neg h2]
      go_enter Try.func70, Try.ntmps70
      go_wp2_with fail
      refine N1.out.mono ?_
      rintro e w' ⟨rfl, rfl⟩
      go_wp2_with fail
      refine N2.out.mono ?_
      rintro e w' ⟨rfl, rfl⟩
      go_wp2
      go_ret
      exact ⟨rfl, rfl⟩
set_option maxHeartbeats 1000000 in
/-- The comparison that log hands to the sort: by the heads. -/
theorem less_calls (p q cap x : Nat) (b : Bks) (i j : Nat) (bi bj : Blk) (w : World) (hI : IsB w p q cap b) (hx : w.cell? ⟨x, 0, none⟩ = some (.pointer (some ⟨p, 0, none⟩))) (hi : b.all[i]? = some bi) (hj : b.all[j]? = some bj) :
    Calls Try.prog 69 #[.int .i64 (i : Int), .int .i64 (j : Int), .pointer (some ⟨x, 0, none⟩)] w fun e w' => e = .returned (.int .i64 (cmpI bi.head bj.head)) ∧ ∃ n, w' = w.drewN n := by
  have hil : i < b.all.length := (List.getElem?_eq_some_iff.1 hi).1
  have hjl : j < b.all.length := (List.getElem?_eq_some_iff.1 hj).1
  have c1 := hI.c1
  have e1 := hI.e1 hi
  have e2 := hI.e1 hj
  have CC := Lib.hid (fun n : Nat => (ccmp_calls bi.head bj.head (w.drewN n)).mono fun e w2 h => And.intro h.1 h.2.symm)
  have h1 : (i : Int) < (b.all.length : Int) := by omega
  have h2 : (j : Int) < (b.all.length : Int) := by omega
  have hle := hI.le
  clear hI hi hj
  generalize cmpI bi.head bj.head = r at *
  go_enter Try.func69, Try.ntmps69
  go_wp2
  go_quiet (first | (go_at_call 70; refine Calls.quiet_of_same (CC.out _)))
  go_wp2
  go_ret
  exact ⟨rfl, _, rfl⟩
end Go.Proofs.Ytmohijpkhmeibaa
/- The sort of the log's blocks, by the library's contract. -/
namespace Go.Proofs.Ytmohijpkhmeibaa
open Go.RowKit Go.Proofs Go.Shelf
set_option linter.unusedVariables false
set_option linter.unusedSimpArgs false
set_option maxRecDepth 100000
def headN (b : Bks) (i : Nat) : Int := match b.all[i]? with
  | some x => x.head
  | none => 0
theorem headN_of {b : Bks} {i : Nat} {x : Blk} (h : b.all[i]? = some x) : headN b i = x.head := by unfold headN; rw [h]
def sEnc {n : Nat} (i : Fin n) : Value := .int .i64 (i.val : Int)
def sCmp (b : Bks) {n : Nat} (i j : Fin n) : Int := cmpI (headN b i.val) (headN b j.val)
theorem sCmp_lt (b : Bks) {n : Nat} (i j : Fin n) : ltOf (sCmp b) i j = decide (headN b i.val < headN b j.val) := by
  unfold ltOf sCmp cmpI
  by_cases h1 : headN b i.val < headN b j.val
  · rw [if_pos h1]; simp [h1]
  · rw [if_neg h1]
    by_cases h2 : headN b j.val < headN b i.val
    · rw [if_pos h2]; simp [h1]
    · rw [if_neg h2]; simp [h1]
theorem sCmp_swo (b : Bks) (n : Nat) [Inhabited (Fin n)] : Go.Sort.SWO (ltOf (sCmp b (n := n))) where
  irrefl x := by rw [sCmp_lt]; simp
  trans x y z h1 h2 := by rw [sCmp_lt] at *; simp at *; omega
  ntrans x y z h1 h2 := by rw [sCmp_lt] at *; simp at *; omega
theorem off_sortWorld {α : Type} [Inhabited α] (enc : α → Value) (w : World) (g off m : Nat) (d : Array α) (os : Array Obj) (hg : g < w.heap.size) : Off (· = g) w (sortWorld enc w g off m d os) := by
  unfold sortWorld
  refine ⟨rfl, rfl, rfl, ?_, fun k hk hs => ?_⟩
  · rw [Go.Sort.size_grow]
    unfold Go.Sort.putRow Go.Sort.mapBlock
    simp [Go.Sort.ahead]
  · rw [Go.Sort.heap_grow_old _ _ (by unfold Go.Sort.putRow Go.Sort.mapBlock; simpa [Go.Sort.ahead] using hk)]
    unfold Go.Sort.putRow Go.Sort.mapBlock
    simp only [Array.getElem?_modify]
    rw [if_neg (fun e => hs e.symm)]
    rfl
theorem sort_calls (p q cap x g c : Nat) (b : Bks) (L0 : List Nat) (cur : Array Value) (w : World) (hL0 : ∀ i ∈ L0, i < b.all.length) (hI : IsB w p q cap b) (hx : w.cell? ⟨x, 0, none⟩ = some (.pointer (some ⟨p, 0, none⟩)))
    (hg : w.heap[g]? = some (.cells cur 3 (0, 0))) (hcur : ∀ (i k : Nat), L0[i]? = some k → cur[i]? = some (.int .i64 (k : Int))) (hpg : p ≠ g) (hqg : q ≠ g) (hxg : x ≠ g) (hlen : L0.length ≤ 4096) :
    Calls Try.prog 68 #[.slice (some ⟨g, 0, none⟩) L0.length c, .func (.func 69) #[] #[.pointer (some ⟨x, 0, none⟩)]] w fun e w' => e = .returned (.tuple #[]) ∧ ∃ L : List Nat, L.Perm L0 ∧ L.Pairwise (fun i j => headN b i ≤ headN b j) ∧ (∀ (i k : Nat), L[i]? = some k → w'.cell? ⟨g, i, none⟩ = some (.int .i64 (k : Int))) ∧ Off (· = g) w w' := by
  haveI : Inhabited (Fin b.all.length) := ⟨⟨0, hI.pos⟩⟩
  have hgl : g < w.heap.size := lt_of_heap hg
  have hxl : x < w.heap.size := World.block_lt_of_cell? _ _ hx
  have hdl : (L0.pmap (fun i h => (⟨i, h⟩ : Fin b.all.length)) hL0).toArray.size = L0.length := by simp
  have hH : Go.Sort.Holds (sEnc (n := b.all.length)) w g 0 (L0.pmap (fun i h => (⟨i, h⟩ : Fin b.all.length)) hL0).toArray := by
    intro j hj
    rw [hdl] at hj
    refine ⟨?_, free_of hg⟩
    rw [Nat.zero_add]
    refine cell_of hg ?_
    have e : ((L0.pmap (fun i h => (⟨i, h⟩ : Fin b.all.length)) hL0).toArray[j]!).val = L0[j] := by
      rw [getElem!_pos _ j (by rw [hdl]; exact hj)]
      simp
    unfold sEnc
    rw [e]
    exact hcur j _ (List.getElem?_eq_getElem hj)
  have eg : ∀ args w, (callFunc 69 args).run Try.prog w = .ok (.enter 69 args) w := enters_of Try.func69 (by kernel_rfl) rfl
  have hC : CmpReads Try.prog 69 #[.pointer (some ⟨x, 0, none⟩)] (sEnc (n := b.all.length)) (sCmp b) g 0 (L0.pmap (fun i h => (⟨i, h⟩ : Fin b.all.length)) hL0).toArray.size w := by
    intro m os dk hs i j
    have ho := off_sortWorld (sEnc (n := b.all.length)) w g 0 m dk os hgl
    have hi := List.getElem?_eq_getElem i.isLt
    have hj := List.getElem?_eq_getElem j.isLt
    have hI' := hI.off ho hpg hqg
    have hx' : (sortWorld (sEnc (n := b.all.length)) w g 0 m dk os).cell? ⟨x, 0, none⟩ = some (.pointer (some ⟨p, 0, none⟩)) := by
      unfold World.cell? at hx ⊢
      rw [show (sortWorld (sEnc (n := b.all.length)) w g 0 m dk os).heap[x]? = w.heap[x]? from ho.block x hxl hxg]
      exact hx
    have := less_calls p q cap x b i.val j.val _ _ _ hI' hx' hi hj
    unfold sCmp
    rw [headN_of hi, headN_of hj]
    exact this
  have hS := Any.slices_SortFunc Try.sortL (sEnc (n := b.all.length)) (fun _ => rfl) (sCmp b) (sCmp_swo b _) 69 #[.pointer (some ⟨x, 0, none⟩)] g 0 c _ w eg hC.lays hH hgl (by rw [hdl]; omega)
  rw [hdl] at hS
  refine Calls.mono hS ?_
  rintro e w' ⟨rfl, d', n, os, hp, hs, rfl⟩
  have hsz : d'.size = L0.length := by rw [hp.1, hdl]
  have hH' := holds_sortWorld (sEnc (n := b.all.length)) w g 0 n _ d' os hgl hH (hsz.trans hdl.symm)
  refine ⟨rfl, d'.toList.map (·.val), ?_, ?_, ?_, off_sortWorld _ w g 0 n d' os hgl⟩
  · have h := hp.2.2
    rw [Array.extract_eq_self_of_le (by omega), Array.extract_eq_self_of_le (by rw [hdl]; omega)] at h
    have h2 := h.map (·.val)
    simpa [List.map_pmap] using h2
  · rw [List.pairwise_map, List.pairwise_iff_getElem]
    intro i j hi hj hij
    have hj' : j < d'.size := by simpa using hj
    have := hs i j (by omega) hij (by omega)
    rw [sCmp_lt, getElem!_pos _ j hj', getElem!_pos _ i (by omega)] at this
    simp only [decide_eq_false_iff_not, Int.not_lt] at this
    simpa using this
  · intro i k hk
    rw [List.getElem?_map] at hk
    have hi : i < d'.size := by
      by_cases h : i < d'.size
      · exact h
      · rw [List.getElem?_eq_none (by simpa using Nat.not_lt.1 h)] at hk; cases hk
    have h := (hH' i hi).1
    rw [Nat.zero_add] at h
    rw [h]
    rw [List.getElem?_eq_getElem (by simpa using hi)] at hk
    unfold sEnc
    rw [getElem!_pos _ i hi]
    cases hk
    simp
end Go.Proofs.Ytmohijpkhmeibaa
/- The program's book: log, Logged. -/
namespace Go.Proofs.Ytmohijpkhmeibaa
open Go.RowKit Go.Proofs Go.Shelf
set_option linter.unusedVariables false
set_option linter.unusedSimpArgs false
set_option maxRecDepth 100000
theorem typ_ne0 {W : World} {b b' : Nat} {c c' : Array Value} {t t' : TypeId} {f f' : Nat × Nat} (h : W.heap[b]? = some (.cells c t f)) (h' : W.heap[b']? = some (.cells c' t' f')) (ht : t ≠ t') : b ≠ b' := by
  rintro rfl
  rw [h] at h'
  cases h'
  exact ht rfl
def logAt (l : List Blk) (i : Nat) : Bool := match l[i]? with
  | some x => countedB x
  | none => false
theorem logAt_of {l : List Blk} {i : Nat} {x : Blk} (h : l[i]? = some x) : logAt l i = countedB x := by unfold logAt; rw [h]
/-- The log's blocks among the first j, by rising numbers. -/
def logIdx (l : List Blk) (j : Nat) : List Nat := (List.range j).filter (logAt l)
theorem logIdx_succ (l : List Blk) (j : Nat) : logIdx l (j + 1) = logIdx l j ++ if logAt l j = true then [j] else [] := by
  unfold logIdx
  rw [List.range_succ, List.filter_append]
  congr 1
  rw [List.filter_cons, List.filter_nil]
theorem logIdx_len (l : List Blk) (j : Nat) : (logIdx l j).length ≤ j := by
  have := List.length_filter_le (logAt l) (List.range j)
  unfold logIdx
  simpa using this
theorem logIdx_mem {l : List Blk} {j i : Nat} : i ∈ logIdx l j ↔ i < j ∧ logAt l i = true := by
  unfold logIdx
  rw [List.mem_filter, List.mem_range]
/-- L: the log's blocks by rising heads. -/
def LogIs (b : Bks) (L : List Nat) : Prop := L.Perm (logIdx b.all b.all.length) ∧ L.Pairwise (fun i j => headN b i ≤ headN b j)
/-- A slice holds these numbers. -/
def HoldsN (w : World) (A : Option Addr) (L : List Nat) : Prop := L = [] ∨ ∃ g, A = some ⟨g, 0, none⟩ ∧ ∀ (i k : Nat), L[i]? = some k → w.cell? ⟨g, i, none⟩ = some (.int .i64 (k : Int))
theorem owns_nums {w : World} {base : Nat} {v : Value} {L : List Nat} (h : w.ownsRow base 3 1 v L.length (encN L)) (hne : L ≠ []) :
    ∃ g cap cur, v = .slice (some ⟨g, 0, none⟩) L.length cap ∧ base ≤ g ∧ w.heap[g]? = some (.cells cur 3 (0, 0)) ∧ ∀ (i k : Nat), L[i]? = some k → cur[i]? = some (.int .i64 (k : Int)) := by
  rcases h.2 with ⟨_, h0⟩ | ⟨g, cap, cur, hv, hg, hh, hn, _, hs, ht⟩
  · exact absurd (List.length_eq_zero_iff.1 h0) hne
  · refine ⟨g, cap, cur, hv, hg, hh, fun i k hk => ?_⟩
    have hi : i < L.length := (List.getElem?_eq_some_iff.1 hk).1
    have e : (cur.toList.take (L.length * 1))[i]? = (encN L)[i]? := by rw [ht]
    rw [List.getElem?_take_of_lt (by omega)] at e
    unfold encN at e
    rw [List.getElem?_map, hk] at e
    simpa using e
theorem owns_nil {w : World} {base : Nat} {v : Value} (h : w.ownsRow base 3 1 v 0 []) : ∃ A cap, v = .slice A 0 cap := by
  rcases h.2 with ⟨hv, _⟩ | ⟨g, cap, cur, hv, _⟩
  · exact ⟨_, _, hv⟩
  · exact ⟨_, _, hv⟩
theorem sort_none (A : Option Addr) (c : Nat) (fv : Value) (w : World) : Calls Try.prog 68 #[.slice A 0 c, fv] w fun e w' => e = .returned (.tuple #[]) ∧ w' = w :=
  AnyF.slices_SortFunc_none (P := Try.prog) (ρ := Try.sortL_ren) { Try.sortL with } A c fv w
/-- What the sort makes of the log's row. -/
theorem sort_log (p q cap x : Nat) (b : Bks) (base : Nat) (v : Value) (w : World) (hI : IsB w p q cap b) (hx : w.cell? ⟨x, 0, none⟩ = some (.pointer (some ⟨p, 0, none⟩))) (hp : p < base) (hq : q < base) (hxb : w.frozen? ⟨x, 0, none⟩ = false)
    (hxt : ∃ cx, w.heap[x]? = some (.cells cx 25 (0, 0)))
    (ho : w.ownsRow base 3 1 v (logIdx b.all b.all.length).length (encN (logIdx b.all b.all.length))) :
    ∃ A c, v = .slice A (logIdx b.all b.all.length).length c ∧
    Calls Try.prog 68 #[v, .func (.func 69) #[] #[.pointer (some ⟨x, 0, none⟩)]] w fun e w' => e = .returned (.tuple #[]) ∧ ∃ L : List Nat, LogIs b L ∧ HoldsN w' A L ∧ Off (fun i => base ≤ i) w w' := by
  by_cases hne : logIdx b.all b.all.length = []
  · rw [hne] at ho ⊢
    obtain ⟨A, c, rfl⟩ := owns_nil ho
    refine ⟨A, c, rfl, (sort_none A c _ w).mono ?_⟩
    rintro e w' ⟨rfl, rfl⟩
    exact ⟨rfl, [], ⟨by rw [hne], List.Pairwise.nil⟩, .inl rfl, Off.refl _ _⟩
  · obtain ⟨g, c, cur, rfl, hgb, hg, hcur⟩ := owns_nums ho hne
    obtain ⟨cx, hcx⟩ := hxt
    have hlen := logIdx_len b.all b.all.length
    have hle := hI.le
    refine ⟨_, c, rfl, (sort_calls p q cap x g c b _ cur w (fun i hi => (logIdx_mem.1 hi).1) hI hx hg hcur (by omega) (by omega) (typ_ne0 hcx hg (by decide)) (by omega)).mono ?_⟩
    rintro e w' ⟨rfl, L, h1, h2, h3, h4⟩
    exact ⟨rfl, L, ⟨h1, h2⟩, .inr ⟨g, rfl, h3⟩, h4.mono fun k _ e => by subst e; exact hgb⟩
end Go.Proofs.Ytmohijpkhmeibaa
/- The program's book: the walk of log; Logged. -/
namespace Go.Proofs.Ytmohijpkhmeibaa
open Go.RowKit Go.Proofs Go.Shelf
set_option linter.unusedVariables false
set_option linter.unusedSimpArgs false
set_option maxRecDepth 100000
set_option maxHeartbeats 4000000 in
theorem log_calls (p q cap : Nat) (b : Bks) (w : World) (hI : IsB w p q cap b) :
    Calls Try.prog 38 #[.pointer (some ⟨p, 0, none⟩)] w fun e w' => ∃ A c L, e = .returned (.slice A L.length c) ∧ LogIs b L ∧ HoldsN w' A L ∧ Below w.heap.size w w' := by
  obtain ⟨i0, hi, hz0, hz1, hz2⟩ := info_parts info3b
  have hle := hI.le
  have hb0 : Below w.heap.size w (w.alloc (.cells #[.pointer (some ⟨p, 0, none⟩)] 25)) := (Below.refl _ _).alloc (Nat.le_refl _) _
  have HI1 := Lib.hid (hI.alloc (.cells #[.pointer (some ⟨p, 0, none⟩)] 25))
  have HBX := Lib.hid (heap_alloc_new w (.cells #[.pointer (some ⟨p, 0, none⟩)] 25))
  have HB0 := Lib.hid hb0
  have hplt := hI.plt
  have hqlt := hI.qlt
  have hc1 := HI1.out.c1
  have hs1 : (w.alloc (.cells #[.pointer (some ⟨p, 0, none⟩)] 25)).heap.size = w.heap.size + 1 := World.size_alloc _ _
  clear hI hb0
  go_enter Try.func38, Try.ntmps38
  go_wp2
  clear hc1
  revert HI1 HBX HB0 hs1
  generalize w.alloc (.cells #[.pointer (some ⟨p, 0, none⟩)] 25) = w1
  intro HI1 HBX HB0 hs1
  go_loopw [3, 4, 5, 11] (fun s3 _ _ s11 wr => ∃ (j : Nat) (v3 : Value), v3 = s3 ∧ s11 = .int .i64 (j : Int) ∧ j ≤ b.all.length ∧ wr.ownsRow w1.heap.size 3 1 s3 (logIdx b.all j).length (encN (logIdx b.all j)) ∧ Below w1.heap.size w1 wr) (fun _ _ _ s11 _ => b.all.length - (intOf s11).toNat)
  case atStart => exact ⟨0, _, rfl, rfl, by omega, World.ownsRow_nil _ _ _ _, Below.refl _ _⟩
  case round =>
    obtain ⟨j, v3, rfl, rfl, hj, ho, hb⟩ := hrel
    have HO := Lib.hid ho
    have HB := Lib.hid hb
    by_cases hlt : j < b.all.length
    · obtain ⟨y, hy⟩ : ∃ y, b.all[j]? = some y := ⟨_, List.getElem?_eq_getElem hlt⟩
      have hI := HI1.out.below hb
      have g0 := hI.e0 hy
      have g1 := hI.e1 hy
      have g2 := hI.e2 hy
      have g3 := hI.e3 hy
      have g4 := hI.e4 hy
      have hjl : (j : Int) < (b.all.length : Int) := by omega
      have hml := logIdx_len b.all j
      have hsz := hb.size
      have hma : logAt b.all j = countedB y := logAt_of hy
      have HLT := Lib.hid ho.lt
      have HMA := Lib.hid hma
      have NO := Lib.hid (show countedB y = false → logIdx b.all (j + 1) = logIdx b.all j from fun e => by rw [logIdx_succ, hma, e]; simp)
      have YES := Lib.hid (show countedB y = true → logIdx b.all (j + 1) = logIdx b.all j ++ [j] from fun e => by rw [logIdx_succ, hma, e]; rfl)
      have n1 : (wr.alloc (.cells #[.int .i64 y.state, .int .u64 y.head, .bool y.real, .int .i64 y.live, .bool y.left] 71)).heap.size = wr.heap.size + 1 := World.size_alloc _ _
      clear ho hb hy hI hma
      have fin : ∀ (Q : Prop), Q → Q := fun _ h => h
      rcases (Bool.eq_false_or_eq_true (y.state == 1)).symm with h1 | h1
      · rcases (Bool.eq_false_or_eq_true (y.state == 2)).symm with h2 | h2
        · rcases (Bool.eq_false_or_eq_true (y.state == 4)).symm with h4 | h4
          · have EQ := Lib.hid (NO.out (by unfold countedB; rw [h1, h2, h4]; rfl))
            go_wp2
            go_roundw
            case rel => exact ⟨j + 1, _, rfl, by go_num, by omega, by rw [EQ.out]; exact HO.out.alloc _, HB.out.alloc hsz _⟩
            case measure => simp [intOf]; omega
          · rcases (Bool.eq_false_or_eq_true y.left).symm with hl | hl
            · have EQ := Lib.hid (YES.out (by unfold countedB; rw [h1, h2, h4, hl]; rfl))
              rw [hl] at g4 n1
              go_wp2_with (at_builtin; refine wpList_append_own _ rfl _ _ 45 rfl w1.heap.size 3 i0 (.int .i64 0) 1 8 Try.underlying45 hi hz0 hz1 hz2 rfl (by decide) v3 _ _ (by rfl) ((HO.out.alloc _).alloc _) ⟨wr.heap.size + 1, 0, none⟩ 1 1 [.int .i64 (j : Int)] rfl rfl (World.news_of_block (by have := heap_alloc_new (wr.alloc (.cells #[.int .i64 y.state, .int .u64 y.head, .bool y.real, .int .i64 y.live, .bool false] 71)) (.cells #[.int .i64 (j : Int)] 3); rwa [World.size_alloc] at this)) (by simp [Value.oneCell']) (by unfold maxLen; omega) (by omega) (by rw [World.size_alloc, World.size_alloc]; omega) ?_; intro v' w2 hown' hgrow _; have HO' := Lib.hid hown'; have HG := Lib.hid hgrow; clear hown' hgrow)
              go_roundw
              case rel =>
                refine ⟨j + 1, _, rfl, by go_num, by omega, ?_, ((HB.out.alloc hsz _).alloc (by rw [World.size_alloc]; omega) _).grown HG.out (by rw [World.size_alloc, World.size_alloc]; omega) fun k e => (HLT.out k e).1⟩
                rw [EQ.out, List.length_append, show encN (logIdx b.all j ++ [j]) = encN (logIdx b.all j) ++ [.int .i64 (j : Int)] by unfold encN; rw [List.map_append]; rfl]
                exact HO'.out
              case measure => simp [intOf]; omega
            · have EQ := Lib.hid (NO.out (by unfold countedB; rw [h1, h2, h4, hl]; rfl))
              rw [hl] at g4
              go_wp2
              go_roundw
              case rel => exact ⟨j + 1, _, rfl, by go_num, by omega, by rw [EQ.out]; exact HO.out.alloc _, HB.out.alloc hsz _⟩
              case measure => simp [intOf]; omega
        · have EQ := Lib.hid (YES.out (by unfold countedB; rw [h1, h2]; rfl))
          go_wp2_with (at_builtin; refine wpList_append_own _ rfl _ _ 45 rfl w1.heap.size 3 i0 (.int .i64 0) 1 8 Try.underlying45 hi hz0 hz1 hz2 rfl (by decide) v3 _ _ (by rfl) ((HO.out.alloc _).alloc _) ⟨wr.heap.size + 1, 0, none⟩ 1 1 [.int .i64 (j : Int)] rfl rfl (World.news_of_block (by have := heap_alloc_new (wr.alloc (.cells #[.int .i64 y.state, .int .u64 y.head, .bool y.real, .int .i64 y.live, .bool y.left] 71)) (.cells #[.int .i64 (j : Int)] 3); rwa [World.size_alloc] at this)) (by simp [Value.oneCell']) (by unfold maxLen; omega) (by omega) (by rw [World.size_alloc, World.size_alloc]; omega) ?_; intro v' w2 hown' hgrow _; have HO' := Lib.hid hown'; have HG := Lib.hid hgrow; clear hown' hgrow)
          go_roundw
          case rel =>
            refine ⟨j + 1, _, rfl, by go_num, by omega, ?_, ((HB.out.alloc hsz _).alloc (by rw [World.size_alloc]; omega) _).grown HG.out (by rw [World.size_alloc, World.size_alloc]; omega) fun k e => (HLT.out k e).1⟩
            rw [EQ.out, List.length_append, show encN (logIdx b.all j ++ [j]) = encN (logIdx b.all j) ++ [.int .i64 (j : Int)] by unfold encN; rw [List.map_append]; rfl]
            exact HO'.out
          case measure => simp [intOf]; omega
      · have EQ := Lib.hid (YES.out (by unfold countedB; rw [h1]; rfl))
        go_wp2_with (at_builtin; refine wpList_append_own _ rfl _ _ 45 rfl w1.heap.size 3 i0 (.int .i64 0) 1 8 Try.underlying45 hi hz0 hz1 hz2 rfl (by decide) v3 _ _ (by rfl) ((HO.out.alloc _).alloc _) ⟨wr.heap.size + 1, 0, none⟩ 1 1 [.int .i64 (j : Int)] rfl rfl (World.news_of_block (by have := heap_alloc_new (wr.alloc (.cells #[.int .i64 y.state, .int .u64 y.head, .bool y.real, .int .i64 y.live, .bool y.left] 71)) (.cells #[.int .i64 (j : Int)] 3); rwa [World.size_alloc] at this)) (by simp [Value.oneCell']) (by unfold maxLen; omega) (by omega) (by rw [World.size_alloc, World.size_alloc]; omega) ?_; intro v' w2 hown' hgrow _; have HO' := Lib.hid hown'; have HG := Lib.hid hgrow; clear hown' hgrow)
        go_roundw
        case rel =>
          refine ⟨j + 1, _, rfl, by go_num, by omega, ?_, ((HB.out.alloc hsz _).alloc (by rw [World.size_alloc]; omega) _).grown HG.out (by rw [World.size_alloc, World.size_alloc]; omega) fun k e => (HLT.out k e).1⟩
          rw [EQ.out, List.length_append, show encN (logIdx b.all j ++ [j]) = encN (logIdx b.all j) ++ [.int .i64 (j : Int)] by unfold encN; rw [List.map_append]; rfl]
          exact HO'.out
        case measure => simp [intOf]; omega
    · obtain rfl : j = b.all.length := by omega
      have hbx := (hb.block w.heap.size (by omega)).trans HBX.out
      obtain ⟨A, c, rfl, hS⟩ := sort_log p q cap w.heap.size b w1.heap.size v3 wr (HI1.out.below hb) (cell_of hbx rfl) (by omega) (by omega) (free_of hbx) ⟨_, hbx⟩ ho
      have SC := Lib.hid hS
      clear ho hb hS hbx
      go_wp2_with (go_at_call 68; refine SC.out.mono ?_; rintro e w2 ⟨rfl, L, h1, h2, h3⟩; have H1 := Lib.hid h1; have H2 := Lib.hid h2; have H3 := Lib.hid h3; clear h1 h2 h3)
      go_ret
      exact ⟨A, c, L, by rw [H1.out.1.length_eq]; rfl, H1.out, H2.out, HB0.out.trans ((HB.out.trans (H3.out.below HB.out.size fun i h => h)).mono (by omega))⟩
theorem logged_calls (p q cap : Nat) (b : Bks) (w : World) (hI : IsB w p q cap b) :
    Calls Try.prog 13 #[.pointer (some ⟨p, 0, none⟩)] w fun e w' => e = .returned (.int .i64 ((logIdx b.all b.all.length).length : Int)) ∧ Below w.heap.size w w' := by
  have LC := Lib.hid (log_calls p q cap b w hI)
  clear hI
  go_enter Try.func13, Try.ntmps13
  go_wp2_with fail
  refine LC.out.mono ?_
  rintro e w1 ⟨A, c, L, rfl, h1, h2, h3⟩
  have hl : L.length = (logIdx b.all b.all.length).length := h1.1.length_eq
  have HL := Lib.hid hl
  have H3 := Lib.hid h3
  clear h1 h2 h3 hl
  go_wp2
  go_ret
  exact ⟨by rw [← HL.out]; rfl, H3.out⟩
end Go.Proofs.Ytmohijpkhmeibaa
/- The program's book: the first of the log that is not the open one; Oldest. -/
namespace Go.Proofs.Ytmohijpkhmeibaa
open Go.RowKit Go.Proofs Go.Shelf
set_option linter.unusedVariables false
set_option linter.unusedSimpArgs false
set_option maxRecDepth 100000
/-- The first of L that is not the open one; -1: none. -/
def FirstIs (opn : Int) (L : List Nat) (f : Int) : Prop :=
  (f = -1 ∧ ∀ k ∈ L, (k : Int) = opn) ∨ (∃ (m k : Nat), f = (m : Int) ∧ L[m]? = some k ∧ (k : Int) ≠ opn ∧ ∀ (j k' : Nat), j < m → L[j]? = some k' → (k' : Int) = opn)
theorem first_from (opn : Int) (x : Nat) : ∀ (L : List Nat) (i : Nat),
    (Lib.idxByFrom (fun _ (y : Nat) => (y : Int) != opn) x L i = -1 ∧ ∀ k ∈ L, (k : Int) = opn) ∨ (∃ (m k : Nat), Lib.idxByFrom (fun _ (y : Nat) => (y : Int) != opn) x L i = ((i + m : Nat) : Int) ∧ L[m]? = some k ∧ (k : Int) ≠ opn ∧ ∀ (j k' : Nat), j < m → L[j]? = some k' → (k' : Int) = opn) := by
  intro L
  induction L with
  | nil => intro i; exact .inl ⟨rfl, fun k hk => by cases hk⟩
  | cons a L ih =>
    intro i
    unfold Lib.idxByFrom
    by_cases h : (a : Int) = opn
    · have hb : ((a : Int) != opn) = false := by rw [h]; simp
      rw [hb, if_neg Bool.false_ne_true]
      rcases ih (i + 1) with ⟨h1, h2⟩ | ⟨m, k, h1, h2, h3, h4⟩
      · refine .inl ⟨h1, fun k hk => ?_⟩
        rcases List.mem_cons.1 hk with rfl | hk
        · exact h
        · exact h2 k hk
      · refine .inr ⟨m + 1, k, by rw [h1]; omega, h2, h3, fun j k' hj hk' => ?_⟩
        cases j with
        | zero => simp at hk'; subst hk'; exact h
        | succ j => exact h4 j k' (by omega) hk'
    · have hb : ((a : Int) != opn) = true := bne_iff_ne.2 h
      rw [hb, if_pos rfl]
      exact .inr ⟨0, a, by simp, rfl, h, fun j k' hj => absurd hj (Nat.not_lt_zero _)⟩
theorem notopen_calls (p q cap x : Nat) (b : Bks) (k : Nat) (w : World) (hI : IsB w p q cap b) (hx : w.cell? ⟨x, 0, none⟩ = some (.pointer (some ⟨p, 0, none⟩))) :
    Calls Try.prog 50 #[.int .i64 (k : Int), .pointer (some ⟨x, 0, none⟩)] w fun e w' => e = .returned (.bool ((k : Int) != b.opn)) ∧ ∃ n, w' = w.drewN n := by
  have c5 := hI.c5
  clear hI
  go_enter Try.func50, Try.ntmps50
  go_wp2
  go_ret
  exact ⟨rfl, 0, rfl⟩
theorem find_calls (p q cap x c : Nat) (b : Bks) (A : Option Addr) (L : List Nat) (w : World) (hI : IsB w p q cap b) (hx : w.cell? ⟨x, 0, none⟩ = some (.pointer (some ⟨p, 0, none⟩))) (hL : HoldsN w A L) (hlen : L.length ≤ 4096) :
    Calls Try.prog 49 #[.slice A L.length c, .func (.func 50) #[] #[.pointer (some ⟨x, 0, none⟩)]] w fun e w' => (∃ f : Int, e = .returned (.int .i64 f) ∧ FirstIs b.opn L f) ∧ ∃ n, w' = w.drewN n := by
  have eg : ∀ args w, (callFunc 50 args).run Try.prog w = .ok (.enter 50 args) w := enters_of Try.func50 (by kernel_rfl) rfl
  rcases hL with rfl | ⟨g, rfl, hL⟩
  · refine Calls.mono (AnyE.slices_IndexFunc_empty Try.findL A c _ w) ?_
    rintro e w' ⟨rfl, rfl⟩
    exact ⟨⟨-1, rfl, .inl ⟨rfl, fun k hk => by cases hk⟩⟩, 0, rfl⟩
  · have hp : PredAt Try.prog 50 #[.pointer (some ⟨x, 0, none⟩)] (fun k : Nat => Value.int .i64 (k : Int)) (fun k : Nat => (k : Int) != b.opn) w := by
      intro W k hB
      exact notopen_calls p q cap x b k W (hI.below hB) ((hB.cell (p := ⟨x, 0, none⟩) (World.block_lt_of_cell? _ _ hx)).trans hx)
    refine Calls.mono (AnyE.slices_IndexFunc Try.findL (fun k : Nat => Value.int .i64 (k : Int)) (fun k : Nat => (k : Int) != b.opn) 50 #[.pointer (some ⟨x, 0, none⟩)] eg g 0 L.length c L w hp (Nat.le_refl _) (by omega) (fun j hj => by
      rw [Nat.zero_add, getElem!_pos _ j hj]
      exact hL j _ (List.getElem?_eq_getElem hj))) ?_
    rintro e w' ⟨rfl, n, rfl⟩
    refine ⟨⟨_, rfl, ?_⟩, n, rfl⟩
    rw [List.take_length]
    unfold Lib.idxBy
    rcases first_from b.opn default L 0 with ⟨h1, h2⟩ | ⟨m, k, h1, h2⟩
    · rw [h1]; exact .inl ⟨rfl, h2⟩
    · rw [h1]; exact .inr ⟨m, k, by omega, h2⟩
theorem pw_below_drewN' {B : Nat} {w w' : World} (h : Below B w w') (n : Nat) : Below B w (w'.drewN n) := ⟨h.os, h.tape, h.output, h.size, h.block⟩
/-- What Oldest answers, by the log's list. -/
def OldL (b : Bks) (L : List Nat) (v : Int) (h : Int) (ok : Bool) : Prop :=
  ((FirstIs b.opn L (-1) ∨ ∃ f : Int, FirstIs b.opn L f ∧ f = (L.length : Int) - 1) ∧ v = 0 ∧ h = 0 ∧ ok = false) ∨
  (∃ m k l : Nat, FirstIs b.opn L (m : Int) ∧ L[m]? = some k ∧ L[m + 1]? = some l ∧ v = (k : Int) ∧ h = headN b l ∧ ok = true)
theorem LogIs.lt {b : Bks} {L : List Nat} (h : LogIs b L) {k : Nat} (hk : k ∈ L) : k < b.all.length ∧ logAt b.all k = true := logIdx_mem.1 (h.1.mem_iff.1 hk)
set_option maxHeartbeats 4000000 in
theorem oldest_calls (p q cap : Nat) (b : Bks) (w : World) (hI : IsB w p q cap b) :
    Calls Try.prog 28 #[.pointer (some ⟨p, 0, none⟩)] w fun e w' => ∃ (L : List Nat) (v h : Int) (ok : Bool), e = .returned (.tuple #[.int .i64 v, .int .u64 h, .bool ok]) ∧ LogIs b L ∧ OldL b L v h ok ∧ Below w.heap.size w w' := by
  have hle := hI.le
  have HI1 := Lib.hid (hI.alloc (.cells #[.pointer (some ⟨p, 0, none⟩)] 25))
  have HBX := Lib.hid (heap_alloc_new w (.cells #[.pointer (some ⟨p, 0, none⟩)] 25))
  have HB0 := Lib.hid (show Below w.heap.size w (w.alloc (.cells #[.pointer (some ⟨p, 0, none⟩)] 25)) from (Below.refl _ _).alloc (Nat.le_refl _) _)
  have hs1 : (w.alloc (.cells #[.pointer (some ⟨p, 0, none⟩)] 25)).heap.size = w.heap.size + 1 := World.size_alloc _ _
  clear hI
  go_enter Try.func28, Try.ntmps28
  go_wp2_with fail
  refine (log_calls p q cap b _ HI1.out).mono ?_
  rintro e w2 ⟨A, c, L, rfl, hL, hH, hb⟩
  have hbx := (hb.block w.heap.size (by omega)).trans HBX.out
  have hI2 := HI1.out.below hb
  have hlen : L.length ≤ 4096 := by rw [hL.1.length_eq]; have := logIdx_len b.all b.all.length; omega
  have FC := Lib.hid (find_calls p q cap w.heap.size c b A L w2 hI2 (cell_of hbx rfl) hH hlen)
  have HB := Lib.hid (HB0.out.trans (hb.mono (by omega)))
  have bx := cell_of (o := 0) hbx rfl
  have c1 := hI2.c1
  have HL := Lib.hid hL
  have HH := Lib.hid hH
  have HI2 := Lib.hid hI2
  clear hb hbx hI2 hL hH HI1 HBX HB0 hs1
  go_wp2_with fail
  refine FC.out.mono ?_
  rintro e w3 ⟨⟨f, rfl, hf⟩, n, rfl⟩
  have HB3 := Lib.hid (pw_below_drewN' HB.out n)
  rcases hf with ⟨rfl, hf⟩ | ⟨m, k, rfl, hk, hko, hpre⟩
  · have HF := Lib.hid (show FirstIs b.opn L (-1) from .inl ⟨rfl, hf⟩)
    clear hf FC
    go_wp2
    refine bodyPost_ret (v := .tuple #[.int .i64 0, .int .u64 0, .bool false]) (by simp [results, Try.results28, go_sem]) rfl ?_
    exact ⟨L, 0, 0, false, rfl, HL.out, .inl ⟨.inl HF.out, rfl, rfl, rfl⟩, HB3.out⟩
  · have HF := Lib.hid (show FirstIs b.opn L (m : Int) from .inr ⟨m, k, rfl, hk, hko, hpre⟩)
    have hm : m < L.length := (List.getElem?_eq_some_iff.1 hk).1
    have nm : ((m : Int) == -1) = false := beq_eq_false_iff_ne.2 (by omega)
    have HK := Lib.hid hk
    clear hk hko hpre FC
    by_cases hlast : (m : Int) = (L.length : Int) - 1
    · have nl : ((m : Int) == (L.length : Int) - 1) = true := beq_iff_eq.2 hlast
      have HLA := Lib.hid hlast
      have wl : IntKind.i64.wrap ((L.length : Int) - 1) = (L.length : Int) - 1 := by rw [IntKind.wrap_i64]; omega
      clear hlast
      go_wp2
      refine bodyPost_ret (v := .tuple #[.int .i64 0, .int .u64 0, .bool false]) (by simp [results, Try.results28, go_sem]) rfl ?_
      exact ⟨L, 0, 0, false, rfl, HL.out, .inl ⟨.inr ⟨_, HF.out, HLA.out⟩, rfl, rfl, rfl⟩, HB3.out⟩
    · have nl : ((m : Int) == (L.length : Int) - 1) = false := beq_eq_false_iff_ne.2 hlast
      obtain ⟨l, hl⟩ : ∃ l, L[m + 1]? = some l := ⟨_, List.getElem?_eq_getElem (by omega)⟩
      have hkl := (HL.out.lt (List.mem_of_getElem? HK.out)).1
      have hll := (HL.out.lt (List.mem_of_getElem? hl)).1
      have hml : (m : Int) < (L.length : Int) := by omega
      have hml1 : (m : Int) + 1 < (L.length : Int) := by omega
      obtain ⟨y, hy⟩ : ∃ y, b.all[l]? = some y := ⟨_, List.getElem?_eq_getElem hll⟩
      have ey := HI2.out.e1 hy
      have hlI : (l : Int) < (b.all.length : Int) := by omega
      rcases HH.out with h0 | ⟨g, rfl, hg⟩
      · rw [h0] at hm; cases hm
      have dk := hg m k HK.out
      have dl := hg (m + 1) l hl
      have HY := Lib.hid (headN_of hy)
      have HLL := Lib.hid hl
      clear hlast hl hy hg
      go_wp2
      go_quiet (fail)
      go_wp2
      refine bodyPost_ret (v := .tuple #[.int .i64 (k : Int), .int .u64 y.head, .bool true]) (by simp [results, Try.results28, go_sem]) rfl ?_
      exact ⟨L, k, y.head, true, rfl, HL.out, .inr ⟨m, k, l, HF.out, HK.out, HLL.out, rfl, HY.out.symm, rfl⟩, by first | exact HB3.out | exact pw_below_drewN' HB3.out _⟩
end Go.Proofs.Ytmohijpkhmeibaa
/- The program's book: Clean; Bad where it is refused. -/
namespace Go.Proofs.Ytmohijpkhmeibaa
open Go.RowKit Go.Proofs Go.Shelf
set_option linter.unusedVariables false
set_option linter.unusedSimpArgs false
set_option maxRecDepth 100000
def vicB (b : Bks) (v : Int) (ok : Bool) : Bks := { b with victim := if ok = true then v else -1 }
def cleanB (b : Bks) (v : Int) (ok : Bool) : Bks :=
  if b.victim = -1 then vicB b v ok else match b.all[b.victim.toNat]? with
    | some x => settleB (vicB b v ok) b.victim.toNat x
    | none => vicB b v ok
/-- The victim, if there is one, is a block. -/
def VicOk (b : Bks) : Prop := b.victim = -1 ∨ ∃ (k : Nat) (x : Blk), b.victim = (k : Int) ∧ b.all[k]? = some x
set_option maxHeartbeats 4000000 in
theorem clean_calls (p q cap : Nat) (b : Bks) (w : World) (hI : IsB w p q cap b) (hv : VicOk b) :
    Calls Try.prog 15 #[.pointer (some ⟨p, 0, none⟩)] w fun e w' => ∃ (L : List Nat) (v h : Int) (ok : Bool), e = .returned (.tuple #[.int .i64 v, .int .u64 h, .bool ok]) ∧ LogIs b L ∧ OldL b L v h ok ∧ IsB w' p q cap (cleanB b v ok) ∧ Off (fun i => i = q ∨ i = p) w w' := by
  have OC := Lib.hid (oldest_calls p q cap b w hI)
  have HI := Lib.hid hI
  have HV := Lib.hid hv
  have hqlt := hI.qlt
  clear hI hv
  go_enter Try.func15, Try.ntmps15
  go_wp2_with fail
  refine OC.out.mono ?_
  rintro e w1 ⟨L, v, h, ok, rfl, h1, h2, h3⟩
  have hI1 := HI.out.below h3
  have c4 := hI1.c4
  have f4 := hI1.cf 4
  have s1 := hI1.setHead (j := 4) (v := .int .i64 (-1)) (b' := { b with victim := -1 }) rfl rfl
  have g4 := s1.c4
  have k4 := s1.cf 4
  have s2 := s1.setHead (j := 4) (v := .int .i64 v) (b' := { b with victim := v }) rfl rfl
  have H1 := Lib.hid h1
  have H2 := Lib.hid h2
  have H3 := Lib.hid h3
  have S1 := Lib.hid s1
  have S2 := Lib.hid s2
  have O1 : Hid (Off (fun i => i = q ∨ i = p) w (w1.setCell ⟨p, 4, none⟩ (.int .i64 (-1)))) := Lib.hid ((Off.of_below (S := fun i => i = q ∨ i = p) h3).setCell (p := ⟨p, 4, none⟩) (.inl (.inr rfl)) _)
  have O2 : Hid (Off (fun i => i = q ∨ i = p) w ((w1.setCell ⟨p, 4, none⟩ (.int .i64 (-1))).setCell ⟨p, 4, none⟩ (.int .i64 v))) := Lib.hid (O1.out.setCell (p := ⟨p, 4, none⟩) (.inl (.inr rfl)) _)
  clear h1 h2 h3 hI1 s1 s2 OC
  rcases HV.out with hvn | ⟨k, x, hvk, hx⟩
  · rw [hvn] at c4
    cases ok
    · have hc : cleanB b v false = { b with victim := -1 } := by unfold cleanB vicB; rw [if_pos hvn]; rfl
      have HC := Lib.hid hc
      have SC := Lib.hid (settle_none p q cap _ _ S1.out)
      clear hvn hc
      go_wp2_with (go_at_call 40; refine SC.out.mono ?_; rintro e w' ⟨⟨u, rfl⟩, rfl⟩)
      refine bodyPost_ret (v := .tuple #[.int .i64 v, .int .u64 h, .bool false]) (by simp [results, Try.results15, go_sem]) rfl ?_
      exact ⟨L, v, h, false, rfl, H1.out, H2.out, by rw [HC.out]; exact S1.out, O1.out⟩
    · have hc : cleanB b v true = { b with victim := v } := by unfold cleanB vicB; rw [if_pos hvn]; rfl
      have HC := Lib.hid hc
      have SC := Lib.hid (settle_none p q cap _ _ S2.out)
      clear hvn hc
      go_wp2_with (go_at_call 40; refine SC.out.mono ?_; rintro e w' ⟨⟨u, rfl⟩, rfl⟩)
      refine bodyPost_ret (v := .tuple #[.int .i64 v, .int .u64 h, .bool true]) (by simp [results, Try.results15, go_sem]) rfl ?_
      exact ⟨L, v, h, true, rfl, H1.out, H2.out, by rw [HC.out]; exact S2.out, O2.out⟩
  · rw [hvk] at c4
    have hne : ¬ b.victim = -1 := by omega
    have htn : b.victim.toNat = k := by omega
    cases ok
    · have hc : cleanB b v false = settleB { b with victim := -1 } k x := by unfold cleanB vicB; rw [if_neg hne, htn, hx]; rfl
      have HC := Lib.hid hc
      have SC := Lib.hid (settle_calls p q cap { b with victim := -1 } k x _ S1.out hx)
      clear hvk hne htn hc hx
      go_wp2_with (go_at_call 40; refine SC.out.mono ?_; rintro e w' ⟨⟨u, rfl⟩, h1, h2⟩; have K1 := Lib.hid h1; have K2 := Lib.hid h2; clear h1 h2)
      refine bodyPost_ret (v := .tuple #[.int .i64 v, .int .u64 h, .bool false]) (by simp [results, Try.results15, go_sem]) rfl ?_
      exact ⟨L, v, h, false, rfl, H1.out, H2.out, by rw [HC.out]; exact K1.out, O1.out.trans' K2.out fun _ _ h => .inl h⟩
    · have hc : cleanB b v true = settleB { b with victim := v } k x := by unfold cleanB vicB; rw [if_neg hne, htn, hx]; rfl
      have HC := Lib.hid hc
      have SC := Lib.hid (settle_calls p q cap { b with victim := v } k x _ S2.out hx)
      clear hvk hne htn hc hx
      go_wp2_with (go_at_call 40; refine SC.out.mono ?_; rintro e w' ⟨⟨u, rfl⟩, h1, h2⟩; have K1 := Lib.hid h1; have K2 := Lib.hid h2; clear h1 h2)
      refine bodyPost_ret (v := .tuple #[.int .i64 v, .int .u64 h, .bool true]) (by simp [results, Try.results15, go_sem]) rfl ?_
      exact ⟨L, v, h, true, rfl, H1.out, H2.out, by rw [HC.out]; exact K1.out, O2.out.trans' K2.out fun _ _ h => .inl h⟩
theorem bad_away (p q cap : Nat) (b : Bks) (n : Int) (w : World) (hI : IsB w p q cap b) (hn : n < 0 ∨ b.all.length ≤ n) :
    Calls Try.prog 12 #[.pointer (some ⟨p, 0, none⟩), .int .i64 n] w fun e w' => e = .returned (.int .i64 41) ∧ w = w' := by
  have CA := Lib.hid (at_no p q cap b n w hI hn)
  clear hI hn
  go_enter Try.func12, Try.ntmps12
  go_wp2_with fail
  refine CA.out.mono ?_
  rintro e w' ⟨rfl, rfl⟩
  go_wp2
  go_ret
  exact ⟨rfl, rfl⟩
theorem bad_no (p q cap : Nat) (b : Bks) (k : Nat) (x : Blk) (w : World) (hI : IsB w p q cap b) (hx : b.all[k]? = some x) (hs : x.state ≠ 0) (hd : doneB x k b.last = false) :
    Calls Try.prog 12 #[.pointer (some ⟨p, 0, none⟩), .int .i64 (k : Int)] w fun e w' => e = .returned (.int .i64 110) ∧ Below w.heap.size w w' := by
  have hk : k < b.all.length := (List.getElem?_eq_some_iff.1 hx).1
  have CA := Lib.hid (at_yes p q cap b k w hI (by omega) (by omega))
  have cd := done_calls p q cap b k x w hI hx
  rw [hd] at cd
  have CD := Lib.hid cd
  have e0 := hI.e0 hx
  have ns : (x.state != 0) = true := bne_iff_ne.2 hs
  have hkn : (k : Int).toNat = k := Int.toNat_natCast k
  clear hI hx hs hd cd
  go_enter Try.func12, Try.ntmps12
  go_wp2_with fail
  refine CA.out.mono ?_
  rintro e w' ⟨rfl, rfl⟩
  rw [hkn]
  go_wp2_with (go_at_call 37; refine CD.out.mono ?_; rintro e w1 ⟨rfl, hb⟩; have HB := Lib.hid hb; clear hb)
  go_ret
  exact ⟨rfl, HB.out⟩
end Go.Proofs.Ytmohijpkhmeibaa
