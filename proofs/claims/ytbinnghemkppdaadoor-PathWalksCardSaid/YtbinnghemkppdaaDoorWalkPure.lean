/- One round of the reference's Walk, told plainly; it ends. -/
import Derived.Test.YtbinnghemkppdaaDoorAsk
import Derived.Test.YtbinnghemkppdaaDoorPureHDPathWalks
namespace Go.Proofs.YtbinnghemkppdaaDoor
open Go.RowKit Go.Proofs Go.Proofs.YtbinnghemkppdaaDoorW.PrintWords Go.Proofs.YtbinnghemkppdaaDoorW.PrintLast Go.Proofs.YtbinnghemkppdaaDoorW.PrintMore
open PHDPathWalks
set_option linter.unusedVariables false
set_option linter.unusedSimpArgs false

theorem mono_le {α : Type} {g : Nat → Option α} (hm : ∀ k, LeO (g k) (g (k + 1))) {k : Nat} {r : α} (h : g k = some r) : ∀ d, g (k + d) = some r
  | 0 => h
  | d + 1 => hm _ r (mono_le hm h d)
theorem Ev.of_mono {α : Type} {g : Nat → Option α} (hm : ∀ k, LeO (g k) (g (k + 1))) {k : Nat} {r : α} (h : g k = some r) : Ev g r :=
  ⟨k, fun k' hk => by
    obtain ⟨d, rfl⟩ : ∃ d, k' = k + d := ⟨k' - k, by omega⟩
    exact mono_le hm h d⟩
theorem Ev.det {α : Type} {g : Nat → Option α} (hm : ∀ k, LeO (g k) (g (k + 1))) {k : Nat} {r v : α} (h : g k = some r) (he : Ev g v) : r = v := by
  obtain ⟨K, hK⟩ := he
  have h1 := mono_le hm h K
  rw [hK (k + K) (by omega)] at h1
  exact (Option.some.inj h1).symm
theorem names_det {x : ByteArray} (hx : x.size ≤ 140737488351300) {k : Nat} {r : List ByteArray × Int} (h : shaleref16_names.f k x = some r) : r = namesR x :=
  Ev.det (g := fun k => shaleref16_names.f k x) (shaleref16_names.mono x) h (refnames_ev x hx)
theorem split_det {x : ByteArray} (hx : x.size ≤ 140737488351300) {k : Nat} {r : List ByteArray × Int} (h : shaleref16_Split.f k x = some r) : r = splitR x :=
  Ev.det (g := fun k => shaleref16_Split.f k x) (shaleref16_Split.mono x) h (refsplit_ev x hx)

/-- The reference's loop at a tree. -/
def TD.l0 (T : TD) (k : Nat) (last : Bool) (L : List ByteArray) (at_ links : Int) (as_ : List S46) : Option (Int × List S46 × Int) := shaleref16_Walk.l0 k last L at_ links as_ T.n T.t T.l T.s
def TD.j1 (T : TD) (k : Nat) (last : Bool) (L : List ByteArray) (at_ links : Int) (as_ : List S46) (next : Int) (link : ByteArray) (b : Bool) : Option (Int × List S46 × Int) := shaleref16_Walk.j1 k last L at_ links as_ next link b T.n T.t T.l T.s
def TD.j2 (T : TD) (k : Nat) (last : Bool) (L : List ByteArray) (at_ links : Int) (as_ : List S46) (tx : ByteArray) : Option (Int × List S46 × Int) := shaleref16_Walk.j2 k last L at_ links as_ tx T.n T.t T.l T.s
theorem l0_zero (T : TD) (last : Bool) (L : List ByteArray) (at_ links : Int) (as_ : List S46) : T.l0 0 last L at_ links as_ = none := by unfold TD.l0; rw [shaleref16_Walk.l0]
theorem j1_zero (T : TD) (last : Bool) (L : List ByteArray) (at_ links : Int) (as_ : List S46) (next : Int) (link : ByteArray) (b : Bool) : T.j1 0 last L at_ links as_ next link b = none := by unfold TD.j1; rw [shaleref16_Walk.j1]
theorem j2_zero (T : TD) (last : Bool) (L : List ByteArray) (at_ links : Int) (as_ : List S46) (tx : ByteArray) : T.j2 0 last L at_ links as_ tx = none := by unfold TD.j2; rw [shaleref16_Walk.j2]
theorem l0_nil (T : TD) (k : Nat) (last : Bool) (at_ links : Int) (as_ : List S46) : T.l0 (k + 1) last [] at_ links as_ = some (at_, as_, 0) := by
  unfold TD.l0
  rw [shaleref16_Walk.l0, if_neg (by simp)]
theorem l0_cons (T : TD) (k : Nat) (last : Bool) (n : ByteArray) (t : List ByteArray) (at_ links : Int) (as_ : List S46) (ha : as_.length < 5864062014805) :
    T.l0 (k + 1) last (n :: t) at_ links as_ = (T.step k at_ n).bind fun bt => if bt.2.2.2 = 0 then T.j1 k last t at_ links (as_ ++ [⟨at_, n⟩]) bt.1 bt.2.1 (!bt.2.2.1 || (decide (t = []) && !last)) else some (0, as_ ++ [⟨at_, n⟩], bt.2.2.2) := by
  unfold TD.l0 TD.step TD.j1
  rw [shaleref16_Walk.l0, if_pos (by simp <;> omega), if_pos (by simp <;> omega), if_pos (by simp <;> omega), Option.bind_some, if_pos ha, Option.bind_some]
  have e1 : rdOf ByteArray.empty (n :: t) 0 = n := rfl
  have e2 : (n :: t).drop (1 : Int).toNat = t := rfl
  rw [e1, e2]
  congr 1
  funext bt
  obtain ⟨b1, b2, b3, b4⟩ := bt
  simp only
  by_cases h0 : b4 = 0
  · rw [if_pos h0, if_pos h0]
    cases b3
    · simp
    · cases t with
      | nil => simp
      | cons x l => rw [if_pos rfl, if_neg (by simp; omega)]; simp
  · rw [if_neg h0, if_neg h0]
theorem j1_on (T : TD) (k : Nat) (last : Bool) (L : List ByteArray) (at_ links : Int) (as_ : List S46) (next : Int) (link : ByteArray) : T.j1 (k + 1) last L at_ links as_ next link true = T.l0 k last L next links as_ := by
  unfold TD.j1 TD.l0
  rw [shaleref16_Walk.j1, if_pos rfl]
theorem j1_off (T : TD) (k : Nat) (last : Bool) (L : List ByteArray) (at_ : Int) (links : Nat) (as_ : List S46) (next : Int) (link : ByteArray) (hl : links ≤ 8) (hs : 1 + link.size ≤ 9223372036854775807) :
    T.j1 (k + 1) last L at_ links as_ next link false = if links = 8 then some (0, as_, 177) else if link.size = 0 then some (0, as_, 160) else T.j2 k last L (folAt at_ link) ((links + 1 : Nat) : Int) as_ (folText link) := by
  unfold TD.j1 TD.j2
  rw [shaleref16_Walk.j1, if_neg Bool.false_ne_true]
  by_cases h8 : links = 8
  · rw [if_pos (by omega), if_pos h8]
  rw [if_neg (by omega), if_neg h8]
  have hz : link.toList = [] ↔ link.size = 0 := by rw [Lib.toList_data, Lib.size_eq, List.length_eq_zero_iff]
  by_cases h0 : link.size = 0
  · rw [if_pos (hz.2 h0), if_pos h0]
  rw [if_neg (fun h => h0 (hz.1 h)), if_neg h0, if_pos (by omega), w1 links (by omega)]
  unfold folAt folText
  by_cases h47 : bt link 0 = 47
  · rw [if_pos h47, if_pos h47, if_pos h47]
  · rw [if_neg h47, if_neg h47, if_neg h47, if_pos hs]
theorem j2_eq (T : TD) (k : Nat) (last : Bool) (L : List ByteArray) (at_ links : Int) (as_ : List S46) (tx : ByteArray) (hto : L.length ≤ 64) {r : List ByteArray × Int} (hr : shaleref16_names.f k tx = some r) (hr64 : r.1.length ≤ 64) :
    T.j2 (k + 1) last L at_ links as_ tx = if r.2 = 0 then (if 64 < r.1.length + L.length then some (0, as_, 161) else T.l0 k last (r.1 ++ L) at_ links as_) else some (0, as_, r.2) := by
  unfold TD.j2 TD.l0
  rw [shaleref16_Walk.j2, hr, Option.bind_some]
  by_cases h0 : r.2 = 0
  · rw [if_pos h0, if_pos h0]
    have e : wrap64 ((r.1.length : Int) + (L.length : Int)) = ((r.1.length + L.length : Nat) : Int) := by unfold wrap64; omega
    rw [e]
    by_cases h64 : 64 < r.1.length + L.length
    · rw [if_pos (by omega), if_pos h64]
    · rw [if_neg (by omega), if_neg h64, if_pos (by simp; omega), Option.bind_some, List.nil_append, if_pos (by omega)]
  · rw [if_neg h0, if_neg h0]

/-- What a tree's data keep to. -/
structure TD.Ok (T : TD) : Prop where
  link : ∀ x ∈ T.l, x.size ≤ 140737488351232
  names : ∀ xs ∈ T.n, xs.length ≤ 9223372036854775807
theorem rd_size {l : List ByteArray} (h : ∀ x ∈ l, x.size ≤ 140737488351232) (i : Int) : (rdOf ByteArray.empty l i).size ≤ 140737488351232 := by
  show (l.getD i.toNat ByteArray.empty).size ≤ _
  rw [List.getD_eq_getElem?_getD]
  cases hx : l[i.toNat]? with
  | none => exact Nat.zero_le _
  | some x => exact h x (List.mem_of_getElem? hx)
theorem step_size (T : TD) (hT : T.Ok) : ∀ k : Nat,
    (∀ at_ n b r, shaleref16_Tree_Step.j0 k at_ n b T.n T.t T.l T.s = some r → r.2.1.size ≤ 140737488351232) ∧
    (∀ at_ n i r, shaleref16_Tree_Step.l0 k at_ n i T.n T.t T.l T.s = some r → r.2.1.size ≤ 140737488351232) ∧
    (∀ at_ n i b r, shaleref16_Tree_Step.j2 k at_ n i b T.n T.t T.l T.s = some r → r.2.1.size ≤ 140737488351232) := by
  have z : (⟨#[]⟩ : ByteArray).size ≤ 140737488351232 := Nat.zero_le _
  intro k
  induction k with
  | zero =>
    refine ⟨fun at_ n b r h => ?_, fun at_ n i r h => ?_, fun at_ n i b r h => ?_⟩
    · rw [shaleref16_Tree_Step.j0] at h; cases h
    · rw [shaleref16_Tree_Step.l0] at h; cases h
    · rw [shaleref16_Tree_Step.j2] at h; cases h
  | succ k ih =>
    refine ⟨fun at_ n b r h => ?_, fun at_ n i r h => ?_, fun at_ n i b r h => ?_⟩
    · rw [shaleref16_Tree_Step.j0] at h
      split at h
      · cases h; exact z
      · exact ih.2.1 _ _ _ _ h
    · rw [shaleref16_Tree_Step.l0] at h
      repeat' split at h
      all_goals first
        | exact ih.2.2 _ _ _ _ _ h
        | (cases h; exact z)
        | (cases h; done)
    · rw [shaleref16_Tree_Step.j2] at h
      repeat' split at h
      all_goals first
        | exact ih.2.1 _ _ _ _ h
        | (cases h; exact z)
        | (cases h; exact rd_size hT.link _)
        | (cases h; done)
theorem step_link {T : TD} (hT : T.Ok) {k : Nat} {at_ : Int} {n : ByteArray} {r : Int × ByteArray × Bool × Int} (h : T.step k at_ n = some r) : r.2.1.size ≤ 140737488351232 := by
  unfold TD.step shaleref16_Tree_Step.f at h
  repeat' split at h
  all_goals exact (step_size T hT k).1 _ _ _ _ h

theorem step_loop (T : TD) (hT : T.Ok) (at_ : Int) (n : ByteArray) (h0 : 0 ≤ at_) (h1 : at_ < T.n.length) (h2 : at_ < T.t.length) :
    ∀ d i : Nat, (rd_L1 T.n at_).length - i = d → i ≤ (rd_L1 T.n at_).length → ∃ k r, shaleref16_Tree_Step.l0 k at_ n (i : Int) T.n T.t T.l T.s = some r := by
  have hlen : (rd_L1 T.n at_).length ≤ 9223372036854775807 := by
    show (T.n.getD at_.toNat []).length ≤ _
    rw [List.getD_eq_getElem?_getD, List.getElem?_eq_getElem (by omega)]
    exact hT.names _ (List.getElem_mem _)
  intro d
  induction d with
  | zero =>
    intro i hd hi
    refine ⟨1, (0, ⟨#[]⟩, false, 170), ?_⟩
    rw [shaleref16_Tree_Step.l0, if_pos h0, if_pos h1, if_neg (by omega)]
  | succ d ih =>
    intro i hd hi
    have hlt : i < (rd_L1 T.n at_).length := by omega
    have hw : wrap64 ((i : Int) + 1) = ((i + 1 : Nat) : Int) := by unfold wrap64; omega
    obtain ⟨k, r, hk⟩ := ih (i + 1) (by omega) (by omega)
    have off : shaleref16_Tree_Step.j2 (k + 1) at_ n (i : Int) false T.n T.t T.l T.s = some r := by
      rw [shaleref16_Tree_Step.j2, if_neg Bool.false_ne_true, hw, hk]
    by_cases hm : (rdOf ByteArray.empty (rd_L1 T.n at_) (i : Int)).toList = n.toList
    · by_cases hi3 : (i : Int) < ((rd_L3 T.t at_).length : Int)
      · have on : ∃ r, shaleref16_Tree_Step.j2 (k + 1) at_ n (i : Int) true T.n T.t T.l T.s = some r := by
          rw [shaleref16_Tree_Step.j2, if_pos rfl, if_pos h0, if_pos h2, if_pos (by omega), if_pos hi3]
          repeat' split
          all_goals first
            | exact ⟨_, rfl⟩
            | omega
        obtain ⟨r', hr'⟩ := on
        refine ⟨k + 2, r', ?_⟩
        rw [shaleref16_Tree_Step.l0, if_pos h0, if_pos h1, if_pos (by omega), if_pos (by omega), if_pos hm, if_pos h2, decide_eq_true hi3, hr']
      · refine ⟨k + 2, r, ?_⟩
        rw [shaleref16_Tree_Step.l0, if_pos h0, if_pos h1, if_pos (by omega), if_pos (by omega), if_pos hm, if_pos h2, decide_eq_false hi3, off]
    · refine ⟨k + 2, r, ?_⟩
      rw [shaleref16_Tree_Step.l0, if_pos h0, if_pos h1, if_pos (by omega), if_pos (by omega), if_neg hm, off]
theorem step_ends (T : TD) (hT : T.Ok) (at_ : Int) (n : ByteArray) : ∃ k r, T.step k at_ n = some r := by
  unfold TD.step shaleref16_Tree_Step.f
  by_cases h0 : at_ < 0
  · exact ⟨1, _, by rw [if_pos h0, shaleref16_Tree_Step.j0, if_pos rfl]⟩
  by_cases h1 : at_ ≥ (T.n.length : Int)
  · exact ⟨1, _, by rw [if_neg h0, if_pos h1, shaleref16_Tree_Step.j0, if_pos rfl]⟩
  by_cases h2 : at_ ≥ (T.t.length : Int)
  · exact ⟨1, _, by rw [if_neg h0, if_neg h1, shaleref16_Tree_Step.j0, decide_eq_true h2, if_pos rfl]⟩
  · obtain ⟨k, r, hk⟩ := step_loop T hT at_ n (by omega) (by omega) (by omega) _ 0 rfl (Nat.zero_le _)
    exact ⟨k + 1, r, by rw [if_neg h0, if_neg h1, shaleref16_Tree_Step.j0, decide_eq_false h2, if_neg Bool.false_ne_true]; exact hk⟩

theorem l0_mono (T : TD) (last : Bool) (L : List ByteArray) (at_ links : Int) (as_ : List S46) (k : Nat) : LeO (T.l0 k last L at_ links as_) (T.l0 (k + 1) last L at_ links as_) :=
  (shaleref16_Walk.mono_l k).1 last L at_ links as_ T.n T.t T.l T.s
/-- The reference's loop ends, wherever it stands. -/
theorem l0_ends (T : TD) (hT : T.Ok) (last : Bool) : ∀ (g : Nat) (L : List ByteArray) (at_ : Int) (links : Nat) (as_ : List S46), links ≤ 8 → L.length ≤ 64 → 65 * (8 - links) + L.length ≤ g → as_.length + g ≤ 100000 → ∃ k R, T.l0 k last L at_ links as_ = some R := by
  intro g
  induction g with
  | zero =>
    intro L at_ links as_ hl hL hg ha
    obtain rfl : L = [] := List.eq_nil_of_length_eq_zero (by omega)
    exact ⟨1, _, l0_nil _ _ _ _ _ _⟩
  | succ g ih =>
    intro L at_ links as_ hl hL hg ha
    match L with
    | [] => exact ⟨1, _, l0_nil _ _ _ _ _ _⟩
    | n :: t =>
      simp only [List.length_cons] at hL hg
      obtain ⟨k, r, hk⟩ := step_ends T hT at_ n
      have hsz := step_link hT hk
      have hmono : ∀ k, LeO (T.step k at_ n) (T.step (k + 1) at_ n) := shaleref16_Tree_Step.mono _ _ _ _ _ _
      have go : ∀ {k1 : Nat} {R}, T.j1 (k + k1) last t at_ links (as_ ++ [⟨at_, n⟩]) r.1 r.2.1 (!r.2.2.1 || (decide (t = []) && !last)) = some R → r.2.2.2 = 0 → ∃ k R, T.l0 k last (n :: t) at_ links as_ = some R := fun {k1 R} h h0 =>
        ⟨k + k1 + 1, R, by rw [l0_cons _ _ _ _ _ _ _ _ (by omega), mono_le hmono hk k1, Option.bind_some, if_pos h0, h]⟩
      have hal : (as_ ++ [(⟨at_, n⟩ : S46)]).length = as_.length + 1 := by simp
      by_cases h0 : r.2.2.2 = 0
      case neg => exact ⟨k + 1, _, by rw [l0_cons _ _ _ _ _ _ _ _ (by omega), hk, Option.bind_some, if_neg h0]⟩
      cases hb : (!r.2.2.1 || (decide (t = []) && !last))
      · rw [hb] at go
        have hj := fun kk => j1_off T kk last t at_ links (as_ ++ [⟨at_, n⟩]) r.1 r.2.1 hl (by omega)
        by_cases h8 : links = 8
        · exact go (k1 := 1) (by rw [hj, if_pos h8]) h0
        by_cases hz : r.2.1.size = 0
        · exact go (k1 := 1) (by rw [hj, if_neg h8, if_pos hz]) h0
        have htx : (folText r.2.1).size ≤ 140737488351300 := by
          unfold folText
          split
          · omega
          · rw [ByteArray.size_append]
            have : (⟨#[47]⟩ : ByteArray).size = 1 := rfl
            omega
        obtain ⟨K2, hK2⟩ := refnames_ev (folText r.2.1) htx
        have h64 := namesR_len (folText r.2.1)
        by_cases hn0 : (namesR (folText r.2.1)).2 = 0
        case neg =>
          exact go (k1 := K2 + 2) (by rw [show k + (K2 + 2) = (k + K2 + 1) + 1 by omega, hj, if_neg h8, if_neg hz, show k + K2 + 1 = (k + K2) + 1 by omega, j2_eq T (k + K2) last t _ _ _ _ (by omega) (hK2 (k + K2) (by omega)) h64, if_neg hn0]) h0
        by_cases hbig : 64 < (namesR (folText r.2.1)).1.length + t.length
        · exact go (k1 := K2 + 2) (by rw [show k + (K2 + 2) = (k + K2 + 1) + 1 by omega, hj, if_neg h8, if_neg hz, show k + K2 + 1 = (k + K2) + 1 by omega, j2_eq T (k + K2) last t _ _ _ _ (by omega) (hK2 (k + K2) (by omega)) h64, if_pos hn0, if_pos hbig]) h0
        obtain ⟨k3, R, hR⟩ := ih ((namesR (folText r.2.1)).1 ++ t) (folAt at_ r.2.1) (links + 1) (as_ ++ [⟨at_, n⟩]) (by omega) (by simp; omega) (by simp; omega) (by omega)
        refine go (k1 := K2 + k3 + 2) (R := R) ?_ h0
        rw [show k + (K2 + k3 + 2) = (k + K2 + k3 + 1) + 1 by omega, hj, if_neg h8, if_neg hz, j2_eq T (k + K2 + k3) last t _ _ _ _ (by omega) (hK2 (k + K2 + k3) (by omega)) h64, if_pos hn0, if_neg hbig]
        have := mono_le (g := fun k => T.l0 k last ((namesR (folText r.2.1)).1 ++ t) (folAt at_ r.2.1) ((links + 1 : Nat) : Int) (as_ ++ [⟨at_, n⟩])) (fun k => l0_mono T last _ _ _ _ k) hR (k + K2)
        rw [show k3 + (k + K2) = k + K2 + k3 by omega] at this
        exact this
      · rw [hb] at go
        obtain ⟨k3, R, hR⟩ := ih t r.1 links (as_ ++ [⟨at_, n⟩]) hl (by omega) (by omega) (by omega)
        refine go (k1 := k3 + 1) (R := R) ?_ h0
        rw [show k + (k3 + 1) = (k + k3) + 1 by omega, j1_on]
        have := mono_le (g := fun k => T.l0 k last t r.1 links (as_ ++ [⟨at_, n⟩])) (fun k => l0_mono T last _ _ _ _ k) hR k
        rw [show k3 + k = k + k3 by omega] at this
        exact this

/-- The walk's flag: it goes on at the next thing. -/
def goesOn (t : List ByteArray) (last is_ : Bool) : Bool := !is_ || (decide (t = []) && !last)
/-- One round, told plainly. -/
inductive Round (T : TD) (last : Bool) (n : ByteArray) (t : List ByteArray) (at_ : Int) (links : Nat) (as_ : List S46) (R : Int × List S46 × Int) : Prop
  | err (k : Nat) (r : Int × ByteArray × Bool × Int) (hs : T.step k at_ n = some r) (h : r.2.2.2 ≠ 0) (hR : R = (0, as_ ++ [⟨at_, n⟩], r.2.2.2))
  | on (k : Nat) (r : Int × ByteArray × Bool × Int) (hs : T.step k at_ n = some r) (h : r.2.2.2 = 0) (hb : goesOn t last r.2.2.1 = true) (k' : Nat) (hR : T.l0 k' last t r.1 links (as_ ++ [⟨at_, n⟩]) = some R)
  | loop (k : Nat) (r : Int × ByteArray × Bool × Int) (hs : T.step k at_ n = some r) (h : r.2.2.2 = 0) (hb : goesOn t last r.2.2.1 = false) (h8 : links = 8) (hR : R = (0, as_ ++ [⟨at_, n⟩], 177))
  | empty (k : Nat) (r : Int × ByteArray × Bool × Int) (hs : T.step k at_ n = some r) (h : r.2.2.2 = 0) (hb : goesOn t last r.2.2.1 = false) (h8 : links < 8) (hz : r.2.1.size = 0) (hR : R = (0, as_ ++ [⟨at_, n⟩], 160))
  | bad (k : Nat) (r : Int × ByteArray × Bool × Int) (hs : T.step k at_ n = some r) (h : r.2.2.2 = 0) (hb : goesOn t last r.2.2.1 = false) (h8 : links < 8) (hz : 0 < r.2.1.size) (hf : folNo t r.2.1 ≠ 0) (hR : R = (0, as_ ++ [⟨at_, n⟩], folNo t r.2.1))
  | follow (k : Nat) (r : Int × ByteArray × Bool × Int) (hs : T.step k at_ n = some r) (h : r.2.2.2 = 0) (hb : goesOn t last r.2.2.1 = false) (h8 : links < 8) (hz : 0 < r.2.1.size) (hf : folNo t r.2.1 = 0) (h64 : (namesR (folText r.2.1)).1.length + t.length ≤ 64) (k' : Nat) (hR : T.l0 k' last ((namesR (folText r.2.1)).1 ++ t) (folAt at_ r.2.1) ((links + 1 : Nat) : Int) (as_ ++ [⟨at_, n⟩]) = some R)
theorem l0_round {T : TD} (hT : T.Ok) {k : Nat} {last : Bool} {n : ByteArray} {t : List ByteArray} {at_ : Int} {links : Nat} {as_ : List S46} {R : Int × List S46 × Int} (h : T.l0 k last (n :: t) at_ links as_ = some R) (hl : links ≤ 8) (ht : t.length ≤ 64) (ha : as_.length ≤ 100000) : Round T last n t at_ links as_ R := by
  match k, h with
  | 0, h => rw [l0_zero] at h; cases h
  | k + 1, h =>
    rw [l0_cons _ _ _ _ _ _ _ _ (by omega)] at h
    cases hs : T.step k at_ n with
    | none => rw [hs] at h; cases h
    | some r =>
      rw [hs, Option.bind_some] at h
      have hsz := step_link hT hs
      by_cases h0 : r.2.2.2 = 0
      case neg =>
        rw [if_neg h0] at h
        exact .err k r hs h0 (Option.some.inj h).symm
      rw [if_pos h0] at h
      match k, hs, h with
      | 0, _, h => rw [j1_zero] at h; cases h
      | k + 1, hs, h =>
        cases hb : goesOn t last r.2.2.1
        · rw [show (!r.2.2.1 || (decide (t = []) && !last)) = false from hb, j1_off _ _ _ _ _ _ _ _ _ hl (by omega)] at h
          by_cases h8 : links = 8
          · rw [if_pos h8] at h
            exact .loop _ r hs h0 hb h8 (Option.some.inj h).symm
          rw [if_neg h8] at h
          by_cases hz : r.2.1.size = 0
          · rw [if_pos hz] at h
            exact .empty _ r hs h0 hb (by omega) hz (Option.some.inj h).symm
          rw [if_neg hz] at h
          have htx : (folText r.2.1).size ≤ 140737488351300 := by
            unfold folText
            split
            · omega
            · rw [ByteArray.size_append]
              have : (⟨#[47]⟩ : ByteArray).size = 1 := rfl
              omega
          have h64 := namesR_len (folText r.2.1)
          match k, hs, h with
          | 0, _, h => rw [j2_zero] at h; cases h
          | k + 1, hs, h =>
            cases hn : shaleref16_names.f k (folText r.2.1) with
            | none =>
              exfalso
              unfold TD.j2 at h
              rw [shaleref16_Walk.j2, hn] at h
              cases h
            | some rn =>
              obtain rfl := names_det htx hn
              rw [j2_eq T k last t _ _ _ _ ht hn h64] at h
              by_cases hn0 : (namesR (folText r.2.1)).2 = 0
              · rw [if_pos hn0] at h
                by_cases hbig : 64 < (namesR (folText r.2.1)).1.length + t.length
                · rw [if_pos hbig] at h
                  have hf : folNo t r.2.1 = 161 := by unfold folNo; rw [if_pos hn0, if_pos hbig]
                  exact .bad _ r hs h0 hb (by omega) (by omega) (by rw [hf]; decide) (by rw [hf]; exact (Option.some.inj h).symm)
                · rw [if_neg hbig] at h
                  have hf : folNo t r.2.1 = 0 := by unfold folNo; rw [if_pos hn0, if_neg hbig]
                  exact .follow _ r hs h0 hb (by omega) (by omega) hf (by omega) k h
              · rw [if_neg hn0] at h
                have hf : folNo t r.2.1 = (namesR (folText r.2.1)).2 := by unfold folNo; rw [if_neg hn0]
                exact .bad _ r hs h0 hb (by omega) (by omega) (by rw [hf]; exact hn0) (by rw [hf]; exact (Option.some.inj h).symm)
        · rw [show (!r.2.2.1 || (decide (t = []) && !last)) = true from hb, j1_on] at h
          exact .on _ r hs h0 hb k h
def TD.walk (T : TD) (k : Nat) (s : ByteArray) (last : Bool) : Option (Int × List S46 × Int) := shaleref16_Walk.f k T.n T.t T.l T.s s last
theorem walk_cut {T : TD} {k : Nat} {s : ByteArray} {last : Bool} {R : Int × List S46 × Int} (hs : s.size ≤ 140737488351300) (h : T.walk k s last = some R) : ((splitR s).2 = 0 ∧ T.l0 k last (splitR s).1 0 0 [] = some R) ∨ ((splitR s).2 ≠ 0 ∧ R = (0, [], (splitR s).2)) := by
  unfold TD.walk shaleref16_Walk.f at h
  cases hp : shaleref16_Split.f k s with
  | none => rw [hp] at h; cases h
  | some r =>
    obtain rfl := split_det hs hp
    rw [hp, Option.bind_some] at h
    by_cases h0 : (splitR s).2 = 0
    · rw [if_pos h0] at h
      exact .inl ⟨h0, h⟩
    · rw [if_neg h0] at h
      exact .inr ⟨h0, (Option.some.inj h).symm⟩
theorem walk_ends (T : TD) (hT : T.Ok) (s : ByteArray) (last : Bool) (hs : s.size ≤ 140737488351300) : ∃ k R, T.walk k s last = some R := by
  obtain ⟨K, hK0⟩ := refsplit_ev s hs
  have hK : ∀ k, K ≤ k → shaleref16_Split.f k s = some (splitR s) := hK0
  unfold TD.walk shaleref16_Walk.f
  by_cases h0 : (splitR s).2 = 0
  · have h64 := splitR_len s
    obtain ⟨k, R, hR⟩ := l0_ends T hT last 1000 (splitR s).1 0 0 [] (by omega) h64 (by omega) (by simp)
    refine ⟨K + k, R, ?_⟩
    rw [hK (K + k) (by omega), Option.bind_some, if_pos h0]
    have := mono_le (g := fun k => T.l0 k last (splitR s).1 0 ((0 : Nat) : Int) []) (fun k => l0_mono T last _ _ _ _ k) hR K
    rw [Nat.add_comm] at this
    exact this
  · exact ⟨K, _, by rw [hK K (Nat.le_refl _), Option.bind_some, if_neg h0]⟩
end Go.Proofs.YtbinnghemkppdaaDoor
