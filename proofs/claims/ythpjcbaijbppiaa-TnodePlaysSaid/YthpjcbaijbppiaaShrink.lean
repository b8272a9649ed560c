/- shrink, Drop. -/
import Derived.Test.YthpjcbaijbppiaaTake2
import Derived.Deep.LoopGhost
import Derived.Deep.RegionHeld3
namespace Go.Proofs.Ythpjcbaijbppiaa
open Go.RowKit Go.Proofs
set_option linter.unusedVariables false
set_option linter.unusedSimpArgs false
section
universe u
variable {V : Type u} {s : TS V}
/-- A tree whose height is lower by one, the top being taken away. -/
def lower (s : TS V) : TS V := { setN s (s.h - 1) 0 none with h := s.h - 1 }
def bare (s : TS V) : TS V := ⟨0, fun _ _ => none, s.K⟩
theorem root_used (hw : WF s) {k : Nat} {x : Nat × V} (hk : s.K k = some x) : 0 < usedOf (s.child (s.h - 1) 0) := by
  refine usedOf_pos.2 ?_
  obtain ⟨b, hb⟩ := hw.ku k x hk
  have h0 := hw.lv _ _ _ hb
  by_cases e : s.h = 1
  · rw [show s.h - 1 = 0 by omega]
    have hq := hw.one _ _ (by rw [show s.h - 1 = 0 by omega]; exact hb)
    refine ⟨k, x.1, by omega, ?_⟩
    show (s.K (0 * 16 + k)).map Prod.fst = some x.1
    rw [Nat.zero_mul, Nat.zero_add, hk]; rfl
  · obtain ⟨c, hc⟩ := hw.key_anc hk (L := s.h - 2) (by omega)
    rw [show s.h - 2 + 1 = s.h - 1 by omega] at hc
    have hlt := hw.key_lt hk
    refine ⟨k / 16 ^ (s.h - 1), c, ?_, ?_⟩
    · rw [Nat.div_lt_iff_lt_mul (pow_pos16 _)]
      rw [show s.h = s.h - 1 + 1 by omega, Nat.pow_succ] at hlt
      omega
    · rw [show s.h - 1 = s.h - 2 + 1 by omega]
      show s.N (s.h - 2) (0 * 16 + k / 16 ^ (s.h - 2 + 1)) = some c
      rw [Nat.zero_mul, Nat.zero_add, show s.h - 2 + 1 = s.h - 1 by omega]
      exact hc
theorem FullBut.of_key (hw : WF s) (h : FullBut s (s.h - 1) 0) {k : Nat} {x : Nat × V} (hk : s.K k = some x) : Full s := h.full (root_used hw hk)
theorem sub_lower {L q a : Nat} (ha : (lower s).N L q = some a) : s.N L q = some a ∧ ¬ (L = s.h - 1 ∧ q = 0) := by
  by_cases e : L = s.h - 1 ∧ q = 0
  · have h1 : (lower s).N L q = none := if_pos e
    rw [h1] at ha; cases ha
  · have h1 : (lower s).N L q = s.N L q := if_neg e
    rw [h1] at ha; exact ⟨ha, e⟩
theorem lower_N_ne {L q : Nat} (h : ¬ (L = s.h - 1 ∧ q = 0)) : (lower s).N L q = s.N L q := if_neg h
theorem lower_child (hw : WF s) {L q a d : Nat} (ha : (lower s).N L q = some a) (hd : d < 16) : (lower s).child L q d = s.child L q d := by
  have h1 := sub_lower ha
  have hl := hw.lv _ _ _ h1.1
  show (setN s (s.h - 1) 0 none).child L q d = _
  rw [child_setN, if_neg (by omega)]
theorem WF.lower (hw : WF s) (h1 : 1 < s.h) (hu : usedOf (s.child (s.h - 1) 0) = 1) {c : Nat} (hc : s.N (s.h - 2) 0 = some c) : WF (lower s) := by
  have hlv : ∀ L q a, (Go.Proofs.Ythpjcbaijbppiaa.lower s).N L q = some a → L < s.h - 1 := fun L q a ha => by
    obtain ⟨h2, h3⟩ := sub_lower ha
    have h4 := hw.lv _ _ _ h2
    by_cases e : L = s.h - 1
    · subst e; exact absurd ⟨rfl, hw.one _ _ h2⟩ h3
    · omega
  refine ⟨?_, hlv, fun q a ha => ?_, fun h0 => ?_, fun L q a ha hl => ?_, fun k x hx => ?_, fun L q L' q' a h2 h3 => hw.inj _ _ _ _ _ (sub_lower h2).1 (sub_lower h3).1⟩
  · have := hw.h5; show s.h - 1 ≤ 5; omega
  · have h2 := (sub_lower ha).1
    have h2' : s.N (s.h - 2) q = some a := h2
    obtain ⟨b, hb⟩ := hw.up _ _ _ h2' (by omega)
    rw [show s.h - 2 + 1 = s.h - 1 by omega] at hb
    have hq := hw.one _ _ hb
    by_cases e : q = 0
    · exact e
    · have e1 : s.h - 1 = s.h - 2 + 1 := by omega
      rw [e1] at hu
      have := usedOf_one (d := 0) (by decide) hu (by show (s.N (s.h - 2) (0 * 16 + 0)).isSome = true; rw [hc]; rfl) q (by omega) e
      have h5 : s.N (s.h - 2) (0 * 16 + q) = none := this
      rw [Nat.zero_mul, Nat.zero_add, h2'] at h5
      cases h5
  · exact ⟨c, (lower_N_ne (by show ¬ (s.h - 1 - 1 = s.h - 1 ∧ 0 = 0); omega)).trans hc⟩
  · have hl' : L + 1 < s.h - 1 := hl
    obtain ⟨b, hb⟩ := hw.up _ _ _ (sub_lower ha).1 (by omega)
    exact ⟨b, (lower_N_ne (by omega)).trans hb⟩
  · obtain ⟨b, hb⟩ := hw.ku k x hx
    exact ⟨b, (lower_N_ne (by omega)).trans hb⟩
theorem Full.lower (hw : WF s) (hf : Full s) : Full (lower s) := fun L q a ha => by
  rw [usedOf_congr (f := s.child L q) (fun d hd => by rw [lower_child hw ha hd])]
  exact hf L q a (sub_lower ha).1
theorem minH_of (hf : Full s) (hw : WF s) (h : 1 < s.h → usedOf (s.child (s.h - 1) 0) = 1 → s.N (s.h - 2) 0 = none) : MinH s := fun h1 => by
  obtain ⟨a, ha⟩ := hw.root (by omega)
  have hu := hf _ _ _ ha
  have e1 : s.h - 1 = s.h - 2 + 1 := by omega
  have key : ∀ d a, s.child (s.h - 1) 0 d = some a → s.N (s.h - 2) d = some a := fun d a h => by
    rw [e1] at h
    have h' : s.N (s.h - 2) (0 * 16 + d) = some a := h
    rwa [Nat.zero_mul, Nat.zero_add] at h'
  cases h0 : s.child (s.h - 1) 0 0 with
  | none =>
    obtain ⟨d, b, hd, hb⟩ := usedOf_pos.1 hu
    refine ⟨d, b, ?_, hd, key d b hb⟩
    by_cases e : d = 0
    · subst e; rw [h0] at hb; cases hb
    · omega
  | some c =>
    have hg := usedOf_gone (f := s.child (s.h - 1) 0) (f' := fun j => if j = 0 then none else s.child (s.h - 1) 0 j) (d := 0) (by decide) (by simp) (by rw [h0]; rfl) (fun j _ hj => by simp [hj])
    have hne : usedOf (s.child (s.h - 1) 0) ≠ 1 := fun e => by
      have := h h1 e
      rw [key 0 c h0] at this
      cases this
    obtain ⟨d, b, hd, hb⟩ := (usedOf_pos (f := fun j => if j = 0 then none else s.child (s.h - 1) 0 j)).1 (by omega)
    have hb : (if d = 0 then none else s.child (s.h - 1) 0 d) = some b := hb
    by_cases e : d = 0
    · rw [if_pos e] at hb; cases hb
    · rw [if_neg e] at hb
      exact ⟨d, b, by omega, hd, key d b hb⟩
/-- So many keys. -/
def Cnt (s : TS V) (n : Int) : Prop := ∃ l, Lists s.val l ∧ n = (l.length : Int)
theorem Cnt.zero {s : TS V} (h : Cnt s 0) (k : Nat) : s.K k = none := by
  obtain ⟨l, hl, e⟩ := h
  have : l = [] := by cases l with | nil => rfl | cons a t => simp at e; omega
  subst this
  cases hk : s.K k with
  | none => rfl
  | some x =>
    have := (hl.mem k x.2).2 (by unfold TS.val; rw [hk]; rfl)
    cases this
theorem Cnt.pos {s : TS V} {n : Int} (h : Cnt s n) (hn : n ≠ 0) : ∃ k x, s.K k = some x := by
  obtain ⟨l, hl, rfl⟩ := h
  cases l with
  | nil => exact absurd rfl hn
  | cons a t =>
    have := (hl.mem a.1 a.2).1 (by simp)
    unfold TS.val at this
    cases hk : s.K a.1 with
    | none => rw [hk] at this; cases this
    | some x => exact ⟨_, x, hk⟩
theorem Cnt.nonneg {s : TS V} {n : Int} (h : Cnt s n) : 0 ≤ n := by obtain ⟨l, _, rfl⟩ := h; omega
end
def ShrinkEnd (s : TS Int) (p : Nat) (n : Int) (w : World) (w' : World) : Prop :=
  ∃ s' : TS Int, IsT kInt w' p n s' ∧ WF s' ∧ Full s' ∧ MinH s' ∧ s'.K = s.K ∧ (∀ L q a, s'.N L q = some a → s.N L q = some a) ∧ Off (· = p) w w'
set_option maxRecDepth 100000
theorem shrink_zero (s : TS Int) (p : Nat) (w : World) (hI : IsT kInt w p 0 s) (hw : WF s) (hC : Cnt s 0) :
    Calls Try.prog 42 #[.pointer (some ⟨p, 0, none⟩)] w fun e w' => ∃ v, e = .returned v ∧ ShrinkEnd s p 0 w w' := by
  have c2 := hI.c2
  have f0 := hI.cf 0
  have f1 := hI.cf 1
  have c1 := hI.c1
  have c0 := hI.c0
  have E : ShrinkEnd s p 0 w ((w.setCell ⟨p, 0, none⟩ (.pointer none)).setCell ⟨p, 1, none⟩ (.int .i64 0)) := by
    have hz := hC.zero
    refine ⟨bare s, hI.setTree (off2 _ _ _ _ _) (by rw [heap_set_same (heap_set_same hI.tree _) _]; rfl) (fun L q a ha => by cases ha) (fun k x hx => hx), ?_, (fun L q a ha => by cases ha), (fun h => by have : (1 : Nat) < 0 := h; omega), rfl, (fun L q a ha => by cases ha), off2 _ _ _ _ _⟩
    exact ⟨by show 0 ≤ 5; omega, fun L q a ha => (by cases ha), fun q a ha => (by cases ha), fun h => (by have : 0 < 0 := h; omega), fun L q a ha => (by cases ha), fun k x hx => (by rw [show (bare s).K k = s.K k from rfl, hz k] at hx; cases hx), fun L q L' q' a ha => (by cases ha)⟩
  have E := Lib.hid E
  clear hI hw hC
  go_enter Try.func42, Try.ntmps42
  go_wp2
  refine bodyPost_ret (results_none rfl _ _ _) rfl ?_
  exact ⟨_, rfl, E.out⟩
theorem shrink_pos (s : TS Int) (p : Nat) (n : Int) (w : World) (hI : IsT kInt w p n s) (hw : WF s) (hC : Cnt s n) (hn : n ≠ 0) (hF : FullBut s (s.h - 1) 0) :
    Calls Try.prog 42 #[.pointer (some ⟨p, 0, none⟩)] w fun e w' => ∃ v, e = .returned v ∧ ShrinkEnd s p n w w' := by
  obtain ⟨k, x, hk⟩ := hC.pos hn
  have hf := hF.of_key hw hk
  have c2 := hI.c2
  have hnz : (n == 0) = false := beq_eq_false_iff_ne.2 hn
  have HI := Lib.hid hI
  have HW := Lib.hid hw
  have HF := Lib.hid hf
  have HK := Lib.hid hk
  clear hI hw hC hF hk hf hn
  go_enter Try.func42, Try.ntmps42
  go_wp2
  go_loopg [] s.h (fun gk wx => ∃ s1 : TS Int, s1.h = gk ∧ IsT kInt wx p n s1 ∧ WF s1 ∧ Full s1 ∧ s1.K = s.K ∧ (∀ L q a, s1.N L q = some a → s.N L q = some a) ∧ Off (· = p) w wx)
  case atStart => exact ⟨s, rfl, HI.out, HW.out, HF.out, rfl, fun _ _ _ h => h, Off.refl _ _⟩
  case round =>
    obtain ⟨s1, hg, hI, hw, hf, hK, hN, ho⟩ := hrel
    have HG := Lib.hid hg
    clear hg
    have h0 : 0 < s1.h := by
      obtain ⟨b, hb⟩ := hw.ku k x (by rw [hK]; exact HK.out)
      have := hw.lv _ _ _ hb
      omega
    obtain ⟨a, ha⟩ := hw.root h0
    have c0 := hI.c0
    rw [ha, ptr_some] at c0
    have c1 := hI.c1
    have f0 := hI.cf 0
    have f1 := hI.cf 1
    have hnode := hI.node _ _ _ ha
    have c3 := hnode.used
    have hh5 := hw.h5
    have hdone : ∀ (hx : 1 < s1.h → usedOf (s1.child (s1.h - 1) 0) = 1 → s1.N (s1.h - 2) 0 = none), ShrinkEnd s p n w wr := fun hx => ⟨s1, hI, hw, hf, minH_of hf hw hx, hK, hN, ho⟩
    have HD := Lib.hid hdone
    by_cases h1 : 1 < s1.h
    · have hi1 : (1 : Int) < (s1.h : Int) := by omega
      have c4 : wr.cell? ⟨a, 0, none⟩ = some (ptr (s1.N (s1.h - 2) 0)) := by
        have h2 : NodeIn wr kInt s1 (s1.h - 2 + 1) 0 a := by rw [show s1.h - 2 + 1 = s1.h - 1 by omega]; exact hnode
        have := h2.below' (d := 0) (by decide)
        rwa [Nat.zero_mul, Nat.zero_add] at this
      by_cases hu : usedOf (s1.child (s1.h - 1) 0) = 1
      · rw [hu] at c3
        cases hc : s1.N (s1.h - 2) 0 with
        | none =>
          rw [hc, ptr_none] at c4
          have HE := Lib.hid (HD.out (fun _ _ => hc))
          clear hI hw hf hK hN ho ha hnode hdone HD hc hu
          go_wp2
          go_end0
          first | exact ⟨_, rfl, HE.out⟩ | exact ⟨⟨_, rfl⟩, HE.out⟩
        | some c =>
          rw [hc, ptr_some] at c4
          have hI2 : IsT kInt ((wr.setCell ⟨p, 0, none⟩ (.pointer (some ⟨c, 0, none⟩))).setCell ⟨p, 1, none⟩ (.int .i64 ((s1.h : Int) - 1))) p n (lower s1) :=
            hI.setTree (off2 _ _ _ _ _) (by
              rw [heap_set_same (heap_set_same hI.tree _) _]
              have e1 : (lower s1).N ((lower s1).h - 1) 0 = some c := (lower_N_ne (by show ¬ (s1.h - 1 - 1 = s1.h - 1 ∧ 0 = 0); omega)).trans hc
              have e2 : (((lower s1).h : Nat) : Int) = (s1.h : Int) - 1 := by show ((s1.h - 1 : Nat) : Int) = _; omega
              rw [e1, e2]; rfl) (fun L q a ha => ⟨(sub_lower ha).1, fun d hd => lower_child hw ha hd⟩) (fun k x hx => hx)
          have HE := Lib.hid (show ∃ s2 : TS Int, s2.h = s1.h - 1 ∧ IsT kInt ((wr.setCell ⟨p, 0, none⟩ (.pointer (some ⟨c, 0, none⟩))).setCell ⟨p, 1, none⟩ (.int .i64 ((s1.h : Int) - 1))) p n s2 ∧ WF s2 ∧ Full s2 ∧ s2.K = s.K ∧ (∀ L q a, s2.N L q = some a → s.N L q = some a) ∧ Off (· = p) w ((wr.setCell ⟨p, 0, none⟩ (.pointer (some ⟨c, 0, none⟩))).setCell ⟨p, 1, none⟩ (.int .i64 ((s1.h : Int) - 1))) from
            ⟨lower s1, rfl, hI2, hw.lower h1 hu hc, hf.lower hw, hK, fun L q a ha => hN _ _ _ (sub_lower ha).1, ho.trans' (off2 _ _ _ _ _) (fun i _ e => e)⟩)
          clear hI hw hf hK hN ho ha hnode hdone HD hc hu hI2
          go_wp2
          go_roundg (gk - 1)
          case measure => have := HG.out; omega
          case rel =>
            obtain ⟨s2, h1, h2⟩ := HE.out
            exact ⟨s2, by have := HG.out; omega, h2⟩
      · have hu2 : ((usedOf (s1.child (s1.h - 1) 0) : Int) == 1) = false := beq_eq_false_iff_ne.2 (by omega)
        have HE := Lib.hid (HD.out (fun _ e => absurd e hu))
        clear hI hw hf hK hN ho ha hnode hdone HD hu
        go_wp2
        go_end0
        first | exact ⟨_, rfl, HE.out⟩ | exact ⟨⟨_, rfl⟩, HE.out⟩
    · have hi1 : ¬ (1 : Int) < (s1.h : Int) := by omega
      have HE := Lib.hid (HD.out (fun e => absurd e h1))
      clear hI hw hf hK hN ho ha hnode hdone HD
      go_wp2
      go_end0
      first | exact ⟨_, rfl, HE.out⟩ | exact ⟨⟨_, rfl⟩, HE.out⟩
theorem shrink_calls (s : TS Int) (p : Nat) (n : Int) (w : World) (hI : IsT kInt w p n s) (hw : WF s) (hC : Cnt s n) (hF : FullBut s (s.h - 1) 0) :
    Calls Try.prog 42 #[.pointer (some ⟨p, 0, none⟩)] w fun e w' => ∃ v, e = .returned v ∧ ShrinkEnd s p n w w' := by
  by_cases hn : n = 0
  · subst hn; exact shrink_zero s p w hI hw hC
  · exact shrink_pos s p n w hI hw hC hn hF
/-- A tree between two calls. -/
structure Tree {V : Type} (κ : Tk V) (w : World) (p : Nat) (n : Int) (s : TS V) : Prop where
  isT : IsT κ w p n s
  wf : WF s
  full : Full s
  min : MinH s
  cnt : Cnt s n
theorem Cnt.gone {V : Type} {s s1 : TS V} {n : Int} (h : Cnt s n) {k : Nat} {x : Nat × V} (hk : s.K k = some x) (h1 : ∀ i, s1.K i = if i = k then none else s.K i) : Cnt s1 (n - 1) := by
  obtain ⟨l, hl, rfl⟩ := h
  refine ⟨_, (hl.drop k).congr fun i => ?_, ?_⟩
  · unfold TS.val
    rw [h1]
    by_cases e : i = k
    · rw [if_pos e, if_pos e]; rfl
    · rw [if_neg e, if_neg e]
  · have := drop_length (k := k) hl.srt ⟨(k, x.2), (hl.mem _ _).2 (by unfold TS.val; rw [hk]; rfl), rfl⟩
    omega
theorem Cnt.le {V : Type} {s : TS V} {n : Int} (h : Cnt s n) (hw : WF s) : n ≤ 1048576 := by
  obtain ⟨l, hl, rfl⟩ := h
  have e := hl.uniq hw.lists
  have := lst_length s.val 0 (16 ^ s.h)
  have := pow16_le hw.h5
  rw [e]
  omega
theorem IsT.setCount {V : Type} {κ : Tk V} {s : TS V} {w : World} {p : Nat} {n n' : Int} (h : IsT κ w p n s) : IsT κ (w.setCell ⟨p, 2, none⟩ (.int .i64 n')) p n' s :=
  h.setTree ((Off.refl (· = p) w).setCell (p := ⟨p, 2, none⟩) (.inl rfl) _) (by rw [heap_set_same h.tree _]; rfl) (fun L q a ha => ⟨ha, fun _ _ => rfl⟩) (fun k x hx => hx)
def DropEnd (s : TS Int) (p : Nat) (n : Int) (k : Nat) (w w' : World) : Prop :=
  ∃ s' : TS Int, Tree kInt w' p (n - 1) s' ∧ (∀ i, s'.K i = if i = k then none else s.K i) ∧ (∀ L q a, s'.N L q = some a → s.N L q = some a) ∧ Off (fun b => b = p ∨ Nodes s b) w w'
theorem drop_no (s : TS Int) (p : Nat) (n : Int) (w : World) (k : Int) (hT : Tree kInt w p n s) (hk : keyOf s k = none) :
    Calls Try.prog 22 #[.pointer (some ⟨p, 0, none⟩), .int .i64 k] w fun e w' => e = .returned (.bool false) ∧ ∃ m, w' = w.drewN m := by
  have FC := find_calls p n s w k hT.wf hT.isT
  rw [hk] at FC
  have FC : Calls Try.prog 40 #[.pointer (some ⟨p, 0, none⟩), .int .i64 k] w fun e w' => e = .returned (.pointer none) ∧ ∃ m, w' = w.drewN m := FC
  have FC := Lib.hid FC
  clear hT hk
  go_enter Try.func22, Try.ntmps22
  go_wp2_with (go_at_call 40; refine FC.out.mono ?_; rintro e w' ⟨rfl, m, rfl⟩)
  go_ret
  exact ⟨rfl, m, rfl⟩
theorem drop_yes (s : TS Int) (p : Nat) (n : Int) (w : World) (k : Nat) (x : Nat × Int) (hT : Tree kInt w p n s) (hk : s.K k = some x) :
    Calls Try.prog 22 #[.pointer (some ⟨p, 0, none⟩), .int .i64 (k : Int)] w fun e w' => e = .returned (.bool true) ∧ DropEnd s p n k w w' := by
  have FC := find_calls p n s w k hT.wf hT.isT
  have ek : keyOf s (k : Int) = some x := by unfold keyOf; rw [if_neg (by omega)]; exact hk
  rw [ek] at FC
  have FC : Calls Try.prog 40 #[.pointer (some ⟨p, 0, none⟩), .int .i64 (k : Int)] w fun e w' => e = .returned (.pointer (some ⟨x.1, 0, none⟩)) ∧ ∃ m, w' = w.drewN m := FC
  have FC := Lib.hid FC
  have h0 : 0 < s.h := by
    obtain ⟨b, hb⟩ := hT.wf.ku k x hk
    have := hT.wf.lv _ _ _ hb
    omega
  obtain ⟨a, ha⟩ := hT.wf.root h0
  have hq : k / 16 ^ (s.h - 1 + 1) = 0 := by rw [show s.h - 1 + 1 = s.h by omega]; exact Nat.div_eq_of_lt (hT.wf.key_lt hk)
  have TC := Lib.hid (fun W (hI : IsT kInt W p n s) => take_calls s p n k x hk hT.wf hT.full (s.h - 1) a W hI (by rw [hq]; exact ha))
  have h5 := hT.wf.h5
  have c0 := hT.isT.c0
  rw [ha, ptr_some] at c0
  have c1 := hT.isT.c1
  have e1 : IntKind.i64.wrap ((s.h : Int) - 1) = ((s.h - 1 : Nat) : Int) := by rw [IntKind.wrap_i64]; omega
  have HT := Lib.hid hT
  have HK := Lib.hid hk
  have HQ := Lib.hid hq
  have HA := Lib.hid ha
  clear hT hk ek hq ha
  go_enter Try.func22, Try.ntmps22
  go_wp2_with (go_at_call 40; refine FC.out.mono ?_; rintro e w' ⟨rfl, m, rfl⟩)
  have HI0 := Lib.hid (HT.out.isT.drewN m)
  have HO0 := Lib.hid ((Off.refl (fun b => b = p ∨ Nodes s b) w).drewN m)
  have c0 : (w.drewN m).cell? ⟨p, 0, none⟩ = some (.pointer (some ⟨a, 0, none⟩)) := c0
  have c1 : (w.drewN m).cell? ⟨p, 1, none⟩ = some (.int .i64 (s.h : Int)) := c1
  revert HI0 HO0 c0 c1
  generalize w.drewN m = W0
  intro HI0 HO0 c0 c1
  have ih : (0 : Int) < (s.h : Int) := by omega
  have HI1 := Lib.hid (show IsT kInt W0.drew p n s from HI0.out.drewN 1)
  go_region_held3 (fun W => W.cell? ⟨p, 0, none⟩ = some (.pointer (some ⟨a, 0, none⟩)) ∧ W.cell? ⟨p, 1, none⟩ = some (.int .i64 (s.h : Int)))
    (first | go_keep | exact ⟨cc0, cc1⟩)
    ((go_at_call 45; (with_reducible refine (TC.out _ HI1.out).mono ?_); rintro e w1 ⟨s1, b, rfl, hb, hw1, hI1, hF1, hh, hK, hN, hS, ho⟩; have cc0 := hI1.c0; rw [hh, hN _ _ (Nat.le_refl _), HA.out, ptr_some] at cc0; have cc1 := hI1.c1; rw [hh] at cc1; have E := Lib.hid (And.intro hw1 (And.intro hI1 (And.intro hF1 (And.intro hh (And.intro hK (And.intro hN (And.intro hS ho))))))); have cc2 := hI1.c2; have ff2 := hI1.cf 2; clear hb hw1 hI1 hF1 hh hK hN hS ho))
  obtain ⟨hw1, hI1, hF1, hh, hK, hN, hS, ho⟩ := E.out
  have hC : Cnt s1 (n - 1) := HT.out.cnt.gone HK.out hK
  have hF2 : FullBut s1 (s1.h - 1) 0 := by rw [HQ.out] at hF1; rw [hh]; exact hF1
  have SC := Lib.hid (shrink_calls s1 p (n - 1) _ (hI1.setCount (n' := n - 1)) hw1 hC hF2)
  have HO1 := Lib.hid (show Off (fun b => b = p ∨ Nodes s b) w (w1.setCell ⟨p, 2, none⟩ (.int .i64 (n - 1))) from (HO0.out.drew.trans' ho (fun i _ h => .inr h)).setCell (p := ⟨p, 2, none⟩) (.inl (.inl rfl)) _)
  have HKN := Lib.hid (And.intro hK hS)
  have hb := HT.out.cnt.le HT.out.wf
  have hb0 := HT.out.cnt.nonneg
  clear E hw1 hI1 hF1 hh hK hN hS ho hC hF2 HI1 HI0 c0 c1 cc0 cc1 HO0 FC
  go_wp2_with (go_at_call 42; (with_reducible refine SC.out.mono ?_); rintro e w3 ⟨v, rfl, s', hI3, hw3, hf3, hm3, hK3, hN3, ho3⟩)
  go_ret
  refine ⟨rfl, s', ⟨hI3, hw3, hf3, hm3, ?_⟩, fun i => by rw [hK3]; exact HKN.out.1 i, fun L q a h => HKN.out.2 _ _ _ (hN3 _ _ _ h), HO1.out.trans' ho3 (fun i _ h => .inl h)⟩
  have hC : Cnt s1 (n - 1) := HT.out.cnt.gone HK.out HKN.out.1
  obtain ⟨l, hl, e⟩ := hC
  exact ⟨l, hl.congr fun i => by unfold TS.val; rw [hK3], e⟩
end Go.Proofs.Ythpjcbaijbppiaa
