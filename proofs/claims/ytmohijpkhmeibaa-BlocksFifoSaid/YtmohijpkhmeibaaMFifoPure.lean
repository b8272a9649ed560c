/- BlocksFifo: the plain law. -/
import Derived.Test.YtmohijpkhmeibaaMDo
import Derived.Test.YtmohijpkhmeibaaMAct
namespace Go.Proofs.Ytmohijpkhmeibaa
open Go.RowKit Go.Proofs
set_option linter.unusedVariables false
set_option linter.unusedSimpArgs false
theorem logN_set : ∀ (l : List Blk) (i : Nat) (x y : Blk), l[i]? = some x → logN (l.set i y) + (if countedB x then 1 else 0) = logN l + (if countedB y then 1 else 0) := by
  intro l
  induction l with
  | nil => intro i x y h; simp at h
  | cons z r ih =>
    intro i x y h
    cases i with
    | zero =>
      simp at h
      subst h
      unfold logN
      rw [List.set_cons_zero, List.filter_cons, List.filter_cons]
      cases countedB z <;> cases countedB y <;> simp
    | succ i =>
      have := ih i x y (by simpa using h)
      unfold logN at this ⊢
      rw [List.set_cons_succ, List.filter_cons, List.filter_cons]
      cases countedB z
      · simpa using this
      · simp only [if_true, List.length_cons]
        omega
theorem logN_pos {l : List Blk} {i : Nat} {x : Blk} (h : l[i]? = some x) (hc : countedB x = true) : 0 < logN l := by
  unfold logN
  exact List.length_pos_of_mem (List.mem_filter.2 ⟨List.mem_of_getElem? h, hc⟩)
/-- While the blocks leave: k have left, the last with this head. -/
structure FInv (b0 b : Bks) (k : Nat) (before : Int) : Prop where
  wf : WFB b
  len : b.all.length = b0.all.length
  vic : b.victim = -1
  same : ∀ (i : Nat) (x : Blk), b.all[i]? = some x → countedB x = true → b0.all[i]? = some x
  cnt : logN b.all + k = logN b0.all
  above : ∀ (i : Nat) (x : Blk), b.all[i]? = some x → countedB x = true → x.state ≠ 2 → before < x.head
theorem FInv.start {b : Bks} (h : WFB b) (hv : b.victim = -1) : FInv b b 0 0 :=
  ⟨h, rfl, hv, fun i x hx _ => hx, rfl, fun i x hx hc _ => by have := (counted_row (h.row i x hx) hc).2; omega⟩
theorem OldR.first {b : Bks} (hw : WFB b) {v h : Int} (H : OldR b v h true) : ∃ (k : Nat) (x : Blk), v = (k : Int) ∧ b.all[k]? = some x ∧ countedB x = true ∧ (x.state = 1 ∨ x.state = 4) ∧ x.left = false ∧ x.head < h ∧
    ∀ (i : Nat) (y : Blk), b.all[i]? = some y → countedB y = true → y.state ≠ 2 → x.head ≤ y.head := by
  rcases H with ⟨_, _, e, _⟩ | ⟨k, l, x, y, rfl, rfl, _, hN, hx, hN2, hy⟩
  · cases e
  · rcases hN with ⟨h1, _⟩ | ⟨k', x', h1, _, hx', hok, hmin⟩
    · omega
    · have : k' = k := by omega
      subst this
      rw [hx] at hx'
      cases hx'
      obtain ⟨hc, hno⟩ := (nextOk_old hw hx).1 hok
      have h2 := (counted_row (hw.row k' x hx) hc).1
      have h3 : x.state ≠ 2 := fun e => hno ((LogIs.open_iff hw hx).1 e)
      refine ⟨k', x, rfl, hx, hc, by omega, ?_, ?_, fun i z hz hcz hnz => hmin i z (List.getElem?_eq_some_iff.1 hz).1 hz ((nextOk_old hw hz).2 ⟨hcz, fun e => hnz ((LogIs.open_iff hw hz).2 e)⟩)⟩
      · rcases h2 with h2 | h2 | h2
        · exact (hw.row k' x hx).noleft (by omega)
        · exact absurd h2 h3
        · exact h2.2
      · rcases hN2 with ⟨h1, _⟩ | ⟨k2, x2, h1, _, hx2, hok2, _⟩
        · omega
        · have : k2 = l := by omega
          subst this
          rw [hy] at hx2
          cases hx2
          exact (nextOk_next.1 hok2).2
/-- The block as it has left. -/
def goneX (x : Blk) : Blk := if x.state = 1 then { x with live := 0, state := 3 } else { x with live := 0, left := true }
theorem goneX_not (x : Blk) (hs : x.state = 1 ∨ x.state = 4) : countedB (goneX x) = false := by
  unfold goneX countedB
  by_cases h : x.state = 1
  · rw [if_pos h]; rfl
  · rw [if_neg h]
    have h4 : x.state = 4 := hs.resolve_left h
    simp [h4]
theorem leave_gone {x : Blk} (hs : x.state = 1 ∨ x.state = 4) (hl : x.left = false) : leaveX { x with live := 0 } = some (goneX x) := by
  unfold leaveX goneX
  by_cases h : x.state = 1
  · simp [h]
  · have h4 : x.state = 4 := hs.resolve_left h
    simp [h4, hl]
theorem clean_ok {b : Bks} (hv : b.victim = -1) (v : Int) (ok : Bool) : cleanB b v ok = { b with victim := if ok = true then v else -1 } := by
  unfold cleanB vicB
  rw [if_pos hv]
theorem zero_wf {b : Bks} (h : WFB b) {k : Nat} {x : Blk} (hx : b.all[k]? = some x) (hs : x.state = 1 ∨ x.state = 4) (hv : b.victim = (k : Int)) : WFB { b with all := b.all.set k { x with live := 0 } } := by
  have hr := h.row k x hx
  have hpg := h.pg
  refine h.upd hx { x with live := 0 } b.opn b.victim ⟨hr.left, ?_, hr.held, fun _ => rfl, fun _ => .inr (.inr hv.symm)⟩ (.inl rfl) (fun _ => by show x.state = 1 ∨ x.state = 4 ∨ x.state = 6; omega) (.inl ⟨rfl, Iff.rfl⟩) (.inl rfl) fun e => h.lastS k x hx e
  rcases hr.body with h1 | h1
  · omega
  · exact .inr ⟨h1.1, h1.2.1, h1.2.2.1, Int.le_refl _, by show (0 : Int) < b.pages; omega⟩
theorem gone_wf {b : Bks} (h : WFB b) {k : Nat} {x : Blk} (hx : b.all[k]? = some { x with live := 0 }) (hs : x.state = 1 ∨ x.state = 4) (hl : x.left = false) (hv : b.victim = (k : Int)) : WFB { b with all := b.all.set k (goneX x), victim := -1 } := by
  have hr := h.row k _ hx
  have hst : ({ x with live := 0 } : Blk).state = x.state := rfl
  have hbody : (x.state = 1 ∨ x.state = 2 ∨ x.state = 3 ∨ x.state = 4) ∧ 1 ≤ x.head ∧ x.head ≤ 281474976710655 ∧ (0 : Int) ≤ 0 ∧ (0 : Int) < b.pages := by
    rcases hr.body with h1 | h1
    · have := h1.1; simp only at this; omega
    · exact h1
  unfold goneX
  by_cases h1 : x.state = 1
  · rw [if_pos h1]
    refine h.upd hx { x with live := 0, state := 3 } b.opn (-1) ⟨fun e => ?_, .inr ⟨.inr (.inr (.inl rfl)), hbody.2⟩, fun e => (by cases e), fun _ => rfl, fun e => (by cases e)⟩ (.inr ⟨rfl, hv⟩) (fun e => by omega) (.inl ⟨rfl, fun e => by simp only at e; omega, fun e => (by cases e)⟩) (.inl rfl) fun e => ⟨fun h => (by cases h), fun h => (by cases h)⟩
    have e' : x.left = true := e
    rw [hl] at e'
    cases e'
  · rw [if_neg h1]
    have h4 : x.state = 4 := hs.resolve_left h1
    exact h.upd hx { x with live := 0, left := true } b.opn (-1) ⟨fun _ => h4, .inr hbody, hr.held, fun _ => rfl, fun e => absurd e h1⟩ (.inr ⟨rfl, hv⟩) (fun e => by omega) (.inl ⟨rfl, Iff.rfl⟩) (.inl rfl) fun e => h.lastS k { x with live := 0 } hx e
theorem FInv.step {b0 b : Bks} {k : Nat} {before : Int} (H : FInv b0 b k before) {v h : Int} (hO : OldR b v h true) {i : Nat} {x : Blk} (hv : v = (i : Int)) (hx : b.all[i]? = some x) (hc : countedB x = true) (hs : x.state = 1 ∨ x.state = 4) (hl : x.left = false)
    (hmin : ∀ (j : Nat) (y : Blk), b.all[j]? = some y → countedB y = true → y.state ≠ 2 → x.head ≤ y.head) : FInv b0 { b with all := b.all.set i (goneX x), victim := -1 } (k + 1) x.head := by
  have hcl := (clean_wf H.wf hO).1
  rw [clean_ok H.vic, if_pos rfl, hv] at hcl
  have h2 := zero_wf hcl (k := i) (x := x) hx hs rfl
  have hi : i < b.all.length := (List.getElem?_eq_some_iff.1 hx).1
  have h3 := gone_wf h2 (k := i) (x := x) (List.getElem?_set_self hi) hs hl rfl
  have e : (b.all.set i { x with live := 0 }).set i (goneX x) = b.all.set i (goneX x) := by rw [List.set_set]
  refine ⟨?_, by simpa using H.len, rfl, fun j y hy hcy => ?_, ?_, fun j y hy hcy hny => ?_⟩
  · have h4 : WFB { b with all := (b.all.set i { x with live := 0 }).set i (goneX x), victim := -1 } := h3
    rw [e] at h4
    exact h4
  · rcases get_set hy with ⟨_, rfl⟩ | ⟨_, hy⟩
    · rw [goneX_not x hs] at hcy
      cases hcy
    · exact H.same j y hy hcy
  · have h5 := logN_set b.all i x (goneX x) hx
    rw [hc, goneX_not x hs, if_pos rfl, if_neg Bool.false_ne_true] at h5
    have h6 := H.cnt
    show logN (b.all.set i (goneX x)) + (k + 1) = logN b0.all
    omega
  · rcases get_set hy with ⟨_, rfl⟩ | ⟨hj, hy⟩
    · rw [goneX_not x hs] at hcy
      cases hcy
    · have h7 := hmin j y hy hcy hny
      have h8 := (counted_row (H.wf.row i x hx) hc).2
      by_cases e2 : x.head = y.head
      · exact absurd (H.wf.heads i j x y hx hy e2 (by omega)) (fun e => hj e.symm)
      · omega
/-- What there is behind the last Clean: at most one in the log that is not open, and that with the greatest head. -/
theorem OldR.last {b : Bks} (hw : WFB b) {v h : Int} (H : OldR b v h false) (i : Nat) (x : Blk) (hx : b.all[i]? = some x) (hc : countedB x = true) (hn : x.state ≠ 2) :
    (∀ (j : Nat) (y : Blk), b.all[j]? = some y → countedB y = true → y.state ≠ 2 → j = i) ∧ ∀ (j : Nat) (y : Blk), b.all[j]? = some y → countedB y = true → y.head ≤ x.head := by
  have hok := (nextOk_old hw hx).2 ⟨hc, fun e => hn ((LogIs.open_iff hw hx).2 e)⟩
  rcases H with ⟨_, _, _, H⟩ | ⟨_, _, _, _, _, _, e, _⟩
  case inr => cases e
  rcases H with H | ⟨k, z, hN, hz, hN2⟩
  · rcases H with ⟨_, h1⟩ | ⟨k, _, e, _⟩
    · rw [h1 i x (List.getElem?_eq_some_iff.1 hx).1 hx] at hok
      cases hok
    · omega
  · have hmax : ∀ (j : Nat) (y : Blk), b.all[j]? = some y → countedB y = true → y.head ≤ z.head := fun j y hy hcy => by
      rcases hN2 with ⟨_, h1⟩ | ⟨k, _, e, _⟩
      · have := h1 j y (List.getElem?_eq_some_iff.1 hy).1 hy
        by_cases hl : z.head < y.head
        · rw [nextOk_next.2 ⟨hcy, hl⟩] at this
          cases this
        · omega
      · omega
    have hmin : ∀ (j : Nat) (y : Blk), b.all[j]? = some y → countedB y = true → y.state ≠ 2 → j = k := fun j y hy hcy hny => by
      obtain ⟨k', z', e1, hz', hokz', e2⟩ := hN.some_of hy ((nextOk_old hw hy).2 ⟨hcy, fun e => hny ((LogIs.open_iff hw hy).2 e)⟩) fun m u hu hou => by
        have h1 := hmax j y hy hcy
        rcases hN with ⟨h2, _⟩ | ⟨k', z', e1, _, hz', _, h2⟩
        · omega
        · have : k' = k := by omega
          subst this
          rw [hz] at hz'
          cases hz'
          have := h2 m u (List.getElem?_eq_some_iff.1 hu).1 hu hou
          omega
      have : k' = k := by omega
      subst this
      exact hw.heads j k' y z' hy hz' e2.symm (by have := (counted_row (hw.row j y hy) hcy).2; omega)
    have e : i = k := hmin i x hx hc hn
    subst e
    rw [hx] at hz
    cases hz
    exact ⟨hmin, hmax⟩
theorem filt_one {p : Nat → Bool} (hu : ∀ i j, p i = true → p j = true → i = j) : ∀ j, ((List.range j).filter p).length ≤ 1 := by
  intro j
  induction j with
  | zero => simp
  | succ j ih =>
    rw [List.range_succ, List.filter_append, List.length_append, List.filter_cons, List.filter_nil]
    cases hp : p j
    · simpa using ih
    · have : (List.range j).filter p = [] := by
        rw [List.filter_eq_nil_iff]
        intro i hi
        rw [List.mem_range] at hi
        cases hq : p i
        · simp
        · have := hu i j hq hp
          omega
      rw [this]
      simp
/-- Nothing is open: one in the log at most. -/
theorem fifo_shut {b : Bks} (hw : WFB b) {v h : Int} (H : OldR b v h false) (ho : b.opn = -1) : logN b.all ≤ 1 := by
  rw [← logIdx_logN]
  refine filt_one (fun i j hi hj => ?_) _
  have key : ∀ m, logAt b.all m = true → ∃ x, b.all[m]? = some x ∧ countedB x = true := fun m hm => by
    unfold logAt at hm
    cases hx : b.all[m]? with
    | none => rw [hx] at hm; cases hm
    | some x => rw [hx] at hm; exact ⟨x, rfl, hm⟩
  obtain ⟨x, hx, hc⟩ := key i hi
  obtain ⟨y, hy, hcy⟩ := key j hj
  have n2 : ∀ (m : Nat) (u : Blk), b.all[m]? = some u → u.state ≠ 2 := fun m u hu e => by
    have := (LogIs.open_iff hw hu).1 e
    omega
  exact ((H.last hw i x hx hc (n2 i x hx)).1 j y hy hcy (n2 j y hy)).symm
theorem bad_wf {b : Bks} (h : WFB b) {k : Nat} {x : Blk} (hx : b.all[k]? = some x) (hok : BadOk b k x) : WFB { b with all := b.all.set k badBlk } := by
  have hs : x.state = 0 ∨ (x.state = 4 ∧ (k : Int) ≠ b.last) := by
    rcases hok with h1 | h1
    · exact .inl h1
    · unfold doneB at h1
      simp only [Bool.and_eq_true, beq_iff_eq, bne_iff_ne] at h1
      exact .inr h1.1
  refine h.upd hx badBlk b.opn b.victim ⟨fun h => (by cases h), .inl ⟨.inr (.inr rfl), rfl, rfl, rfl⟩, fun h => (by cases h), fun h => (by cases h), fun h => (by cases h)⟩ (.inl rfl) (fun e => .inr (.inr rfl)) (.inl ⟨rfl, fun e => by omega, fun e => (by cases e)⟩) (.inr (.inl rfl)) fun e => ?_
  rcases hs with h1 | h1
  · exact absurd h1 (h.lastS k x hx e).1
  · exact absurd e h1.2
/-- While those that are to be marked are marked. -/
structure GInv (bc b : Bks) (M : List Nat) (i : Nat) : Prop where
  wf : WFB b
  len : b.all.length = bc.all.length
  last : b.last = bc.last
  got : ∀ (j : Nat), j ∈ M.take i → ∀ (x : Blk), b.all[j]? = some x → x = badBlk
  kept : ∀ (j : Nat), j ∉ M.take i → b.all[j]? = bc.all[j]?
theorem GInv.start {b : Bks} (h : WFB b) (M : List Nat) : GInv b b M 0 := ⟨h, rfl, rfl, fun j hj => by simp at hj, fun j _ => rfl⟩
theorem GInv.step {bc b : Bks} {M : List Nat} {i m : Nat} (H : GInv bc b M i) (hn : M.Nodup) (hm : M[i]? = some m) (hd : ∀ j ∈ M, ∃ x, bc.all[j]? = some x ∧ doneB x j bc.last = true) :
    ∃ x, b.all[m]? = some x ∧ BadOk b m x ∧ GInv bc { b with all := b.all.set m badBlk } M (i + 1) := by
  have hi : i < M.length := (List.getElem?_eq_some_iff.1 hm).1
  have hnm : m ∉ M.take i := fun h => by
    obtain ⟨j, hj⟩ := List.getElem?_of_mem h
    rw [List.getElem?_take] at hj
    split at hj
    · rename_i hji
      obtain ⟨h1, e1⟩ := List.getElem?_eq_some_iff.1 hj
      obtain ⟨h2, e2⟩ := List.getElem?_eq_some_iff.1 hm
      have := (List.getElem_inj (i := j) (j := i) hn).1 (by rw [e1, e2])
      omega
    · cases hj
  obtain ⟨x, hx, hdx⟩ := hd m (List.mem_of_getElem? hm)
  have hbx : b.all[m]? = some x := by rw [H.kept m hnm]; exact hx
  have hok : BadOk b m x := .inr (by rw [H.last]; exact hdx)
  have ht := take_snoc hm
  refine ⟨x, hbx, hok, bad_wf H.wf hbx hok, by simpa using H.len, H.last, fun j hj z hz => ?_, fun j hj => ?_⟩
  · rw [ht, List.mem_append] at hj
    rcases get_set hz with ⟨_, rfl⟩ | ⟨hjm, hz⟩
    · rfl
    · rcases hj with hj | hj
      · exact H.got j hj z hz
      · simp at hj
        exact absurd hj hjm
  · rw [ht, List.mem_append] at hj
    have hjm : j ≠ m := fun e => hj (.inr (by simp [e]))
    show (b.all.set m badBlk)[j]? = _
    rw [List.getElem?_set_ne (Ne.symm hjm)]
    exact H.kept j fun h => hj (.inl h)
theorem marks_done {b : Bks} {k : Nat} : (marksB b.all (k : Int) b.all.length).Nodup ∧ ∀ j ∈ marksB b.all (k : Int) b.all.length, ∃ x, (commitB b k).all[j]? = some x ∧ doneB x j (commitB b k).last = true := by
  refine ⟨List.nodup_range.filter _, fun j hj => ?_⟩
  unfold marksB at hj
  rw [List.mem_filter] at hj
  have h2 := hj.2
  unfold markAt at h2
  cases hx : b.all[j]? with
  | none => rw [hx] at h2; cases h2
  | some x =>
    rw [hx] at h2
    exact ⟨freedX x, allJ_of hx, h2⟩
/-- Is it one that stands behind? -/
def bAt (l : List Blk) (o i : Nat) : Bool := match l[i]? with
  | some x => (i != o) && ((x.state != 0) && (x.state != 6))
  | none => false
def bCnt (l : List Blk) (o j : Nat) : Nat := ((List.range j).filter (bAt l o)).length
theorem bCnt_succ (l : List Blk) (o j : Nat) : bCnt l o (j + 1) = bCnt l o j + if bAt l o j then 1 else 0 := by
  unfold bCnt
  rw [List.range_succ, List.filter_append, List.length_append, List.filter_cons, List.filter_nil]
  cases bAt l o j <;> rfl
theorem bCnt_le (l : List Blk) (o j : Nat) : bCnt l o j ≤ j := by
  have := List.length_filter_le (bAt l o) (List.range j)
  unfold bCnt
  simpa using this
/-- How all stands at the end. -/
structure FEnd (b4 : Bks) (o : Nat) (xo : Blk) : Prop where
  wf : WFB b4
  at_ : b4.all[o]? = some xo
  behind : ∀ (i : Nat) (x : Blk), b4.all[i]? = some x → bAt b4.all o i = true → (x.state = 1 ∨ x.state = 4) ∧ xo.head ≤ x.head
  one : bCnt b4.all o b4.all.length ≤ 1
  log : logN b4.all = 1 + bCnt b4.all o b4.all.length
theorem fifo_end {b b4 : Bks} {o : Nat} (hw : WFB b) {v h : Int} (H : OldR b v h false) (ho : b.opn = (o : Int)) (hG : GInv (commitB b o) b4 (marksB b.all (o : Int) b.all.length) (marksB b.all (o : Int) b.all.length).length) : ∃ xo, FEnd b4 o xo := by
  obtain ⟨xo, hxo, hs2⟩ : ∃ xo, b.all[o]? = some xo ∧ xo.state = 2 := by
    rcases hw.opn with ⟨h1, _⟩ | ⟨k, x, h1, h2, h3, _⟩
    · omega
    · have : k = o := by omega
      subst this
      exact ⟨x, h2, h3⟩
  have hM : ∀ j, (j ∈ marksB b.all (o : Int) b.all.length ↔ j < b.all.length ∧ markAt b.all (o : Int) j = true) := fun j => by
    unfold marksB
    rw [List.mem_filter, List.mem_range]
  have hlen : b4.all.length = b.all.length := hG.len.trans (allJ_len _ _)
  have ht : (marksB b.all (o : Int) b.all.length).take (marksB b.all (o : Int) b.all.length).length = marksB b.all (o : Int) b.all.length := List.take_length
  -- what stands in b4
  have key : ∀ (i : Nat) (z : Blk), b4.all[i]? = some z → z = badBlk ∨ ∃ x, b.all[i]? = some x ∧ z = freedX x ∧ doneB (freedX x) i (o : Int) = false := fun i z hz => by
    by_cases hm : i ∈ marksB b.all (o : Int) b.all.length
    · exact .inl (hG.got i (by rw [ht]; exact hm) z hz)
    · right
      have h1 := hG.kept i (by rw [ht]; exact hm)
      rw [h1] at hz
      obtain ⟨x, hx, rfl⟩ := allJ_full hz
      refine ⟨x, hx, rfl, ?_⟩
      have hi : i < b.all.length := (List.getElem?_eq_some_iff.1 hx).1
      cases hd : doneB (freedX x) i (o : Int)
      · rfl
      · exact absurd ((hM i).2 ⟨hi, by unfold markAt; rw [hx]; exact hd⟩) hm
  have hco : countedB xo = true := by unfold countedB; rw [hs2]; rfl
  have hfo : freedX xo = xo := by
    rcases freedX_cases xo with ⟨e, _⟩ | ⟨_, _, e⟩
    · omega
    · exact e
  have hat : b4.all[o]? = some xo := by
    have hno : o ∉ marksB b.all (o : Int) b.all.length := fun hm => by
      have h2 := ((hM o).1 hm).2
      unfold markAt at h2
      rw [hxo] at h2
      have h2' : doneB (freedX xo) o (o : Int) = true := h2
      rw [hfo] at h2'
      unfold doneB at h2'
      rw [hs2] at h2'
      cases h2'
    have h1 := hG.kept o (by rw [ht]; exact hno)
    rw [h1]
    have := allJ_of hxo
    rw [hfo] at this
    exact this
  -- who stands behind
  have beh : ∀ (i : Nat) (z : Blk), b4.all[i]? = some z → bAt b4.all o i = true → b.all[i]? = some z ∧ countedB z = true ∧ z.state ≠ 2 ∧ (z.state = 1 ∨ z.state = 4) := fun i z hz hb => by
    unfold bAt at hb
    rw [hz] at hb
    simp only [Bool.and_eq_true, bne_iff_ne] at hb
    rcases key i z hz with rfl | ⟨x, hx, rfl, hd⟩
    · exact absurd rfl hb.2.2
    · rcases freedX_cases x with ⟨_, e⟩ | ⟨h3, h5, e⟩
      · rw [e] at hb
        exact absurd rfl hb.2.1
      · rw [e] at hb hd ⊢
        have hne2 : x.state ≠ 2 := fun e2 => by
          have := (LogIs.open_iff hw hx).1 e2
          omega
        have hr := hw.row i x hx
        have hst : x.state = 1 ∨ x.state = 4 := by
          rcases hr.body with h1 | h1 <;> omega
        refine ⟨hx, ?_, hne2, hst⟩
        rcases hst with h1 | h4
        · unfold countedB; rw [h1]; rfl
        · unfold doneB at hd
          rw [h4] at hd
          have hio : ((i : Int) != (o : Int)) = true := bne_iff_ne.2 (by omega)
          rw [hio] at hd
          have hl : x.left = false := by
            cases e2 : x.left
            · rfl
            · rw [e2] at hd; simp at hd
          unfold countedB
          rw [h4, hl]
          rfl
  have bget : ∀ i, bAt b4.all o i = true → ∃ z, b4.all[i]? = some z := fun i hi => by
    unfold bAt at hi
    cases hz : b4.all[i]? with
    | none => rw [hz] at hi; cases hi
    | some z => exact ⟨z, rfl⟩
  refine ⟨xo, hG.wf, hat, fun i z hz hb => ?_, filt_one (fun i j hi hj => ?_) _, ?_⟩
  · obtain ⟨hx, hc, hn2, hst⟩ := beh i z hz hb
    exact ⟨hst, (H.last hw i z hx hc hn2).2 o xo hxo hco⟩
  · obtain ⟨z, hz⟩ := bget i hi
    obtain ⟨u, hu⟩ := bget j hj
    obtain ⟨hx, hc, hn2, _⟩ := beh i z hz hi
    obtain ⟨hx', hc', hn2', _⟩ := beh j u hu hj
    exact ((H.last hw i z hx hc hn2).1 j u hx' hc' hn2').symm
  · rw [← logIdx_logN]
    have gen : ∀ j, j ≤ b4.all.length → (logIdx b4.all j).length = bCnt b4.all o j + if o < j then 1 else 0 := by
      intro j
      induction j with
      | zero => intro _; rfl
      | succ j ih =>
        intro hj
        have hz := List.getElem?_eq_getElem (show j < b4.all.length by omega)
        rw [logIdx_succ, List.length_append, ih (by omega), bCnt_succ]
        by_cases e : j = o
        · have hl : logAt b4.all j = true := by rw [e, logAt_of hat]; exact hco
          have hb : bAt b4.all o j = false := by unfold bAt; rw [hz]; simp [e]
          rw [hl, hb, if_pos rfl, if_neg Bool.false_ne_true, if_neg (by omega), if_pos (by omega)]
          rfl
        · have hsame : logAt b4.all j = bAt b4.all o j := by
            cases hb : bAt b4.all o j
            · rw [logAt_of hz]
              cases hc : countedB (b4.all[j]'(by omega))
              · rfl
              · exfalso
                have hst := (counted_row (hG.wf.row j _ hz) hc).1
                unfold bAt at hb
                rw [hz] at hb
                simp only [Bool.and_eq_false_iff, bne_eq_false_iff_eq] at hb
                omega
            · obtain ⟨_, hc, _⟩ := beh j _ hz hb
              rw [logAt_of hz, hc]
          rw [hsame]
          have hoj : (if o < j then 1 else 0) = (if o < j + 1 then 1 else 0 : Nat) := by
            by_cases e2 : o < j
            · rw [if_pos e2, if_pos (by omega)]
            · rw [if_neg e2, if_neg (by omega)]
          rw [← hoj]
          cases bAt b4.all o j
          · rw [if_neg Bool.false_ne_true, if_neg Bool.false_ne_true]
            simp
          · rw [if_pos rfl, if_pos rfl]
            simp
            omega
    have hol : o < b4.all.length := (List.getElem?_eq_some_iff.1 hat).1
    rw [gen _ (Nat.le_refl _), if_pos hol]
    omega
end Go.Proofs.Ytmohijpkhmeibaa
