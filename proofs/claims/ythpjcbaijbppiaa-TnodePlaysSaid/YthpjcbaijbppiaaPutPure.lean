/- A tree with one node more, one key more. -/
import Derived.Test.YthpjcbaijbppiaaGrow
namespace Go.Proofs.Ythpjcbaijbppiaa
open Go.RowKit Go.Proofs
set_option linter.unusedVariables false
set_option linter.unusedSimpArgs false
section

variable {V : Type} {s : TS V} {κ : Tk V} {w : World} {p : Nat} {n : Int}
theorem setCell_swap (w : World) {a b : Nat} (i j : Nat) (x y : Value) (h : a ≠ b) : (w.setCell ⟨a, i, none⟩ x).setCell ⟨b, j, none⟩ y = (w.setCell ⟨b, j, none⟩ y).setCell ⟨a, i, none⟩ x := by
  simp only [World.setCell]
  congr 1
  apply Array.ext_getElem?
  intro k
  simp only [Array.getElem?_modify]
  by_cases e1 : a = k
  · by_cases e2 : b = k
    · exact absurd (e1.trans e2.symm) h
    · simp [e1, e2]
  · by_cases e2 : b = k
    · simp [e1, e2]
    · simp [e1, e2]
theorem NodeIn.put2 {s' : TS V} {L q a d u : Nat} (h : NodeIn w κ s L q a) (hd : d < 16) (he : ∀ i, i < 16 → i ≠ d → s'.child L q i = s.child L q i) (hu : usedOf (s'.child L q) = u) :
    NodeIn ((w.setCell ⟨a, 32, none⟩ (.int .i64 (u : Int))).setCell ⟨a, offL L + d, none⟩ (ptr (s'.child L q d))) κ s' L q a := by
  obtain ⟨c, hc, hn⟩ := h
  exact ⟨_, heap_set_same (heap_set_same hc _) _, by rw [hu]; exact (hn.setU u).set hd he⟩
theorem IsT.alloc (h : IsT κ w p n s) (o : Obj) : IsT κ (w.alloc o) p n s := h.below ((Below.refl _ _).alloc (Nat.le_refl _) o)
theorem node_free {L q : Nat} (hw : WF s) (hL : L + 1 < s.h) (hn : s.N L q = none) : ∀ d, d < 16 → s.child L q d = none := fun d hd => by
  cases L with
  | zero =>
    show (s.K (q * 16 + d)).map Prod.fst = none
    cases e : s.K (q * 16 + d) with
    | none => rfl
    | some x =>
      obtain ⟨b, hb⟩ := hw.ku _ _ e
      rw [show (q * 16 + d) / 16 = q by omega, hn] at hb
      cases hb
  | succ L =>
    show s.N L (q * 16 + d) = none
    cases e : s.N L (q * 16 + d) with
    | none => rfl
    | some x =>
      obtain ⟨b, hb⟩ := hw.up _ _ _ e (by omega)
      rw [show (q * 16 + d) / 16 = q by omega, hn] at hb
      cases hb
theorem IsT.node_new {L q a : Nat} {u : Int} (h : IsT κ w p n s) (hw : WF s) (ha : s.N (L + 1) (q / 16) = some a) (hk : s.N L q = none) (hu : u = (usedOf (s.child (L + 1) (q / 16)) : Int) + 1) :
    IsT κ (((w.alloc (.cells (nodeZ (.pointer none) 0) κ.tn)).setCell ⟨a, q % 16, none⟩ (.pointer (some ⟨w.heap.size, 0, none⟩))).setCell ⟨a, 32, none⟩ (.int .i64 u)) p n (setN s L q (some w.heap.size)) := by
  have hm : q % 16 < 16 := Nat.mod_lt _ (by decide)
  have hl := hw.lv _ _ _ ha
  have halt := (h.node _ _ _ ha).lt
  have e0 : (setN s L q (some w.heap.size)).child (L + 1) (q / 16) (q % 16) = some w.heap.size := by rw [child_setN, if_pos ⟨rfl, by omega⟩]
  have he : ∀ i, i < 16 → i ≠ q % 16 → (setN s L q (some w.heap.size)).child (L + 1) (q / 16) i = s.child (L + 1) (q / 16) i := fun i hi hn => by rw [child_setN, if_neg (by omega)]
  have hg := usedOf_new (f := s.child (L + 1) (q / 16)) (f' := (setN s L q (some w.heap.size)).child (L + 1) (q / 16)) hm (by show s.N L (q / 16 * 16 + q % 16) = none; rw [show q / 16 * 16 + q % 16 = q by omega, hk]) (by rw [e0]; rfl) he
  have h1 := h.alloc (.cells (nodeZ (.pointer none) 0) κ.tn)
  have hoff := off2 (w := w.alloc (.cells (nodeZ (.pointer none) 0) κ.tn)) a (q % 16) 32 (.pointer (some ⟨w.heap.size, 0, none⟩)) (.int .i64 u)
  refine h1.setNode hw ha hoff rfl (N_setN_ne (by omega)) (by rw [N_setN_ne (by omega)]; exact ha) ?_ (fun L' q' c hc hne => ?_) (fun i b v hv => .inl hv)
  · have := (h1.node _ _ _ ha).put hm he rfl
    rw [e0, show offL (L + 1) = 0 from rfl, Nat.zero_add] at this
    rw [show u = ((usedOf ((setN s L q (some w.heap.size)).child (L + 1) (q / 16)) : Nat) : Int) by rw [hu, hg]; omega]
    exact this
  · by_cases e : L' = L ∧ q' = q
    · obtain ⟨rfl, rfl⟩ := e
      rw [N_setN_same] at hc
      cases hc
      right
      have hno : ∀ d, d < 16 → (setN s L' q' (some w.heap.size)).child L' q' d = none := fun d hd => by
        rw [child_setN, if_neg (by omega)]
        exact node_free hw hl hk d hd
      refine ⟨nodeZ (.pointer none) 0, (hoff.block _ (by simp) (by omega)).trans (heap_alloc_new _ _), ?_⟩
      rw [usedOf_none hno]
      exact nodeZ_zero _ _ hno
    · rw [N_setN_ne e] at hc
      refine .inl ⟨hc, fun d hd => ?_⟩
      rw [child_setN, if_neg]
      rintro ⟨rfl, e⟩
      exact hne ⟨rfl, by omega⟩
theorem key_child (k : Nat) (o : Option (Nat × V)) : (setKey s k o).child 0 (k / 16) (k % 16) = o.map Prod.fst ∧ ∀ i, i < 16 → i ≠ k % 16 → (setKey s k o).child 0 (k / 16) i = s.child 0 (k / 16) i :=
  ⟨by rw [child_setKey, if_pos ⟨rfl, by omega⟩], fun i hi hn => by rw [child_setKey, if_neg (by omega)]⟩
theorem key_other {k : Nat} {o : Option (Nat × V)} {L q : Nat} (h : ¬ (L = 0 ∧ q = k / 16)) : ∀ d, d < 16 → (setKey s k o).child L q d = s.child L q d := fun d hd => by
  rw [child_setKey, if_neg]
  rintro ⟨rfl, e⟩
  exact h ⟨rfl, by omega⟩
theorem IsT.key_old {k a b : Nat} {v : V} {x : Nat × V} (h : IsT κ w p n s) (hw : WF s) (ha : s.N 0 (k / 16) = some a) (hk : s.K k = some x) (hb : w.heap[b]? = some (.cells (κ.enc v) κ.tv (0, 0))) :
    IsT κ (w.setCell ⟨a, 16 + k % 16, none⟩ (.pointer (some ⟨b, 0, none⟩))) p n (setKey s k (some (b, v))) := by
  have hm : k % 16 < 16 := Nat.mod_lt _ (by decide)
  obtain ⟨e0, he⟩ := key_child (s := s) k (some (b, v))
  have hoff : Off (· = a) w (w.setCell ⟨a, 16 + k % 16, none⟩ (.pointer (some ⟨b, 0, none⟩))) := (Off.refl (· = a) w).setCell (p := ⟨a, 16 + k % 16, none⟩) (.inl rfl) _
  obtain ⟨ca, hca, _⟩ := h.node _ _ _ ha
  refine h.setNode hw ha hoff rfl rfl ha ?_ (fun L' q' c hc hne => .inl ⟨hc, key_other hne⟩) (fun i c y hy => ?_)
  · have := (h.node _ _ _ ha).put' (s' := setKey s k (some (b, v))) hm he (usedOf_congr fun d hd => by
      by_cases e : d = k % 16
      · subst e
        rw [e0]
        show true = ((s.K (k / 16 * 16 + k % 16)).map Prod.fst).isSome
        rw [show k / 16 * 16 + k % 16 = k by omega, hk]; rfl
      · rw [he d hd e])
    rw [e0] at this
    exact this
  · by_cases e : i = k
    · subst e
      rw [K_setKey_same] at hy
      cases hy
      right
      exact (hoff.block _ (lt_of_heap hb) (ne_of_type hb hca κ.vn)).trans hb
    · rw [K_setKey_ne e] at hy; exact .inl hy
theorem IsT.key_new {k a b : Nat} {v : V} {u : Int} (h : IsT κ w p n s) (hw : WF s) (ha : s.N 0 (k / 16) = some a) (hk : s.K k = none) (hb : w.heap[b]? = some (.cells (κ.enc v) κ.tv (0, 0))) (hu : u = (usedOf (s.child 0 (k / 16)) : Int) + 1) :
    IsT κ (((w.setCell ⟨a, 32, none⟩ (.int .i64 u)).setCell ⟨p, 2, none⟩ (.int .i64 (n + 1))).setCell ⟨a, 16 + k % 16, none⟩ (.pointer (some ⟨b, 0, none⟩))) p (n + 1) (setKey s k (some (b, v))) := by
  have hm : k % 16 < 16 := Nat.mod_lt _ (by decide)
  obtain ⟨e0, he⟩ := key_child (s := s) k (some (b, v))
  obtain ⟨ca, hca, _⟩ := h.node _ _ _ ha
  have hap : a ≠ p := ne_of_type hca h.tree κ.nt
  rw [setCell_swap _ _ _ _ _ hap]
  have h1 := h.setCount (n' := n + 1)
  have hb1 : (w.setCell ⟨p, 2, none⟩ (.int .i64 (n + 1))).heap[b]? = some (.cells (κ.enc v) κ.tv (0, 0)) := by
    rw [heap_set_ne _ (ne_of_type hb h.tree κ.vt)]; exact hb
  revert h1 hb1
  generalize w.setCell ⟨p, 2, none⟩ (.int .i64 (n + 1)) = W
  intro h1 hb1
  have hg := usedOf_new (f := s.child 0 (k / 16)) (f' := (setKey s k (some (b, v))).child 0 (k / 16)) hm (by show (s.K (k / 16 * 16 + k % 16)).map Prod.fst = none; rw [show k / 16 * 16 + k % 16 = k by omega, hk]; rfl) (by rw [e0]; rfl) he
  have hoff := off2 (w := W) a 32 (16 + k % 16) (.int .i64 u) (.pointer (some ⟨b, 0, none⟩))
  obtain ⟨ca', hca', _⟩ := h1.node _ _ _ ha
  refine h1.setNode hw ha hoff rfl rfl ha ?_ (fun L' q' c hc hne => .inl ⟨hc, key_other hne⟩) (fun i c y hy => ?_)
  · have := (h1.node _ _ _ ha).put2 hm he rfl
    rw [e0] at this
    rw [show u = ((usedOf ((setKey s k (some (b, v))).child 0 (k / 16)) : Nat) : Int) by rw [hu, hg]; omega]
    exact this
  · by_cases e : i = k
    · subst e
      rw [K_setKey_same] at hy
      cases hy
      right
      exact (hoff.block _ (lt_of_heap hb1) (ne_of_type hb1 hca' κ.vn)).trans hb1
    · rw [K_setKey_ne e] at hy; exact .inl hy
theorem val_setKey (k : Nat) (b : Nat) (v : V) (i : Nat) : (setKey s k (some (b, v))).val i = if i = k then some v else s.val i := by
  unfold TS.val
  by_cases e : i = k
  · subst e; rw [K_setKey_same, if_pos rfl]; rfl
  · rw [K_setKey_ne e, if_neg e]
theorem Cnt.put {k b : Nat} {v : V} (h : Cnt s n) : Cnt (setKey s k (some (b, v))) (if s.K k = none then n + 1 else n) := by
  obtain ⟨l, hl, rfl⟩ := h
  refine ⟨insL k v l, (hl.ins k v).congr fun i => (val_setKey k b v i).symm, ?_⟩
  cases e : s.K k with
  | none =>
    rw [if_pos rfl, insL_length_new ((hl.none_iff k).1 (by unfold TS.val; rw [e]; rfl))]
    omega
  | some x =>
    rw [if_neg (by simp), insL_length_old hl.srt ⟨(k, x.2), (hl.mem _ _).2 (by unfold TS.val; rw [e]; rfl), rfl⟩]
/-- Where Put stands, going down. -/
structure PI (κ : Tk V) (s : TS V) (p : Nat) (n : Int) (k : Nat) (w : World) (L a : Nat) (s1 : TS V) (wx : World) : Prop where
  isT : IsT κ wx p n s1
  wf : WF s1
  at' : s1.N L (k / 16 ^ (L + 1)) = some a
  full : FullBut s1 L (k / 16 ^ (L + 1))
  same : s1.K = s.K
  room : k < 16 ^ s1.h
  min : 1 < s1.h → MinH s1 ∨ 16 ^ (s1.h - 1) ≤ k
  new : ∀ L q a, s1.N L q = some a → s.N L q = some a ∨ w.heap.size ≤ a
  off : Off (fun b => b = p ∨ Nodes s b) w wx
theorem PI.node_lt {k L a : Nat} {s1 : TS V} {wx : World} (h : PI κ s p n k w L a s1 wx) : (a = p ∨ Nodes s a) ∨ w.heap.size ≤ a := by
  rcases h.new _ _ _ h.at' with h1 | h1
  · exact .inl (.inr ⟨_, _, h1⟩)
  · exact .inr h1
theorem PI.down {k L a c : Nat} {s1 : TS V} {wx : World} (h : PI κ s p n k w (L + 1) a s1 wx) (hc : s1.N L (k / 16 ^ (L + 1)) = some c) : PI κ s p n k w L c s1 wx := by
  have hm : k / 16 ^ (L + 1) % 16 < 16 := Nat.mod_lt _ (by decide)
  have hf : Full s1 := h.full.full (usedOf_pos.2 ⟨k / 16 ^ (L + 1) % 16, c, hm, by show s1.N L (k / 16 ^ (L + 1 + 1) * 16 + k / 16 ^ (L + 1) % 16) = some c; rw [digit_split]; exact hc⟩)
  exact ⟨h.isT, h.wf, hc, hf.but _ _, h.same, h.room, h.min, h.new, h.off⟩
theorem PI.make {k L a : Nat} {s1 : TS V} {wx : World} (h : PI κ s p n k w (L + 1) a s1 wx) (hc : s1.N L (k / 16 ^ (L + 1)) = none) :
    PI κ s p n k w L wx.heap.size (setN s1 L (k / 16 ^ (L + 1)) (some wx.heap.size)) (((wx.alloc (.cells (nodeZ (.pointer none) 0) κ.tn)).setCell ⟨a, k / 16 ^ (L + 1) % 16, none⟩ (.pointer (some ⟨wx.heap.size, 0, none⟩))).setCell ⟨a, 32, none⟩ (.int .i64 ((usedOf (s1.child (L + 1) (k / 16 ^ (L + 2))) : Int) + 1))) := by
  have hat := h.at'
  have hfull := h.full
  have e2 : k / 16 ^ (L + 2) = k / 16 ^ (L + 1) / 16 := div16 k (L + 1)
  have e3 : k / 16 ^ (L + 1 + 1) = k / 16 ^ (L + 1) / 16 := div16 k (L + 1)
  rw [e3] at hat hfull
  rw [e2]
  have hl := h.wf.lv _ _ _ hat
  have hnl := h.node_lt
  have hw := h.wf.node_new hl hat h.isT.fresh hc
  refine ⟨h.isT.node_new h.wf hat hc rfl, hw, N_setN_same, ?_, h.same, h.room, fun h1 => ?_, fun L' q' b hb => ?_, ?_⟩
  · intro L' q' b hb hne
    rw [N_setN_ne hne] at hb
    by_cases e : L' = L + 1 ∧ q' = k / 16 ^ (L + 1) / 16
    · obtain ⟨rfl, rfl⟩ := e
      exact usedOf_pos.2 ⟨k / 16 ^ (L + 1) % 16, _, Nat.mod_lt _ (by decide), by rw [child_setN, if_pos ⟨rfl, by omega⟩]⟩
    · have := hfull L' q' b hb e
      rwa [usedOf_congr (f := s1.child L' q') (fun d hd => ?_)]
      rw [child_setN, if_neg]
      rintro ⟨rfl, e4⟩
      exact e ⟨rfl, by omega⟩
  · rcases h.min h1 with h2 | h2
    · left
      intro _
      obtain ⟨d, b, hd, hd2, hb⟩ := h2 h1
      refine ⟨d, b, hd, hd2, ?_⟩
      show (setN s1 L (k / 16 ^ (L + 1)) (some wx.heap.size)).N (s1.h - 2) d = some b
      rw [N_setN_ne]
      · exact hb
      · rintro ⟨e4, e5⟩
        rw [e4, e5, hc] at hb
        cases hb
    · exact .inr h2
  · by_cases e : L' = L ∧ q' = k / 16 ^ (L + 1)
    · obtain ⟨rfl, rfl⟩ := e
      rw [N_setN_same] at hb
      cases hb
      exact .inr h.off.size
    · rw [N_setN_ne e] at hb; exact h.new _ _ _ hb
  · exact ((h.off.alloc _).setCell (p := ⟨a, _, none⟩) hnl _).setCell (p := ⟨a, _, none⟩) hnl _
def PutIn (κ : Tk V) (s : TS V) (p : Nat) (n : Int) (k : Nat) (b : Nat) (v : V) (w w' : World) : Prop :=
  ∃ (s' : TS V) (n' : Int), Tree κ w' p n' s' ∧ (∀ i, s'.K i = if i = k then some (b, v) else s.K i) ∧ (∀ L q a, s'.N L q = some a → s.N L q = some a ∨ w.heap.size ≤ a) ∧ Off (fun b => b = p ∨ Nodes s b) w w'
theorem PI.end_min {k a : Nat} {s1 : TS V} {wx : World} (h : PI κ s p n k w 0 a s1 wx) : MinH s1 := fun h1 => by
  rcases h.min h1 with h2 | h2
  · exact h2 h1
  · obtain ⟨c, hc⟩ := h.wf.anc h.at' (s1.h - 2) (by omega)
    have hr := h.room
    have e1 : k / 16 ^ (0 + 1) / 16 ^ (s1.h - 2) = k / 16 ^ (s1.h - 1) := by
      rw [Nat.div_div_eq_div_mul, ← Nat.pow_add]
      congr 2
      omega
    rw [e1, Nat.zero_add] at hc
    refine ⟨_, c, ?_, ?_, hc⟩
    · exact Nat.div_pos h2 (pow_pos16 _)
    · rw [Nat.div_lt_iff_lt_mul (pow_pos16 _)]
      rw [show s1.h = s1.h - 1 + 1 by omega, Nat.pow_succ] at hr
      omega
theorem PI.end_full {k a b : Nat} {v : V} {s1 : TS V} {wx : World} (h : PI κ s p n k w 0 a s1 wx) : Full (setKey s1 k (some (b, v))) := fun L q c hc => by
  have hf := h.full
  rw [Nat.zero_add, Nat.pow_one] at hf
  by_cases e : L = 0 ∧ q = k / 16
  · obtain ⟨rfl, rfl⟩ := e
    exact usedOf_pos.2 ⟨k % 16, b, Nat.mod_lt _ (by decide), (key_child (s := s1) k (some (b, v))).1⟩
  · rw [usedOf_congr (f := s1.child L q) (fun d hd => by rw [key_other e d hd])]
    exact hf L q c hc e
theorem PI.done {k a b : Nat} {v : V} {s1 : TS V} {wx w' : World} {n' : Int} (h : PI κ s p n k w 0 a s1 wx) (hC : Cnt s n) (hI : IsT κ w' p n' (setKey s1 k (some (b, v)))) (hn : n' = if s.K k = none then n + 1 else n) (ho : Off (fun i => i = p ∨ Nodes s i) w w') : PutIn κ s p n k b v w w' := by
  have hat := h.at'
  rw [Nat.zero_add, Nat.pow_one] at hat
  refine ⟨_, n', ⟨hI, h.wf.key_new _ hat, h.end_full, ?_, ?_⟩, fun i => ?_, h.new, ho⟩
  · exact fun h1 => h.end_min h1
  · have hC1 : Cnt s1 n := by obtain ⟨l, hl, e⟩ := hC; exact ⟨l, hl.congr fun i => by unfold TS.val; rw [h.same], e⟩
    have := hC1.put (k := k) (b := b) (v := v)
    rw [h.same] at this
    rw [hn]; exact this
  · show (if i = k then some (b, v) else s1.K i) = _
    rw [h.same]
end
end Go.Proofs.Ythpjcbaijbppiaa
