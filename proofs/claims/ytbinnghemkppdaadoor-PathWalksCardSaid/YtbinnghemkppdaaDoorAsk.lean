/- The step of PathWalks: what was asked is noted, the tree answers. -/
import Derived.Test.YtbinnghemkppdaaDoorFollow
namespace Go.Proofs.YtbinnghemkppdaaDoor
open Go.RowKit Go.Proofs Go.Proofs.YtbinnghemkppdaaDoorW.PrintWords Go.Proofs.YtbinnghemkppdaaDoorW.PrintLast Go.Proofs.YtbinnghemkppdaaDoorW.PrintMore
open PHDPathWalks
set_option linter.unusedVariables false
set_option linter.unusedSimpArgs false

/-- A tree's data, its four slices. -/
structure TD where
  n : List (List ByteArray)
  t : List (List Int)
  l : List ByteArray
  s : List Bool
  A0 : Option Addr
  c0 : Nat
  A1 : Option Addr
  c1 : Nat
  A2 : Option Addr
  c2 : Nat
  A3 : Option Addr
  c3 : Nat
def TD.vs (T : TD) : Array Value := #[.slice T.A0 T.n.length T.c0, .slice T.A1 T.t.length T.c1, .slice T.A2 T.l.length T.c2, .slice T.A3 T.s.length T.c3]
structure TreeC (w : World) (T : TD) : Prop where
  h0 : Kd.C (Kd.slice 9 Kd.string) w T.A0 T.n.length T.n
  k0 : T.n.length ≤ T.c0
  h1 : Kd.C (Kd.slice 3 (Kd.int .i64)) w T.A1 T.t.length T.t
  k1 : T.t.length ≤ T.c1
  h2 : Kd.C Kd.string w T.A2 T.l.length T.l
  k2 : T.l.length ≤ T.c2
  h3 : Kd.C Kd.bool w T.A3 T.s.length T.s
  k3 : T.s.length ≤ T.c3
theorem TreeC.below {w w' : World} {T : TD} (h : TreeC w T) (hb : Below w.heap.size w w') : TreeC w' T :=
  ⟨Kd.C_below h.h0 hb, h.k0, Kd.C_below h.h1 hb, h.k1, Kd.C_below h.h2 hb, h.k2, Kd.C_below h.h3 hb, h.k3⟩
def TD.step (T : TD) (k : Nat) (at_ : Int) (n : ByteArray) : Option (Int × ByteArray × Bool × Int) := shaleref16_Tree_Step.f k T.n T.t T.l T.s at_ n

/-- What was asked so far lies behind gb. -/
def Got (W : World) (gb base : Nat) (gv : Value) (as_ : List S46) : Prop := W.heap[gb]? = some (.cells #[gv] 40 (0, 0)) ∧ Kd.R k46 46 W base (fun _ => True) gv as_
def TBox (W : World) (tb : Nat) (T : TD) : Prop := W.heap[tb]? = some (.cells T.vs 39 (0, 0))
theorem TBox.cells {W : World} {tb : Nat} {T : TD} (h : TBox W tb T) : W.cell? ⟨tb, 0, none⟩ = some (.slice T.A0 T.n.length T.c0) ∧ W.cell? ⟨tb, 1, none⟩ = some (.slice T.A1 T.t.length T.c1) ∧ W.cell? ⟨tb, 2, none⟩ = some (.slice T.A2 T.l.length T.c2) ∧ W.cell? ⟨tb, 3, none⟩ = some (.slice T.A3 T.s.length T.c3) :=
  ⟨cell_of h rfl, cell_of h rfl, cell_of h rfl, cell_of h rfl⟩
def AskEnd (gb base : Nat) (gv : Value) (as_ : List S46) (at_ : Int) (n : ByteArray) (r : Int × ByteArray × Bool × Int) (W : World) (e : Ending) (W' : World) : Prop :=
  e = .returned (.tuple #[.int .i64 r.1, .string r.2.1, .bool r.2.2.1, .int .i64 r.2.2.2]) ∧ (∃ gv', Got W' gb base gv' (as_ ++ [(⟨at_, n⟩ : S46)])) ∧ Off (fun k => k = gb ∨ gv.ownBlock = some k) W W'

theorem errno_calls (n : Int) (w : World) : Calls Tryd.prog 19 #[.int .i64 n] w fun e w' => e = .returned (.int .i64 n) ∧ w = w' := by
  go_enter Tryd.func19, Tryd.ntmps19
  go_wp2
  go_ret
  exact ⟨rfl, rfl⟩

set_option maxHeartbeats 2000000 in
theorem ask_calls (gb tb base k : Nat) (gv : Value) (as_ : List S46) (at_ : Int) (n : ByteArray) (T : TD) (r1 : Int) (r2 : ByteArray) (r3 : Bool) (r4 : Int) (w0 W : World) (hT : TreeC w0 T) (hB0 : Below w0.heap.size w0 W) (hw : w0.heap.size ≤ base) (hgb : w0.heap.size ≤ gb) (hG : Got W gb base gv as_) (hB : TBox W tb T) (hbase : base ≤ W.heap.size) (hlen : as_.length ≤ 100000) (hs : T.step k at_ n = some (r1, r2, r3, r4)) :
    Calls Tryd.prog 17 #[.int .i64 at_, .string n, .pointer (some ⟨gb, 0, none⟩), .pointer (some ⟨tb, 0, none⟩)] W (AskEnd gb base gv as_ at_ n (r1, r2, r3, r4) W) := by
  obtain ⟨hg, hR⟩ := hG
  have g0 := cell_of (o := 0) hg rfl
  have f0 := free_of (o := 0) hg
  have HT := Lib.hid hT
  have HG := Lib.hid hg
  have HR := Lib.hid hR
  have HBX := Lib.hid hB
  have HS := Lib.hid hs
  have HBA := Lib.hid hbase
  have HB0 := Lib.hid hB0
  have HW := Lib.hid hw
  have HGB := Lib.hid hgb
  have hne : gb ≠ tb := by
    rintro rfl
    unfold TBox at hB
    rw [hg] at hB
    injection hB with hB
    injection hB with _ hB
    cases hB
  have HNE := Lib.hid hne
  have hgt := lt_of_heap hg
  have hbt := lt_of_heap hB
  clear hT hg hR hB hs hbase hne hB0 hw hgb
  go_enter Tryd.func17, Tryd.ntmps17
  go_upto_region 2 with ((with_reducible refine gate_builtin (b := .append) (xs := #[.tmp 14, .tmp 18]) rfl ?_); at_builtin; refine Kd.R_append k46 (w0 := W) base rfl (.tmp 14) (.tmp 18) 40 46 (.agg #[(.int .i64 0), (.string ⟨#[]⟩)]) 24 rfl Tryd.underlying40 info46 rfl (by decide) (by decide) gv as_ (⟨at_, n⟩ : S46) [.int .i64 at_, .string n] (fun _ => True) (fun _ => False) rfl rfl ?aP (fun _ hk => hk.elim) ?aF ?aO ?aB ?aS ?aL ?_; (case aP => exact k46_mkM _ _ _ (⟨at_, n⟩ : S46)); (case aB => exact Below.refl _ _); (case aF => exact (fun _ _ => trivial)); (case aO => exact HR.out); (case aS => exact HBA.out); (case aL => omega); intro v1 w1 ho hb hg hat; obtain ⟨A1, k1, rfl⟩ := Kd.R_slice ho; have hq := (hg.block gb hgt (Kd.R_ne HR.out HG.out (by decide))).trans HG.out; have hx := (hg.block tb hbt (Kd.R_ne HR.out HBX.out (by decide))).trans HBX.out; have g1 := cell_of (o := 0) hq rfl; have f1 := free_of (o := 0) hq; have R1 := Lib.hid ho; have Q1 := Lib.hid hq; have X1 := Lib.hid hx; have O1 := Lib.hid ((Off.refl (fun k => k = gb ∨ gv.ownBlock = some k) W).grown hg (fun k hk => .inl (.inr hk))); have B1 := Lib.hid (HB0.out.grown hg HB0.out.size (fun k hk => Nat.le_trans HW.out (own_base (Kd.R_own HR.out).choose_spec k hk))); clear ho hb hg hat hq hx)
  have K2 : Got (w1.setCell ⟨gb, 0, none⟩ (.slice A1 (as_ ++ [(⟨at_, n⟩ : S46)]).length k1)) gb base (.slice A1 (as_ ++ [(⟨at_, n⟩ : S46)]).length k1) (as_ ++ [(⟨at_, n⟩ : S46)]) :=
    ⟨heap_set_same Q1.out _, Kd.R_mono (Kd.R_far (Kd.R_types R1.out Q1.out (by decide)) (fun k hk => hk.2) _) (fun _ _ => trivial)⟩
  have X2 : TBox (w1.setCell ⟨gb, 0, none⟩ (.slice A1 (as_ ++ [(⟨at_, n⟩ : S46)]).length k1)) tb T := (heap_set_ne _ (Ne.symm HNE.out)).trans X1.out
  have O2 : Off (fun k => k = gb ∨ gv.ownBlock = some k) W (w1.setCell ⟨gb, 0, none⟩ (.slice A1 (as_ ++ [(⟨at_, n⟩ : S46)]).length k1)) := O1.out.setCell (p := ⟨gb, 0, none⟩) (.inl (.inl rfl)) _
  have B2 : Below w0.heap.size w0 (w1.setCell ⟨gb, 0, none⟩ (.slice A1 (as_ ++ [(⟨at_, n⟩ : S46)]).length k1)) := B1.out.setCell (p := ⟨gb, 0, none⟩) HGB.out _
  simp only [List.length_append, List.length_cons, List.length_nil, Nat.zero_add] at K2 X2 O2 B2
  revert K2 X2 O2 B2
  generalize w1.setCell ⟨gb, 0, none⟩ (.slice A1 (as_.length + 1) k1) = W2
  intro K2 X2 O2 B2
  obtain ⟨t0, t1, t2, t3⟩ := X2.cells
  have K2' := Lib.hid K2
  have O2' := Lib.hid O2
  have B2' := Lib.hid B2
  clear K2 X2 O2 B2 R1 Q1 X1 O1 B1 g1 f1
  go_wp2_with (go_at_call 18; fail)
  refine (shaleref16_Tree_Step.calls k _ _ T.n _ _ T.t _ _ T.l _ _ T.s at_ n r1 r2 r3 r4 _ (Kd.C_below HT.out.h0 B2'.out) HT.out.k0 (Kd.C_below HT.out.h1 B2'.out) HT.out.k1 (Kd.C_below HT.out.h2 B2'.out) HT.out.k2 (Kd.C_below HT.out.h3 B2'.out) HT.out.k3 HS.out).mono ?_
  rintro e w3 ⟨rfl, b3⟩
  have B3 := Lib.hid b3
  clear b3 t0 t1 t2 t3
  go_wp2_with (go_at_call 19; refine (errno_calls _ _).mono ?_; rintro e w4 ⟨rfl, rfl⟩)
  refine bodyPost_ret (results_list (rs := [.tmp 6, .tmp 7, .tmp 8, .tmp 9]) rfl (by simp) (.tmp (.tmp (.tmp (.tmp .nil))))) rfl ?_
  refine ⟨rfl, ⟨_, ?_, Kd.R_below K2'.out.2 B3.out⟩, O2'.out.trans (Off.of_below B3.out)⟩
  exact (B3.out.block _ (lt_of_heap K2'.out.1)).trans K2'.out.1
end Go.Proofs.YtbinnghemkppdaaDoor
