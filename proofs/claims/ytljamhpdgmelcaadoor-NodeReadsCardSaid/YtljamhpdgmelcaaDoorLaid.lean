/- The listed variables, laid into the witness' heap; what they are. -/
import Derived.Test.YtljamhpdgmelcaaDoorRows
import Derived.Test.YtljamhpdgmelcaaDoorPack
import Derived.ProofKit
import Derived.Lay
import Derived.LaidMore
import Derived.Stop.Joined
import Derived.OpenShut
namespace Go.Proofs.YtljamhpdgmelcaaDoor
open Go Go.RowKit Go.ChangeShapes Go.WideShapes Go.ChangeAt
def laidVars : List (String × DataW Unit) := [("shale/node.fieldType", Rows.laid_shale_node_fieldType), ("shale/node.fieldParent", Rows.laid_shale_node_fieldParent), ("shale/node.fieldSize", Rows.laid_shale_node_fieldSize), ("shale/node.fieldMode", Rows.laid_shale_node_fieldMode), ("shale/node.fieldStamp", Rows.laid_shale_node_fieldStamp), ("shale/node.fieldShadow", Rows.laid_shale_node_fieldShadow)]
theorem laid_met (os : Os) (args : Array Value) : laidMetH Tryd.prog laidVars ((World.laidAll Tryd.prog os laidVars).forCall (fun _ _ => 0) ⟨#[], args, []⟩).memory := by
  rw [MakeChecks.laidMetH_plain _ _ _ (by kernel_rfl)]
  exact laidMet_laidAll _ (by kernel_rfl) (by kernel_rfl)
theorem pair_cells {W : World} {cs : Array Value} {fuel : Nat} {p : List MemPlace} {a b : Int} (hd : DataW.trod (H := Unit) (fun _ => ()) Tryd.prog W 0 (fun _ => true) false fuel 49 cs.toList = some (.agg [.lit (.int .i64 a), .lit (.int .i64 b)], p)) :
    cs[0]? = some (.int .i64 a) ∧ cs[1]? = some (.int .i64 b) := by
  obtain ⟨xs, n, _, hx, hlen, hl, hg⟩ := DataW.trod_struct Tryd.underlying49 hd
  have c3 : Tryd.prog.cellsOf 3 = 1 := by kernel_rfl
  match xs, hl with
  | [y0, y1], _ =>
    simp only [List.map_cons, List.map_nil, Prod.mk.injEq, DataW.agg.injEq, List.cons.injEq, and_true] at hx
    obtain ⟨⟨e0, e1⟩, _⟩ := hx
    have h0 : DataW.trod (H := Unit) (fun _ => ()) Tryd.prog W 0 (fun _ => true) false n 3 ((cs.toList.drop 0).take (Tryd.prog.cellsOf 3)) = some y0 := hg 0 _ rfl
    have h1 : DataW.trod (H := Unit) (fun _ => ()) Tryd.prog W 0 (fun _ => true) false n 3 ((cs.toList.drop 1).take (Tryd.prog.cellsOf 3)) = some y1 := hg 1 _ rfl
    rw [c3] at h0 h1
    obtain ⟨z0, k0, m0, _⟩ := DataW.trod_int Tryd.underlying3 h0
    obtain ⟨z1, k1, m1, _⟩ := DataW.trod_int Tryd.underlying3 h1
    have f0 : z0 = a := by have := e0; rw [m0] at this; cases this; rfl
    have f1 : z1 = b := by have := e1; rw [m1] at this; cases this; rfl
    subst f0 f1
    have g0 : ((cs.toList.drop 0).take 1)[0]? = some (.int .i64 z0) := by rw [k0]; rfl
    have g1 : ((cs.toList.drop 1).take 1)[0]? = some (.int .i64 z1) := by rw [k1]; rfl
    exact ⟨by simpa using g0, by simpa using g1⟩
theorem gl_of {W : World} (h : laidMetH Tryd.prog laidVars W) : Gl W := by
  rw [MakeChecks.laidMetH_plain _ _ _ (by kernel_rfl)] at h
  obtain ⟨ps, ⟨g0, t0, cs0, _, _, _, hg0, ht0, hv0, hd0, ⟨g1, t1, cs1, _, _, _, hg1, ht1, hv1, hd1, ⟨g2, t2, cs2, _, _, _, hg2, ht2, hv2, hd2, ⟨g3, t3, cs3, _, _, _, hg3, ht3, hv3, hd3, ⟨g4, t4, cs4, _, _, _, hg4, ht4, hv4, hd4, ⟨g5, t5, cs5, _, _, _, hg5, ht5, hv5, hd5, _, _⟩, _⟩, _⟩, _⟩, _⟩, _⟩, _, _⟩ := h
  obtain rfl := Option.some.inj ((show Tryd.prog.globalNamed "shale/node.fieldType" = some 0 by kernel_rfl).symm.trans hg0)
  obtain rfl := Option.some.inj ((show Tryd.prog.globalNamed "shale/node.fieldParent" = some 1 by kernel_rfl).symm.trans hg1)
  obtain rfl := Option.some.inj ((show Tryd.prog.globalNamed "shale/node.fieldSize" = some 2 by kernel_rfl).symm.trans hg2)
  obtain rfl := Option.some.inj ((show Tryd.prog.globalNamed "shale/node.fieldMode" = some 3 by kernel_rfl).symm.trans hg3)
  obtain rfl := Option.some.inj ((show Tryd.prog.globalNamed "shale/node.fieldStamp" = some 4 by kernel_rfl).symm.trans hg4)
  obtain rfl := Option.some.inj ((show Tryd.prog.globalNamed "shale/node.fieldShadow" = some 5 by kernel_rfl).symm.trans hg5)
  obtain rfl := Option.some.inj ((show (Tryd.prog.globals[0]?).map (·.type) = some 49 by kernel_rfl).symm.trans ht0)
  obtain rfl := Option.some.inj ((show (Tryd.prog.globals[1]?).map (·.type) = some 49 by kernel_rfl).symm.trans ht1)
  obtain rfl := Option.some.inj ((show (Tryd.prog.globals[2]?).map (·.type) = some 49 by kernel_rfl).symm.trans ht2)
  obtain rfl := Option.some.inj ((show (Tryd.prog.globals[3]?).map (·.type) = some 49 by kernel_rfl).symm.trans ht3)
  obtain rfl := Option.some.inj ((show (Tryd.prog.globals[4]?).map (·.type) = some 49 by kernel_rfl).symm.trans ht4)
  obtain rfl := Option.some.inj ((show (Tryd.prog.globals[5]?).map (·.type) = some 49 by kernel_rfl).symm.trans ht5)
  have c0 := pair_cells hd0
  have c1 := pair_cells hd1
  have c2 := pair_cells hd2
  have c3 := pair_cells hd3
  have c4 := pair_cells hd4
  have c5 := pair_cells hd5
  have at_ : ∀ {nm : String} {g : Nat} {cs : Array Value} {a b : Int}, Tryd.prog.globalNamed nm = some g → W.var? Tryd.prog nm = some cs → cs[0]? = some (.int .i64 a) ∧ cs[1]? = some (.int .i64 b) → W.cell? ⟨g, 0, none⟩ = some (.int .i64 a) ∧ W.cell? ⟨g, 1, none⟩ = some (.int .i64 b) := fun hg hv hc =>
    ⟨by rw [World.var?_cell hg hv 0]; exact hc.1, by rw [World.var?_cell hg hv 1]; exact hc.2⟩
  have x5 := at_ hg5 hv5 c5
  refine ⟨fun g hg => ?_, lt_of_cell x5.1⟩
  match g, hg with
  | 0, _ => exact at_ hg0 hv0 c0
  | 1, _ => exact at_ hg1 hv1 c1
  | 2, _ => exact at_ hg2 hv2 c2
  | 3, _ => exact at_ hg3 hv3 c3
  | 4, _ => exact at_ hg4 hv4 c4
  | 5, _ => exact x5
end Go.Proofs.YtljamhpdgmelcaaDoor
