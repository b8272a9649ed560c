-- Written by a program of the session (wip/tools/hybrid.py) over the translation; Lean checks it.
import Derived.Test.YtbinnghemkppdaaDoorPHDPathOrderx0
import Derived.Test.YtbinnghemkppdaaDoorPHDPathOrderx1
namespace Go.Proofs.YtbinnghemkppdaaDoor.PHDPathOrder
open Go.RowKit Go.Proofs.YtbinnghemkppdaaDoorW.PrintWords Go.Proofs.YtbinnghemkppdaaDoorW.PrintLast Go.Proofs.YtbinnghemkppdaaDoorW.PrintMore
attribute [local go_sem] max2_int min2_int max_two min_two max_three min_three max_four min_four   -- for this text's walks alone
set_option linter.unusedVariables false
set_option linter.unusedSimpArgs false

/-! ### shalelaw16_PathOrder: function 7 -/
def shalelaw16_PathOrder.j0 : Nat → ByteArray → Bool → Int → Bool → Int → Bool → Int → Int → Bool → Option (Bool)
  | 0, _, _, _, _, _, _, _, _, _ => none
  | k + 1, x0, x7, x8, x11, x12, x13, x14, x16, x108 => if x108 = true then (some false) else (if x8 = 0 then (if x12 = 0 then (if x14 = 0 then (if x7 = true then (if x11 = true then (if x13 = true then ((path_Within.f k x0 (⟨#[47]⟩ : ByteArray)).bind fun bt153 => (if x16 = 0 then (if bt153.2 = 0 then (some bt153.1) else (some false)) else (if bt153.2 = 0 then (some false) else (if bt153.1 = true then (some false) else (some true))))) else (some false)) else ((path_Within.f k x0 (⟨#[47]⟩ : ByteArray)).bind fun bt155 => (if x16 = 0 then (if bt155.2 = 0 then (some bt155.1) else (some false)) else (if bt155.2 = 0 then (some false) else (if bt155.1 = true then (some false) else (some true)))))) else ((path_Within.f k x0 (⟨#[47]⟩ : ByteArray)).bind fun bt157 => (if x16 = 0 then (if bt157.2 = 0 then (some bt157.1) else (some false)) else (if bt157.2 = 0 then (some false) else (if bt157.1 = true then (some false) else (some true)))))) else (some false)) else ((path_Within.f k x0 (⟨#[47]⟩ : ByteArray)).bind fun bt159 => (if x16 = 0 then (if bt159.2 = 0 then (some bt159.1) else (some false)) else (if bt159.2 = 0 then (some false) else (if bt159.1 = true then (some false) else (some true)))))) else ((path_Within.f k x0 (⟨#[47]⟩ : ByteArray)).bind fun bt161 => (if x16 = 0 then (if bt161.2 = 0 then (some bt161.1) else (some false)) else (if bt161.2 = 0 then (some false) else (if bt161.1 = true then (some false) else (some true))))))
def shalelaw16_PathOrder.f (k : Nat) (a0 : ByteArray) (a1 : ByteArray) (a2 : ByteArray) : Option (Bool) := (path_Within.f k a0 a1).bind fun bt139 => ((path_Within.f k a1 a0).bind fun bt141 => ((path_Within.f k a1 a2).bind fun bt143 => ((path_Within.f k a0 a2).bind fun bt145 => ((path_Within.f k a0 a0).bind fun bt147 => ((path_Clean.f k a0).bind fun bt149 => ((path_Clean.f k a1).bind fun bt151 => (if ((bt139.2 == 0) != (bt141.2 == 0)) = true then (some false) else (if bt139.2 = 0 then (if bt147.1 = true then (if bt147.2 = 0 then (if bt149.2 = 0 then (if bt151.2 = 0 then (if bt139.1 = true then (if bt141.1 = true then (if bt149.1.toList = bt151.1.toList then (shalelaw16_PathOrder.j0 k a0 bt139.1 bt139.2 bt143.1 bt143.2 bt145.1 bt145.2 bt147.2 (!bt141.1)) else (shalelaw16_PathOrder.j0 k a0 bt139.1 bt139.2 bt143.1 bt143.2 bt145.1 bt145.2 bt147.2 true)) else (if bt149.1.toList = bt151.1.toList then (shalelaw16_PathOrder.j0 k a0 bt139.1 bt139.2 bt143.1 bt143.2 bt145.1 bt145.2 bt147.2 (!bt141.1)) else (shalelaw16_PathOrder.j0 k a0 bt139.1 bt139.2 bt143.1 bt143.2 bt145.1 bt145.2 bt147.2 false))) else (if bt149.1.toList = bt151.1.toList then (shalelaw16_PathOrder.j0 k a0 bt139.1 bt139.2 bt143.1 bt143.2 bt145.1 bt145.2 bt147.2 (!false)) else (shalelaw16_PathOrder.j0 k a0 bt139.1 bt139.2 bt143.1 bt143.2 bt145.1 bt145.2 bt147.2 false))) else (shalelaw16_PathOrder.j0 k a0 bt139.1 bt139.2 bt143.1 bt143.2 bt145.1 bt145.2 bt147.2 true)) else (shalelaw16_PathOrder.j0 k a0 bt139.1 bt139.2 bt143.1 bt143.2 bt145.1 bt145.2 bt147.2 true)) else (shalelaw16_PathOrder.j0 k a0 bt139.1 bt139.2 bt143.1 bt143.2 bt145.1 bt145.2 bt147.2 true)) else (shalelaw16_PathOrder.j0 k a0 bt139.1 bt139.2 bt143.1 bt143.2 bt145.1 bt145.2 bt147.2 true)) else (shalelaw16_PathOrder.j0 k a0 bt139.1 bt139.2 bt143.1 bt143.2 bt145.1 bt145.2 bt147.2 false)))))))))
theorem shalelaw16_PathOrder.mono_l : ∀ k, (∀ y0 y1 y2 y3 y4 y5 y6 y7 y8, LeO (shalelaw16_PathOrder.j0 k y0 y1 y2 y3 y4 y5 y6 y7 y8) (shalelaw16_PathOrder.j0 (k + 1) y0 y1 y2 y3 y4 y5 y6 y7 y8))
  | 0 => fun _ _ _ _ _ _ _ _ _ r h => by simp [shalelaw16_PathOrder.j0] at h
  | k + 1 => by
    have ih0 := shalelaw16_PathOrder.mono_l k
    · intro y0 y1 y2 y3 y4 y5 y6 y7 y8
      unfold shalelaw16_PathOrder.j0
      repeat' first
      | (with_reducible exact ih0 _ _ _ _ _ _ _ _ _)
      | (with_reducible exact path_Clean.mono _ _)
      | (with_reducible exact path_Within.mono _ _ _)
      | (with_reducible exact LeO.refl _)
      | (with_reducible exact LeO.none _)
      | (with_reducible refine LeO.ite ?_ ?_)
      | (with_reducible refine LeO.bind ?_ (fun _ => ?_))
      | exact ih0 _ _ _ _ _ _ _ _ _
      | exact path_Clean.mono _ _
      | exact path_Within.mono _ _ _
      | exact LeO.none _
      | refine LeO.ite ?_ ?_
      | refine LeO.bind ?_ (fun _ => ?_)
theorem shalelaw16_PathOrder.mono : ∀ a0 a1 a2 k, LeO (shalelaw16_PathOrder.f k a0 a1 a2) (shalelaw16_PathOrder.f (k + 1) a0 a1 a2) := by
  intro a0 a1 a2 k
  have ih0 := shalelaw16_PathOrder.mono_l k
  unfold shalelaw16_PathOrder.f
  repeat' first
      | (with_reducible exact ih0 _ _ _ _ _ _ _ _ _)
      | (with_reducible exact path_Clean.mono _ _)
      | (with_reducible exact path_Within.mono _ _ _)
      | (with_reducible exact LeO.refl _)
      | (with_reducible exact LeO.none _)
      | (with_reducible refine LeO.ite ?_ ?_)
      | (with_reducible refine LeO.bind ?_ (fun _ => ?_))
      | exact ih0 _ _ _ _ _ _ _ _ _
      | exact path_Clean.mono _ _
      | exact path_Within.mono _ _ _
      | exact LeO.none _
      | refine LeO.ite ?_ ?_
      | refine LeO.bind ?_ (fun _ => ?_)
set_option maxHeartbeats 8000000 in
set_option maxRecDepth 100000 in
theorem shalelaw16_PathOrder.calls (k : Nat) (a0 : ByteArray) (a1 : ByteArray) (a2 : ByteArray) (r : Bool) (w : World) (h : shalelaw16_PathOrder.f k a0 a1 a2 = some r) :
    Calls Tryd.prog 7 #[.string a0, .string a1, .string a2] w fun e w' => e = .returned (.bool r) ∧ Below w.heap.size w w' := by
  have HB := Aside0.mk (Below.refl w.heap.size w)
  have H : ((path_Within.f k a0 a1).bind fun bt139 => ((path_Within.f k a1 a0).bind fun bt141 => ((path_Within.f k a1 a2).bind fun bt143 => ((path_Within.f k a0 a2).bind fun bt145 => ((path_Within.f k a0 a0).bind fun bt147 => ((path_Clean.f k a0).bind fun bt149 => ((path_Clean.f k a1).bind fun bt151 => (if ((bt139.2 == 0) != (bt141.2 == 0)) = true then (some false) else (if bt139.2 = 0 then (if bt147.1 = true then (if bt147.2 = 0 then (if bt149.2 = 0 then (if bt151.2 = 0 then (if bt139.1 = true then (if bt141.1 = true then (if bt149.1.toList = bt151.1.toList then (shalelaw16_PathOrder.j0 k a0 bt139.1 bt139.2 bt143.1 bt143.2 bt145.1 bt145.2 bt147.2 (!bt141.1)) else (shalelaw16_PathOrder.j0 k a0 bt139.1 bt139.2 bt143.1 bt143.2 bt145.1 bt145.2 bt147.2 true)) else (if bt149.1.toList = bt151.1.toList then (shalelaw16_PathOrder.j0 k a0 bt139.1 bt139.2 bt143.1 bt143.2 bt145.1 bt145.2 bt147.2 (!bt141.1)) else (shalelaw16_PathOrder.j0 k a0 bt139.1 bt139.2 bt143.1 bt143.2 bt145.1 bt145.2 bt147.2 false))) else (if bt149.1.toList = bt151.1.toList then (shalelaw16_PathOrder.j0 k a0 bt139.1 bt139.2 bt143.1 bt143.2 bt145.1 bt145.2 bt147.2 (!false)) else (shalelaw16_PathOrder.j0 k a0 bt139.1 bt139.2 bt143.1 bt143.2 bt145.1 bt145.2 bt147.2 false))) else (shalelaw16_PathOrder.j0 k a0 bt139.1 bt139.2 bt143.1 bt143.2 bt145.1 bt145.2 bt147.2 true)) else (shalelaw16_PathOrder.j0 k a0 bt139.1 bt139.2 bt143.1 bt143.2 bt145.1 bt145.2 bt147.2 true)) else (shalelaw16_PathOrder.j0 k a0 bt139.1 bt139.2 bt143.1 bt143.2 bt145.1 bt145.2 bt147.2 true)) else (shalelaw16_PathOrder.j0 k a0 bt139.1 bt139.2 bt143.1 bt143.2 bt145.1 bt145.2 bt147.2 true)) else (shalelaw16_PathOrder.j0 k a0 bt139.1 bt139.2 bt143.1 bt143.2 bt145.1 bt145.2 bt147.2 false)))))))))) = some r := h
  clear h
  replace H := Option.bind_eq_some_iff.mp H
  obtain ⟨⟨t139, t140⟩, A40, H⟩ := H
  replace H : ((path_Within.f k a1 a0).bind fun bt141 => ((path_Within.f k a1 a2).bind fun bt143 => ((path_Within.f k a0 a2).bind fun bt145 => ((path_Within.f k a0 a0).bind fun bt147 => ((path_Clean.f k a0).bind fun bt149 => ((path_Clean.f k a1).bind fun bt151 => (if ((t140 == 0) != (bt141.2 == 0)) = true then (some false) else (if t140 = 0 then (if bt147.1 = true then (if bt147.2 = 0 then (if bt149.2 = 0 then (if bt151.2 = 0 then (if t139 = true then (if bt141.1 = true then (if bt149.1.toList = bt151.1.toList then (shalelaw16_PathOrder.j0 k a0 t139 t140 bt143.1 bt143.2 bt145.1 bt145.2 bt147.2 (!bt141.1)) else (shalelaw16_PathOrder.j0 k a0 t139 t140 bt143.1 bt143.2 bt145.1 bt145.2 bt147.2 true)) else (if bt149.1.toList = bt151.1.toList then (shalelaw16_PathOrder.j0 k a0 t139 t140 bt143.1 bt143.2 bt145.1 bt145.2 bt147.2 (!bt141.1)) else (shalelaw16_PathOrder.j0 k a0 t139 t140 bt143.1 bt143.2 bt145.1 bt145.2 bt147.2 false))) else (if bt149.1.toList = bt151.1.toList then (shalelaw16_PathOrder.j0 k a0 t139 t140 bt143.1 bt143.2 bt145.1 bt145.2 bt147.2 (!false)) else (shalelaw16_PathOrder.j0 k a0 t139 t140 bt143.1 bt143.2 bt145.1 bt145.2 bt147.2 false))) else (shalelaw16_PathOrder.j0 k a0 t139 t140 bt143.1 bt143.2 bt145.1 bt145.2 bt147.2 true)) else (shalelaw16_PathOrder.j0 k a0 t139 t140 bt143.1 bt143.2 bt145.1 bt145.2 bt147.2 true)) else (shalelaw16_PathOrder.j0 k a0 t139 t140 bt143.1 bt143.2 bt145.1 bt145.2 bt147.2 true)) else (shalelaw16_PathOrder.j0 k a0 t139 t140 bt143.1 bt143.2 bt145.1 bt145.2 bt147.2 true)) else (shalelaw16_PathOrder.j0 k a0 t139 t140 bt143.1 bt143.2 bt145.1 bt145.2 bt147.2 false))))))))) = some r := H
  have A4 := Aside0.mk A40
  clear A40
  replace H := Option.bind_eq_some_iff.mp H
  obtain ⟨⟨t141, t142⟩, A50, H⟩ := H
  replace H : ((path_Within.f k a1 a2).bind fun bt143 => ((path_Within.f k a0 a2).bind fun bt145 => ((path_Within.f k a0 a0).bind fun bt147 => ((path_Clean.f k a0).bind fun bt149 => ((path_Clean.f k a1).bind fun bt151 => (if ((t140 == 0) != (t142 == 0)) = true then (some false) else (if t140 = 0 then (if bt147.1 = true then (if bt147.2 = 0 then (if bt149.2 = 0 then (if bt151.2 = 0 then (if t139 = true then (if t141 = true then (if bt149.1.toList = bt151.1.toList then (shalelaw16_PathOrder.j0 k a0 t139 t140 bt143.1 bt143.2 bt145.1 bt145.2 bt147.2 (!t141)) else (shalelaw16_PathOrder.j0 k a0 t139 t140 bt143.1 bt143.2 bt145.1 bt145.2 bt147.2 true)) else (if bt149.1.toList = bt151.1.toList then (shalelaw16_PathOrder.j0 k a0 t139 t140 bt143.1 bt143.2 bt145.1 bt145.2 bt147.2 (!t141)) else (shalelaw16_PathOrder.j0 k a0 t139 t140 bt143.1 bt143.2 bt145.1 bt145.2 bt147.2 false))) else (if bt149.1.toList = bt151.1.toList then (shalelaw16_PathOrder.j0 k a0 t139 t140 bt143.1 bt143.2 bt145.1 bt145.2 bt147.2 (!false)) else (shalelaw16_PathOrder.j0 k a0 t139 t140 bt143.1 bt143.2 bt145.1 bt145.2 bt147.2 false))) else (shalelaw16_PathOrder.j0 k a0 t139 t140 bt143.1 bt143.2 bt145.1 bt145.2 bt147.2 true)) else (shalelaw16_PathOrder.j0 k a0 t139 t140 bt143.1 bt143.2 bt145.1 bt145.2 bt147.2 true)) else (shalelaw16_PathOrder.j0 k a0 t139 t140 bt143.1 bt143.2 bt145.1 bt145.2 bt147.2 true)) else (shalelaw16_PathOrder.j0 k a0 t139 t140 bt143.1 bt143.2 bt145.1 bt145.2 bt147.2 true)) else (shalelaw16_PathOrder.j0 k a0 t139 t140 bt143.1 bt143.2 bt145.1 bt145.2 bt147.2 false)))))))) = some r := H
  have A5 := Aside0.mk A50
  clear A50
  replace H := Option.bind_eq_some_iff.mp H
  obtain ⟨⟨t143, t144⟩, A60, H⟩ := H
  replace H : ((path_Within.f k a0 a2).bind fun bt145 => ((path_Within.f k a0 a0).bind fun bt147 => ((path_Clean.f k a0).bind fun bt149 => ((path_Clean.f k a1).bind fun bt151 => (if ((t140 == 0) != (t142 == 0)) = true then (some false) else (if t140 = 0 then (if bt147.1 = true then (if bt147.2 = 0 then (if bt149.2 = 0 then (if bt151.2 = 0 then (if t139 = true then (if t141 = true then (if bt149.1.toList = bt151.1.toList then (shalelaw16_PathOrder.j0 k a0 t139 t140 t143 t144 bt145.1 bt145.2 bt147.2 (!t141)) else (shalelaw16_PathOrder.j0 k a0 t139 t140 t143 t144 bt145.1 bt145.2 bt147.2 true)) else (if bt149.1.toList = bt151.1.toList then (shalelaw16_PathOrder.j0 k a0 t139 t140 t143 t144 bt145.1 bt145.2 bt147.2 (!t141)) else (shalelaw16_PathOrder.j0 k a0 t139 t140 t143 t144 bt145.1 bt145.2 bt147.2 false))) else (if bt149.1.toList = bt151.1.toList then (shalelaw16_PathOrder.j0 k a0 t139 t140 t143 t144 bt145.1 bt145.2 bt147.2 (!false)) else (shalelaw16_PathOrder.j0 k a0 t139 t140 t143 t144 bt145.1 bt145.2 bt147.2 false))) else (shalelaw16_PathOrder.j0 k a0 t139 t140 t143 t144 bt145.1 bt145.2 bt147.2 true)) else (shalelaw16_PathOrder.j0 k a0 t139 t140 t143 t144 bt145.1 bt145.2 bt147.2 true)) else (shalelaw16_PathOrder.j0 k a0 t139 t140 t143 t144 bt145.1 bt145.2 bt147.2 true)) else (shalelaw16_PathOrder.j0 k a0 t139 t140 t143 t144 bt145.1 bt145.2 bt147.2 true)) else (shalelaw16_PathOrder.j0 k a0 t139 t140 t143 t144 bt145.1 bt145.2 bt147.2 false))))))) = some r := H
  have A6 := Aside0.mk A60
  clear A60
  replace H := Option.bind_eq_some_iff.mp H
  obtain ⟨⟨t145, t146⟩, A70, H⟩ := H
  replace H : ((path_Within.f k a0 a0).bind fun bt147 => ((path_Clean.f k a0).bind fun bt149 => ((path_Clean.f k a1).bind fun bt151 => (if ((t140 == 0) != (t142 == 0)) = true then (some false) else (if t140 = 0 then (if bt147.1 = true then (if bt147.2 = 0 then (if bt149.2 = 0 then (if bt151.2 = 0 then (if t139 = true then (if t141 = true then (if bt149.1.toList = bt151.1.toList then (shalelaw16_PathOrder.j0 k a0 t139 t140 t143 t144 t145 t146 bt147.2 (!t141)) else (shalelaw16_PathOrder.j0 k a0 t139 t140 t143 t144 t145 t146 bt147.2 true)) else (if bt149.1.toList = bt151.1.toList then (shalelaw16_PathOrder.j0 k a0 t139 t140 t143 t144 t145 t146 bt147.2 (!t141)) else (shalelaw16_PathOrder.j0 k a0 t139 t140 t143 t144 t145 t146 bt147.2 false))) else (if bt149.1.toList = bt151.1.toList then (shalelaw16_PathOrder.j0 k a0 t139 t140 t143 t144 t145 t146 bt147.2 (!false)) else (shalelaw16_PathOrder.j0 k a0 t139 t140 t143 t144 t145 t146 bt147.2 false))) else (shalelaw16_PathOrder.j0 k a0 t139 t140 t143 t144 t145 t146 bt147.2 true)) else (shalelaw16_PathOrder.j0 k a0 t139 t140 t143 t144 t145 t146 bt147.2 true)) else (shalelaw16_PathOrder.j0 k a0 t139 t140 t143 t144 t145 t146 bt147.2 true)) else (shalelaw16_PathOrder.j0 k a0 t139 t140 t143 t144 t145 t146 bt147.2 true)) else (shalelaw16_PathOrder.j0 k a0 t139 t140 t143 t144 t145 t146 bt147.2 false)))))) = some r := H
  have A7 := Aside0.mk A70
  clear A70
  replace H := Option.bind_eq_some_iff.mp H
  obtain ⟨⟨t147, t148⟩, A80, H⟩ := H
  replace H : ((path_Clean.f k a0).bind fun bt149 => ((path_Clean.f k a1).bind fun bt151 => (if ((t140 == 0) != (t142 == 0)) = true then (some false) else (if t140 = 0 then (if t147 = true then (if t148 = 0 then (if bt149.2 = 0 then (if bt151.2 = 0 then (if t139 = true then (if t141 = true then (if bt149.1.toList = bt151.1.toList then (shalelaw16_PathOrder.j0 k a0 t139 t140 t143 t144 t145 t146 t148 (!t141)) else (shalelaw16_PathOrder.j0 k a0 t139 t140 t143 t144 t145 t146 t148 true)) else (if bt149.1.toList = bt151.1.toList then (shalelaw16_PathOrder.j0 k a0 t139 t140 t143 t144 t145 t146 t148 (!t141)) else (shalelaw16_PathOrder.j0 k a0 t139 t140 t143 t144 t145 t146 t148 false))) else (if bt149.1.toList = bt151.1.toList then (shalelaw16_PathOrder.j0 k a0 t139 t140 t143 t144 t145 t146 t148 (!false)) else (shalelaw16_PathOrder.j0 k a0 t139 t140 t143 t144 t145 t146 t148 false))) else (shalelaw16_PathOrder.j0 k a0 t139 t140 t143 t144 t145 t146 t148 true)) else (shalelaw16_PathOrder.j0 k a0 t139 t140 t143 t144 t145 t146 t148 true)) else (shalelaw16_PathOrder.j0 k a0 t139 t140 t143 t144 t145 t146 t148 true)) else (shalelaw16_PathOrder.j0 k a0 t139 t140 t143 t144 t145 t146 t148 true)) else (shalelaw16_PathOrder.j0 k a0 t139 t140 t143 t144 t145 t146 t148 false))))) = some r := H
  have A8 := Aside0.mk A80
  clear A80
  replace H := Option.bind_eq_some_iff.mp H
  obtain ⟨⟨t149, t150⟩, A90, H⟩ := H
  replace H : ((path_Clean.f k a1).bind fun bt151 => (if ((t140 == 0) != (t142 == 0)) = true then (some false) else (if t140 = 0 then (if t147 = true then (if t148 = 0 then (if t150 = 0 then (if bt151.2 = 0 then (if t139 = true then (if t141 = true then (if t149.toList = bt151.1.toList then (shalelaw16_PathOrder.j0 k a0 t139 t140 t143 t144 t145 t146 t148 (!t141)) else (shalelaw16_PathOrder.j0 k a0 t139 t140 t143 t144 t145 t146 t148 true)) else (if t149.toList = bt151.1.toList then (shalelaw16_PathOrder.j0 k a0 t139 t140 t143 t144 t145 t146 t148 (!t141)) else (shalelaw16_PathOrder.j0 k a0 t139 t140 t143 t144 t145 t146 t148 false))) else (if t149.toList = bt151.1.toList then (shalelaw16_PathOrder.j0 k a0 t139 t140 t143 t144 t145 t146 t148 (!false)) else (shalelaw16_PathOrder.j0 k a0 t139 t140 t143 t144 t145 t146 t148 false))) else (shalelaw16_PathOrder.j0 k a0 t139 t140 t143 t144 t145 t146 t148 true)) else (shalelaw16_PathOrder.j0 k a0 t139 t140 t143 t144 t145 t146 t148 true)) else (shalelaw16_PathOrder.j0 k a0 t139 t140 t143 t144 t145 t146 t148 true)) else (shalelaw16_PathOrder.j0 k a0 t139 t140 t143 t144 t145 t146 t148 true)) else (shalelaw16_PathOrder.j0 k a0 t139 t140 t143 t144 t145 t146 t148 false)))) = some r := H
  have A9 := Aside0.mk A90
  clear A90
  replace H := Option.bind_eq_some_iff.mp H
  obtain ⟨⟨t151, t152⟩, A100, H⟩ := H
  replace H : (if ((t140 == 0) != (t142 == 0)) = true then (some false) else (if t140 = 0 then (if t147 = true then (if t148 = 0 then (if t150 = 0 then (if t152 = 0 then (if t139 = true then (if t141 = true then (if t149.toList = t151.toList then (shalelaw16_PathOrder.j0 k a0 t139 t140 t143 t144 t145 t146 t148 (!t141)) else (shalelaw16_PathOrder.j0 k a0 t139 t140 t143 t144 t145 t146 t148 true)) else (if t149.toList = t151.toList then (shalelaw16_PathOrder.j0 k a0 t139 t140 t143 t144 t145 t146 t148 (!t141)) else (shalelaw16_PathOrder.j0 k a0 t139 t140 t143 t144 t145 t146 t148 false))) else (if t149.toList = t151.toList then (shalelaw16_PathOrder.j0 k a0 t139 t140 t143 t144 t145 t146 t148 (!false)) else (shalelaw16_PathOrder.j0 k a0 t139 t140 t143 t144 t145 t146 t148 false))) else (shalelaw16_PathOrder.j0 k a0 t139 t140 t143 t144 t145 t146 t148 true)) else (shalelaw16_PathOrder.j0 k a0 t139 t140 t143 t144 t145 t146 t148 true)) else (shalelaw16_PathOrder.j0 k a0 t139 t140 t143 t144 t145 t146 t148 true)) else (shalelaw16_PathOrder.j0 k a0 t139 t140 t143 t144 t145 t146 t148 true)) else (shalelaw16_PathOrder.j0 k a0 t139 t140 t143 t144 t145 t146 t148 false))) = some r := H
  have A10 := Aside0.mk A100
  clear A100
  by_cases c11 : ((t140 == 0) != (t142 == 0)) = true
  · rw [if_pos c11] at H
    have c11b0 : ((t140 == 0) != (t142 == 0)) = true := c11
    (try (have c11b1 : decide ((t140 == 0) = (t142 == 0)) = false := by simpa using c11))
    (try (have c11b2 : ((t140 == 0) == (t142 == 0)) = false := by simpa using c11))
    (try (have c11b3 : ¬ ((t140 == 0) = (t142 == 0)) := by simpa using c11))
    clear c11
    obtain rfl := Option.some.inj H
    go_enter Tryd.func7, Tryd.ntmps7
    go_wp2_with (first | ((with_reducible refine gate_callee (f := 14) rfl ?_); refine goesL_ (some 26) rfl rfl Tryd.func14 (by kernel_rfl) rfl #[.string a0, .string a1] rfl (by (try simp only [List.map_toArray, List.map_cons, List.map_nil]); first | done | rfl | (simp only [List.length_drop, List.length_take]; rfl)) ?_; (with_reducible refine (path_Within.calls k a0 a1 t139 t140 _ A4.out).mono ?_); rintro e w12 ⟨rfl, hb⟩; refine ⟨_, rfl, ?_⟩; have n0_ := Aside0.mk (below_step (by repeat (first | (with_reducible first | exact HB.out | apply below_alloc | apply pw_below_drewN | apply below_drew1) | exact HB.out)) hb); clear HB; have HB := n0_; clear n0_; (try clear hb); (try clear hb2); (try clear hk); (try clear hi)) | ((with_reducible refine gate_callee (f := 14) rfl ?_); refine goesL_ (some 32) rfl rfl Tryd.func14 (by kernel_rfl) rfl #[.string a1, .string a0] rfl (by (try simp only [List.map_toArray, List.map_cons, List.map_nil]); first | done | rfl | (simp only [List.length_drop, List.length_take]; rfl)) ?_; (with_reducible refine (path_Within.calls k a1 a0 t141 t142 _ A5.out).mono ?_); rintro e w13 ⟨rfl, hb⟩; refine ⟨_, rfl, ?_⟩; have n0_ := Aside0.mk (below_step (by repeat (first | (with_reducible first | exact HB.out | apply below_alloc | apply pw_below_drewN | apply below_drew1) | exact HB.out)) hb); clear HB; have HB := n0_; clear n0_; (try clear hb); (try clear hb2); (try clear hk); (try clear hi)) | ((with_reducible refine gate_callee (f := 14) rfl ?_); refine goesL_ (some 38) rfl rfl Tryd.func14 (by kernel_rfl) rfl #[.string a1, .string a2] rfl (by (try simp only [List.map_toArray, List.map_cons, List.map_nil]); first | done | rfl | (simp only [List.length_drop, List.length_take]; rfl)) ?_; (with_reducible refine (path_Within.calls k a1 a2 t143 t144 _ A6.out).mono ?_); rintro e w14 ⟨rfl, hb⟩; refine ⟨_, rfl, ?_⟩; have n0_ := Aside0.mk (below_step (by repeat (first | (with_reducible first | exact HB.out | apply below_alloc | apply pw_below_drewN | apply below_drew1) | exact HB.out)) hb); clear HB; have HB := n0_; clear n0_; (try clear hb); (try clear hb2); (try clear hk); (try clear hi)) | ((with_reducible refine gate_callee (f := 14) rfl ?_); refine goesL_ (some 44) rfl rfl Tryd.func14 (by kernel_rfl) rfl #[.string a0, .string a2] rfl (by (try simp only [List.map_toArray, List.map_cons, List.map_nil]); first | done | rfl | (simp only [List.length_drop, List.length_take]; rfl)) ?_; (with_reducible refine (path_Within.calls k a0 a2 t145 t146 _ A7.out).mono ?_); rintro e w15 ⟨rfl, hb⟩; refine ⟨_, rfl, ?_⟩; have n0_ := Aside0.mk (below_step (by repeat (first | (with_reducible first | exact HB.out | apply below_alloc | apply pw_below_drewN | apply below_drew1) | exact HB.out)) hb); clear HB; have HB := n0_; clear n0_; (try clear hb); (try clear hb2); (try clear hk); (try clear hi)) | ((with_reducible refine gate_callee (f := 14) rfl ?_); refine goesL_ (some 50) rfl rfl Tryd.func14 (by kernel_rfl) rfl #[.string a0, .string a0] rfl (by (try simp only [List.map_toArray, List.map_cons, List.map_nil]); first | done | rfl | (simp only [List.length_drop, List.length_take]; rfl)) ?_; (with_reducible refine (path_Within.calls k a0 a0 t147 t148 _ A8.out).mono ?_); rintro e w16 ⟨rfl, hb⟩; refine ⟨_, rfl, ?_⟩; have n0_ := Aside0.mk (below_step (by repeat (first | (with_reducible first | exact HB.out | apply below_alloc | apply pw_below_drewN | apply below_drew1) | exact HB.out)) hb); clear HB; have HB := n0_; clear n0_; (try clear hb); (try clear hb2); (try clear hk); (try clear hi)) | ((with_reducible refine gate_callee (f := 21) rfl ?_); refine goesL_ (some 55) rfl rfl Tryd.func21 (by kernel_rfl) rfl #[.string a0] rfl (by (try simp only [List.map_toArray, List.map_cons, List.map_nil]); first | done | rfl | (simp only [List.length_drop, List.length_take]; rfl)) ?_; (with_reducible refine (path_Clean.calls k a0 t149 t150 _ A9.out).mono ?_); rintro e w17 ⟨rfl, hb⟩; refine ⟨_, rfl, ?_⟩; have n0_ := Aside0.mk (below_step (by repeat (first | (with_reducible first | exact HB.out | apply below_alloc | apply pw_below_drewN | apply below_drew1) | exact HB.out)) hb); clear HB; have HB := n0_; clear n0_; (try clear hb); (try clear hb2); (try clear hk); (try clear hi)) | ((with_reducible refine gate_callee (f := 21) rfl ?_); refine goesL_ (some 60) rfl rfl Tryd.func21 (by kernel_rfl) rfl #[.string a1] rfl (by (try simp only [List.map_toArray, List.map_cons, List.map_nil]); first | done | rfl | (simp only [List.length_drop, List.length_take]; rfl)) ?_; (with_reducible refine (path_Clean.calls k a1 t151 t152 _ A10.out).mono ?_); rintro e w18 ⟨rfl, hb⟩; refine ⟨_, rfl, ?_⟩; have n0_ := Aside0.mk (below_step (by repeat (first | (with_reducible first | exact HB.out | apply below_alloc | apply pw_below_drewN | apply below_drew1) | exact HB.out)) hb); clear HB; have HB := n0_; clear n0_; (try clear hb); (try clear hb2); (try clear hk); (try clear hi)))
    go_ret
    exact ⟨by first | rfl | (simp [errW_none, errW_some] <;> rfl) | (simp [*, errW_none, errW_some] <;> rfl), by repeat (first | (with_reducible first | exact HB.out | apply below_alloc | apply pw_below_drewN | apply below_drew1) | exact HB.out)⟩
  · rw [if_neg c11] at H
    have c11b0 : ((t140 == 0) != (t142 == 0)) = false := by simpa using c11
    (try (have c11b1 : decide ((t140 == 0) = (t142 == 0)) = true := by simpa using c11))
    (try (have c11b2 : ((t140 == 0) == (t142 == 0)) = true := by simpa using c11))
    clear c11
    have HC19 := Aside0.mk H
    clear H
    go_enter Tryd.func7, Tryd.ntmps7
    go_upto_region 10 with (first | ((with_reducible refine gate_callee (f := 14) rfl ?_); refine goesL_ (some 26) rfl rfl Tryd.func14 (by kernel_rfl) rfl #[.string a0, .string a1] rfl (by (try simp only [List.map_toArray, List.map_cons, List.map_nil]); first | done | rfl | (simp only [List.length_drop, List.length_take]; rfl)) ?_; (with_reducible refine (path_Within.calls k a0 a1 t139 t140 _ A4.out).mono ?_); rintro e w20 ⟨rfl, hb⟩; refine ⟨_, rfl, ?_⟩; have n0_ := Aside0.mk (below_step (by repeat (first | (with_reducible first | exact HB.out | apply below_alloc | apply pw_below_drewN | apply below_drew1) | exact HB.out)) hb); clear HB; have HB := n0_; clear n0_; (try clear hb); (try clear hb2); (try clear hk); (try clear hi)) | ((with_reducible refine gate_callee (f := 14) rfl ?_); refine goesL_ (some 32) rfl rfl Tryd.func14 (by kernel_rfl) rfl #[.string a1, .string a0] rfl (by (try simp only [List.map_toArray, List.map_cons, List.map_nil]); first | done | rfl | (simp only [List.length_drop, List.length_take]; rfl)) ?_; (with_reducible refine (path_Within.calls k a1 a0 t141 t142 _ A5.out).mono ?_); rintro e w21 ⟨rfl, hb⟩; refine ⟨_, rfl, ?_⟩; have n0_ := Aside0.mk (below_step (by repeat (first | (with_reducible first | exact HB.out | apply below_alloc | apply pw_below_drewN | apply below_drew1) | exact HB.out)) hb); clear HB; have HB := n0_; clear n0_; (try clear hb); (try clear hb2); (try clear hk); (try clear hi)) | ((with_reducible refine gate_callee (f := 14) rfl ?_); refine goesL_ (some 38) rfl rfl Tryd.func14 (by kernel_rfl) rfl #[.string a1, .string a2] rfl (by (try simp only [List.map_toArray, List.map_cons, List.map_nil]); first | done | rfl | (simp only [List.length_drop, List.length_take]; rfl)) ?_; (with_reducible refine (path_Within.calls k a1 a2 t143 t144 _ A6.out).mono ?_); rintro e w22 ⟨rfl, hb⟩; refine ⟨_, rfl, ?_⟩; have n0_ := Aside0.mk (below_step (by repeat (first | (with_reducible first | exact HB.out | apply below_alloc | apply pw_below_drewN | apply below_drew1) | exact HB.out)) hb); clear HB; have HB := n0_; clear n0_; (try clear hb); (try clear hb2); (try clear hk); (try clear hi)) | ((with_reducible refine gate_callee (f := 14) rfl ?_); refine goesL_ (some 44) rfl rfl Tryd.func14 (by kernel_rfl) rfl #[.string a0, .string a2] rfl (by (try simp only [List.map_toArray, List.map_cons, List.map_nil]); first | done | rfl | (simp only [List.length_drop, List.length_take]; rfl)) ?_; (with_reducible refine (path_Within.calls k a0 a2 t145 t146 _ A7.out).mono ?_); rintro e w23 ⟨rfl, hb⟩; refine ⟨_, rfl, ?_⟩; have n0_ := Aside0.mk (below_step (by repeat (first | (with_reducible first | exact HB.out | apply below_alloc | apply pw_below_drewN | apply below_drew1) | exact HB.out)) hb); clear HB; have HB := n0_; clear n0_; (try clear hb); (try clear hb2); (try clear hk); (try clear hi)) | ((with_reducible refine gate_callee (f := 14) rfl ?_); refine goesL_ (some 50) rfl rfl Tryd.func14 (by kernel_rfl) rfl #[.string a0, .string a0] rfl (by (try simp only [List.map_toArray, List.map_cons, List.map_nil]); first | done | rfl | (simp only [List.length_drop, List.length_take]; rfl)) ?_; (with_reducible refine (path_Within.calls k a0 a0 t147 t148 _ A8.out).mono ?_); rintro e w24 ⟨rfl, hb⟩; refine ⟨_, rfl, ?_⟩; have n0_ := Aside0.mk (below_step (by repeat (first | (with_reducible first | exact HB.out | apply below_alloc | apply pw_below_drewN | apply below_drew1) | exact HB.out)) hb); clear HB; have HB := n0_; clear n0_; (try clear hb); (try clear hb2); (try clear hk); (try clear hi)) | ((with_reducible refine gate_callee (f := 21) rfl ?_); refine goesL_ (some 55) rfl rfl Tryd.func21 (by kernel_rfl) rfl #[.string a0] rfl (by (try simp only [List.map_toArray, List.map_cons, List.map_nil]); first | done | rfl | (simp only [List.length_drop, List.length_take]; rfl)) ?_; (with_reducible refine (path_Clean.calls k a0 t149 t150 _ A9.out).mono ?_); rintro e w25 ⟨rfl, hb⟩; refine ⟨_, rfl, ?_⟩; have n0_ := Aside0.mk (below_step (by repeat (first | (with_reducible first | exact HB.out | apply below_alloc | apply pw_below_drewN | apply below_drew1) | exact HB.out)) hb); clear HB; have HB := n0_; clear n0_; (try clear hb); (try clear hb2); (try clear hk); (try clear hi)) | ((with_reducible refine gate_callee (f := 21) rfl ?_); refine goesL_ (some 60) rfl rfl Tryd.func21 (by kernel_rfl) rfl #[.string a1] rfl (by (try simp only [List.map_toArray, List.map_cons, List.map_nil]); first | done | rfl | (simp only [List.length_drop, List.length_take]; rfl)) ?_; (with_reducible refine (path_Clean.calls k a1 t151 t152 _ A10.out).mono ?_); rintro e w26 ⟨rfl, hb⟩; refine ⟨_, rfl, ?_⟩; have n0_ := Aside0.mk (below_step (by repeat (first | (with_reducible first | exact HB.out | apply below_alloc | apply pw_below_drewN | apply below_drew1) | exact HB.out)) hb); clear HB; have HB := n0_; clear n0_; (try clear hb); (try clear hb2); (try clear hk); (try clear hi)))
    (try simp only [Act.put, List.setIfInBounds_toArray, List.set_cons_zero, List.set_cons_succ])
    go_cut [108] (fun v108 wc => ∃ (kq : Nat) (x108_18 : Bool), v108 = .bool x108_18 ∧ Aside0 (shalelaw16_PathOrder.j0 kq a0 t139 t140 t143 t144 t145 t146 t148 x108_18 = some r) ∧ Aside0 (kq ≤ k) ∧ Aside0 (Below w.heap.size w wc))
    case first =>
      have H := HC19.out
      clear HC19
      by_cases c27 : t140 = 0
      · rw [if_pos c27] at H
        have c27b0 : (t140 == 0) = true := beq_iff_eq.mpr c27
        have c27b1 : (t140 != 0) = false := bne_eq_false_iff_eq.mpr c27
        clear c27
        (first | rw [c27b0] | (simp only [i64_w, i32_w]; rw [c27b0]) | skip)
        by_cases c28 : t147 = true
        · subst c28
          have H1 : (if t148 = 0 then (if t150 = 0 then (if t152 = 0 then (if t139 = true then (if t141 = true then (if t149.toList = t151.toList then (shalelaw16_PathOrder.j0 k a0 t139 t140 t143 t144 t145 t146 t148 (!t141)) else (shalelaw16_PathOrder.j0 k a0 t139 t140 t143 t144 t145 t146 t148 true)) else (if t149.toList = t151.toList then (shalelaw16_PathOrder.j0 k a0 t139 t140 t143 t144 t145 t146 t148 (!t141)) else (shalelaw16_PathOrder.j0 k a0 t139 t140 t143 t144 t145 t146 t148 false))) else (if t149.toList = t151.toList then (shalelaw16_PathOrder.j0 k a0 t139 t140 t143 t144 t145 t146 t148 (!false)) else (shalelaw16_PathOrder.j0 k a0 t139 t140 t143 t144 t145 t146 t148 false))) else (shalelaw16_PathOrder.j0 k a0 t139 t140 t143 t144 t145 t146 t148 true)) else (shalelaw16_PathOrder.j0 k a0 t139 t140 t143 t144 t145 t146 t148 true)) else (shalelaw16_PathOrder.j0 k a0 t139 t140 t143 t144 t145 t146 t148 true)) = some r := by rw [if_pos rfl] at H; exact H
          clear H
          have H := H1
          clear H1
          by_cases c29 : t148 = 0
          · rw [if_pos c29] at H
            have c29b0 : (t148 == 0) = true := beq_iff_eq.mpr c29
            have c29b1 : (t148 != 0) = false := bne_eq_false_iff_eq.mpr c29
            clear c29
            by_cases c30 : t150 = 0
            · rw [if_pos c30] at H
              have c30b0 : (t150 == 0) = true := beq_iff_eq.mpr c30
              have c30b1 : (t150 != 0) = false := bne_eq_false_iff_eq.mpr c30
              clear c30
              by_cases c31 : t152 = 0
              · rw [if_pos c31] at H
                have c31b0 : (t152 == 0) = true := beq_iff_eq.mpr c31
                have c31b1 : (t152 != 0) = false := bne_eq_false_iff_eq.mpr c31
                clear c31
                by_cases c32 : t139 = true
                · subst c32
                  have H1 : (if t141 = true then (if t149.toList = t151.toList then (shalelaw16_PathOrder.j0 k a0 true t140 t143 t144 t145 t146 t148 (!t141)) else (shalelaw16_PathOrder.j0 k a0 true t140 t143 t144 t145 t146 t148 true)) else (if t149.toList = t151.toList then (shalelaw16_PathOrder.j0 k a0 true t140 t143 t144 t145 t146 t148 (!t141)) else (shalelaw16_PathOrder.j0 k a0 true t140 t143 t144 t145 t146 t148 false))) = some r := by rw [if_pos rfl] at H; exact H
                  clear H
                  have H := H1
                  clear H1
                  by_cases c33 : t141 = true
                  · subst c33
                    have H1 : (if t149.toList = t151.toList then (shalelaw16_PathOrder.j0 k a0 true t140 t143 t144 t145 t146 t148 (!true)) else (shalelaw16_PathOrder.j0 k a0 true t140 t143 t144 t145 t146 t148 true)) = some r := by rw [if_pos rfl] at H; exact H
                    clear H
                    have H := H1
                    clear H1
                    by_cases c34 : t149.toList = t151.toList
                    · rw [if_pos c34] at H
                      have c34b0 : (t149.toList == t151.toList) = true := beq_iff_eq.mpr c34
                      have c34b1 : (t149.toList != t151.toList) = false := bne_eq_false_iff_eq.mpr c34
                      clear c34
                      have H' := Aside0.mk H
                      clear H
                      go_wp2
                      go_meet
                      case rel => exact ⟨_, (!true), (by first | rfl | (simp; done) | (simp [*]; done)), H', ⟨by first | omega | exact Nat.le_refl _⟩, ⟨by repeat (first | (with_reducible first | exact HB.out | apply below_alloc | apply pw_below_drewN | apply below_drew1) | exact HB.out)⟩⟩
                    · rw [if_neg c34] at H
                      have c34b0 : (t149.toList == t151.toList) = false := beq_eq_false_iff_ne.mpr c34
                      have c34b1 : (t149.toList != t151.toList) = true := bne_iff_ne.mpr c34
                      have H' := Aside0.mk H
                      clear H
                      go_wp2
                      go_meet
                      case rel => exact ⟨_, (true), (by first | rfl | (simp; done) | (simp [*]; done)), H', ⟨by first | omega | exact Nat.le_refl _⟩, ⟨by repeat (first | (with_reducible first | exact HB.out | apply below_alloc | apply pw_below_drewN | apply below_drew1) | exact HB.out)⟩⟩
                  · replace c33 := Bool.eq_false_iff.mpr c33
                    subst c33
                    have H1 : (if t149.toList = t151.toList then (shalelaw16_PathOrder.j0 k a0 true t140 t143 t144 t145 t146 t148 (!false)) else (shalelaw16_PathOrder.j0 k a0 true t140 t143 t144 t145 t146 t148 false)) = some r := by rw [if_neg (show ¬ (false = true) by decide)] at H; exact H
                    clear H
                    have H := H1
                    clear H1
                    by_cases c35 : t149.toList = t151.toList
                    · rw [if_pos c35] at H
                      have c35b0 : (t149.toList == t151.toList) = true := beq_iff_eq.mpr c35
                      have c35b1 : (t149.toList != t151.toList) = false := bne_eq_false_iff_eq.mpr c35
                      clear c35
                      have H' := Aside0.mk H
                      clear H
                      go_wp2
                      go_meet
                      case rel => exact ⟨_, (!false), (by first | rfl | (simp; done) | (simp [*]; done)), H', ⟨by first | omega | exact Nat.le_refl _⟩, ⟨by repeat (first | (with_reducible first | exact HB.out | apply below_alloc | apply pw_below_drewN | apply below_drew1) | exact HB.out)⟩⟩
                    · rw [if_neg c35] at H
                      have c35b0 : (t149.toList == t151.toList) = false := beq_eq_false_iff_ne.mpr c35
                      have c35b1 : (t149.toList != t151.toList) = true := bne_iff_ne.mpr c35
                      have H' := Aside0.mk H
                      clear H
                      go_wp2
                      go_meet
                      case rel => exact ⟨_, (false), (by first | rfl | (simp; done) | (simp [*]; done)), H', ⟨by first | omega | exact Nat.le_refl _⟩, ⟨by repeat (first | (with_reducible first | exact HB.out | apply below_alloc | apply pw_below_drewN | apply below_drew1) | exact HB.out)⟩⟩
                · replace c32 := Bool.eq_false_iff.mpr c32
                  subst c32
                  have H1 : (if t149.toList = t151.toList then (shalelaw16_PathOrder.j0 k a0 false t140 t143 t144 t145 t146 t148 (!false)) else (shalelaw16_PathOrder.j0 k a0 false t140 t143 t144 t145 t146 t148 false)) = some r := by rw [if_neg (show ¬ (false = true) by decide)] at H; exact H
                  clear H
                  have H := H1
                  clear H1
                  by_cases c36 : t149.toList = t151.toList
                  · rw [if_pos c36] at H
                    have c36b0 : (t149.toList == t151.toList) = true := beq_iff_eq.mpr c36
                    have c36b1 : (t149.toList != t151.toList) = false := bne_eq_false_iff_eq.mpr c36
                    clear c36
                    have H' := Aside0.mk H
                    clear H
                    go_wp2
                    go_meet
                    case rel => exact ⟨_, (!false), (by first | rfl | (simp; done) | (simp [*]; done)), H', ⟨by first | omega | exact Nat.le_refl _⟩, ⟨by repeat (first | (with_reducible first | exact HB.out | apply below_alloc | apply pw_below_drewN | apply below_drew1) | exact HB.out)⟩⟩
                  · rw [if_neg c36] at H
                    have c36b0 : (t149.toList == t151.toList) = false := beq_eq_false_iff_ne.mpr c36
                    have c36b1 : (t149.toList != t151.toList) = true := bne_iff_ne.mpr c36
                    have H' := Aside0.mk H
                    clear H
                    go_wp2
                    go_meet
                    case rel => exact ⟨_, (false), (by first | rfl | (simp; done) | (simp [*]; done)), H', ⟨by first | omega | exact Nat.le_refl _⟩, ⟨by repeat (first | (with_reducible first | exact HB.out | apply below_alloc | apply pw_below_drewN | apply below_drew1) | exact HB.out)⟩⟩
              · rw [if_neg c31] at H
                have c31b0 : (t152 == 0) = false := beq_eq_false_iff_ne.mpr c31
                have c31b1 : (t152 != 0) = true := bne_iff_ne.mpr c31
                have H' := Aside0.mk H
                clear H
                go_wp2
                go_meet
                case rel => exact ⟨_, (true), (by first | rfl | (simp; done) | (simp [*]; done)), H', ⟨by first | omega | exact Nat.le_refl _⟩, ⟨by repeat (first | (with_reducible first | exact HB.out | apply below_alloc | apply pw_below_drewN | apply below_drew1) | exact HB.out)⟩⟩
            · rw [if_neg c30] at H
              have c30b0 : (t150 == 0) = false := beq_eq_false_iff_ne.mpr c30
              have c30b1 : (t150 != 0) = true := bne_iff_ne.mpr c30
              have H' := Aside0.mk H
              clear H
              go_wp2
              go_meet
              case rel => exact ⟨_, (true), (by first | rfl | (simp; done) | (simp [*]; done)), H', ⟨by first | omega | exact Nat.le_refl _⟩, ⟨by repeat (first | (with_reducible first | exact HB.out | apply below_alloc | apply pw_below_drewN | apply below_drew1) | exact HB.out)⟩⟩
          · rw [if_neg c29] at H
            have c29b0 : (t148 == 0) = false := beq_eq_false_iff_ne.mpr c29
            have c29b1 : (t148 != 0) = true := bne_iff_ne.mpr c29
            have H' := Aside0.mk H
            clear H
            go_wp2
            go_meet
            case rel => exact ⟨_, (true), (by first | rfl | (simp; done) | (simp [*]; done)), H', ⟨by first | omega | exact Nat.le_refl _⟩, ⟨by repeat (first | (with_reducible first | exact HB.out | apply below_alloc | apply pw_below_drewN | apply below_drew1) | exact HB.out)⟩⟩
        · replace c28 := Bool.eq_false_iff.mpr c28
          subst c28
          have H1 : (shalelaw16_PathOrder.j0 k a0 t139 t140 t143 t144 t145 t146 t148 true) = some r := by rw [if_neg (show ¬ (false = true) by decide)] at H; exact H
          clear H
          have H := H1
          clear H1
          have H' := Aside0.mk H
          clear H
          go_wp2
          go_meet
          case rel => exact ⟨_, (true), (by first | rfl | (simp; done) | (simp [*]; done)), H', ⟨by first | omega | exact Nat.le_refl _⟩, ⟨by repeat (first | (with_reducible first | exact HB.out | apply below_alloc | apply pw_below_drewN | apply below_drew1) | exact HB.out)⟩⟩
      · rw [if_neg c27] at H
        have c27b0 : (t140 == 0) = false := beq_eq_false_iff_ne.mpr c27
        have c27b1 : (t140 != 0) = true := bne_iff_ne.mpr c27
        (first | rw [c27b0] | (simp only [i64_w, i32_w]; rw [c27b0]) | skip)
        have H' := Aside0.mk H
        clear H
        go_wp2
        go_meet
        case rel => exact ⟨_, (false), (by first | rfl | (simp; done) | (simp [*]; done)), H', ⟨by first | omega | exact Nat.le_refl _⟩, ⟨by repeat (first | (with_reducible first | exact HB.out | apply below_alloc | apply pw_below_drewN | apply below_drew1) | exact HB.out)⟩⟩
    case rest =>
      clear HC19
      try clear c1
      try clear c2
      try clear p2
      try clear c3
      try clear c7
      try clear c11
      try clear c11b0
      try clear c11b1
      try clear c11b2
      try clear c14
      try clear c21
      try clear c27
      try clear c27b0
      try clear c27b1
      try clear c28
      try clear c29
      try clear c29b0
      try clear c29b1
      try clear c30
      try clear c30b0
      try clear c30b1
      try clear c31
      try clear c31b0
      try clear c31b1
      try clear c32
      try clear c33
      try clear c34
      try clear c34b0
      try clear c34b1
      try clear c35
      try clear c35b0
      try clear c35b1
      try clear c36
      try clear c36b0
      try clear c36b1
      obtain ⟨kq, x108_18, rfl, HA, HJ18, HB⟩ := hcut
      cases kq with
      | zero => exact absurd HA.out (by simp [shalelaw16_PathOrder.j0])
      | succ kj18 =>
        have H := HA.out
        clear HA
        simp only [shalelaw16_PathOrder.j0] at H
        by_cases c37 : x108_18 = true
        · subst c37
          have H1 : (some false) = some r := by rw [if_pos rfl] at H; exact H
          clear H
          have H := H1
          clear H1
          obtain rfl := Option.some.inj H
          go_wp2
          go_ret
          exact ⟨by first | rfl | (simp [errW_none, errW_some] <;> rfl) | (simp [*, errW_none, errW_some] <;> rfl), by repeat (first | (with_reducible first | exact HB.out | apply below_alloc | apply pw_below_drewN | apply below_drew1) | exact HB.out)⟩
        · replace c37 := Bool.eq_false_iff.mpr c37
          subst c37
          have H1 : (if t140 = 0 then (if t144 = 0 then (if t146 = 0 then (if t139 = true then (if t143 = true then (if t145 = true then ((path_Within.f kj18 a0 (⟨#[47]⟩ : ByteArray)).bind fun bt153 => (if t148 = 0 then (if bt153.2 = 0 then (some bt153.1) else (some false)) else (if bt153.2 = 0 then (some false) else (if bt153.1 = true then (some false) else (some true))))) else (some false)) else ((path_Within.f kj18 a0 (⟨#[47]⟩ : ByteArray)).bind fun bt155 => (if t148 = 0 then (if bt155.2 = 0 then (some bt155.1) else (some false)) else (if bt155.2 = 0 then (some false) else (if bt155.1 = true then (some false) else (some true)))))) else ((path_Within.f kj18 a0 (⟨#[47]⟩ : ByteArray)).bind fun bt157 => (if t148 = 0 then (if bt157.2 = 0 then (some bt157.1) else (some false)) else (if bt157.2 = 0 then (some false) else (if bt157.1 = true then (some false) else (some true)))))) else (some false)) else ((path_Within.f kj18 a0 (⟨#[47]⟩ : ByteArray)).bind fun bt159 => (if t148 = 0 then (if bt159.2 = 0 then (some bt159.1) else (some false)) else (if bt159.2 = 0 then (some false) else (if bt159.1 = true then (some false) else (some true)))))) else ((path_Within.f kj18 a0 (⟨#[47]⟩ : ByteArray)).bind fun bt161 => (if t148 = 0 then (if bt161.2 = 0 then (some bt161.1) else (some false)) else (if bt161.2 = 0 then (some false) else (if bt161.1 = true then (some false) else (some true)))))) = some r := by rw [if_neg (show ¬ (false = true) by decide)] at H; exact H
          clear H
          have H := H1
          clear H1
          by_cases c38 : t140 = 0
          · rw [if_pos c38] at H
            have c38b0 : (t140 == 0) = true := beq_iff_eq.mpr c38
            have c38b1 : (t140 != 0) = false := bne_eq_false_iff_eq.mpr c38
            clear c38
            by_cases c39 : t144 = 0
            · rw [if_pos c39] at H
              have c39b0 : (t144 == 0) = true := beq_iff_eq.mpr c39
              have c39b1 : (t144 != 0) = false := bne_eq_false_iff_eq.mpr c39
              clear c39
              by_cases c40 : t146 = 0
              · rw [if_pos c40] at H
                have c40b0 : (t146 == 0) = true := beq_iff_eq.mpr c40
                have c40b1 : (t146 != 0) = false := bne_eq_false_iff_eq.mpr c40
                clear c40
                by_cases c41 : t139 = true
                · subst c41
                  have H1 : (if t143 = true then (if t145 = true then ((path_Within.f kj18 a0 (⟨#[47]⟩ : ByteArray)).bind fun bt153 => (if t148 = 0 then (if bt153.2 = 0 then (some bt153.1) else (some false)) else (if bt153.2 = 0 then (some false) else (if bt153.1 = true then (some false) else (some true))))) else (some false)) else ((path_Within.f kj18 a0 (⟨#[47]⟩ : ByteArray)).bind fun bt155 => (if t148 = 0 then (if bt155.2 = 0 then (some bt155.1) else (some false)) else (if bt155.2 = 0 then (some false) else (if bt155.1 = true then (some false) else (some true)))))) = some r := by rw [if_pos rfl] at H; exact H
                  clear H
                  have H := H1
                  clear H1
                  by_cases c42 : t143 = true
                  · subst c42
                    have H1 : (if t145 = true then ((path_Within.f kj18 a0 (⟨#[47]⟩ : ByteArray)).bind fun bt153 => (if t148 = 0 then (if bt153.2 = 0 then (some bt153.1) else (some false)) else (if bt153.2 = 0 then (some false) else (if bt153.1 = true then (some false) else (some true))))) else (some false)) = some r := by rw [if_pos rfl] at H; exact H
                    clear H
                    have H := H1
                    clear H1
                    by_cases c43 : t145 = true
                    · subst c43
                      have H1 : ((path_Within.f kj18 a0 (⟨#[47]⟩ : ByteArray)).bind fun bt153 => (if t148 = 0 then (if bt153.2 = 0 then (some bt153.1) else (some false)) else (if bt153.2 = 0 then (some false) else (if bt153.1 = true then (some false) else (some true))))) = some r := by rw [if_pos rfl] at H; exact H
                      clear H
                      have H := H1
                      clear H1
                      replace H := Option.bind_eq_some_iff.mp H
                      obtain ⟨⟨t153, t154⟩, A440, H⟩ := H
                      replace H : (if t148 = 0 then (if t154 = 0 then (some t153) else (some false)) else (if t154 = 0 then (some false) else (if t153 = true then (some false) else (some true)))) = some r := H
                      have A44 := Aside0.mk A440
                      clear A440
                      by_cases c45 : t148 = 0
                      · rw [if_pos c45] at H
                        have c45b0 : (t148 == 0) = true := beq_iff_eq.mpr c45
                        have c45b1 : (t148 != 0) = false := bne_eq_false_iff_eq.mpr c45
                        clear c45
                        by_cases c46 : t154 = 0
                        · rw [if_pos c46] at H
                          have c46b0 : (t154 == 0) = true := beq_iff_eq.mpr c46
                          have c46b1 : (t154 != 0) = false := bne_eq_false_iff_eq.mpr c46
                          clear c46
                          obtain rfl := Option.some.inj H
                          go_wp2_with (first | ((with_reducible refine gate_callee (f := 14) rfl ?_); refine goesL_ (some 131) rfl rfl Tryd.func14 (by kernel_rfl) rfl #[.string a0, .string (⟨#[47]⟩ : ByteArray)] rfl (by (try simp only [List.map_toArray, List.map_cons, List.map_nil]); first | done | rfl | (simp only [List.length_drop, List.length_take]; rfl)) ?_; (with_reducible refine (path_Within.calls kj18 a0 (⟨#[47]⟩ : ByteArray) t153 t154 _ A44.out).mono ?_); rintro e w47 ⟨rfl, hb⟩; refine ⟨_, rfl, ?_⟩; have n0_ := Aside0.mk (below_step (by repeat (first | (with_reducible first | exact HB.out | apply below_alloc | apply pw_below_drewN | apply below_drew1) | exact HB.out)) hb); clear HB; have HB := n0_; clear n0_; (try clear hb); (try clear hb2); (try clear hk); (try clear hi)))
                          go_ret
                          exact ⟨by first | rfl | (simp [errW_none, errW_some] <;> rfl) | (simp [*, errW_none, errW_some] <;> rfl), by repeat (first | (with_reducible first | exact HB.out | apply below_alloc | apply pw_below_drewN | apply below_drew1) | exact HB.out)⟩
                        · rw [if_neg c46] at H
                          have c46b0 : (t154 == 0) = false := beq_eq_false_iff_ne.mpr c46
                          have c46b1 : (t154 != 0) = true := bne_iff_ne.mpr c46
                          obtain rfl := Option.some.inj H
                          go_wp2_with (first | ((with_reducible refine gate_callee (f := 14) rfl ?_); refine goesL_ (some 131) rfl rfl Tryd.func14 (by kernel_rfl) rfl #[.string a0, .string (⟨#[47]⟩ : ByteArray)] rfl (by (try simp only [List.map_toArray, List.map_cons, List.map_nil]); first | done | rfl | (simp only [List.length_drop, List.length_take]; rfl)) ?_; (with_reducible refine (path_Within.calls kj18 a0 (⟨#[47]⟩ : ByteArray) t153 t154 _ A44.out).mono ?_); rintro e w48 ⟨rfl, hb⟩; refine ⟨_, rfl, ?_⟩; have n0_ := Aside0.mk (below_step (by repeat (first | (with_reducible first | exact HB.out | apply below_alloc | apply pw_below_drewN | apply below_drew1) | exact HB.out)) hb); clear HB; have HB := n0_; clear n0_; (try clear hb); (try clear hb2); (try clear hk); (try clear hi)))
                          go_ret
                          exact ⟨by first | rfl | (simp [errW_none, errW_some] <;> rfl) | (simp [*, errW_none, errW_some] <;> rfl), by repeat (first | (with_reducible first | exact HB.out | apply below_alloc | apply pw_below_drewN | apply below_drew1) | exact HB.out)⟩
                      · rw [if_neg c45] at H
                        have c45b0 : (t148 == 0) = false := beq_eq_false_iff_ne.mpr c45
                        have c45b1 : (t148 != 0) = true := bne_iff_ne.mpr c45
                        by_cases c49 : t154 = 0
                        · rw [if_pos c49] at H
                          have c49b0 : (t154 == 0) = true := beq_iff_eq.mpr c49
                          have c49b1 : (t154 != 0) = false := bne_eq_false_iff_eq.mpr c49
                          clear c49
                          obtain rfl := Option.some.inj H
                          go_wp2_with (first | ((with_reducible refine gate_callee (f := 14) rfl ?_); refine goesL_ (some 131) rfl rfl Tryd.func14 (by kernel_rfl) rfl #[.string a0, .string (⟨#[47]⟩ : ByteArray)] rfl (by (try simp only [List.map_toArray, List.map_cons, List.map_nil]); first | done | rfl | (simp only [List.length_drop, List.length_take]; rfl)) ?_; (with_reducible refine (path_Within.calls kj18 a0 (⟨#[47]⟩ : ByteArray) t153 t154 _ A44.out).mono ?_); rintro e w50 ⟨rfl, hb⟩; refine ⟨_, rfl, ?_⟩; have n0_ := Aside0.mk (below_step (by repeat (first | (with_reducible first | exact HB.out | apply below_alloc | apply pw_below_drewN | apply below_drew1) | exact HB.out)) hb); clear HB; have HB := n0_; clear n0_; (try clear hb); (try clear hb2); (try clear hk); (try clear hi)))
                          go_ret
                          exact ⟨by first | rfl | (simp [errW_none, errW_some] <;> rfl) | (simp [*, errW_none, errW_some] <;> rfl), by repeat (first | (with_reducible first | exact HB.out | apply below_alloc | apply pw_below_drewN | apply below_drew1) | exact HB.out)⟩
                        · rw [if_neg c49] at H
                          have c49b0 : (t154 == 0) = false := beq_eq_false_iff_ne.mpr c49
                          have c49b1 : (t154 != 0) = true := bne_iff_ne.mpr c49
                          by_cases c51 : t153 = true
                          · subst c51
                            have H1 : (some false) = some r := by rw [if_pos rfl] at H; exact H
                            clear H
                            have H := H1
                            clear H1
                            obtain rfl := Option.some.inj H
                            go_wp2_with (first | ((with_reducible refine gate_callee (f := 14) rfl ?_); refine goesL_ (some 131) rfl rfl Tryd.func14 (by kernel_rfl) rfl #[.string a0, .string (⟨#[47]⟩ : ByteArray)] rfl (by (try simp only [List.map_toArray, List.map_cons, List.map_nil]); first | done | rfl | (simp only [List.length_drop, List.length_take]; rfl)) ?_; (with_reducible refine (path_Within.calls kj18 a0 (⟨#[47]⟩ : ByteArray) true t154 _ A44.out).mono ?_); rintro e w52 ⟨rfl, hb⟩; refine ⟨_, rfl, ?_⟩; have n0_ := Aside0.mk (below_step (by repeat (first | (with_reducible first | exact HB.out | apply below_alloc | apply pw_below_drewN | apply below_drew1) | exact HB.out)) hb); clear HB; have HB := n0_; clear n0_; (try clear hb); (try clear hb2); (try clear hk); (try clear hi)))
                            go_ret
                            exact ⟨by first | rfl | (simp [errW_none, errW_some] <;> rfl) | (simp [*, errW_none, errW_some] <;> rfl), by repeat (first | (with_reducible first | exact HB.out | apply below_alloc | apply pw_below_drewN | apply below_drew1) | exact HB.out)⟩
                          · replace c51 := Bool.eq_false_iff.mpr c51
                            subst c51
                            have H1 : (some true) = some r := by rw [if_neg (show ¬ (false = true) by decide)] at H; exact H
                            clear H
                            have H := H1
                            clear H1
                            obtain rfl := Option.some.inj H
                            go_wp2_with (first | ((with_reducible refine gate_callee (f := 14) rfl ?_); refine goesL_ (some 131) rfl rfl Tryd.func14 (by kernel_rfl) rfl #[.string a0, .string (⟨#[47]⟩ : ByteArray)] rfl (by (try simp only [List.map_toArray, List.map_cons, List.map_nil]); first | done | rfl | (simp only [List.length_drop, List.length_take]; rfl)) ?_; (with_reducible refine (path_Within.calls kj18 a0 (⟨#[47]⟩ : ByteArray) false t154 _ A44.out).mono ?_); rintro e w53 ⟨rfl, hb⟩; refine ⟨_, rfl, ?_⟩; have n0_ := Aside0.mk (below_step (by repeat (first | (with_reducible first | exact HB.out | apply below_alloc | apply pw_below_drewN | apply below_drew1) | exact HB.out)) hb); clear HB; have HB := n0_; clear n0_; (try clear hb); (try clear hb2); (try clear hk); (try clear hi)))
                            go_ret
                            exact ⟨by first | rfl | (simp [errW_none, errW_some] <;> rfl) | (simp [*, errW_none, errW_some] <;> rfl), by repeat (first | (with_reducible first | exact HB.out | apply below_alloc | apply pw_below_drewN | apply below_drew1) | exact HB.out)⟩
                    · replace c43 := Bool.eq_false_iff.mpr c43
                      subst c43
                      have H1 : (some false) = some r := by rw [if_neg (show ¬ (false = true) by decide)] at H; exact H
                      clear H
                      have H := H1
                      clear H1
                      obtain rfl := Option.some.inj H
                      go_wp2
                      go_ret
                      exact ⟨by first | rfl | (simp [errW_none, errW_some] <;> rfl) | (simp [*, errW_none, errW_some] <;> rfl), by repeat (first | (with_reducible first | exact HB.out | apply below_alloc | apply pw_below_drewN | apply below_drew1) | exact HB.out)⟩
                  · replace c42 := Bool.eq_false_iff.mpr c42
                    subst c42
                    have H1 : ((path_Within.f kj18 a0 (⟨#[47]⟩ : ByteArray)).bind fun bt155 => (if t148 = 0 then (if bt155.2 = 0 then (some bt155.1) else (some false)) else (if bt155.2 = 0 then (some false) else (if bt155.1 = true then (some false) else (some true))))) = some r := by rw [if_neg (show ¬ (false = true) by decide)] at H; exact H
                    clear H
                    have H := H1
                    clear H1
                    replace H := Option.bind_eq_some_iff.mp H
                    obtain ⟨⟨t155, t156⟩, A540, H⟩ := H
                    replace H : (if t148 = 0 then (if t156 = 0 then (some t155) else (some false)) else (if t156 = 0 then (some false) else (if t155 = true then (some false) else (some true)))) = some r := H
                    have A54 := Aside0.mk A540
                    clear A540
                    by_cases c55 : t148 = 0
                    · rw [if_pos c55] at H
                      have c55b0 : (t148 == 0) = true := beq_iff_eq.mpr c55
                      have c55b1 : (t148 != 0) = false := bne_eq_false_iff_eq.mpr c55
                      clear c55
                      by_cases c56 : t156 = 0
                      · rw [if_pos c56] at H
                        have c56b0 : (t156 == 0) = true := beq_iff_eq.mpr c56
                        have c56b1 : (t156 != 0) = false := bne_eq_false_iff_eq.mpr c56
                        clear c56
                        obtain rfl := Option.some.inj H
                        go_wp2_with (first | ((with_reducible refine gate_callee (f := 14) rfl ?_); refine goesL_ (some 131) rfl rfl Tryd.func14 (by kernel_rfl) rfl #[.string a0, .string (⟨#[47]⟩ : ByteArray)] rfl (by (try simp only [List.map_toArray, List.map_cons, List.map_nil]); first | done | rfl | (simp only [List.length_drop, List.length_take]; rfl)) ?_; (with_reducible refine (path_Within.calls kj18 a0 (⟨#[47]⟩ : ByteArray) t155 t156 _ A54.out).mono ?_); rintro e w57 ⟨rfl, hb⟩; refine ⟨_, rfl, ?_⟩; have n0_ := Aside0.mk (below_step (by repeat (first | (with_reducible first | exact HB.out | apply below_alloc | apply pw_below_drewN | apply below_drew1) | exact HB.out)) hb); clear HB; have HB := n0_; clear n0_; (try clear hb); (try clear hb2); (try clear hk); (try clear hi)))
                        go_ret
                        exact ⟨by first | rfl | (simp [errW_none, errW_some] <;> rfl) | (simp [*, errW_none, errW_some] <;> rfl), by repeat (first | (with_reducible first | exact HB.out | apply below_alloc | apply pw_below_drewN | apply below_drew1) | exact HB.out)⟩
                      · rw [if_neg c56] at H
                        have c56b0 : (t156 == 0) = false := beq_eq_false_iff_ne.mpr c56
                        have c56b1 : (t156 != 0) = true := bne_iff_ne.mpr c56
                        obtain rfl := Option.some.inj H
                        go_wp2_with (first | ((with_reducible refine gate_callee (f := 14) rfl ?_); refine goesL_ (some 131) rfl rfl Tryd.func14 (by kernel_rfl) rfl #[.string a0, .string (⟨#[47]⟩ : ByteArray)] rfl (by (try simp only [List.map_toArray, List.map_cons, List.map_nil]); first | done | rfl | (simp only [List.length_drop, List.length_take]; rfl)) ?_; (with_reducible refine (path_Within.calls kj18 a0 (⟨#[47]⟩ : ByteArray) t155 t156 _ A54.out).mono ?_); rintro e w58 ⟨rfl, hb⟩; refine ⟨_, rfl, ?_⟩; have n0_ := Aside0.mk (below_step (by repeat (first | (with_reducible first | exact HB.out | apply below_alloc | apply pw_below_drewN | apply below_drew1) | exact HB.out)) hb); clear HB; have HB := n0_; clear n0_; (try clear hb); (try clear hb2); (try clear hk); (try clear hi)))
                        go_ret
                        exact ⟨by first | rfl | (simp [errW_none, errW_some] <;> rfl) | (simp [*, errW_none, errW_some] <;> rfl), by repeat (first | (with_reducible first | exact HB.out | apply below_alloc | apply pw_below_drewN | apply below_drew1) | exact HB.out)⟩
                    · rw [if_neg c55] at H
                      have c55b0 : (t148 == 0) = false := beq_eq_false_iff_ne.mpr c55
                      have c55b1 : (t148 != 0) = true := bne_iff_ne.mpr c55
                      by_cases c59 : t156 = 0
                      · rw [if_pos c59] at H
                        have c59b0 : (t156 == 0) = true := beq_iff_eq.mpr c59
                        have c59b1 : (t156 != 0) = false := bne_eq_false_iff_eq.mpr c59
                        clear c59
                        obtain rfl := Option.some.inj H
                        go_wp2_with (first | ((with_reducible refine gate_callee (f := 14) rfl ?_); refine goesL_ (some 131) rfl rfl Tryd.func14 (by kernel_rfl) rfl #[.string a0, .string (⟨#[47]⟩ : ByteArray)] rfl (by (try simp only [List.map_toArray, List.map_cons, List.map_nil]); first | done | rfl | (simp only [List.length_drop, List.length_take]; rfl)) ?_; (with_reducible refine (path_Within.calls kj18 a0 (⟨#[47]⟩ : ByteArray) t155 t156 _ A54.out).mono ?_); rintro e w60 ⟨rfl, hb⟩; refine ⟨_, rfl, ?_⟩; have n0_ := Aside0.mk (below_step (by repeat (first | (with_reducible first | exact HB.out | apply below_alloc | apply pw_below_drewN | apply below_drew1) | exact HB.out)) hb); clear HB; have HB := n0_; clear n0_; (try clear hb); (try clear hb2); (try clear hk); (try clear hi)))
                        go_ret
                        exact ⟨by first | rfl | (simp [errW_none, errW_some] <;> rfl) | (simp [*, errW_none, errW_some] <;> rfl), by repeat (first | (with_reducible first | exact HB.out | apply below_alloc | apply pw_below_drewN | apply below_drew1) | exact HB.out)⟩
                      · rw [if_neg c59] at H
                        have c59b0 : (t156 == 0) = false := beq_eq_false_iff_ne.mpr c59
                        have c59b1 : (t156 != 0) = true := bne_iff_ne.mpr c59
                        by_cases c61 : t155 = true
                        · subst c61
                          have H1 : (some false) = some r := by rw [if_pos rfl] at H; exact H
                          clear H
                          have H := H1
                          clear H1
                          obtain rfl := Option.some.inj H
                          go_wp2_with (first | ((with_reducible refine gate_callee (f := 14) rfl ?_); refine goesL_ (some 131) rfl rfl Tryd.func14 (by kernel_rfl) rfl #[.string a0, .string (⟨#[47]⟩ : ByteArray)] rfl (by (try simp only [List.map_toArray, List.map_cons, List.map_nil]); first | done | rfl | (simp only [List.length_drop, List.length_take]; rfl)) ?_; (with_reducible refine (path_Within.calls kj18 a0 (⟨#[47]⟩ : ByteArray) true t156 _ A54.out).mono ?_); rintro e w62 ⟨rfl, hb⟩; refine ⟨_, rfl, ?_⟩; have n0_ := Aside0.mk (below_step (by repeat (first | (with_reducible first | exact HB.out | apply below_alloc | apply pw_below_drewN | apply below_drew1) | exact HB.out)) hb); clear HB; have HB := n0_; clear n0_; (try clear hb); (try clear hb2); (try clear hk); (try clear hi)))
                          go_ret
                          exact ⟨by first | rfl | (simp [errW_none, errW_some] <;> rfl) | (simp [*, errW_none, errW_some] <;> rfl), by repeat (first | (with_reducible first | exact HB.out | apply below_alloc | apply pw_below_drewN | apply below_drew1) | exact HB.out)⟩
                        · replace c61 := Bool.eq_false_iff.mpr c61
                          subst c61
                          have H1 : (some true) = some r := by rw [if_neg (show ¬ (false = true) by decide)] at H; exact H
                          clear H
                          have H := H1
                          clear H1
                          obtain rfl := Option.some.inj H
                          go_wp2_with (first | ((with_reducible refine gate_callee (f := 14) rfl ?_); refine goesL_ (some 131) rfl rfl Tryd.func14 (by kernel_rfl) rfl #[.string a0, .string (⟨#[47]⟩ : ByteArray)] rfl (by (try simp only [List.map_toArray, List.map_cons, List.map_nil]); first | done | rfl | (simp only [List.length_drop, List.length_take]; rfl)) ?_; (with_reducible refine (path_Within.calls kj18 a0 (⟨#[47]⟩ : ByteArray) false t156 _ A54.out).mono ?_); rintro e w63 ⟨rfl, hb⟩; refine ⟨_, rfl, ?_⟩; have n0_ := Aside0.mk (below_step (by repeat (first | (with_reducible first | exact HB.out | apply below_alloc | apply pw_below_drewN | apply below_drew1) | exact HB.out)) hb); clear HB; have HB := n0_; clear n0_; (try clear hb); (try clear hb2); (try clear hk); (try clear hi)))
                          go_ret
                          exact ⟨by first | rfl | (simp [errW_none, errW_some] <;> rfl) | (simp [*, errW_none, errW_some] <;> rfl), by repeat (first | (with_reducible first | exact HB.out | apply below_alloc | apply pw_below_drewN | apply below_drew1) | exact HB.out)⟩
                · replace c41 := Bool.eq_false_iff.mpr c41
                  subst c41
                  have H1 : ((path_Within.f kj18 a0 (⟨#[47]⟩ : ByteArray)).bind fun bt157 => (if t148 = 0 then (if bt157.2 = 0 then (some bt157.1) else (some false)) else (if bt157.2 = 0 then (some false) else (if bt157.1 = true then (some false) else (some true))))) = some r := by rw [if_neg (show ¬ (false = true) by decide)] at H; exact H
                  clear H
                  have H := H1
                  clear H1
                  replace H := Option.bind_eq_some_iff.mp H
                  obtain ⟨⟨t157, t158⟩, A640, H⟩ := H
                  replace H : (if t148 = 0 then (if t158 = 0 then (some t157) else (some false)) else (if t158 = 0 then (some false) else (if t157 = true then (some false) else (some true)))) = some r := H
                  have A64 := Aside0.mk A640
                  clear A640
                  by_cases c65 : t148 = 0
                  · rw [if_pos c65] at H
                    have c65b0 : (t148 == 0) = true := beq_iff_eq.mpr c65
                    have c65b1 : (t148 != 0) = false := bne_eq_false_iff_eq.mpr c65
                    clear c65
                    by_cases c66 : t158 = 0
                    · rw [if_pos c66] at H
                      have c66b0 : (t158 == 0) = true := beq_iff_eq.mpr c66
                      have c66b1 : (t158 != 0) = false := bne_eq_false_iff_eq.mpr c66
                      clear c66
                      obtain rfl := Option.some.inj H
                      go_wp2_with (first | ((with_reducible refine gate_callee (f := 14) rfl ?_); refine goesL_ (some 131) rfl rfl Tryd.func14 (by kernel_rfl) rfl #[.string a0, .string (⟨#[47]⟩ : ByteArray)] rfl (by (try simp only [List.map_toArray, List.map_cons, List.map_nil]); first | done | rfl | (simp only [List.length_drop, List.length_take]; rfl)) ?_; (with_reducible refine (path_Within.calls kj18 a0 (⟨#[47]⟩ : ByteArray) t157 t158 _ A64.out).mono ?_); rintro e w67 ⟨rfl, hb⟩; refine ⟨_, rfl, ?_⟩; have n0_ := Aside0.mk (below_step (by repeat (first | (with_reducible first | exact HB.out | apply below_alloc | apply pw_below_drewN | apply below_drew1) | exact HB.out)) hb); clear HB; have HB := n0_; clear n0_; (try clear hb); (try clear hb2); (try clear hk); (try clear hi)))
                      go_ret
                      exact ⟨by first | rfl | (simp [errW_none, errW_some] <;> rfl) | (simp [*, errW_none, errW_some] <;> rfl), by repeat (first | (with_reducible first | exact HB.out | apply below_alloc | apply pw_below_drewN | apply below_drew1) | exact HB.out)⟩
                    · rw [if_neg c66] at H
                      have c66b0 : (t158 == 0) = false := beq_eq_false_iff_ne.mpr c66
                      have c66b1 : (t158 != 0) = true := bne_iff_ne.mpr c66
                      obtain rfl := Option.some.inj H
                      go_wp2_with (first | ((with_reducible refine gate_callee (f := 14) rfl ?_); refine goesL_ (some 131) rfl rfl Tryd.func14 (by kernel_rfl) rfl #[.string a0, .string (⟨#[47]⟩ : ByteArray)] rfl (by (try simp only [List.map_toArray, List.map_cons, List.map_nil]); first | done | rfl | (simp only [List.length_drop, List.length_take]; rfl)) ?_; (with_reducible refine (path_Within.calls kj18 a0 (⟨#[47]⟩ : ByteArray) t157 t158 _ A64.out).mono ?_); rintro e w68 ⟨rfl, hb⟩; refine ⟨_, rfl, ?_⟩; have n0_ := Aside0.mk (below_step (by repeat (first | (with_reducible first | exact HB.out | apply below_alloc | apply pw_below_drewN | apply below_drew1) | exact HB.out)) hb); clear HB; have HB := n0_; clear n0_; (try clear hb); (try clear hb2); (try clear hk); (try clear hi)))
                      go_ret
                      exact ⟨by first | rfl | (simp [errW_none, errW_some] <;> rfl) | (simp [*, errW_none, errW_some] <;> rfl), by repeat (first | (with_reducible first | exact HB.out | apply below_alloc | apply pw_below_drewN | apply below_drew1) | exact HB.out)⟩
                  · rw [if_neg c65] at H
                    have c65b0 : (t148 == 0) = false := beq_eq_false_iff_ne.mpr c65
                    have c65b1 : (t148 != 0) = true := bne_iff_ne.mpr c65
                    by_cases c69 : t158 = 0
                    · rw [if_pos c69] at H
                      have c69b0 : (t158 == 0) = true := beq_iff_eq.mpr c69
                      have c69b1 : (t158 != 0) = false := bne_eq_false_iff_eq.mpr c69
                      clear c69
                      obtain rfl := Option.some.inj H
                      go_wp2_with (first | ((with_reducible refine gate_callee (f := 14) rfl ?_); refine goesL_ (some 131) rfl rfl Tryd.func14 (by kernel_rfl) rfl #[.string a0, .string (⟨#[47]⟩ : ByteArray)] rfl (by (try simp only [List.map_toArray, List.map_cons, List.map_nil]); first | done | rfl | (simp only [List.length_drop, List.length_take]; rfl)) ?_; (with_reducible refine (path_Within.calls kj18 a0 (⟨#[47]⟩ : ByteArray) t157 t158 _ A64.out).mono ?_); rintro e w70 ⟨rfl, hb⟩; refine ⟨_, rfl, ?_⟩; have n0_ := Aside0.mk (below_step (by repeat (first | (with_reducible first | exact HB.out | apply below_alloc | apply pw_below_drewN | apply below_drew1) | exact HB.out)) hb); clear HB; have HB := n0_; clear n0_; (try clear hb); (try clear hb2); (try clear hk); (try clear hi)))
                      go_ret
                      exact ⟨by first | rfl | (simp [errW_none, errW_some] <;> rfl) | (simp [*, errW_none, errW_some] <;> rfl), by repeat (first | (with_reducible first | exact HB.out | apply below_alloc | apply pw_below_drewN | apply below_drew1) | exact HB.out)⟩
                    · rw [if_neg c69] at H
                      have c69b0 : (t158 == 0) = false := beq_eq_false_iff_ne.mpr c69
                      have c69b1 : (t158 != 0) = true := bne_iff_ne.mpr c69
                      by_cases c71 : t157 = true
                      · subst c71
                        have H1 : (some false) = some r := by rw [if_pos rfl] at H; exact H
                        clear H
                        have H := H1
                        clear H1
                        obtain rfl := Option.some.inj H
                        go_wp2_with (first | ((with_reducible refine gate_callee (f := 14) rfl ?_); refine goesL_ (some 131) rfl rfl Tryd.func14 (by kernel_rfl) rfl #[.string a0, .string (⟨#[47]⟩ : ByteArray)] rfl (by (try simp only [List.map_toArray, List.map_cons, List.map_nil]); first | done | rfl | (simp only [List.length_drop, List.length_take]; rfl)) ?_; (with_reducible refine (path_Within.calls kj18 a0 (⟨#[47]⟩ : ByteArray) true t158 _ A64.out).mono ?_); rintro e w72 ⟨rfl, hb⟩; refine ⟨_, rfl, ?_⟩; have n0_ := Aside0.mk (below_step (by repeat (first | (with_reducible first | exact HB.out | apply below_alloc | apply pw_below_drewN | apply below_drew1) | exact HB.out)) hb); clear HB; have HB := n0_; clear n0_; (try clear hb); (try clear hb2); (try clear hk); (try clear hi)))
                        go_ret
                        exact ⟨by first | rfl | (simp [errW_none, errW_some] <;> rfl) | (simp [*, errW_none, errW_some] <;> rfl), by repeat (first | (with_reducible first | exact HB.out | apply below_alloc | apply pw_below_drewN | apply below_drew1) | exact HB.out)⟩
                      · replace c71 := Bool.eq_false_iff.mpr c71
                        subst c71
                        have H1 : (some true) = some r := by rw [if_neg (show ¬ (false = true) by decide)] at H; exact H
                        clear H
                        have H := H1
                        clear H1
                        obtain rfl := Option.some.inj H
                        go_wp2_with (first | ((with_reducible refine gate_callee (f := 14) rfl ?_); refine goesL_ (some 131) rfl rfl Tryd.func14 (by kernel_rfl) rfl #[.string a0, .string (⟨#[47]⟩ : ByteArray)] rfl (by (try simp only [List.map_toArray, List.map_cons, List.map_nil]); first | done | rfl | (simp only [List.length_drop, List.length_take]; rfl)) ?_; (with_reducible refine (path_Within.calls kj18 a0 (⟨#[47]⟩ : ByteArray) false t158 _ A64.out).mono ?_); rintro e w73 ⟨rfl, hb⟩; refine ⟨_, rfl, ?_⟩; have n0_ := Aside0.mk (below_step (by repeat (first | (with_reducible first | exact HB.out | apply below_alloc | apply pw_below_drewN | apply below_drew1) | exact HB.out)) hb); clear HB; have HB := n0_; clear n0_; (try clear hb); (try clear hb2); (try clear hk); (try clear hi)))
                        go_ret
                        exact ⟨by first | rfl | (simp [errW_none, errW_some] <;> rfl) | (simp [*, errW_none, errW_some] <;> rfl), by repeat (first | (with_reducible first | exact HB.out | apply below_alloc | apply pw_below_drewN | apply below_drew1) | exact HB.out)⟩
              · rw [if_neg c40] at H
                have c40b0 : (t146 == 0) = false := beq_eq_false_iff_ne.mpr c40
                have c40b1 : (t146 != 0) = true := bne_iff_ne.mpr c40
                obtain rfl := Option.some.inj H
                go_wp2
                go_ret
                exact ⟨by first | rfl | (simp [errW_none, errW_some] <;> rfl) | (simp [*, errW_none, errW_some] <;> rfl), by repeat (first | (with_reducible first | exact HB.out | apply below_alloc | apply pw_below_drewN | apply below_drew1) | exact HB.out)⟩
            · rw [if_neg c39] at H
              have c39b0 : (t144 == 0) = false := beq_eq_false_iff_ne.mpr c39
              have c39b1 : (t144 != 0) = true := bne_iff_ne.mpr c39
              replace H := Option.bind_eq_some_iff.mp H
              obtain ⟨⟨t159, t160⟩, A740, H⟩ := H
              replace H : (if t148 = 0 then (if t160 = 0 then (some t159) else (some false)) else (if t160 = 0 then (some false) else (if t159 = true then (some false) else (some true)))) = some r := H
              have A74 := Aside0.mk A740
              clear A740
              by_cases c75 : t148 = 0
              · rw [if_pos c75] at H
                have c75b0 : (t148 == 0) = true := beq_iff_eq.mpr c75
                have c75b1 : (t148 != 0) = false := bne_eq_false_iff_eq.mpr c75
                clear c75
                by_cases c76 : t160 = 0
                · rw [if_pos c76] at H
                  have c76b0 : (t160 == 0) = true := beq_iff_eq.mpr c76
                  have c76b1 : (t160 != 0) = false := bne_eq_false_iff_eq.mpr c76
                  clear c76
                  obtain rfl := Option.some.inj H
                  go_wp2_with (first | ((with_reducible refine gate_callee (f := 14) rfl ?_); refine goesL_ (some 131) rfl rfl Tryd.func14 (by kernel_rfl) rfl #[.string a0, .string (⟨#[47]⟩ : ByteArray)] rfl (by (try simp only [List.map_toArray, List.map_cons, List.map_nil]); first | done | rfl | (simp only [List.length_drop, List.length_take]; rfl)) ?_; (with_reducible refine (path_Within.calls kj18 a0 (⟨#[47]⟩ : ByteArray) t159 t160 _ A74.out).mono ?_); rintro e w77 ⟨rfl, hb⟩; refine ⟨_, rfl, ?_⟩; have n0_ := Aside0.mk (below_step (by repeat (first | (with_reducible first | exact HB.out | apply below_alloc | apply pw_below_drewN | apply below_drew1) | exact HB.out)) hb); clear HB; have HB := n0_; clear n0_; (try clear hb); (try clear hb2); (try clear hk); (try clear hi)))
                  go_ret
                  exact ⟨by first | rfl | (simp [errW_none, errW_some] <;> rfl) | (simp [*, errW_none, errW_some] <;> rfl), by repeat (first | (with_reducible first | exact HB.out | apply below_alloc | apply pw_below_drewN | apply below_drew1) | exact HB.out)⟩
                · rw [if_neg c76] at H
                  have c76b0 : (t160 == 0) = false := beq_eq_false_iff_ne.mpr c76
                  have c76b1 : (t160 != 0) = true := bne_iff_ne.mpr c76
                  obtain rfl := Option.some.inj H
                  go_wp2_with (first | ((with_reducible refine gate_callee (f := 14) rfl ?_); refine goesL_ (some 131) rfl rfl Tryd.func14 (by kernel_rfl) rfl #[.string a0, .string (⟨#[47]⟩ : ByteArray)] rfl (by (try simp only [List.map_toArray, List.map_cons, List.map_nil]); first | done | rfl | (simp only [List.length_drop, List.length_take]; rfl)) ?_; (with_reducible refine (path_Within.calls kj18 a0 (⟨#[47]⟩ : ByteArray) t159 t160 _ A74.out).mono ?_); rintro e w78 ⟨rfl, hb⟩; refine ⟨_, rfl, ?_⟩; have n0_ := Aside0.mk (below_step (by repeat (first | (with_reducible first | exact HB.out | apply below_alloc | apply pw_below_drewN | apply below_drew1) | exact HB.out)) hb); clear HB; have HB := n0_; clear n0_; (try clear hb); (try clear hb2); (try clear hk); (try clear hi)))
                  go_ret
                  exact ⟨by first | rfl | (simp [errW_none, errW_some] <;> rfl) | (simp [*, errW_none, errW_some] <;> rfl), by repeat (first | (with_reducible first | exact HB.out | apply below_alloc | apply pw_below_drewN | apply below_drew1) | exact HB.out)⟩
              · rw [if_neg c75] at H
                have c75b0 : (t148 == 0) = false := beq_eq_false_iff_ne.mpr c75
                have c75b1 : (t148 != 0) = true := bne_iff_ne.mpr c75
                by_cases c79 : t160 = 0
                · rw [if_pos c79] at H
                  have c79b0 : (t160 == 0) = true := beq_iff_eq.mpr c79
                  have c79b1 : (t160 != 0) = false := bne_eq_false_iff_eq.mpr c79
                  clear c79
                  obtain rfl := Option.some.inj H
                  go_wp2_with (first | ((with_reducible refine gate_callee (f := 14) rfl ?_); refine goesL_ (some 131) rfl rfl Tryd.func14 (by kernel_rfl) rfl #[.string a0, .string (⟨#[47]⟩ : ByteArray)] rfl (by (try simp only [List.map_toArray, List.map_cons, List.map_nil]); first | done | rfl | (simp only [List.length_drop, List.length_take]; rfl)) ?_; (with_reducible refine (path_Within.calls kj18 a0 (⟨#[47]⟩ : ByteArray) t159 t160 _ A74.out).mono ?_); rintro e w80 ⟨rfl, hb⟩; refine ⟨_, rfl, ?_⟩; have n0_ := Aside0.mk (below_step (by repeat (first | (with_reducible first | exact HB.out | apply below_alloc | apply pw_below_drewN | apply below_drew1) | exact HB.out)) hb); clear HB; have HB := n0_; clear n0_; (try clear hb); (try clear hb2); (try clear hk); (try clear hi)))
                  go_ret
                  exact ⟨by first | rfl | (simp [errW_none, errW_some] <;> rfl) | (simp [*, errW_none, errW_some] <;> rfl), by repeat (first | (with_reducible first | exact HB.out | apply below_alloc | apply pw_below_drewN | apply below_drew1) | exact HB.out)⟩
                · rw [if_neg c79] at H
                  have c79b0 : (t160 == 0) = false := beq_eq_false_iff_ne.mpr c79
                  have c79b1 : (t160 != 0) = true := bne_iff_ne.mpr c79
                  by_cases c81 : t159 = true
                  · subst c81
                    have H1 : (some false) = some r := by rw [if_pos rfl] at H; exact H
                    clear H
                    have H := H1
                    clear H1
                    obtain rfl := Option.some.inj H
                    go_wp2_with (first | ((with_reducible refine gate_callee (f := 14) rfl ?_); refine goesL_ (some 131) rfl rfl Tryd.func14 (by kernel_rfl) rfl #[.string a0, .string (⟨#[47]⟩ : ByteArray)] rfl (by (try simp only [List.map_toArray, List.map_cons, List.map_nil]); first | done | rfl | (simp only [List.length_drop, List.length_take]; rfl)) ?_; (with_reducible refine (path_Within.calls kj18 a0 (⟨#[47]⟩ : ByteArray) true t160 _ A74.out).mono ?_); rintro e w82 ⟨rfl, hb⟩; refine ⟨_, rfl, ?_⟩; have n0_ := Aside0.mk (below_step (by repeat (first | (with_reducible first | exact HB.out | apply below_alloc | apply pw_below_drewN | apply below_drew1) | exact HB.out)) hb); clear HB; have HB := n0_; clear n0_; (try clear hb); (try clear hb2); (try clear hk); (try clear hi)))
                    go_ret
                    exact ⟨by first | rfl | (simp [errW_none, errW_some] <;> rfl) | (simp [*, errW_none, errW_some] <;> rfl), by repeat (first | (with_reducible first | exact HB.out | apply below_alloc | apply pw_below_drewN | apply below_drew1) | exact HB.out)⟩
                  · replace c81 := Bool.eq_false_iff.mpr c81
                    subst c81
                    have H1 : (some true) = some r := by rw [if_neg (show ¬ (false = true) by decide)] at H; exact H
                    clear H
                    have H := H1
                    clear H1
                    obtain rfl := Option.some.inj H
                    go_wp2_with (first | ((with_reducible refine gate_callee (f := 14) rfl ?_); refine goesL_ (some 131) rfl rfl Tryd.func14 (by kernel_rfl) rfl #[.string a0, .string (⟨#[47]⟩ : ByteArray)] rfl (by (try simp only [List.map_toArray, List.map_cons, List.map_nil]); first | done | rfl | (simp only [List.length_drop, List.length_take]; rfl)) ?_; (with_reducible refine (path_Within.calls kj18 a0 (⟨#[47]⟩ : ByteArray) false t160 _ A74.out).mono ?_); rintro e w83 ⟨rfl, hb⟩; refine ⟨_, rfl, ?_⟩; have n0_ := Aside0.mk (below_step (by repeat (first | (with_reducible first | exact HB.out | apply below_alloc | apply pw_below_drewN | apply below_drew1) | exact HB.out)) hb); clear HB; have HB := n0_; clear n0_; (try clear hb); (try clear hb2); (try clear hk); (try clear hi)))
                    go_ret
                    exact ⟨by first | rfl | (simp [errW_none, errW_some] <;> rfl) | (simp [*, errW_none, errW_some] <;> rfl), by repeat (first | (with_reducible first | exact HB.out | apply below_alloc | apply pw_below_drewN | apply below_drew1) | exact HB.out)⟩
          · rw [if_neg c38] at H
            have c38b0 : (t140 == 0) = false := beq_eq_false_iff_ne.mpr c38
            have c38b1 : (t140 != 0) = true := bne_iff_ne.mpr c38
            replace H := Option.bind_eq_some_iff.mp H
            obtain ⟨⟨t161, t162⟩, A840, H⟩ := H
            replace H : (if t148 = 0 then (if t162 = 0 then (some t161) else (some false)) else (if t162 = 0 then (some false) else (if t161 = true then (some false) else (some true)))) = some r := H
            have A84 := Aside0.mk A840
            clear A840
            by_cases c85 : t148 = 0
            · rw [if_pos c85] at H
              have c85b0 : (t148 == 0) = true := beq_iff_eq.mpr c85
              have c85b1 : (t148 != 0) = false := bne_eq_false_iff_eq.mpr c85
              clear c85
              by_cases c86 : t162 = 0
              · rw [if_pos c86] at H
                have c86b0 : (t162 == 0) = true := beq_iff_eq.mpr c86
                have c86b1 : (t162 != 0) = false := bne_eq_false_iff_eq.mpr c86
                clear c86
                obtain rfl := Option.some.inj H
                go_wp2_with (first | ((with_reducible refine gate_callee (f := 14) rfl ?_); refine goesL_ (some 131) rfl rfl Tryd.func14 (by kernel_rfl) rfl #[.string a0, .string (⟨#[47]⟩ : ByteArray)] rfl (by (try simp only [List.map_toArray, List.map_cons, List.map_nil]); first | done | rfl | (simp only [List.length_drop, List.length_take]; rfl)) ?_; (with_reducible refine (path_Within.calls kj18 a0 (⟨#[47]⟩ : ByteArray) t161 t162 _ A84.out).mono ?_); rintro e w87 ⟨rfl, hb⟩; refine ⟨_, rfl, ?_⟩; have n0_ := Aside0.mk (below_step (by repeat (first | (with_reducible first | exact HB.out | apply below_alloc | apply pw_below_drewN | apply below_drew1) | exact HB.out)) hb); clear HB; have HB := n0_; clear n0_; (try clear hb); (try clear hb2); (try clear hk); (try clear hi)))
                go_ret
                exact ⟨by first | rfl | (simp [errW_none, errW_some] <;> rfl) | (simp [*, errW_none, errW_some] <;> rfl), by repeat (first | (with_reducible first | exact HB.out | apply below_alloc | apply pw_below_drewN | apply below_drew1) | exact HB.out)⟩
              · rw [if_neg c86] at H
                have c86b0 : (t162 == 0) = false := beq_eq_false_iff_ne.mpr c86
                have c86b1 : (t162 != 0) = true := bne_iff_ne.mpr c86
                obtain rfl := Option.some.inj H
                go_wp2_with (first | ((with_reducible refine gate_callee (f := 14) rfl ?_); refine goesL_ (some 131) rfl rfl Tryd.func14 (by kernel_rfl) rfl #[.string a0, .string (⟨#[47]⟩ : ByteArray)] rfl (by (try simp only [List.map_toArray, List.map_cons, List.map_nil]); first | done | rfl | (simp only [List.length_drop, List.length_take]; rfl)) ?_; (with_reducible refine (path_Within.calls kj18 a0 (⟨#[47]⟩ : ByteArray) t161 t162 _ A84.out).mono ?_); rintro e w88 ⟨rfl, hb⟩; refine ⟨_, rfl, ?_⟩; have n0_ := Aside0.mk (below_step (by repeat (first | (with_reducible first | exact HB.out | apply below_alloc | apply pw_below_drewN | apply below_drew1) | exact HB.out)) hb); clear HB; have HB := n0_; clear n0_; (try clear hb); (try clear hb2); (try clear hk); (try clear hi)))
                go_ret
                exact ⟨by first | rfl | (simp [errW_none, errW_some] <;> rfl) | (simp [*, errW_none, errW_some] <;> rfl), by repeat (first | (with_reducible first | exact HB.out | apply below_alloc | apply pw_below_drewN | apply below_drew1) | exact HB.out)⟩
            · rw [if_neg c85] at H
              have c85b0 : (t148 == 0) = false := beq_eq_false_iff_ne.mpr c85
              have c85b1 : (t148 != 0) = true := bne_iff_ne.mpr c85
              by_cases c89 : t162 = 0
              · rw [if_pos c89] at H
                have c89b0 : (t162 == 0) = true := beq_iff_eq.mpr c89
                have c89b1 : (t162 != 0) = false := bne_eq_false_iff_eq.mpr c89
                clear c89
                obtain rfl := Option.some.inj H
                go_wp2_with (first | ((with_reducible refine gate_callee (f := 14) rfl ?_); refine goesL_ (some 131) rfl rfl Tryd.func14 (by kernel_rfl) rfl #[.string a0, .string (⟨#[47]⟩ : ByteArray)] rfl (by (try simp only [List.map_toArray, List.map_cons, List.map_nil]); first | done | rfl | (simp only [List.length_drop, List.length_take]; rfl)) ?_; (with_reducible refine (path_Within.calls kj18 a0 (⟨#[47]⟩ : ByteArray) t161 t162 _ A84.out).mono ?_); rintro e w90 ⟨rfl, hb⟩; refine ⟨_, rfl, ?_⟩; have n0_ := Aside0.mk (below_step (by repeat (first | (with_reducible first | exact HB.out | apply below_alloc | apply pw_below_drewN | apply below_drew1) | exact HB.out)) hb); clear HB; have HB := n0_; clear n0_; (try clear hb); (try clear hb2); (try clear hk); (try clear hi)))
                go_ret
                exact ⟨by first | rfl | (simp [errW_none, errW_some] <;> rfl) | (simp [*, errW_none, errW_some] <;> rfl), by repeat (first | (with_reducible first | exact HB.out | apply below_alloc | apply pw_below_drewN | apply below_drew1) | exact HB.out)⟩
              · rw [if_neg c89] at H
                have c89b0 : (t162 == 0) = false := beq_eq_false_iff_ne.mpr c89
                have c89b1 : (t162 != 0) = true := bne_iff_ne.mpr c89
                by_cases c91 : t161 = true
                · subst c91
                  have H1 : (some false) = some r := by rw [if_pos rfl] at H; exact H
                  clear H
                  have H := H1
                  clear H1
                  obtain rfl := Option.some.inj H
                  go_wp2_with (first | ((with_reducible refine gate_callee (f := 14) rfl ?_); refine goesL_ (some 131) rfl rfl Tryd.func14 (by kernel_rfl) rfl #[.string a0, .string (⟨#[47]⟩ : ByteArray)] rfl (by (try simp only [List.map_toArray, List.map_cons, List.map_nil]); first | done | rfl | (simp only [List.length_drop, List.length_take]; rfl)) ?_; (with_reducible refine (path_Within.calls kj18 a0 (⟨#[47]⟩ : ByteArray) true t162 _ A84.out).mono ?_); rintro e w92 ⟨rfl, hb⟩; refine ⟨_, rfl, ?_⟩; have n0_ := Aside0.mk (below_step (by repeat (first | (with_reducible first | exact HB.out | apply below_alloc | apply pw_below_drewN | apply below_drew1) | exact HB.out)) hb); clear HB; have HB := n0_; clear n0_; (try clear hb); (try clear hb2); (try clear hk); (try clear hi)))
                  go_ret
                  exact ⟨by first | rfl | (simp [errW_none, errW_some] <;> rfl) | (simp [*, errW_none, errW_some] <;> rfl), by repeat (first | (with_reducible first | exact HB.out | apply below_alloc | apply pw_below_drewN | apply below_drew1) | exact HB.out)⟩
                · replace c91 := Bool.eq_false_iff.mpr c91
                  subst c91
                  have H1 : (some true) = some r := by rw [if_neg (show ¬ (false = true) by decide)] at H; exact H
                  clear H
                  have H := H1
                  clear H1
                  obtain rfl := Option.some.inj H
                  go_wp2_with (first | ((with_reducible refine gate_callee (f := 14) rfl ?_); refine goesL_ (some 131) rfl rfl Tryd.func14 (by kernel_rfl) rfl #[.string a0, .string (⟨#[47]⟩ : ByteArray)] rfl (by (try simp only [List.map_toArray, List.map_cons, List.map_nil]); first | done | rfl | (simp only [List.length_drop, List.length_take]; rfl)) ?_; (with_reducible refine (path_Within.calls kj18 a0 (⟨#[47]⟩ : ByteArray) false t162 _ A84.out).mono ?_); rintro e w93 ⟨rfl, hb⟩; refine ⟨_, rfl, ?_⟩; have n0_ := Aside0.mk (below_step (by repeat (first | (with_reducible first | exact HB.out | apply below_alloc | apply pw_below_drewN | apply below_drew1) | exact HB.out)) hb); clear HB; have HB := n0_; clear n0_; (try clear hb); (try clear hb2); (try clear hk); (try clear hi)))
                  go_ret
                  exact ⟨by first | rfl | (simp [errW_none, errW_some] <;> rfl) | (simp [*, errW_none, errW_some] <;> rfl), by repeat (first | (with_reducible first | exact HB.out | apply below_alloc | apply pw_below_drewN | apply below_drew1) | exact HB.out)⟩

/-- THE ONE PURE STATEMENT of shalelaw16_PathOrder: yours. -/
def shalelaw16_PathOrder.Pure : Prop := ∀ (a0 : ByteArray) (a1 : ByteArray) (a2 : ByteArray), a0.size ≤ 140737488351232 → a1.size ≤ 140737488351232 → a2.size ≤ 140737488351232 → ∃ k, shalelaw16_PathOrder.f k a0 a1 a2 = some true
theorem shalelaw16_PathOrder.walk (P : shalelaw16_PathOrder.Pure) (a0 : ByteArray) (a1 : ByteArray) (a2 : ByteArray) (w : World) (w0 : a0.size ≤ 140737488351232) (w1 : a1.size ≤ 140737488351232) (w2 : a2.size ≤ 140737488351232) :
    Calls Tryd.prog 7 #[.string a0, .string a1, .string a2] w fun e w' => e = .returned (.bool true) ∧ Below w.heap.size w w' := by
  obtain ⟨k, h⟩ := P a0 a1 a2 w0 w1 w2
  refine (shalelaw16_PathOrder.calls k a0 a1 a2 true w h).mono ?_
  rintro e w' ⟨rfl, hd⟩
  exact ⟨rfl, hd⟩

end Go.Proofs.YtbinnghemkppdaaDoor.PHDPathOrder
