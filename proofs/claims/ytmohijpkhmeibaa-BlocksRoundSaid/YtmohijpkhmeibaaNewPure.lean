/- What blocks.New asks of a list, entry by entry. -/
import Derived.Test.YtmohijpkhmeibaaSound
import Derived.Maps.Views
import Derived.Maps.OwnSet
namespace Go.Proofs.Ytmohijpkhmeibaa
open Go.RowKit Go.Proofs Go.Proofs.YtmohijpkhmeibaaW.PrintWords
open PBlocksRound
set_option linter.unusedVariables false
set_option linter.unusedSimpArgs false

/-- The statement that asks whether an entry may be: its state, its place. -/
def badPlace (pages last : Int) (k : Nat) (x : S34) : Bool := !soundB pages x || ((x.f0 == 5) && (k : Int) != last) || ((k : Int) == last && vacB x.f0 && !(x.f0 == 5))
def headIn (pre : List S34) (h : Int) : Bool := pre.any fun y => y.f1 != 0 && y.f1 == h
/-- The open block so far: -1 if none. -/
def openIdx : Nat → List S34 → Int
  | _, [] => -1
  | k, x :: r => if x.f0 = 2 then (k : Int) else openIdx (k + 1) r
def entryOk (pages last : Int) (pre : List S34) (opn : Int) (x : S34) : Bool :=
  !badPlace pages last pre.length x && !((x.f0 == 2) && opn != -1) && !((x.f1 != 0) && headIn pre x.f1)
/-- All entries may be; what is open behind them. -/
def newFrom (pages last : Int) (pre : List S34) (opn : Int) : List S34 → Option Int
  | [] => some opn
  | x :: r => if entryOk pages last pre opn x then newFrom pages last (pre ++ [x]) (if x.f0 = 2 then (pre.length : Int) else opn) r else none
def blkOf (x : S34) : S71 := ⟨x, false⟩

/-- The map of the heads that came. -/
def Heads {H : Type} (D : DataW H) (pre : List S34) : Prop := Maps.IsMap D ∧ ∀ h : Int, Maps.has D (.int .u64 h) = headIn pre h
theorem Heads.nil {H : Type} : Heads (H := H) (.map []) [] := ⟨⟨_, rfl⟩, fun h => by
  unfold headIn
  rfl⟩
theorem Heads.skip {H : Type} {D : DataW H} {pre : List S34} {x : S34} (h : Heads D pre) (hx : x.f1 = 0) : Heads D (pre ++ [x]) := ⟨h.1, fun k => by
  rw [h.2 k]
  unfold headIn
  rw [List.any_append]
  simp [hx]⟩
theorem Heads.put {H : Type} {D d : DataW H} {pre : List S34} {x : S34} (h : Heads D pre) (hx : x.f1 ≠ 0) : Heads (D.put (.int .u64 x.f1) d) (pre ++ [x]) := by
  refine ⟨?_, fun k => ?_⟩
  · exact h.1.put _ _
  · unfold headIn
    rw [List.any_append]
    by_cases e : k = x.f1
    · subst e
      rw [Maps.has_put_same h.1 (show WideAt.IsKeyLit (.int .u64 x.f1) from trivial)]
      have e2 : (x.f1 != 0) = true := by rw [bne_iff_ne]; exact hx
      simp [e2]
    · rw [Maps.has_put_other (fun he => e (by injection he)), h.2 k]
      have e2 : (x.f1 == k) = false := by rw [beq_eq_false_iff_ne]; exact fun h => e h.symm
      unfold headIn
      simp [e2]
end Go.Proofs.Ytmohijpkhmeibaa
