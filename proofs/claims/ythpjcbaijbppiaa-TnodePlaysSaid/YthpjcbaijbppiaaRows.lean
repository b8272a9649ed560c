/-
  No cell of these rows narrows 'for every input' (looked for: loops, veiled, ifaces, maps, wideKeys, modest, calm, conditions, laid).
  DERIVED. THE GIVEN ROWS OF THIS SEAT. 6 by the template 'for every input the law returns true; each argument reads behind the call as it read before'; 0 by the template 'total and deterministic' (their statements: YthpjcbaijbppiaaTotals.lean).
  GIVEN WITH THE SEED: the statements are not yours to turn. If you find one false, say at which input.
  Laid BY PROGRAM, IN A SANDBOX (cutbox-rows.mjs): the forced cells as the released guide's own fill.sh prints them over the translation f261962a5efde2be… (all of the seat's roots in one cut). By AI agents, Wed Nov 11 2026. No macro, syntax, notation, axiom, sorry.
-/
import Derived.Test.YthpjcbaijbppiaaChecked
import GoSem.Claim
import GoSem.ClaimJoined
import GoSem.ClaimMapViews
import Derived.JoinedTies
import Derived.KernelRfl
namespace Go.Proofs.Ythpjcbaijbppiaa
/- THE CELL 'sum', in the pinned program and in every row, IS THE sha256 OF THE DUMP (.gsa) THAT YthpjcbaijbppiaaProg.lean LOADS. Nothing in Lean hashes anything: it is a label: what it is worth is what the hold of that sum in a sandbox is worth. -/
noncomputable def Try.pinned : Pinned := { name := "ythpjcbaijbppiaa", sum := "f261962a5efde2befe8e7c686dfc7986bf7a418b5429c9ecd89094753e1130eb", checked := Try.checked }
namespace Rows
def none {H : Type} : Left H := { results := [], args := [] }

/-- 'shalelaw09.TnodePlays': WHATEVER THE INPUT: true; the input reads as it did. -/
def tnodePlaysSpec : ChangeSpec := { name := "tnodePlays", fn := fun _ => fun
  | [d1, d2] => { results := [.lit (.bool true)], args := [d1, d2] }
  | _ => none }
def tnodePlaysRow : OpenClaim := { program := "ythpjcbaijbppiaa", sum := "f261962a5efde2befe8e7c686dfc7986bf7a418b5429c9ecd89094753e1130eb", func := "shale/shalelaw09.TnodePlays", spec := "tnodePlays", unfollowed := true, recurses := true, apart := false }
def TnodePlaysSaid : Prop := tnodePlaysRow.holds Try.pinned (OpenSpec.ofChange tnodePlaysSpec)

/-- ITS FALSE NEIGHBOUR: 'it returns false'. Refute it at one input. -/
def tnodePlaysWrong : ChangeSpec := { name := "tnodePlays", fn := fun _ => fun
  | [d1, d2] => { results := [.lit (.bool false)], args := [d1, d2] }
  | _ => none }
def TnodePlaysWrongFalsely : Prop := tnodePlaysRow.holds Try.pinned (OpenSpec.ofChange tnodePlaysWrong)

/-- 'shalelaw09.TnodeLast': WHATEVER THE INPUT: true; the input reads as it did. -/
def tnodeLastSpec : ChangeSpec := { name := "tnodeLast", fn := fun _ => fun
  | [d1, d2] => { results := [.lit (.bool true)], args := [d1, d2] }
  | _ => none }
def tnodeLastRow : OpenClaim := { program := "ythpjcbaijbppiaa", sum := "f261962a5efde2befe8e7c686dfc7986bf7a418b5429c9ecd89094753e1130eb", func := "shale/shalelaw09.TnodeLast", spec := "tnodeLast", unfollowed := true, recurses := true, apart := false }
def TnodeLastSaid : Prop := tnodeLastRow.holds Try.pinned (OpenSpec.ofChange tnodeLastSpec)

/-- ITS FALSE NEIGHBOUR: 'it returns false'. Refute it at one input. -/
def tnodeLastWrong : ChangeSpec := { name := "tnodeLast", fn := fun _ => fun
  | [d1, d2] => { results := [.lit (.bool false)], args := [d1, d2] }
  | _ => none }
def TnodeLastWrongFalsely : Prop := tnodeLastRow.holds Try.pinned (OpenSpec.ofChange tnodeLastWrong)

/-- 'shalelaw09.TnodeRises': WHATEVER THE INPUT: true; the input reads as it did. -/
def tnodeRisesSpec : ChangeSpec := { name := "tnodeRises", fn := fun _ => fun
  | [d] => { results := [.lit (.bool true)], args := [d] }
  | _ => none }
def tnodeRisesRow : OpenClaim := { program := "ythpjcbaijbppiaa", sum := "f261962a5efde2befe8e7c686dfc7986bf7a418b5429c9ecd89094753e1130eb", func := "shale/shalelaw09.TnodeRises", spec := "tnodeRises", unfollowed := true, recurses := true, apart := false }
def TnodeRisesSaid : Prop := tnodeRisesRow.holds Try.pinned (OpenSpec.ofChange tnodeRisesSpec)

/-- ITS FALSE NEIGHBOUR: 'it returns false'. Refute it at one input. -/
def tnodeRisesWrong : ChangeSpec := { name := "tnodeRises", fn := fun _ => fun
  | [d] => { results := [.lit (.bool false)], args := [d] }
  | _ => none }
def TnodeRisesWrongFalsely : Prop := tnodeRisesRow.holds Try.pinned (OpenSpec.ofChange tnodeRisesWrong)

/-- 'shalelaw09.TnodeHeight': WHATEVER THE INPUT: true; the input reads as it did. -/
def tnodeHeightSpec : ChangeSpec := { name := "tnodeHeight", fn := fun _ => fun
  | [d1, d2] => { results := [.lit (.bool true)], args := [d1, d2] }
  | _ => none }
def tnodeHeightRow : OpenClaim := { program := "ythpjcbaijbppiaa", sum := "f261962a5efde2befe8e7c686dfc7986bf7a418b5429c9ecd89094753e1130eb", func := "shale/shalelaw09.TnodeHeight", spec := "tnodeHeight", unfollowed := true, recurses := true, apart := false }
def TnodeHeightSaid : Prop := tnodeHeightRow.holds Try.pinned (OpenSpec.ofChange tnodeHeightSpec)

/-- ITS FALSE NEIGHBOUR: 'it returns false'. Refute it at one input. -/
def tnodeHeightWrong : ChangeSpec := { name := "tnodeHeight", fn := fun _ => fun
  | [d1, d2] => { results := [.lit (.bool false)], args := [d1, d2] }
  | _ => none }
def TnodeHeightWrongFalsely : Prop := tnodeHeightRow.holds Try.pinned (OpenSpec.ofChange tnodeHeightWrong)

/-- 'shalelaw09.TnodeCut': WHATEVER THE INPUT: true; the input reads as it did. -/
def tnodeCutSpec : ChangeSpec := { name := "tnodeCut", fn := fun _ => fun
  | [d1, d2, d3] => { results := [.lit (.bool true)], args := [d1, d2, d3] }
  | _ => none }
def tnodeCutRow : OpenClaim := { program := "ythpjcbaijbppiaa", sum := "f261962a5efde2befe8e7c686dfc7986bf7a418b5429c9ecd89094753e1130eb", func := "shale/shalelaw09.TnodeCut", spec := "tnodeCut", unfollowed := true, recurses := true, apart := false }
def TnodeCutSaid : Prop := tnodeCutRow.holds Try.pinned (OpenSpec.ofChange tnodeCutSpec)

/-- ITS FALSE NEIGHBOUR: 'it returns false'. Refute it at one input. -/
def tnodeCutWrong : ChangeSpec := { name := "tnodeCut", fn := fun _ => fun
  | [d1, d2, d3] => { results := [.lit (.bool false)], args := [d1, d2, d3] }
  | _ => none }
def TnodeCutWrongFalsely : Prop := tnodeCutRow.holds Try.pinned (OpenSpec.ofChange tnodeCutWrong)

/-- 'shalelaw09.TnodeTypes': WHATEVER THE INPUT: true; the input reads as it did. -/
def tnodeTypesSpec : ChangeSpec := { name := "tnodeTypes", fn := fun _ => fun
  | [d1, d2] => { results := [.lit (.bool true)], args := [d1, d2] }
  | _ => none }
def tnodeTypesRow : OpenClaim := { program := "ythpjcbaijbppiaa", sum := "f261962a5efde2befe8e7c686dfc7986bf7a418b5429c9ecd89094753e1130eb", func := "shale/shalelaw09.TnodeTypes", spec := "tnodeTypes", unfollowed := true, recurses := true, apart := false }
def TnodeTypesSaid : Prop := tnodeTypesRow.holds Try.pinned (OpenSpec.ofChange tnodeTypesSpec)

/-- ITS FALSE NEIGHBOUR: 'it returns false'. Refute it at one input. -/
def tnodeTypesWrong : ChangeSpec := { name := "tnodeTypes", fn := fun _ => fun
  | [d1, d2] => { results := [.lit (.bool false)], args := [d1, d2] }
  | _ => none }
def TnodeTypesWrongFalsely : Prop := tnodeTypesRow.holds Try.pinned (OpenSpec.ofChange tnodeTypesWrong)

/- THE SECOND FORM. 'bulk': how many values and letters a reading holds, each counted each time it is reached (what is shared counts as often as it is met; a slice's spare places count too). A statement '..UptoSaid' is the law's where the arguments, and the package variables that the reading takes, are together of bulk at most 1048576: NARROWER than '..Said'. Prove '..Said' where nothing that the law and all that it calls make is longer than what came in: it says more and counts as full. Else prove '..UptoSaid'. A law counts once. -/
mutual
def uptoBulk {H : Type} : DataW H → Nat
  | .lit (.string bytes) => bytes.length + 1
  | .lit _ => 1
  | .nil => 1
  | .ptr d => uptoBulk d + 1
  | .slice elems spare => uptoBulkAll elems + uptoBulkAll spare + 1
  | .agg parts => uptoBulkAll parts + 1
  | .iface _ d => uptoBulk d + 1
  | .map entries => uptoBulkEntries entries + 1
  | .held _ => 1
def uptoBulkAll {H : Type} : List (DataW H) → Nat
  | [] => 0
  | d :: r => uptoBulk d + uptoBulkAll r
def uptoBulkEntries {H : Type} : List (Lit × DataW H) → Nat
  | [] => 0
  | x :: r => uptoBulkEntry x + uptoBulkEntries r
def uptoBulkEntry {H : Type} : Lit × DataW H → Nat
  | (.string bytes, d) => bytes.length + uptoBulk d + 1
  | (_, d) => uptoBulk d + 1
 end
def uptoSmall : (H : Type) → List (DataW H) → Bool := fun _ ds => decide (uptoBulkAll ds ≤ 1048576)
def OpenSpec.upto (s : _root_.Go.ChangeSpec) : _root_.Go.OpenSpec := { _root_.Go.OpenSpec.ofChange s with cond := some uptoSmall }

/-- 'shalelaw09.TnodePlays', WHERE WHAT IT READS IS OF BULK AT MOST 1048576: true; the input reads as it did. -/
def tnodePlaysUptoRow : OpenClaim := { program := "ythpjcbaijbppiaa", sum := "f261962a5efde2befe8e7c686dfc7986bf7a418b5429c9ecd89094753e1130eb", func := "shale/shalelaw09.TnodePlays", spec := "tnodePlays", unfollowed := true, recurses := true, apart := false, narrowed := true }
def TnodePlaysUptoSaid : Prop := tnodePlaysUptoRow.holds Try.pinned (OpenSpec.upto tnodePlaysSpec)

/-- 'shalelaw09.TnodeLast', WHERE WHAT IT READS IS OF BULK AT MOST 1048576: true; the input reads as it did. -/
def tnodeLastUptoRow : OpenClaim := { program := "ythpjcbaijbppiaa", sum := "f261962a5efde2befe8e7c686dfc7986bf7a418b5429c9ecd89094753e1130eb", func := "shale/shalelaw09.TnodeLast", spec := "tnodeLast", unfollowed := true, recurses := true, apart := false, narrowed := true }
def TnodeLastUptoSaid : Prop := tnodeLastUptoRow.holds Try.pinned (OpenSpec.upto tnodeLastSpec)

/-- 'shalelaw09.TnodeRises', WHERE WHAT IT READS IS OF BULK AT MOST 1048576: true; the input reads as it did. -/
def tnodeRisesUptoRow : OpenClaim := { program := "ythpjcbaijbppiaa", sum := "f261962a5efde2befe8e7c686dfc7986bf7a418b5429c9ecd89094753e1130eb", func := "shale/shalelaw09.TnodeRises", spec := "tnodeRises", unfollowed := true, recurses := true, apart := false, narrowed := true }
def TnodeRisesUptoSaid : Prop := tnodeRisesUptoRow.holds Try.pinned (OpenSpec.upto tnodeRisesSpec)

/-- 'shalelaw09.TnodeHeight', WHERE WHAT IT READS IS OF BULK AT MOST 1048576: true; the input reads as it did. -/
def tnodeHeightUptoRow : OpenClaim := { program := "ythpjcbaijbppiaa", sum := "f261962a5efde2befe8e7c686dfc7986bf7a418b5429c9ecd89094753e1130eb", func := "shale/shalelaw09.TnodeHeight", spec := "tnodeHeight", unfollowed := true, recurses := true, apart := false, narrowed := true }
def TnodeHeightUptoSaid : Prop := tnodeHeightUptoRow.holds Try.pinned (OpenSpec.upto tnodeHeightSpec)

/-- 'shalelaw09.TnodeCut', WHERE WHAT IT READS IS OF BULK AT MOST 1048576: true; the input reads as it did. -/
def tnodeCutUptoRow : OpenClaim := { program := "ythpjcbaijbppiaa", sum := "f261962a5efde2befe8e7c686dfc7986bf7a418b5429c9ecd89094753e1130eb", func := "shale/shalelaw09.TnodeCut", spec := "tnodeCut", unfollowed := true, recurses := true, apart := false, narrowed := true }
def TnodeCutUptoSaid : Prop := tnodeCutUptoRow.holds Try.pinned (OpenSpec.upto tnodeCutSpec)

/-- 'shalelaw09.TnodeTypes', WHERE WHAT IT READS IS OF BULK AT MOST 1048576: true; the input reads as it did. -/
def tnodeTypesUptoRow : OpenClaim := { program := "ythpjcbaijbppiaa", sum := "f261962a5efde2befe8e7c686dfc7986bf7a418b5429c9ecd89094753e1130eb", func := "shale/shalelaw09.TnodeTypes", spec := "tnodeTypes", unfollowed := true, recurses := true, apart := false, narrowed := true }
def TnodeTypesUptoSaid : Prop := tnodeTypesUptoRow.holds Try.pinned (OpenSpec.upto tnodeTypesSpec)

end Rows
end Go.Proofs.Ythpjcbaijbppiaa
