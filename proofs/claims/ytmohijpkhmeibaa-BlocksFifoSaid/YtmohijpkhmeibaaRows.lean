/-
  No cell of these rows narrows 'for every input' (looked for: loops, veiled, ifaces, maps, wideKeys, modest, calm, conditions, laid).
  DERIVED. THE GIVEN ROWS OF THIS SEAT. 5 by the template 'for every input the law returns true; each argument reads behind the call as it read before'; 0 by the template 'total and deterministic' (their statements: YtmohijpkhmeibaaTotals.lean).
  GIVEN WITH THE SEED: the statements are not yours to turn. If you find one false, say at which input.
  Laid BY PROGRAM, IN A SANDBOX (cutbox-rows.mjs): the forced cells as the released guide's own fill.sh prints them over the translation d524156959fc1d76… (all of the seat's roots in one cut). By AI agents, Wed Nov 11 2026. No macro, syntax, notation, axiom, sorry.
-/
import Derived.Test.YtmohijpkhmeibaaChecked
import GoSem.Claim
import GoSem.ClaimJoined
import GoSem.ClaimMapViews
import Derived.JoinedTies
import Derived.KernelRfl
namespace Go.Proofs.Ytmohijpkhmeibaa
/- THE CELL 'sum', in the pinned program and in every row, IS THE sha256 OF THE DUMP (.gsa) THAT YtmohijpkhmeibaaProg.lean LOADS. Nothing in Lean hashes anything: it is a label: what it is worth is what the hold of that sum in a sandbox is worth. -/
noncomputable def Try.pinned : Pinned := { name := "ytmohijpkhmeibaa", sum := "d524156959fc1d7643741a066076ff4dd380a672de74a36ae1591cc1316790db", checked := Try.checked }
namespace Rows
def none {H : Type} : Left H := { results := [], args := [] }

/-- 'shalelaw11.BlocksRound': WHATEVER THE INPUT: true; the input reads as it did. -/
def blocksRoundSpec : ChangeSpec := { name := "blocksRound", fn := fun _ => fun
  | [d1, d2, d3, d4] => { results := [.lit (.bool true)], args := [d1, d2, d3, d4] }
  | _ => none }
def blocksRoundRow : OpenClaim := { program := "ytmohijpkhmeibaa", sum := "d524156959fc1d7643741a066076ff4dd380a672de74a36ae1591cc1316790db", func := "shale/shalelaw11.BlocksRound", spec := "blocksRound", apart := false }
def BlocksRoundSaid : Prop := blocksRoundRow.holds Try.pinned (OpenSpec.ofChange blocksRoundSpec)

/-- ITS FALSE NEIGHBOUR: 'it returns false'. Refute it at one input. -/
def blocksRoundWrong : ChangeSpec := { name := "blocksRound", fn := fun _ => fun
  | [d1, d2, d3, d4] => { results := [.lit (.bool false)], args := [d1, d2, d3, d4] }
  | _ => none }
def BlocksRoundWrongFalsely : Prop := blocksRoundRow.holds Try.pinned (OpenSpec.ofChange blocksRoundWrong)

/-- 'shalelaw11.BlocksFifo': WHATEVER THE INPUT: true; the input reads as it did. -/
def blocksFifoSpec : ChangeSpec := { name := "blocksFifo", fn := fun _ => fun
  | [d1, d2, d3, d4] => { results := [.lit (.bool true)], args := [d1, d2, d3, d4] }
  | _ => none }
def blocksFifoRow : OpenClaim := { program := "ytmohijpkhmeibaa", sum := "d524156959fc1d7643741a066076ff4dd380a672de74a36ae1591cc1316790db", func := "shale/shalelaw11.BlocksFifo", spec := "blocksFifo", unfollowed := true, recurses := true, apart := false }
def BlocksFifoSaid : Prop := blocksFifoRow.holds Try.pinned (OpenSpec.ofChange blocksFifoSpec)

/-- ITS FALSE NEIGHBOUR: 'it returns false'. Refute it at one input. -/
def blocksFifoWrong : ChangeSpec := { name := "blocksFifo", fn := fun _ => fun
  | [d1, d2, d3, d4] => { results := [.lit (.bool false)], args := [d1, d2, d3, d4] }
  | _ => none }
def BlocksFifoWrongFalsely : Prop := blocksFifoRow.holds Try.pinned (OpenSpec.ofChange blocksFifoWrong)

/-- 'shalelaw11.BlocksMay': WHATEVER THE INPUT: true; the input reads as it did. -/
def blocksMaySpec : ChangeSpec := { name := "blocksMay", fn := fun _ => fun
  | [d1, d2, d3, d4, d5] => { results := [.lit (.bool true)], args := [d1, d2, d3, d4, d5] }
  | _ => none }
def blocksMayRow : OpenClaim := { program := "ytmohijpkhmeibaa", sum := "d524156959fc1d7643741a066076ff4dd380a672de74a36ae1591cc1316790db", func := "shale/shalelaw11.BlocksMay", spec := "blocksMay", unfollowed := true, recurses := true, apart := false }
def BlocksMaySaid : Prop := blocksMayRow.holds Try.pinned (OpenSpec.ofChange blocksMaySpec)

/-- ITS FALSE NEIGHBOUR: 'it returns false'. Refute it at one input. -/
def blocksMayWrong : ChangeSpec := { name := "blocksMay", fn := fun _ => fun
  | [d1, d2, d3, d4, d5] => { results := [.lit (.bool false)], args := [d1, d2, d3, d4, d5] }
  | _ => none }
def BlocksMayWrongFalsely : Prop := blocksMayRow.holds Try.pinned (OpenSpec.ofChange blocksMayWrong)

/-- 'shalelaw11.BlocksPlays': WHATEVER THE INPUT: true; the input reads as it did. -/
def blocksPlaysSpec : ChangeSpec := { name := "blocksPlays", fn := fun _ => fun
  | [d1, d2, d3, d4, d5] => { results := [.lit (.bool true)], args := [d1, d2, d3, d4, d5] }
  | _ => none }
def blocksPlaysRow : OpenClaim := { program := "ytmohijpkhmeibaa", sum := "d524156959fc1d7643741a066076ff4dd380a672de74a36ae1591cc1316790db", func := "shale/shalelaw11.BlocksPlays", spec := "blocksPlays", unfollowed := true, recurses := true, apart := false }
def BlocksPlaysSaid : Prop := blocksPlaysRow.holds Try.pinned (OpenSpec.ofChange blocksPlaysSpec)

/-- ITS FALSE NEIGHBOUR: 'it returns false'. Refute it at one input. -/
def blocksPlaysWrong : ChangeSpec := { name := "blocksPlays", fn := fun _ => fun
  | [d1, d2, d3, d4, d5] => { results := [.lit (.bool false)], args := [d1, d2, d3, d4, d5] }
  | _ => none }
def BlocksPlaysWrongFalsely : Prop := blocksPlaysRow.holds Try.pinned (OpenSpec.ofChange blocksPlaysWrong)

/-- 'shalelaw11.BlocksFresh': WHATEVER THE INPUT: true; the input reads as it did. -/
def blocksFreshSpec : ChangeSpec := { name := "blocksFresh", fn := fun _ => fun
  | [d1, d2, d3, d4, d5] => { results := [.lit (.bool true)], args := [d1, d2, d3, d4, d5] }
  | _ => none }
def blocksFreshRow : OpenClaim := { program := "ytmohijpkhmeibaa", sum := "d524156959fc1d7643741a066076ff4dd380a672de74a36ae1591cc1316790db", func := "shale/shalelaw11.BlocksFresh", spec := "blocksFresh", unfollowed := true, recurses := true, apart := false }
def BlocksFreshSaid : Prop := blocksFreshRow.holds Try.pinned (OpenSpec.ofChange blocksFreshSpec)

/-- ITS FALSE NEIGHBOUR: 'it returns false'. Refute it at one input. -/
def blocksFreshWrong : ChangeSpec := { name := "blocksFresh", fn := fun _ => fun
  | [d1, d2, d3, d4, d5] => { results := [.lit (.bool false)], args := [d1, d2, d3, d4, d5] }
  | _ => none }
def BlocksFreshWrongFalsely : Prop := blocksFreshRow.holds Try.pinned (OpenSpec.ofChange blocksFreshWrong)

/- THE SECOND FORM. 'bulk': how many values and letters a reading holds, each counted each time it is reached (what is shared counts as often as it is met; a slice's spare places count too). A statement '..UptoSaid' is the law's where the arguments, and the package variables that the reading takes, are together of bulk at most 1048576: NARROWER than '..Said'. Prove '..Said' where nothing that the law and all that it calls make is longer than what came in: it says more and counts as full. Else prove '..UptoSaid'. A law counts once. -/
mutual
def uptoBulk {H : Type} : DataW H → Nat
  | .lit (.string bytes) => bytes.length + 1
  | .lit _ => 1
  | .nil => 1
  | .ptr d => uptoBulk d + 1
  | .slice elems spare => uptoBulkAll elems + uptoBulkAll spare + 1
  | .agg parts => uptoBulkAll parts + 1
  | .iface _ d => uptoBulk d + 1
  | .map entries => uptoBulkEntries entries + 1
  | .held _ => 1
def uptoBulkAll {H : Type} : List (DataW H) → Nat
  | [] => 0
  | d :: r => uptoBulk d + uptoBulkAll r
def uptoBulkEntries {H : Type} : List (Lit × DataW H) → Nat
  | [] => 0
  | x :: r => uptoBulkEntry x + uptoBulkEntries r
def uptoBulkEntry {H : Type} : Lit × DataW H → Nat
  | (.string bytes, d) => bytes.length + uptoBulk d + 1
  | (_, d) => uptoBulk d + 1
 end
def uptoSmall : (H : Type) → List (DataW H) → Bool := fun _ ds => decide (uptoBulkAll ds ≤ 1048576)
def OpenSpec.upto (s : _root_.Go.ChangeSpec) : _root_.Go.OpenSpec := { _root_.Go.OpenSpec.ofChange s with cond := some uptoSmall }

/-- 'shalelaw11.BlocksRound', WHERE WHAT IT READS IS OF BULK AT MOST 1048576: true; the input reads as it did. -/
def blocksRoundUptoRow : OpenClaim := { program := "ytmohijpkhmeibaa", sum := "d524156959fc1d7643741a066076ff4dd380a672de74a36ae1591cc1316790db", func := "shale/shalelaw11.BlocksRound", spec := "blocksRound", apart := false, narrowed := true }
def BlocksRoundUptoSaid : Prop := blocksRoundUptoRow.holds Try.pinned (OpenSpec.upto blocksRoundSpec)

/-- 'shalelaw11.BlocksFifo', WHERE WHAT IT READS IS OF BULK AT MOST 1048576: true; the input reads as it did. -/
def blocksFifoUptoRow : OpenClaim := { program := "ytmohijpkhmeibaa", sum := "d524156959fc1d7643741a066076ff4dd380a672de74a36ae1591cc1316790db", func := "shale/shalelaw11.BlocksFifo", spec := "blocksFifo", unfollowed := true, recurses := true, apart := false, narrowed := true }
def BlocksFifoUptoSaid : Prop := blocksFifoUptoRow.holds Try.pinned (OpenSpec.upto blocksFifoSpec)

/-- 'shalelaw11.BlocksMay', WHERE WHAT IT READS IS OF BULK AT MOST 1048576: true; the input reads as it did. -/
def blocksMayUptoRow : OpenClaim := { program := "ytmohijpkhmeibaa", sum := "d524156959fc1d7643741a066076ff4dd380a672de74a36ae1591cc1316790db", func := "shale/shalelaw11.BlocksMay", spec := "blocksMay", unfollowed := true, recurses := true, apart := false, narrowed := true }
def BlocksMayUptoSaid : Prop := blocksMayUptoRow.holds Try.pinned (OpenSpec.upto blocksMaySpec)

/-- 'shalelaw11.BlocksPlays', WHERE WHAT IT READS IS OF BULK AT MOST 1048576: true; the input reads as it did. -/
def blocksPlaysUptoRow : OpenClaim := { program := "ytmohijpkhmeibaa", sum := "d524156959fc1d7643741a066076ff4dd380a672de74a36ae1591cc1316790db", func := "shale/shalelaw11.BlocksPlays", spec := "blocksPlays", unfollowed := true, recurses := true, apart := false, narrowed := true }
def BlocksPlaysUptoSaid : Prop := blocksPlaysUptoRow.holds Try.pinned (OpenSpec.upto blocksPlaysSpec)

/-- 'shalelaw11.BlocksFresh', WHERE WHAT IT READS IS OF BULK AT MOST 1048576: true; the input reads as it did. -/
def blocksFreshUptoRow : OpenClaim := { program := "ytmohijpkhmeibaa", sum := "d524156959fc1d7643741a066076ff4dd380a672de74a36ae1591cc1316790db", func := "shale/shalelaw11.BlocksFresh", spec := "blocksFresh", unfollowed := true, recurses := true, apart := false, narrowed := true }
def BlocksFreshUptoSaid : Prop := blocksFreshUptoRow.holds Try.pinned (OpenSpec.upto blocksFreshSpec)

end Rows
end Go.Proofs.Ytmohijpkhmeibaa
