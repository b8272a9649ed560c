/-
  DERIVED. GIVEN WITH THE SEED: THE CARDS: each row of YtljamhpdgmelcaaDoorRows.lean that lists a variable, with what it lists TIED to the program's text (the seventh form; the later family's looks); each row that meets fmt, with fmt's text TOLD by the authors' own Lean function (tested against real Go, not proved from fmt's source: count such statements apart). THE CARD IS WHAT COUNTS. Prove the row's statement (the work); the ties are given (YtljamhpdgmelcaaDoorTie.lean); close each card by the builder's one call (the guide's Derived/Test/ToyasCard.lean, 'card_holds'). Laid BY PROGRAM, IN A SANDBOX (cutbox-door.mjs). By AI agents, Wed Nov 11 2026. No macro, syntax, notation, axiom, sorry.
-/
import Derived.Test.YtljamhpdgmelcaaDoorRows
import GoSem.ClaimSeven
namespace Go.Proofs.YtljamhpdgmelcaaDoor
namespace Rows

/-- THE TIED CARD OF 'shalelaw08.NodeReads'. -/
def nodeReadsCard : Claim7 := { stood := { row := nodeReadsRow, standIns := [], harness := (true, "52270353f4286fd00db3e9556e3bcdcabc377c18d58c4a1421c49dc9afcf2083"), looks := false }, kinds := [], alts := [], laidByText := true, laidKinds := [.data, .data, .data, .data, .data, .data], laidTests := true, laidLooks := .later }
def NodeReadsCardSaid : Prop := Claim7.holds Tryd.pinned (.plain (OpenSpec.ofChange nodeReadsSpec)) nodeReadsCard

/-- THE TIED CARD OF 'shalelaw08.NodePacks'. -/
def nodePacksCard : Claim7 := { stood := { row := nodePacksRow, standIns := [], harness := (true, "52270353f4286fd00db3e9556e3bcdcabc377c18d58c4a1421c49dc9afcf2083"), looks := false }, kinds := [], alts := [], laidByText := true, laidKinds := [.data, .data, .data, .data, .data, .data], laidTests := true, laidLooks := .later }
def NodePacksCardSaid : Prop := Claim7.holds Tryd.pinned (.plain (OpenSpec.ofChange nodePacksSpec)) nodePacksCard

/-- THE TIED CARD OF 'shalelaw08.NodeThere'. -/
def nodeThereCard : Claim7 := { stood := { row := nodeThereRow, standIns := [], harness := (true, "52270353f4286fd00db3e9556e3bcdcabc377c18d58c4a1421c49dc9afcf2083"), looks := false }, kinds := [], alts := [], laidByText := true, laidKinds := [.data, .data, .data, .data, .data, .data], laidTests := true, laidLooks := .later }
def NodeThereCardSaid : Prop := Claim7.holds Tryd.pinned (.plain (OpenSpec.ofChange nodeThereSpec)) nodeThereCard

/-- THE TIED CARD OF 'shalelaw08.NodeBack'. -/
def nodeBackCard : Claim7 := { stood := { row := nodeBackRow, standIns := [], harness := (true, "52270353f4286fd00db3e9556e3bcdcabc377c18d58c4a1421c49dc9afcf2083"), looks := false }, kinds := [], alts := [], laidByText := true, laidKinds := [.data, .data, .data, .data, .data, .data], laidTests := true, laidLooks := .later }
def NodeBackCardSaid : Prop := Claim7.holds Tryd.pinned (.plain (OpenSpec.ofChange nodeBackSpec)) nodeBackCard

/-- THE SECOND FORM's CARD OF 'shalelaw08.NodeReads'. -/
def nodeReadsUptoCard : Claim7 := { stood := { row := nodeReadsUptoRow, standIns := [], harness := (true, "52270353f4286fd00db3e9556e3bcdcabc377c18d58c4a1421c49dc9afcf2083"), looks := false }, kinds := [], alts := [], laidByText := true, laidKinds := [.data, .data, .data, .data, .data, .data], laidTests := true, laidLooks := .later }
def NodeReadsUptoCardSaid : Prop := Claim7.holds Tryd.pinned (.plain (OpenSpec.upto nodeReadsSpec)) nodeReadsUptoCard

/-- THE SECOND FORM's CARD OF 'shalelaw08.NodePacks'. -/
def nodePacksUptoCard : Claim7 := { stood := { row := nodePacksUptoRow, standIns := [], harness := (true, "52270353f4286fd00db3e9556e3bcdcabc377c18d58c4a1421c49dc9afcf2083"), looks := false }, kinds := [], alts := [], laidByText := true, laidKinds := [.data, .data, .data, .data, .data, .data], laidTests := true, laidLooks := .later }
def NodePacksUptoCardSaid : Prop := Claim7.holds Tryd.pinned (.plain (OpenSpec.upto nodePacksSpec)) nodePacksUptoCard

/-- THE SECOND FORM's CARD OF 'shalelaw08.NodeThere'. -/
def nodeThereUptoCard : Claim7 := { stood := { row := nodeThereUptoRow, standIns := [], harness := (true, "52270353f4286fd00db3e9556e3bcdcabc377c18d58c4a1421c49dc9afcf2083"), looks := false }, kinds := [], alts := [], laidByText := true, laidKinds := [.data, .data, .data, .data, .data, .data], laidTests := true, laidLooks := .later }
def NodeThereUptoCardSaid : Prop := Claim7.holds Tryd.pinned (.plain (OpenSpec.upto nodeThereSpec)) nodeThereUptoCard

/-- THE SECOND FORM's CARD OF 'shalelaw08.NodeBack'. -/
def nodeBackUptoCard : Claim7 := { stood := { row := nodeBackUptoRow, standIns := [], harness := (true, "52270353f4286fd00db3e9556e3bcdcabc377c18d58c4a1421c49dc9afcf2083"), looks := false }, kinds := [], alts := [], laidByText := true, laidKinds := [.data, .data, .data, .data, .data, .data], laidTests := true, laidLooks := .later }
def NodeBackUptoCardSaid : Prop := Claim7.holds Tryd.pinned (.plain (OpenSpec.upto nodeBackSpec)) nodeBackUptoCard
end Rows
end Go.Proofs.YtljamhpdgmelcaaDoor
