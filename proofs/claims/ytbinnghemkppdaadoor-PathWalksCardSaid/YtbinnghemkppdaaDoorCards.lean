/-
  DERIVED. GIVEN WITH THE SEED: THE CARDS: each row of YtbinnghemkppdaaDoorRows.lean that lists a variable, with what it lists TIED to the program's text (the seventh form; the later family's looks); each row that meets fmt, with fmt's text TOLD by the authors' own Lean function (tested against real Go, not proved from fmt's source: count such statements apart). THE CARD IS WHAT COUNTS. Prove the row's statement (the work); the ties are given (YtbinnghemkppdaaDoorTie.lean); close each card by the builder's one call (the guide's Derived/Test/ToyasCard.lean, 'card_holds'). Laid BY PROGRAM, IN A SANDBOX (cutbox-door.mjs). By AI agents, Wed Nov 11 2026. No macro, syntax, notation, axiom, sorry.
-/
import Derived.Test.YtbinnghemkppdaaDoorRows
import GoSem.ClaimSeven
namespace Go.Proofs.YtbinnghemkppdaaDoor
namespace Rows

/-- THE TIED CARD OF 'shalelaw16.PathSplits'. -/
def pathSplitsCard : Claim7 := { stood := { row := pathSplitsRow, standIns := [], harness := (true, "c5cc50dbd9f07a0c6da52bf52d84b80d31209cfcc618897be1e9f8a22dbb94fa"), looks := false }, kinds := [], alts := [], laidByText := true, laidKinds := [.data, .pinned], laidTests := true, laidLooks := .later }
def PathSplitsCardSaid : Prop := Claim7.holds Tryd.pinned (.plain (OpenSpec.ofChange pathSplitsSpec)) pathSplitsCard

/-- THE TIED CARD OF 'shalelaw16.PathWithins'. -/
def pathWithinsCard : Claim7 := { stood := { row := pathWithinsRow, standIns := [], harness := (true, "c5cc50dbd9f07a0c6da52bf52d84b80d31209cfcc618897be1e9f8a22dbb94fa"), looks := false }, kinds := [], alts := [], laidByText := true, laidKinds := [.data, .pinned], laidTests := true, laidLooks := .later }
def PathWithinsCardSaid : Prop := Claim7.holds Tryd.pinned (.plain (OpenSpec.ofChange pathWithinsSpec)) pathWithinsCard

/-- THE TIED CARD OF 'shalelaw16.PathWalks'. -/
def pathWalksCard : Claim7 := { stood := { row := pathWalksRow, standIns := [], harness := (true, "c5cc50dbd9f07a0c6da52bf52d84b80d31209cfcc618897be1e9f8a22dbb94fa"), looks := false }, kinds := [], alts := [], laidByText := true, laidKinds := [.data, .pinned], laidTests := true, laidLooks := .later }
def PathWalksCardSaid : Prop := Claim7.holds Tryd.pinned (.plain (OpenSpec.ofChange pathWalksSpec)) pathWalksCard

/-- THE TIED CARD OF 'shalelaw16.PathCleans'. -/
def pathCleansCard : Claim7 := { stood := { row := pathCleansRow, standIns := [], harness := (true, "c5cc50dbd9f07a0c6da52bf52d84b80d31209cfcc618897be1e9f8a22dbb94fa"), looks := false }, kinds := [], alts := [], laidByText := true, laidKinds := [.data, .pinned], laidTests := true, laidLooks := .later }
def PathCleansCardSaid : Prop := Claim7.holds Tryd.pinned (.plain (OpenSpec.ofChange pathCleansSpec)) pathCleansCard

/-- THE TIED CARD OF 'shalelaw16.PathOrder'. -/
def pathOrderCard : Claim7 := { stood := { row := pathOrderRow, standIns := [], harness := (true, "c5cc50dbd9f07a0c6da52bf52d84b80d31209cfcc618897be1e9f8a22dbb94fa"), looks := false }, kinds := [], alts := [], laidByText := true, laidKinds := [.data, .pinned], laidTests := true, laidLooks := .later }
def PathOrderCardSaid : Prop := Claim7.holds Tryd.pinned (.plain (OpenSpec.ofChange pathOrderSpec)) pathOrderCard

/-- THE TIED CARD OF 'shalelaw16.PathThere'. -/
def pathThereCard : Claim7 := { stood := { row := pathThereRow, standIns := [], harness := (true, "c5cc50dbd9f07a0c6da52bf52d84b80d31209cfcc618897be1e9f8a22dbb94fa"), looks := false }, kinds := [], alts := [], laidByText := true, laidKinds := [.data, .pinned], laidTests := true, laidLooks := .later }
def PathThereCardSaid : Prop := Claim7.holds Tryd.pinned (.plain (OpenSpec.ofChange pathThereSpec)) pathThereCard

/-- THE SECOND FORM's CARD OF 'shalelaw16.PathSplits'. -/
def pathSplitsUptoCard : Claim7 := { stood := { row := pathSplitsUptoRow, standIns := [], harness := (true, "c5cc50dbd9f07a0c6da52bf52d84b80d31209cfcc618897be1e9f8a22dbb94fa"), looks := false }, kinds := [], alts := [], laidByText := true, laidKinds := [.data, .pinned], laidTests := true, laidLooks := .later }
def PathSplitsUptoCardSaid : Prop := Claim7.holds Tryd.pinned (.plain (OpenSpec.upto pathSplitsSpec)) pathSplitsUptoCard

/-- THE SECOND FORM's CARD OF 'shalelaw16.PathWithins'. -/
def pathWithinsUptoCard : Claim7 := { stood := { row := pathWithinsUptoRow, standIns := [], harness := (true, "c5cc50dbd9f07a0c6da52bf52d84b80d31209cfcc618897be1e9f8a22dbb94fa"), looks := false }, kinds := [], alts := [], laidByText := true, laidKinds := [.data, .pinned], laidTests := true, laidLooks := .later }
def PathWithinsUptoCardSaid : Prop := Claim7.holds Tryd.pinned (.plain (OpenSpec.upto pathWithinsSpec)) pathWithinsUptoCard

/-- THE SECOND FORM's CARD OF 'shalelaw16.PathWalks'. -/
def pathWalksUptoCard : Claim7 := { stood := { row := pathWalksUptoRow, standIns := [], harness := (true, "c5cc50dbd9f07a0c6da52bf52d84b80d31209cfcc618897be1e9f8a22dbb94fa"), looks := false }, kinds := [], alts := [], laidByText := true, laidKinds := [.data, .pinned], laidTests := true, laidLooks := .later }
def PathWalksUptoCardSaid : Prop := Claim7.holds Tryd.pinned (.plain (OpenSpec.upto pathWalksSpec)) pathWalksUptoCard

/-- THE SECOND FORM's CARD OF 'shalelaw16.PathCleans'. -/
def pathCleansUptoCard : Claim7 := { stood := { row := pathCleansUptoRow, standIns := [], harness := (true, "c5cc50dbd9f07a0c6da52bf52d84b80d31209cfcc618897be1e9f8a22dbb94fa"), looks := false }, kinds := [], alts := [], laidByText := true, laidKinds := [.data, .pinned], laidTests := true, laidLooks := .later }
def PathCleansUptoCardSaid : Prop := Claim7.holds Tryd.pinned (.plain (OpenSpec.upto pathCleansSpec)) pathCleansUptoCard

/-- THE SECOND FORM's CARD OF 'shalelaw16.PathOrder'. -/
def pathOrderUptoCard : Claim7 := { stood := { row := pathOrderUptoRow, standIns := [], harness := (true, "c5cc50dbd9f07a0c6da52bf52d84b80d31209cfcc618897be1e9f8a22dbb94fa"), looks := false }, kinds := [], alts := [], laidByText := true, laidKinds := [.data, .pinned], laidTests := true, laidLooks := .later }
def PathOrderUptoCardSaid : Prop := Claim7.holds Tryd.pinned (.plain (OpenSpec.upto pathOrderSpec)) pathOrderUptoCard

/-- THE SECOND FORM's CARD OF 'shalelaw16.PathThere'. -/
def pathThereUptoCard : Claim7 := { stood := { row := pathThereUptoRow, standIns := [], harness := (true, "c5cc50dbd9f07a0c6da52bf52d84b80d31209cfcc618897be1e9f8a22dbb94fa"), looks := false }, kinds := [], alts := [], laidByText := true, laidKinds := [.data, .pinned], laidTests := true, laidLooks := .later }
def PathThereUptoCardSaid : Prop := Claim7.holds Tryd.pinned (.plain (OpenSpec.upto pathThereSpec)) pathThereUptoCard
end Rows
end Go.Proofs.YtbinnghemkppdaaDoor
