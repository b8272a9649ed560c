/- PathWalks: whatever the input, the law answers true; its listed tables are tied to the program's text. No condition. -/
import Derived.Test.YtbinnghemkppdaaDoorLawPathWalks
import Derived.Test.YtbinnghemkppdaaDoorTie
import Derived.Test.YtbinnghemkppdaaDoorCards
import Derived.SevenTiedAt
namespace Go.Proofs.YtbinnghemkppdaaDoor
open Go
set_option maxRecDepth 100000
theorem pathWalks_card : Rows.PathWalksCardSaid :=
  Claim7.holds_tied_plain_at .later [] [.data, .pinned] true (true, "c5cc50dbd9f07a0c6da52bf52d84b80d31209cfcc618897be1e9f8a22dbb94fa") false
    pathWalks_holds (fun _ h => by cases h) (by kernel_rfl) (fun _ h => by cases h) pathWalks_row_tie rfl ⟨rfl, rfl⟩ (by kernel_rfl) rfl
    (fun f fn hf hfn => by
      obtain rfl : f = 5 := Option.some.inj ((show Tryd.prog.funcNamed "shale/shalelaw16.PathWalks" = some 5 by kernel_rfl).symm.trans hf) |>.symm
      obtain rfl : fn = Tryd.f5 := (Option.some.inj (Tryd.func5.symm.trans hfn)).symm
      exact ⟨by kernel_rfl, fun j t ht => by
        have hm : t ∈ Tryd.f5.params := Array.mem_of_getElem? ht
        have hall : (Tryd.f5.params.toList.all fun u => !Tryd.prog.wantsStandIn u) = true := by kernel_rfl
        exact (show Tryd.prog.wantsStandIn t = false by simpa using List.all_eq_true.1 hall t (by simpa using hm))⟩)
    (by kernel_rfl)
#print axioms pathWalks_card
end Go.Proofs.YtbinnghemkppdaaDoor
