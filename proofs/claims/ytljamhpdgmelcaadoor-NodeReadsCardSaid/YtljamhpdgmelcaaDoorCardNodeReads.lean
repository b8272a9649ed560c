/- NodeReads: whatever the input, the law answers true; its listed tables are tied to the program's text. No condition. -/
import Derived.Test.YtljamhpdgmelcaaDoorLawNodeReads
import Derived.Test.YtljamhpdgmelcaaDoorTie
import Derived.Test.YtljamhpdgmelcaaDoorCards
import Derived.SevenTiedAt
namespace Go.Proofs.YtljamhpdgmelcaaDoor
open Go
set_option maxRecDepth 100000
theorem nodeReads_card : Rows.NodeReadsCardSaid :=
  Claim7.holds_tied_plain_at .later [] [.data, .data, .data, .data, .data, .data] true (true, "52270353f4286fd00db3e9556e3bcdcabc377c18d58c4a1421c49dc9afcf2083") false
    nodeReads_holds (fun _ h => by cases h) (by kernel_rfl) (fun _ h => by cases h) nodeReads_row_tie rfl ⟨rfl, rfl⟩ (by kernel_rfl) rfl
    (fun f fn hf hfn => by
      obtain rfl : f = 3 := Option.some.inj ((show Tryd.prog.funcNamed "shale/shalelaw08.NodeReads" = some 3 by kernel_rfl).symm.trans hf) |>.symm
      obtain rfl : fn = Tryd.f3 := (Option.some.inj (Tryd.func3.symm.trans hfn)).symm
      exact ⟨by kernel_rfl, fun j t ht => by
        have hm : t ∈ Tryd.f3.params := Array.mem_of_getElem? ht
        have hall : (Tryd.f3.params.toList.all fun u => !Tryd.prog.wantsStandIn u) = true := by kernel_rfl
        exact (show Tryd.prog.wantsStandIn t = false by simpa using List.all_eq_true.1 hall t (by simpa using hm))⟩)
    (by kernel_rfl)
#print axioms nodeReads_card
end Go.Proofs.YtljamhpdgmelcaaDoor
