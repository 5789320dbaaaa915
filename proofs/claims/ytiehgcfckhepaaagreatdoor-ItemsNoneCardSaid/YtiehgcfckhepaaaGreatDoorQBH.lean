/-
  Texts of this claim, laid together: INoneRow. Conditions: none.
-/
import Derived.Test.YtiehgcfckhepaaaGreatDoorQBB
import Derived.Test.YtiehgcfckhepaaaGreatDoorTie
import Derived.Test.YtiehgcfckhepaaaGreatDoorQBC
import Derived.Test.YtiehgcfckhepaaaGreatDoorQBD
import Derived.Test.YtiehgcfckhepaaaGreatDoorQBE
import Derived.Test.YtiehgcfckhepaaaGreatDoorQBF
import Derived.Test.YtiehgcfckhepaaaGreatDoorQBG
set_option linter.unusedVariables false
set_option linter.unusedSimpArgs false
set_option maxRecDepth 100000
set_option maxHeartbeats 16000000
namespace Go.Proofs.YtiehgcfckhepaaaGreatDoor.itemsNone
open Go.RowKit
theorem proved:Rows.ItemsNoneCardSaid:=
 Claim7.holds_tied_plain_at .later [] [.data,.data,.data,.data,.pinned] true Rows.itemsNoneCard.stood.harness true
  holds (fun _ h=>by cases h) c1 (fun _ h=>by cases h) itemsNone_row_tie rfl ⟨rfl,rfl⟩ c2 rfl
  (fun f fn hf hfn=>by
   obtain rfl:f=6:=(Option.some.inj (fnum.symm.trans hf)).symm;obtain rfl:fn=Tryz.f6:=(Option.some.inj (Tryz.func6.symm.trans hfn)).symm;exact⟨c3,fun j t ht=>by
    rw[Tryz.params6] at ht;have hm:t∈[62,64]:=by simpa using Array.mem_of_getElem? ht
    exact(show Tryz.prog.wantsStandIn t=false by simpa using List.all_eq_true.1 c4 t hm)⟩)
  c5
end Go.Proofs.YtiehgcfckhepaaaGreatDoor.itemsNone
