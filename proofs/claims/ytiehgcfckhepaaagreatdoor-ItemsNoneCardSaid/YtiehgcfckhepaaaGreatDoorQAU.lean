/-
  Texts of this claim, laid together: INoneFacG. Conditions: none.
-/
import Derived.Test.YtiehgcfckhepaaaGreatDoorRows
import Derived.ProofKit
import Derived.JoinedOf
import Derived.Stop.Joined
set_option linter.unusedVariables false
set_option linter.unusedSimpArgs false
set_option maxRecDepth 100000
set_option maxHeartbeats 16000000
namespace Go.Proofs.YtiehgcfckhepaaaGreatDoor.itemsNone
open Go.RowKit
theorem k23:(Rows.itemsNoneRow.shortTexts.isNone)=true:=by kernel_rfl
theorem k27:((Tryz.prog.make==some Rows.itemsNoneRow.make))=true:=by kernel_rfl
theorem k28:((Rows.itemsNoneRow.kinds==(if Rows.itemsNoneRow.domain.isEmpty then[] else Tryz.f6.params.toList.map fun t=>match Tryz.prog.underlying t with|some (.int k)=>some k|_=>none)))=true:=by kernel_rfl
theorem k29:((Rows.itemsNoneRow.pinned==Rows.itemsNoneRow.pinnedBy))=true:=by kernel_rfl
end Go.Proofs.YtiehgcfckhepaaaGreatDoor.itemsNone
