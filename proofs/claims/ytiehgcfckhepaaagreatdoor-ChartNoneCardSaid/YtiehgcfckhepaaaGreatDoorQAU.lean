/-
  Texts of this claim, laid together: CNoneFacG. Conditions: none.
-/
import Derived.Test.YtiehgcfckhepaaaGreatDoorRows
import Derived.ProofKit
import Derived.JoinedOf
import Derived.Stop.Joined
set_option linter.unusedVariables false
set_option linter.unusedSimpArgs false
set_option maxRecDepth 100000
set_option maxHeartbeats 16000000
namespace Go.Proofs.YtiehgcfckhepaaaGreatDoor.chartNone
open Go.RowKit
theorem k23:(Rows.chartNoneRow.shortTexts.isNone)=true:=by kernel_rfl
theorem k27:((Tryz.prog.make==some Rows.chartNoneRow.make))=true:=by kernel_rfl
theorem k28:((Rows.chartNoneRow.kinds==(if Rows.chartNoneRow.domain.isEmpty then[] else Tryz.f5.params.toList.map fun t=>match Tryz.prog.underlying t with|some (.int k)=>some k|_=>none)))=true:=by kernel_rfl
theorem k29:((Rows.chartNoneRow.pinned==Rows.chartNoneRow.pinnedBy))=true:=by kernel_rfl
end Go.Proofs.YtiehgcfckhepaaaGreatDoor.chartNone
