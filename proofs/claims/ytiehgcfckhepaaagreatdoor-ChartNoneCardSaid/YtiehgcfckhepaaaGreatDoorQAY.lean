/-
  Texts of this claim, laid together: CNoneFacL. Conditions: none.
-/
import Derived.Test.YtiehgcfckhepaaaGreatDoorRows
import Derived.ProofKit
import Derived.JoinedOf
import Derived.Stop.Joined
set_option linter.unusedVariables false
set_option linter.unusedSimpArgs false
set_option maxRecDepth 100000
set_option maxHeartbeats 16000000
namespace Go.Proofs.YtiehgcfckhepaaaGreatDoor.chartNone
open Go.RowKit
theorem k30:((Rows.chartNoneRow.veiled==(Tryz.f5.params.toList++Rows.chartNoneSpec.plain.varTypes Tryz.prog++Tryz.f5.resultTypes.toList).any (Tryz.prog.veiledRec ·)))=true:=by kernel_rfl
theorem k31:(Rows.chartNoneRow.veiledFits Tryz.prog Tryz.f5.params.toList (Tryz.f5.params.toList++Rows.chartNoneSpec.plain.varTypes Tryz.prog++Tryz.f5.resultTypes.toList))=true:=by kernel_rfl
end Go.Proofs.YtiehgcfckhepaaaGreatDoor.chartNone
