/-
  Texts of this claim, laid together: UNoneFacL. Conditions: none.
-/
import Derived.Test.YtiehgcfckhepaaaGreatDoorRows
import Derived.ProofKit
import Derived.JoinedOf
import Derived.Stop.Joined
set_option linter.unusedVariables false
set_option linter.unusedSimpArgs false
set_option maxRecDepth 100000
set_option maxHeartbeats 16000000
namespace Go.Proofs.YtiehgcfckhepaaaGreatDoor.usefulNone
open Go.RowKit
theorem k30:((Rows.usefulNoneRow.veiled==(Tryz.f3.params.toList++Rows.usefulNoneSpec.plain.varTypes Tryz.prog++Tryz.f3.resultTypes.toList).any (Tryz.prog.veiledRec ·)))=true:=by kernel_rfl
theorem k31:(Rows.usefulNoneRow.veiledFits Tryz.prog Tryz.f3.params.toList (Tryz.f3.params.toList++Rows.usefulNoneSpec.plain.varTypes Tryz.prog++Tryz.f3.resultTypes.toList))=true:=by kernel_rfl
end Go.Proofs.YtiehgcfckhepaaaGreatDoor.usefulNone
