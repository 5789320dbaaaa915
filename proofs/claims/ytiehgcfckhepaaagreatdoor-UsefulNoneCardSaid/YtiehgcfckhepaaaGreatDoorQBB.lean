/-
  Texts of this claim, laid together: UNoneCarA. Conditions: none.
-/
import Derived.Test.YtiehgcfckhepaaaGreatDoorRows
import Derived.Test.YtiehgcfckhepaaaGreatDoorCards
import Derived.SevenTiedAt
set_option linter.unusedVariables false
set_option linter.unusedSimpArgs false
set_option maxRecDepth 100000
set_option maxHeartbeats 16000000
namespace Go.Proofs.YtiehgcfckhepaaaGreatDoor.usefulNone
open Go
theorem c1:Rows.usefulNoneRow.wfByText (OpenSpec.ofChange Rows.usefulNoneSpec)=true:=by kernel_rfl
end Go.Proofs.YtiehgcfckhepaaaGreatDoor.usefulNone
