/-
  Texts of this claim, laid together: PNoneCarA. Conditions: none.
-/
import Derived.Test.YtiehgcfckhepaaaGreatDoorRows
import Derived.Test.YtiehgcfckhepaaaGreatDoorCards
import Derived.SevenTiedAt
set_option linter.unusedVariables false
set_option linter.unusedSimpArgs false
set_option maxRecDepth 100000
set_option maxHeartbeats 16000000
namespace Go.Proofs.YtiehgcfckhepaaaGreatDoor.paintNone
open Go
theorem c1:Rows.paintNoneRow.wfByText (OpenSpec.ofChange Rows.paintNoneSpec)=true:=by kernel_rfl
end Go.Proofs.YtiehgcfckhepaaaGreatDoor.paintNone
