/-
  Texts of this claim, laid together: UNoneHol. Conditions: none.
-/
import Derived.Test.YtiehgcfckhepaaaGreatDoorQAM
import Derived.Test.YtiehgcfckhepaaaGreatDoorQAZ
set_option linter.unusedVariables false
set_option linter.unusedSimpArgs false
set_option maxRecDepth 100000
set_option maxHeartbeats 16000000
namespace Go.Proofs.YtiehgcfckhepaaaGreatDoor.usefulNone
open Go.RowKit
theorem holds:Rows.UsefulNoneSaid:=
 OpenClaim.holds_of_wide 3 Tryz.f3 rfl rfl rfl rfl rfl rfl rfl ⟨rfl,rfl,rfl,rfl,rfl⟩ rfl rfl rfl rfl rfl fnum Tryz.func3 facts inst wrap
  (fun os started H enc _=>lifted os started H enc)
end Go.Proofs.YtiehgcfckhepaaaGreatDoor.usefulNone
