/-
  Texts of this claim, laid together: CNoneHol. Conditions: none.
-/
import Derived.Test.YtiehgcfckhepaaaGreatDoorQAN
import Derived.Test.YtiehgcfckhepaaaGreatDoorQBA
set_option linter.unusedVariables false
set_option linter.unusedSimpArgs false
set_option maxRecDepth 100000
set_option maxHeartbeats 16000000
namespace Go.Proofs.YtiehgcfckhepaaaGreatDoor.chartNone
open Go.RowKit
theorem holds:Rows.ChartNoneSaid:=
 OpenClaim.holds_of_wide 5 Tryz.f5 rfl rfl rfl rfl rfl rfl rfl ⟨rfl,rfl,rfl,rfl,rfl⟩ rfl rfl rfl rfl rfl fnum Tryz.func5 facts inst wrap
  (fun os started H enc _=>lifted os started H enc)
end Go.Proofs.YtiehgcfckhepaaaGreatDoor.chartNone
