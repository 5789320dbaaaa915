/-
  Texts of this claim, laid together: PNoneHol. Conditions: none.
-/
import Derived.Test.YtiehgcfckhepaaaGreatDoorQAK
import Derived.Test.YtiehgcfckhepaaaGreatDoorQAX
set_option linter.unusedVariables false
set_option linter.unusedSimpArgs false
set_option maxRecDepth 100000
set_option maxHeartbeats 16000000
namespace Go.Proofs.YtiehgcfckhepaaaGreatDoor.paintNone
open Go.RowKit
theorem holds:Rows.PaintNoneSaid:=
 OpenClaim.holds_of_wide 4 Tryz.f4 rfl rfl rfl rfl rfl rfl rfl ⟨rfl,rfl,rfl,rfl,rfl⟩ rfl rfl rfl rfl rfl fnum Tryz.func4 facts inst wrap
  (fun os started H enc _=>lifted os started H enc)
end Go.Proofs.YtiehgcfckhepaaaGreatDoor.paintNone
