/-
  Texts of this claim, laid together: INoneHol. Conditions: none.
-/
import Derived.Test.YtiehgcfckhepaaaGreatDoorQAN
import Derived.Test.YtiehgcfckhepaaaGreatDoorQBA
set_option linter.unusedVariables false
set_option linter.unusedSimpArgs false
set_option maxRecDepth 100000
set_option maxHeartbeats 16000000
namespace Go.Proofs.YtiehgcfckhepaaaGreatDoor.itemsNone
open Go.RowKit
theorem holds:Rows.ItemsNoneSaid:=
 OpenClaim.holds_of_wide 6 Tryz.f6 rfl rfl rfl rfl rfl rfl rfl ⟨rfl,rfl,rfl,rfl,rfl⟩ rfl rfl rfl rfl rfl fnum Tryz.func6 facts inst wrap
  (fun os started H enc _=>lifted os started H enc)
end Go.Proofs.YtiehgcfckhepaaaGreatDoor.itemsNone
