/-
  Texts of this claim, laid together: TNoneHol. Conditions: none.
-/
import Derived.Test.YtopmadkajacniaaGreatDoorQAP
import Derived.Test.YtopmadkajacniaaGreatDoorQBC
set_option linter.unusedVariables false
set_option linter.unusedSimpArgs false
namespace Go.Proofs.YtopmadkajacniaaGreatDoor.setsNone
open Go.RowKit
theorem holds : Rows.SetsNoneSaid :=
 OpenClaim.holds_of_wide 10 Tryz.f10 rfl rfl rfl rfl rfl rfl rfl ⟨rfl, rfl, rfl, rfl, rfl⟩ rfl rfl rfl rfl rfl fnum Tryz.func10 facts inst wrap
  (fun os started H enc _ => lifted os started H enc)
end Go.Proofs.YtopmadkajacniaaGreatDoor.setsNone
