/-
  Texts of this claim, laid together: GNoneHol. Conditions: none.
-/
import Derived.Test.YtopmadkajacniaaGreatDoorQAO
import Derived.Test.YtopmadkajacniaaGreatDoorQBB
set_option linter.unusedVariables false
set_option linter.unusedSimpArgs false
namespace Go.Proofs.YtopmadkajacniaaGreatDoor.gramNone
open Go.RowKit
theorem holds : Rows.GramNoneSaid :=
 OpenClaim.holds_of_wide 4 Tryz.f4 rfl rfl rfl rfl rfl rfl rfl ⟨rfl, rfl, rfl, rfl, rfl⟩ rfl rfl rfl rfl rfl fnum Tryz.func4 facts inst wrap
  (fun os started H enc _ => lifted os started H enc)
end Go.Proofs.YtopmadkajacniaaGreatDoor.gramNone
