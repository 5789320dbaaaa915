/-
  Texts of this claim, laid together: GNoneCarA. Conditions: none.
-/
import Derived.Test.YtopmadkajacniaaGreatDoorRows
import Derived.Test.YtopmadkajacniaaGreatDoorCards
import Derived.SevenTiedAt
set_option linter.unusedVariables false
set_option linter.unusedSimpArgs false
namespace Go.Proofs.YtopmadkajacniaaGreatDoor.gramNone
open Go
theorem c1 : Rows.gramNoneRow.wfByText (OpenSpec.ofChange Rows.gramNoneSpec) = true := by kernel_rfl
end Go.Proofs.YtopmadkajacniaaGreatDoor.gramNone
