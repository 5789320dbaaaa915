/-
  Texts of this claim, laid together: GNoneCarB. Conditions: none.
-/
import Derived.Test.YtopmadkajacniaaGreatDoorRows
import Derived.Test.YtopmadkajacniaaGreatDoorCards
import Derived.SevenTiedAt
set_option linter.unusedVariables false
set_option linter.unusedSimpArgs false
namespace Go.Proofs.YtopmadkajacniaaGreatDoor.gramNone
open Go
theorem c2 : Tryz.prog.mainIs = some (Rows.gramNoneCard.stood.harness.1, Rows.gramNoneCard.stood.harness.2.toList) := by kernel_rfl
end Go.Proofs.YtopmadkajacniaaGreatDoor.gramNone
