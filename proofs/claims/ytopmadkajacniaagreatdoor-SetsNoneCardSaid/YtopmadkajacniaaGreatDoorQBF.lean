/-
  Texts of this claim, laid together: TNoneCarB. Conditions: none.
-/
import Derived.Test.YtopmadkajacniaaGreatDoorRows
import Derived.Test.YtopmadkajacniaaGreatDoorCards
import Derived.SevenTiedAt
set_option linter.unusedVariables false
set_option linter.unusedSimpArgs false
namespace Go.Proofs.YtopmadkajacniaaGreatDoor.setsNone
open Go
theorem c2 : Tryz.prog.mainIs = some (Rows.setsNoneCard.stood.harness.1, Rows.setsNoneCard.stood.harness.2.toList) := by kernel_rfl
end Go.Proofs.YtopmadkajacniaaGreatDoor.setsNone
