/-
  Texts of this claim, laid together: TNoneCarE. Conditions: none.
-/
import Derived.Test.YtopmadkajacniaaGreatDoorRows
import Derived.Test.YtopmadkajacniaaGreatDoorCards
import Derived.SevenTiedAt
set_option linter.unusedVariables false
set_option linter.unusedSimpArgs false
namespace Go.Proofs.YtopmadkajacniaaGreatDoor.setsNone
open Go
theorem c5 : false = Rows.setsNoneRow.goesBy Tryz.prog := by kernel_rfl
end Go.Proofs.YtopmadkajacniaaGreatDoor.setsNone
