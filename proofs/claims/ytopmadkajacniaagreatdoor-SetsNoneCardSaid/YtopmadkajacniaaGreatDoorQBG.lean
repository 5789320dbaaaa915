/-
  Texts of this claim, laid together: TNoneCarC. Conditions: none.
-/
import Derived.Test.YtopmadkajacniaaGreatDoorRows
import Derived.Test.YtopmadkajacniaaGreatDoorCards
import Derived.SevenTiedAt
set_option linter.unusedVariables false
set_option linter.unusedSimpArgs false
namespace Go.Proofs.YtopmadkajacniaaGreatDoor.setsNone
open Go
theorem c3 : true = Tryz.prog.looks [] := by kernel_rfl
end Go.Proofs.YtopmadkajacniaaGreatDoor.setsNone
