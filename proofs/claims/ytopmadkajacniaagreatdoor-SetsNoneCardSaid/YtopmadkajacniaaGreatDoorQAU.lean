/-
  Texts of this claim, laid together: TNoneFacE. Conditions: none.
-/
import Derived.Test.YtopmadkajacniaaGreatDoorRows
import Derived.ProofKit
import Derived.JoinedOf
import Derived.Stop.Joined
set_option linter.unusedVariables false
set_option linter.unusedSimpArgs false
namespace Go.Proofs.YtopmadkajacniaaGreatDoor.setsNone
open Go.RowKit
theorem k12 : ((Rows.setsNoneRow.named == Tryz.prog.varsNamed (10 : Nat))) = true := by kernel_rfl
end Go.Proofs.YtopmadkajacniaaGreatDoor.setsNone
