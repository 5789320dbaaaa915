/-
  Texts of this claim, laid together: TNoneFacL. Conditions: none.
-/
import Derived.Test.YtopmadkajacniaaGreatDoorRows
import Derived.ProofKit
import Derived.JoinedOf
import Derived.Stop.Joined
set_option linter.unusedVariables false
set_option linter.unusedSimpArgs false
namespace Go.Proofs.YtopmadkajacniaaGreatDoor.setsNone
open Go.RowKit
theorem k30 : ((Rows.setsNoneRow.veiled == (Tryz.f10.params.toList ++ Rows.setsNoneSpec.plain.varTypes Tryz.prog ++ Tryz.f10.resultTypes.toList).any (Tryz.prog.veiledRec ·))) = true := by kernel_rfl
theorem k31 : (Rows.setsNoneRow.veiledFits Tryz.prog Tryz.f10.params.toList (Tryz.f10.params.toList ++ Rows.setsNoneSpec.plain.varTypes Tryz.prog ++ Tryz.f10.resultTypes.toList)) = true := by kernel_rfl
end Go.Proofs.YtopmadkajacniaaGreatDoor.setsNone
