/-
  Texts of this claim, laid together: TNoneFacG. Conditions: none.
-/
import Derived.Test.YtopmadkajacniaaGreatDoorRows
import Derived.ProofKit
import Derived.JoinedOf
import Derived.Stop.Joined
set_option linter.unusedVariables false
set_option linter.unusedSimpArgs false
namespace Go.Proofs.YtopmadkajacniaaGreatDoor.setsNone
open Go.RowKit
theorem k23 : (Rows.setsNoneRow.shortTexts.isNone) = true := by kernel_rfl
theorem k27 : ((Tryz.prog.make == some Rows.setsNoneRow.make)) = true := by kernel_rfl
theorem k28 : ((Rows.setsNoneRow.kinds == (if Rows.setsNoneRow.domain.isEmpty then [] else Tryz.f10.params.toList.map fun t => match Tryz.prog.underlying t with | some (.int k) => some k | _ => none))) = true := by kernel_rfl
theorem k29 : ((Rows.setsNoneRow.pinned == Rows.setsNoneRow.pinnedBy)) = true := by kernel_rfl
end Go.Proofs.YtopmadkajacniaaGreatDoor.setsNone
