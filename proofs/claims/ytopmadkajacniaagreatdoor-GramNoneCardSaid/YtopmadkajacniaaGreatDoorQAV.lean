/-
  Texts of this claim, laid together: GNoneFacG. Conditions: none.
-/
import Derived.Test.YtopmadkajacniaaGreatDoorRows
import Derived.ProofKit
import Derived.JoinedOf
import Derived.Stop.Joined
set_option linter.unusedVariables false
set_option linter.unusedSimpArgs false
namespace Go.Proofs.YtopmadkajacniaaGreatDoor.gramNone
open Go.RowKit
theorem k23 : (Rows.gramNoneRow.shortTexts.isNone) = true := by kernel_rfl
theorem k27 : ((Tryz.prog.make == some Rows.gramNoneRow.make)) = true := by kernel_rfl
theorem k28 : ((Rows.gramNoneRow.kinds == (if Rows.gramNoneRow.domain.isEmpty then [] else Tryz.f4.params.toList.map fun t => match Tryz.prog.underlying t with | some (.int k) => some k | _ => none))) = true := by kernel_rfl
theorem k29 : ((Rows.gramNoneRow.pinned == Rows.gramNoneRow.pinnedBy)) = true := by kernel_rfl
end Go.Proofs.YtopmadkajacniaaGreatDoor.gramNone
