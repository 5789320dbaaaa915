/-
  Texts of this claim, laid together: TNoneFac. Conditions: none.
-/
import Derived.Test.YtopmadkajacniaaGreatDoorQAQ
import Derived.Test.YtopmadkajacniaaGreatDoorQAR
import Derived.Test.YtopmadkajacniaaGreatDoorQAS
import Derived.Test.YtopmadkajacniaaGreatDoorQAT
import Derived.Test.YtopmadkajacniaaGreatDoorQAU
import Derived.Test.YtopmadkajacniaaGreatDoorQAV
import Derived.Test.YtopmadkajacniaaGreatDoorQAW
import Derived.Test.YtopmadkajacniaaGreatDoorQAX
import Derived.Test.YtopmadkajacniaaGreatDoorQAY
import Derived.Test.YtopmadkajacniaaGreatDoorQAZ
import Derived.Test.YtopmadkajacniaaGreatDoorQBA
import Derived.Test.YtopmadkajacniaaGreatDoorQBB
set_option linter.unusedVariables false
set_option linter.unusedSimpArgs false
namespace Go.Proofs.YtopmadkajacniaaGreatDoor.setsNone
open Go.RowKit
theorem both {a b : Bool} (h : a = true) (k : b = true) : (a && b) = true := by rw [h, k]; rfl
set_option maxRecDepth 100000 in
theorem facts : joinedFacts Tryz.prog 10 Tryz.f10 Rows.setsNoneSpec Rows.setsNoneRow = true := by
 unfold joinedFacts
 exact (both (both (both (both (both (both (both (both (both (both (both (both (both (both (both (both (both (both (both (both (both (both (both (both (both (both (both (both (both (both (both k0 k1) k2) k3) k4) k5) k6) k7) k8) k9) k10) k11) k12) k13) k14) k15) k16) k17) k18) k19) k20) k21) k22) k23) k24) k25) k26) k27) k28) k29) k30) k31)
end Go.Proofs.YtopmadkajacniaaGreatDoor.setsNone
