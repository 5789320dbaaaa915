/-
  Texts of this claim, laid together: INoneFacJ. Conditions: none.
-/
import Derived.Test.YtiehgcfckhepaaaGreatDoorRows
import Derived.ProofKit
import Derived.JoinedOf
import Derived.Stop.Joined
set_option linter.unusedVariables false
set_option linter.unusedSimpArgs false
set_option maxRecDepth 100000
set_option maxHeartbeats 16000000
namespace Go.Proofs.YtiehgcfckhepaaaGreatDoor.itemsNone
open Go.RowKit
theorem k25:(Tryz.prog.mayEnter)=true:=by kernel_rfl
end Go.Proofs.YtiehgcfckhepaaaGreatDoor.itemsNone
