/-
  Texts of this claim, laid together: INoneFacH. Conditions: none.
-/
import Derived.Test.YtiehgcfckhepaaaGreatDoorRows
import Derived.ProofKit
import Derived.JoinedOf
import Derived.Stop.Joined
set_option linter.unusedVariables false
set_option linter.unusedSimpArgs false
set_option maxRecDepth 100000
set_option maxHeartbeats 16000000
namespace Go.Proofs.YtiehgcfckhepaaaGreatDoor.itemsNone
open Go.RowKit
theorem fnum:Tryz.prog.funcNamed Rows.itemsNoneRow.func=some 6:=by kernel_rfl
theorem inst:Tryz.f6.isInstance Tryz.prog Rows.itemsNoneRow.origin Rows.itemsNoneRow.targs:=of_decide_eq_true (by kernel_rfl)
theorem wrap:Tryz.f6.isWrapper Tryz.prog Rows.itemsNoneRow.wrapper Rows.itemsNoneRow.mainSum:=by unfold Func.isWrapper;first|(rw[if_pos (by decide+kernel)];kernel_rfl)|(rw[if_neg (by decide+kernel)];exact⟨rfl,rfl⟩)
end Go.Proofs.YtiehgcfckhepaaaGreatDoor.itemsNone
