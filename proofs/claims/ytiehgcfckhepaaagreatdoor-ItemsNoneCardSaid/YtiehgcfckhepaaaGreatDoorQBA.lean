/-
  Texts of this claim, laid together: INoneFac. Conditions: none.
-/
import Derived.Test.YtiehgcfckhepaaaGreatDoorQAO
import Derived.Test.YtiehgcfckhepaaaGreatDoorQAP
import Derived.Test.YtiehgcfckhepaaaGreatDoorQAQ
import Derived.Test.YtiehgcfckhepaaaGreatDoorQAR
import Derived.Test.YtiehgcfckhepaaaGreatDoorQAS
import Derived.Test.YtiehgcfckhepaaaGreatDoorQAT
import Derived.Test.YtiehgcfckhepaaaGreatDoorQAU
import Derived.Test.YtiehgcfckhepaaaGreatDoorQAV
import Derived.Test.YtiehgcfckhepaaaGreatDoorQAW
import Derived.Test.YtiehgcfckhepaaaGreatDoorQAX
import Derived.Test.YtiehgcfckhepaaaGreatDoorQAY
import Derived.Test.YtiehgcfckhepaaaGreatDoorQAZ
set_option linter.unusedVariables false
set_option linter.unusedSimpArgs false
set_option maxRecDepth 100000
set_option maxHeartbeats 16000000
namespace Go.Proofs.YtiehgcfckhepaaaGreatDoor.itemsNone
open Go.RowKit
theorem YI{a b:Bool}(h:a=true)(k:b=true):(a&&b)=true:=by rw[h,k];try rfl
theorem facts:joinedFacts Tryz.prog 6 Tryz.f6 Rows.itemsNoneSpec Rows.itemsNoneRow=true:=by
 unfold joinedFacts;exact(YI (YI (YI (YI (YI (YI (YI (YI (YI (YI (YI (YI (YI (YI (YI (YI (YI (YI (YI (YI (YI (YI (YI (YI (YI (YI (YI (YI (YI (YI (YI k0 k1) k2) k3) k4) k5) k6) k7) k8) k9) k10) k11) k12) k13) k14) k15) k16) k17) k18) k19) k20) k21) k22) k23) k24) k25) k26) k27) k28) k29) k30) k31)
end Go.Proofs.YtiehgcfckhepaaaGreatDoor.itemsNone
