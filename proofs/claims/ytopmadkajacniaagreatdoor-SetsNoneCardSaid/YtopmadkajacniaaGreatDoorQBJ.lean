/-
  Texts of this claim, laid together: TNoneRow. Conditions: none.
-/
import Derived.Test.YtopmadkajacniaaGreatDoorQBD
import Derived.Test.YtopmadkajacniaaGreatDoorTie
import Derived.Test.YtopmadkajacniaaGreatDoorQBE
import Derived.Test.YtopmadkajacniaaGreatDoorQBF
import Derived.Test.YtopmadkajacniaaGreatDoorQBG
import Derived.Test.YtopmadkajacniaaGreatDoorQBH
import Derived.Test.YtopmadkajacniaaGreatDoorQBI
set_option linter.unusedVariables false
set_option linter.unusedSimpArgs false
namespace Go.Proofs.YtopmadkajacniaaGreatDoor.setsNone
open Go.RowKit
theorem proved : Rows.SetsNoneCardSaid :=
 Claim7.holds_tied_plain_at .later [] [.data, .data, .data, .data, .pinned] true Rows.setsNoneCard.stood.harness true
  holds (fun _ h => by cases h) c1 (fun _ h => by cases h) setsNone_row_tie rfl ⟨rfl, rfl⟩ c2 rfl
  (fun f fn hf hfn => by
   obtain rfl : f = 10 := (Option.some.inj (fnum.symm.trans hf)).symm
   obtain rfl : fn = Tryz.f10 := (Option.some.inj (Tryz.func10.symm.trans hfn)).symm
   exact ⟨c3, fun j t ht => by
    rw [Tryz.params10] at ht
    have hm : t ∈ [3] := by simpa using Array.mem_of_getElem? ht
    exact (show Tryz.prog.wantsStandIn t = false by simpa using List.all_eq_true.1 c4 t hm)⟩)
  c5
end Go.Proofs.YtopmadkajacniaaGreatDoor.setsNone
