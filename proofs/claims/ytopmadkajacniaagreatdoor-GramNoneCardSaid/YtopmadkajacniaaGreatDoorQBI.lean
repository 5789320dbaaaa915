/-
  Texts of this claim, laid together: GNoneRow. Conditions: none.
-/
import Derived.Test.YtopmadkajacniaaGreatDoorQBC
import Derived.Test.YtopmadkajacniaaGreatDoorTie
import Derived.Test.YtopmadkajacniaaGreatDoorQBD
import Derived.Test.YtopmadkajacniaaGreatDoorQBE
import Derived.Test.YtopmadkajacniaaGreatDoorQBF
import Derived.Test.YtopmadkajacniaaGreatDoorQBG
import Derived.Test.YtopmadkajacniaaGreatDoorQBH
set_option linter.unusedVariables false
set_option linter.unusedSimpArgs false
namespace Go.Proofs.YtopmadkajacniaaGreatDoor.gramNone
open Go.RowKit
theorem proved : Rows.GramNoneCardSaid :=
 Claim7.holds_tied_plain_at .later [] [.data, .data, .data, .data, .pinned] true Rows.gramNoneCard.stood.harness true
  holds (fun _ h => by cases h) c1 (fun _ h => by cases h) gramNone_row_tie rfl ⟨rfl, rfl⟩ c2 rfl
  (fun f fn hf hfn => by
   obtain rfl : f = 4 := (Option.some.inj (fnum.symm.trans hf)).symm
   obtain rfl : fn = Tryz.f4 := (Option.some.inj (Tryz.func4.symm.trans hfn)).symm
   exact ⟨c3, fun j t ht => by
    rw [Tryz.params4] at ht
    have hm : t ∈ [3, 9] := by simpa using Array.mem_of_getElem? ht
    exact (show Tryz.prog.wantsStandIn t = false by simpa using List.all_eq_true.1 c4 t hm)⟩)
  c5
end Go.Proofs.YtopmadkajacniaaGreatDoor.gramNone
