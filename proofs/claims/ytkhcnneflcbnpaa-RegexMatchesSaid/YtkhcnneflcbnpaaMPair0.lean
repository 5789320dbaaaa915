/-
  Of no expressions, the empty one: the walk. Conditions: none.
-/
import Derived.Test.YtkhcnneflcbnpaaMPairs
namespace Go.Proofs.Ytkhcnneflcbnpaa
open Go.RowKit

theorem NC.empty : NC (zeroC.setIfInBounds 0 (.int .i64 1)) 1 (.slice none 0 0) := by
  have h0 := zeroC_size
  refine ⟨by simp [h0], ?_, ?_, one_set zeroC_one _ _ rfl, fun _ => false, fun b hb => ?_⟩
  · rw [Array.getElem?_setIfInBounds_self_of_lt (by omega)]; rfl
  · rw [Array.getElem?_setIfInBounds_ne (by omega)]; exact zeroC_l
  · rw [Array.getElem?_setIfInBounds_ne (by omega)]; exact zeroC_b b hb

set_option maxRecDepth 100000 in
set_option maxHeartbeats 1000000 in
theorem pair_none (k : Int) (c : Nat) (a : Option Addr) (N : Nat → Prop) (w : World) :
    Calls Try.prog 33 #[.int .i64 k, .slice a 0 c] w fun e w' => ∃ C, e = .returned (.agg C) ∧ NV w' N .empty C ∧ Kn w w' := by
  have hz := zero_node.1
  have zs := zeroC_size
  have zne : ¬ zeroC = #[] := fun x => by have := zeroC_size; rw [x] at this; cases this
  have hNC := NC.empty
  have hst := run_storeCells_new (P := Try.prog) w TN zeroC (zeroC.setIfInBounds 0 (.int .i64 1)) (by rw [hNC.size]; exact zero_node.2) (by rw [hNC.size]; exact zeroC_size) hNC.one
  rw [Array.toList_setIfInBounds] at hst
  go_enter Try.func33, Try.ntmps33
  go_wp2_with fail
  exact bodyPost_ret (results_cell_row rfl _ _ w.heap.size TN (zeroC.setIfInBounds 0 (.int .i64 1)) (0, 0) _ rfl (blk_new w _) Try.underlying30 rfl (by rw [hNC.size]; exact zero_node.2)) rfl ⟨_, rfl, hNC, (Kp.refl _ _).alloc _⟩

end Go.Proofs.Ytkhcnneflcbnpaa
