/-
  A node of bytes, as it is made: cell by cell. Conditions: none.
-/
import Derived.Test.YtkhcnneflcbnpaaMPair0
namespace Go.Proofs.Ytkhcnneflcbnpaa
open Go.RowKit

/-- a node without parts, of kind 0: its bytes told by f -/
structure SC (C : Array Value) (f : Nat → Bool) : Prop where
  nc : NC C 0 (.slice none 0 0)
  byte : ∀ b, b < 256 → C[b + 1]? = some (.bool (f b))

theorem SC.zero : SC zeroC (fun _ => false) :=
  ⟨⟨zeroC_size, zeroC_0, zeroC_l, zeroC_one, fun _ => false, fun b hb => zeroC_b b hb⟩, fun b hb => zeroC_b b hb⟩
theorem SC.put {C : Array Value} {f : Nat → Bool} (h : SC C f) (b : Nat) (hb : b < 256) (v : Bool) : SC (C.setIfInBounds (b + 1) (.bool v)) (fun x => if x = b then v else f x) := by
  have hs := h.nc.size
  have hbyte : ∀ x, x < 256 → (C.setIfInBounds (b + 1) (.bool v))[x + 1]? = some (.bool (if x = b then v else f x)) := fun x hx => by
    by_cases e : x = b
    · subst e; rw [Array.getElem?_setIfInBounds_self_of_lt (by omega), if_pos rfl]
    · rw [Array.getElem?_setIfInBounds_ne (by omega), if_neg e]; exact h.byte x hx
  refine ⟨⟨by simp [hs], ?_, ?_, one_set h.nc.one _ _ rfl, _, hbyte⟩, hbyte⟩
  · rw [Array.getElem?_setIfInBounds_ne (by omega)]; exact h.nc.kind
  · rw [Array.getElem?_setIfInBounds_ne (by omega)]; exact h.nc.parts
theorem SC.nv {C : Array Value} {f : Nat → Bool} (h : SC C f) (w : World) (N : Nat → Prop) : NV w N (.set f) C := ⟨h.nc, h.byte⟩

end Go.Proofs.Ytkhcnneflcbnpaa
