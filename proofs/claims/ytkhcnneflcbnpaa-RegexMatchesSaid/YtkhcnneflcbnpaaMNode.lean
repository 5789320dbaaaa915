/-
  The document's nodes, by value: 258 cells: what they are, and how they lie in memory. Conditions: none.
-/
import Derived.Test.YtkhcnneflcbnpaaMLet
import Derived.Deep.WholeRow
namespace Go.Proofs.Ytkhcnneflcbnpaa
open Go.RowKit

abbrev TN : TypeId := 30
/-- an expression, its sets told byte by byte -/
abbrev Rb := Re (Nat → Bool)

def zeroN (n : Nat) : Array Value := (Value.int .i64 0 :: (List.replicate n (Value.bool false) ++ [Value.slice none 0 0])).toArray
theorem zeroN_size (n : Nat) : (zeroN n).size = n + 2 := by simp [zeroN]
theorem zeroN_0 (n : Nat) : (zeroN n)[0]? = some (.int .i64 0) := by simp [zeroN]
theorem zeroN_b (n k : Nat) (hk : k < n) : (zeroN n)[k + 1]? = some (.bool false) := by
  unfold zeroN
  rw [List.getElem?_toArray, List.getElem?_cons_succ, List.getElem?_append_left (by simpa using hk), List.getElem?_replicate]
  simp [hk]
theorem zeroN_l (n : Nat) : (zeroN n)[n + 1]? = some (.slice none 0 0) := by
  unfold zeroN
  rw [List.getElem?_toArray, List.getElem?_cons_succ, List.getElem?_append_right (by simp)]
  simp
theorem zeroN_one (n : Nat) : (zeroN n).all (·.oneCell') = true := by
  rw [Array.all_eq_true_iff_forall_mem]
  intro v hv
  simp [zeroN] at hv
  rcases hv with h | h | h
  · subst h; rfl
  · rw [h.2]; rfl
  · subst h; rfl
def zeroC : Array Value := zeroN 256
theorem zeroC_size : zeroC.size = 258 := zeroN_size 256
theorem zeroC_0 : zeroC[0]? = some (.int .i64 0) := zeroN_0 256
theorem zeroC_b (k : Nat) (hk : k < 256) : zeroC[k + 1]? = some (.bool false) := zeroN_b 256 k hk
theorem zeroC_l : zeroC[257]? = some (.slice none 0 0) := zeroN_l 256
theorem zeroC_one : zeroC.all (·.oneCell') = true := zeroN_one 256

set_option maxRecDepth 100000 in
theorem zero_node : (∀ w, (zeroValue TN).run Try.prog w = .ok (.agg zeroC) w) ∧ (Try.prog.info? TN).map (·.size) = some 258 := by
  have h : (Try.prog.info? TN).map (fun i => (i.zero, i.size)) = some (some (.agg zeroC), 258) := by kernel_rfl
  exact zero_of_info h

/-- a node's cells: its kind, its bytes, its parts -/
structure NC (C : Array Value) (k : Nat) (sl : Value) : Prop where
  size : C.size = 258
  kind : C[0]? = some (.int .i64 k)
  parts : C[257]? = some sl
  one : C.all (·.oneCell') = true
  bytes : ∃ f : Nat → Bool, ∀ b, b < 256 → C[b + 1]? = some (.bool (f b))

/-- the cells C are an expression in memory, each of its blocks one of A -/
def NV (w : World) (N : Nat → Prop) : Rb → Array Value → Prop
  | .set f, C => NC C 0 (.slice none 0 0) ∧ ∀ b, b < 256 → C[b + 1]? = some (.bool (f b))
  | .empty, C => NC C 1 (.slice none 0 0)
  | .cat x y, C => ∃ (g : Nat) (X Y : Array Value), N g ∧ NC C 2 (.slice (some ⟨g, 0, none⟩) 2 2) ∧ w.heap[g]? = some (.cells (X ++ Y) TN (0, 0)) ∧ NV w N x X ∧ NV w N y Y
  | .or x y, C => ∃ (g : Nat) (X Y : Array Value), N g ∧ NC C 3 (.slice (some ⟨g, 0, none⟩) 2 2) ∧ w.heap[g]? = some (.cells (X ++ Y) TN (0, 0)) ∧ NV w N x X ∧ NV w N y Y
  | .star x, C => ∃ (g : Nat) (X : Array Value), N g ∧ NC C 4 (.slice (some ⟨g, 0, none⟩) 1 1) ∧ w.heap[g]? = some (.cells X TN (0, 0)) ∧ NV w N x X

theorem NV.kp {S : Nat → Prop} {w w' : World} {N : Nat → Prop} (hk : Kp S w w') (hS : ∀ k, N k → ¬ S k) : ∀ {t : Rb} {C : Array Value}, NV w N t C → NV w' N t C := by
  have hb : ∀ {g : Nat} {o : Obj}, N g → w.heap[g]? = some o → w'.heap[g]? = some o := fun hg h => hk.blk h (hS _ hg)
  intro t
  induction t with
  | set f => intro C h; exact h
  | empty => intro C h; exact h
  | cat x y ix iy => rintro C ⟨g, X, Y, h1, h2, h3, h4, h5⟩; exact ⟨g, X, Y, h1, h2, hb h1 h3, ix h4, iy h5⟩
  | or x y ix iy => rintro C ⟨g, X, Y, h1, h2, h3, h4, h5⟩; exact ⟨g, X, Y, h1, h2, hb h1 h3, ix h4, iy h5⟩
  | star x ix => rintro C ⟨g, X, h1, h2, h3, h4⟩; exact ⟨g, X, h1, h2, hb h1 h3, ix h4⟩
theorem NV.kn {w w' : World} {N : Nat → Prop} {t : Rb} {C : Array Value} (h : NV w N t C) (hk : Kn w w') : NV w' N t C := h.kp hk (fun _ _ x => x)
/-- what is of A is of a wider one, and its blocks are there -/
theorem NV.mono {w : World} {N M : Nat → Prop} (hNM : ∀ g, N g → g < w.heap.size → M g) : ∀ {t : Rb} {C : Array Value}, NV w N t C → NV w M t C := by
  intro t
  induction t with
  | set f => intro C h; exact h
  | empty => intro C h; exact h
  | cat x y ix iy => rintro C ⟨g, X, Y, h1, h2, h3, h4, h5⟩; exact ⟨g, X, Y, hNM g h1 (blk_lt h3), h2, h3, ix h4, iy h5⟩
  | or x y ix iy => rintro C ⟨g, X, Y, h1, h2, h3, h4, h5⟩; exact ⟨g, X, Y, hNM g h1 (blk_lt h3), h2, h3, ix h4, iy h5⟩
  | star x ix => rintro C ⟨g, X, h1, h2, h3, h4⟩; exact ⟨g, X, hNM g h1 (blk_lt h3), h2, h3, ix h4⟩
theorem NV.nc {w : World} {N : Nat → Prop} {t : Rb} {C : Array Value} (h : NV w N t C) : ∃ sl, NC C t.kind sl := by
  cases t with
  | set f => exact ⟨_, h.1⟩
  | empty => exact ⟨_, h⟩
  | cat x y => obtain ⟨g, X, Y, h1, h2, _⟩ := h; exact ⟨_, h2⟩
  | or x y => obtain ⟨g, X, Y, h1, h2, _⟩ := h; exact ⟨_, h2⟩
  | star x => obtain ⟨g, X, h1, h2, _⟩ := h; exact ⟨_, h2⟩
theorem NV.size {w : World} {N : Nat → Prop} {t : Rb} {C : Array Value} (h : NV w N t C) : C.size = 258 := by
  obtain ⟨sl, hc⟩ := h.nc; exact hc.size

/-- the parts, one behind the other -/
inductive NVs (w : World) (N : Nat → Prop) : List Rb → List (Array Value) → Prop where
  | nil : NVs w N [] []
  | cons {t : Rb} {C : Array Value} {ts : List Rb} {Cs : List (Array Value)} : NV w N t C → NVs w N ts Cs → NVs w N (t :: ts) (C :: Cs)

/-- one way to look at any node -/
theorem NV.look {w : World} {N : Nat → Prop} {t : Rb} {C : Array Value} (h : NV w N t C) : ∃ (sa : Option Addr) (Cs : List (Array Value)),
    NC C t.kind (.slice sa Cs.length Cs.length) ∧ NVs w N t.parts Cs ∧ Cs.length ≤ 2 ∧
    (∀ i, (hi : i < Cs.length) → ∃ g : Nat, sa = some ⟨g, 0, none⟩ ∧ w.rangeAt g (258 * i) Cs[i].toList) := by
  have r0 : ∀ (g : Nat) (X Y : Array Value), w.heap[g]? = some (.cells (X ++ Y) TN (0, 0)) → X.size = 258 → w.rangeAt g 0 X.toList := fun g X Y hg hs j v hv => by
    rw [cell_blk hg, Nat.zero_add]
    have hj : j < X.size := by
      rcases Nat.lt_or_ge j X.size with h | h
      · exact h
      · simp [List.getElem?_eq_none (l := X.toList) (i := j) (by simpa using h)] at hv
    rw [Array.getElem?_append_left hj]; simpa using hv
  have r1 : ∀ (g : Nat) (X Y : Array Value), w.heap[g]? = some (.cells (X ++ Y) TN (0, 0)) → X.size = 258 → w.rangeAt g 258 Y.toList := fun g X Y hg hs j v hv => by
    rw [cell_blk hg, Array.getElem?_append_right (by omega), hs, Nat.add_sub_cancel_left]; simpa using hv
  cases t with
  | set f => exact ⟨none, [], h.1, .nil, by simp, fun i hi => by simp at hi⟩
  | empty => exact ⟨none, [], h, .nil, by simp, fun i hi => by simp at hi⟩
  | cat x y =>
    obtain ⟨g, X, Y, h1, h2, h3, h4, h5⟩ := h
    refine ⟨some ⟨g, 0, none⟩, [X, Y], h2, .cons h4 (.cons h5 .nil), by simp, fun i hi => ⟨g, rfl, ?_⟩⟩
    match i, hi with
    | 0, _ => exact r0 g X Y h3 h4.size
    | 1, _ => exact r1 g X Y h3 h4.size
  | or x y =>
    obtain ⟨g, X, Y, h1, h2, h3, h4, h5⟩ := h
    refine ⟨some ⟨g, 0, none⟩, [X, Y], h2, .cons h4 (.cons h5 .nil), by simp, fun i hi => ⟨g, rfl, ?_⟩⟩
    match i, hi with
    | 0, _ => exact r0 g X Y h3 h4.size
    | 1, _ => exact r1 g X Y h3 h4.size
  | star x =>
    obtain ⟨g, X, h1, h2, h3, h4⟩ := h
    refine ⟨some ⟨g, 0, none⟩, [X], h2, .cons h4 .nil, by simp, fun i hi => ⟨g, rfl, ?_⟩⟩
    match i, hi with
    | 0, _ =>
      intro j v hv
      rw [cell_blk h3, Nat.mul_zero, Nat.zero_add]; simpa using hv

end Go.Proofs.Ytkhcnneflcbnpaa
