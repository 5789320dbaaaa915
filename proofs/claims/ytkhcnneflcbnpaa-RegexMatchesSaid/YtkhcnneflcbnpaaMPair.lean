/-
  Of several expressions, nodes of two: the walk. Conditions: they lie in memory.
-/
import Derived.Test.YtkhcnneflcbnpaaMSize
import Derived.Great.BuildSlice
namespace Go.Proofs.Ytkhcnneflcbnpaa
open Go.RowKit

/-- the node of kind 2 or 3 -/
def twoB (k : Nat) (x y : Rb) : Rb := if k = 2 then .cat x y else .or x y

theorem one_set {C : Array Value} (h : C.all (·.oneCell') = true) (i : Nat) (v : Value) (hv : v.oneCell' = true) : (C.setIfInBounds i v).all (·.oneCell') = true := by
  rw [Array.all_eq_true_iff_forall_mem] at h ⊢
  intro x hx
  rcases Array.mem_or_eq_of_mem_setIfInBounds hx with h1 | h1
  · exact h x h1
  · subst h1; exact hv

theorem NC.made (k : Nat) (sl : Value) (hs : sl.oneCell' = true) : NC ((zeroC.setIfInBounds 0 (.int .i64 k)).setIfInBounds 257 sl) k sl := by
  have h0 := zeroC_size
  refine ⟨by simp [h0], ?_, ?_, one_set (one_set zeroC_one _ _ rfl) _ _ hs, fun _ => false, fun b hb => ?_⟩
  · rw [Array.getElem?_setIfInBounds_ne (by omega), Array.getElem?_setIfInBounds_self_of_lt (by omega)]
  · rw [Array.getElem?_setIfInBounds_self_of_lt (by simp [h0])]
  · rw [Array.getElem?_setIfInBounds_ne (by omega), Array.getElem?_setIfInBounds_ne (by omega)]; exact zeroC_b b hb

def pairB (k : Nat) : List Rb → Rb
  | [] => .empty
  | [x] => x
  | x :: y :: l => twoB k x (pairB k (y :: l))

theorem there_kn {w w' : World} (h : Kn w w') {b o n : Nat} (hr : w.there b o n) : w'.there b o n := fun j hj => by
  obtain ⟨h1, h2⟩ := hr j hj
  obtain ⟨v, hv⟩ := Option.isSome_iff_exists.1 h1
  have hb := h.block b (World.block_lt_of_cell? w _ hv) (fun x => x)
  refine ⟨by rw [kn_cell h hv]; rfl, ?_⟩
  unfold World.frozen? at *
  rw [hb]; exact h2
theorem there_new (w : World) (C : Array Value) : (w.alloc (.cells C TN (0, 0))).there w.heap.size 0 C.size := fun j hj => by
  refine ⟨?_, frozen_blk (blk_new w _) _⟩
  rw [cell_blk (blk_new w _), Nat.zero_add, Array.getElem?_eq_getElem hj]; rfl

set_option maxRecDepth 100000 in
set_option maxHeartbeats 1000000 in
theorem pair_one (k : Int) (t : Rb) (C : Array Value) (g o c : Nat) (N : Nat → Prop) (w : World) (h : NV w N t C) (hr : w.rangeAt g o C.toList) :
    Calls Try.prog 33 #[.int .i64 k, .slice (some ⟨g, o, none⟩) 1 c] w fun e w' => e = .returned (.agg C) ∧ Kn w w' := by
  have hl258 : C.toList.length = 258 := by rw [Array.length_toList]; exact h.size
  have hi258 : (Try.prog.info? TN).map (·.size) = some C.toList.length := by rw [hl258]; exact zero_node.2
  have hz := zero_node.1
  have hr2 := range_kn ((Kp.refl (fun _ => False) w).alloc (.cells zeroC TN (0, 0))) hr
  obtain ⟨sl, hC⟩ := h.nc
  have hone := hC.one
  have hcs : C.size = 258 := hC.size
  go_enter Try.func33, Try.ntmps33
  go_wp2_with fail
  refine wp_load_mid TN _ rfl g o rfl C.toList _ hr2 Try.underlying30 rfl hi258 ?_
  simp only [Array.toArray_toList]
  have hst := run_storeCells_new (P := Try.prog) w TN zeroC C (by rw [hcs]; exact zero_node.2) (by rw [hcs]; exact zeroC_size) hone
  have hld := run_loadCellsFrom_new (P := Try.prog) w TN C 258 hcs
  go_wp2_with fail
  exact bodyPost_ret (results_cell_row rfl _ _ w.heap.size TN C (0, 0) _ rfl (blk_new w _) Try.underlying30 rfl (by rw [hcs]; exact zero_node.2)) rfl ⟨rfl, (Kp.refl _ _).alloc _⟩

theorem flat_agg (vs : List (Array Value)) : (vs.map Value.agg).flatMap (fun v => v.cells.toList) = vs.flatMap Array.toList := by
  induction vs with
  | nil => rfl
  | cons C l ih =>
    rw [List.map_cons, List.flatMap_cons, List.flatMap_cons, ih]; rfl
theorem fill_nodes (vs : List (Array Value)) (cells : Array Value) (h : ∀ v ∈ vs, v.size = 258) (hn : vs.length * 258 = cells.size) :
    Instr.fill (fun i => some (i * 258, 258)) cells (((vs.map Value.agg).zipIdx 0).map fun x => (x.2, x.1)) = some (vs.flatMap Array.toList).toArray := by
  have := Great.fill_whole (s := 258) (by decide) (vs.map Value.agg) cells (by
    intro v hv
    obtain ⟨C, hC, rfl⟩ := List.mem_map.1 hv
    exact h C hC) (by simpa using hn)
  rw [this, flat_agg]
set_option maxRecDepth 100000 in
theorem node_info : ∃ ie, Try.prog.info? TN = some ie ∧ ie.zero = some (.agg zeroC) ∧ ie.size = 258 := by
  have h : (Try.prog.info? TN).map (fun i => (i.zero, i.size)) = some (some (.agg zeroC), 258) := by kernel_rfl
  cases hq : Try.prog.info? TN with
  | none => rw [hq] at h; cases h
  | some ie =>
    rw [hq] at h
    simp only [Option.map_some, Option.some.injEq, Prod.mk.injEq] at h
    exact ⟨ie, rfl, h.1, h.2⟩
/-- a slice of two nodes, as the program makes it -/
theorem wp_two {o : Oper} {a : Act} {w : World} {K : Act → World → Prop} {Q : Exit → Act → World → Prop} (x y : Operand) (X Y : Array Value) (ho : o.op = .buildSlice 28 2 #[(0, x), (1, y)])
    (hx : a.eval x = .agg X) (hy : a.eval y = .agg Y) (hX : X.size = 258) (hY : Y.size = 258)
    (h : K (a.put o.dst (.slice (some ⟨w.heap.size, 0, none⟩) 2 2)) (w.alloc (.cells (X ++ Y) TN))) : o.wp Try.prog a w K Q := by
  obtain ⟨ie, h1, h2, h3⟩ := node_info
  refine wp_buildSlice 28 TN 2 _ ho (X ++ Y) ie _ Try.underlying28 h1 h2 (by rw [h3]; decide) (by rw [h3]; decide) ?_ h
  have hf := fill_nodes [X, Y] ((Array.range (2 * ie.size)).map ((Value.agg zeroC).cells[· % (Value.agg zeroC).cells.size]!)) (by simp [hX, hY]) (by simp [h3])
  have e : (X.toList ++ Y.toList).toArray = X ++ Y := Array.toList_inj.1 (by simp)
  rw [h3] at hf ⊢
  rw [← e]
  simpa [hx, hy] using hf

set_option maxRecDepth 100000 in
set_option maxHeartbeats 4000000 in
theorem pair_step (k : Nat) (t : Rb) (C0 : Array Value) (g o m c : Nat) (N : Nat → Prop) (w : World) (h : NV w N t C0) (hr : w.rangeAt g o C0.toList) (hm : 2 ≤ m) (hm2 : m ≤ 10000000) (hmc : m ≤ c) (hc2 : c ≤ maxLen) (u : Rb) (hk23 : ¬ k = 2 → k = 3) (hN : ∀ g, w.heap.size ≤ g → N g)
    (hrec : ∀ W, Kn w W → w.heap.size < W.heap.size → Calls Try.prog 33 #[.int .i64 k, .slice (some ⟨g, o + 258, none⟩) (m - 1) (c - 1)] W fun e w' => ∃ C, e = .returned (.agg C) ∧ NV w' (fun g => N g ∧ g ≠ w.heap.size) u C ∧ Kn W w') :
    Calls Try.prog 33 #[.int .i64 k, .slice (some ⟨g, o, none⟩) m c] w fun e w' => ∃ C, e = .returned (.agg C) ∧ NV w' N (twoB k t u) C ∧ Kn w w' := by
  have hl258 : C0.toList.length = 258 := by rw [Array.length_toList]; exact h.size
  have hi258 : (Try.prog.info? TN).map (·.size) = some C0.toList.length := by rw [hl258]; exact zero_node.2
  have hi := zero_node.2
  have hz := zero_node.1
  have hu := Try.underlying30
  have hk0 : Kn w (w.alloc (.cells zeroC TN (0, 0))) := (Kp.refl (fun _ => False) w).alloc _
  have hr2 := range_kn hk0 hr
  have hth := there_new w zeroC
  rw [zeroC_size] at hth
  have HREC := Lib.hid hrec
  clear hrec
  have e1 : ¬ (m : Int) = 0 := by omega
  have e2 : ¬ (m : Int) = 1 := by omega
  have e3 : (1 : Int) ≤ m := by omega
  have e4 : (0 : Int) < m := by omega
  have zs := zeroC_size
  have zne : ¬ zeroC = #[] := fun x => by have := zeroC_size; rw [x] at this; cases this
  have n1 : m ≠ 0 := by omega
  have n2 : m ≠ 1 := by omega
  have n3 : 1 ≤ m := by omega
  have n4 : 0 < m := by omega
  have n5 : ¬ c = 1 := by omega
  have HK : Kn w (w.alloc (.cells zeroC TN (0, 0))).drew := hk0.drew
  go_enter Try.func33, Try.ntmps33
  go_wp2_with fail
  refine wp_region_held_drew (S := fun w' => w'.rangeAt g o C0.toList ∧ w'.there w.heap.size 0 258) (by kernel_rfl) ⟨range_kn ((Kp.refl _ _).drew) hr2, there_kn ((Kp.refl _ _).drew) hth⟩ (fun hHeld => ?_)
  refine wpAnyH_take (i := 0) (oi := Oper.mk (some 15) _ _ _ _ _) (v := ?_) rfl (by kernel_rfl) (by kernel_rfl) (by kernel_rfl) (fun _ _ _ h => h) (Or.inl ⟨by rfl, ?_⟩) (by assumption) ?_
  rotate_left
  · (intro w hSw; clear hSw; go_simp; try with_reducible rfl)
  try simp only [Act.put, List.setIfInBounds_toArray, List.set_cons_zero, List.set_cons_succ]
  refine wpAnyH_take (i := 1) (oi := Oper.mk (some 16) _ _ _ _ _) (v := ?_) rfl (by kernel_rfl) (by kernel_rfl) (by kernel_rfl) (fun _ _ _ h => h) (Or.inl ⟨by rfl, ?_⟩) (by assumption) ?_
  rotate_left
  · (intro w hSw; clear hSw; go_simp; try with_reducible rfl)
  try simp only [Act.put, List.setIfInBounds_toArray, List.set_cons_zero, List.set_cons_succ]
  refine wpAnyH_take (i := 2) (oi := Oper.mk (some 17) _ _ _ _ _) (v := ?_) rfl (by kernel_rfl) (by kernel_rfl) (by kernel_rfl) (fun _ _ _ h => h) (Or.inl ⟨by rfl, ?_⟩) (by assumption) ?_
  rotate_left
  · (intro w hSw; clear hSw; go_simp; try with_reducible rfl)
  try simp only [Act.put, List.setIfInBounds_toArray, List.set_cons_zero, List.set_cons_succ]
  refine wpAnyH_take (i := 3) (oi := Oper.mk (some 18) _ _ _ _ _) (v := _) rfl (by kernel_rfl) (by kernel_rfl) (by kernel_rfl) (fun _ _ _ h => h) (yieldsIf_load_mid (by rfl) TN _ rfl g o rfl C0.toList _ (fun _ h => h.1) hu rfl hi258) (by assumption) ?_
  try simp only [Act.put, List.setIfInBounds_toArray, List.set_cons_zero, List.set_cons_succ]
  refine wpAnyH_take (i := 4) (oi := Oper.mk (some 19) _ _ _ _ _) (v := ?_) rfl (by kernel_rfl) (by kernel_rfl) (by kernel_rfl) (fun _ _ _ h => h) (Or.inl ⟨by rfl, ?_⟩) (by assumption) ?_
  rotate_left
  · (intro w hSw; clear hSw; go_simp; try with_reducible rfl)
  try simp only [Act.put, List.setIfInBounds_toArray, List.set_cons_zero, List.set_cons_succ]
  refine wpAnyH_take (i := 5) (oi := Oper.mk (some 20) _ _ _ _ _) (v := ?_) rfl (by kernel_rfl) (by kernel_rfl) (by kernel_rfl) (fun _ _ _ h => h) (Or.inl ⟨by rfl, ?_⟩) (by assumption) ?_
  rotate_left
  · (intro w hSw; clear hSw; go_simp; try with_reducible rfl)
  try simp only [Act.put, List.setIfInBounds_toArray, List.set_cons_zero, List.set_cons_succ]
  refine wpAnyH_take (i := 6) (oi := Oper.mk (some 21) _ _ _ _ _) (v := ?_) rfl (by kernel_rfl) (by kernel_rfl) (by kernel_rfl) (fun _ _ _ h => h) (Or.inl ⟨by rfl, ?_⟩) (by assumption) ?_
  rotate_left
  · (intro w hSw; clear hSw; go_simp; try with_reducible rfl)
  try simp only [Act.put, List.setIfInBounds_toArray, List.set_cons_zero, List.set_cons_succ]
  refine wpAnyH_ready (rs := [7]) (by kernel_rfl) (by simp) (AllReadyH.cons (o := Oper.mk (some 22) _ _ _ _ _) rfl (fun K hK => ?_) AllReadyH.nil)
  go_simp
  go_at_call 33
  refine (HREC.out _ HK (by show _ < (w.alloc _).heap.size; rw [size_alloc']; omega)).mono ?_
  rintro e w2 ⟨C1, rfl, hC1, hk2⟩
  have HK2 := Kp.trans HK hk2
  dsimp only
  have hk3 : Kn (w.alloc (.cells zeroC TN (0, 0))) w2 := ((Kp.refl (fun _ => False) (w.alloc (.cells zeroC TN (0, 0)))).drew).trans hk2
  have hr3 := range_kn HK2 hr
  have hth3 := there_kn hk3 hth
  refine hK.out _ _ ⟨hr3, hth3⟩ (fun hHeld => ?_)
  clear hK K
  try simp only [Act.put, List.setIfInBounds_toArray, List.set_cons_zero, List.set_cons_succ]
  refine wpAnyH_ready (rs := [8]) (by kernel_rfl) (by simp) (AllReadyH.cons (o := Oper.mk (some 23) _ _ _ _ _) rfl (fun K hK => ?_) AllReadyH.nil)
  rw [if_pos (by rfl)]
  refine wp_two (.tmp 18) (.tmp 22) C0 C1 rfl rfl rfl h.size hC1.size ?_
  have hR3 : w2.heap[w.heap.size]? = some (.cells zeroC TN (0, 0)) := hk3.blk (blk_new w _) (fun x => x)
  have hR4 := blk_alloc hR3 (.cells (C0 ++ C1) TN (0, 0))
  have hr4 := range_kn ((Kp.refl (fun _ => False) w2).alloc (.cells (C0 ++ C1) TN (0, 0))) hr3
  have hth4 := there_kn ((Kp.refl (fun _ => False) w2).alloc (.cells (C0 ++ C1) TN (0, 0))) hth3
  refine hK.out _ _ ⟨hr4, hth4⟩ (fun hHeld => ?_)
  clear hK K
  try simp only [Act.put, List.setIfInBounds_toArray, List.set_cons_zero, List.set_cons_succ]
  refine wpAnyH_take (i := 9) (oi := Oper.mk (some 24) _ _ _ _ _) (v := ?_) rfl (by kernel_rfl) (by kernel_rfl) (by kernel_rfl) (fun _ _ _ h => h) (Or.inl ⟨by rfl, ?_⟩) (by assumption) ?_
  rotate_left
  · (intro w hSw; clear hSw; go_simp; try with_reducible rfl)
  try simp only [Act.put, List.setIfInBounds_toArray, List.set_cons_zero, List.set_cons_succ]
  refine wpAnyH_ready (rs := [10]) (by kernel_rfl) (by simp) (AllReadyH.cons (o := Oper.mk none _ _ _ _ _) rfl (fun K hK => ?_) AllReadyH.nil)
  rw [if_pos (by rfl)]
  obtain ⟨C, hCd⟩ : ∃ C, C = (zeroC.setIfInBounds 0 (.int .i64 k)).setIfInBounds 257 (.slice (some ⟨w2.heap.size, 0, none⟩) 2 2) := ⟨_, rfl⟩
  have hNC : NC C k (.slice (some ⟨w2.heap.size, 0, none⟩) 2 2) := by rw [hCd]; exact NC.made k _ rfl
  rw [← hCd]
  clear hCd
  refine wp_store_row TN _ _ rfl w.heap.size C rfl rfl TN zeroC hR4 (by rw [hNC.size]; exact hi) (by rw [hNC.size]; exact zs) hNC.one ?_
  have hgl : g < w.heap.size := by
    have := hr 0 (C0[0]'(by rw [h.size]; decide)) (by simp [h.size])
    exact World.block_lt_of_cell? w _ this
  have hsz2 : w.heap.size + 1 ≤ w2.heap.size := by have := hk3.size; rw [size_alloc'] at this; exact this
  have hKr : Kp (fun k => k = w.heap.size) (w2.alloc (.cells (C0 ++ C1) TN (0, 0))) ((w2.alloc (.cells (C0 ++ C1) TN (0, 0))).setRow w.heap.size C) :=
    ⟨rfl, rfl, rfl, by simp, fun k _ hk => setRow_other _ _ _ _ hk⟩
  have hblk := setRow_heap _ _ zeroC C TN (0, 0) hR4
  have hnew := hKr.blk (blk_new w2 (.cells (C0 ++ C1) TN (0, 0))) (by omega)
  have hu2 := (hC1.kn ((Kp.refl (fun _ => False) w2).alloc (.cells (C0 ++ C1) TN (0, 0)))).kp hKr (fun _ hg => hg.2)
  have hKn : Kn w ((w2.alloc (.cells (C0 ++ C1) TN (0, 0))).setRow w.heap.size C) := (HK2.alloc _).trans' hKr (fun i hi hx => by omega)
  have hr5 := range_kn hKn hr
  have ht2 := h.kn hKn
  revert hblk hnew hu2 hKn hr5 ht2
  generalize World.setRow _ _ _ = W5
  intro hblk hnew hu2 hKn hr5 ht2
  refine hK.out _ _ ⟨hr5, fun j hj => ⟨by rw [cell_blk hblk, Nat.zero_add, Array.getElem?_eq_getElem (by rw [hNC.size]; exact hj)]; rfl, frozen_blk hblk _⟩⟩ (fun hHeld => ?_)
  clear hK K
  refine wpAnyH_done (by kernel_rfl) ?_ _
  go_wp2_with fail
  refine bodyPost_ret (results_cell_row rfl _ _ w.heap.size TN C (0, 0) _ rfl hblk Try.underlying30 rfl (by rw [hNC.size]; exact zero_node.2)) rfl ⟨C, rfl, ?_, hKn⟩
  have hu3 : NV W5 N u C1 := hu2.mono (fun g hg _ => hg.1)
  unfold twoB
  split
  · rename_i hk2'
    subst hk2'
    exact ⟨w2.heap.size, C0, C1, hN _ (by omega), hNC, hnew, ht2, hu3⟩
  · exact ⟨w2.heap.size, C0, C1, hN _ (by omega), by rw [← hk23 ‹_›]; exact hNC, hnew, ht2, hu3⟩

end Go.Proofs.Ytkhcnneflcbnpaa
