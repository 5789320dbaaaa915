/-
  How many nodes an expression of the document's has: the walk. Conditions: the expression lies in memory.
-/
import Derived.Test.YtkhcnneflcbnpaaMNode
namespace Go.Proofs.Ytkhcnneflcbnpaa
open Go.RowKit

/-- of the first k parts, and the node itself -/
def qsum (t : Rb) (k : Nat) : Nat := 1 + ((t.parts.take k).map Re.size).sum
theorem qsum_all (t : Rb) : qsum t t.parts.length = t.size := by
  cases t <;> simp [qsum, Re.parts, Re.size] <;> omega
theorem qsum_succ (t : Rb) (k : Nat) (hk : k < t.parts.length) : qsum t (k + 1) = qsum t k + t.parts[k].size := by
  simp only [qsum, List.take_add_one, List.getElem?_eq_getElem hk, List.map_append, List.sum_append]
  simp; omega
theorem size_pos1 (t : Rb) : 1 ≤ t.size := by cases t <;> simp [Re.size] <;> omega
theorem wrap_add (a b : Int) : wrap64 (wrap64 a + wrap64 b) = wrap64 (a + b) := by unfold wrap64; omega
theorem NVs.len {w : World} {N : Nat → Prop} {ts : List Rb} {Cs : List (Array Value)} (h : NVs w N ts Cs) : ts.length = Cs.length := by
  induction h with
  | nil => rfl
  | cons _ _ ih => simp [ih]
theorem NVs.get {w : World} {N : Nat → Prop} {ts : List Rb} {Cs : List (Array Value)} (h : NVs w N ts Cs) : ∀ (i : Nat) (hi : i < ts.length) (hq : i < Cs.length), NV w N ts[i] Cs[i] := by
  induction h with
  | nil => intro i hi; simp at hi
  | cons a _ ih =>
    intro i hi hq
    cases i with
    | zero => exact a
    | succ i => exact ih i (by simpa using hi) (by simpa using hq)
theorem part_size (t : Rb) (k : Nat) (hk : k < t.parts.length) : t.parts[k].size < t.size := by
  cases t with
  | set f => simp [Re.parts] at hk
  | empty => simp [Re.parts] at hk
  | cat x y =>
    match k, hk with
    | 0, _ => simp [Re.parts, Re.size]; omega
    | 1, _ => simp [Re.parts, Re.size]; omega
  | or x y =>
    match k, hk with
    | 0, _ => simp [Re.parts, Re.size]; omega
    | 1, _ => simp [Re.parts, Re.size]; omega
  | star x =>
    match k, hk with
    | 0, _ => simp [Re.parts, Re.size]
theorem range_kn {w w' : World} (h : Kn w w') {b o : Nat} {cs : List Value} (hr : w.rangeAt b o cs) : w'.rangeAt b o cs := fun j v hv => kn_cell h (hr j v hv)

theorem load_cells {P : Program} {w : World} {g o n : Nat} {C : Array Value} (h : w.rangeAt g o C.toList) (hn : C.toList.length = n) :
    (loadCellsFrom ⟨g, o, none⟩ 0 n #[]).run P w = .ok C w := by
  have := run_loadCells_list (P := P) w ⟨g, o, none⟩ C.toList (fun j v hv => by rw [Addr.add_mid]; exact h j v hv)
  rw [hn] at this
  simpa [loadCells] using this

set_option maxRecDepth 100000 in
set_option maxHeartbeats 1000000 in
theorem SizeR_all (n : Nat) : ∀ (t : Rb) (C : Array Value) (N : Nat → Prop) (w : World), t.size ≤ n → NV w N t C →
    Calls Try.prog 24 #[.agg C] w fun e w' => e = .returned (.int .i64 (wrap64 t.size)) ∧ Kn w w' := by
  induction n with
  | zero => intro t C N w h; have := size_pos1 t; omega
  | succ n ih =>
    intro t C N w hn h
    obtain ⟨sa, Cs, hC, hps, hl2, hrg⟩ := h.look
    have hlen := hps.len
    have IH := Lib.hid ih
    have HR := Lib.hid hrg
    have HP := Lib.hid hps
    have hsz := hC.size
    have hc9 : (w.alloc (.cells C TN (0, 0))).cell? ⟨w.heap.size, 257, none⟩ = some (.slice sa Cs.length Cs.length) := by
      rw [cell_blk (blk_new w _)]; exact hC.parts
    have hQ0 : Hid (qsum t 0 = 1) := Lib.hid (by simp [qsum])
    clear ih hrg hps
    go_enter Try.func24, Try.ntmps24
    go_wp2_with fail
    go_loopw [3, 4] (fun sm i wr => ∃ k : Nat, k ≤ Cs.length ∧ i = .int .i64 k ∧ sm = .int .i64 (wrap64 (qsum t k)) ∧ Kn (w.alloc (.cells C TN (0, 0))) wr) (fun _ i _ => 3 - (intOf i).toNat)
    case atStart => exact ⟨0, Nat.zero_le _, rfl, by rw [hQ0.out]; exact congrArg (Value.int .i64) (by unfold wrap64; omega), Kp.refl _ _⟩
    case round =>
      obtain ⟨k, hk, rfl, rfl, hkn⟩ := hrel
      by_cases hlt : k < Cs.length
      · have hlt' : (k : Int) < Cs.length := by omega
        have hk0 : (0 : Int) ≤ (k : Int) := by omega
        have hlb : (Cs.length : Int) ≤ 2 := by omega
        have hkt : k < t.parts.length := by omega
        obtain ⟨g, rfl, hrow⟩ := HR.out k hlt
        have hd9 := kn_cell hkn hc9
        have hP := (HP.out.get k hkt hlt).kn (((Kp.refl (fun _ => False) w).alloc (.cells C TN (0, 0))).trans hkn)
        have hrow' : wr.rangeAt g (k * 258) Cs[k].toList := by
          rw [Nat.mul_comm]
          exact range_kn (((Kp.refl (fun _ => False) w).alloc (.cells C TN (0, 0))).trans hkn) hrow
        have hl258 : Cs[k].toList.length = 258 := by rw [Array.length_toList]; exact (HP.out.get k hkt hlt).size
        have hi258 : (Try.prog.info? TN).map (·.size) = some Cs[k].toList.length := by rw [hl258]; exact zero_node.2
        have hsum : Hid (wrap64 (wrap64 (qsum t k) + wrap64 (t.parts[k].size)) = wrap64 (qsum t (k + 1) : Nat)) := Lib.hid (by rw [wrap_add, qsum_succ t k hkt]; congr 1)
        have hpn : t.parts[k].size ≤ n := by have := part_size t k hkt; omega
        have hcall := IH.out t.parts[k] Cs[k] N wr hpn hP
        have HC := Lib.hid hcall
        clear hrow hl258 hcall hP hpn
        go_wp2_with fail
        refine wp_load_mid TN _ rfl g (k * 258) rfl Cs[k].toList _ hrow' Try.underlying30 rfl hi258 ?_
        simp only [Array.toArray_toList]
        go_wp2_with fail
        refine HC.out.mono ?_
        rintro e w2 ⟨rfl, hk2⟩
        go_wp2_with fail
        go_roundw
        case rel => exact ⟨k + 1, by omega, by go_num, by rw [← hsum.out], hkn.trans hk2⟩
        case measure => simp [intOf]; omega
      · have hlt' : ¬ (k : Int) < Cs.length := by omega
        have hd9 := kn_cell hkn hc9
        have hk' : k = t.parts.length := by omega
        have hE : Hid (wrap64 (qsum t k) = wrap64 t.size) := Lib.hid (by rw [hk', qsum_all])
        have hK9 := ((Kp.refl (fun _ => False) w).alloc (.cells C TN (0, 0))).trans hkn
        go_wp2_with fail
        go_ret
        refine ⟨?_, hK9⟩
        rw [← hE.out, show k = Cs.length by omega]; rfl

end Go.Proofs.Ytkhcnneflcbnpaa
