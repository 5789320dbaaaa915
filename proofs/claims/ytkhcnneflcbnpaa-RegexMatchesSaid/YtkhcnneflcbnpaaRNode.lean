/-
  What the functions on expressions' nodes do: their walks. Conditions: the nodes that are handed in stand in memory.
-/
import Derived.Test.YtkhcnneflcbnpaaRMem
namespace Go.Proofs.Ytkhcnneflcbnpaa
open Go.RowKit

set_option maxHeartbeats 400000 in
theorem Empty_c (w : World) :
    Calls Try.prog 16 #[] w fun e w' => e = .returned (ptr w.heap.size) ∧ w' = w.alloc (ndObj 1 W4.zero sl0) := by
  go_enter Try.func16, Try.ntmps16
  go_wp2_with fail
  go_ret
  exact ⟨rfl, rfl⟩

set_option maxHeartbeats 400000 in
theorem Set_c (s : W4) (w : World) :
    Calls Try.prog 17 #[.agg #[.int .u64 s.a, .int .u64 s.b, .int .u64 s.c, .int .u64 s.d]] w fun e w' => e = .returned (ptr (w.heap.size + 1)) ∧
      w' = (w.alloc (.cells #[.int .u64 s.a, .int .u64 s.b, .int .u64 s.c, .int .u64 s.d] 41)).alloc (ndObj 0 s sl0) := by
  go_enter Try.func17, Try.ntmps17
  go_wp2_with fail
  go_ret
  exact ⟨rfl, rfl⟩

set_option maxHeartbeats 400000 in
theorem Star_nil (w : World) :
    Calls Try.prog 15 #[.pointer none] w fun e w' => e = .returned (.pointer none) ∧ w = w' := by
  go_enter Try.func15, Try.ntmps15
  go_wp2_with fail
  go_ret
  exact ⟨rfl, rfl⟩

set_option maxHeartbeats 400000 in
theorem Star_c (n : Nat) (w : World) :
    Calls Try.prog 15 #[ptr n] w fun e w' => e = .returned (ptr (w.heap.size + 1)) ∧ w' = (w.alloc (loneObj n)).alloc (ndObj 4 W4.zero (sl1 w.heap.size)) := by
  go_enter Try.func15, Try.ntmps15
  go_wp2_with fail
  go_ret
  exact ⟨rfl, rfl⟩

set_option maxHeartbeats 400000 in
theorem Kind_nil (w : World) :
    Calls Try.prog 20 #[.pointer none] w fun e w' => e = .returned (.int .i64 (-1)) ∧ w = w' := by
  go_enter Try.func20, Try.ntmps20
  go_wp2_with fail
  go_ret
  exact ⟨rfl, rfl⟩

set_option maxHeartbeats 400000 in
theorem Kind_c (t : Rw) (n : Nat) (w : World) (h : NodeAt w t n) :
    Calls Try.prog 20 #[ptr n] w fun e w' => e = .returned (.int .i64 t.kind) ∧ w = w' := by
  obtain ⟨sa, qs, hb, _⟩ := h.look
  have c0 := cell_blk hb 0
  simp only [List.getElem?_toArray, List.getElem?_cons_zero] at c0
  clear hb
  go_enter Try.func20, Try.ntmps20
  go_wp2_with fail
  go_ret
  exact ⟨rfl, rfl⟩

theorem size_le (t : Rw) : 0 < t.size := by cases t <;> simp [Re.size] <;> omega

theorem size_parts (t : Rw) : t.size = 1 + (t.parts.map Re.size).sum := by
  cases t <;> simp [Re.size, Re.parts] <;> omega

/-- how many nodes a node and its first k parts have -/
def psum (t : Rw) (k : Nat) : Nat := 1 + ((t.parts.map Re.size).take k).sum
theorem psum_zero (t : Rw) : psum t 0 = 1 := by simp [psum]
theorem psum_succ (t : Rw) (k : Nat) (h : k < t.parts.length) : psum t (k + 1) = psum t k + (t.parts[k]).size := by
  unfold psum
  rw [List.take_succ_eq_append_getElem (by simpa using h), List.sum_append]; simp; omega
theorem psum_end (t : Rw) (k : Nat) (h : t.parts.length ≤ k) : psum t k = t.size := by
  unfold psum
  rw [List.take_of_length_le (by simpa using h), size_parts]
theorem take_sum_le (l : List Nat) (k : Nat) : (l.take k).sum ≤ l.sum := by
  induction l generalizing k with
  | nil => simp
  | cons a l ih => cases k with
    | zero => simp
    | succ k => simp; exact ih k
theorem psum_le (t : Rw) (k : Nat) : psum t k ≤ t.size := by
  unfold psum
  rw [size_parts]
  have := take_sum_le (t.parts.map Re.size) k
  omega

theorem parts_size (t : Rw) (k : Nat) (h : k < t.parts.length) : (t.parts[k]).size < t.size := by
  cases t with
  | set => simp [Re.parts] at h
  | empty => simp [Re.parts] at h
  | cat x y =>
    match k, h with
    | 0, _ => simp [Re.parts, Re.size]; omega
    | 1, _ => simp [Re.parts, Re.size]; omega
  | or x y =>
    match k, h with
    | 0, _ => simp [Re.parts, Re.size]; omega
    | 1, _ => simp [Re.parts, Re.size]; omega
  | star x =>
    match k, h with
    | 0, _ => simp [Re.parts, Re.size]

set_option maxHeartbeats 400000 in
theorem Size_nil (w : World) :
    Calls Try.prog 19 #[.pointer none] w fun e w' => e = .returned (.int .i64 0) ∧ w = w' := by
  go_enter Try.func19, Try.ntmps19
  go_wp2_with fail
  go_ret
  exact ⟨rfl, rfl⟩

set_option maxHeartbeats 400000 in
theorem Size_c : ∀ (m : Nat) (t : Rw) (n : Nat) (w : World), t.size = m → NodeAt w t n → t.size ≤ 9223372036854775807 →
    Calls Try.prog 19 #[ptr n] w fun e w' => e = .returned (.int .i64 t.size) ∧ w = w' := by
  intro m
  induction m using Nat.strongRecOn with
  | _ m ih =>
    intro t n w hm h hs
    obtain ⟨sa, qs, hb, hrow, hcs, hle⟩ := h.look
    have c5 := cell_blk hb 5
    simp only [List.getElem?_toArray, List.getElem?_cons_succ, List.getElem?_cons_zero] at c5
    clear hb
    have hlen := Lib.hid hrow.len
    have IH := Lib.hid ih
    have hM := Lib.hid hm
    clear ih hm
    have hcs' := Lib.hid hcs
    clear hcs
    go_enter Try.func19, Try.ntmps19
    go_wp2_with fail
    go_loop [3, 13] (fun s i => ∃ k : Nat, k ≤ qs.length ∧ i = .int .i64 k ∧ s = .int .i64 (psum t k)) (fun _ i => qs.length - (intOf i).toNat)
    case atStart => exact ⟨0, Nat.zero_le _, rfl, by rw [psum_zero]; rfl⟩
    case round =>
      obtain ⟨k, hk, rfl, rfl⟩ := hrel
      by_cases hlt : k < qs.length
      · obtain ⟨r, hr, hc⟩ := hcs'.out k hlt
        subst hr
        have hkl : k < t.parts.length := by have := hlen.out; omega
        have hnode := hrow.get k hkl hlt
        have hsm := parts_size t k hkl
        have hsum := Lib.hid (psum_succ t k hkl)
        have h1 : psum t k + (t.parts[k]).size ≤ 9223372036854775807 := by
          have h1 := hsum.out; have h2 := psum_le t (k + 1)
          omega
        go_wp2_with (first | (go_at_call 19; refine (IH.out _ (by have := hM.out; omega) _ _ _ rfl hnode (by omega)).mono ?_; rintro e w' ⟨rfl, rfl⟩))
        go_round
        case rel => exact ⟨k + 1, by omega, by go_num, by rw [hsum.out]; go_num⟩
        case measure => simp [intOf]; omega
      · have hfin := Lib.hid (psum_end t k (by have := hlen.out; omega))
        go_wp2_with fail
        go_ret
        exact ⟨by rw [← hfin.out]; rfl, rfl⟩
end Go.Proofs.Ytkhcnneflcbnpaa
