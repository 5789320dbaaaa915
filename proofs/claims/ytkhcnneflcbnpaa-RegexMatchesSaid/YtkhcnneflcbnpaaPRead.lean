/-
  The reader of expressions, its smaller functions: the walks. Conditions: the reader stands in memory, within its text.
-/
import Derived.Test.YtkhcnneflcbnpaaPPure
namespace Go.Proofs.Ytkhcnneflcbnpaa
open Go.RowKit

abbrev psArr (s : ByteArray) (st : PS) : Array Value := #[.string s, .int .i64 st.at_, .bool st.bad, .bool st.long, .int .i64 st.deep]
/-- the reader in memory -/
def Pat (w : World) (p : Nat) (s : ByteArray) (st : PS) : Prop := w.heap[p]? = some (.cells (psArr s st) 53 (0, 0)) ∧ st.at_ ≤ s.size ∧ s.size ≤ 1099511627776

theorem Pat.cells {w : World} {p : Nat} {s : ByteArray} {st : PS} (h : Pat w p s st) :
    w.cell? ⟨p, 0, none⟩ = some (.string s) ∧ w.cell? ⟨p, 1, none⟩ = some (.int .i64 st.at_) ∧ w.cell? ⟨p, 2, none⟩ = some (.bool st.bad) ∧ w.cell? ⟨p, 3, none⟩ = some (.bool st.long) ∧ w.cell? ⟨p, 4, none⟩ = some (.int .i64 st.deep) ∧
    w.frozen? ⟨p, 1, none⟩ = false ∧ w.frozen? ⟨p, 2, none⟩ = false ∧ w.frozen? ⟨p, 3, none⟩ = false ∧ w.frozen? ⟨p, 4, none⟩ = false :=
  ⟨cell_blk h.1 0, cell_blk h.1 1, cell_blk h.1 2, cell_blk h.1 3, cell_blk h.1 4, frozen_blk h.1 1, frozen_blk h.1 2, frozen_blk h.1 3, frozen_blk h.1 4⟩
theorem Pat.kn {w w' : World} {p : Nat} {s : ByteArray} {st : PS} (h : Pat w p s st) (hk : Kn w w') : Pat w' p s st := ⟨hk.blk h.1 (fun x => x), h.2⟩
theorem Pat.drewN {w : World} {p : Nat} {s : ByteArray} {st : PS} (h : Pat w p s st) (n : Nat) : Pat (w.drewN n) p s st := h.kn ((Kp.refl _ _).drewN n)
theorem Pat.lt {w : World} {p : Nat} {s : ByteArray} {st : PS} (h : Pat w p s st) : p < w.heap.size := blk_lt h.1
theorem Pat.at {w : World} {p : Nat} {s : ByteArray} {st : PS} (h : Pat w p s st) (k : Nat) (hk : k ≤ s.size) : Pat (w.setCell ⟨p, 1, none⟩ (.int .i64 k)) p s { st with at_ := k } :=
  ⟨by rw [blk_set h.1]; rfl, hk, h.2.2⟩
theorem Pat.setBad {w : World} {p : Nat} {s : ByteArray} {st : PS} (h : Pat w p s st) : Pat (w.setCell ⟨p, 2, none⟩ (.bool true)) p s st.fail :=
  ⟨by rw [blk_set h.1]; rfl, h.2⟩
theorem Pat.setLong {w : World} {p : Nat} {s : ByteArray} {st : PS} (h : Pat w p s st) : Pat (w.setCell ⟨p, 3, none⟩ (.bool true)) p s { st with long := true } :=
  ⟨by rw [blk_set h.1]; rfl, h.2⟩
theorem Pat.setDeep {w : World} {p : Nat} {s : ByteArray} {st : PS} (h : Pat w p s st) (d : Int) : Pat (w.setCell ⟨p, 4, none⟩ (.int .i64 d)) p s { st with deep := d } :=
  ⟨by rw [blk_set h.1]; rfl, h.2⟩
theorem K1.set {w : World} {p o : Nat} (v : Value) : K1 p w (w.setCell ⟨p, o, none⟩ v) := (Kp.refl (fun k => k = p) w).setCell (p := ⟨p, o, none⟩) (fun _ => rfl) v
theorem K1.of {p : Nat} {w w' : World} (h : Kn w w') : K1 p w w' := h.weak

/-- nodes are no reader's -/
theorem Pat.nodes {w w' : World} {p : Nat} {s : ByteArray} {st : PS} (h : Pat w p s st) (hk : K1 p w w') : Kn61 w w' := Kn61.k1 hk h.1 (by decide) (by decide)

set_option maxHeartbeats 400000 in
theorem fail_c (p : Nat) (s : ByteArray) (st : PS) (w : World) (h : Pat w p s st) :
    Calls Try.prog 44 #[ptr p] w fun e w' => ∃ q : Nat, e = .returned (ptr q) ∧ NodeAt w' .empty q ∧ Pat w' p s st.fail ∧ K1 p w w' := by
  obtain ⟨c0, c1, c2, c3, c4, f1, f2, f3, f4⟩ := h.cells
  have hp := h.setBad
  have hk : K1 p w (w.setCell ⟨p, 2, none⟩ (.bool true)) := K1.set _
  go_enter Try.func44, Try.ntmps44
  go_wp2_with fail
  refine (EmptyAt_c _).mono ?_
  rintro e w2 ⟨q, rfl, hq, hk2⟩
  go_wp2_with fail
  go_ret
  exact ⟨q, rfl, hq, hp.kn hk2, hk.trans hk2.weak⟩

set_option maxHeartbeats 400000 in
theorem peek_c (p : Nat) (s : ByteArray) (st : PS) (w : World) (h : Pat w p s st) :
    Calls Try.prog 35 #[ptr p] w fun e w' => e = .returned (.tuple #[.int .u8 (bt s st.at_), .bool (decide (st.at_ < s.size))]) ∧ ∃ n, w' = w.drewN n := by
  obtain ⟨c0, c1, c2, c3, c4, f1, f2, f3, f4⟩ := h.cells
  have hb := h.2.2
  by_cases hlt : st.at_ < s.size
  · have hE := Lib.hid (bt_in hlt)
    have hD := Lib.hid (decide_eq_true hlt)
    have hlt' : (st.at_ : Int) < s.size := by omega
    go_enter Try.func35, Try.ntmps35
    go_wp2_with fail
    go_quiet (fail)
    go_wp2_with fail
    go_quiet (fail)
    go_wp2_with fail
    go_ret2
    exact ⟨by rw [hE.out, hD.out]; rfl, _, World.drewN_drewN ..⟩
  · have hE := Lib.hid (bt_out hlt)
    have hD := Lib.hid (decide_eq_false hlt)
    have hlt' : (s.size : Int) ≤ st.at_ := by omega
    go_enter Try.func35, Try.ntmps35
    go_wp2_with fail
    go_quiet (fail)
    go_wp2_with fail
    go_ret2
    exact ⟨by rw [hE.out, hD.out]; rfl, _, rfl⟩

set_option maxHeartbeats 400000 in
theorem is_c (b p : Nat) (s : ByteArray) (st : PS) (w : World) (h : Pat w p s st) :
    Calls Try.prog 30 #[ptr p, .int .u8 b] w fun e w' => e = .returned (.bool (isB s b st)) ∧ Pat w' p s (isS s b st) ∧ K1 p w w' := by
  have hb := h.2.2
  by_cases hlt : st.at_ < s.size
  · have hD := decide_eq_true hlt
    by_cases hq : bt s st.at_ = b
    · have hB : Hid (isB s b st = true) := Lib.hid (by simp [isB, hlt, hq])
      have hS : Hid (isS s b st = st.next) := Lib.hid (by simp [isS, hB.out])
      have hq' : (((bt s st.at_ : Nat) : Int) != b) = false := by simp [hq]
      clear hq
      go_enter Try.func30, Try.ntmps30
      go_wp2_with fail
      refine (peek_c p s st w h).mono ?_
      rintro e w' ⟨rfl, n, rfl⟩
      have h1 := h.drewN n
      obtain ⟨c0, c1, c2, c3, c4, f1, f2, f3, f4⟩ := h1.cells
      have hp := h1.at (st.at_ + 1) (by omega)
      go_wp2_with fail
      go_ret
      refine ⟨by rw [hB.out]; rfl, ?_, ((Kp.refl _ _).drewN n).trans (K1.set _)⟩
      rw [hS.out]; exact hp
    · have hB : Hid (isB s b st = false) := Lib.hid (by simp [isB, hlt, hq])
      have hS : Hid (isS s b st = st) := Lib.hid (by simp [isS, hB.out])
      have hq' : (((bt s st.at_ : Nat) : Int) != b) = true := by simp; omega
      clear hq
      go_enter Try.func30, Try.ntmps30
      go_wp2_with fail
      refine (peek_c p s st w h).mono ?_
      rintro e w' ⟨rfl, n, rfl⟩
      go_wp2_with fail
      go_ret
      refine ⟨by rw [hB.out]; rfl, ?_, (Kp.refl _ _).drewN n⟩
      rw [hS.out]; exact h.drewN n
  · have hD := decide_eq_false hlt
    have hB : Hid (isB s b st = false) := Lib.hid (by simp [isB, hlt])
    have hS : Hid (isS s b st = st) := Lib.hid (by simp [isS, hB.out])
    go_enter Try.func30, Try.ntmps30
    go_wp2_with fail
    refine (peek_c p s st w h).mono ?_
    rintro e w' ⟨rfl, n, rfl⟩
    go_wp2_with fail
    go_ret
    refine ⟨by rw [hB.out]; rfl, ?_, (Kp.refl _ _).drewN n⟩
    rw [hS.out]; exact h.drewN n

set_option maxHeartbeats 400000 in
theorem digit_c (p : Nat) (s : ByteArray) (st : PS) (w : World) (h : Pat w p s st) :
    Calls Try.prog 51 #[ptr p] w fun e w' => e = .returned (.int .u8 (digitV s st)) ∧ Pat w' p s (digitS s st) ∧ K1 p w w' := by
  have hb := h.2.2
  have hx := Lib.hid (hex_index (bt s st.at_) (bt_lt s st.at_))
  have hsi : ∀ (W : World), Calls Try.prog 50 #[.string hexs, .int .u8 (bt s st.at_)] W fun e w' => e = .returned (.int .i64 (if hexD (bt s st.at_) < 16 then (hexD (bt s st.at_) : Int) else -1)) ∧ W = w' :=
    fun W => (Try.strings_IndexByte hexs (bt s st.at_) W).mono fun e w' h => ⟨by rw [h.1, hx.out], h.2.symm⟩
  have HSI := Lib.hid hsi
  clear hsi
  by_cases hok : digitOk s st = true
  · have hlt : st.at_ < s.size := by simp [digitOk] at hok; exact hok.1
    have hxd : hexD (bt s st.at_) < 16 := by simp [digitOk] at hok; exact hok.2
    have hV : Hid (digitV s st = hexD (bt s st.at_)) := Lib.hid (by simp [digitV, hok])
    have hS : Hid (digitS s st = st.next) := Lib.hid (by simp [digitS, hok])
    have hD := decide_eq_true hlt
    clear hok
    go_enter Try.func51, Try.ntmps51
    go_wp2_with fail
    refine (peek_c p s st w h).mono ?_
    rintro e w' ⟨rfl, n, rfl⟩
    have h1 := h.drewN n
    obtain ⟨c0, c1, c2, c3, c4, f1, f2, f3, f4⟩ := h1.cells
    have hp := h1.at (st.at_ + 1) (by omega)
    go_wp2_with fail
    refine (HSI.out _).mono ?_
    rw [if_pos hxd]
    rintro e w' ⟨rfl, rfl⟩
    go_wp2_with fail
    go_ret
    refine ⟨by rw [hV.out]; rfl, ?_, ((Kp.refl _ _).drewN n).trans (K1.set _)⟩
    rw [hS.out]; exact hp
  · have hok' : digitOk s st = false := by simpa using hok
    have hV : Hid (digitV s st = 0) := Lib.hid (by simp [digitV, hok'])
    have hS : Hid (digitS s st = st.fail) := Lib.hid (by simp [digitS, hok'])
    have hlx : Hid (¬ (st.at_ < s.size ∧ hexD (bt s st.at_) < 16)) := Lib.hid (by simpa [digitOk] using hok)
    clear hok hok'
    by_cases hlt : st.at_ < s.size
    · have hxd : ¬ hexD (bt s st.at_) < 16 := fun x => hlx.out ⟨hlt, x⟩
      have hD := decide_eq_true hlt
      go_enter Try.func51, Try.ntmps51
      go_wp2_with fail
      refine (peek_c p s st w h).mono ?_
      rintro e w' ⟨rfl, n, rfl⟩
      have h1 := h.drewN n
      go_wp2_with fail
      refine (HSI.out _).mono ?_
      rw [if_neg hxd]
      rintro e w' ⟨rfl, rfl⟩
      go_wp2_with fail
      refine (fail_c p s st _ h1).mono ?_
      rintro e w2 ⟨q, rfl, hq, hp2, hk2⟩
      go_wp2_with fail
      go_ret
      refine ⟨by rw [hV.out]; rfl, ?_, ((Kp.refl _ _).drewN n).trans hk2⟩
      rw [hS.out]; exact hp2
    · have hD := decide_eq_false hlt
      have hb0 := Lib.hid (bt_out hlt)
      go_enter Try.func51, Try.ntmps51
      go_wp2_with fail
      refine (peek_c p s st w h).mono ?_
      rintro e w' ⟨rfl, n, rfl⟩
      have h1 := h.drewN n
      go_wp2_with fail
      refine (HSI.out _).mono ?_
      rw [if_neg (show ¬ hexD (bt s st.at_) < 16 by rw [hb0.out]; decide)]
      rintro e w' ⟨rfl, rfl⟩
      go_wp2_with fail
      refine (fail_c p s st _ h1).mono ?_
      rintro e w2 ⟨q, rfl, hq, hp2, hk2⟩
      go_wp2_with fail
      go_ret
      refine ⟨by rw [hV.out]; rfl, ?_, ((Kp.refl _ _).drewN n).trans hk2⟩
      rw [hS.out]; exact hp2
end Go.Proofs.Ytkhcnneflcbnpaa
