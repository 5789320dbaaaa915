/-
  What stands behind a byte, and whether an expression means a text: the walks. Conditions: the nodes that are handed in stand in memory.
-/
import Derived.Test.YtkhcnneflcbnpaaRDer
namespace Go.Proofs.Ytkhcnneflcbnpaa
open Go.RowKit

theorem get_cell {w : World} {n : Nat} {k : Int} {s : W4} {sl : Value} (h : w.heap[n]? = some (ndObj k s sl)) (i : Nat) (hi : i < 4) : w.cell? ⟨n, 1 + i, none⟩ = some (.int .u64 (s.get i)) := by
  rw [cell_blk h]
  match i, hi with
  | 0, _ => rfl
  | 1, _ => rfl
  | 2, _ => rfl
  | 3, _ => rfl

set_option maxHeartbeats 2000000 in
theorem get_range {s : W4} (h : s.ok) (i : Nat) : 0 ≤ s.get i ∧ s.get i < 18446744073709551616 := by
  obtain ⟨ha, hb, hc, hd⟩ := h
  unfold W4.get
  split
  · exact ha
  · split
    · exact hb
    · split
      · exact hc
      · exact hd

theorem bit_test {s : W4} (h : s.ok) (b : Nat) : (bits .and .u64 (s.get (b / 64) / 2 ^ (b % 64)) 1 == 1) = s.bit b := by
  obtain ⟨h0, h1⟩ := get_range h (b / 64)
  unfold W4.bit
  generalize s.get (b / 64) = x at *
  obtain ⟨n, rfl⟩ := Int.eq_ofNat_of_zero_le h0
  have e : ((n : Int) / 2 ^ (b % 64)) = ((n / 2 ^ (b % 64) : Nat) : Int) := by simp
  have hlt : n / 2 ^ (b % 64) < 18446744073709551616 := Nat.lt_of_le_of_lt (Nat.div_le_self _ _) (by omega)
  rw [e]
  generalize n / 2 ^ (b % 64) = m at *
  have := u64_and_nat m 1 hlt (by omega)
  rw [show ((1 : Nat) : Int) = 1 from rfl] at this
  rw [this, Nat.and_one_is_mod, Bool.eq_iff_iff]
  simp only [beq_iff_eq, decide_eq_true_eq]
  omega

theorem EmptyAt_c (w : World) :
    Calls Try.prog 16 #[] w fun e w' => ∃ q : Nat, e = .returned (ptr q) ∧ NodeAt w' .empty q ∧ Kn w w' :=
  (Empty_c w).mono fun _ _ ⟨he, hw⟩ => ⟨_, he, by rw [hw]; exact blk_new w _, by rw [hw]; exact (Kp.refl _ w).alloc _⟩

set_option maxRecDepth 100000 in
set_option maxHeartbeats 2000000 in
theorem derive_c (b : Nat) (hb : b < 256) : ∀ (t : Rw) (n : Nat) (w : World), NodeAt w t n →
    Calls Try.prog 25 #[ptr n, .int .u8 b] w fun e w' => ∃ q : Nat, e = .returned (ptr q) ∧ NodeAt w' (Rw.derive b t) q ∧ Kn w w' := by
  intro t
  have hb2 : (b : Int) < 256 := by omega
  have hq : (b : Int) / 64 < 4 := by omega
  have hq0 : (0 : Int) ≤ (b : Int) / 64 := by omega
  induction t with
  | set s =>
    intro n w h
    have hE : Hid (Rw.derive b (.set s) = if s.bit b then .empty else Rw.none) := Lib.hid rfl
    have hT := Lib.hid (bit_test h.1 b)
    go_enter Try.func25, Try.ntmps25
    go_wp2_with fail
    refine (SetZero_c w).mono ?_
    rintro e w1 ⟨z, rfl, hz, hk⟩
    have h1 := h.kn hk
    have c0 := (nd_cells h1.2).1
    have cg := get_cell h1.2 (b / 64) (by omega)
    go_wp2_with fail
    · refine (EmptyAt_c w1).mono ?_
      rintro e w2 ⟨q, rfl, hq2, hk2⟩
      go_wp2_with fail
      go_ret
      refine ⟨q, rfl, ?_, hk.trans hk2⟩
      rw [hE.out, if_pos (by rw [← hT.out]; assumption)]; exact hq2
    · go_ret
      rename_i hbit
      refine ⟨z, rfl, ?_, hk⟩
      rw [hE.out, if_neg (by rw [← hT.out, hbit]; simp)]; exact hz
  | empty =>
    intro n w h
    go_enter Try.func25, Try.ntmps25
    go_wp2_with fail
    refine (SetZero_c w).mono ?_
    rintro e w1 ⟨z, rfl, hz, hk⟩
    have h1 := h.kn hk
    have c0 := (nd_cells h1).1
    go_wp2_with fail
    go_ret
    exact ⟨z, rfl, hz, hk⟩
  | star x ih =>
    intro n w h
    have IH := Lib.hid ih
    clear ih
    have hE : Hid (Rw.derive b (.star x) = Rw.tidyCat (Rw.derive b x) (.star x)) := Lib.hid rfl
    go_enter Try.func25, Try.ntmps25
    go_wp2_with fail
    refine (SetZero_c w).mono ?_
    rintro e w1 ⟨z, rfl, hz, hk⟩
    have h1 := h.kn hk
    obtain ⟨r, i, g1, g2, g3⟩ := id h1
    obtain ⟨c0, _, _, _, _, c5⟩ := nd_cells g1
    have d0 := lone_cells g2
    clear g1 g2
    go_wp2_with fail
    refine (IH.out i w1 g3).mono ?_
    rintro e w2 ⟨q, rfl, hq2, hk2⟩
    go_wp2_with fail
    refine (tidyCat_c _ _ _ _ w2 hq2 (h1.kn hk2)).mono ?_
    rintro e w3 ⟨q3, rfl, hq3, hk3⟩
    go_wp2_with fail
    go_ret
    refine ⟨q3, rfl, ?_, (hk.trans hk2).trans hk3⟩
    rw [hE.out]; exact hq3
  | cat x y ihx ihy =>
    intro n w h
    have IX := Lib.hid ihx
    have IY := Lib.hid ihy
    clear ihx ihy
    have hE : Hid (Rw.derive b (.cat x y) = if x.nullable then Rw.tidyOr (Rw.tidyCat (Rw.derive b x) y) (Rw.derive b y) else Rw.tidyCat (Rw.derive b x) y) := Lib.hid rfl
    go_enter Try.func25, Try.ntmps25
    go_wp2_with fail
    refine (SetZero_c w).mono ?_
    rintro e w1 ⟨z, rfl, hz, hk⟩
    have h1 := h.kn hk
    obtain ⟨r, i, j, g1, g2, g3, g4⟩ := id h1
    obtain ⟨c0, _, _, _, _, c5⟩ := nd_cells g1
    obtain ⟨d0, d1⟩ := pair_cells g2
    clear g1 g2
    go_wp2_with fail
    go_region_held3 (fun w' => w'.cell? ⟨n, 5, none⟩ = some (sl2 r) ∧ w'.cell? ⟨r, 0, none⟩ = some (ptr i) ∧ w'.cell? ⟨r, 1, none⟩ = some (ptr j))
      (first | go_keep | exact ⟨kn_cell ‹Kn _ _› c5, kn_cell ‹Kn _ _› d0, kn_cell ‹Kn _ _› d1⟩)
      (first
        | (go_at_call 25; refine (IX.out i _ ?_).mono ?_; (exact g3.drew); rintro e w2 ⟨q1, rfl, hq1, hk1⟩; have hk1 := Kn.undrew hk1)
        | (go_at_call 34; refine (tidyCat_c (Rw.derive b x) y _ j _ ?_ ?_).mono ?_; (exact hq1); (exact g4.kn hk1); rintro e w3 ⟨q2, rfl, hq2, hk2⟩; have hk2 := Kp.trans hk1 hk2))
    have c5 := kn_cell hk2 c5
    have d0 := kn_cell hk2 d0
    have d1 := kn_cell hk2 d1
    cases gx : x.nullable with
    | false =>
      have ex := Lib.hid gx
      clear gx
      go_wp2_with fail
      refine (Nullable_c x i w3 (g3.kn hk2)).mono ?_
      rintro e w' ⟨rfl, rfl⟩
      rw [ex.out]
      go_wp2_with fail
      go_ret
      refine ⟨q2, rfl, ?_, hk.trans hk2⟩
      rw [hE.out, ex.out]; simpa using hq2
    | true =>
      have ex := Lib.hid gx
      clear gx
      go_wp2_with fail
      refine (Nullable_c x i w3 (g3.kn hk2)).mono ?_
      rintro e w' ⟨rfl, rfl⟩
      rw [ex.out]
      go_wp2_with fail
      refine (IY.out j w3 (g4.kn hk2)).mono ?_
      rintro e w4 ⟨q4, rfl, hq4, hk4⟩
      go_wp2_with fail
      refine (tidyOr_c _ _ _ _ w4 (hq2.kn hk4) hq4).mono ?_
      rintro e w5 ⟨q5, rfl, hq5, hk5⟩
      go_wp2_with fail
      go_ret
      refine ⟨q5, rfl, ?_, ((hk.trans hk2).trans hk4).trans hk5⟩
      rw [hE.out, ex.out]; exact hq5
  | or x y ihx ihy =>
    intro n w h
    have IX := Lib.hid ihx
    have IY := Lib.hid ihy
    clear ihx ihy
    have hE : Hid (Rw.derive b (.or x y) = Rw.tidyOr (Rw.derive b x) (Rw.derive b y)) := Lib.hid rfl
    go_enter Try.func25, Try.ntmps25
    go_wp2_with fail
    refine (SetZero_c w).mono ?_
    rintro e w1 ⟨z, rfl, hz, hk⟩
    have h1 := h.kn hk
    obtain ⟨r, i, j, g1, g2, g3, g4⟩ := id h1
    obtain ⟨c0, _, _, _, _, c5⟩ := nd_cells g1
    obtain ⟨d0, d1⟩ := pair_cells g2
    clear g1 g2
    go_wp2_with fail
    have HK : Kn w1 w1.drew := (Kp.refl _ _).drew
    go_region_held3 (fun w' => w'.cell? ⟨n, 5, none⟩ = some (sl2 r) ∧ w'.cell? ⟨r, 0, none⟩ = some (ptr i) ∧ w'.cell? ⟨r, 1, none⟩ = some (ptr j))
      (first | go_keep | exact ⟨kn_cell HK c5, kn_cell HK d0, kn_cell HK d1⟩)
      (first
        | (go_at_call_of 25 (ptr i); refine (IX.out i _ ?_).mono ?_; (exact g3.kn HK); rintro e wx ⟨qx, rfl, hqx, hkx⟩; replace HK := Kp.trans HK hkx; try (replace hqy := NodeAt.kn hqy hkx))
        | (go_at_call_of 25 (ptr j); refine (IY.out j _ ?_).mono ?_; (exact g4.kn HK); rintro e wy ⟨qy, rfl, hqy, hky⟩; replace HK := Kp.trans HK hky; try (replace hqx := NodeAt.kn hqx hky))
        | (go_at_call 34; refine (tidyOr_c (Rw.derive b x) (Rw.derive b y) _ _ _ ?_ ?_).mono ?_; (exact hqx); (exact hqy); rintro e w3 ⟨q2, rfl, hq2, hk2⟩; replace HK := Kp.trans HK hk2))
    all_goals
      go_wp2_with fail
      go_ret
      refine ⟨_, rfl, ?_, hk.trans ‹Kp _ w1 _›⟩
      rw [hE.out]; assumption

/-- a text's bytes, as numbers -/
def bts (s : ByteArray) : List Nat := s.data.toList.map (·.toNat)
theorem bts_len (s : ByteArray) : (bts s).length = s.size := by simp [bts]
theorem bts_get (s : ByteArray) (k : Nat) (h : k < s.size) : (bts s)[k]'(by rw [bts_len]; exact h) = s[k].toNat := by
  simp [bts]; rfl
theorem bts_take (s : ByteArray) (k : Nat) (h : k < s.size) : (bts s).take (k + 1) = (bts s).take k ++ [s[k].toNat] := by
  rw [List.take_succ_eq_append_getElem (by rw [bts_len]; exact h), bts_get s k h]
/-- what stands behind the first k bytes -/
def mstep (t : Rw) (s : ByteArray) (k : Nat) : Rw := ((bts s).take k).foldl (fun t b => Rw.derive b t) t
theorem mstep_zero (t : Rw) (s : ByteArray) : mstep t s 0 = t := rfl
theorem mstep_succ (t : Rw) (s : ByteArray) (k : Nat) (h : k < s.size) : mstep t s (k + 1) = Rw.derive s[k].toNat (mstep t s k) := by
  unfold mstep; rw [bts_take s k h, List.foldl_append]; rfl
theorem mstep_end (t : Rw) (s : ByteArray) (k : Nat) (h : s.size ≤ k) : (mstep t s k).nullable = Rw.matches t (bts s) := by
  unfold mstep Rw.matches
  rw [List.take_of_length_le (by rw [bts_len]; exact h)]

set_option maxHeartbeats 400000 in
theorem Matches_nil (s : ByteArray) (w : World) :
    Calls Try.prog 10 #[.pointer none, .string s] w fun e w' => e = .returned (.bool false) ∧ w = w' := by
  go_enter Try.func10, Try.ntmps10
  go_wp2_with fail
  go_ret
  exact ⟨rfl, rfl⟩

set_option maxHeartbeats 1000000 in
theorem Matches_c (t : Rw) (s : ByteArray) (n : Nat) (w : World) (h : NodeAt w t n) (hs : s.size ≤ 9223372036854775807) :
    Calls Try.prog 10 #[ptr n, .string s] w fun e w' => e = .returned (.bool (Rw.matches t (bts s))) ∧ Kn w w' := by
  go_enter Try.func10, Try.ntmps10
  go_wp2_with fail
  go_loopw [0, 10] (fun p i wr => ∃ (k q : Nat), k ≤ s.size ∧ i = .int .i64 k ∧ p = ptr q ∧ NodeAt wr (mstep t s k) q ∧ Kn w wr) (fun _ i _ => s.size - (intOf i).toNat)
  case atStart => exact ⟨0, n, Nat.zero_le _, rfl, rfl, h, Kp.refl _ _⟩
  case round =>
    obtain ⟨k, q, hk, rfl, rfl, hq, hkn⟩ := hrel
    by_cases hlt : k < s.size
    · have hst := Lib.hid (mstep_succ t s k hlt)
      have hb : s[k].toNat < 256 := s[k].toNat_lt
      go_wp2_with fail
      refine (derive_c s[k].toNat hb _ q wr hq).mono ?_
      rintro e w1 ⟨q1, rfl, hq1, hk1⟩
      rw [← hst.out] at hq1
      go_wp2_with fail
      go_roundw
      case rel => exact ⟨k + 1, q1, by omega, by go_num, rfl, hq1, hkn.trans hk1⟩
      case measure => simp [intOf]; omega
    · have hE := Lib.hid (mstep_end t s k (by omega))
      go_wp2_with fail
      refine (Nullable_c _ q wr hq).mono ?_
      rintro e w' ⟨rfl, rfl⟩
      go_wp2_with fail
      go_ret
      exact ⟨by rw [← hE.out]; rfl, hkn⟩
end Go.Proofs.Ytkhcnneflcbnpaa
