/-
  Sets of bytes by their bits: one byte more, all but. Conditions: none.
-/
import Derived.Test.YtkhcnneflcbnpaaMSet
import Derived.Test.YtkhcnneflcbnpaaPAwake
namespace Go.Proofs.Ytkhcnneflcbnpaa
open Go.RowKit

theorem word_bit (x : Int) (hx : 0 ≤ x) (j : Nat) : decide (x / 2 ^ j % 2 = 1) = x.toNat.testBit j := by
  obtain ⟨n, rfl⟩ := Int.eq_ofNat_of_zero_le hx
  rw [Nat.testBit_eq_decide_div_mod_eq]
  have e : ((n : Int) / 2 ^ j % 2 = 1) ↔ (n / 2 ^ j % 2 = 1) := by
    have e2 : ((n : Int) / 2 ^ j % 2) = ((n / 2 ^ j % 2 : Nat) : Int) := by simp
    rw [e2]; omega
  simp [e]
theorem W4.ok_get {s : W4} (h : s.ok) (i : Nat) : 0 ≤ s.get i ∧ s.get i < 18446744073709551616 := by
  unfold W4.ok at h
  unfold W4.get
  by_cases h0 : i = 0
  · rw [if_pos h0]; exact h.1
  · rw [if_neg h0]
    by_cases h1 : i = 1
    · rw [if_pos h1]; exact h.2.1
    · rw [if_neg h1]
      by_cases h2 : i = 2
      · rw [if_pos h2]; exact h.2.2.1
      · rw [if_neg h2]; exact h.2.2.2
theorem W4.get_put (s : W4) (i j : Nat) (hi : i < 4) (hj : j < 4) (x : Int) : (s.put i x).get j = if j = i then x else s.get j := by
  match i, hi, j, hj with
  | 0, _, 0, _ => rfl
  | 0, _, 1, _ => rfl
  | 0, _, 2, _ => rfl
  | 0, _, 3, _ => rfl
  | 1, _, 0, _ => rfl
  | 1, _, 1, _ => rfl
  | 1, _, 2, _ => rfl
  | 1, _, 3, _ => rfl
  | 2, _, 0, _ => rfl
  | 2, _, 1, _ => rfl
  | 2, _, 2, _ => rfl
  | 2, _, 3, _ => rfl
  | 3, _, 0, _ => rfl
  | 3, _, 1, _ => rfl
  | 3, _, 2, _ => rfl
  | 3, _, 3, _ => rfl
theorem W4.add_bit {s : W4} (h : s.ok) (b c : Nat) (hb : b < 256) (hc : c < 256) : (s.add b).bit c = (decide (c = b) || s.bit c) := by
  unfold W4.add W4.bit
  rw [W4.get_put _ _ _ (by omega) (by omega)]
  have h1 := W4.ok_get h (b / 64)
  have h2 := wrap_range (2 ^ (b % 64))
  by_cases e : c / 64 = b / 64
  · rw [if_pos e, e, u64_or _ _ h1.1 h1.2 h2.1 h2.2, word_bit _ (by omega), word_bit _ h1.1]
    have h3 : (IntKind.u64.wrap (2 ^ (b % 64))).toNat.testBit (c % 64) = decide (c = b) := by
      rw [← word_bit _ h2.1, Bool.eq_iff_iff]
      simp only [decide_eq_true_eq]
      rw [pow_bit _ _ (by omega) (by omega)]; omega
    rw [Int.toNat_natCast, Nat.testBit_or, h3, Bool.or_comm]
  · rw [if_neg e]
    have : ¬ c = b := fun x => e (by rw [x])
    simp [this]
theorem W4.not_get (s : W4) (i : Nat) : s.not.get i = W4.flip (s.get i) := by
  unfold W4.not W4.get
  simp only
  split
  · rfl
  · split
    · rfl
    · split <;> rfl
theorem W4.not_bit {s : W4} (h : s.ok) (c : Nat) : s.not.bit c = !s.bit c := by
  unfold W4.bit
  have h1 := W4.ok_get h (c / 64)
  rw [W4.not_get, word_bit _ (by unfold W4.flip; omega), word_bit _ h1.1]
  have e : (W4.flip (s.get (c / 64))).toNat = 2 ^ 64 - ((s.get (c / 64)).toNat + 1) := by unfold W4.flip; omega
  rw [e, Nat.testBit_two_pow_sub_succ (by omega)]
  simp; omega

theorem W4.addN_bit (lo c : Nat) (hc : c < 256) : ∀ (n : Nat) (s : W4), s.ok → lo + n ≤ 256 → (((List.range' lo n).foldl W4.add s).bit c = (decide (lo ≤ c ∧ c < lo + n) || s.bit c)) ∧ ((List.range' lo n).foldl W4.add s).ok := by
  intro n
  induction n with
  | zero =>
    intro s h _
    have e : ¬ (lo ≤ c ∧ c < lo + 0) := by omega
    refine ⟨?_, h⟩
    rw [decide_eq_false e]; rfl
  | succ n ih =>
    intro s h hl
    rw [List.range'_concat, List.foldl_append]
    obtain ⟨i1, i2⟩ := ih s h (by omega)
    refine ⟨?_, by simp only [List.foldl_cons, List.foldl_nil]; exact add_ok i2 _⟩
    simp only [List.foldl_cons, List.foldl_nil, Nat.one_mul]
    rw [W4.add_bit i2 _ _ (by omega) hc, i1]
    by_cases e : c = lo + n
    · subst e; simp
    · have : (lo ≤ c ∧ c < lo + (n + 1)) ↔ (lo ≤ c ∧ c < lo + n) := by omega
      simp [e, this]

theorem W4.addTo_bit {s : W4} (h : s.ok) (lo hi c : Nat) (hh : hi < 256) (hc : c < 256) : (s.addTo lo hi).bit c = (decide (lo ≤ c ∧ c ≤ hi) || s.bit c) := by
  unfold W4.addTo
  by_cases e : lo ≤ hi + 1
  · rw [(W4.addN_bit lo c hc (hi + 1 - lo) s h (by omega)).1]
    have : (lo ≤ c ∧ c < lo + (hi + 1 - lo)) ↔ (lo ≤ c ∧ c ≤ hi) := by omega
    simp [this]
  · rw [show hi + 1 - lo = 0 by omega]
    have : ¬ (lo ≤ c ∧ c ≤ hi) := by omega
    rw [decide_eq_false this]; rfl

end Go.Proofs.Ytkhcnneflcbnpaa
