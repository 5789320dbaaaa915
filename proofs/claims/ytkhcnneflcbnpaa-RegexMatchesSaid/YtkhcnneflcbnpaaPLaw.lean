/-
  What the laws on expressions reckon, in plain terms. Conditions: none. No program in sight.
-/
import Derived.Test.YtkhcnneflcbnpaaPAwake
namespace Go.Proofs.Ytkhcnneflcbnpaa
open Go.RowKit

theorem Rw.matches_cat (x y : Rw) (u : List Nat) : Rw.matches (.cat x y) u = true ↔ ∃ i, i ≤ u.length ∧ Rw.matches x (u.take i) = true ∧ Rw.matches y (u.drop i) = true := by
  simp only [Rw.matches_L]
  rw [Rw.cat_L]
  constructor
  · rintro ⟨v, w, rfl, hx, hy⟩
    exact ⟨v.length, by simp, by simpa using hx, by simpa using hy⟩
  · rintro ⟨i, _, hx, hy⟩
    exact ⟨u.take i, u.drop i, by simp, hx, hy⟩
theorem Rw.matches_or (x y : Rw) (u : List Nat) : Rw.matches (.or x y) u = (Rw.matches x u || Rw.matches y u) := by
  rw [Bool.eq_iff_iff]
  simp only [Bool.or_eq_true, Rw.matches_L]
  exact Rw.or_L
theorem Rw.matches_star (x : Rw) (u : List Nat) : Rw.matches (.star x) u = true ↔ u = [] ∨ ∃ i, 0 < i ∧ i ≤ u.length ∧ Rw.matches x (u.take i) = true ∧ Rw.matches (.star x) (u.drop i) = true := by
  simp only [Rw.matches_L]
  constructor
  · intro h
    cases u with
    | nil => exact .inl rfl
    | cons b u =>
      obtain ⟨v, w, rfl, hx, hs⟩ := Rw.star_cons.1 h
      exact .inr ⟨v.length + 1, by omega, by simp, by simpa using hx, by simpa using hs⟩
  · rintro (rfl | ⟨i, _, _, hx, hs⟩)
    · exact .nil
    · have := Re.Lang.more hx hs
      rwa [List.take_append_drop] at this
theorem Rw.matches_empty (u : List Nat) : Rw.matches .empty u = decide (u = []) := by
  rw [Bool.eq_iff_iff, Rw.matches_L, Rw.empty_L]; simp
theorem Rw.matches_none (u : List Nat) : Rw.matches Rw.none u = false := by
  cases h : Rw.matches Rw.none u with
  | false => rfl
  | true => exact (Rw.none_L u ((Rw.matches_L _ _).1 h)).elim

/-- is some beginning, of less than k bytes, one of x's, and the rest one of y's? -/
def catB (x y : Rw) (u : List Nat) : Nat → Bool
  | 0 => false
  | k + 1 => catB x y u k || (Rw.matches x (u.take k) && Rw.matches y (u.drop k))
theorem catB_iff (x y : Rw) (u : List Nat) (k : Nat) : catB x y u k = true ↔ ∃ i, i < k ∧ Rw.matches x (u.take i) = true ∧ Rw.matches y (u.drop i) = true := by
  induction k with
  | zero => simp [catB]
  | succ k ih =>
    simp only [catB, Bool.or_eq_true, Bool.and_eq_true, ih]
    constructor
    · rintro (⟨i, h1, h2⟩ | h2)
      · exact ⟨i, by omega, h2⟩
      · exact ⟨k, by omega, h2⟩
    · rintro ⟨i, h1, h2⟩
      by_cases hk : i = k
      · subst hk; exact .inr h2
      · exact .inl ⟨i, by omega, h2⟩
theorem catB_end (x y : Rw) (u : List Nat) (k : Nat) (h : u.length < k) (h2 : k ≤ u.length + 1) : Rw.matches (.cat x y) u = catB x y u k := by
  rw [Bool.eq_iff_iff, Rw.matches_cat, catB_iff]
  constructor
  · rintro ⟨i, h1, h2⟩; exact ⟨i, by omega, h2⟩
  · rintro ⟨i, h1, h2⟩; exact ⟨i, by omega, h2⟩
def starB (x : Rw) (u : List Nat) : Nat → Bool
  | 0 => decide (u = [])
  | k + 1 => starB x u k || (decide (0 < k) && Rw.matches x (u.take k) && Rw.matches (.star x) (u.drop k))
theorem starB_iff (x : Rw) (u : List Nat) (k : Nat) : starB x u k = true ↔ u = [] ∨ ∃ i, i < k ∧ 0 < i ∧ Rw.matches x (u.take i) = true ∧ Rw.matches (.star x) (u.drop i) = true := by
  induction k with
  | zero => simp [starB]
  | succ k ih =>
    simp only [starB, Bool.or_eq_true, Bool.and_eq_true, ih, decide_eq_true_eq]
    constructor
    · rintro ((h | ⟨i, h1, h2⟩) | ⟨⟨h1, h2⟩, h3⟩)
      · exact .inl h
      · exact .inr ⟨i, by omega, h2⟩
      · exact .inr ⟨k, by omega, h1, h2, h3⟩
    · rintro (h | ⟨i, h1, h0, h2, h3⟩)
      · exact .inl (.inl h)
      · by_cases hk : i = k
        · subst hk; exact .inr ⟨⟨h0, h2⟩, h3⟩
        · exact .inl (.inr ⟨i, by omega, h0, h2, h3⟩)
theorem starB_end (x : Rw) (u : List Nat) (k : Nat) (h : u.length < k) (h2 : k ≤ u.length + 1) : Rw.matches (.star x) u = starB x u k := by
  rw [Bool.eq_iff_iff, Rw.matches_star, starB_iff]
  constructor
  · rintro (h | ⟨i, h0, h1, h2⟩)
    · exact .inl h
    · exact .inr ⟨i, by omega, h0, h2⟩
  · rintro (h | ⟨i, h1, h0, h2⟩)
    · exact .inl h
    · exact .inr ⟨i, h0, by omega, h2⟩

theorem bts_inj {s t : ByteArray} (h : bts s = bts t) : s = t := by
  have : s.data.toList = t.data.toList := by
    exact (List.map_inj_right (fun a b hab => UInt8.toNat_inj.1 hab)).1 h
  cases s; cases t; simp at this; rw [this]
theorem bts_lt (s : ByteArray) : ∀ c ∈ bts s, c < 256 := by
  intro c hc
  simp only [bts, List.mem_map] at hc
  obtain ⟨b, _, rfl⟩ := hc
  exact b.toNat_lt
theorem bts_nil {s : ByteArray} : bts s = [] ↔ s.data.toList = [] := by simp [bts]
theorem lit_self (s : ByteArray) : Rw.matches (litT s) (bts s) = true := (Rw.matches_L _ _).2 ((litT_L s _ (bts_lt s)).2 rfl)
theorem lit_other (s t : ByteArray) : Rw.matches (litT s) (bts t) = decide (s = t) := by
  rw [Bool.eq_iff_iff, Rw.matches_L, litT_L s _ (bts_lt t)]
  simp only [decide_eq_true_eq]
  exact ⟨fun h => (bts_inj h).symm, fun h => by rw [h]⟩

end Go.Proofs.Ytkhcnneflcbnpaa
