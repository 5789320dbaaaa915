/-
  The places where a match may end are those that the expression's language gives. Conditions: none. No program in sight.
-/
import Derived.Test.YtkhcnneflcbnpaaMEnds
namespace Go.Proofs.Ytkhcnneflcbnpaa
open Go.RowKit

def seg (s : ByteArray) (i j : Nat) : List Nat := ((bts s).take j).drop i
theorem seg_len {s : ByteArray} {i j : Nat} (hj : j ≤ s.size) : (seg s i j).length = j - i := by
  unfold seg; rw [List.length_drop, List.length_take, bts_len]; omega
theorem seg_self (s : ByteArray) (i : Nat) : seg s i i = [] := by
  unfold seg; apply List.drop_eq_nil_of_le; rw [List.length_take]; omega
theorem seg_split {s : ByteArray} {i m j : Nat} (h1 : i ≤ m) (h2 : m ≤ j) : seg s i m ++ seg s m j = seg s i j := by
  unfold seg
  have e : (bts s).take j = (bts s).take m ++ ((bts s).take j).drop m := by
    have h := List.take_append_drop m ((bts s).take j)
    rw [List.take_take, Nat.min_eq_left h2] at h
    exact h.symm
  conv => rhs; rw [e]
  rcases Nat.lt_or_ge (bts s).length m with h | h
  · have h5 : ((bts s).take j).drop m = [] := by apply List.drop_eq_nil_of_le; rw [List.length_take]; omega
    rw [h5]; simp
  · rw [List.drop_append, show i - ((bts s).take m).length = 0 by rw [List.length_take]; omega]; simp
theorem seg_of {s : ByteArray} {i j : Nat} {v w : List Nat} (hj : j ≤ s.size) (hij : i ≤ j) (h : seg s i j = v ++ w) : i + v.length ≤ j ∧ seg s i (i + v.length) = v ∧ seg s (i + v.length) j = w := by
  have hl := seg_len (s := s) (i := i) hj
  rw [h, List.length_append] at hl
  have h1 : i + v.length ≤ j := by omega
  have h2 := seg_split (s := s) (show i ≤ i + v.length by omega) h1
  rw [h] at h2
  have h3 : (seg s i (i + v.length)).length = v.length := by rw [seg_len (by omega)]; omega
  obtain ⟨a, b⟩ := List.append_inj h2 h3
  exact ⟨h1, a, b⟩
theorem seg_one {s : ByteArray} {k : Nat} (hk : k < s.size) : seg s k (k + 1) = [bt s k] := by
  unfold seg
  have h : k < (bts s).length := by rw [bts_len]; exact hk
  rw [List.take_succ_eq_append_getElem h, List.drop_append_of_le_length (by rw [List.length_take]; omega), List.drop_eq_nil_of_le (by rw [List.length_take]; omega)]
  simp [bts, bt, hk, ByteArray.getElem_eq_getElem_data]

theorem starF_ge (E : (Nat → Bool) → Nat → Bool) (n : Nat) : ∀ (k : Nat) (l : Nat → Bool) (j : Nat), l j = true → starF E n k l j = true
  | 0, l, j, h => h
  | k + 1, l, j, h => by
    unfold starF
    split
    · exact starF_ge E n k _ j (by simp [h])
    · simp [h]

theorem ends_iff (s : ByteArray) : ∀ (t : Rw) (l : Nat → Bool) (j : Nat), j ≤ s.size → (endsF s (toB t) l j = true ↔ ∃ i, i ≤ j ∧ l i = true ∧ Rw.L t (seg s i j)) := by
  intro t
  induction t with
  | set f =>
    intro l j hj
    show (if j = 0 then false else l (j - 1) && f.bit (bt s (j - 1))) = true ↔ _
    by_cases h0 : j = 0
    · rw [if_pos h0]
      refine ⟨(fun h => by cases h), ?_⟩
      rintro ⟨i, hi, _, hL⟩
      have : i = j := by omega
      subst this
      rw [seg_self, Rw.set_L] at hL
      obtain ⟨b, hb, _⟩ := hL; cases hb
    · rw [if_neg h0, Bool.and_eq_true]
      obtain ⟨k, rfl⟩ : ∃ k, j = k + 1 := ⟨j - 1, by omega⟩
      simp only [Nat.add_sub_cancel]
      constructor
      · rintro ⟨h1, h2⟩
        exact ⟨k, by omega, h1, by rw [seg_one (by omega), Rw.set_L]; exact ⟨_, rfl, h2⟩⟩
      · rintro ⟨i, hi, h1, hL⟩
        rw [Rw.set_L] at hL
        obtain ⟨b, hb, hbit⟩ := hL
        have hlen := seg_len (s := s) (i := i) hj
        rw [hb] at hlen
        have : i = k := by simp at hlen; omega
        subst this
        rw [seg_one (by omega)] at hb
        simp at hb
        exact ⟨h1, by rw [hb]; exact hbit⟩
  | empty =>
    intro l j hj
    show l j = true ↔ _
    constructor
    · intro h; exact ⟨j, Nat.le_refl _, h, by rw [seg_self]; exact .empty⟩
    · rintro ⟨i, hi, h, hL⟩
      rw [Rw.empty_L] at hL
      have hlen := seg_len (s := s) (i := i) hj
      rw [hL] at hlen
      have : i = j := by simp at hlen; omega
      rw [← this]; exact h
  | cat x y ix iy =>
    intro l j hj
    show endsF s (toB y) (endsF s (toB x) l) j = true ↔ _
    rw [iy _ j hj]
    constructor
    · rintro ⟨m, hm, h1, hL⟩
      rw [ix l m (by omega)] at h1
      obtain ⟨i, hi, h2, hL2⟩ := h1
      exact ⟨i, by omega, h2, by rw [← seg_split hi hm]; exact .cat hL2 hL⟩
    · rintro ⟨i, hi, h, hL⟩
      rw [Rw.cat_L] at hL
      obtain ⟨v, w, hvw, h1, h2⟩ := hL
      obtain ⟨a, b, c⟩ := seg_of hj hi hvw
      exact ⟨i + v.length, a, by rw [ix l _ (by omega)]; exact ⟨i, by omega, h, by rw [b]; exact h1⟩, by rw [c]; exact h2⟩
  | or x y ix iy =>
    intro l j hj
    show (endsF s (toB x) l j || endsF s (toB y) l j) = true ↔ _
    rw [Bool.or_eq_true, ix l j hj, iy l j hj]
    constructor
    · rintro (⟨i, a, b, c⟩ | ⟨i, a, b, c⟩)
      · exact ⟨i, a, b, .orl c⟩
      · exact ⟨i, a, b, .orr c⟩
    · rintro ⟨i, a, b, c⟩
      rw [Rw.or_L] at c
      rcases c with c | c
      · exact .inl ⟨i, a, b, c⟩
      · exact .inr ⟨i, a, b, c⟩
  | star x ix =>
    intro l j hj
    show starF (endsF s (toB x)) (s.size + 1) (s.size + 1) l j = true ↔ _
    constructor
    · have key : ∀ (k : Nat) (l : Nat → Bool), starF (endsF s (toB x)) (s.size + 1) k l j = true → ∃ i, i ≤ j ∧ l i = true ∧ Rw.L (.star x) (seg s i j) := by
        intro k
        induction k with
        | zero => intro l h; exact ⟨j, Nat.le_refl _, h, by rw [seg_self]; exact .nil⟩
        | succ k ih =>
          intro l h
          have step : ∀ i, i ≤ j → (l i || endsF s (toB x) l i) = true → Rw.L (.star x) (seg s i j) → ∃ i, i ≤ j ∧ l i = true ∧ Rw.L (.star x) (seg s i j) := by
            intro i hi h1 hL
            rw [Bool.or_eq_true] at h1
            rcases h1 with h1 | h1
            · exact ⟨i, hi, h1, hL⟩
            · rw [ix l i (by omega)] at h1
              obtain ⟨m, hm, h2, hL2⟩ := h1
              exact ⟨m, by omega, h2, by rw [← seg_split hm hi]; exact .more hL2 hL⟩
          unfold starF at h
          split at h
          · obtain ⟨i, hi, h1, hL⟩ := ih _ h
            exact step i hi h1 hL
          · exact step j (Nat.le_refl _) h (by rw [seg_self]; exact .nil)
      exact key _ l
    · have key : ∀ (k : Nat) (l : Nat → Bool) (i : Nat), i ≤ j → j - i ≤ k → l i = true → Rw.L (.star x) (seg s i j) → starF (endsF s (toB x)) (s.size + 1) k l j = true := by
        intro k
        induction k with
        | zero =>
          intro l i hi hk h _
          have : i = j := by omega
          subst this; exact h
        | succ k ih =>
          intro l i hi hk h hL
          by_cases hij : i = j
          · subst hij; exact starF_ge _ _ _ _ _ h
          · -- a first piece that is not empty
            cases hseg : seg s i j with
            | nil =>
              have hlen := seg_len (s := s) (i := i) hj
              rw [hseg] at hlen; simp at hlen; omega
            | cons b u =>
              rw [hseg, Rw.star_cons] at hL
              obtain ⟨v, w, rfl, hx, hw⟩ := hL
              obtain ⟨a1, a2, a3⟩ := seg_of (v := b :: v) (w := w) hj hi (by rw [hseg]; rfl)
              have hE : endsF s (toB x) l (i + (b :: v).length) = true := by
                rw [ix l _ (by omega)]; exact ⟨i, by omega, h, by rw [a2]; exact hx⟩
              have hgt : j - (i + (b :: v).length) ≤ k := by simp at a1 ⊢; omega
              unfold starF
              split
              · exact ih _ _ a1 hgt (by show (l _ || endsF s (toB x) l _) = true; rw [hE, Bool.or_true]) (by rw [a3]; exact hw)
              · rename_i hno
                have hcl : ∀ m, m ≤ s.size → endsF s (toB x) l m = true → l m = true := by
                  intro m hm hem
                  have hno' : (List.range (s.size + 1)).any (fun j => endsF s (toB x) l j && !l j) = false := by simpa using hno
                  rw [List.any_eq_false] at hno'
                  have := hno' m (List.mem_range.2 (by omega))
                  simpa [hem] using this
                have hall : ∀ (d m : Nat), j - m ≤ d → m ≤ j → l m = true → Rw.L (.star x) (seg s m j) → l j = true := by
                  intro d
                  induction d with
                  | zero => intro m h1 h2 h3 _; have : m = j := by omega
                            subst this; exact h3
                  | succ d ihd =>
                    intro m h1 h2 h3 h4
                    by_cases hmj : m = j
                    · subst hmj; exact h3
                    · cases hsg : seg s m j with
                      | nil =>
                        have hlen := seg_len (s := s) (i := m) hj
                        rw [hsg] at hlen; simp at hlen; omega
                      | cons b' u' =>
                        rw [hsg, Rw.star_cons] at h4
                        obtain ⟨v', w', rfl, hx', hw'⟩ := h4
                        obtain ⟨c1, c2, c3⟩ := seg_of (v := b' :: v') (w := w') hj h2 (by rw [hsg]; rfl)
                        refine ihd _ (by simp at c1 ⊢; omega) c1 (hcl _ (by omega) ?_) (by rw [c3]; exact hw')
                        rw [ix l _ (by omega)]; exact ⟨m, by omega, h3, by rw [c2]; exact hx'⟩
                have := hall _ _ (Nat.le_refl _) a1 (hcl _ (by omega) hE) (by rw [a3]; exact hw)
                show (l j || endsF s (toB x) l j) = true
                rw [this]; rfl
      rintro ⟨i, hi, h, hL⟩
      exact key _ l i hi (by omega) h hL

theorem matchF_eq (s : ByteArray) (t : Rw) : matchF s (toB t) = Rw.matches t (bts s) := by
  rw [Bool.eq_iff_iff, Rw.matches_L]
  unfold matchF
  rw [ends_iff s t _ s.size (Nat.le_refl _)]
  have e : seg s 0 s.size = bts s := by unfold seg; rw [List.take_of_length_le (by rw [bts_len]; exact Nat.le_refl _)]; rfl
  constructor
  · rintro ⟨i, hi, h, hL⟩
    have : i = 0 := by
      by_cases h0 : i = 0
      · exact h0
      · rw [if_neg h0] at h; cases h
    subst this
    rw [e] at hL; exact hL
  · intro h
    exact ⟨0, Nat.zero_le _, rfl, by rw [e]; exact h⟩
theorem match_empty (t : Rw) : matchF ⟨#[]⟩ (toB t) = t.nullable := by
  rw [matchF_eq]; rfl

end Go.Proofs.Ytkhcnneflcbnpaa
