/-
  Regular expressions in plain terms: trees, what they mean, and what stands behind a byte. Conditions: none. No program in sight.
-/
namespace Go.Proofs.Ytkhcnneflcbnpaa

inductive Re (σ : Type) where
  | set (s : σ)
  | empty
  | cat (x y : Re σ)
  | or (x y : Re σ)
  | star (x : Re σ)
  deriving DecidableEq

structure W4 where
  a : Int
  b : Int
  c : Int
  d : Int
  deriving DecidableEq

namespace W4
def zero : W4 := ⟨0, 0, 0, 0⟩
def get (s : W4) (i : Nat) : Int := if i = 0 then s.a else if i = 1 then s.b else if i = 2 then s.c else s.d
def ok (s : W4) : Prop := (0 ≤ s.a ∧ s.a < 18446744073709551616) ∧ (0 ≤ s.b ∧ s.b < 18446744073709551616) ∧ (0 ≤ s.c ∧ s.c < 18446744073709551616) ∧ (0 ≤ s.d ∧ s.d < 18446744073709551616)
def bit (s : W4) (b : Nat) : Bool := decide (s.get (b / 64) / 2 ^ (b % 64) % 2 = 1)
end W4

namespace Re
variable {σ : Type}
def kind : Re σ → Nat
  | .set _ => 0 | .empty => 1 | .cat _ _ => 2 | .or _ _ => 3 | .star _ => 4
def size : Re σ → Nat
  | .set _ => 1 | .empty => 1 | .cat x y => 1 + size x + size y | .or x y => 1 + size x + size y | .star x => 1 + size x
def nullable : Re σ → Bool
  | .set _ => false | .empty => true | .cat x y => nullable x && nullable y | .or x y => nullable x || nullable y | .star _ => true
def map {τ : Type} (f : σ → τ) : Re σ → Re τ
  | .set s => .set (f s) | .empty => .empty | .cat x y => .cat (map f x) (map f y) | .or x y => .or (map f x) (map f y) | .star x => .star (map f x)
/-- of some, the node of two: the first one, and that of the others -/
def two (f : Re σ → Re σ → Re σ) (none : Re σ) : List (Re σ) → Re σ
  | [] => none
  | [x] => x
  | x :: y :: l => f x (two f none (y :: l))
/-- what it means -/
inductive Lang (m : σ → Nat → Bool) : Re σ → List Nat → Prop where
  | set {s : σ} {b : Nat} : m s b = true → Lang m (.set s) [b]
  | empty : Lang m .empty []
  | cat {x y : Re σ} {u v : List Nat} : Lang m x u → Lang m y v → Lang m (.cat x y) (u ++ v)
  | orl {x y : Re σ} {u : List Nat} : Lang m x u → Lang m (.or x y) u
  | orr {x y : Re σ} {u : List Nat} : Lang m y u → Lang m (.or x y) u
  | nil {x : Re σ} : Lang m (.star x) []
  | more {x : Re σ} {u v : List Nat} : Lang m x u → Lang m (.star x) v → Lang m (.star x) (u ++ v)
theorem nullable_iff (m : σ → Nat → Bool) (t : Re σ) : t.nullable = true ↔ Lang m t [] := by
  induction t with
  | set s => exact ⟨fun h => by simp [nullable] at h, fun h => by cases h⟩
  | empty => exact ⟨fun _ => .empty, fun _ => rfl⟩
  | cat x y hx hy =>
    simp only [nullable, Bool.and_eq_true, hx, hy]
    constructor
    · rintro ⟨a, b⟩; exact .cat (u := []) (v := []) a b
    · intro h
      generalize hl : ([] : List Nat) = l at h
      cases h with
      | cat a b =>
        obtain ⟨rfl, rfl⟩ := List.append_eq_nil_iff.1 hl.symm
        exact ⟨a, b⟩
  | or x y hx hy =>
    simp only [nullable, Bool.or_eq_true, hx, hy]
    constructor
    · rintro (a | a)
      · exact .orl a
      · exact .orr a
    · intro h
      cases h with
      | orl a => exact .inl a
      | orr a => exact .inr a
  | star x _ => exact ⟨fun _ => .nil, fun _ => rfl⟩
end Re

abbrev Rw := Re W4
def Rw.none : Rw := .set W4.zero
def Rw.mem : W4 → Nat → Bool := W4.bit
abbrev Rw.L (t : Rw) (u : List Nat) : Prop := Re.Lang Rw.mem t u
def Rw.nothing (t : Rw) : Bool := decide (t = Rw.none)
def Rw.holds : Rw → Rw → Bool
  | .or x y, n => Rw.holds x n || Rw.holds y n
  | l, n => decide (l = n)
def Rw.tidyCat (a b : Rw) : Rw :=
  if a.nothing || b.nothing then Rw.none else if a = .empty then b else if b = .empty then a else .cat a b
def Rw.tidyOr : Rw → Rw → Rw
  | a, b =>
    if a.nothing then b else if b.nothing || decide (a = b) then a else
    match a with
    | .or x y => Rw.tidyOr x (Rw.tidyOr y b)
    | a => if decide (b.kind = 3) && Rw.holds b a then b else .or a b
def Rw.derive (b : Nat) : Rw → Rw
  | .set s => if s.bit b then .empty else Rw.none
  | .empty => Rw.none
  | .cat x y => if x.nullable then Rw.tidyOr (Rw.tidyCat (Rw.derive b x) y) (Rw.derive b y) else Rw.tidyCat (Rw.derive b x) y
  | .or x y => Rw.tidyOr (Rw.derive b x) (Rw.derive b y)
  | .star x => Rw.tidyCat (Rw.derive b x) (.star x)
def Rw.matches (t : Rw) (u : List Nat) : Bool := (u.foldl (fun t b => Rw.derive b t) t).nullable

theorem W4.zero_bit (b : Nat) : W4.zero.bit b = false := by
  have h : W4.zero.get (b / 64) = 0 := by unfold W4.get W4.zero; simp
  simp [W4.bit, h]
theorem Rw.none_L (u : List Nat) : ¬ Rw.L Rw.none u := by
  intro h
  cases h with
  | set h => simp [Rw.mem, W4.zero_bit] at h
theorem Rw.nothing_L {t : Rw} (h : t.nothing = true) (u : List Nat) : ¬ Rw.L t u := by
  have : t = Rw.none := by simpa [Rw.nothing] using h
  subst this; exact Rw.none_L u
theorem Rw.cat_L {x y : Rw} {u : List Nat} : Rw.L (.cat x y) u ↔ ∃ v w, u = v ++ w ∧ Rw.L x v ∧ Rw.L y w := by
  constructor
  · intro h; cases h with | cat a b => exact ⟨_, _, rfl, a, b⟩
  · rintro ⟨v, w, rfl, a, b⟩; exact .cat a b
theorem Rw.or_L {x y : Rw} {u : List Nat} : Rw.L (.or x y) u ↔ Rw.L x u ∨ Rw.L y u := by
  constructor
  · intro h; cases h with
    | orl a => exact .inl a
    | orr a => exact .inr a
  · rintro (a | a)
    · exact .orl a
    · exact .orr a
theorem Rw.empty_L {u : List Nat} : Rw.L .empty u ↔ u = [] := by
  constructor
  · intro h; cases h; rfl
  · rintro rfl; exact .empty
theorem Rw.set_L {s : W4} {u : List Nat} : Rw.L (.set s) u ↔ ∃ b, u = [b] ∧ s.bit b = true := by
  constructor
  · intro h; cases h with | set h => exact ⟨_, rfl, h⟩
  · rintro ⟨b, rfl, h⟩; exact .set h
theorem Rw.star_cons {x : Rw} {b : Nat} {u : List Nat} : Rw.L (.star x) (b :: u) ↔ ∃ v w, u = v ++ w ∧ Rw.L x (b :: v) ∧ Rw.L (.star x) w := by
  constructor
  · intro h
    generalize hs : Re.star x = s at h
    generalize hl : b :: u = l at h
    induction h with
    | nil => cases hl
    | @more x' v w h1 h2 _ ih2 =>
      cases hs
      cases v with
      | nil => exact ih2 rfl (by simpa using hl)
      | cons c v =>
        simp only [List.cons_append, List.cons.injEq] at hl
        obtain ⟨rfl, rfl⟩ := hl
        exact ⟨v, w, rfl, h1, h2⟩
    | _ => cases hs
  · rintro ⟨v, w, rfl, a, c⟩
    exact .more (u := b :: v) a c
theorem Rw.tidyCat_L (a b : Rw) (u : List Nat) : Rw.L (Rw.tidyCat a b) u ↔ Rw.L (.cat a b) u := by
  unfold Rw.tidyCat
  split
  · rename_i h
    rw [Rw.cat_L]
    constructor
    · intro h'; exact (Rw.none_L _ h').elim
    · rintro ⟨v, w, rfl, ha, hb⟩
      rcases Bool.or_eq_true _ _ ▸ h with h | h
      · exact (Rw.nothing_L h _ ha).elim
      · exact (Rw.nothing_L h _ hb).elim
  · split
    · rename_i h; subst h
      rw [Rw.cat_L]
      constructor
      · intro h'; exact ⟨[], u, rfl, .empty, h'⟩
      · rintro ⟨v, w, rfl, ha, hb⟩
        rw [Rw.empty_L] at ha; subst ha; simpa using hb
    · split
      · rename_i h; subst h
        rw [Rw.cat_L]
        constructor
        · intro h'; exact ⟨u, [], by simp, h', .empty⟩
        · rintro ⟨v, w, rfl, ha, hb⟩
          rw [Rw.empty_L] at hb; subst hb; simpa using ha
      · rfl
theorem Rw.holds_L {l n : Rw} (h : Rw.holds l n = true) (u : List Nat) (hn : Rw.L n u) : Rw.L l u := by
  induction l with
  | or x y hx hy =>
    simp only [Rw.holds, Bool.or_eq_true] at h
    rcases h with h | h
    · exact .orl (hx h)
    · exact .orr (hy h)
  | _ => simp only [Rw.holds, decide_eq_true_eq] at h; rw [h]; exact hn
theorem Rw.tidyOr_L (a b : Rw) (u : List Nat) : Rw.L (Rw.tidyOr a b) u ↔ Rw.L (.or a b) u := by
  induction a generalizing b u with
  | or x y hx hy =>
    rw [Rw.tidyOr]
    split
    · rename_i h
      rw [Rw.or_L]; exact ⟨.inr, fun h' => h'.resolve_left (Rw.nothing_L h u)⟩
    · split
      · rename_i h
        rw [Rw.or_L (u := u) (y := b)]
        refine ⟨.inl, fun h' => ?_⟩
        rcases Bool.or_eq_true _ _ ▸ h with h | h
        · exact h'.resolve_right (Rw.nothing_L h u)
        · simp only [decide_eq_true_eq] at h; subst h; exact h'.elim id id
      · simp only [hx, hy, Rw.or_L]
        exact or_assoc.symm
  | _ =>
    simp only [Rw.tidyOr]
    split
    · rename_i h
      rw [Rw.or_L]; exact ⟨.inr, fun h' => h'.resolve_left (Rw.nothing_L h u)⟩
    · split
      · rename_i h
        rw [Rw.or_L]
        refine ⟨.inl, fun h' => ?_⟩
        rcases Bool.or_eq_true _ _ ▸ h with h | h
        · exact h'.resolve_right (Rw.nothing_L h u)
        · simp only [decide_eq_true_eq] at h; rw [← h] at h'; exact h'.elim id id
      · split
        · rename_i h
          rw [Bool.and_eq_true] at h
          rw [Rw.or_L]
          exact ⟨.inr, fun h' => h'.elim (Rw.holds_L h.2 u) id⟩
        · rfl
theorem Rw.derive_L (b : Nat) (t : Rw) : ∀ u, Rw.L (Rw.derive b t) u ↔ Rw.L t (b :: u) := by
  induction t with
  | set s =>
    intro u
    simp only [Rw.derive]
    rw [Rw.set_L]
    split
    · rename_i h
      rw [Rw.empty_L]
      constructor
      · rintro rfl; exact ⟨b, rfl, h⟩
      · rintro ⟨c, hc, _⟩; simpa using (List.cons.inj hc).2
    · rename_i h
      constructor
      · intro h'; exact (Rw.none_L _ h').elim
      · rintro ⟨c, hc, hb⟩
        obtain ⟨rfl, _⟩ := List.cons.inj hc
        exact (h hb).elim
  | empty => intro u; simp only [Rw.derive]; rw [Rw.empty_L]; exact ⟨fun h => (Rw.none_L _ h).elim, fun h => by cases h⟩
  | cat x y hx hy =>
    intro u
    have hcat : Rw.L (.cat (Rw.derive b x) y) u ↔ ∃ v w, u = v ++ w ∧ Rw.L x (b :: v) ∧ Rw.L y w := by
      rw [Rw.cat_L]; simp only [hx]
    have hgen : Rw.L (.cat x y) (b :: u) ↔ (∃ v w, u = v ++ w ∧ Rw.L x (b :: v) ∧ Rw.L y w) ∨ (Rw.L x [] ∧ Rw.L y (b :: u)) := by
      rw [Rw.cat_L]
      constructor
      · rintro ⟨v, w, h, a, c⟩
        cases v with
        | nil => right; simp only [List.nil_append] at h; subst h; exact ⟨a, c⟩
        | cons d v =>
          simp only [List.cons_append, List.cons.injEq] at h
          obtain ⟨rfl, rfl⟩ := h
          left; exact ⟨v, w, rfl, a, c⟩
      · rintro (⟨v, w, rfl, a, c⟩ | ⟨a, c⟩)
        · exact ⟨b :: v, w, rfl, a, c⟩
        · exact ⟨[], b :: u, rfl, a, c⟩
    simp only [Rw.derive]
    rw [hgen]
    split
    · rename_i h
      rw [Rw.tidyOr_L, Rw.or_L, Rw.tidyCat_L, hcat, hy]
      have := (Re.nullable_iff Rw.mem x).1 h
      simp [this]
    · rename_i h
      rw [Rw.tidyCat_L, hcat]
      have : ¬ Rw.L x [] := fun h' => h ((Re.nullable_iff Rw.mem x).2 h')
      simp [this]
  | or x y hx hy => intro u; simp only [Rw.derive]; rw [Rw.tidyOr_L, Rw.or_L, Rw.or_L, hx, hy]
  | star x hx =>
    intro u
    simp only [Rw.derive]
    rw [Rw.tidyCat_L, Rw.cat_L, Rw.star_cons]
    simp only [hx]
theorem Rw.matches_L (t : Rw) (u : List Nat) : Rw.matches t u = true ↔ Rw.L t u := by
  unfold Rw.matches
  induction u generalizing t with
  | nil => exact Re.nullable_iff Rw.mem t
  | cons b u ih => simp only [List.foldl_cons]; rw [ih, Rw.derive_L]

end Go.Proofs.Ytkhcnneflcbnpaa
