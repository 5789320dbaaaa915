/-
  Alternatives in brackets, one way round and the other, and once more: how they read. Conditions: none.
-/
import Derived.Test.YtkhcnneflcbnpaaPLoc2
import Derived.Test.YtkhcnneflcbnpaaPLaw
namespace Go.Proofs.Ytkhcnneflcbnpaa
open Go.RowKit

theorem bt_list (s : ByteArray) (k : Nat) : bt s k = ((bts s)[k]?).getD 0 := by
  by_cases h : k < s.size
  · rw [bt_in h, List.getElem?_eq_getElem (by rw [bts_len]; exact h), bts_get s k h]; rfl
  · rw [bt_out h, List.getElem?_eq_none (by rw [bts_len]; omega)]; rfl
theorem bts_app (a b : ByteArray) : bts (a ++ b) = bts a ++ bts b := by simp [bts]
theorem bt_app (a b : ByteArray) (k : Nat) : bt (a ++ b) k = if k < a.size then bt a k else bt b (k - a.size) := by
  rw [bt_list, bt_list, bt_list, bts_app]
  by_cases h : k < a.size
  · rw [if_pos h, List.getElem?_append_left (by rw [bts_len]; exact h)]
  · rw [if_neg h, List.getElem?_append_right (by rw [bts_len]; omega), bts_len]

/-- '(a)|(b)' -/
def altT (a b : ByteArray) : ByteArray := (⟨#[40]⟩ : ByteArray) ++ a ++ ⟨#[41, 124, 40]⟩ ++ b ++ ⟨#[41]⟩
/-- '((a))|((a))' -/
def dblT (a : ByteArray) : ByteArray := (⟨#[40, 40]⟩ : ByteArray) ++ a ++ ⟨#[41, 41, 124, 40, 40]⟩ ++ a ++ ⟨#[41, 41]⟩

theorem altT_size (a b : ByteArray) : (altT a b).size = a.size + b.size + 5 := by
  simp only [altT, ByteArray.size_append]
  have h1 : (⟨#[40]⟩ : ByteArray).size = 1 := rfl
  have h2 : (⟨#[41, 124, 40]⟩ : ByteArray).size = 3 := rfl
  have h3 : (⟨#[41]⟩ : ByteArray).size = 1 := rfl
  omega
theorem dblT_size (a : ByteArray) : (dblT a).size = a.size + a.size + 9 := by
  simp only [dblT, ByteArray.size_append]
  have h1 : (⟨#[40, 40]⟩ : ByteArray).size = 2 := rfl
  have h2 : (⟨#[41, 41, 124, 40, 40]⟩ : ByteArray).size = 5 := rfl
  have h3 : (⟨#[41, 41]⟩ : ByteArray).size = 2 := rfl
  omega
theorem altT_bt (a b : ByteArray) (k : Nat) : bt (altT a b) k =
    if k < 1 then 40 else if k < a.size + 1 then bt a (k - 1) else if k < a.size + 4 then bt ⟨#[41, 124, 40]⟩ (k - (a.size + 1)) else if k < a.size + b.size + 4 then bt b (k - (a.size + 4)) else bt ⟨#[41]⟩ (k - (a.size + b.size + 4)) := by
  have h1 : (⟨#[40]⟩ : ByteArray).size = 1 := rfl
  have h2 : (⟨#[41, 124, 40]⟩ : ByteArray).size = 3 := rfl
  simp only [altT, bt_app, ByteArray.size_append, h1, h2]
  by_cases c1 : k < 1
  · have : k = 0 := by omega
    subst this
    rw [if_pos (by omega), if_pos (by omega), if_pos (by omega), if_pos (by omega), if_pos (by omega)]; rfl
  by_cases c2 : k < a.size + 1
  · rw [if_pos (by omega), if_pos (by omega), if_pos (by omega), if_neg c1, if_neg c1, if_pos c2]
  by_cases c3 : k < a.size + 4
  · rw [if_pos (by omega), if_pos (by omega), if_neg (by omega), if_neg c1, if_neg c2, if_pos c3]
    congr 1; omega
  by_cases c4 : k < a.size + b.size + 4
  · rw [if_pos (by omega), if_neg (by omega), if_neg c1, if_neg c2, if_neg c3, if_pos c4]
    congr 1; omega
  · rw [if_neg (by omega), if_neg c1, if_neg c2, if_neg c3, if_neg c4]
    congr 1; omega
theorem dblT_bt (a : ByteArray) (k : Nat) : bt (dblT a) k =
    if k < 2 then bt ⟨#[40, 40]⟩ k else if k < a.size + 2 then bt a (k - 2) else if k < a.size + 7 then bt ⟨#[41, 41, 124, 40, 40]⟩ (k - (a.size + 2)) else if k < a.size + a.size + 7 then bt a (k - (a.size + 7)) else bt ⟨#[41, 41]⟩ (k - (a.size + a.size + 7)) := by
  have h1 : (⟨#[40, 40]⟩ : ByteArray).size = 2 := rfl
  have h2 : (⟨#[41, 41, 124, 40, 40]⟩ : ByteArray).size = 5 := rfl
  simp only [dblT, bt_app, ByteArray.size_append, h1, h2]
  by_cases c1 : k < 2
  · rw [if_pos (by omega), if_pos (by omega), if_pos (by omega), if_pos (by omega), if_pos (by omega)]
  by_cases c2 : k < a.size + 2
  · rw [if_pos (by omega), if_pos (by omega), if_pos (by omega), if_neg c1, if_neg c1, if_pos c2]
  by_cases c3 : k < a.size + 7
  · rw [if_pos (by omega), if_pos (by omega), if_neg (by omega), if_neg c1, if_neg c2, if_pos c3]
    congr 1; omega
  by_cases c4 : k < a.size + a.size + 7
  · rw [if_pos (by omega), if_neg (by omega), if_neg c1, if_neg c2, if_neg c3, if_pos c4]
    congr 1; omega
  · rw [if_neg (by omega), if_neg c1, if_neg c2, if_neg c3, if_neg c4]
    congr 1; omega

theorem altT_0 (a b : ByteArray) : bt (altT a b) 0 = 40 := by rw [altT_bt, if_pos (by omega)]
theorem altT_a (a b : ByteArray) {k : Nat} (h : k < a.size) : bt (altT a b) (k + 1) = bt a k := by
  rw [altT_bt, if_neg (by omega), if_pos (by omega)]; congr 1
theorem altT_1 (a b : ByteArray) : bt (altT a b) (a.size + 1) = 41 := by
  rw [altT_bt, if_neg (by omega), if_neg (by omega), if_pos (by omega), Nat.sub_self]; rfl
theorem altT_2 (a b : ByteArray) : bt (altT a b) (a.size + 2) = 124 := by
  rw [altT_bt, if_neg (by omega), if_neg (by omega), if_pos (by omega), show a.size + 2 - (a.size + 1) = 1 by omega]; rfl
theorem altT_3 (a b : ByteArray) : bt (altT a b) (a.size + 3) = 40 := by
  rw [altT_bt, if_neg (by omega), if_neg (by omega), if_pos (by omega), show a.size + 3 - (a.size + 1) = 2 by omega]; rfl
theorem altT_b (a b : ByteArray) {k : Nat} (h : k < b.size) : bt (altT a b) (k + (a.size + 4)) = bt b k := by
  rw [altT_bt, if_neg (by omega), if_neg (by omega), if_neg (by omega), if_pos (by omega)]; congr 1; omega
theorem altT_4 (a b : ByteArray) : bt (altT a b) (a.size + b.size + 4) = 41 := by
  rw [altT_bt, if_neg (by omega), if_neg (by omega), if_neg (by omega), if_neg (by omega), Nat.sub_self]; rfl
theorem dblT_0 (a : ByteArray) : bt (dblT a) 0 = 40 := by rw [dblT_bt, if_pos (by omega)]; rfl
theorem dblT_1 (a : ByteArray) : bt (dblT a) 1 = 40 := by rw [dblT_bt, if_pos (by omega)]; rfl
theorem dblT_a (a : ByteArray) {k : Nat} (h : k < a.size) : bt (dblT a) (k + 2) = bt a k := by
  rw [dblT_bt, if_neg (by omega), if_pos (by omega)]; congr 1
theorem dblT_m (a : ByteArray) (j : Nat) (h : j < 5) : bt (dblT a) (a.size + 2 + j) = bt ⟨#[41, 41, 124, 40, 40]⟩ j := by
  rw [dblT_bt, if_neg (by omega), if_neg (by omega), if_pos (by omega), show a.size + 2 + j - (a.size + 2) = j by omega]
theorem dblT_b (a : ByteArray) {k : Nat} (h : k < a.size) : bt (dblT a) (k + (a.size + 7)) = bt a k := by
  rw [dblT_bt, if_neg (by omega), if_neg (by omega), if_neg (by omega), if_pos (by omega)]; congr 1; omega
theorem dblT_e (a : ByteArray) (j : Nat) : bt (dblT a) (a.size + a.size + 7 + j) = bt ⟨#[41, 41]⟩ j := by
  rw [dblT_bt, if_neg (by omega), if_neg (by omega), if_neg (by omega), if_neg (by omega), show a.size + a.size + 7 + j - (a.size + a.size + 7) = j by omega]

theorem lies_a (a b : ByteArray) : Lies a (altT a b) 0 0 1 41 := ⟨Nat.le_refl _, fun _ _ h => altT_a a b h, by rw [altT_size]; omega, .inr ⟨by rw [altT_size]; omega, altT_1 a b⟩, .inl rfl⟩
theorem lies_b (a b : ByteArray) : Lies b (altT a b) 0 0 (a.size + 4) 41 :=
  ⟨Nat.le_refl _, fun _ _ h => altT_b a b h, by rw [altT_size]; omega, .inr ⟨by rw [altT_size]; omega, by have := altT_4 a b; rw [← this]; congr 1; omega⟩, .inl rfl⟩
theorem lies_d1 (a : ByteArray) : Lies a (dblT a) 0 0 2 41 := ⟨Nat.le_refl _, fun _ _ h => dblT_a a h, by rw [dblT_size]; omega, .inr ⟨by rw [dblT_size]; omega, dblT_m a 0 (by omega)⟩, .inl rfl⟩
theorem lies_d2 (a : ByteArray) : Lies a (dblT a) 0 0 (a.size + 7) 41 :=
  ⟨Nat.le_refl _, fun _ _ h => dblT_b a h, by rw [dblT_size]; omega, .inr ⟨by rw [dblT_size]; omega, dblT_e a 0⟩, .inl rfl⟩
theorem lies_x (a b : ByteArray) : Lies (altT a b) (altT b a) (a.size + 3) (a.size + 3) 0 124 := by
  refine ⟨Nat.le_refl _, fun k h1 h2 => ?_, by rw [altT_size, altT_size]; omega, .inr ⟨by rw [altT_size, altT_size]; omega, ?_⟩, .inr rfl⟩
  · rw [altT_size] at h2
    by_cases c1 : k = a.size + 3
    · subst c1; rw [altT_3, show a.size + 3 + 0 - (a.size + 3) = 0 by omega, altT_0]
    by_cases c2 : k < a.size + b.size + 4
    · have h3 : k - (a.size + 4) < b.size := by omega
      have e1 := altT_a b a h3
      have e2 := altT_b a b h3
      rw [show k - (a.size + 4) + 1 = k + 0 - (a.size + 3) by omega] at e1
      rw [show k - (a.size + 4) + (a.size + 4) = k by omega] at e2
      rw [e1, e2]
    · have : k = a.size + b.size + 4 := by omega
      subst this
      rw [altT_4, show a.size + b.size + 4 + 0 - (a.size + 3) = b.size + 1 by omega, altT_1]
  · rw [altT_size, show a.size + b.size + 5 + 0 - (a.size + 3) = b.size + 2 by omega, altT_2]

theorem lies_self (a : ByteArray) : Lies a a 0 0 0 41 := ⟨Nat.le_refl _, fun _ _ _ => rfl, Nat.le_refl _, .inl rfl, .inl rfl⟩

theorem parse_ok {s : ByteArray} {t : Rw} (h : parseO s = .ok t) : (parseR s).2.long = false ∧ (parseR s).2.bad = false ∧ s.size ≤ (parseR s).2.at_ ∧ (parseR s).1 = t := by
  unfold parseO at h
  split at h
  · cases h
  · rename_i h1
    split at h
    · cases h
    · rename_i h2
      split at h
      · cases h
      · injection h with h
        have h1' : (parseR s).2.long = false := by simpa using h1
        simp at h2
        exact ⟨h1', h2.1, h2.2, h⟩

theorem alone {a : ByteArray} {t : Rw} (h : parseO a = .ok t) : orN a (a.size + 2) startPS = (t, ⟨a.size, false, false, 0⟩) := by
  obtain ⟨h1, h2, h3, h4⟩ := parse_ok h
  have hk := (orN_good a (a.size + 2) startPS rfl (Int.le_refl _) (by decide)).ok h2
  have hs := orN_sim 0 (lies_self a) (a.size + 2) (a.size + 2) startPS rfl (Int.le_refl _) (by decide) (Nat.zero_le _) (Nat.zero_le _) (by omega) (by omega) h2
  have e1 : (orN a (a.size + 2) startPS).1 = t := h4
  have e2 : (orN a (a.size + 2) startPS).2 = ⟨a.size, false, false, 0⟩ := by
    have q1 : (orN a (a.size + 2) startPS).2.at_ = a.size := Nat.le_antisymm hs.1 h3
    have q2 : (orN a (a.size + 2) startPS).2.bad = false := h2
    have q3 : (orN a (a.size + 2) startPS).2.long = false := h1
    have q4 : (orN a (a.size + 2) startPS).2.deep = 0 := hk.1
    revert q1 q2 q3 q4
    generalize (orN a (a.size + 2) startPS).2 = st
    intro q1 q2 q3 q4
    cases st; simp only at q1 q2 q3 q4; subst q1 q2 q3 q4; rfl
  exact Prod.ext e1 e2

theorem in_text {a u : ByteArray} {d : Nat} {t : Rw} (L : Lies a u 0 0 d 41) (h : parseO a = .ok t) (e : Int) (n : Nat) (hf : u.size + 1 ≤ n + d) :
    Lost (orN u n ⟨d, false, false, e⟩) ∨ orN u n ⟨d, false, false, e⟩ = (t, ⟨a.size + d, false, false, e⟩) := by
  have hal := alone h
  have e0 : startPS.mv 0 d e = ⟨d, false, false, e⟩ := by simp [PS.mv, startPS]
  have hs := (orN_sim e L (a.size + 2) n startPS rfl (Int.le_refl _) (by decide) (Nat.zero_le _) (Nat.zero_le _) (by omega) (by rw [e0]; exact hf) (by rw [hal])).2 (.inr (by decide))
  rw [e0, hal] at hs
  rcases hs with hs | hs
  · exact .inl hs
  · refine .inr (hs.trans ?_)
    simp [PS.mv]

theorem two_one (f : Rw → Rw → Rw) (z t : Rw) : Re.two f z [t] = t := rfl

theorem group_of {u : ByteArray} {n p q : Nat} {e : Int} {t : Rw} (he : e + 1 ≤ 50) (hp : p < u.size) (h40 : bt u p = 40) (hq : q < u.size) (h41 : bt u q = 41)
    (hend : u.size ≤ q + 1 ∨ bt u (q + 1) = 124 ∨ bt u (q + 1) = 41)
    (hin : Lost (orN u n ⟨p + 1, false, false, e + 1⟩) ∨ orN u n ⟨p + 1, false, false, e + 1⟩ = (t, ⟨q, false, false, e + 1⟩)) :
    Lost (ctN u n ⟨p, false, false, e⟩) ∨ ctN u n ⟨p, false, false, e⟩ = (t, ⟨q + 1, false, false, e⟩) := by
  have b40 : isB u 40 ⟨p, false, false, e⟩ = true := by simp [isB, hp, h40]
  have ce : catEnd u ⟨p, false, false, e⟩ = false := by simp [catEnd, hp, h40]
  have hst : (⟨p, false, false, e⟩ : PS).next.deeper = ⟨p + 1, false, false, e + 1⟩ := rfl
  have hat : atN u n ⟨p, false, false, e⟩ = (let r := orN u n ⟨p + 1, false, false, e + 1⟩; if r.2.bad then (r.1, r.2.upper) else if isB u 41 r.2 then (r.1, r.2.next.upper) else (.empty, r.2.fail)) := by
    show atomF (orN u n) u _ = _
    unfold atomF
    rw [b40]
    have h50 : ¬ 50 < (⟨p, false, false, e⟩ : PS).next.deeper.deep := by show ¬ 50 < e + 1; omega
    simp only [if_true, if_neg h50]
    rfl
  have hct : ctN u n ⟨p, false, false, e⟩ = (Re.two .cat .empty (catLoop (fcN u n) u (u.size + 1) [(fcN u n ⟨p, false, false, e⟩).1] (fcN u n ⟨p, false, false, e⟩).2).1, (catLoop (fcN u n) u (u.size + 1) [(fcN u n ⟨p, false, false, e⟩).1] (fcN u n ⟨p, false, false, e⟩).2).2) := by
    have : catLoop (fcN u n) u (u.size + 2) [] ⟨p, false, false, e⟩ = catLoop (fcN u n) u (u.size + 1) [(fcN u n ⟨p, false, false, e⟩).1] (fcN u n ⟨p, false, false, e⟩).2 := by
      rw [catLoop_succ, ce]; rfl
    show (Re.two .cat .empty (catLoop (fcN u n) u (u.size + 2) [] ⟨p, false, false, e⟩).1, (catLoop (fcN u n) u (u.size + 2) [] ⟨p, false, false, e⟩).2) = _
    rw [this]
  rcases hin with hl | hr
  · refine .inl ?_
    have ha : Lost (atN u n ⟨p, false, false, e⟩) := by rw [hat]; simp only [hl.1, if_true]; exact hl
    have hfc : fcN u n ⟨p, false, false, e⟩ = atN u n ⟨p, false, false, e⟩ := by
      show facLoop u (u.size + 2) _ _ = _
      rw [facLoop_bad _ _ _ ha.1]
    rw [hct, hfc, catLoop_bad _ _ _ _ ha.1]
    exact ha
  · refine .inr ?_
    have b41 : isB u 41 ⟨q, false, false, e + 1⟩ = true := by simp [isB, hq, h41]
    have ha : atN u n ⟨p, false, false, e⟩ = (t, ⟨q + 1, false, false, e⟩) := by
      rw [hat, hr]
      simp only [b41, Bool.false_eq_true, if_false, if_true]
      simp [PS.upper, PS.next]
    have hno : ∀ b, b ≠ 124 → b ≠ 41 → isB u b ⟨q + 1, false, false, e⟩ = false := fun b h1 h2 => by
      rcases hend with h | h | h
      · exact isB_out h
      · simp [isB, h]; omega
      · simp [isB, h]; omega
    have hce : catEnd u ⟨q + 1, false, false, e⟩ = true := by
      rcases hend with h | h | h
      · simp [catEnd]; omega
      · simp [catEnd, h]
      · simp [catEnd, h]
    have hfc : fcN u n ⟨p, false, false, e⟩ = (t, ⟨q + 1, false, false, e⟩) := by
      show facLoop u (u.size + 2) _ _ = _
      rw [ha, facLoop_succ, hno 42 (by decide) (by decide), hno 43 (by decide) (by decide), hno 63 (by decide) (by decide)]
      rfl
    rw [hct, hfc]
    have : catLoop (fcN u n) u (u.size + 1) [t] ⟨q + 1, false, false, e⟩ = ([t], ⟨q + 1, false, false, e⟩) := by
      rw [catLoop_succ, hce]; rfl
    rw [this]
    rfl

theorem or_of {u : ByteArray} {n q : Nat} {e : Int} {t : Rw} {st : PS} (h124 : isB u 124 ⟨q, false, false, e⟩ = false)
    (hin : Lost (ctN u n st) ∨ ctN u n st = (t, ⟨q, false, false, e⟩)) : Lost (orN u (n + 1) st) ∨ orN u (n + 1) st = (t, ⟨q, false, false, e⟩) := by
  have h0 : orN u (n + 1) st = (Re.two .or Rw.none (orLoop (ctN u n) u (u.size + 2) [(ctN u n st).1] (ctN u n st).2).1, (orLoop (ctN u n) u (u.size + 2) [(ctN u n st).1] (ctN u n st).2).2) := rfl
  rcases hin with hl | hr
  · refine .inl ?_
    rw [h0, orLoop_bad _ _ _ _ hl.1]; exact hl
  · refine .inr ?_
    rw [h0, hr, orLoop_succ, h124]; rfl

theorem orLoop_pre (f : PS → Rw × PS) (s : ByteArray) (p : List Rw) : ∀ (k : Nat) (l : List Rw) (st : PS), orLoop f s k (p ++ l) st = (p ++ (orLoop f s k l st).1, (orLoop f s k l st).2) := by
  intro k
  induction k with
  | zero => intro l st; rfl
  | succ k ih =>
    intro l st
    rw [orLoop_succ, orLoop_succ]
    split
    · rfl
    · split
      · rw [List.append_assoc, ih]
      · rfl

theorem turn_xy {a b : ByteArray} {ta tx ty : Rw} (ha : parseO a = .ok ta) (hx : parseO (altT a b) = .ok tx) (hy : parseO (altT b a) = .ok ty) :
    ∃ l, tx = Re.two .or Rw.none (ta :: l) ∧ ty = Re.two .or Rw.none (l ++ [ta]) := by
  have sx := altT_size a b
  have sy := altT_size b a
  obtain ⟨x1, x2, x3, x4⟩ := parse_ok hx
  obtain ⟨y1, y2, y3, y4⟩ := parse_ok hy
  unfold parseR at x1 x2 x3 x4 y1 y2 y3 y4
  -- x: the first alternative
  have hg := group_of (u := altT a b) (n := (altT a b).size + 1) (p := 0) (q := a.size + 1) (e := 0) (t := ta) (by decide) (by omega) (altT_0 a b) (by omega) (altT_1 a b) (.inr (.inl (altT_2 a b)))
    (in_text (lies_a a b) ha 1 _ (by omega))
  have h0 : orN (altT a b) ((altT a b).size + 2) startPS = (Re.two .or Rw.none (orLoop (ctN (altT a b) ((altT a b).size + 1)) (altT a b) ((altT a b).size + 2) [(ctN (altT a b) ((altT a b).size + 1) startPS).1] (ctN (altT a b) ((altT a b).size + 1) startPS).2).1, (orLoop (ctN (altT a b) ((altT a b).size + 1)) (altT a b) ((altT a b).size + 2) [(ctN (altT a b) ((altT a b).size + 1) startPS).1] (ctN (altT a b) ((altT a b).size + 1) startPS).2).2) := rfl
  have k0 : orN (altT b a) ((altT b a).size + 2) startPS = (Re.two .or Rw.none (orLoop (ctN (altT b a) ((altT b a).size + 1)) (altT b a) ((altT b a).size + 2) [(ctN (altT b a) ((altT b a).size + 1) startPS).1] (ctN (altT b a) ((altT b a).size + 1) startPS).2).1, (orLoop (ctN (altT b a) ((altT b a).size + 1)) (altT b a) ((altT b a).size + 2) [(ctN (altT b a) ((altT b a).size + 1) startPS).1] (ctN (altT b a) ((altT b a).size + 1) startPS).2).2) := rfl
  have hst : (⟨0, false, false, 0⟩ : PS) = startPS := rfl
  rw [hst] at hg
  rw [h0] at x1 x2 x3 x4
  rw [k0] at y1 y2 y3 y4
  rcases hg with hg | hg
  · rw [orLoop_bad _ _ _ _ hg.1] at x2
    exact absurd (hg.1.symm.trans x2) (by decide)
  rw [hg] at x1 x2 x3 x4
  have b124 : isB (altT a b) 124 ⟨a.size + 1 + 1, false, false, 0⟩ = true := by
    have := altT_2 a b
    simp [isB, this]; omega
  have hn : (⟨a.size + 1 + 1, false, false, 0⟩ : PS).next = ⟨a.size + 3, false, false, 0⟩ := rfl
  rw [orLoop_succ, b124, hn] at x1 x2 x3 x4
  simp only [Bool.false_eq_true, if_false, if_true] at x1 x2 x3 x4
  rw [orLoop_pre] at x1 x2 x3 x4
  simp only at x1 x2 x3 x4
  -- the second
  have L := lies_x a b
  have hb1 : (ctN (altT a b) ((altT a b).size + 1) ⟨a.size + 3, false, false, 0⟩).2.bad = false := not_true fun h => by
    rw [orLoop_bad _ _ _ _ h, h] at x2; cases x2
  have hk := (ctN_good (altT a b) ((altT a b).size + 1) ⟨a.size + 3, false, false, 0⟩ rfl (Int.le_refl _) (by show (0 : Int) ≤ 50; decide)).ok hb1
  have e0 : (⟨a.size + 3, false, false, 0⟩ : PS).mv (a.size + 3) 0 0 = startPS := by simp [PS.mv, startPS]
  obtain ⟨c1, c2⟩ := cat_sim 0 L (orN_sim 0 L ((altT a b).size + 1) ((altT b a).size + 1)) ⟨a.size + 3, false, false, 0⟩ rfl (Int.le_refl _) (by show (0 : Int) ≤ 50; decide) (Nat.le_refl _) (by show a.size + 3 ≤ _; omega) (by show _ ≤ _ + (a.size + 3); omega) (by rw [e0]; show _ ≤ _ + 0; omega) hb1
  rw [e0] at c2
  have m1 : ((ctN (altT a b) ((altT a b).size + 1) ⟨a.size + 3, false, false, 0⟩).2.mv (a.size + 3) 0 0).at_ = (ctN (altT a b) ((altT a b).size + 1) ⟨a.size + 3, false, false, 0⟩).2.at_ + 0 - (a.size + 3) := rfl
  have hk1 := hk.1
  have hk2 : a.size + 3 + 0 ≤ (ctN (altT a b) ((altT a b).size + 1) ⟨a.size + 3, false, false, 0⟩).2.at_ := hk.2.1
  obtain ⟨d1, d2, d3, d4, d5⟩ := or_loop_sim 0 L (orN_sim 0 L ((altT a b).size + 1) ((altT b a).size + 1)) ((altT a b).size + 1) ((altT b a).size + 2) [(ctN (altT a b) ((altT a b).size + 1) ⟨a.size + 3, false, false, 0⟩).1] (ctN (altT a b) ((altT a b).size + 1) ⟨a.size + 3, false, false, 0⟩).2
    (by omega) (by omega) hb1 (by rw [hk1]; exact Int.le_refl _) (by rw [hk1]; show (0 : Int) ≤ 50; decide) (by omega) c1 (by omega) (by omega) x2
  rcases c2 with c2 | c2
  · rw [orLoop_bad _ _ _ _ c2.1] at y2
    exact absurd (c2.1.symm.trans y2) (by decide)
  rw [c2] at y1 y2 y3 y4
  rw [hk1] at d3
  revert x1 x2 x3 x4 d1 d2 d3 d4 d5
  generalize orLoop (ctN (altT a b) ((altT a b).size + 1)) (altT a b) ((altT a b).size + 1) [(ctN (altT a b) ((altT a b).size + 1) ⟨a.size + 3, false, false, 0⟩).1] (ctN (altT a b) ((altT a b).size + 1) ⟨a.size + 3, false, false, 0⟩).2 = r
  intro x1 x2 x3 x4 d1 d2 d3 d4 d5
  refine ⟨r.1, x4.symm, ?_⟩
  have hr : r.2 = ⟨(altT a b).size, false, false, 0⟩ := by
    obtain ⟨rl, ra, rb, rc, rd⟩ := r
    simp only at x1 x2 x3 d1 d3
    have : ra = (altT a b).size := by omega
    subst x1 x2 d3 this; rfl
  rcases d5 with d5 | ⟨k2, hk2', d5⟩
  · exact absurd (d5.1.symm.trans y2) (by decide)
  have em : r.2.mv (a.size + 3) 0 0 = ⟨b.size + 2, false, false, 0⟩ := by
    rw [hr]; simp only [PS.mv, PS.mk.injEq, and_true, true_and]; omega
  rw [em] at hk2' d5
  rw [d5] at y1 y2 y3 y4
  have hk2'' : (altT b a).size + 1 ≤ k2 + (b.size + 2) := hk2'
  obtain ⟨k3, rfl⟩ : ∃ k3, k2 = k3 + 1 := ⟨k2 - 1, by omega⟩
  have v124 : isB (altT b a) 124 ⟨b.size + 2, false, false, 0⟩ = true := by
    have := altT_2 b a
    simp [isB, this]; omega
  have vn : (⟨b.size + 2, false, false, 0⟩ : PS).next = ⟨b.size + 3, false, false, 0⟩ := rfl
  rw [orLoop_succ, v124, vn] at y1 y2 y3 y4
  simp only [Bool.false_eq_true, if_false, if_true] at y1 y2 y3 y4
  have hg2 := group_of (u := altT b a) (n := (altT b a).size + 1) (p := b.size + 3) (q := a.size + (b.size + 4)) (e := 0) (t := ta) (by decide) (by omega) (altT_3 b a) (by omega)
    (by have := altT_4 b a; rw [← this]; congr 1; omega) (.inl (by omega)) (in_text (lies_b b a) ha 1 _ (by omega))
  rcases hg2 with hg2 | hg2
  · rw [orLoop_bad _ _ _ _ hg2.1] at y2
    exact absurd (hg2.1.symm.trans y2) (by decide)
  rw [hg2] at y4
  have vend : isB (altT b a) 124 ⟨a.size + (b.size + 4) + 1, false, false, 0⟩ = false := isB_out (by show _ ≤ a.size + (b.size + 4) + 1; omega)
  cases k3 with
  | zero => exact y4.symm
  | succ k3 =>
    rw [orLoop_succ, vend] at y4
    exact y4.symm

theorem turn_z {a : ByteArray} {ta tz : Rw} (ha : parseO a = .ok ta) (hz : parseO (dblT a) = .ok tz) : tz = .or ta ta := by
  have sz := dblT_size a
  obtain ⟨x1, x2, x3, x4⟩ := parse_ok hz
  unfold parseR at x1 x2 x3 x4
  have m0 : bt (dblT a) (a.size + 2) = 41 := dblT_m a 0 (by omega)
  have m1 : bt (dblT a) (a.size + 2 + 1) = 41 := dblT_m a 1 (by omega)
  have m2 : bt (dblT a) (a.size + 2 + 1 + 1) = 124 := dblT_m a 2 (by omega)
  have m3 : bt (dblT a) (a.size + 2 + 1 + 1 + 1) = 40 := dblT_m a 3 (by omega)
  have m4 : bt (dblT a) (a.size + 2 + 1 + 1 + 1 + 1) = 40 := dblT_m a 4 (by omega)
  have m5 : bt (dblT a) (a.size + (a.size + 7)) = 41 := by have := dblT_e a 0; rw [← show a.size + a.size + 7 + 0 = a.size + (a.size + 7) by omega, this]; rfl
  have m6 : bt (dblT a) (a.size + (a.size + 7) + 1) = 41 := by have := dblT_e a 1; rw [← show a.size + a.size + 7 + 1 = a.size + (a.size + 7) + 1 by omega, this]; rfl
  have g1 := group_of (u := dblT a) (n := (dblT a).size) (p := 1) (q := a.size + 2) (e := 1) (t := ta) (by decide) (by omega) (dblT_1 a) (by omega) m0 (.inr (.inr m1)) (in_text (lies_d1 a) ha 2 _ (by omega))
  have o1 := or_of (u := dblT a) (n := (dblT a).size) (q := a.size + 2 + 1) (e := 1) (t := ta) (by simp [isB, m1]) g1
  have g2 := group_of (u := dblT a) (n := (dblT a).size + 1) (p := 0) (q := a.size + 2 + 1) (e := 0) (t := ta) (by decide) (by omega) (dblT_0 a) (by omega) m1 (.inr (.inl m2)) o1
  have g3 := group_of (u := dblT a) (n := (dblT a).size) (p := a.size + 2 + 1 + 1 + 1 + 1) (q := a.size + (a.size + 7)) (e := 1) (t := ta) (by decide) (by omega) m4 (by omega) m5 (.inr (.inr m6))
    (by have := in_text (lies_d2 a) ha 2 (dblT a).size (by omega)
        rw [show a.size + 7 = a.size + 2 + 1 + 1 + 1 + 1 + 1 by omega] at this ⊢; exact this)
  have o3 := or_of (u := dblT a) (n := (dblT a).size) (q := a.size + (a.size + 7) + 1) (e := 1) (t := ta) (by simp [isB, m6]) g3
  have g4 := group_of (u := dblT a) (n := (dblT a).size + 1) (p := a.size + 2 + 1 + 1 + 1) (q := a.size + (a.size + 7) + 1) (e := 0) (t := ta) (by decide) (by omega) m3 (by omega) m6 (.inl (by omega)) o3
  have h0 : orN (dblT a) ((dblT a).size + 2) startPS = (Re.two .or Rw.none (orLoop (ctN (dblT a) ((dblT a).size + 1)) (dblT a) ((dblT a).size + 2) [(ctN (dblT a) ((dblT a).size + 1) startPS).1] (ctN (dblT a) ((dblT a).size + 1) startPS).2).1, (orLoop (ctN (dblT a) ((dblT a).size + 1)) (dblT a) ((dblT a).size + 2) [(ctN (dblT a) ((dblT a).size + 1) startPS).1] (ctN (dblT a) ((dblT a).size + 1) startPS).2).2) := rfl
  have hst : (⟨0, false, false, 0⟩ : PS) = startPS := rfl
  rw [hst] at g2
  rw [h0] at x1 x2 x3 x4
  rcases g2 with g2 | g2
  · rw [orLoop_bad _ _ _ _ g2.1] at x2
    exact absurd (g2.1.symm.trans x2) (by decide)
  rw [g2] at x2 x4
  have b124 : isB (dblT a) 124 ⟨a.size + 2 + 1 + 1, false, false, 0⟩ = true := by simp [isB, m2]; omega
  have hn : (⟨a.size + 2 + 1 + 1, false, false, 0⟩ : PS).next = ⟨a.size + 2 + 1 + 1 + 1, false, false, 0⟩ := rfl
  rw [orLoop_succ, b124, hn] at x2 x4
  simp only [Bool.false_eq_true, if_false, if_true] at x2 x4
  rcases g4 with g4 | g4
  · rw [orLoop_bad _ _ _ _ g4.1] at x2
    exact absurd (g4.1.symm.trans x2) (by decide)
  rw [g4] at x4
  have vend : isB (dblT a) 124 ⟨a.size + (a.size + 7) + 1 + 1, false, false, 0⟩ = false := isB_out (by show _ ≤ a.size + (a.size + 7) + 1 + 1; omega)
  rw [orLoop_succ, vend] at x4
  exact x4.symm

theorem matches_alts (l : List Rw) (u : List Nat) : Rw.matches (Re.two .or Rw.none l) u = l.any (fun t => Rw.matches t u) := by
  match l with
  | [] => exact Rw.matches_none u
  | [x] => simp [Re.two]
  | x :: y :: l =>
    have ih := matches_alts (y :: l) u
    show Rw.matches (.or x (Re.two .or Rw.none (y :: l))) u = _
    rw [Rw.matches_or, ih]; rfl

theorem turn_same {a b : ByteArray} {ta tx ty : Rw} (ha : parseO a = .ok ta) (hx : parseO (altT a b) = .ok tx) (hy : parseO (altT b a) = .ok ty) (u : List Nat) : Rw.matches tx u = Rw.matches ty u := by
  obtain ⟨l, rfl, rfl⟩ := turn_xy ha hx hy
  rw [matches_alts, matches_alts, List.any_append, Bool.or_comm]
  simp
theorem turn_once {a : ByteArray} {ta tz : Rw} (ha : parseO a = .ok ta) (hz : parseO (dblT a) = .ok tz) (u : List Nat) : Rw.matches tz u = Rw.matches ta u := by
  rw [turn_z ha hz, Rw.matches_or, Bool.or_self]

end Go.Proofs.Ytkhcnneflcbnpaa
