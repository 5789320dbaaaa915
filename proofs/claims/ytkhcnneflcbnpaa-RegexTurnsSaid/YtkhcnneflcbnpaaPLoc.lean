/-
  How an expression reads where its text stands in another: alike, up to a stop. Conditions: none.
-/
import Derived.Test.YtkhcnneflcbnpaaPTree
namespace Go.Proofs.Ytkhcnneflcbnpaa
open Go.RowKit

/-- A stretch of s (from lo on, to its end) stands in s' (moved: + d, - c), and behind it a stop stands, or nothing. -/
structure Lies (s s' : ByteArray) (lo c d stop : Nat) : Prop where
  c_lo : c ≤ lo
  same : ∀ k, lo ≤ k → k < s.size → bt s' (k + d - c) = bt s k
  le : s.size + d - c ≤ s'.size
  stp : s'.size = s.size + d - c ∨ (s.size + d - c < s'.size ∧ bt s' (s.size + d - c) = stop)
  st : stop = 41 ∨ stop = 124

def PS.mv (st : PS) (c d : Nat) (e : Int) : PS := { st with at_ := st.at_ + d - c, deep := st.deep + e }
theorem PS.mv_next (st : PS) {c d : Nat} (e : Int) (h : c ≤ st.at_) : (st.mv c d e).next = st.next.mv c d e := by
  simp only [PS.mv, PS.next, PS.mk.injEq, and_true, true_and]; omega

theorem clsLoop_succ (s : ByteArray) (n : Nat) (st : PS) (ws : W4) : clsLoop s (n + 1) st ws = if st.bad then (st, ws) else if isB s 93 st then (isS s 93 st, ws) else clsLoop s n (spanS s st) (spanW s st ws) := rfl

section
variable {s s' : ByteArray} {lo c d stop : Nat} (e : Int)

theorem Lies.at_in (L : Lies s s' lo c d stop) {k : Nat} (h1 : lo ≤ k) (h2 : k < s.size) : k + d - c < s'.size := by
  have := L.le; have := L.c_lo; omega
theorem Lies.isB_in (L : Lies s s' lo c d stop) (b : Nat) {st : PS} (h1 : lo ≤ st.at_) (h2 : st.at_ < s.size) : isB s' b (st.mv c d e) = isB s b st := by
  have h3 : (st.mv c d e).at_ < s'.size := L.at_in h1 h2
  have h4 : bt s' (st.mv c d e).at_ = bt s st.at_ := L.same _ h1 h2
  simp [isB, h2, h3, h4]
theorem Lies.isB_end (L : Lies s s' lo c d stop) {b : Nat} {st : PS} (hb : b ≠ stop) (h2 : st.at_ = s.size) : isB s' b (st.mv c d e) = false := by
  have h3 : (st.mv c d e).at_ = s.size + d - c := by simp [PS.mv, h2]
  unfold isB
  rw [h3]
  rcases L.stp with h | ⟨h, h4⟩
  · simp [h]
  · rw [h4]; simp; intro _ h5; exact hb h5.symm
theorem isB_out {b : Nat} {st : PS} (h : s.size ≤ st.at_) : isB s b st = false := by simp [isB, Nat.not_lt.2 h]
theorem isB_lt {b : Nat} {st : PS} (h : isB s b st = true) : st.at_ < s.size := by simp [isB] at h; exact h.1
theorem isB_bt {b : Nat} {st : PS} (h : isB s b st = true) : bt s st.at_ = b := by simp [isB] at h; exact h.2
theorem Lies.isB_sim (L : Lies s s' lo c d stop) {b : Nat} {st : PS} (hb : b ≠ 41 ∧ b ≠ 124) (h1 : lo ≤ st.at_) (h2 : st.at_ ≤ s.size) : isB s' b (st.mv c d e) = isB s b st := by
  by_cases h : st.at_ < s.size
  · exact L.isB_in e b h1 h
  · rw [isB_out (s := s) (by omega)]
    exact L.isB_end e (by rcases L.st with h | h <;> omega) (by omega)

theorem digit_sim (L : Lies s s' lo c d stop) {st : PS} (h1 : lo ≤ st.at_) (hb : (digitS s st).bad = false) :
    digitS s' (st.mv c d e) = (digitS s st).mv c d e ∧ digitV s' (st.mv c d e) = digitV s st ∧ (digitS s st).at_ = st.at_ + 1 ∧ (digitS s st).at_ ≤ s.size := by
  have hk : digitOk s st = true := by
    by_cases h : digitOk s st = true
    · exact h
    · unfold digitS at hb; rw [if_neg h] at hb; simp [PS.fail] at hb
  have h2 : st.at_ < s.size := by simp [digitOk] at hk; exact hk.1
  have h3 : (st.mv c d e).at_ < s'.size := L.at_in h1 h2
  have h4 : bt s' (st.mv c d e).at_ = bt s st.at_ := L.same _ h1 h2
  have hk' : digitOk s' (st.mv c d e) = true := by
    simp [digitOk] at hk ⊢
    exact ⟨h3, by rw [h4]; exact hk.2⟩
  unfold digitS digitV
  rw [if_pos hk, if_pos hk', if_pos hk, if_pos hk', h4]
  exact ⟨PS.mv_next st e (by have := L.c_lo; omega), rfl, rfl, h2⟩

theorem esc_sim (L : Lies s s' lo c d stop) (sp : ByteArray) {st : PS} (h1 : lo ≤ st.at_) (hb : (escS s sp st).bad = false) :
    escS s' sp (st.mv c d e) = (escS s sp st).mv c d e ∧ escV s' sp (st.mv c d e) = escV s sp st ∧ (escS s sp st).at_ ≤ s.size := by
  have hc := L.c_lo
  have h2 : st.at_ < s.size := by
    by_cases h : st.at_ < s.size
    · exact h
    · unfold escS at hb; rw [if_neg h] at hb; simp [PS.fail] at hb
  have h3 : (st.mv c d e).at_ < s'.size := L.at_in h1 h2
  have h4 : bt s' (st.mv c d e).at_ = bt s st.at_ := L.same _ h1 h2
  have hn : (st.mv c d e).next = st.next.mv c d e := PS.mv_next st e (by omega)
  have hn2 : st.next.at_ ≤ s.size := h2
  unfold escS escV at *
  rw [if_pos h2] at hb
  rw [if_pos h2, if_pos h3, if_pos h2, if_pos h3, h4]
  by_cases e1 : bt s st.at_ = 110
  · simp only [if_pos e1]; exact ⟨hn, trivial, hn2⟩
  simp only [if_neg e1] at hb ⊢
  by_cases e2 : bt s st.at_ = 116
  · simp only [if_pos e2]; exact ⟨hn, trivial, hn2⟩
  simp only [if_neg e2] at hb ⊢
  by_cases e3 : bt s st.at_ = 115
  · simp only [if_pos e3]; exact ⟨hn, trivial, hn2⟩
  simp only [if_neg e3] at hb ⊢
  by_cases e4 : bt s st.at_ = 120
  · simp only [if_pos e4] at hb ⊢
    have e5 : (hexS s st).bad = false := by
      cases h : (hexS s st).bad with
      | false => rfl
      | true => rw [h] at hb; simp at hb; rw [h] at hb; exact hb
    rw [e5] at hb
    simp only [Bool.false_eq_true, if_false] at hb
    obtain ⟨a1, a2, a3, a4⟩ := digit_sim e L (st := st.next) (by show lo ≤ st.at_ + 1; omega) e5
    have a1' : hexS s' (st.mv c d e) = (hexS s st).mv c d e := by unfold hexS; rw [hn]; exact a1
    obtain ⟨b1, b2, b3, b4⟩ := digit_sim e L (st := hexS s st) (by show lo ≤ (digitS s st.next).at_; rw [a3]; show lo ≤ st.at_ + 1 + 1; omega) hb
    have e5' : ((hexS s st).mv c d e).bad = false := e5
    rw [a1', e5, e5', hn]
    simp only [Bool.false_eq_true, if_false]
    exact ⟨b1, by rw [a2, b2], b4⟩
  simp only [if_neg e4] at hb ⊢
  cases e6 : inS sp (bt s st.at_) with
  | true => simp only [if_true]; exact ⟨hn, trivial, hn2⟩
  | false => rw [e6] at hb; simp [PS.fail] at hb

theorem let_sim (L : Lies s s' lo c d stop) (sp : ByteArray) {st : PS} (h1 : lo ≤ st.at_) (hb : (letS s sp st).bad = false) :
    letS s' sp (st.mv c d e) = (letS s sp st).mv c d e ∧ letV s' sp (st.mv c d e) = letV s sp st ∧ (letS s sp st).at_ ≤ s.size ∧ st.at_ < s.size := by
  have hc := L.c_lo
  have h2 : st.at_ < s.size := by
    by_cases h : st.at_ < s.size
    · exact h
    · unfold letS at hb; rw [if_neg h] at hb; simp [PS.fail] at hb
  have h3 : (st.mv c d e).at_ < s'.size := L.at_in h1 h2
  have h4 : bt s' (st.mv c d e).at_ = bt s st.at_ := L.same _ h1 h2
  have hn : (st.mv c d e).next = st.next.mv c d e := PS.mv_next st e (by omega)
  have hn2 : st.next.at_ ≤ s.size := h2
  unfold letS letV at *
  rw [if_pos h2] at hb
  rw [if_pos h2, if_pos h3, if_pos h2, if_pos h3, h4]
  by_cases e1 : bt s st.at_ = 92
  · simp only [if_pos e1] at hb ⊢
    obtain ⟨a1, a2, a3⟩ := esc_sim e L sp (st := st.next) (by show lo ≤ st.at_ + 1; omega) hb
    rw [hn]
    exact ⟨a1, a2, a3, h2⟩
  simp only [if_neg e1] at hb ⊢
  cases e6 : plainB sp (bt s st.at_) with
  | true => simp only [if_true]; exact ⟨hn, trivial, hn2, h2⟩
  | false => rw [e6] at hb; simp [PS.fail] at hb

theorem isS_sim (L : Lies s s' lo c d stop) {b : Nat} {st : PS} (hb : b ≠ 41 ∧ b ≠ 124) (h1 : lo ≤ st.at_) (h2 : st.at_ ≤ s.size) :
    isS s' b (st.mv c d e) = (isS s b st).mv c d e ∧ (isS s b st).at_ ≤ s.size ∧ lo ≤ (isS s b st).at_ := by
  have := L.c_lo
  unfold isS
  rw [L.isB_sim e hb h1 h2]
  split
  · rename_i h
    have := isB_lt h
    exact ⟨PS.mv_next st e (by omega), this, by show lo ≤ st.at_ + 1; omega⟩
  · exact ⟨rfl, h2, h1⟩

theorem spanS_let {st : PS} (hb : (spanS s st).bad = false) : (letS s specialIn st).bad = false := by
  cases h : (letS s specialIn st).bad with
  | false => rfl
  | true =>
    have hr : spanRange s st = false := by simp [spanRange, h]
    unfold spanS at hb
    rw [hr] at hb
    simp only [Bool.false_eq_true, if_false] at hb
    rw [h] at hb; exact hb

theorem span_sim (L : Lies s s' lo c d stop) {st : PS} (h1 : lo ≤ st.at_) (hb : (spanS s st).bad = false) :
    spanS s' (st.mv c d e) = (spanS s st).mv c d e ∧ (∀ ws, spanW s' (st.mv c d e) ws = spanW s st ws) ∧ (spanS s st).at_ ≤ s.size := by
  have hl := spanS_let hb
  obtain ⟨a1, a2, a3, a4⟩ := let_sim e L specialIn h1 hl
  have a5 := letS_next s specialIn st hl
  have hrng : spanRange s' (st.mv c d e) = spanRange s st := by
    unfold spanRange
    rw [a1, L.isB_sim e (by decide) (by omega) a3]
    rfl
  have key : spanS s' (st.mv c d e) = (spanS s st).mv c d e ∧ spanHi s' (st.mv c d e) = spanHi s st ∧ (spanS s st).at_ ≤ s.size := by
    cases hr : spanRange s st with
    | false =>
      rw [hr] at hrng
      have q1 : spanS s st = letS s specialIn st := by unfold spanS; rw [hr]; rfl
      have q2 : spanS s' (st.mv c d e) = letS s' specialIn (st.mv c d e) := by unfold spanS; rw [hrng]; rfl
      have q3 : spanHi s st = letV s specialIn st := by unfold spanHi; rw [hr]; rfl
      have q4 : spanHi s' (st.mv c d e) = letV s' specialIn (st.mv c d e) := by unfold spanHi; rw [hrng]; rfl
      rw [q1, q2, q3, q4]
      exact ⟨a1, a2, a3⟩
    | true =>
      rw [hr] at hrng
      obtain ⟨b1, b2, b3⟩ := isS_sim e L (b := 45) (by decide) (by omega) a3
      have q1 : spanS s st = if !(letS s specialIn (isS s 45 (letS s specialIn st))).bad && decide (spanHi s st < letV s specialIn st) then (letS s specialIn (isS s 45 (letS s specialIn st))).back ((letS s specialIn st).at_ + 1) else letS s specialIn (isS s 45 (letS s specialIn st)) := by
        unfold spanS; rw [hr]; rfl
      have q2 : spanS s' (st.mv c d e) = if !(letS s' specialIn (isS s' 45 (letS s' specialIn (st.mv c d e)))).bad && decide (spanHi s' (st.mv c d e) < letV s' specialIn (st.mv c d e)) then (letS s' specialIn (isS s' 45 (letS s' specialIn (st.mv c d e)))).back ((letS s' specialIn (st.mv c d e)).at_ + 1) else letS s' specialIn (isS s' 45 (letS s' specialIn (st.mv c d e))) := by
        unfold spanS; rw [hrng]; rfl
      have q3 : spanHi s st = letV s specialIn (isS s 45 (letS s specialIn st)) := by unfold spanHi; rw [hr]; rfl
      have q4 : spanHi s' (st.mv c d e) = letV s' specialIn (isS s' 45 (letS s' specialIn (st.mv c d e))) := by unfold spanHi; rw [hrng]; rfl
      have hb3 : (letS s specialIn (isS s 45 (letS s specialIn st))).bad = false := by
        cases h : (letS s specialIn (isS s 45 (letS s specialIn st))).bad with
        | false => rfl
        | true => rw [q1, h] at hb; simp at hb; rw [h] at hb; exact hb
      obtain ⟨c1, c2, c3, c4⟩ := let_sim e L specialIn b3 hb3
      have q5 : spanHi s' (st.mv c d e) = spanHi s st := by rw [q3, q4, a1, b1, c2]
      have hno : decide (spanHi s st < letV s specialIn st) = false := by
        cases h : decide (spanHi s st < letV s specialIn st) with
        | false => rfl
        | true => rw [q1, hb3, h] at hb; simp [PS.back] at hb
      rw [hno, Bool.and_false] at q1
      rw [q5, a2, hno, Bool.and_false] at q2
      simp only [Bool.false_eq_true, if_false] at q1 q2
      rw [a1, b1, c1] at q2
      rw [q1, q2]
      exact ⟨rfl, q5, c3⟩
  obtain ⟨k1, k2, k3⟩ := key
  refine ⟨k1, fun ws => ?_, k3⟩
  have hb' : ((spanS s st).mv c d e).bad = false := hb
  unfold spanW
  rw [k1, hb, hb', k2, a2]

theorem cls_sim (L : Lies s s' lo c d stop) : ∀ (k k' : Nat) (st : PS) (ws : W4), s.size + 1 ≤ k + st.at_ → s'.size + 1 ≤ k' + (st.mv c d e).at_ → lo ≤ st.at_ → st.at_ ≤ s.size →
    (clsLoop s k st ws).1.bad = false → clsLoop s' k' (st.mv c d e) ws = ((clsLoop s k st ws).1.mv c d e, (clsLoop s k st ws).2) ∧ (clsLoop s k st ws).1.at_ ≤ s.size := by
  have hc := L.c_lo
  have hle := L.le
  intro k
  induction k with
  | zero => intro k' st ws h1 _ _ h4; omega
  | succ k ih =>
    intro k' st ws h1 h2 h3 h4 hb
    have h5 : (st.mv c d e).at_ = st.at_ + d - c := rfl
    cases k' with
    | zero => omega
    | succ k' =>
      have hbs : st.bad = false := by
        cases h : st.bad with
        | false => rfl
        | true => rw [clsLoop_succ, h] at hb; simp at hb; rw [h] at hb; exact hb
      have hbs' : (st.mv c d e).bad = false := hbs
      rw [clsLoop_succ s k, hbs] at hb ⊢
      rw [clsLoop_succ s' k', hbs', L.isB_sim e (by decide) h3 h4]
      simp only [Bool.false_eq_true, if_false] at hb ⊢
      cases h93 : isB s 93 st with
      | true =>
        simp only [if_true]
        obtain ⟨a1, a2, a3⟩ := isS_sim e L (b := 93) (by decide) h3 h4
        exact ⟨by rw [a1], a2⟩
      | false =>
        rw [h93] at hb
        simp only [Bool.false_eq_true, if_false] at hb ⊢
        have hsp : (spanS s st).bad = false := (clsLoop_at s _ _ _ hb).1
        obtain ⟨a1, a2, a3⟩ := span_sim e L h3 hsp
        have a4 := spanS_next s st hsp
        have h6 : ((spanS s st).mv c d e).at_ = (spanS s st).at_ + d - c := rfl
        rw [a1, a2]
        exact ih k' _ _ (by omega) (by omega) (by omega) a3 hb

theorem clsR_sim (L : Lies s s' lo c d stop) {st : PS} (h3 : lo ≤ st.at_) (h4 : st.at_ ≤ s.size) (hb : (clsR s st).1.bad = false) :
    clsR s' (st.mv c d e) = ((clsR s st).1.mv c d e, (clsR s st).2) ∧ (clsR s st).1.at_ ≤ s.size := by
  have hc := L.c_lo
  have hle := L.le
  unfold clsR at *
  simp only at hb ⊢
  obtain ⟨a1, a2, a3⟩ := isS_sim e L (b := 94) (by decide) h3 h4
  have hsp : (spanS s (isS s 94 st)).bad = false := (clsLoop_at s _ _ _ hb).1
  obtain ⟨b1, b2, b3⟩ := span_sim e L a3 hsp
  have b4 := spanS_next s _ hsp
  have h6 : ((spanS s (isS s 94 st)).mv c d e).at_ = (spanS s (isS s 94 st)).at_ + d - c := rfl
  obtain ⟨c1, c2⟩ := cls_sim e L (s.size + 2) (s'.size + 2) _ (spanW s (isS s 94 st) W4.zero) (by omega) (by omega) (by omega) b3 hb
  rw [a1, b1, b2, c1, L.isB_sim e (by decide) h3 h4]
  exact ⟨rfl, c2⟩
end

end Go.Proofs.Ytkhcnneflcbnpaa
