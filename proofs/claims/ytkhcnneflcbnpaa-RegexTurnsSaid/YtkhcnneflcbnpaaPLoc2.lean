/-
  How an expression reads where its text stands in another: atoms, factors, alternatives. Conditions: none.
-/
import Derived.Test.YtkhcnneflcbnpaaPLoc
namespace Go.Proofs.Ytkhcnneflcbnpaa
open Go.RowKit

/-- too deep: there is no way back -/
def Lost (r : Rw × PS) : Prop := r.2.bad = true ∧ r.2.long = true

theorem facLoop_succ (s : ByteArray) (k : Nat) (n : Rw) (st : PS) : facLoop s (k + 1) n st =
    if st.bad then (n, st)
    else if isB s 42 st then (if 400 < (Re.star n).size then (.empty, st.next.stop) else facLoop s k (.star n) st.next)
    else if isB s 43 st then (if 400 < (Re.cat n (.star n)).size then (.empty, st.next.stop) else facLoop s k (.cat n (.star n)) st.next)
    else if isB s 63 st then (if 400 < (Re.or n .empty).size then (.empty, st.next.stop) else facLoop s k (.or n .empty) st.next)
    else (n, st) := rfl
theorem catLoop_succ (f : PS → Rw × PS) (s : ByteArray) (k : Nat) (l : List Rw) (st : PS) : catLoop f s (k + 1) l st = if st.bad then (l, st) else if catEnd s st then (l, st) else catLoop f s k (l ++ [(f st).1]) (f st).2 := rfl
theorem orLoop_succ (f : PS → Rw × PS) (s : ByteArray) (k : Nat) (l : List Rw) (st : PS) : orLoop f s (k + 1) l st = if st.bad then (l, st) else if isB s 124 st then orLoop f s k (l ++ [(f st.next).1]) (f st.next).2 else (l, st) := rfl
theorem facLoop_bad (s : ByteArray) (k : Nat) (n : Rw) {st : PS} (h : st.bad = true) : facLoop s k n st = (n, st) := by
  cases k with
  | zero => rfl
  | succ k => rw [facLoop, if_pos h]
theorem catLoop_bad (f : PS → Rw × PS) (s : ByteArray) (k : Nat) (l : List Rw) {st : PS} (h : st.bad = true) : catLoop f s k l st = (l, st) := by
  cases k with
  | zero => rfl
  | succ k => rw [catLoop, if_pos h]
theorem orLoop_bad (f : PS → Rw × PS) (s : ByteArray) (k : Nat) (l : List Rw) {st : PS} (h : st.bad = true) : orLoop f s k l st = (l, st) := by
  cases k with
  | zero => rfl
  | succ k => rw [orLoop, if_pos h]
theorem not_true {b : Bool} (h : b = true → False) : b = false := by cases b with
  | false => rfl
  | true => exact (h rfl).elim

section
variable {s s' : ByteArray} {lo c d stop : Nat} (e : Int)

theorem fac_loop_sim (L : Lies s s' lo c d stop) : ∀ (k k' : Nat) (n : Rw) (st : PS), s.size + 1 ≤ k + st.at_ → s'.size + 1 ≤ k' + (st.mv c d e).at_ → lo ≤ st.at_ → st.at_ ≤ s.size → st.bad = false →
    (facLoop s k n st).2.bad = false → facLoop s' k' n (st.mv c d e) = ((facLoop s k n st).1, (facLoop s k n st).2.mv c d e) ∧ (facLoop s k n st).2.at_ ≤ s.size := by
  have hc := L.c_lo
  have hle := L.le
  intro k
  induction k with
  | zero => intro k' n st h1 _ _ h4; omega
  | succ k ih =>
    intro k' n st h1 h2 h3 h4 hbs hb
    have h5 : (st.mv c d e).at_ = st.at_ + d - c := rfl
    have h6 : (st.next.mv c d e).at_ = st.at_ + 1 + d - c := rfl
    have h7 : st.next.at_ = st.at_ + 1 := rfl
    have hn : (st.mv c d e).next = st.next.mv c d e := PS.mv_next st e (by omega)
    cases k' with
    | zero => omega
    | succ k' =>
      have hbs' : (st.mv c d e).bad = false := hbs
      rw [facLoop_succ s k, hbs] at hb ⊢
      rw [facLoop_succ s' k', hbs', L.isB_sim e (by decide) h3 h4, L.isB_sim e (by decide) h3 h4, L.isB_sim e (by decide) h3 h4, hn]
      simp only [Bool.false_eq_true, if_false] at hb ⊢
      cases h42 : isB s 42 st with
      | true =>
        have hlt := isB_lt h42
        rw [h42] at hb
        simp only [if_true] at hb ⊢
        by_cases hg : 400 < (Re.star n).size
        · rw [if_pos hg] at hb; simp [PS.stop] at hb
        · simp only [if_neg hg] at hb ⊢
          exact ih k' _ _ (by omega) (by omega) (by omega) hlt hbs hb
      | false =>
        rw [h42] at hb
        simp only [Bool.false_eq_true, if_false] at hb ⊢
        cases h43 : isB s 43 st with
        | true =>
          have hlt := isB_lt h43
          rw [h43] at hb
          simp only [if_true] at hb ⊢
          by_cases hg : 400 < (Re.cat n (.star n)).size
          · rw [if_pos hg] at hb; simp [PS.stop] at hb
          · simp only [if_neg hg] at hb ⊢
            exact ih k' _ _ (by omega) (by omega) (by omega) hlt hbs hb
        | false =>
          rw [h43] at hb
          simp only [Bool.false_eq_true, if_false] at hb ⊢
          cases h63 : isB s 63 st with
          | true =>
            have hlt := isB_lt h63
            rw [h63] at hb
            simp only [if_true] at hb ⊢
            by_cases hg : 400 < (Re.or n .empty).size
            · rw [if_pos hg] at hb; simp [PS.stop] at hb
            · simp only [if_neg hg] at hb ⊢
              exact ih k' _ _ (by omega) (by omega) (by omega) hlt hbs hb
          | false =>
            simp only [Bool.false_eq_true, if_false]
            exact ⟨trivial, h4⟩

/-- two reading functions, alike -/
def SimOr (s s' : ByteArray) (lo c d stop : Nat) (e : Int) (f f' : PS → Rw × PS) (n n' : Nat) : Prop :=
  ∀ st : PS, st.bad = false → 0 ≤ st.deep → st.deep ≤ 50 → lo ≤ st.at_ → st.at_ ≤ s.size → s.size + 1 ≤ n + st.at_ → s'.size + 1 ≤ n' + (st.mv c d e).at_ → (f st).2.bad = false →
    (f st).2.at_ ≤ s.size ∧ ((f st).2.at_ < s.size ∨ stop ≠ 124 → Lost (f' (st.mv c d e)) ∨ f' (st.mv c d e) = ((f st).1, (f st).2.mv c d e))
/-- the same, with no word on what follows -/
def SimIn (s s' : ByteArray) (lo c d : Nat) (e : Int) (f f' : PS → Rw × PS) (n n' : Nat) : Prop :=
  ∀ st : PS, st.bad = false → 0 ≤ st.deep → st.deep ≤ 50 → lo ≤ st.at_ → st.at_ ≤ s.size → s.size + 1 ≤ n + st.at_ → s'.size + 1 ≤ n' + (st.mv c d e).at_ → (f st).2.bad = false →
    (f st).2.at_ ≤ s.size ∧ (Lost (f' (st.mv c d e)) ∨ f' (st.mv c d e) = ((f st).1, (f st).2.mv c d e))

theorem atom_sim (L : Lies s s' lo c d stop) {n n' : Nat} (ih : SimOr s s' lo c d stop e (orN s n) (orN s' n') n n') : SimIn s s' lo c d e (atN s n) (atN s' n') (n + 1) (n' + 1) := by
  intro st hbs hd0 hd1 h3 h4 hf hf' hb
  have hc := L.c_lo
  have h5 : (st.mv c d e).at_ = st.at_ + d - c := rfl
  have h6 : (st.next.deeper.mv c d e).at_ = st.at_ + 1 + d - c := rfl
  have h7 : st.next.deeper.at_ = st.at_ + 1 := rfl
  have h8 : st.next.deeper.deep = st.deep + 1 := rfl
  have hn : (st.mv c d e).next = st.next.mv c d e := PS.mv_next st e (by omega)
  have hnd : (st.mv c d e).next.deeper = st.next.deeper.mv c d e := by
    rw [hn]; simp only [PS.deeper, PS.mv, PS.mk.injEq, true_and]; omega
  show (atomF (orN s n) s st).2.at_ ≤ s.size ∧ _
  change (atomF (orN s n) s st).2.bad = false at hb
  show _ ∧ (Lost (atomF (orN s' n') s' (st.mv c d e)) ∨ atomF (orN s' n') s' (st.mv c d e) = ((atomF (orN s n) s st).1, (atomF (orN s n) s st).2.mv c d e))
  unfold atomF at *
  rw [L.isB_sim e (b := 40) (by decide) h3 h4, L.isB_sim e (b := 46) (by decide) h3 h4, L.isB_sim e (b := 91) (by decide) h3 h4, hnd, hn]
  cases h40 : isB s 40 st with
  | true =>
    have hlt := isB_lt h40
    rw [h40] at hb
    simp only [if_true] at hb ⊢
    by_cases hdp : 50 < st.next.deeper.deep
    · rw [if_pos hdp] at hb; simp [PS.stop] at hb
    simp only [if_neg hdp] at hb ⊢
    have hbr : (orN s n st.next.deeper).2.bad = false := not_true fun h => by
      rw [h] at hb; simp only [if_true] at hb
      have : (orN s n st.next.deeper).2.upper.bad = (orN s n st.next.deeper).2.bad := rfl
      rw [this, h] at hb; cases hb
    rw [hbr] at hb ⊢
    simp only [Bool.false_eq_true, if_false] at hb ⊢
    have h41 : isB s 41 (orN s n st.next.deeper).2 = true := by
      cases h : isB s 41 (orN s n st.next.deeper).2 with
      | true => rfl
      | false => rw [h] at hb; simp [PS.fail] at hb
    have hlt2 := isB_lt h41
    have hk := (orN_good s n st.next.deeper hbs (by omega) (by omega)).ok hbr
    obtain ⟨i1, i2⟩ := ih st.next.deeper hbs (by omega) (by omega) (by omega) hlt (by omega) (by omega) hbr
    rw [h41]
    simp only [if_true]
    refine ⟨hlt2, ?_⟩
    by_cases hdp' : 50 < (st.next.deeper.mv c d e).deep
    · rw [if_pos hdp']; exact .inl ⟨rfl, rfl⟩
    rw [if_neg hdp']
    rcases i2 (.inl hlt2) with hl | he
    · rw [hl.1]; exact .inl ⟨hl.1, hl.2⟩
    · rw [he]
      have q1 : ((orN s n st.next.deeper).2.mv c d e).bad = false := hbr
      have q2 : isB s' 41 ((orN s n st.next.deeper).2.mv c d e) = true := by rw [L.isB_in e 41 (by omega) hlt2]; exact h41
      have q3 : ((orN s n st.next.deeper).2.mv c d e).next = (orN s n st.next.deeper).2.next.mv c d e := PS.mv_next _ e (by omega)
      have q4 : ((orN s n st.next.deeper).2.next.mv c d e).upper = (orN s n st.next.deeper).2.next.upper.mv c d e := by
        simp only [PS.upper, PS.mv, PS.mk.injEq, true_and]; omega
      simp only [q1, q2, Bool.false_eq_true, if_false, if_true, q3, q4]
      exact .inr trivial
  | false =>
    rw [h40] at hb
    simp only [Bool.false_eq_true, if_false] at hb ⊢
    cases h46 : isB s 46 st with
    | true =>
      simp only [if_true]
      exact ⟨isB_lt h46, .inr trivial⟩
    | false =>
      rw [h46] at hb
      simp only [Bool.false_eq_true, if_false] at hb ⊢
      cases h91 : isB s 91 st with
      | true =>
        rw [h91] at hb
        simp only [if_true] at hb ⊢
        obtain ⟨a1, a2⟩ := clsR_sim e L (st := st.next) (by show lo ≤ st.at_ + 1; omega) (isB_lt h91) hb
        rw [a1]
        exact ⟨a2, .inr rfl⟩
      | false =>
        rw [h91] at hb
        simp only [Bool.false_eq_true, if_false] at hb ⊢
        obtain ⟨a1, a2, a3, a4⟩ := let_sim e L specialOut h3 hb
        rw [a1, a2]
        exact ⟨a3, .inr rfl⟩

theorem fac_sim (L : Lies s s' lo c d stop) {n n' : Nat} (ih : SimOr s s' lo c d stop e (orN s n) (orN s' n') n n') : SimIn s s' lo c d e (fcN s n) (fcN s' n') (n + 1) (n' + 1) := by
  intro st hbs hd0 hd1 h3 h4 hf hf' hb
  have hc := L.c_lo
  have hle := L.le
  change (facLoop s (s.size + 2) (atN s n st).1 (atN s n st).2).2.bad = false at hb
  show (facLoop s (s.size + 2) (atN s n st).1 (atN s n st).2).2.at_ ≤ s.size ∧ (Lost (facLoop s' (s'.size + 2) (atN s' n' (st.mv c d e)).1 (atN s' n' (st.mv c d e)).2) ∨ facLoop s' (s'.size + 2) (atN s' n' (st.mv c d e)).1 (atN s' n' (st.mv c d e)).2 = _)
  have hba : (atN s n st).2.bad = false := not_true fun h => by
    rw [facLoop_bad _ _ _ h, h] at hb; cases hb
  obtain ⟨i1, i2⟩ := atom_sim e L ih st hbs hd0 hd1 h3 h4 hf hf' hba
  have hk := (atN_good s n st hbs hd0 hd1).ok hba
  have h5 : ((atN s n st).2.mv c d e).at_ = (atN s n st).2.at_ + d - c := rfl
  obtain ⟨j1, j2⟩ := fac_loop_sim e L (s.size + 2) (s'.size + 2) (atN s n st).1 (atN s n st).2 (by omega) (by omega) (by omega) i1 hba hb
  refine ⟨j2, ?_⟩
  rcases i2 with hl | he
  · rw [facLoop_bad _ _ _ hl.1]; exact .inl hl
  · rw [he]; exact .inr j1

theorem catEnd_in (L : Lies s s' lo c d stop) {st : PS} (h1 : lo ≤ st.at_) (h2 : st.at_ ≤ s.size) : catEnd s' (st.mv c d e) = catEnd s st := by
  by_cases h : st.at_ < s.size
  · have h3 : (st.mv c d e).at_ < s'.size := L.at_in h1 h
    have h4 : bt s' (st.mv c d e).at_ = bt s st.at_ := L.same _ h1 h
    unfold catEnd
    rw [h4]
    simp [h, h3]
  · have h2' : st.at_ = s.size := by omega
    have h3 : (st.mv c d e).at_ = s.size + d - c := by simp [PS.mv, h2']
    have h5 : catEnd s st = true := by simp [catEnd, h]
    rw [h5]
    unfold catEnd
    rw [h3]
    rcases L.stp with hh | ⟨hh, h4⟩
    · simp [hh]
    · rw [h4]; rcases L.st with h6 | h6 <;> simp [h6]

theorem cat_loop_sim (L : Lies s s' lo c d stop) {n n' : Nat} (ih : SimOr s s' lo c d stop e (orN s n) (orN s' n') n n') : ∀ (k k' : Nat) (l : List Rw) (st : PS), s.size + 1 ≤ k + st.at_ → s'.size + 1 ≤ k' + (st.mv c d e).at_ →
    st.bad = false → 0 ≤ st.deep → st.deep ≤ 50 → lo ≤ st.at_ → st.at_ ≤ s.size → s.size + 1 ≤ n + 1 + st.at_ → s'.size + 1 ≤ n' + 1 + (st.mv c d e).at_ → (catLoop (fcN s n) s k l st).2.bad = false →
    (catLoop (fcN s n) s k l st).2.at_ ≤ s.size ∧ (Lost (((Re.empty : Rw), (catLoop (fcN s' n') s' k' l (st.mv c d e)).2)) ∨ catLoop (fcN s' n') s' k' l (st.mv c d e) = ((catLoop (fcN s n) s k l st).1, (catLoop (fcN s n) s k l st).2.mv c d e)) := by
  have hc := L.c_lo
  have hle := L.le
  intro k
  induction k with
  | zero => intro k' l st h1 _ _ _ _ _ h4; omega
  | succ k ihk =>
    intro k' l st h1 h2 hbs hd0 hd1 h3 h4 hf hf' hb
    have h5 : (st.mv c d e).at_ = st.at_ + d - c := rfl
    cases k' with
    | zero => omega
    | succ k' =>
      have hbs' : (st.mv c d e).bad = false := hbs
      rw [catLoop_succ _ s k, hbs] at hb ⊢
      rw [catLoop_succ _ s' k', hbs', catEnd_in e L h3 h4]
      simp only [Bool.false_eq_true, if_false] at hb ⊢
      cases hce : catEnd s st with
      | true =>
        simp only [if_true]
        exact ⟨h4, .inr trivial⟩
      | false =>
        rw [hce] at hb
        simp only [Bool.false_eq_true, if_false] at hb ⊢
        have hbf : (fcN s n st).2.bad = false := not_true fun h => by
          rw [catLoop_bad _ _ _ _ h, h] at hb; cases hb
        obtain ⟨i1, i2⟩ := fac_sim e L ih st hbs hd0 hd1 h3 h4 hf hf' hbf
        obtain ⟨j1, j2, j3⟩ := (fcN_good s n st hbs hd0 hd1).ok hbf
        have h6 : ((fcN s n st).2.mv c d e).at_ = (fcN s n st).2.at_ + d - c := rfl
        have hnx := ihk k' (l ++ [(fcN s n st).1]) (fcN s n st).2 (by omega) (by omega) hbf (by omega) (by omega) (by omega) i1 (by omega) (by omega) hb
        refine ⟨hnx.1, ?_⟩
        rcases i2 with hl | he
        · refine .inl ?_
          rw [catLoop_bad _ _ _ _ hl.1]; exact hl
        · rw [he]; exact hnx.2

theorem cat_sim (L : Lies s s' lo c d stop) {n n' : Nat} (ih : SimOr s s' lo c d stop e (orN s n) (orN s' n') n n') : SimIn s s' lo c d e (ctN s n) (ctN s' n') (n + 1) (n' + 1) := by
  intro st hbs hd0 hd1 h3 h4 hf hf' hb
  have hc := L.c_lo
  have hle := L.le
  have h5 : (st.mv c d e).at_ = st.at_ + d - c := rfl
  obtain ⟨i1, i2⟩ := cat_loop_sim e L ih (s.size + 2) (s'.size + 2) [] st (by omega) (by omega) hbs hd0 hd1 h3 h4 hf hf' hb
  refine ⟨i1, ?_⟩
  rcases i2 with hl | he
  · exact .inl hl
  · refine .inr ?_
    show (Re.two .cat .empty (catLoop (fcN s' n') s' (s'.size + 2) [] (st.mv c d e)).1, (catLoop (fcN s' n') s' (s'.size + 2) [] (st.mv c d e)).2) = _
    rw [he]
    rfl

theorem or_loop_sim (L : Lies s s' lo c d stop) {n n' : Nat} (ih : SimOr s s' lo c d stop e (orN s n) (orN s' n') n n') : ∀ (k k' : Nat) (l : List Rw) (st : PS), s.size + 1 ≤ k + st.at_ → s'.size + 1 ≤ k' + (st.mv c d e).at_ →
    st.bad = false → 0 ≤ st.deep → st.deep ≤ 50 → lo ≤ st.at_ → st.at_ ≤ s.size → s.size + 1 ≤ n + 1 + st.at_ → s'.size + 1 ≤ n' + 1 + (st.mv c d e).at_ → (orLoop (ctN s n) s k l st).2.bad = false →
    (orLoop (ctN s n) s k l st).2.at_ ≤ s.size ∧ lo ≤ (orLoop (ctN s n) s k l st).2.at_ ∧ (orLoop (ctN s n) s k l st).2.deep = st.deep ∧ isB s 124 (orLoop (ctN s n) s k l st).2 = false ∧
    (Lost (((Re.empty : Rw), (orLoop (ctN s' n') s' k' l (st.mv c d e)).2)) ∨ ∃ k2, s'.size + 1 ≤ k2 + ((orLoop (ctN s n) s k l st).2.mv c d e).at_ ∧ orLoop (ctN s' n') s' k' l (st.mv c d e) = orLoop (ctN s' n') s' k2 (orLoop (ctN s n) s k l st).1 ((orLoop (ctN s n) s k l st).2.mv c d e)) := by
  have hc := L.c_lo
  have hle := L.le
  intro k
  induction k with
  | zero => intro k' l st h1 _ _ _ _ _ h4; omega
  | succ k ihk =>
    intro k' l st h1 h2 hbs hd0 hd1 h3 h4 hf hf' hb
    have h5 : (st.mv c d e).at_ = st.at_ + d - c := rfl
    rw [orLoop_succ _ s k, hbs] at hb ⊢
    simp only [Bool.false_eq_true, if_false] at hb ⊢
    cases h124 : isB s 124 st with
    | false =>
      simp only [Bool.false_eq_true, if_false]
      exact ⟨h4, h3, trivial, h124, .inr ⟨k', h2, rfl⟩⟩
    | true =>
      have hlt := isB_lt h124
      have h7 : st.next.at_ = st.at_ + 1 := rfl
      have h8 : (st.next.mv c d e).at_ = st.at_ + 1 + d - c := rfl
      have hn : (st.mv c d e).next = st.next.mv c d e := PS.mv_next st e (by omega)
      rw [h124] at hb
      simp only [if_true] at hb ⊢
      have hbf : (ctN s n st.next).2.bad = false := not_true fun h => by
        rw [orLoop_bad _ _ _ _ h, h] at hb; cases hb
      obtain ⟨i1, i2⟩ := cat_sim e L ih st.next hbs hd0 hd1 (by omega) hlt (by omega) (by omega) hbf
      obtain ⟨j1, j2, j3⟩ := (ctN_good s n st.next hbs hd0 hd1).ok hbf
      have h6 : ((ctN s n st.next).2.mv c d e).at_ = (ctN s n st.next).2.at_ + d - c := rfl
      have h9 : st.next.deep = st.deep := rfl
      cases k' with
      | zero => omega
      | succ k' =>
        have hbs' : (st.mv c d e).bad = false := hbs
        obtain ⟨n1, n2, nd, n3, n4⟩ := ihk k' (l ++ [(ctN s n st.next).1]) (ctN s n st.next).2 (by omega) (by omega) hbf (by omega) (by omega) (by omega) i1 (by omega) (by omega) hb
        refine ⟨n1, n2, by omega, n3, ?_⟩
        rw [orLoop_succ _ s' k', hbs', L.isB_in e 124 h3 hlt, h124, hn]
        simp only [Bool.false_eq_true, if_false, if_true]
        rcases i2 with hl | he
        · refine .inl ?_
          rw [orLoop_bad _ _ _ _ hl.1]; exact hl
        · rw [he]; exact n4

theorem orN_sim (L : Lies s s' lo c d stop) : ∀ (n n' : Nat), SimOr s s' lo c d stop e (orN s n) (orN s' n') n n' := by
  have hc := L.c_lo
  have hle := L.le
  intro n
  induction n with
  | zero => intro n' st _ _ _ _ h4 hf; omega
  | succ n ih =>
    intro n' st hbs hd0 hd1 h3 h4 hf hf' hb
    have h5 : (st.mv c d e).at_ = st.at_ + d - c := rfl
    cases n' with
    | zero => omega
    | succ n' =>
      change (orLoop (ctN s n) s (s.size + 2) [(ctN s n st).1] (ctN s n st).2).2.bad = false at hb
      have hbf : (ctN s n st).2.bad = false := not_true fun h => by
        rw [orLoop_bad _ _ _ _ h, h] at hb; cases hb
      obtain ⟨i1, i2⟩ := cat_sim e L (ih n') st hbs hd0 hd1 h3 h4 hf hf' hbf
      obtain ⟨j1, j2, j3⟩ := (ctN_good s n st hbs hd0 hd1).ok hbf
      have h6 : ((ctN s n st).2.mv c d e).at_ = (ctN s n st).2.at_ + d - c := rfl
      obtain ⟨n1, n2, nd, n3, n4⟩ := or_loop_sim e L (ih n') (s.size + 2) (s'.size + 2) [(ctN s n st).1] (ctN s n st).2 (by omega) (by omega) hbf (by omega) (by omega) (by omega) i1 (by omega) (by omega) hb
      refine ⟨n1, fun hcond => ?_⟩
      show Lost (Re.two .or Rw.none (orLoop (ctN s' n') s' (s'.size + 2) [(ctN s' n' (st.mv c d e)).1] (ctN s' n' (st.mv c d e)).2).1, (orLoop (ctN s' n') s' (s'.size + 2) [(ctN s' n' (st.mv c d e)).1] (ctN s' n' (st.mv c d e)).2).2) ∨ (Re.two .or Rw.none (orLoop (ctN s' n') s' (s'.size + 2) [(ctN s' n' (st.mv c d e)).1] (ctN s' n' (st.mv c d e)).2).1, (orLoop (ctN s' n') s' (s'.size + 2) [(ctN s' n' (st.mv c d e)).1] (ctN s' n' (st.mv c d e)).2).2) = _
      rcases i2 with hl | he
      · refine .inl ?_
        rw [orLoop_bad _ _ _ _ hl.1]; exact hl
      · rw [he]
        rcases n4 with hl | ⟨k2, hk2, he2⟩
        · exact .inl hl
        · refine .inr ?_
          have hfin : orLoop (ctN s' n') s' k2 (orLoop (ctN s n) s (s.size + 2) [(ctN s n st).1] (ctN s n st).2).1 ((orLoop (ctN s n) s (s.size + 2) [(ctN s n st).1] (ctN s n st).2).2.mv c d e) = ((orLoop (ctN s n) s (s.size + 2) [(ctN s n st).1] (ctN s n st).2).1, (orLoop (ctN s n) s (s.size + 2) [(ctN s n st).1] (ctN s n st).2).2.mv c d e) := by
            have hno : isB s' 124 ((orLoop (ctN s n) s (s.size + 2) [(ctN s n st).1] (ctN s n st).2).2.mv c d e) = false := by
              by_cases hq : (orLoop (ctN s n) s (s.size + 2) [(ctN s n st).1] (ctN s n st).2).2.at_ < s.size
              · rw [L.isB_in e 124 n2 hq]; exact n3
              · refine L.isB_end e ?_ (by omega)
                rcases hcond with h | h
                · exact (hq h).elim
                · exact fun hx => h hx.symm
            cases k2 with
            | zero => rfl
            | succ k2 =>
              rw [orLoop_succ]
              have hbb : ((orLoop (ctN s n) s (s.size + 2) [(ctN s n st).1] (ctN s n st).2).2.mv c d e).bad = false := hb
              rw [hbb, hno]
              rfl
          rw [he2, hfin]
          rfl
end

end Go.Proofs.Ytkhcnneflcbnpaa
