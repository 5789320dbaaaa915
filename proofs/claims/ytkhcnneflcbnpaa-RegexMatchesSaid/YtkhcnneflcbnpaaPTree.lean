/-
  How an expression's text is read, in plain terms: atoms, factors, alternatives. Conditions: none.
-/
import Derived.Test.YtkhcnneflcbnpaaPClass
namespace Go.Proofs.Ytkhcnneflcbnpaa
open Go.RowKit

namespace PS
def deeper (st : PS) : PS := { st with deep := st.deep + 1 }
def upper (st : PS) : PS := { st with deep := st.deep - 1 }
end PS

def dotW : W4 := (W4.one 10).not

def atomF (orF : PS → Rw × PS) (s : ByteArray) (st : PS) : Rw × PS :=
  if isB s 40 st then
    let st2 := st.next.deeper
    if 50 < st2.deep then (.empty, st2.stop)
    else
      let r := orF st2
      if r.2.bad then (r.1, r.2.upper)
      else if isB s 41 r.2 then (r.1, r.2.next.upper) else (.empty, r.2.fail)
  else if isB s 46 st then (.set dotW, st.next)
  else if isB s 91 st then (.set (clsR s st.next).2, (clsR s st.next).1)
  else (.set (W4.one (letV s specialOut st)), letS s specialOut st)

def facLoop (s : ByteArray) : Nat → Rw → PS → Rw × PS
  | 0, n, st => (n, st)
  | k + 1, n, st =>
    if st.bad then (n, st)
    else if isB s 42 st then (if 400 < (Re.star n).size then (.empty, st.next.stop) else facLoop s k (.star n) st.next)
    else if isB s 43 st then (if 400 < (Re.cat n (.star n)).size then (.empty, st.next.stop) else facLoop s k (.cat n (.star n)) st.next)
    else if isB s 63 st then (if 400 < (Re.or n .empty).size then (.empty, st.next.stop) else facLoop s k (.or n .empty) st.next)
    else (n, st)
def facF (atF : PS → Rw × PS) (s : ByteArray) (st : PS) : Rw × PS := facLoop s (s.size + 2) (atF st).1 (atF st).2

/-- does an alternative end there? -/
def catEnd (s : ByteArray) (st : PS) : Bool := !decide (st.at_ < s.size) || decide (bt s st.at_ = 124) || decide (bt s st.at_ = 41)
def catLoop (fcF : PS → Rw × PS) (s : ByteArray) : Nat → List Rw → PS → List Rw × PS
  | 0, l, st => (l, st)
  | k + 1, l, st => if st.bad then (l, st) else if catEnd s st then (l, st) else catLoop fcF s k (l ++ [(fcF st).1]) (fcF st).2
def catF (fcF : PS → Rw × PS) (s : ByteArray) (st : PS) : Rw × PS := (Re.two .cat .empty (catLoop fcF s (s.size + 2) [] st).1, (catLoop fcF s (s.size + 2) [] st).2)
def orLoop (ctF : PS → Rw × PS) (s : ByteArray) : Nat → List Rw → PS → List Rw × PS
  | 0, l, st => (l, st)
  | k + 1, l, st => if st.bad then (l, st) else if isB s 124 st then orLoop ctF s k (l ++ [(ctF st.next).1]) (ctF st.next).2 else (l, st)
def orF (ctF : PS → Rw × PS) (s : ByteArray) (st : PS) : Rw × PS := (Re.two .or Rw.none (orLoop ctF s (s.size + 2) [(ctF st).1] (ctF st).2).1, (orLoop ctF s (s.size + 2) [(ctF st).1] (ctF st).2).2)

def orN (s : ByteArray) : Nat → PS → Rw × PS
  | 0, st => (.empty, st)
  | n + 1, st => orF (catF (facF (atomF (orN s n) s) s) s) s st
abbrev atN (s : ByteArray) (n : Nat) : PS → Rw × PS := atomF (orN s n) s
abbrev fcN (s : ByteArray) (n : Nat) : PS → Rw × PS := facF (atN s n) s
abbrev ctN (s : ByteArray) (n : Nat) : PS → Rw × PS := catF (fcN s n) s

/-- what is kept by a reading function that goes on by d bytes at least: how deep, how far, how great -/
structure Kept9 (st : PS) (r : Rw × PS) (d e : Nat) : Prop where
  lo : st.deep ≤ r.2.deep
  hi : r.2.deep ≤ st.deep + 1
  ok : r.2.bad = false → r.2.deep = st.deep ∧ st.at_ + d ≤ r.2.at_ ∧ r.1.size + e ≤ 402 * (r.2.at_ - st.at_) + 1

def Good (s : ByteArray) (f : PS → Rw × PS) (d e : Nat) : Prop := ∀ st, st.bad = false → 0 ≤ st.deep → st.deep ≤ 50 → Kept9 st (f st) d e

theorem isB_next {s : ByteArray} {b : Nat} {st : PS} (h : isB s b st = true) : isS s b st = st.next := by simp [isS, h]
theorem isB_not {s : ByteArray} {b : Nat} {st : PS} (h : isB s b st = false) : isS s b st = st := by simp [isS, h]

theorem digitS_deep (s : ByteArray) (st : PS) : (digitS s st).deep = st.deep := by unfold digitS; split <;> rfl
theorem escS_deep (s sp : ByteArray) (st : PS) : (escS s sp st).deep = st.deep := by
  have h1 : (hexS s st).deep = st.deep := digitS_deep s st.next
  have h2 := digitS_deep s (hexS s st)
  unfold escS
  (repeat' split) <;> first | rfl | exact h1 | exact h2.trans h1
theorem letS_deep (s sp : ByteArray) (st : PS) : (letS s sp st).deep = st.deep := by
  have h1 := escS_deep s sp st.next
  unfold letS
  (repeat' split) <;> first | rfl | exact h1
theorem isS_deep (s : ByteArray) (b : Nat) (st : PS) : (isS s b st).deep = st.deep := by unfold isS; split <;> rfl
theorem spanS_deep (s : ByteArray) (st : PS) : (spanS s st).deep = st.deep := by
  unfold spanS
  simp only
  split
  · split
    · show (letS s specialIn (isS s 45 (letS s specialIn st))).deep = _
      rw [letS_deep, isS_deep, letS_deep]
    · rw [letS_deep, isS_deep, letS_deep]
  · exact letS_deep _ _ _
theorem clsLoop_deep (s : ByteArray) (n : Nat) : ∀ (st : PS) (ws : W4), (clsLoop s n st ws).1.deep = st.deep := by
  induction n with
  | zero => intro st ws; rfl
  | succ n ih =>
    intro st ws
    rw [clsLoop]
    split
    · rfl
    · split
      · exact isS_deep _ _ _
      · rw [ih, spanS_deep]
theorem clsR_deep (s : ByteArray) (st : PS) : (clsR s st).1.deep = st.deep := by
  unfold clsR
  simp only
  rw [clsLoop_deep, spanS_deep, isS_deep]
theorem isS_at (s : ByteArray) (b : Nat) (st : PS) : st.at_ ≤ (isS s b st).at_ := by unfold isS; split <;> simp [PS.next]
theorem clsLoop_at (s : ByteArray) (n : Nat) : ∀ (st : PS) (ws : W4), (clsLoop s n st ws).1.bad = false → st.bad = false ∧ st.at_ ≤ (clsLoop s n st ws).1.at_ := by
  induction n with
  | zero => intro st ws h; exact ⟨h, Nat.le_refl _⟩
  | succ n ih =>
    intro st ws h
    rw [clsLoop] at h ⊢
    split at h
    · rename_i h1; rw [h] at h1; cases h1
    · rename_i h1
      rw [if_neg h1]
      have hb : st.bad = false := by simpa using h1
      refine ⟨hb, ?_⟩
      split at h
      · rename_i h2; rw [if_pos h2]; exact isS_at _ _ _
      · rename_i h2; rw [if_neg h2]
        obtain ⟨h3, h4⟩ := ih _ _ h
        have := spanS_next s st h3
        omega
theorem clsR_at (s : ByteArray) (st : PS) (h : (clsR s st).1.bad = false) : st.at_ + 1 ≤ (clsR s st).1.at_ := by
  unfold clsR at *
  simp only at h ⊢
  obtain ⟨h1, h2⟩ := clsLoop_at s _ _ _ h
  have := spanS_next s _ h1
  have := isS_at s 94 st
  omega

theorem atom_good {s : ByteArray} {g : PS → Rw × PS} (hg : Good s g 0 0) : Good s (atomF g s) 1 2 := by
  intro st hb h0 h50
  unfold atomF
  split
  · simp only
    split
    · exact ⟨by simp [PS.stop, PS.deeper, PS.next]; omega, by simp [PS.stop, PS.deeper, PS.next], fun h => by simp [PS.stop] at h⟩
    · rename_i h1
      have h1' : st.deep + 1 ≤ 50 := by simp [PS.deeper, PS.next] at h1; omega
      have hk := hg st.next.deeper hb (by simp [PS.deeper, PS.next]; omega) (by simp [PS.deeper, PS.next]; omega)
      have k1 := hk.lo; have k2 := hk.hi
      simp only [PS.deeper, PS.next] at k1 k2
      split
      · rename_i h2
        refine ⟨by simp only [PS.upper, PS.deeper, PS.next]; omega, by simp only [PS.upper, PS.deeper, PS.next]; omega, fun h => ?_⟩
        simp only [PS.upper] at h
        rw [h] at h2; cases h2
      · rename_i h2
        have h2' : (g st.next.deeper).2.bad = false := by simpa using h2
        obtain ⟨k3, k4, k5⟩ := hk.ok h2'
        simp only [PS.deeper, PS.next] at k3 k4 k5
        split
        · refine ⟨by simp only [PS.upper, PS.deeper, PS.next]; omega, by simp only [PS.upper, PS.deeper, PS.next]; omega, fun h => ⟨?_, ?_, ?_⟩⟩
          · simp only [PS.upper, PS.deeper, PS.next]; omega
          · simp only [PS.upper, PS.deeper, PS.next]; omega
          · simp only [PS.upper, PS.deeper, PS.next]; omega
        · refine ⟨by simp only [PS.fail, PS.deeper, PS.next]; omega, by simp only [PS.fail, PS.deeper, PS.next]; omega, fun h => by simp [PS.fail] at h⟩
  · split
    · exact ⟨Int.le_refl _, by simp only [PS.next]; omega, fun _ => ⟨rfl, by simp [PS.next], by simp [PS.next, Re.size]⟩⟩
    · split
      · have e := clsR_deep s st.next
        have e' : st.next.deep = st.deep := rfl
        refine ⟨by show _ ≤ (clsR s st.next).1.deep; omega, by show (clsR s st.next).1.deep ≤ _; omega, fun h => ?_⟩
        have := clsR_at s st.next h
        have e'' : st.next.at_ = st.at_ + 1 := rfl
        exact ⟨by show (clsR s st.next).1.deep = _; omega, by show _ ≤ (clsR s st.next).1.at_; omega, by simp only [Re.size]; omega⟩
      · have e := letS_deep s specialOut st
        refine ⟨by show _ ≤ (letS s specialOut st).deep; omega, by show (letS s specialOut st).deep ≤ _; omega, fun h => ?_⟩
        have := letS_next s specialOut st h
        exact ⟨e, this, by simp only [Re.size]; omega⟩

theorem facLoop_good (s : ByteArray) (k : Nat) : ∀ (n : Rw) (st st0 : PS), Kept9 st0 (n, st) 1 2 → Kept9 st0 (facLoop s k n st) 1 2 := by
  induction k with
  | zero => intro n st st0 h; exact h
  | succ k ih =>
    intro n st st0 h
    have h1 := h.lo; have h2 := h.hi
    simp only at h1 h2
    rw [facLoop]
    split
    · exact h
    · rename_i hb
      have hb' : st.bad = false := by simpa using hb
      obtain ⟨k3, k4, k5⟩ := h.ok hb'
      simp only at k3 k4 k5
      have hstop : ∀ (t : Rw), Kept9 st0 (t, st.next.stop) 1 2 := fun t => ⟨h1, h2, fun h => by simp [PS.stop] at h⟩
      have hgo : ∀ (t : Rw), ¬ 400 < t.size → Kept9 st0 (t, st.next) 1 2 := fun t ht => ⟨h1, h2, fun _ => ⟨k3, by simp only [PS.next]; omega, by simp only [PS.next]; omega⟩⟩
      split
      · split
        · exact hstop _
        · rename_i h400; exact ih _ _ _ (hgo _ h400)
      · split
        · split
          · exact hstop _
          · rename_i h400; exact ih _ _ _ (hgo _ h400)
        · split
          · split
            · exact hstop _
            · rename_i h400; exact ih _ _ _ (hgo _ h400)
          · exact h
theorem fac_good {s : ByteArray} {g : PS → Rw × PS} (hg : Good s g 1 2) : Good s (facF g s) 1 2 := by
  intro st hb h0 h50
  exact facLoop_good s _ _ _ st (hg st hb h0 h50)

theorem two_size (f : Rw → Rw → Rw) (hf : ∀ x y, (f x y).size = 1 + x.size + y.size) (z : Rw) : ∀ (l : List Rw), (Re.two f z l).size + 1 ≤ (l.map (fun t => t.size + 1)).sum + (if l = [] then z.size + 1 else 0)
  | [] => by simp [Re.two]
  | [x] => by simp [Re.two]
  | x :: y :: l => by
    have ih := two_size f hf z (y :: l)
    simp only [Re.two, hf]
    simp only [List.map_cons, List.sum_cons] at ih ⊢
    simp at ih ⊢
    omega

/-- a list of nodes that were read, one behind the other -/
def wt (l : List Rw) : Nat := (l.map (fun t => t.size + 1)).sum
theorem wt_snoc (l : List Rw) (t : Rw) : wt (l ++ [t]) = wt l + (t.size + 1) := by simp [wt]

theorem catLoop_good {s : ByteArray} {g : PS → Rw × PS} (hg : Good s g 1 2) (k : Nat) : ∀ (l : List Rw) (st st0 : PS), 0 ≤ st0.deep → st0.deep ≤ 50 → st0.deep ≤ st.deep → st.deep ≤ st0.deep + 1 →
    (st.bad = false → st.deep = st0.deep ∧ st0.at_ ≤ st.at_ ∧ wt l ≤ 402 * (st.at_ - st0.at_)) → 
    (let r := catLoop g s k l st; st0.deep ≤ r.2.deep ∧ r.2.deep ≤ st0.deep + 1 ∧ (r.2.bad = false → r.2.deep = st0.deep ∧ st0.at_ ≤ r.2.at_ ∧ wt r.1 ≤ 402 * (r.2.at_ - st0.at_))) := by
  induction k with
  | zero => intro l st st0 _ _ h1 h2 h3; exact ⟨h1, h2, h3⟩
  | succ k ih =>
    intro l st st0 h0 h50 h1 h2 h3
    rw [catLoop]
    split
    · exact ⟨h1, h2, h3⟩
    · rename_i hb
      have hb' : st.bad = false := by simpa using hb
      obtain ⟨k3, k4, k5⟩ := h3 hb'
      split
      · exact ⟨h1, h2, h3⟩
      · have hk := hg st hb' (by omega) (by omega)
        refine ih _ _ _ h0 h50 (by have := hk.lo; omega) (by have := hk.hi; omega) (fun hx => ?_)
        obtain ⟨q1, q2, q3⟩ := hk.ok hx
        rw [wt_snoc]
        exact ⟨by omega, by omega, by omega⟩
theorem cat_good {s : ByteArray} {g : PS → Rw × PS} (hg : Good s g 1 2) : Good s (catF g s) 0 0 := by
  intro st hb h0 h50
  obtain ⟨a1, a2, a3⟩ := catLoop_good hg (s.size + 2) [] st st h0 h50 (Int.le_refl _) (by omega) (fun _ => ⟨rfl, Nat.le_refl _, by simp [wt]⟩)
  refine ⟨a1, a2, fun hx => ?_⟩
  obtain ⟨q1, q2, q3⟩ := a3 hx
  refine ⟨q1, q2, ?_⟩
  have hs := two_size .cat (fun _ _ => rfl) .empty (catLoop g s (s.size + 2) [] st).1
  unfold wt at q3
  show (Re.two .cat .empty (catLoop g s (s.size + 2) [] st).1).size + 0 ≤ 402 * ((catLoop g s (s.size + 2) [] st).2.at_ - st.at_) + 1
  have hz : (Re.empty : Rw).size = 1 := rfl
  split at hs <;> omega

theorem orLoop_good {s : ByteArray} {g : PS → Rw × PS} (hg : Good s g 0 0) (k : Nat) : ∀ (l : List Rw) (st st0 : PS), 0 ≤ st0.deep → st0.deep ≤ 50 → st0.deep ≤ st.deep → st.deep ≤ st0.deep + 1 →
    (st.bad = false → st.deep = st0.deep ∧ st0.at_ ≤ st.at_ ∧ wt l ≤ 402 * (st.at_ - st0.at_) + 2) →
    (let r := orLoop g s k l st; st0.deep ≤ r.2.deep ∧ r.2.deep ≤ st0.deep + 1 ∧ (r.2.bad = false → r.2.deep = st0.deep ∧ st0.at_ ≤ r.2.at_ ∧ wt r.1 ≤ 402 * (r.2.at_ - st0.at_) + 2)) := by
  induction k with
  | zero => intro l st st0 _ _ h1 h2 h3; exact ⟨h1, h2, h3⟩
  | succ k ih =>
    intro l st st0 h0 h50 h1 h2 h3
    rw [orLoop]
    split
    · exact ⟨h1, h2, h3⟩
    · rename_i hb
      have hb' : st.bad = false := by simpa using hb
      obtain ⟨k3, k4, k5⟩ := h3 hb'
      split
      · have hk := hg st.next hb' (by simp only [PS.next]; omega) (by simp only [PS.next]; omega)
        have j1 := hk.lo; have j2 := hk.hi
        simp only [PS.next] at j1 j2
        refine ih _ _ _ h0 h50 (by simp only [PS.next]; omega) (by simp only [PS.next]; omega) (fun hx => ?_)
        obtain ⟨q1, q2, q3⟩ := hk.ok hx
        simp only [PS.next] at q1 q2 q3
        rw [wt_snoc]
        simp only [PS.next]
        exact ⟨by omega, by omega, by omega⟩
      · exact ⟨h1, h2, h3⟩
theorem or_good {s : ByteArray} {g : PS → Rw × PS} (hg : Good s g 0 0) : Good s (orF g s) 0 0 := by
  intro st hb h0 h50
  have hk := hg st hb h0 h50
  obtain ⟨a1, a2, a3⟩ := orLoop_good hg (s.size + 2) [(g st).1] (g st).2 st h0 h50 hk.lo hk.hi (fun hx => by
    obtain ⟨q1, q2, q3⟩ := hk.ok hx
    exact ⟨q1, by omega, by simp [wt]; omega⟩)
  refine ⟨a1, a2, fun hx => ?_⟩
  obtain ⟨q1, q2, q3⟩ := a3 hx
  refine ⟨q1, q2, ?_⟩
  have hs := two_size .or (fun _ _ => rfl) Rw.none (orLoop g s (s.size + 2) [(g st).1] (g st).2).1
  unfold wt at q3
  show (Re.two .or Rw.none (orLoop g s (s.size + 2) [(g st).1] (g st).2).1).size + 0 ≤ 402 * ((orLoop g s (s.size + 2) [(g st).1] (g st).2).2.at_ - st.at_) + 1
  have hz : Rw.none.size = 1 := rfl
  split at hs
  · rename_i hl
    rw [hl]
    simp only [Re.two]
    omega
  · omega
theorem orN_good (s : ByteArray) (n : Nat) : Good s (orN s n) 0 0 := by
  induction n with
  | zero => intro st hb h0 h50; exact ⟨Int.le_refl _, by show st.deep ≤ _; omega, fun _ => ⟨rfl, Nat.le_refl _, by simp [orN, Re.size]⟩⟩
  | succ n ih => exact or_good (cat_good (fac_good (atom_good ih)))
theorem atN_good (s : ByteArray) (n : Nat) : Good s (atN s n) 1 2 := atom_good (orN_good s n)
theorem fcN_good (s : ByteArray) (n : Nat) : Good s (fcN s n) 1 2 := fac_good (atN_good s n)
theorem ctN_good (s : ByteArray) (n : Nat) : Good s (ctN s n) 0 0 := cat_good (fcN_good s n)

/-- what is read of a text -/
def startPS : PS := ⟨0, false, false, 0⟩
def parseR (s : ByteArray) : Rw × PS := orN s (s.size + 2) startPS
inductive POut where
  | ok (t : Rw)
  | err (at_ : Nat) (e : Int)
def parseO (s : ByteArray) : POut :=
  if (parseR s).2.long then .err 0 3
  else if (parseR s).2.bad || decide ((parseR s).2.at_ < s.size) then .err (parseR s).2.at_ 4
  else if 400 < (parseR s).1.size then .err 0 3
  else .ok (parseR s).1

end Go.Proofs.Ytkhcnneflcbnpaa
