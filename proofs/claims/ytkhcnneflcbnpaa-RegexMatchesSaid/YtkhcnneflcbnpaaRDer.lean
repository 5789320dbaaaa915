/-
  What stands behind a byte: the walks. Conditions: the nodes that are handed in stand in memory.
-/
import Derived.Test.YtkhcnneflcbnpaaRLang
namespace Go.Proofs.Ytkhcnneflcbnpaa
open Go.RowKit

set_option maxHeartbeats 400000 in
theorem holds_c : ∀ (l u : Rw) (n k : Nat) (w : World), NodeAt w l n → NodeAt w u k →
    Calls Try.prog 42 #[ptr n, ptr k] w fun e w' => e = .returned (.bool (Rw.holds l u)) ∧ ∃ q, w' = w.drewN q := by
  intro l
  have plain : ∀ (l u : Rw) (n k : Nat) (w : World), l.kind ≠ 3 → NodeAt w l n → NodeAt w u k →
      Calls Try.prog 42 #[ptr n, ptr k] w fun e w' => e = .returned (.bool (Rw.holds l u)) ∧ ∃ q, w' = w.drewN q := by
    intro l u n k w hk h h'
    have hE : Hid (Rw.holds l u = decide (l = u)) := Lib.hid (by cases l <;> simp [Re.kind] at hk <;> rfl)
    obtain ⟨sa, qs, hb, _⟩ := h.look
    obtain ⟨c0, _⟩ := nd_cells hb
    have hk1 : ((l.kind : Int) == 3) = false := by simp; omega
    clear hb hk
    go_enter Try.func42, Try.ntmps42
    go_wp2_with fail
    refine (same_c _ _ _ _ _ _ rfl h h').mono ?_
    rintro e w' ⟨rfl, q, rfl⟩
    go_wp2_with fail
    go_ret
    exact ⟨by rw [hE.out]; rfl, _, rfl⟩
  induction l with
  | or x y ihx ihy =>
    intro u n k w h h'
    have IX := Lib.hid ihx
    have IY := Lib.hid ihy
    clear ihx ihy plain
    obtain ⟨r, i, j, h1, h2, h3, h4⟩ := id h
    obtain ⟨c0, _, _, _, _, c5⟩ := nd_cells h1
    obtain ⟨d0, d1⟩ := pair_cells h2
    clear h1 h2
    have hE : Hid (Rw.holds (.or x y) u = (Rw.holds x u || Rw.holds y u)) := Lib.hid rfl
    go_enter Try.func42, Try.ntmps42
    go_wp2_with fail
    refine (IX.out u i k w h3 h').mono ?_
    rintro e w' ⟨rfl, q, rfl⟩
    cases hx : Rw.holds x u with
    | true =>
      have hx' := Lib.hid hx
      clear hx
      go_wp2_with fail
      go_ret
      exact ⟨by rw [hE.out, hx'.out]; rfl, _, rfl⟩
    | false =>
      have hx' := Lib.hid hx
      clear hx
      go_wp2_with fail
      refine (IY.out u j k _ (h4.drewN _) (h'.drewN _)).mono ?_
      rintro e w' ⟨rfl, q', rfl⟩
      go_wp2_with fail
      go_ret
      exact ⟨by rw [hE.out, hx'.out]; simp, _, rfl⟩
  | _ => exact fun u n k w => plain _ u n k w (by simp [Re.kind])

/-- a new node of two, whatever is drawn -/
theorem tidy_none_at {w w' : World} {q : Nat} (h : NodeAt w' Rw.none q) (hk : Kn w w') : ∃ r : Nat, ptr q = ptr r ∧ NodeAt w' Rw.none r ∧ Kn w w' := ⟨q, rfl, h, hk⟩

set_option maxHeartbeats 1000000 in
theorem tidyCat_c (a b : Rw) (i j : Nat) (w : World) (ha : NodeAt w a i) (hb : NodeAt w b j) :
    Calls Try.prog 34 #[.int .i64 2, ptr i, ptr j] w fun e w' => ∃ q : Nat, e = .returned (ptr q) ∧ NodeAt w' (Rw.tidyCat a b) q ∧ Kn w w' := by
  have hE : Hid (Rw.tidyCat a b = if a.nothing || b.nothing then Rw.none else if a = .empty then b else if b = .empty then a else .cat a b) := Lib.hid rfl
  obtain ⟨_, _, hb1, _⟩ := ha.look
  obtain ⟨c0, _⟩ := nd_cells hb1
  obtain ⟨_, _, hb2, _⟩ := hb.look
  obtain ⟨d0, _⟩ := nd_cells hb2
  clear hb1 hb2
  have NE : ∀ t : Rw, (t = .empty) ↔ t.kind = 1 := fun t => by cases t <;> simp [Re.kind]
  cases h1 : a.nothing with
  | true =>
    have e1 := Lib.hid h1
    go_enter Try.func34, Try.ntmps34
    go_wp2_with fail
    refine (nothing_c a i w ha).mono ?_
    rintro e w' ⟨rfl, rfl⟩
    clear NE
    go_wp2_with fail
    refine (SetZero_c w).mono ?_
    rintro e w' ⟨q, rfl, hq, hk⟩
    go_wp2_with fail
    go_ret
    exact ⟨q, rfl, by rw [hE.out, e1.out]; simpa using hq, hk⟩
  | false =>
  have e1 := Lib.hid h1
  cases h2 : b.nothing with
  | true =>
    have e2 := Lib.hid h2
    go_enter Try.func34, Try.ntmps34
    go_wp2_with fail
    refine (nothing_c a i w ha).mono ?_
    rintro e w' ⟨rfl, rfl⟩
    clear NE
    go_wp2_with fail
    refine (nothing_c b j w hb).mono ?_
    rintro e w' ⟨rfl, rfl⟩
    go_wp2_with fail
    refine (SetZero_c w).mono ?_
    rintro e w' ⟨q, rfl, hq, hk⟩
    go_wp2_with fail
    go_ret
    exact ⟨q, rfl, by rw [hE.out, e1.out, e2.out]; simpa using hq, hk⟩
  | false =>
  have e2 := Lib.hid h2
  by_cases h3 : a = .empty
  · have k1 : ((a.kind : Int) == 1) = true := by rw [(NE a).1 h3]; rfl
    have e3 := Lib.hid h3
    clear h3 NE
    go_enter Try.func34, Try.ntmps34
    go_wp2_with fail
    refine (nothing_c a i w ha).mono ?_
    rintro e w' ⟨rfl, rfl⟩
    go_wp2_with fail
    refine (nothing_c b j w hb).mono ?_
    rintro e w' ⟨rfl, rfl⟩
    go_wp2_with fail
    go_ret
    refine ⟨j, rfl, ?_, Kp.refl _ _⟩
    rw [hE.out, e1.out, e2.out, if_pos e3.out]; simpa using hb
  · have k1 : ((a.kind : Int) == 1) = false := by have := mt (NE a).2 h3; simp; omega
    have e3 := Lib.hid h3
    by_cases h4 : b = .empty
    · have k2 : ((b.kind : Int) == 1) = true := by rw [(NE b).1 h4]; rfl
      have e4 := Lib.hid h4
      clear h3 h4 NE
      go_enter Try.func34, Try.ntmps34
      go_wp2_with fail
      refine (nothing_c a i w ha).mono ?_
      rintro e w' ⟨rfl, rfl⟩
      go_wp2_with fail
      refine (nothing_c b j w hb).mono ?_
      rintro e w' ⟨rfl, rfl⟩
      go_wp2_with fail
      go_ret
      refine ⟨i, rfl, ?_, Kp.refl _ _⟩
      rw [hE.out, e1.out, e2.out, if_neg e3.out, if_pos e4.out]; simpa using ha
    · have k2 : ((b.kind : Int) == 1) = false := by have := mt (NE b).2 h4; simp; omega
      have e4 := Lib.hid h4
      clear h3 h4 NE
      go_enter Try.func34, Try.ntmps34
      go_wp2_with fail
      refine (nothing_c a i w ha).mono ?_
      rintro e w' ⟨rfl, rfl⟩
      go_wp2_with fail
      refine (nothing_c b j w hb).mono ?_
      rintro e w' ⟨rfl, rfl⟩
      go_wp2_with fail
      go_ret
      refine ⟨w.heap.size + 1, rfl, ?_, ((Kp.refl _ _).alloc _).alloc _⟩
      rw [hE.out, e1.out, e2.out, if_neg e3.out, if_neg e4.out]
      exact new_bin (k := 2) (.inl rfl) ha hb

theorem NodeAt.drew {w : World} {t : Rw} {n : Nat} (h : NodeAt w t n) : NodeAt w.drew t n := h.drewN 1
theorem Kn.undrew {w w' : World} (h : Kn w.drew w') : Kn w w' := ⟨h.os, h.tape, h.output, h.size, h.block⟩
theorem Kn.undrewN {w w' : World} {n : Nat} (h : Kn (w.drewN n) w') : Kn w w' := ⟨h.os, h.tape, h.output, h.size, h.block⟩

theorem tidyOr_flat (a b : Rw) (hk : a.kind ≠ 3) : Rw.tidyOr a b = if a.nothing then b else if b.nothing || decide (a = b) then a else if decide (b.kind = 3) && Rw.holds b a then b else .or a b := by
  cases a <;> first | (simp [Re.kind] at hk; done) | rfl

set_option maxHeartbeats 2000000 in
theorem tidyOr_plain (a : Rw) (hka : a.kind ≠ 3) (b : Rw) (i j : Nat) (w : World) (ha : NodeAt w a i) (hb : NodeAt w b j) :
    Calls Try.prog 34 #[.int .i64 3, ptr i, ptr j] w fun e w' => ∃ q : Nat, e = .returned (ptr q) ∧ NodeAt w' (Rw.tidyOr a b) q ∧ Kn w w' := by
  have hE := Lib.hid (tidyOr_flat a b hka)
  obtain ⟨_, _, hb1, _⟩ := ha.look
  obtain ⟨c0, _⟩ := nd_cells hb1
  obtain ⟨_, _, hb2, _⟩ := hb.look
  obtain ⟨d0, _⟩ := nd_cells hb2
  clear hb1 hb2
  have k3 : ((a.kind : Int) == 3) = false := by simp; omega
  clear hka
  cases g0 : a.nothing with
  | true =>
    have e0 := Lib.hid g0
    go_enter Try.func34, Try.ntmps34
    go_wp2_with fail
    refine (nothing_c _ i w ha).mono ?_
    rintro e w' ⟨rfl, rfl⟩
    go_wp2_with fail
    go_ret
    refine ⟨j, rfl, ?_, Kp.refl _ _⟩
    rw [hE.out, e0.out]; simpa using hb
  | false =>
  have e0 := Lib.hid g0
  cases g1 : b.nothing with
  | true =>
    have e1 := Lib.hid g1
    go_enter Try.func34, Try.ntmps34
    go_wp2_with fail
    refine (nothing_c _ i w ha).mono ?_
    rintro e w' ⟨rfl, rfl⟩
    go_wp2_with fail
    refine (nothing_c _ j w hb).mono ?_
    rintro e w' ⟨rfl, rfl⟩
    go_wp2_with fail
    go_ret
    refine ⟨i, rfl, ?_, Kp.refl _ _⟩
    rw [hE.out, e0.out, e1.out]; simpa using ha
  | false =>
  have e1 := Lib.hid g1
  cases g2 : decide (a = b) with
  | true =>
    have e2 := Lib.hid g2
    go_enter Try.func34, Try.ntmps34
    go_wp2_with fail
    refine (nothing_c _ i w ha).mono ?_
    rintro e w' ⟨rfl, rfl⟩
    go_wp2_with fail
    refine (nothing_c _ j w hb).mono ?_
    rintro e w' ⟨rfl, rfl⟩
    go_wp2_with fail
    refine (same_c _ _ _ _ _ w rfl ha hb).mono ?_
    rintro e w' ⟨rfl, q, rfl⟩
    go_wp2_with fail
    go_ret
    refine ⟨i, rfl, ?_, (Kp.refl _ _).drewN _⟩
    rw [hE.out, e0.out, e1.out, e2.out]; simpa using ha.drewN _
  | false =>
  have e2 := Lib.hid g2
  by_cases g3 : b.kind = 3
  · have k4 : ((b.kind : Int) == 3) = true := by rw [g3]; rfl
    have e3 := Lib.hid (decide_eq_true g3)
    clear g3
    cases g4 : Rw.holds b a with
    | true =>
      have e4 := Lib.hid g4
      go_enter Try.func34, Try.ntmps34
      go_wp2_with fail
      refine (nothing_c _ i w ha).mono ?_
      rintro e w' ⟨rfl, rfl⟩
      go_wp2_with fail
      refine (nothing_c _ j w hb).mono ?_
      rintro e w' ⟨rfl, rfl⟩
      go_wp2_with fail
      refine (same_c _ _ _ _ _ w rfl ha hb).mono ?_
      rintro e w' ⟨rfl, q, rfl⟩
      go_wp2_with fail
      refine (holds_c _ _ _ _ _ (hb.drewN _) (ha.drewN _)).mono ?_
      rintro e w' ⟨rfl, q2, rfl⟩
      go_wp2_with fail
      go_ret
      refine ⟨j, rfl, ?_, (Kp.refl _ _).drewN _⟩
      rw [hE.out, e0.out, e1.out, e2.out, e3.out, e4.out]; simpa using hb.drewN _
    | false =>
      have e4 := Lib.hid g4
      go_enter Try.func34, Try.ntmps34
      go_wp2_with fail
      refine (nothing_c _ i w ha).mono ?_
      rintro e w' ⟨rfl, rfl⟩
      go_wp2_with fail
      refine (nothing_c _ j w hb).mono ?_
      rintro e w' ⟨rfl, rfl⟩
      go_wp2_with fail
      refine (same_c _ _ _ _ _ w rfl ha hb).mono ?_
      rintro e w' ⟨rfl, q, rfl⟩
      go_wp2_with fail
      refine (holds_c _ _ _ _ _ (hb.drewN _) (ha.drewN _)).mono ?_
      rintro e w' ⟨rfl, q2, rfl⟩
      go_wp2_with fail
      go_ret
      refine ⟨w.heap.size + 1, rfl, ?_, (((Kp.refl _ _).drewN _).alloc _).alloc _⟩
      rw [hE.out, e0.out, e1.out, e2.out, e3.out, e4.out]
      exact new_bin (k := 3) (.inr rfl) (ha.drewN (q + q2)) (hb.drewN (q + q2))
  · have k4 : ((b.kind : Int) == 3) = false := by simp; omega
    have e3 := Lib.hid (decide_eq_false g3)
    clear g3
    go_enter Try.func34, Try.ntmps34
    go_wp2_with fail
    refine (nothing_c _ i w ha).mono ?_
    rintro e w' ⟨rfl, rfl⟩
    go_wp2_with fail
    refine (nothing_c _ j w hb).mono ?_
    rintro e w' ⟨rfl, rfl⟩
    go_wp2_with fail
    refine (same_c _ _ _ _ _ w rfl ha hb).mono ?_
    rintro e w' ⟨rfl, q, rfl⟩
    go_wp2_with fail
    go_ret
    refine ⟨w.heap.size + 1, rfl, ?_, (((Kp.refl _ _).drewN _).alloc _).alloc _⟩
    rw [hE.out, e0.out, e1.out, e2.out, e3.out]
    exact new_bin (k := 3) (.inr rfl) (ha.drewN q) (hb.drewN q)

set_option maxHeartbeats 2000000 in
theorem tidyOr_c : ∀ (a b : Rw) (i j : Nat) (w : World), NodeAt w a i → NodeAt w b j →
    Calls Try.prog 34 #[.int .i64 3, ptr i, ptr j] w fun e w' => ∃ q : Nat, e = .returned (ptr q) ∧ NodeAt w' (Rw.tidyOr a b) q ∧ Kn w w' := by
  intro a
  induction a with
  | or x y ihx ihy =>
    intro b i j w ha hb
    have IX := Lib.hid ihx
    have IY := Lib.hid ihy
    clear ihx ihy
    have hE : Hid (Rw.tidyOr (.or x y) b = if b.nothing || decide (.or x y = b) then .or x y else Rw.tidyOr x (Rw.tidyOr y b)) := Lib.hid (by
      rw [Rw.tidyOr, if_neg (by simp [Rw.nothing, Rw.none])])
    obtain ⟨r, xi, yi, h1, h2, h3, h4⟩ := id ha
    obtain ⟨c0, _, _, _, _, c5⟩ := nd_cells h1
    obtain ⟨r0, r1⟩ := pair_cells h2
    clear h1 h2
    have n1 : Hid (Rw.nothing (Re.or x y) = false) := Lib.hid (by simp [Rw.nothing, Rw.none])
    cases g1 : b.nothing with
    | true =>
      have e1 := Lib.hid g1
      go_enter Try.func34, Try.ntmps34
      go_wp2_with fail
      refine (nothing_c _ i w ha).mono ?_
      rintro e w' ⟨rfl, rfl⟩
      rw [n1.out]
      go_wp2_with fail
      refine (nothing_c _ j w hb).mono ?_
      rintro e w' ⟨rfl, rfl⟩
      go_wp2_with fail
      go_ret
      refine ⟨i, rfl, ?_, Kp.refl _ _⟩
      rw [hE.out, e1.out]; simpa using ha
    | false =>
      have e1 := Lib.hid g1
      cases g2 : decide (Re.or x y = b) with
      | true =>
        have e2 := Lib.hid g2
        go_enter Try.func34, Try.ntmps34
        go_wp2_with fail
        refine (nothing_c _ i w ha).mono ?_
        rintro e w' ⟨rfl, rfl⟩
        rw [n1.out]
        go_wp2_with fail
        refine (nothing_c _ j w hb).mono ?_
        rintro e w' ⟨rfl, rfl⟩
        go_wp2_with fail
        refine (same_c _ _ _ _ _ w rfl ha hb).mono ?_
        rintro e w' ⟨rfl, q, rfl⟩
        go_wp2_with fail
        go_ret
        refine ⟨i, rfl, ?_, (Kp.refl _ _).drewN _⟩
        rw [hE.out, e1.out, e2.out]; simpa using ha.drewN _
      | false =>
        have e2 := Lib.hid g2
        go_enter Try.func34, Try.ntmps34
        go_wp2_with fail
        refine (nothing_c _ i w ha).mono ?_
        rintro e w' ⟨rfl, rfl⟩
        rw [n1.out]
        go_wp2_with fail
        refine (nothing_c _ j w hb).mono ?_
        rintro e w' ⟨rfl, rfl⟩
        go_wp2_with fail
        refine (same_c _ _ _ _ _ w rfl ha hb).mono ?_
        rintro e w' ⟨rfl, q, rfl⟩
        go_wp2_with fail
        go_region_held3 (fun w' => w'.cell? ⟨i, 5, none⟩ = some (sl2 r) ∧ w'.cell? ⟨r, 0, none⟩ = some (ptr xi) ∧ w'.cell? ⟨r, 1, none⟩ = some (ptr yi))
          (first | go_keep | exact ⟨kn_cell ‹Kn _ _› c5, kn_cell ‹Kn _ _› r0, kn_cell ‹Kn _ _› r1⟩)
          (first
            | (go_at_call_of 34 (ptr yi); refine (IY.out b yi j _ ?_ ?_).mono ?_; (exact (h4.drewN _).drew); (exact (hb.drewN _).drew); rintro e w1 ⟨q1, rfl, hq1, hk1⟩; have hk1 := Kn.undrewN (Kn.undrew hk1))
            | (go_at_call_of 34 (ptr xi); refine (IX.out (Rw.tidyOr y b) xi _ _ ?_ ?_).mono ?_; (exact h3.kn hk1); (exact hq1); rintro e w2 ⟨q2, rfl, hq2, hk2⟩; have hk2 := Kp.trans hk1 hk2))
        go_wp2_with fail
        go_ret
        refine ⟨_, rfl, ?_, ‹_›⟩
        rw [hE.out, e1.out, e2.out]; simpa using ‹_›
  | _ => exact fun b i j w => tidyOr_plain _ (by simp [Re.kind]) b i j w

theorem tidy_c (k : Int) (a b : Rw) (i j : Nat) (w : World) (ha : NodeAt w a i) (hb : NodeAt w b j) : (k = 2 →
    Calls Try.prog 34 #[.int .i64 k, ptr i, ptr j] w fun e w' => ∃ q : Nat, e = .returned (ptr q) ∧ NodeAt w' (Rw.tidyCat a b) q ∧ Kn w w') ∧ (k = 3 →
    Calls Try.prog 34 #[.int .i64 k, ptr i, ptr j] w fun e w' => ∃ q : Nat, e = .returned (ptr q) ∧ NodeAt w' (Rw.tidyOr a b) q ∧ Kn w w') :=
  ⟨by rintro rfl; exact tidyCat_c a b i j w ha hb, by rintro rfl; exact tidyOr_c a b i j w ha hb⟩
end Go.Proofs.Ytkhcnneflcbnpaa
