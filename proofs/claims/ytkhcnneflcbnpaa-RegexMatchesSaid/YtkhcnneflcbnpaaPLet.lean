/-
  The reader of expressions: escapes and letters: the walks. Conditions: the reader stands in memory, within its text.
-/
import Derived.Test.YtkhcnneflcbnpaaPRead
namespace Go.Proofs.Ytkhcnneflcbnpaa
open Go.RowKit

theorem digitS_at (s : ByteArray) (st : PS) (h : st.at_ ≤ s.size) : (digitS s st).at_ ≤ s.size := by
  unfold digitS; split
  · rename_i h'; simp [digitOk] at h'; simp only [PS.next]; omega
  · exact h

theorem in_c (sp : ByteArray) (c : Nat) (w : World) :
    Calls Try.prog 50 #[.string sp, .int .u8 c] w fun e w' => ∃ i : Int, e = .returned (.int .i64 i) ∧ w = w' ∧ (inS sp c = decide (0 ≤ i)) :=
  (Try.strings_IndexByte sp c w).mono fun e w' h => ⟨_, h.1, h.2.symm, rfl⟩

set_option maxRecDepth 100000 in
set_option maxHeartbeats 1000000 in
theorem esc_c (p : Nat) (s sp : ByteArray) (st : PS) (w : World) (h : Pat w p s st) :
    Calls Try.prog 49 #[ptr p, .string sp] w fun e w' => e = .returned (.int .u8 (escV s sp st)) ∧ Pat w' p s (escS s sp st) ∧ K1 p w w' := by
  have hb := h.2.2
  by_cases hlt : st.at_ < s.size
  case neg =>
    have hV : Hid (escV s sp st = 0) := Lib.hid (by simp [escV, hlt])
    have hS : Hid (escS s sp st = st.fail) := Lib.hid (by simp [escS, hlt])
    have hD := decide_eq_false hlt
    go_enter Try.func49, Try.ntmps49
    go_wp2_with fail
    refine (peek_c p s st w h).mono ?_
    rintro e w' ⟨rfl, n, rfl⟩
    go_wp2_with fail
    refine (fail_c p s st _ (h.drewN n)).mono ?_
    rintro e w2 ⟨q, rfl, hq, hp2, hk2⟩
    go_wp2_with fail
    go_ret
    refine ⟨by rw [hV.out]; rfl, ?_, ((Kp.refl _ _).drewN n).trans hk2⟩
    rw [hS.out]; exact hp2
  case pos =>
  have hD := decide_eq_true hlt
  have hfin : ∀ (n : Nat), Pat (w.drewN n) p s st := fun n => h.drewN n
  have HF := Lib.hid hfin
  clear hfin
  by_cases g1 : bt s st.at_ = 110
  case pos =>
    have hV : Hid (escV s sp st = 10) := Lib.hid (by simp [escV, hlt, g1])
    have hS : Hid (escS s sp st = st.next) := Lib.hid (by simp [escS, hlt, g1])
    have q1 : (((bt s st.at_ : Nat) : Int) == 110) = true := by simp [g1]
    clear g1
    go_enter Try.func49, Try.ntmps49
    go_wp2_with fail
    refine (peek_c p s st w h).mono ?_
    rintro e w' ⟨rfl, n, rfl⟩
    obtain ⟨c0, c1, c2, c3, c4, f1, f2, f3, f4⟩ := (HF.out n).cells
    have hp := (HF.out n).at (st.at_ + 1) (by omega)
    go_wp2_with fail
    go_ret
    refine ⟨by rw [hV.out]; rfl, ?_, ((Kp.refl _ _).drewN n).trans (K1.set _)⟩
    rw [hS.out]; exact hp
  case neg =>
  have q1 : (((bt s st.at_ : Nat) : Int) == 110) = false := by simp; omega
  by_cases g2 : bt s st.at_ = 116
  case pos =>
    have hV : Hid (escV s sp st = 9) := Lib.hid (by simp [escV, hlt, g2])
    have hS : Hid (escS s sp st = st.next) := Lib.hid (by simp [escS, hlt, g2])
    have q2 : (((bt s st.at_ : Nat) : Int) == 116) = true := by simp [g2]
    clear g1 g2
    go_enter Try.func49, Try.ntmps49
    go_wp2_with fail
    refine (peek_c p s st w h).mono ?_
    rintro e w' ⟨rfl, n, rfl⟩
    obtain ⟨c0, c1, c2, c3, c4, f1, f2, f3, f4⟩ := (HF.out n).cells
    have hp := (HF.out n).at (st.at_ + 1) (by omega)
    go_wp2_with fail
    go_ret
    refine ⟨by rw [hV.out]; rfl, ?_, ((Kp.refl _ _).drewN n).trans (K1.set _)⟩
    rw [hS.out]; exact hp
  case neg =>
  have q2 : (((bt s st.at_ : Nat) : Int) == 116) = false := by simp; omega
  by_cases g3 : bt s st.at_ = 115
  case pos =>
    have hV : Hid (escV s sp st = 32) := Lib.hid (by simp [escV, hlt, g3])
    have hS : Hid (escS s sp st = st.next) := Lib.hid (by simp [escS, hlt, g3])
    have q3 : (((bt s st.at_ : Nat) : Int) == 115) = true := by simp [g3]
    clear g1 g2 g3
    go_enter Try.func49, Try.ntmps49
    go_wp2_with fail
    refine (peek_c p s st w h).mono ?_
    rintro e w' ⟨rfl, n, rfl⟩
    obtain ⟨c0, c1, c2, c3, c4, f1, f2, f3, f4⟩ := (HF.out n).cells
    have hp := (HF.out n).at (st.at_ + 1) (by omega)
    go_wp2_with fail
    go_ret
    refine ⟨by rw [hV.out]; rfl, ?_, ((Kp.refl _ _).drewN n).trans (K1.set _)⟩
    rw [hS.out]; exact hp
  case neg =>
  have q3 : (((bt s st.at_ : Nat) : Int) == 115) = false := by simp; omega
  by_cases g4 : bt s st.at_ = 120
  case pos =>
    have q4 : (((bt s st.at_ : Nat) : Int) == 120) = true := by simp [g4]
    have hV : Hid (escV s sp st = if (hexS s st).bad then 0 else 16 * digitV s st.next + digitV s (hexS s st)) := Lib.hid (by simp [escV, hlt, g4])
    have hS : Hid (escS s sp st = if (hexS s st).bad then hexS s st else digitS s (hexS s st)) := Lib.hid (by simp [escS, hlt, g4])
    have v1 := digitV_lt s st.next
    have v2 := digitV_lt s (hexS s st)
    clear g1 g2 g3 g4
    cases hbad : (hexS s st).bad with
    | true =>
      have hBd := Lib.hid hbad
      go_enter Try.func49, Try.ntmps49
      go_wp2_with fail
      refine (peek_c p s st w h).mono ?_
      rintro e w' ⟨rfl, n, rfl⟩
      obtain ⟨c0, c1, c2, c3, c4, f1, f2, f3, f4⟩ := (HF.out n).cells
      have hp : Pat _ p s st.next := (HF.out n).at (st.at_ + 1) (by omega)
      go_wp2_with fail
      refine (digit_c p s st.next _ hp).mono ?_
      rintro e w2 ⟨rfl, hp2, hk2⟩
      have hp2' : Pat w2 p s (hexS s st) := hp2
      obtain ⟨d0, d1, d2, d3, d4, e1, e2, e3, e4⟩ := hp2'.cells
      go_wp2_with fail
      go_ret
      refine ⟨by rw [hV.out, hBd.out]; rfl, ?_, (((Kp.refl _ _).drewN n).trans (K1.set _)).trans hk2⟩
      rw [hS.out, hBd.out]; exact hp2'
    | false =>
      have hBd := Lib.hid hbad
      go_enter Try.func49, Try.ntmps49
      go_wp2_with fail
      refine (peek_c p s st w h).mono ?_
      rintro e w' ⟨rfl, n, rfl⟩
      obtain ⟨c0, c1, c2, c3, c4, f1, f2, f3, f4⟩ := (HF.out n).cells
      have hp : Pat _ p s st.next := (HF.out n).at (st.at_ + 1) (by omega)
      go_wp2_with fail
      refine (digit_c p s st.next _ hp).mono ?_
      rintro e w2 ⟨rfl, hp2, hk2⟩
      have hp2' : Pat w2 p s (hexS s st) := hp2
      obtain ⟨d0, d1, d2, d3, d4, e1, e2, e3, e4⟩ := hp2'.cells
      go_wp2_with fail
      refine (digit_c p s (hexS s st) w2 hp2').mono ?_
      rintro e w3 ⟨rfl, hp3, hk3⟩
      go_wp2_with fail
      go_ret
      refine ⟨by rw [hV.out, hBd.out]; simp, ?_, ((((Kp.refl _ _).drewN n).trans (K1.set _)).trans hk2).trans hk3⟩
      rw [hS.out, hBd.out]; exact hp3
  case neg =>
  have q4 : (((bt s st.at_ : Nat) : Int) == 120) = false := by simp; omega
  cases hin : inS sp (bt s st.at_) with
  | true =>
    have hV : Hid (escV s sp st = bt s st.at_) := Lib.hid (by simp [escV, hlt, g1, g2, g3, g4, hin])
    have hS : Hid (escS s sp st = st.next) := Lib.hid (by simp [escS, hlt, g1, g2, g3, g4, hin])
    have hI := Lib.hid hin
    clear g1 g2 g3 g4 hin
    go_enter Try.func49, Try.ntmps49
    go_wp2_with fail
    refine (peek_c p s st w h).mono ?_
    rintro e w' ⟨rfl, n, rfl⟩
    obtain ⟨c0, c1, c2, c3, c4, f1, f2, f3, f4⟩ := (HF.out n).cells
    have hp := (HF.out n).at (st.at_ + 1) (by omega)
    go_wp2_with fail
    refine (in_c sp (bt s st.at_) _).mono ?_
    rintro e w' ⟨i, rfl, rfl, hi⟩
    have hi0 : 0 ≤ i := by rw [hI.out] at hi; simpa using hi.symm
    clear hi
    go_wp2_with fail
    go_ret
    refine ⟨by rw [hV.out]; rfl, ?_, ((Kp.refl _ _).drewN n).trans (K1.set _)⟩
    rw [hS.out]; exact hp
  | false =>
    have hV : Hid (escV s sp st = 0) := Lib.hid (by simp [escV, hlt, g1, g2, g3, g4, hin])
    have hS : Hid (escS s sp st = st.fail) := Lib.hid (by simp [escS, hlt, g1, g2, g3, g4, hin])
    have hI := Lib.hid hin
    clear g1 g2 g3 g4 hin
    go_enter Try.func49, Try.ntmps49
    go_wp2_with fail
    refine (peek_c p s st w h).mono ?_
    rintro e w' ⟨rfl, n, rfl⟩
    go_wp2_with fail
    refine (in_c sp (bt s st.at_) _).mono ?_
    rintro e w' ⟨i, rfl, rfl, hi⟩
    have hi0 : i < 0 := by rw [hI.out] at hi; simpa using hi.symm
    clear hi
    go_wp2_with fail
    refine (fail_c p s st _ (HF.out n)).mono ?_
    rintro e w2 ⟨q, rfl, hq, hp2, hk2⟩
    go_wp2_with fail
    go_ret
    refine ⟨by rw [hV.out]; rfl, ?_, ((Kp.refl _ _).drewN n).trans hk2⟩
    rw [hS.out]; exact hp2

set_option maxRecDepth 100000 in
set_option maxHeartbeats 1000000 in
theorem letter_c (p : Nat) (s sp : ByteArray) (st : PS) (w : World) (h : Pat w p s st) :
    Calls Try.prog 47 #[ptr p, .string sp] w fun e w' => e = .returned (.int .u8 (letV s sp st)) ∧ Pat w' p s (letS s sp st) ∧ K1 p w w' := by
  have hb := h.2.2
  by_cases hlt : st.at_ < s.size
  case neg =>
    have hV : Hid (letV s sp st = 0) := Lib.hid (by simp [letV, hlt])
    have hS : Hid (letS s sp st = st.fail) := Lib.hid (by simp [letS, hlt])
    have hD := decide_eq_false hlt
    go_enter Try.func47, Try.ntmps47
    go_wp2_with fail
    refine (peek_c p s st w h).mono ?_
    rintro e w' ⟨rfl, n, rfl⟩
    go_wp2_with fail
    refine (fail_c p s st _ (h.drewN n)).mono ?_
    rintro e w2 ⟨q, rfl, hq, hp2, hk2⟩
    go_wp2_with fail
    go_ret
    refine ⟨by rw [hV.out]; rfl, ?_, ((Kp.refl _ _).drewN n).trans hk2⟩
    rw [hS.out]; exact hp2
  case pos =>
  have hD := decide_eq_true hlt
  have hfin : ∀ (n : Nat), Pat (w.drewN n) p s st := fun n => h.drewN n
  have HF := Lib.hid hfin
  clear hfin
  by_cases g1 : bt s st.at_ = 92
  case pos =>
    have hV : Hid (letV s sp st = escV s sp st.next) := Lib.hid (by simp [letV, hlt, g1])
    have hS : Hid (letS s sp st = escS s sp st.next) := Lib.hid (by simp [letS, hlt, g1])
    have q1 : (((bt s st.at_ : Nat) : Int) == 92) = true := by simp [g1]
    clear g1
    go_enter Try.func47, Try.ntmps47
    go_wp2_with fail
    refine (peek_c p s st w h).mono ?_
    rintro e w' ⟨rfl, n, rfl⟩
    obtain ⟨c0, c1, c2, c3, c4, f1, f2, f3, f4⟩ := (HF.out n).cells
    have hp : Pat _ p s st.next := (HF.out n).at (st.at_ + 1) (by omega)
    go_wp2_with fail
    refine (esc_c p s sp st.next _ hp).mono ?_
    rintro e w2 ⟨rfl, hp2, hk2⟩
    go_wp2_with fail
    go_ret
    refine ⟨by rw [hV.out]; rfl, ?_, (((Kp.refl _ _).drewN n).trans (K1.set _)).trans hk2⟩
    rw [hS.out]; exact hp2
  case neg =>
  have q1 : (((bt s st.at_ : Nat) : Int) == 92) = false := by simp; omega
  cases hpl : plainB sp (bt s st.at_) with
  | true =>
    have hV : Hid (letV s sp st = bt s st.at_) := Lib.hid (by simp [letV, hlt, g1, hpl])
    have hS : Hid (letS s sp st = st.next) := Lib.hid (by simp [letS, hlt, g1, hpl])
    simp only [plainB, Bool.not_eq_true', Bool.or_eq_false_iff, decide_eq_false_iff_not] at hpl
    obtain ⟨⟨h32, h127⟩, hin⟩ := hpl
    have hI := Lib.hid hin
    clear g1 hin
    go_enter Try.func47, Try.ntmps47
    go_wp2_with fail
    refine (peek_c p s st w h).mono ?_
    rintro e w' ⟨rfl, n, rfl⟩
    obtain ⟨c0, c1, c2, c3, c4, f1, f2, f3, f4⟩ := (HF.out n).cells
    have hp := (HF.out n).at (st.at_ + 1) (by omega)
    have h32' : ¬ ((bt s st.at_ : Nat) : Int) ≤ 32 := by omega
    have h127' : ¬ (127 : Int) ≤ ((bt s st.at_ : Nat) : Int) := by omega
    go_wp2_with fail
    refine (in_c sp (bt s st.at_) _).mono ?_
    rintro e w' ⟨i, rfl, rfl, hi⟩
    have hi0 : i < 0 := by rw [hI.out] at hi; simpa using hi.symm
    clear hi
    go_wp2_with fail
    go_ret
    refine ⟨by rw [hV.out]; rfl, ?_, ((Kp.refl _ _).drewN n).trans (K1.set _)⟩
    rw [hS.out]; exact hp
  | false =>
    have hV : Hid (letV s sp st = 0) := Lib.hid (by simp [letV, hlt, g1, hpl])
    have hS : Hid (letS s sp st = st.fail) := Lib.hid (by simp [letS, hlt, g1, hpl])
    have hP := Lib.hid hpl
    clear g1 hpl
    by_cases h32 : bt s st.at_ ≤ 32
    · have h32' : ((bt s st.at_ : Nat) : Int) ≤ 32 := by omega
      go_enter Try.func47, Try.ntmps47
      go_wp2_with fail
      refine (peek_c p s st w h).mono ?_
      rintro e w' ⟨rfl, n, rfl⟩
      go_wp2_with fail
      refine (fail_c p s st _ (HF.out n)).mono ?_
      rintro e w2 ⟨q, rfl, hq, hp2, hk2⟩
      go_wp2_with fail
      go_ret
      refine ⟨by rw [hV.out]; rfl, ?_, ((Kp.refl _ _).drewN n).trans hk2⟩
      rw [hS.out]; exact hp2
    · have h32' : ¬ ((bt s st.at_ : Nat) : Int) ≤ 32 := by omega
      by_cases h127 : 127 ≤ bt s st.at_
      · have h127' : (127 : Int) ≤ ((bt s st.at_ : Nat) : Int) := by omega
        go_enter Try.func47, Try.ntmps47
        go_wp2_with fail
        refine (peek_c p s st w h).mono ?_
        rintro e w' ⟨rfl, n, rfl⟩
        go_wp2_with fail
        refine (fail_c p s st _ (HF.out n)).mono ?_
        rintro e w2 ⟨q, rfl, hq, hp2, hk2⟩
        go_wp2_with fail
        go_ret
        refine ⟨by rw [hV.out]; rfl, ?_, ((Kp.refl _ _).drewN n).trans hk2⟩
        rw [hS.out]; exact hp2
      · have h127' : ¬ (127 : Int) ≤ ((bt s st.at_ : Nat) : Int) := by omega
        have hI : Hid (inS sp (bt s st.at_) = true) := Lib.hid (by
          have := hP.out
          simp only [plainB, Bool.not_eq_false', Bool.or_eq_true, decide_eq_true_eq] at this
          rcases this with (h | h) | h
          · exact (h32 h).elim
          · exact (h127 h).elim
          · exact h)
        go_enter Try.func47, Try.ntmps47
        go_wp2_with fail
        refine (peek_c p s st w h).mono ?_
        rintro e w' ⟨rfl, n, rfl⟩
        go_wp2_with fail
        refine (in_c sp (bt s st.at_) _).mono ?_
        rintro e w' ⟨i, rfl, rfl, hi⟩
        have hi0 : 0 ≤ i := by rw [hI.out] at hi; simpa using hi.symm
        clear hi
        go_wp2_with fail
        refine (fail_c p s st _ (HF.out n)).mono ?_
        rintro e w2 ⟨q, rfl, hq, hp2, hk2⟩
        go_wp2_with fail
        go_ret
        refine ⟨by rw [hV.out]; rfl, ?_, ((Kp.refl _ _).drewN n).trans hk2⟩
        rw [hS.out]; exact hp2
end Go.Proofs.Ytkhcnneflcbnpaa
