/-
  The document's reader of expressions: letters: the walk. Conditions: the reader stands in memory, within its text.
-/
import Derived.Test.YtkhcnneflcbnpaaMRead
import Derived.Test.YtkhcnneflcbnpaaPLet
namespace Go.Proofs.Ytkhcnneflcbnpaa
open Go.RowKit

/-- a letter, as the document's reader tells it: none is 0 -/
def letR (s sp : ByteArray) (st : PS) : Nat := if (letS s sp st).bad then 0 else letV s sp st
theorem letR_bad {s sp : ByteArray} {st : PS} (h : (letS s sp st).bad = true) : letR s sp st = 0 := by unfold letR; rw [if_pos h]
theorem letR_ok {s sp : ByteArray} {st : PS} (h : (letS s sp st).bad = false) : letR s sp st = letV s sp st := by unfold letR; rw [h]; rfl
/-- what two hex digits make, one by one -/
def xvN (s : ByteArray) (a : Nat) : Nat → Nat
  | 0 => 0
  | k + 1 => 16 * xvN s a k + hexD (bt s (a + 1 + k))
theorem hexI_ok {c : Nat} (h : hexD c < 16) : hexI c = hexD c := by unfold hexI; rw [if_pos h]
theorem hexI_no {c : Nat} (h : ¬ hexD c < 16) : hexI c = -1 := by unfold hexI; rw [if_neg h]

def DK (s : ByteArray) (a j : Nat) : Prop := hexD (bt s (a + 1 + j)) < 16 ∧ a + 1 + j < s.size
theorem digitOk_iff (s : ByteArray) (st : PS) : digitOk s st = true ↔ hexD (bt s st.at_) < 16 ∧ st.at_ < s.size := by simp [digitOk, and_comm]
theorem digit_no {s : ByteArray} {st : PS} (h : ¬ (hexD (bt s st.at_) < 16 ∧ st.at_ < s.size)) : digitS s st = st.fail ∧ digitV s st = 0 := by
  have : ¬ digitOk s st = true := fun x => h ((digitOk_iff s st).1 x)
  unfold digitS digitV; rw [if_neg this, if_neg this]; exact ⟨rfl, rfl⟩
theorem digit_yes {s : ByteArray} {st : PS} (h : hexD (bt s st.at_) < 16 ∧ st.at_ < s.size) : digitS s st = st.next ∧ digitV s st = hexD (bt s st.at_) := by
  have := (digitOk_iff s st).2 h
  unfold digitS digitV; rw [if_pos this, if_pos this]; exact ⟨rfl, rfl⟩
theorem x_fail {s : ByteArray} {s1 : PS} (hb : s1.bad = false) (k : Nat) (hk : k < 2) (h0 : ∀ j, j < k → DK s s1.at_ j) (h1 : ¬ DK s s1.at_ k) :
    (if (hexS s s1).bad then hexS s s1 else digitS s (hexS s s1)) = PS.fail { s1 with at_ := s1.at_ + k + 1 } := by
  match k, hk with
  | 0, _ =>
    have e : hexS s s1 = s1.next.fail := (digit_no (st := s1.next) h1).1
    rw [e, if_pos (by rfl)]; rfl
  | 1, _ =>
    have e : hexS s s1 = s1.next.next := (digit_yes (st := s1.next) (h0 0 (by omega))).1
    rw [e, if_neg (by rw [show s1.next.next.bad = s1.bad from rfl, hb]; decide), (digit_no (st := s1.next.next) h1).1]; rfl
theorem x_ok {s : ByteArray} {s1 : PS} (hb : s1.bad = false) (h0 : ∀ j, j < 2 → DK s s1.at_ j) :
    (if (hexS s s1).bad then hexS s s1 else digitS s (hexS s s1)) = { s1 with at_ := s1.at_ + 2 + 1 } ∧ (if (hexS s s1).bad then 0 else 16 * digitV s s1.next + digitV s (hexS s s1)) = xvN s s1.at_ 2 := by
  have e : hexS s s1 = s1.next.next := (digit_yes (st := s1.next) (h0 0 (by omega))).1
  have e2 := (digit_yes (st := s1.next) (h0 0 (by omega))).2
  have hn : ¬ s1.next.next.bad = true := by rw [show s1.next.next.bad = s1.bad from rfl, hb]; decide
  rw [e, if_neg hn, if_neg hn, (digit_yes (st := s1.next.next) (h0 1 (by omega))).1, (digit_yes (st := s1.next.next) (h0 1 (by omega))).2, e2]
  refine ⟨rfl, ?_⟩
  simp [xvN, PS.next]
theorem xvN_lt {s : ByteArray} {a k : Nat} (hk : k < 2) (h0 : ∀ j, j < k → DK s a j) : xvN s a k < 16 := by
  match k, hk with
  | 0, _ => simp [xvN]
  | 1, _ => have := (h0 0 (by omega)).1; simp [xvN]; exact this

theorem let_stop {s sp : ByteArray} {st : PS} (h : st.at_ < s.size) (h92 : bt s st.at_ = 92) : letV s sp st = escV s sp st.next ∧ letS s sp st = escS s sp st.next := by
  constructor
  · unfold letV; rw [if_pos h, if_pos h92]
  · unfold letS; rw [if_pos h, if_pos h92]

set_option maxRecDepth 100000 in
set_option maxHeartbeats 1000000 in
theorem letter_none (p : Nat) (s sp : ByteArray) (st : PS) (w : World) (h : Tat w p s st) (hsp : sp.size ≤ 1000) (hbd : st.bad = false) (hlt : ¬ st.at_ < s.size) :
    Calls Try.prog 38 #[ptr p, .string sp] w fun e w' => e = .returned (.int .i64 (letR s sp st)) ∧ Tat w' p s (letS s sp st) ∧ K1 p w w' := by
  obtain ⟨c0, c1, c2, c3, c4, f1, f2, f3, f4⟩ := h.cells
  have hb := h.2.2
  have HB := hbd
  have hV : Hid (letV s sp st = 0) := Lib.hid (by simp [letV, hlt])
  have hS : Hid (letS s sp st = st.fail) := Lib.hid (by simp [letS, hlt])
  have hR : Hid (letR s sp st = 0) := Lib.hid (letR_bad (by rw [hS.out]; rfl))
  have hlt' : (s.size : Int) ≤ st.at_ := by omega
  have hp := fun n => (h.drewN n).setBad
  go_enter Try.func38, Try.ntmps38
  go_wp2_with fail
  go_quiet (fail)
  go_wp2_with fail
  go_ret
  refine ⟨by rw [hR.out]; rfl, ?_, ((Kp.refl _ _).drewN _).trans (K1.set _)⟩
  rw [hS.out]; exact hp _

set_option maxRecDepth 100000 in
set_option maxHeartbeats 1000000 in
theorem letter_low (p : Nat) (s sp : ByteArray) (st : PS) (w : World) (h : Tat w p s st) (hsp : sp.size ≤ 1000) (hbd : st.bad = false) (hlt : st.at_ < s.size) (h92 : bt s st.at_ ≠ 92) (g1 : bt s st.at_ ≤ 32) :
    Calls Try.prog 38 #[ptr p, .string sp] w fun e w' => e = .returned (.int .i64 (letR s sp st)) ∧ Tat w' p s (letS s sp st) ∧ K1 p w w' := by
  obtain ⟨c0, c1, c2, c3, c4, f1, f2, f3, f4⟩ := h.cells
  have hb := h.2.2
  have HB := hbd
  have hE := bt_in hlt
  have hlt' : (st.at_ : Int) < s.size := by omega
  have hlt2 : ¬ (s.size : Int) ≤ st.at_ := by omega
  have hV : Hid (letV s sp st = 0) := Lib.hid (by unfold letV; rw [if_pos hlt, if_neg h92, if_neg (by simp [plainB]; omega)])
  have hS : Hid (letS s sp st = st.fail) := Lib.hid (by unfold letS; rw [if_pos hlt, if_neg h92, if_neg (by simp [plainB]; omega)])
  have hR : Hid (letR s sp st = 0) := Lib.hid (letR_bad (by rw [hS.out]; rfl))
  have q92 : (((s[st.at_].toNat : Nat) : Int) != 92) = true := by rw [← hE]; simp; omega
  have e1 : ((s[st.at_].toNat : Nat) : Int) ≤ 32 := by rw [← hE]; omega
  have hp := fun n => (h.drewN n).setBad
  clear h92 hE
  go_enter Try.func38, Try.ntmps38
  go_wp2_with fail
  go_quiet (fail)
  go_wp2_with fail
  go_quiet (fail)
  go_wp2_with fail
  go_ret
  refine ⟨by rw [hR.out]; rfl, ?_, ((Kp.refl _ _).drewN _).trans (K1.set _)⟩
  rw [hS.out]; exact hp _

set_option maxRecDepth 100000 in
set_option maxHeartbeats 1000000 in
theorem letter_high (p : Nat) (s sp : ByteArray) (st : PS) (w : World) (h : Tat w p s st) (hsp : sp.size ≤ 1000) (hbd : st.bad = false) (hlt : st.at_ < s.size) (h92 : bt s st.at_ ≠ 92) (g1 : ¬ bt s st.at_ ≤ 32) (g2 : 127 ≤ bt s st.at_) :
    Calls Try.prog 38 #[ptr p, .string sp] w fun e w' => e = .returned (.int .i64 (letR s sp st)) ∧ Tat w' p s (letS s sp st) ∧ K1 p w w' := by
  obtain ⟨c0, c1, c2, c3, c4, f1, f2, f3, f4⟩ := h.cells
  have hb := h.2.2
  have HB := hbd
  have hE := bt_in hlt
  have hlt' : (st.at_ : Int) < s.size := by omega
  have hlt2 : ¬ (s.size : Int) ≤ st.at_ := by omega
  have hV : Hid (letV s sp st = 0) := Lib.hid (by unfold letV; rw [if_pos hlt, if_neg h92, if_neg (by simp [plainB]; omega)])
  have hS : Hid (letS s sp st = st.fail) := Lib.hid (by unfold letS; rw [if_pos hlt, if_neg h92, if_neg (by simp [plainB]; omega)])
  have hR : Hid (letR s sp st = 0) := Lib.hid (letR_bad (by rw [hS.out]; rfl))
  have q92 : (((s[st.at_].toNat : Nat) : Int) != 92) = true := by rw [← hE]; simp; omega
  have e1 : ¬ ((s[st.at_].toNat : Nat) : Int) ≤ 32 := by rw [← hE]; omega
  have e2 : (127 : Int) ≤ ((s[st.at_].toNat : Nat) : Int) := by rw [← hE]; omega
  have hp := fun n => (h.drewN n).setBad
  clear h92 hE
  go_enter Try.func38, Try.ntmps38
  go_wp2_with fail
  go_quiet (fail)
  go_wp2_with fail
  go_quiet (fail)
  go_wp2_with fail
  go_ret
  refine ⟨by rw [hR.out]; rfl, ?_, ((Kp.refl _ _).drewN _).trans (K1.set _)⟩
  rw [hS.out]; exact hp _

set_option maxRecDepth 100000 in
set_option maxHeartbeats 1000000 in
theorem letter_sp (p : Nat) (s sp : ByteArray) (st : PS) (w : World) (h : Tat w p s st) (hsp : sp.size ≤ 1000) (hbd : st.bad = false) (hlt : st.at_ < s.size) (h92 : bt s st.at_ ≠ 92) (g1 : ¬ bt s st.at_ ≤ 32) (g2 : ¬ 127 ≤ bt s st.at_) (g3 : inS sp (bt s st.at_) = true) :
    Calls Try.prog 38 #[ptr p, .string sp] w fun e w' => e = .returned (.int .i64 (letR s sp st)) ∧ Tat w' p s (letS s sp st) ∧ K1 p w w' := by
  obtain ⟨c0, c1, c2, c3, c4, f1, f2, f3, f4⟩ := h.cells
  have hb := h.2.2
  have HB := hbd
  have hE := bt_in hlt
  have hlt' : (st.at_ : Int) < s.size := by omega
  have hlt2 : ¬ (s.size : Int) ≤ st.at_ := by omega
  have hV : Hid (letV s sp st = 0) := Lib.hid (by unfold letV; rw [if_pos hlt, if_neg h92, if_neg (by simp [plainB]; intro _ _; exact g3)])
  have hS : Hid (letS s sp st = st.fail) := Lib.hid (by unfold letS; rw [if_pos hlt, if_neg h92, if_neg (by simp [plainB]; intro _ _; exact g3)])
  have hR : Hid (letR s sp st = 0) := Lib.hid (letR_bad (by rw [hS.out]; rfl))
  have q92 : (((s[st.at_].toNat : Nat) : Int) != 92) = true := by rw [← hE]; simp; omega
  have e1 : ¬ ((s[st.at_].toNat : Nat) : Int) ≤ 32 := by rw [← hE]; omega
  have e2 : ¬ (127 : Int) ≤ ((s[st.at_].toNat : Nat) : Int) := by rw [← hE]; omega
  have e3 : inS sp s[st.at_].toNat = true := by rw [← hE]; exact g3
  have hI := Lib.hid (inR_c sp (bt s st.at_) (bt_lt _ _) hsp)
  rw [hE] at hI
  have hp := fun n => (h.drewN n).setBad
  clear h92 hE
  go_enter Try.func38, Try.ntmps38
  go_wp2_with fail
  go_quiet (fail)
  go_wp2_with fail
  go_quiet (fail)
  go_wp2_with fail
  refine (hI.out _).mono ?_
  rintro e w9 ⟨rfl, rfl⟩
  go_wp2_with fail
  go_ret
  refine ⟨by rw [hR.out]; rfl, ?_, ((Kp.refl _ _).drewN _).trans (K1.set _)⟩
  rw [hS.out]; exact hp _

set_option maxRecDepth 100000 in
set_option maxHeartbeats 1000000 in
theorem letter_plain (p : Nat) (s sp : ByteArray) (st : PS) (w : World) (h : Tat w p s st) (hsp : sp.size ≤ 1000) (hbd : st.bad = false) (hlt : st.at_ < s.size) (h92 : bt s st.at_ ≠ 92) (g1 : ¬ bt s st.at_ ≤ 32) (g2 : ¬ 127 ≤ bt s st.at_) (g3 : inS sp (bt s st.at_) = false) :
    Calls Try.prog 38 #[ptr p, .string sp] w fun e w' => e = .returned (.int .i64 (letR s sp st)) ∧ Tat w' p s (letS s sp st) ∧ K1 p w w' := by
  obtain ⟨c0, c1, c2, c3, c4, f1, f2, f3, f4⟩ := h.cells
  have hb := h.2.2
  have HB := hbd
  have hE := bt_in hlt
  have hlt' : (st.at_ : Int) < s.size := by omega
  have hlt2 : ¬ (s.size : Int) ≤ st.at_ := by omega
  have hV : Hid (letV s sp st = s[st.at_].toNat) := Lib.hid (by unfold letV; rw [if_pos hlt, if_neg h92, if_pos (by simp [plainB, g3]; omega)]; exact hE)
  have hS : Hid (letS s sp st = st.next) := Lib.hid (by unfold letS; rw [if_pos hlt, if_neg h92, if_pos (by simp [plainB, g3]; omega)])
  have hR := Lib.hid ((letR_ok (s := s) (sp := sp) (st := st) (by rw [hS.out]; exact HB)).trans hV.out)
  have q92 : (((s[st.at_].toNat : Nat) : Int) != 92) = true := by rw [← hE]; simp; omega
  have e1 : ¬ ((s[st.at_].toNat : Nat) : Int) ≤ 32 := by rw [← hE]; omega
  have e2 : ¬ (127 : Int) ≤ ((s[st.at_].toNat : Nat) : Int) := by rw [← hE]; omega
  have e3 : inS sp s[st.at_].toNat = false := by rw [← hE]; exact g3
  have hI := Lib.hid (inR_c sp (bt s st.at_) (bt_lt _ _) hsp)
  rw [hE] at hI
  have hp := fun n => (h.drewN n).at (st.at_ + 1) (by omega)
  clear h92 hE
  go_enter Try.func38, Try.ntmps38
  go_wp2_with fail
  go_quiet (fail)
  go_wp2_with fail
  go_quiet (fail)
  go_wp2_with fail
  refine (hI.out _).mono ?_
  rintro e w9 ⟨rfl, rfl⟩
  go_wp2_with fail
  go_ret
  refine ⟨by rw [hR.out]; rfl, ?_, ((Kp.refl _ _).drewN _).trans (K1.set _)⟩
  rw [hS.out]; exact hp _

set_option maxRecDepth 100000 in
set_option maxHeartbeats 1000000 in
theorem letter_esc (p : Nat) (s sp : ByteArray) (st : PS) (w : World) (h : Tat w p s st) (hsp : sp.size ≤ 1000) (hbd : st.bad = false) (hlt : st.at_ < s.size) (h92 : bt s st.at_ = 92) :
    Calls Try.prog 38 #[ptr p, .string sp] w fun e w' => e = .returned (.int .i64 (letR s sp st)) ∧ Tat w' p s (letS s sp st) ∧ K1 p w w' := by
  obtain ⟨c0, c1, c2, c3, c4, f1, f2, f3, f4⟩ := h.cells
  have hb := h.2.2
  have HB := hbd
  have hE := bt_in hlt
  have hlt' : (st.at_ : Int) < s.size := by omega
  have hlt2 : ¬ (s.size : Int) ≤ st.at_ := by omega
  have q92 : (((s[st.at_].toNat : Nat) : Int) != 92) = false := by rw [← hE]; simp [h92]
  obtain ⟨hV0, hS0⟩ := let_stop (sp := sp) hlt h92
  have hb1 : st.next.bad = false := hbd
  clear HB
  have hpn : ∀ n, Tat ((w.drewN n).setCell ⟨p, 1, none⟩ (.int .i64 ((st.at_ : Int) + 1))) p s st.next ∧ K1 p w ((w.drewN n).setCell ⟨p, 1, none⟩ (.int .i64 ((st.at_ : Int) + 1))) :=
    fun n => ⟨(h.drewN n).at (st.at_ + 1) (by omega), ((Kp.refl _ _).drewN n).trans (K1.set _)⟩
  clear hE h92
  go_enter Try.func38, Try.ntmps38
  go_wp2_with fail
  go_quiet (fail)
  have H1 := fun m => hpn (nq + m)
  go_wp2_with fail
  go_quiet (fail)
  have H2 := H1 nq
  clear hpn H1
  go_wp2_with fail
  revert H2
  generalize World.setCell _ _ _ = W
  rintro ⟨h1, hk1⟩
  revert hV0 hS0 hb1 h1
  generalize st.next = s1
  intro hV0 hS0 HB h1
  clear c0 c1 c2 c3 c4 f1 f2 f3 f4 hb
  obtain ⟨c0, c1, c2, c3, c4, f1, f2, f3, f4⟩ := h1.cells
  have hb := h1.2.2
  have hle := h1.2.1
  have HV0 := Lib.hid hV0
  have HS0 := Lib.hid hS0
  have H1 := Lib.hid h1
  have hbad := fun n => (h1.drewN n).setBad
  have hnx := fun n (hx : s1.at_ < s.size) => (h1.drewN n).at (s1.at_ + 1) (by omega)
  clear h1 hV0 hS0
  by_cases hl : s1.at_ < s.size
  case neg =>
    have hV : Hid (letV s sp st = 0) := Lib.hid (HV0.out.trans (by unfold escV; rw [if_neg hl]))
    have hS : Hid (letS s sp st = s1.fail) := Lib.hid (HS0.out.trans (by unfold escS; rw [if_neg hl]))
    have hR : Hid (letR s sp st = 0) := Lib.hid (letR_bad (by rw [hS.out]; rfl))
    have hl' : (s.size : Int) ≤ s1.at_ := by omega
    go_quiet (fail)
    go_wp2_with fail
    go_ret
    refine ⟨by rw [hR.out]; rfl, ?_, hk1.trans (((Kp.refl _ _).drewN _).trans (K1.set _))⟩
    rw [hS.out]; exact hbad _
  case pos =>
  have hE := bt_in hl
  have hl' : ¬ (s.size : Int) ≤ s1.at_ := by omega
  have hl2 : (s1.at_ : Int) < s.size := by omega
  have u1 : ((s[s1.at_].toNat : Nat) : Int) < 256 := by have := s[s1.at_].toNat_lt; omega
  by_cases g1 : bt s s1.at_ = 120
  case pos =>
    have q1 : (((s[s1.at_].toNat : Nat) : Int) == 120) = true := by rw [← hE]; simp [g1]
    have hx : ∀ k : Nat, hexI (bt s k) = if hexD (bt s k) < 16 then (hexD (bt s k) : Int) else -1 := fun _ => rfl
    have EV : Hid (escV s sp s1 = if (hexS s s1).bad then 0 else 16 * digitV s s1.next + digitV s (hexS s s1)) := Lib.hid (by unfold escV; rw [if_pos hl, if_neg (by omega), if_neg (by omega), if_neg (by omega), if_pos g1])
    have ES : Hid (escS s sp s1 = if (hexS s s1).bad then hexS s s1 else digitS s (hexS s s1)) := Lib.hid (by unfold escS; rw [if_pos hl, if_neg (by omega), if_neg (by omega), if_neg (by omega), if_pos g1])
    have HX := Lib.hid (hexR_c)
    clear hE g1 hx hbad hnx
    have HT : Hid (∀ n, Tat (W.drewN n) p s s1) := Lib.hid (fun n => H1.out.drewN n)
    go_quiet (fail)
    have HT1 := fun m => HT.out (nq + m)
    go_wp2_with fail
    go_quiet (fail)
    have HT2 := HT1 nq
    clear HT1
    have hk2 : ∀ n, K1 p w (W.drewN n) := fun n => hk1.drewN n
    have HK2 := Lib.hid (hk2)
    clear hk2
    go_wp2_with fail
    go_loopw [6, 7] (fun n i wr => ∃ k : Nat, k ≤ 2 ∧ i = .int .i64 k ∧ n = .int .i64 (xvN s s1.at_ k) ∧ Tat wr p s { s1 with at_ := s1.at_ + k } ∧ K1 p w wr ∧ (∀ j, j < k → DK s s1.at_ j)) (fun _ i _ => 3 - (intOf i).toNat)
    case atStart => exact ⟨0, by omega, rfl, rfl, HT2, HK2.out _, fun j hj => by omega⟩
    case round =>
      obtain ⟨k, hk, rfl, rfl, hT, hkw, hdg⟩ := hrel
      by_cases hk2 : k < 2
      · have hk2' : (k : Int) < 2 := by omega
        have hk0 : (0 : Int) ≤ (k : Int) := by omega
        have hAk : s1.at_ + k < s.size := by
          match k, hk2 with
          | 0, _ => exact hl
          | 1, _ => exact (hdg 0 (by omega)).2
        obtain ⟨X, hX⟩ : ∃ X, X = xvN s s1.at_ k := ⟨_, rfl⟩
        have hX16 : X < 16 := by rw [hX]; exact xvN_lt hk2 hdg
        rw [← hX]
        obtain ⟨A, hA⟩ : ∃ A, A = s1.at_ + k := ⟨_, rfl⟩
        rw [← hA] at hT hAk
        have HXX := Lib.hid hX
        have HA := Lib.hid hA
        clear hX hA
        obtain ⟨d0, d1, d2, d3, d4, m1, m2, m3, m4⟩ := hT.cells
        have hT1 : Tat (wr.setCell ⟨p, 1, none⟩ (.int .i64 ((A : Int) + 1))) p s { s1 with at_ := A + 1 } := hT.at (A + 1) (by omega)
        have hkw1 : K1 p w (wr.setCell ⟨p, 1, none⟩ (.int .i64 ((A : Int) + 1))) := hkw.trans (K1.set _)
        go_wp2_with fail
        revert hT1 hkw1
        generalize World.setCell _ _ _ = V
        intro hT1 hkw1
        clear d0 d1 d2 d3 d4 m1 m2 m3 m4 hT hkw
        obtain ⟨B, hB⟩ : ∃ B, B = A + 1 := ⟨_, rfl⟩
        rw [← hB] at hT1
        have HB2 : Hid (B = s1.at_ + k + 1) := Lib.hid (by rw [hB, HA.out])
        have hBs : B ≤ s.size := by omega
        clear hB
        have hbV := fun n => (hT1.drewN n).setBad
        have hTV := fun n => hT1.drewN n
        obtain ⟨d0, d1, d2, d3, d4, m1, m2, m3, m4⟩ := hT1.cells
        by_cases hz : B < s.size
        · have hz' : (B : Int) < s.size := by omega
          have hz2 : ¬ (s.size : Int) ≤ (B : Int) := by omega
          have hEz := bt_in hz
          by_cases hd : hexD (bt s (B)) < 16
          · have hD : DK s s1.at_ k := by unfold DK; rw [show s1.at_ + 1 + k = B by rw [HB2.out]; omega]; exact ⟨hd, hz⟩
            have hdg' : Hid (∀ j, j < k + 1 → DK s s1.at_ j) := Lib.hid (fun j hj => by
              rcases Nat.lt_succ_iff_lt_or_eq.1 hj with h | h
              · exact hdg j h
              · rw [h]; exact hD)
            obtain ⟨D, hDD⟩ : ∃ D, D = hexD (bt s (B)) := ⟨_, rfl⟩
            have hD16 : D < 16 := by rw [hDD]; exact hd
            have HH : Hid (∀ W, Calls Try.prog 45 #[.int .u8 (s[B].toNat : Nat)] W fun e w' => e = .returned (.int .i64 (D : Nat)) ∧ W = w') := Lib.hid (by
              intro W
              have := HX.out (bt s (B)) (bt_lt _ _) W
              rw [hexI_ok hd, ← hDD, hEz] at this; exact this)
            have hXn : Hid (16 * X + D = xvN s s1.at_ (k + 1)) := Lib.hid (by
              show _ = 16 * xvN s s1.at_ k + hexD (bt s (s1.at_ + 1 + k))
              rw [← HXX.out, hDD, show s1.at_ + 1 + k = B by rw [HB2.out]; omega])
            have HTn : Hid (∀ n, Tat (V.drewN n) p s { s1 with at_ := s1.at_ + (k + 1) }) := Lib.hid (fun n => by
              have := hTV n
              rw [show s1.at_ + (k + 1) = B by rw [HB2.out]; omega]; exact this)
            have HKn : Hid (∀ n, K1 p w (V.drewN n)) := Lib.hid (fun n => hkw1.drewN n)
            clear hEz hd hDD hD hbV hTV
            go_quiet ((go_at_call 45; first | exact quiet_left (HH.out _) | exact quiet_add_left (HH.out _)))
            go_wp2_with fail
            go_quiet ((go_at_call 45; first | exact quiet_left (HH.out _) | exact quiet_add_left (HH.out _)))
            go_wp2_with fail
            go_roundw
            case rel => exact ⟨k + 1, by omega, by go_num, by rw [← hXn.out]; go_num, HTn.out _, HKn.out _, hdg'.out⟩
            case measure => simp [intOf]; omega
          · have HH : Hid (∀ W, Calls Try.prog 45 #[.int .u8 (s[B].toNat : Nat)] W fun e w' => e = .returned (.int .i64 (-1)) ∧ W = w') := Lib.hid (by
              intro W
              have := HX.out (bt s (B)) (bt_lt _ _) W
              rw [hexI_no hd, hEz] at this; exact this)
            have hS : Hid (letS s sp st = PS.fail { s1 with at_ := B }) := Lib.hid (HS0.out.trans (ES.out.trans (by
              rw [HB2.out]
              exact x_fail HB k hk2 hdg (fun x => hd (by have := x.1; rw [show s1.at_ + 1 + k = B by rw [HB2.out]; omega] at this; exact this)))))
            have hR : Hid (letR s sp st = 0) := Lib.hid (letR_bad (by rw [hS.out]; rfl))
            clear hEz hd
            go_quiet ((go_at_call 45; first | exact quiet_left (HH.out _) | exact quiet_add_left (HH.out _)))
            go_wp2_with fail
            go_ret
            refine ⟨by rw [hR.out]; rfl, ?_, hkw1.trans (((Kp.refl _ _).drewN _).trans (K1.set _))⟩
            rw [hS.out]; exact hbV _
        · have hz' : (s.size : Int) ≤ (B : Int) := by omega
          have hS : Hid (letS s sp st = PS.fail { s1 with at_ := B }) := Lib.hid (HS0.out.trans (ES.out.trans (by
            rw [HB2.out]
            exact x_fail HB k hk2 hdg (fun x => hz (by have := x.2; rw [show s1.at_ + 1 + k = B by rw [HB2.out]; omega] at this; exact this)))))
          have hR : Hid (letR s sp st = 0) := Lib.hid (letR_bad (by rw [hS.out]; rfl))
          go_quiet (fail)
          go_wp2_with fail
          go_ret
          refine ⟨by rw [hR.out]; rfl, ?_, hkw1.trans (((Kp.refl _ _).drewN _).trans (K1.set _))⟩
          rw [hS.out]; exact hbV _
      · have hk3 : k = 2 := by omega
        subst hk3
        have hal : s1.at_ + 1 + 1 < s.size := (hdg 1 (by omega)).2
        have hx2 := x_ok HB hdg
        have hS : Hid (letS s sp st = { s1 with at_ := s1.at_ + 2 + 1 }) := Lib.hid (HS0.out.trans (ES.out.trans hx2.1))
        have hR : Hid (letR s sp st = xvN s s1.at_ 2) := Lib.hid ((letR_ok (s := s) (sp := sp) (st := st) (by rw [hS.out]; exact HB)).trans (HV0.out.trans (EV.out.trans hx2.2)))
        clear hx2
        obtain ⟨X, hX⟩ : ∃ X, X = xvN s s1.at_ 2 := ⟨_, rfl⟩
        rw [← hX] at hR ⊢
        clear hX
        obtain ⟨d0, d1, d2, d3, d4, m1, m2, m3, m4⟩ := hT.cells
        have hT1 := hT.at (s1.at_ + 2 + 1) (by omega)
        go_wp2_with fail
        go_ret
        refine ⟨by rw [hR.out]; rfl, ?_, hkw.trans (K1.set _)⟩
        rw [hS.out]; exact hT1
  case neg =>
  have q1 : (((s[s1.at_].toNat : Nat) : Int) == 120) = false := by rw [← hE]; simp; omega
  by_cases g2 : bt s s1.at_ = 110
  case pos =>
    have hV : Hid (letV s sp st = 10) := Lib.hid (HV0.out.trans (by unfold escV; rw [if_pos hl, if_pos g2]))
    have hS : Hid (letS s sp st = s1.next) := Lib.hid (HS0.out.trans (by unfold escS; rw [if_pos hl, if_pos g2]))
    have hR := Lib.hid ((letR_ok (s := s) (sp := sp) (st := st) (by rw [hS.out]; exact HB)).trans hV.out)
    have q2 : (((s[s1.at_].toNat : Nat) : Int) == 110) = true := by rw [← hE]; simp [g2]
    clear hE
    go_quiet (fail)
    go_wp2_with fail
    go_quiet (fail)
    go_wp2_with fail
    go_ret
    refine ⟨by rw [hR.out]; rfl, ?_, hk1.trans (((Kp.refl _ _).drewN _).trans (K1.set _))⟩
    rw [hS.out]; exact hnx _ hl
  case neg =>
  have q2 : (((s[s1.at_].toNat : Nat) : Int) == 110) = false := by rw [← hE]; simp; omega
  by_cases g3 : bt s s1.at_ = 116
  case pos =>
    have hV : Hid (letV s sp st = 9) := Lib.hid (HV0.out.trans (by unfold escV; rw [if_pos hl, if_neg g2, if_pos g3]))
    have hS : Hid (letS s sp st = s1.next) := Lib.hid (HS0.out.trans (by unfold escS; rw [if_pos hl, if_neg g2, if_pos g3]))
    have hR := Lib.hid ((letR_ok (s := s) (sp := sp) (st := st) (by rw [hS.out]; exact HB)).trans hV.out)
    have q3 : (((s[s1.at_].toNat : Nat) : Int) == 116) = true := by rw [← hE]; simp [g3]
    clear hE
    go_quiet (fail)
    go_wp2_with fail
    go_quiet (fail)
    go_wp2_with fail
    go_ret
    refine ⟨by rw [hR.out]; rfl, ?_, hk1.trans (((Kp.refl _ _).drewN _).trans (K1.set _))⟩
    rw [hS.out]; exact hnx _ hl
  case neg =>
  have q3 : (((s[s1.at_].toNat : Nat) : Int) == 116) = false := by rw [← hE]; simp; omega
  by_cases g4 : bt s s1.at_ = 115
  case pos =>
    have hV : Hid (letV s sp st = 32) := Lib.hid (HV0.out.trans (by unfold escV; rw [if_pos hl, if_neg g2, if_neg g3, if_pos g4]))
    have hS : Hid (letS s sp st = s1.next) := Lib.hid (HS0.out.trans (by unfold escS; rw [if_pos hl, if_neg g2, if_neg g3, if_pos g4]))
    have hR := Lib.hid ((letR_ok (s := s) (sp := sp) (st := st) (by rw [hS.out]; exact HB)).trans hV.out)
    have q4 : (((s[s1.at_].toNat : Nat) : Int) == 115) = true := by rw [← hE]; simp [g4]
    clear hE
    go_quiet (fail)
    go_wp2_with fail
    go_quiet (fail)
    go_wp2_with fail
    go_ret
    refine ⟨by rw [hR.out]; rfl, ?_, hk1.trans (((Kp.refl _ _).drewN _).trans (K1.set _))⟩
    rw [hS.out]; exact hnx _ hl
  case neg =>
  have q4 : (((s[s1.at_].toNat : Nat) : Int) == 115) = false := by rw [← hE]; simp; omega
  have hI := Lib.hid (inR_c sp (bt s s1.at_) (bt_lt _ _) hsp)
  rw [hE] at hI
  cases g5 : inS sp (bt s s1.at_) with
  | true =>
    have hV : Hid (letV s sp st = s[s1.at_].toNat) := Lib.hid (HV0.out.trans (by unfold escV; rw [if_pos hl, if_neg g2, if_neg g3, if_neg g4, if_neg g1, if_pos g5]; exact hE))
    have hS : Hid (letS s sp st = s1.next) := Lib.hid (HS0.out.trans (by unfold escS; rw [if_pos hl, if_neg g2, if_neg g3, if_neg g4, if_neg g1, if_pos g5]))
    have hR := Lib.hid ((letR_ok (s := s) (sp := sp) (st := st) (by rw [hS.out]; exact HB)).trans hV.out)
    have q5 : inS sp s[s1.at_].toNat = true := by rw [← hE]; exact g5
    clear hE g1 g2 g3 g4 g5
    go_quiet (fail)
    go_wp2_with fail
    go_quiet (fail)
    go_wp2_with fail
    refine (hI.out _).mono ?_
    rintro e w9 ⟨rfl, rfl⟩
    go_wp2_with fail
    go_ret
    refine ⟨by rw [hR.out]; rfl, ?_, hk1.trans (((Kp.refl _ _).drewN _).trans (K1.set _))⟩
    rw [hS.out]; exact hnx _ hl
  | false =>
    have hV : Hid (letV s sp st = 0) := Lib.hid (HV0.out.trans (by unfold escV; rw [if_pos hl, if_neg g2, if_neg g3, if_neg g4, if_neg g1, if_neg (by rw [g5]; decide)]))
    have hS : Hid (letS s sp st = s1.fail) := Lib.hid (HS0.out.trans (by unfold escS; rw [if_pos hl, if_neg g2, if_neg g3, if_neg g4, if_neg g1, if_neg (by rw [g5]; decide)]))
    have hR : Hid (letR s sp st = 0) := Lib.hid (letR_bad (by rw [hS.out]; rfl))
    have q5 : inS sp s[s1.at_].toNat = false := by rw [← hE]; exact g5
    clear hE g1 g2 g3 g4 g5
    go_quiet (fail)
    go_wp2_with fail
    go_quiet (fail)
    go_wp2_with fail
    refine (hI.out _).mono ?_
    rintro e w9 ⟨rfl, rfl⟩
    go_wp2_with fail
    go_ret
    refine ⟨by rw [hR.out]; rfl, ?_, hk1.trans (((Kp.refl _ _).drewN _).trans (K1.set _))⟩
    rw [hS.out]; exact hbad _

theorem letterR_c (p : Nat) (s sp : ByteArray) (st : PS) (w : World) (h : Tat w p s st) (hsp : sp.size ≤ 1000) (hbd : st.bad = false) :
    Calls Try.prog 38 #[ptr p, .string sp] w fun e w' => e = .returned (.int .i64 (letR s sp st)) ∧ Tat w' p s (letS s sp st) ∧ K1 p w w' := by
  by_cases hlt : st.at_ < s.size
  · by_cases h92 : bt s st.at_ = 92
    · exact letter_esc p s sp st w h hsp hbd hlt h92
    · by_cases g1 : bt s st.at_ ≤ 32
      · exact letter_low p s sp st w h hsp hbd hlt h92 g1
      · by_cases g2 : 127 ≤ bt s st.at_
        · exact letter_high p s sp st w h hsp hbd hlt h92 g1 g2
        · cases g3 : inS sp (bt s st.at_) with
          | true => exact letter_sp p s sp st w h hsp hbd hlt h92 g1 g2 g3
          | false => exact letter_plain p s sp st w h hsp hbd hlt h92 g1 g2 g3
  · exact letter_none p s sp st w h hsp hbd hlt

end Go.Proofs.Ytkhcnneflcbnpaa
