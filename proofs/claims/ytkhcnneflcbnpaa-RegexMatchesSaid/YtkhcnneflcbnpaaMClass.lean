/-
  The document's reader of expressions: classes: the walk. Conditions: the reader stands in memory, within its text.
-/
import Derived.Test.YtkhcnneflcbnpaaMBits
import Derived.Deep.CutBlock
import Derived.Deep.DeepCutAuto
namespace Go.Proofs.Ytkhcnneflcbnpaa
open Go.RowKit

/-- how the reader stands behind a class's letters and ranges, ahead of the bracket that shuts it -/
def ClsEnd (s : ByteArray) (r : PS × W4) (st : PS) (ws : W4) : Prop :=
  (st.bad = true ∧ r = (st, ws)) ∨ (st.bad = false ∧ st.at_ < s.size ∧ r = (st.next, ws))

/-- a class's letters and ranges, the first one without a look at the bracket -/
def clsGo (s : ByteArray) (n : Nat) (fst : Bool) (st : PS) (ws : W4) : PS × W4 := if fst then clsLoop s (n - 1) (spanS s st) (spanW s st ws) else clsLoop s n st ws
theorem isS_bad (s : ByteArray) (b : Nat) (st : PS) : (isS s b st).bad = st.bad := by unfold isS; split <;> rfl

theorem letR_lt (s sp : ByteArray) (st : PS) : letR s sp st < 256 := by
  have := letV_lt s sp st
  unfold letR; split <;> omega
theorem span_lo (s : ByteArray) (st : PS) (h : (spanS s st).bad = false) : (letS s specialIn st).bad = false := by
  cases hr : spanRange s st with
  | false => unfold spanS at h; simp only [hr] at h; simpa using h
  | true => have : (letS s specialIn st).bad = false ∧ isB s 45 (letS s specialIn st) = true := by simpa [spanRange] using hr
            exact this.1

/-- the reader, and the node that is made -/
def CAt (w : World) (p R : Nat) (s : ByteArray) (st : PS) (f : Nat → Bool) : Prop :=
  Tat w p s st ∧ ∃ C, w.heap[R]? = some (.cells C TN (0, 0)) ∧ SC C f

set_option maxRecDepth 100000 in
set_option maxHeartbeats 4000000 in
theorem classR_c (p : Nat) (s : ByteArray) (st : PS) (A : Nat → Prop) (w : World) (h : Tat w p s st) (hbd : st.bad = false) :
    Calls Try.prog 37 #[ptr p] w fun e w' => ∃ C, e = .returned (.agg C) ∧ NV w' A (.set (clsR s st).2.bit) C ∧ Tat w' p s (clsR s st).1 ∧ K1 p w w' := by
  have hz := zero_node.1
  have zs := zeroC_size
  have zne : ¬ zeroC = #[] := fun x => by have := zeroC_size; rw [x] at this; cases this
  have hst := run_storeCells_new (P := Try.prog) (w.alloc (.cells zeroC TN (0, 0))) TN zeroC zeroC (by rw [zeroC_size]; exact zero_node.2) rfl zeroC_one
  rw [size_alloc'] at hst
  go_enter Try.func37, Try.ntmps37
  go_wp2_with fail
  have hk0 : Kn w ((w.alloc (.cells zeroC TN (0, 0))).alloc (.cells zeroC TN (0, 0))) := ((Kp.refl (fun _ => False) w).alloc _).alloc _
  have hT0 := h.kn hk0
  have hB0 := blk_new (w.alloc (.cells zeroC TN (0, 0))) (.cells zeroC TN (0, 0))
  have hR0 := blk_alloc (blk_new w (.cells zeroC TN (0, 0))) (.cells zeroC TN (0, 0))
  rw [size_alloc'] at hB0
  refine (sees_c 94 p s st _ hT0).mono ?_
  rintro e w1 ⟨rfl, n1, rfl⟩
  have hk1 : Kn w (((w.alloc (.cells zeroC TN (0, 0))).alloc (.cells zeroC TN (0, 0))).drewN n1) := hk0.drewN n1
  have hT1 := h.kn hk1
  have hB1 : (((w.alloc (.cells zeroC TN (0, 0))).alloc (.cells zeroC TN (0, 0))).drewN n1).heap[w.heap.size + 1]? = some (.cells zeroC TN (0, 0)) := hB0
  have hR1 : (((w.alloc (.cells zeroC TN (0, 0))).alloc (.cells zeroC TN (0, 0))).drewN n1).heap[w.heap.size]? = some (.cells zeroC TN (0, 0)) := hR0
  revert hk1 hT1 hB1 hR1
  generalize World.drewN _ n1 = W
  intro hk1 hT1 hB1 hR1
  obtain ⟨c0, c1, c2, c3, c4, f1, f2, f3, f4⟩ := hT1.cells
  have hle := hT1.2.1
  have hsz := hT1.2.2
  have HT := Lib.hid hT1
  go_upto_if 14 with fail
  go_cut [4] (fun s4 wc => s4 = .bool (isB s 94 st) ∧ Tat wc p s (isS s 94 st) ∧ K1 p W wc)
  case first =>
    cases hn : isB s 94 st with
    | true =>
      have hlt := isB_lt hn
      have hS : Hid (isS s 94 st = st.next) := Lib.hid (by simp [isS, hn])
      have hT2 := HT.out.at (st.at_ + 1) (by omega)
      go_wp2_with fail
      go_meet
      case rel => exact ⟨by rw [hn], by rw [hS.out]; exact hT2, K1.set _⟩
    | false =>
      have hS : Hid (isS s 94 st = st) := Lib.hid (by simp [isS, hn])
      go_wp2_with fail
      go_meet
      case rel => exact ⟨by rw [hn], by rw [hS.out]; exact HT.out, Kp.refl _ _⟩
  case rest =>
    obtain ⟨rfl, hT2, hk2⟩ := hcut
    have hne : w.heap.size + 1 ≠ p := by have := h.lt; omega
    have hB2 := hk2.blk hB1 hne
    have hne2 : w.heap.size ≠ p := by have := h.lt; omega
    have hR2 := hk2.blk hR1 hne2
    have hG0 : Hid (clsGo s (s.size + 3) true (isS s 94 st) W4.zero = clsLoop s (s.size + 2) (spanS s (isS s 94 st)) (spanW s (isS s 94 st) W4.zero)) := Lib.hid rfl
    have hb9 : (isS s 94 st).bad = false := by rw [isS_bad]; exact hbd
    have hsz9 : s.size - (isS s 94 st).at_ < s.size + 3 := by omega
    have hK9 : K1 p w wc := (hk1.weak).trans hk2
    have hC1 : Hid ((clsR s st).1 = (clsLoop s (s.size + 2) (spanS s (isS s 94 st)) (spanW s (isS s 94 st) W4.zero)).1) := Lib.hid rfl
    have hC2 : Hid ((clsR s st).2 = if isB s 94 st then (clsLoop s (s.size + 2) (spanS s (isS s 94 st)) (spanW s (isS s 94 st) W4.zero)).2.not else (clsLoop s (s.size + 2) (spanS s (isS s 94 st)) (spanW s (isS s 94 st) W4.zero)).2) := Lib.hid rfl
    generalize clsLoop s (s.size + 2) (spanS s (isS s 94 st)) (spanW s (isS s 94 st) W4.zero) = r0 at hG0 hC1 hC2
    generalize isS s 94 st = st0 at hG0 hT2 hb9 hsz9
    clear HT hT1 hT0 c0 c1 c2 c3 c4 f1 f2 f3 f4 hB0 hB1 hR0 hR1 hk0 hk1 hk2 hst zne zs hz
    go_upto_block 0 with fail
    go_cut [5, 6, 7, 8, 9] (fun s5 s6 s7 s8 s9 wr => ∃ (st' : PS) (ws' : W4) (f : Nat → Bool) (C : Array Value), Hid (ClsEnd s r0 st' ws') ∧ ws'.ok ∧ (∀ b, b < 256 → f b = ws'.bit b) ∧
      Tat wr p s st' ∧ wr.heap[w.heap.size + 1]? = some (.cells C TN (0, 0)) ∧ SC C f ∧ wr.heap[w.heap.size]? = some (.cells zeroC TN (0, 0)) ∧ K1 p w wr)
    case first =>
      go_wp2_with fail
      go_loopg [5, 6, 7, 8, 9] (s.size + 3) (fun n s5 s6 s7 s8 s9 wr => ∃ (fst : Bool) (st' : PS) (ws' : W4) (f : Nat → Bool) (C : Array Value), s5 = .bool fst ∧ Hid (clsGo s n fst st' ws' = r0) ∧ (st'.bad = true → fst = false) ∧ (st'.bad = true ∨ s.size - st'.at_ < n) ∧ ws'.ok ∧ (∀ b, b < 256 → f b = ws'.bit b) ∧
        Tat wr p s st' ∧ wr.heap[w.heap.size + 1]? = some (.cells C TN (0, 0)) ∧ SC C f ∧ wr.heap[w.heap.size]? = some (.cells zeroC TN (0, 0)) ∧ K1 p w wr)
      case atStart => exact ⟨true, st0, W4.zero, _, _, rfl, hG0, (fun x => by rw [hb9] at x; cases x), .inr hsz9, zero_ok, (fun b hb => by simp [W4.bit, W4.zero, W4.get]), hT2, hB2, SC.zero, hR2, hK9⟩
      case round =>
        obtain ⟨fst, st', ws', f, C, rfl, hG, hbf, hn, hok, hf, hT3, hB3, hSC, hR3, hK3⟩ := hrel
        obtain ⟨wo, rfl⟩ : ∃ x : World, x = wr := ⟨_, rfl⟩
        clear hT2 hB2 hR2 hK9 hG0 hb9 hsz9
        have HF := Lib.hid hf
        clear hf
        go_upto_region 6 with fail
        go_cut [34] (fun s34 wc => ∃ t : Bool, s34 = .bool t ∧ Tat wc p s st' ∧ K1 p wo wc ∧ Hid (if t then (st'.bad = false ∧ ∃ m, gk = m + 1 ∧ clsLoop s m (spanS s st') (spanW s st' ws') = r0) else ClsEnd s r0 st' ws'))
        case first =>
          cases hbad : st'.bad with
          | true =>
            have hfst := hbf hbad
            subst hfst
            have hE : Hid (ClsEnd s r0 st' ws') := Lib.hid (.inl ⟨hbad, by rw [← hG.out]; unfold clsGo; rw [if_neg (by decide)]; cases gk with
              | zero => rfl
              | succ n => rw [clsLoop, if_pos hbad]⟩)
            obtain ⟨c0, c1, c2, c3, c4, f1, f2, f3, f4⟩ := hT3.cells
            rw [hbad] at c3
            clear hbad hbf hn
            go_wp2_with fail
            go_meet
            case rel => exact ⟨false, rfl, hT3, Kp.refl _ _, hE⟩
          | false =>
            obtain ⟨m, rfl⟩ : ∃ m, gk = m + 1 := ⟨gk - 1, by rcases hn with x | x; rw [hbad] at x; cases x; omega⟩
            obtain ⟨c0, c1, c2, c3, c4, f1, f2, f3, f4⟩ := hT3.cells
            rw [hbad] at c3
            have HB := Lib.hid hbad
            clear hbad hn hbf
            cases fst with
            | true =>
              have hE : Hid (clsLoop s m (spanS s st') (spanW s st' ws') = r0) := Lib.hid hG.out
              go_wp2_with fail
              go_meet
              case rel => exact ⟨true, rfl, hT3, Kp.refl _ _, Lib.hid ⟨HB.out, m, rfl, hE.out⟩⟩
            | false =>
              go_wp2_with fail
              refine (sees_c 93 p s st' wo hT3).mono ?_
              rintro e w2 ⟨rfl, n2, rfl⟩
              have hT4 := hT3.drewN n2
              have hk4 : K1 p wo (wo.drewN n2) := (Kp.refl _ _).drewN n2
              have hE : Hid (isB s 93 st' = true → r0 = (st'.next, ws')) := Lib.hid (fun x => by
                rw [← hG.out]; unfold clsGo; rw [if_neg (by decide), clsLoop, if_neg (by rw [HB.out]; decide), if_pos x]; simp [isS, x])
              have hE2 : Hid (isB s 93 st' = false → clsLoop s m (spanS s st') (spanW s st' ws') = r0) := Lib.hid (fun x => by
                rw [← hG.out]; unfold clsGo; rw [if_neg (by decide), clsLoop, if_neg (by rw [HB.out]; decide), if_neg (by rw [x]; decide)])
              cases hq : isB s 93 st' with
              | true =>
                have hE3 : Hid (ClsEnd s r0 st' ws') := Lib.hid (.inr ⟨HB.out, isB_lt hq, hE.out hq⟩)
                clear hq
                go_wp2_with fail
                go_meet
                case rel => exact ⟨false, rfl, hT4, hk4, hE3⟩
              | false =>
                have hE3 := Lib.hid (hE2.out hq)
                clear hq
                go_wp2_with fail
                go_meet
                case rel => exact ⟨true, rfl, hT4, hk4, Lib.hid ⟨HB.out, m, rfl, hE3.out⟩⟩
        case rest =>
          obtain ⟨t, rfl, hT4, hk4, hX⟩ := hcut
          have hB4 := hk4.blk hB3 hne
          have hR4 := hk4.blk hR3 hne2
          have hK4 := hK3.trans hk4
          have HN := Lib.hid hn
          clear hB3 hR3 hK3 hT3 hG hbf hn hk4
          obtain ⟨wo, rfl⟩ : ∃ x : World, x = wc := ⟨_, rfl⟩
          cases t with
          | false =>
            go_wp2_with fail
            go_meet
            case rel => exact ⟨st', ws', f, C, hX, hok, HF.out, hT4, hB4, hSC, hR4, hK4⟩
          | true =>
            obtain ⟨hbad, m, hgk, hE⟩ := hX.out
            subst hgk
            have HB := Lib.hid hbad
            have HE := Lib.hid hE
            have hlo := letR_lt s specialIn st'
            have HL : Hid ((letS s specialIn st').bad = false → letR s specialIn st' = letV s specialIn st') := Lib.hid (fun x => letR_ok x)
            have hltr := letterR_c p s specialIn st' wo hT4 (by decide) hbad
            clear hX hE hbad
            generalize letR s specialIn st' = lo at hlo HL hltr
            have HLT := Lib.hid hltr
            clear hltr
            go_upto_block 1 with fail
            go_cut [6, 7, 8, 9] (fun _ _ _ _ wc => ∃ (f' : Nat → Bool) (C' : Array Value), Hid (∀ b, b < 256 → f' b = (spanW s st' ws').bit b) ∧ Tat wc p s (spanS s st') ∧ wc.heap[w.heap.size + 1]? = some (.cells C' TN (0, 0)) ∧ SC C' f' ∧ wc.heap[w.heap.size]? = some (.cells zeroC TN (0, 0)) ∧ K1 p w wc)
            case first =>
              go_wp2_with fail
              refine HLT.out.mono ?_
              rintro e w5 ⟨rfl, hT5, hk5⟩
              have hB5 := hk5.blk hB4 hne
              have hR5 := hk5.blk hR4 hne2
              have hK5 := hK4.trans hk5
              clear hB4 hR4 hK4 hT4 hk5
              go_upto_region 10 with fail
              go_cut [46] (fun s46 wc => s46 = .bool (spanRange s st') ∧ Tat wc p s (letS s specialIn st') ∧ K1 p w5 wc)
              case first =>
                obtain ⟨c0, c1, c2, c3, c4, f1, f2, f3, f4⟩ := hT5.cells
                cases hb1 : (letS s specialIn st').bad with
                | true =>
                  rw [hb1] at c3
                  have hS : Hid (spanRange s st' = false) := Lib.hid (by simp [spanRange, hb1])
                  clear hb1
                  go_wp2_with fail
                  go_meet
                  case rel => exact ⟨by rw [hS.out], hT5, Kp.refl _ _⟩
                | false =>
                  rw [hb1] at c3
                  have hS : Hid (spanRange s st' = isB s 45 (letS s specialIn st')) := Lib.hid (by simp [spanRange, hb1])
                  clear hb1
                  go_wp2_with fail
                  refine (sees_c 45 p s _ w5 hT5).mono ?_
                  rintro e w6 ⟨rfl, n6, rfl⟩
                  have hT6 := hT5.drewN n6
                  go_wp2_with fail
                  go_meet
                  case rel => exact ⟨by rw [hS.out], hT6, (Kp.refl _ _).drewN n6⟩
              case rest =>
                obtain ⟨rfl, hT6, hk6⟩ := hcut
                have hB6 := hk6.blk hB5 hne
                have hR6 := hk6.blk hR5 hne2
                have hK6 := hK5.trans hk6
                clear hB5 hR5 hK5 hT5 hk6
                obtain ⟨w6, rfl⟩ : ∃ x : World, x = wc := ⟨_, rfl⟩
                go_upto_if 46 with fail
                go_cut [7, 46] (fun s7 _ wc => ∃ hi : Nat, s7 = .int .i64 hi ∧ hi < 256 ∧ Hid ((spanS s st').bad = false → hi = spanHi s st') ∧ Tat wc p s (spanS s st') ∧ K1 p w6 wc)
                case first =>
                  cases hrg : spanRange s st' with
                  | false =>
                    have hS : Hid (spanS s st' = letS s specialIn st') := Lib.hid (by simp [spanS, hrg])
                    have hH : Hid ((spanS s st').bad = false → lo = spanHi s st') := Lib.hid (fun x => by rw [HL.out (span_lo s st' x)]; simp [spanHi, hrg])
                    clear hrg
                    go_wp2_with fail
                    go_meet
                    case rel => exact ⟨lo, rfl, hlo, hH, by rw [hS.out]; exact hT6, Kp.refl _ _⟩
                  | true =>
                    have hrb : (letS s specialIn st').bad = false ∧ isB s 45 (letS s specialIn st') = true := by simpa [spanRange] using hrg
                    have hIS : Hid (isS s 45 (letS s specialIn st') = (letS s specialIn st').next) := Lib.hid (by simp [isS, hrb.2])
                    have hS : Hid (spanS s st' = if !(letS s specialIn (letS s specialIn st').next).bad && decide (spanHi s st' < letV s specialIn st') then (letS s specialIn (letS s specialIn st').next).back ((letS s specialIn st').at_ + 1) else letS s specialIn (letS s specialIn st').next) := Lib.hid (by simp only [spanS, hrg, if_true, hIS.out])
                    have hH : Hid (spanHi s st' = letV s specialIn (letS s specialIn st').next) := Lib.hid (by simp [spanHi, hrg, hIS.out])
                    have hlo2 := Lib.hid (HL.out hrb.1)
                    have hlt := isB_lt hrb.2
                    have hTn := hT6.at ((letS s specialIn st').at_ + 1) (by omega)
                    obtain ⟨c0, c1, c2, c3, c4, f1, f2, f3, f4⟩ := hT6.cells
                    have hhi := letR_lt s specialIn (letS s specialIn st').next
                    have hH2 : Hid ((letS s specialIn (letS s specialIn st').next).bad = false → letR s specialIn (letS s specialIn st').next = letV s specialIn (letS s specialIn st').next) := Lib.hid (fun x => letR_ok x)
                    have hBf := hrb.1
                    generalize hst1 : letS s specialIn st' = st1 at *
                    clear hst1
                    have hlt8 := Lib.hid (letterR_c p s specialIn st1.next _ hTn (by decide) hBf)
                    generalize letR s specialIn st1.next = hi at *
                    clear hrg hrb hBf hTn
                    go_wp2_with fail
                    refine hlt8.out.mono ?_
                    rintro e w8 ⟨rfl, hT8, hk8⟩
                    have hK8 : K1 p w6 w8 := (K1.set' _).trans hk8
                    clear c0 c1 c2 c3 c4 f1 f2 f3 f4
                    obtain ⟨c0, c1, c2, c3, c4, f1, f2, f3, f4⟩ := hT8.cells
                    cases hb3 : (letS s specialIn st1.next).bad with
                    | true =>
                      rw [hb3] at c3
                      have hS3 : Hid (spanS s st' = letS s specialIn st1.next) := Lib.hid (by rw [hS.out, hb3]; rfl)
                      have hH3 : Hid ((spanS s st').bad = false → hi = spanHi s st') := Lib.hid (fun x => by rw [hS3.out, hb3] at x; cases x)
                      clear hb3
                      go_wp2_with fail
                      go_meet
                      case rel => exact ⟨hi, rfl, hhi, hH3, by rw [hS3.out]; exact hT8, hK8⟩
                    | false =>
                      rw [hb3] at c3
                      have hhi2 := Lib.hid (hH2.out hb3)
                      by_cases hlt2 : hi < lo
                      · have hS3 : Hid (spanS s st' = (letS s specialIn st1.next).back (st1.at_ + 1)) := Lib.hid (by
                          rw [hS.out, hb3, hH.out, ← hhi2.out, ← hlo2.out, decide_eq_true hlt2]; rfl)
                        have hH3 : Hid ((spanS s st').bad = false → hi = spanHi s st') := Lib.hid (fun x => by rw [hS3.out] at x; cases x)
                        have hlt3 : (hi : Int) < lo := by omega
                        have hT9 := (hT8.setBad).at (st1.at_ + 1) (by omega)
                        clear hb3
                        go_wp2_with fail
                        go_meet
                        case rel => exact ⟨hi, rfl, hhi, hH3, by rw [hS3.out]; exact hT9, (hK8.trans (K1.set' _)).trans (K1.set' _)⟩
                      · have hS3 : Hid (spanS s st' = letS s specialIn st1.next) := Lib.hid (by
                          rw [hS.out, hb3, hH.out, ← hhi2.out, ← hlo2.out, decide_eq_false hlt2]; rfl)
                        have hH3 : Hid ((spanS s st').bad = false → hi = spanHi s st') := Lib.hid (fun _ => by rw [hhi2.out, hH.out])
                        have hlt3 : ¬ (hi : Int) < lo := by omega
                        clear hb3
                        go_wp2_with fail
                        go_meet
                        case rel => exact ⟨hi, rfl, hhi, hH3, by rw [hS3.out]; exact hT8, hK8⟩
                case rest =>
                  obtain ⟨hi, rfl, hhi, HH, hT7, hk7⟩ := hcut
                  have hB7 := hk7.blk hB6 hne
                  have hR7 := hk7.blk hR6 hne2
                  have hK7 := hK6.trans hk7
                  clear hB6 hR6 hK6 hT6 hk7
                  obtain ⟨w7, rfl⟩ : ∃ x : World, x = wc := ⟨_, rfl⟩
                  cases hq : (spanS s st').bad with
                  | true =>
                    obtain ⟨c0, c1, c2, c3, c4, f1, f2, f3, f4⟩ := hT7.cells
                    rw [hq] at c3
                    have hW : Hid (spanW s st' ws' = ws') := Lib.hid (by unfold spanW; rw [if_pos hq])
                    clear hq
                    go_wp2_with fail
                    go_loopw [9] (fun b wr => b = .int .i64 lo ∧ w7 = wr) (fun _ _ => 0)
                    case atStart => exact ⟨rfl, rfl⟩
                    case round =>
                      obtain ⟨rfl, rfl⟩ := hrel
                      by_cases hle : (lo : Int) ≤ hi
                      all_goals
                        go_wp2_with fail
                        go_meet
                        case rel => exact ⟨f, C, by rw [hW.out]; exact HF, hT7, hB7, hSC, hR7, hK7⟩
                  | false =>
                    have hW : Hid (∀ c, c < 256 → (spanW s st' ws').bit c = (decide (lo ≤ c ∧ c ≤ hi) || ws'.bit c)) := Lib.hid (fun c hc => by
                      rw [HL.out (span_lo s st' hq), HH.out hq]
                      unfold spanW; rw [if_neg (by rw [hq]; decide)]
                      exact W4.addTo_bit hok _ _ _ (spanHi_lt _ _) hc)
                    have HQ := Lib.hid hq
                    clear hq
                    go_wp2_with fail
                    go_loopw [9] (fun b wr => ∃ (j : Nat) (f' : Nat → Bool) (C' : Array Value), Hid (j = 0 ∨ lo + j ≤ hi + 1) ∧ b = .int .i64 ((lo + j : Nat) : Int) ∧ Hid (∀ x, x < 256 → f' x = (decide (lo ≤ x ∧ x < lo + j) || ws'.bit x)) ∧ Tat wr p s (spanS s st') ∧ wr.heap[w.heap.size + 1]? = some (.cells C' TN (0, 0)) ∧ SC C' f' ∧ wr.heap[w.heap.size]? = some (.cells zeroC TN (0, 0)) ∧ K1 p w wr) (fun b _ => 256 - (intOf b).toNat)
                    case atStart => exact ⟨0, f, C, Lib.hid (.inl rfl), rfl, Lib.hid (fun x hx => by rw [decide_eq_false (by omega), HF.out x hx]; rfl), hT7, hB7, hSC, hR7, hK7⟩
                    case round =>
                      clear hT7 hB7 hR7 hK7
                      obtain ⟨j, f', C', hj, rfl, hf', hT7, hB7, hSC7, hR7, hK7⟩ := hrel
                      obtain ⟨c0, c1, c2, c3, c4, f1, f2, f3, f4⟩ := hT7.cells
                      rw [HQ.out] at c3
                      obtain ⟨jj, hjj⟩ : ∃ jj, jj = lo + j := ⟨_, rfl⟩
                      rw [← hjj] at hf' ⊢
                      by_cases hle : jj ≤ hi
                      · have hle' : (jj : Int) ≤ hi := by omega
                        have h256 : (jj : Int) < 256 := by omega
                        have h0 : (0 : Int) ≤ jj := by omega
                        have hfz := frozen_blk hB7 (1 + jj)
                        have hbt : wr.cell? ⟨w.heap.size + 1, 1 + jj, none⟩ = some (.bool (f' jj)) := by rw [cell_blk hB7, Nat.add_comm]; exact hSC7.byte jj (by omega)
                        have hB9 : (wr.setCell ⟨w.heap.size + 1, 1 + jj, none⟩ (.bool true)).heap[w.heap.size + 1]? = some (.cells (C'.setIfInBounds (jj + 1) (.bool true)) TN (0, 0)) := by
                          rw [Nat.add_comm jj 1]; exact blk_set hB7 _ _
                        have hHJ := Lib.hid hjj
                        have hf9 : Hid (∀ x, x < 256 → (if x = jj then true else f' x) = (decide (lo ≤ x ∧ x < lo + (j + 1)) || ws'.bit x)) := Lib.hid (fun x hx => by
                          have := hHJ.out
                          by_cases e : x = jj
                          · rw [if_pos e, decide_eq_true (by omega)]; rfl
                          · rw [if_neg e, hf'.out x hx]; congr 1; rw [decide_eq_decide]; omega)
                        have hj9 : Hid (j + 1 = 0 ∨ lo + (j + 1) ≤ hi + 1) := Lib.hid (.inr (by omega))
                        have hT9 : Tat (wr.setCell ⟨w.heap.size + 1, 1 + jj, none⟩ (.bool true)) p s (spanS s st') := ⟨blk_set_ne hT7.1 (fun x => hne x.symm) _ _, hT7.2⟩
                        have hR9 := blk_set_ne hR7 (show w.heap.size ≠ w.heap.size + 1 by omega) (1 + jj) (.bool true)
                        have hK9 : K1 p w (wr.setCell ⟨w.heap.size + 1, 1 + jj, none⟩ (.bool true)) := hK7.setCell (p := ⟨w.heap.size + 1, 1 + jj, none⟩) (fun x => by simp at x; omega) _
                        have hS9 := hSC7.put jj (by omega) true
                        clear hjj
                        go_wp2_with fail
                        go_roundw
                        case rel => exact ⟨j + 1, _, _, hj9, by rw [hHJ.out]; go_num, hf9, hT9, hB9, hS9, hR9, hK9⟩
                        case measure => simp [intOf]; omega
                      · have hle' : ¬ (jj : Int) ≤ hi := by omega
                        have hfin : Hid (∀ b, b < 256 → f' b = (spanW s st' ws').bit b) := Lib.hid (fun b hb => by
                          rw [hf'.out b hb, hW.out b hb]
                          congr 1
                          have := hj.out
                          rw [decide_eq_decide]; omega)
                        have HJ := Lib.hid hjj
                        clear hjj
                        go_wp2_with fail
                        go_meet
                        case rel => exact ⟨f', C', hfin, hT7, hB7, hSC7, hR7, hK7⟩
            case rest =>
              obtain ⟨f', C', HF', hT8, hB8, hSC8, hR8, hK8⟩ := hcut
              have hokn := spanW_ok s st' hok
              have hnx : (spanS s st').bad = true ∨ s.size - (spanS s st').at_ < m := by
                cases hq : (spanS s st').bad with
                | true => exact .inl rfl
                | false =>
                  have := spanS_next s st' hq
                  have hn' : s.size - st'.at_ < m + 1 := by
                    rcases HN.out with x | x
                    · rw [HB.out] at x; cases x
                    · exact x
                  have := hT8.2.1
                  exact .inr (by omega)
              go_wp2_with fail
              go_roundg m
              case rel => exact ⟨false, spanS s st', spanW s st' ws', f', C', rfl, HE, fun _ => rfl, hnx, hokn, HF'.out, hT8, hB8, hSC8, hR8, hK8⟩
              all_goals omega
    case rest =>
      obtain ⟨st', ws', f, C, hE, hok, hf, hT3, hB3, hSC, hR3, hK3⟩ := hcut
      have HF := Lib.hid hf
      clear hf hT2 hB2 hR2 hK9 hG0 hb9 hsz9
      obtain ⟨wo, rfl⟩ : ∃ x : World, x = wc := ⟨_, rfl⟩
      obtain ⟨c0, c1, c2, c3, c4, f1, f2, f3, f4⟩ := hT3.cells
      go_upto_if 97 with fail
      go_cut [97] (fun _ wc => Tat wc p s (clsR s st).1 ∧ K1 p wo wc)
      case first =>
        have hE1 := hE.out
        cases hb : st'.bad with
        | true =>
          have hC3 : Hid ((clsR s st).1 = st') := Lib.hid (by
            rw [hC1.out]
            rcases hE1 with ⟨_, x⟩ | ⟨x, _⟩
            · rw [x]
            · rw [hb] at x; cases x)
          clear hb hE1
          go_wp2_with fail
          go_meet
          case rel => exact ⟨by rw [hC3.out]; exact hT3, Kp.refl _ _⟩
        | false =>
          have hC3 : Hid ((clsR s st).1 = st'.next ∧ st'.at_ < s.size) := Lib.hid (by
            rw [hC1.out]
            rcases hE1 with ⟨x, _⟩ | ⟨_, y, x⟩
            · rw [hb] at x; cases x
            · rw [x]; exact ⟨rfl, y⟩)
          have hlt9 := hC3.out.2
          have hT9 := hT3.at (st'.at_ + 1) (by omega)
          clear hb hE1
          go_wp2_with fail
          go_meet
          case rel => exact ⟨by rw [hC3.out.1]; exact hT9, K1.set' _⟩
      case rest =>
        obtain ⟨hT4, hk4⟩ := hcut
        have hB4 := hk4.blk hB3 hne
        have hR4 := hk4.blk hR3 hne2
        have hK4 := hK3.trans hk4
        have hbit : Hid (∀ b, b < 256 → (clsR s st).2.bit b = if isB s 94 st then !ws'.bit b else ws'.bit b) := Lib.hid (fun b hb => by
          have e : r0.2 = ws' := by rcases hE.out with ⟨_, x⟩ | ⟨_, _, x⟩ <;> rw [x]
          rw [hC2.out, e]
          cases isB s 94 st with
          | true => exact W4.not_bit hok b
          | false => rfl)
        clear hB3 hR3 hK3 hT3 hk4 hE c0 c1 c2 c3 c4 f1 f2 f3 f4
        obtain ⟨wo, rfl⟩ : ∃ x : World, x = wc := ⟨_, rfl⟩
        go_upto_block 4 with fail
        go_cut [4, 10] (fun _ _ wc => ∃ (f' : Nat → Bool) (C' : Array Value), Hid (∀ b, b < 256 → f' b = (clsR s st).2.bit b) ∧ Tat wc p s (clsR s st).1 ∧ wc.heap[w.heap.size + 1]? = some (.cells C' TN (0, 0)) ∧ SC C' f' ∧ wc.heap[w.heap.size]? = some (.cells zeroC TN (0, 0)) ∧ K1 p w wc)
        case first =>
          cases hnot : isB s 94 st with
          | false =>
            have hF9 : Hid (∀ b, b < 256 → f b = (clsR s st).2.bit b) := Lib.hid (fun b hb => by rw [hbit.out b hb, hnot, HF.out b hb]; rfl)
            clear hnot
            go_wp2_with fail
            go_loopw [10] (fun b wr => b = .int .i64 0 ∧ wo = wr) (fun _ _ => 0)
            case atStart => exact ⟨rfl, rfl⟩
            case round =>
              obtain ⟨rfl, rfl⟩ := hrel
              go_wp2_with fail
              go_meet
              case rel => exact ⟨f, C, hF9, hT4, hB4, hSC, hR4, hK4⟩
          | true =>
            have hF9 : Hid (∀ b, b < 256 → (!f b) = (clsR s st).2.bit b) := Lib.hid (fun b hb => by rw [hbit.out b hb, hnot, HF.out b hb]; rfl)
            clear hnot
            go_wp2_with fail
            go_loopw [10] (fun b wr => ∃ (k : Nat) (f' : Nat → Bool) (C' : Array Value), k ≤ 256 ∧ b = .int .i64 (k : Int) ∧ Hid (∀ x, f' x = if x < k then !f x else f x) ∧ Tat wr p s (clsR s st).1 ∧ wr.heap[w.heap.size + 1]? = some (.cells C' TN (0, 0)) ∧ SC C' f' ∧ wr.heap[w.heap.size]? = some (.cells zeroC TN (0, 0)) ∧ K1 p w wr) (fun b _ => 256 - (intOf b).toNat)
            case atStart => exact ⟨0, f, C, by omega, rfl, Lib.hid (fun x => by simp), hT4, hB4, hSC, hR4, hK4⟩
            case round =>
              clear hT4 hB4 hR4 hK4
              obtain ⟨k, f', C', hk, rfl, hf', hT7, hB7, hSC7, hR7, hK7⟩ := hrel
              by_cases hle : k < 256
              · have hle' : (k : Int) < 256 := by omega
                have h0 : (0 : Int) ≤ k := by omega
                have hfz := frozen_blk hB7 (1 + k)
                have hbt : wr.cell? ⟨w.heap.size + 1, 1 + k, none⟩ = some (.bool (f' k)) := by rw [cell_blk hB7, Nat.add_comm]; exact hSC7.byte k hle
                have hB9 : (wr.setCell ⟨w.heap.size + 1, 1 + k, none⟩ (.bool (!f' k))).heap[w.heap.size + 1]? = some (.cells (C'.setIfInBounds (k + 1) (.bool (!f' k))) TN (0, 0)) := by
                  rw [Nat.add_comm k 1]; exact blk_set hB7 _ _
                have hf9 : Hid (∀ x, (if x = k then !f' k else f' x) = if x < k + 1 then !f x else f x) := Lib.hid (fun x => by
                  by_cases e : x = k
                  · subst e; rw [if_pos rfl, if_pos (by omega), hf'.out x, if_neg (by omega)]
                  · rw [if_neg e, hf'.out x]
                    by_cases e2 : x < k
                    · rw [if_pos e2, if_pos (by omega)]
                    · rw [if_neg e2, if_neg (by omega)])
                have hT9 : Tat (wr.setCell ⟨w.heap.size + 1, 1 + k, none⟩ (.bool (!f' k))) p s (clsR s st).1 := ⟨blk_set_ne hT7.1 (fun x => hne x.symm) _ _, hT7.2⟩
                have hR9 := blk_set_ne hR7 (show w.heap.size ≠ w.heap.size + 1 by omega) (1 + k) (.bool (!f' k))
                have hK9 : K1 p w (wr.setCell ⟨w.heap.size + 1, 1 + k, none⟩ (.bool (!f' k))) := hK7.setCell (p := ⟨w.heap.size + 1, 1 + k, none⟩) (fun x => by simp at x; omega) _
                have hS9 := hSC7.put k (by omega) (!f' k)
                go_wp2_with fail
                go_roundw
                case rel => exact ⟨k + 1, _, _, by omega, by go_num, hf9, hT9, hB9, hS9, hR9, hK9⟩
                case measure => simp [intOf]; omega
              · have hle' : ¬ (k : Int) < 256 := by omega
                have hfin : Hid (∀ b, b < 256 → f' b = (clsR s st).2.bit b) := Lib.hid (fun b hb => by
                  rw [hf'.out b, if_pos (by omega)]; exact hF9.out b hb)
                go_wp2_with fail
                go_meet
                case rel => exact ⟨f', C', hfin, hT7, hB7, hSC7, hR7, hK7⟩
        case rest =>
          obtain ⟨f', C', hF', hT5, hB5, hS5, hR5, hK5⟩ := hcut
          clear hB4 hR4 hK4 hT4 hSC HF hbit
          have hN : NV wc A (.set (clsR s st).2.bit) C' := ⟨hS5.nc, fun b hb => by rw [← hF'.out b hb]; exact hS5.byte b hb⟩
          have hone := hS5.nc.one
          have hcs := hN.size
          have hiC : (Try.prog.info? TN).map (·.size) = some C'.size := by rw [hcs]; exact zero_node.2
          have hzC : zeroC.size = C'.size := by rw [hcs]; exact zeroC_size
          have hK6 : K1 p w (wc.setRow w.heap.size C') := hK5.trans' (T := fun k => k = w.heap.size) ⟨rfl, rfl, rfl, by simp, fun k _ hk => setRow_other _ _ _ _ hk⟩ (fun i hi x => by omega)
          have hT6 : Tat (wc.setRow w.heap.size C') p s (clsR s st).1 := ⟨by rw [setRow_other _ _ _ _ (fun x => hne2 x.symm)]; exact hT5.1, hT5.2⟩
          have hN6 : NV (wc.setRow w.heap.size C') A (.set (clsR s st).2.bit) C' := hN
          have hR6 := setRow_heap _ _ zeroC C' TN (0, 0) hR5
          go_wp2_with (first | (refine wpList_load_row rfl TN (.tmp 3) rfl (w.heap.size + 1) rfl TN C' (0, 0) _ hB5 Try.underlying30 rfl hiC ?_) | (refine wpList_store_row rfl TN (.tmp 2) (.tmp 120) rfl w.heap.size C' rfl rfl TN zeroC hR5 hiC hzC hone ?_))
          exact bodyPost_ret (results_cell_row rfl _ _ w.heap.size TN C' (0, 0) _ rfl hR6 Try.underlying30 rfl hiC) rfl ⟨C', rfl, hN6, hT6, hK6⟩

end Go.Proofs.Ytkhcnneflcbnpaa
