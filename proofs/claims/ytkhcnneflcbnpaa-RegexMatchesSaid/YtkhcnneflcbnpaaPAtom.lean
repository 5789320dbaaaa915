/-
  The reader of expressions: atoms and factors: the walks. Conditions: the reader stands in memory, within its text.
-/
import Derived.Test.YtkhcnneflcbnpaaPTree
import Derived.Test.YtkhcnneflcbnpaaKApp
namespace Go.Proofs.Ytkhcnneflcbnpaa
open Go.RowKit

/-- a row of nodes that is being gathered -/
theorem nodes_row {w w' : World} {v : Value} {S : Nat → Prop} (h : Kp S w w') (hs : ∀ k, S k → Roomy w 23 (.pointer none) k) : Kn61 w w' :=
  Kn61.of h (fun k o hk ht e => by
    obtain ⟨cs, hc⟩ := hs k e
    rw [hc] at hk
    injection hk with hk
    cases ht with
    | node => injection hk with _ hk _; cases hk
    | pair i j =>
      injection hk with hk _ _
      have := congrArg (fun a : Array Value => a.toList.getLast?) hk
      simp at this
    | lone i =>
      injection hk with hk _ _
      have := congrArg (fun a : Array Value => a.toList.getLast?) hk
      simp at this)

theorem Pat.atom {w : World} {p : Nat} {s : ByteArray} {st : PS} (h : Pat w p s st) (h1 : st.at_ + 1 ≤ s.size) : Pat (w.setCell ⟨p, 1, none⟩ (.int .i64 ((st.at_ : Int) + 1))) p s st.next := h.at (st.at_ + 1) h1

/-- the contract of 'or' up to n bytes ahead -/
def OrC (n : Nat) : Prop := ∀ (p : Nat) (s : ByteArray) (st : PS) (w : World), Pat w p s st → st.bad = false → 0 ≤ st.deep → st.deep ≤ 50 → s.size - st.at_ < n →
  Calls Try.prog 22 #[ptr p] w fun e w' => ∃ q : Nat, e = .returned (ptr q) ∧ NodeAt w' (orN s n st).1 q ∧ Pat w' p s (orN s n st).2 ∧ K1 p w w'

theorem isB_lt {s : ByteArray} {b : Nat} {st : PS} (h : isB s b st = true) : st.at_ < s.size := by simp [isB] at h; exact h.1

set_option maxRecDepth 100000 in
set_option maxHeartbeats 4000000 in
theorem atom_paren (n : Nat) (ih : OrC n) (p : Nat) (s : ByteArray) (st : PS) (w : World) (h : Pat w p s st) (hb : st.bad = false) (h0 : 0 ≤ st.deep) (h50 : st.deep ≤ 50) (hr : s.size - st.at_ ≤ n) (hB : isB s 40 st = true) :
    Calls Try.prog 43 #[ptr p] w fun e w' => ∃ q : Nat, e = .returned (ptr q) ∧ NodeAt w' (atN s n st).1 q ∧ Pat w' p s (atN s n st).2 ∧ K1 p w w' := by
  have hlt := isB_lt hB
  have hsz := h.2.2
  have hN : Hid (isS s 40 st = st.next) := Lib.hid (isB_next hB)
  have hBB := Lib.hid hB
  clear hB
  by_cases hd : 50 < st.deep + 1
  · have hA : Hid (atN s n st = (.empty, st.next.deeper.stop)) := Lib.hid (by
      unfold atN atomF
      rw [if_pos hBB.out]
      simp only
      rw [if_pos (by simpa [PS.deeper, PS.next] using hd)])
    go_enter Try.func43, Try.ntmps43
    go_wp2_with fail
    refine (is_c 40 p s st w h).mono ?_
    rintro e w1 ⟨rfl, hp1, hk1⟩
    rw [hBB.out]
    rw [hN.out] at hp1
    obtain ⟨x0, x1, x2, x3, x4, f1, f2, f3, f4⟩ := hp1.cells
    simp only [PS.next] at x4
    have hp2 := hp1.setDeep (st.deep + 1)
    have hp3 := hp2.setLong
    go_wp2_with fail
    refine (fail_c p s _ _ hp3).mono ?_
    rintro e w4 ⟨q, rfl, hq, hp4, hk4⟩
    go_wp2_with fail
    go_ret
    refine ⟨q, rfl, ?_, ?_, ((hk1.trans (K1.set _)).trans (K1.set _)).trans hk4⟩
    · rw [hA.out]; exact hq
    · rw [hA.out]; exact hp4
  · have hg := orN_good s n st.next.deeper hb (by simp [PS.deeper, PS.next]; omega) (by simp [PS.deeper, PS.next]; omega)
    have g1 : st.deep + 1 ≤ (orN s n st.next.deeper).2.deep := hg.lo
    have g2 : (orN s n st.next.deeper).2.deep ≤ st.deep + 1 + 1 := hg.hi
    have hA0 : Hid (atN s n st = if (orN s n st.next.deeper).2.bad then ((orN s n st.next.deeper).1, (orN s n st.next.deeper).2.upper) else if isB s 41 (orN s n st.next.deeper).2 then ((orN s n st.next.deeper).1, (orN s n st.next.deeper).2.next.upper) else (.empty, (orN s n st.next.deeper).2.fail)) := Lib.hid (by
      unfold atN atomF
      rw [if_pos hBB.out]
      simp only
      rw [if_neg (by simpa [PS.deeper, PS.next] using hd)])
    have IH := Lib.hid (ih p s st.next.deeper)
    clear ih hg
    have hbn : st.next.deeper.bad = false := hb
    have hdn : 0 ≤ st.next.deeper.deep := by simp [PS.deeper, PS.next]; omega
    have hdn2 : st.next.deeper.deep ≤ 50 := by simp [PS.deeper, PS.next]; omega
    have hrn : s.size - st.next.deeper.at_ < n := by simp only [PS.deeper, PS.next]; omega
    have HH := Lib.hid (And.intro hbn (And.intro hdn (And.intro hdn2 hrn)))
    clear hbn hdn hdn2 hrn
    have hd' : ¬ (50 : Int) < st.deep + 1 := hd
    go_enter Try.func43, Try.ntmps43
    go_wp2_with fail
    refine (is_c 40 p s st w h).mono ?_
    rintro e w1 ⟨rfl, hp1, hk1⟩
    rw [hBB.out]
    rw [hN.out] at hp1
    obtain ⟨x0, x1, x2, x3, x4, f1, f2, f3, f4⟩ := hp1.cells
    simp only [PS.next] at x4
    have hp2 : Pat (w1.setCell ⟨p, 4, none⟩ (.int .i64 (st.deep + 1))) p s st.next.deeper := hp1.setDeep (st.deep + 1)
    go_wp2_with fail
    refine (IH.out _ hp2 HH.out.1 HH.out.2.1 HH.out.2.2.1 HH.out.2.2.2).mono ?_
    rintro e w3 ⟨q, rfl, hq, hp3, hk3⟩
    have hk3' := (hk1.trans (K1.set _)).trans hk3
    generalize orN s n st.next.deeper = r at *
    clear x0 x1 x2 x3 x4 f1 f2 f3 f4
    obtain ⟨x0, x1, x2, x3, x4, f1, f2, f3, f4⟩ := hp3.cells
    cases hrb : r.2.bad with
    | true =>
      have hR := Lib.hid hrb
      rw [hrb] at x2
      have hp4 := hp3.setDeep (r.2.deep - 1)
      have hkn := hp3.nodes (K1.set (o := 4) (.int .i64 (r.2.deep - 1)))
      clear hrb
      go_wp2_with fail
      go_ret
      refine ⟨q, rfl, ?_, ?_, hk3'.trans (K1.set _)⟩
      · rw [hA0.out, if_pos hR.out]; exact hq.mono61 hkn
      · rw [hA0.out, if_pos hR.out]; exact hp4
    | false =>
      have hR := Lib.hid hrb
      rw [hrb] at x2
      clear hrb
      cases h41 : isB s 41 r.2 with
      | true =>
        have h4 := Lib.hid h41
        have hS4 := Lib.hid (isB_next h41)
        clear h41
        go_wp2_with fail
        refine (is_c 41 p s r.2 w3 hp3).mono ?_
        rintro e w4 ⟨rfl, hp4, hk4⟩
        rw [h4.out]
        rw [hS4.out] at hp4
        clear x0 x1 x2 x3 x4 f1 f2 f3 f4
        obtain ⟨x0, x1, x2, x3, x4, f1, f2, f3, f4⟩ := hp4.cells
        simp only [PS.next] at x4
        have hp5 := hp4.setDeep (r.2.deep - 1)
        have hkn := hp4.nodes (K1.set (o := 4) (.int .i64 (r.2.deep - 1)))
        have hkn4 := hp3.nodes hk4
        go_wp2_with fail
        go_ret
        refine ⟨q, rfl, ?_, ?_, (hk3'.trans hk4).trans (K1.set _)⟩
        · rw [hA0.out, if_neg (by rw [hR.out]; simp), if_pos h4.out]; exact (hq.mono61 hkn4).mono61 hkn
        · rw [hA0.out, if_neg (by rw [hR.out]; simp), if_pos h4.out]; exact hp5
      | false =>
        have h4 := Lib.hid h41
        have hS4 := Lib.hid (isB_not h41)
        clear h41
        go_wp2_with fail
        refine (is_c 41 p s r.2 w3 hp3).mono ?_
        rintro e w4 ⟨rfl, hp4, hk4⟩
        rw [h4.out]
        rw [hS4.out] at hp4
        go_wp2_with fail
        refine (fail_c p s _ _ hp4).mono ?_
        rintro e w5 ⟨q5, rfl, hq5, hp5, hk5⟩
        go_wp2_with fail
        go_ret
        refine ⟨q5, rfl, ?_, ?_, (hk3'.trans hk4).trans hk5⟩
        · rw [hA0.out, if_neg (by rw [hR.out]; simp), if_neg (by rw [h4.out]; simp)]; exact hq5
        · rw [hA0.out, if_neg (by rw [hR.out]; simp), if_neg (by rw [h4.out]; simp)]; exact hp5

theorem dot_set (ws : W4) : (ws.notN 4) = ws.not := rfl

set_option maxRecDepth 100000 in
set_option maxHeartbeats 4000000 in
theorem atom_c (n : Nat) (ih : OrC n) (p : Nat) (s : ByteArray) (st : PS) (w : World) (h : Pat w p s st) (hb : st.bad = false) (h0 : 0 ≤ st.deep) (h50 : st.deep ≤ 50) (hr : s.size - st.at_ ≤ n) :
    Calls Try.prog 43 #[ptr p] w fun e w' => ∃ q : Nat, e = .returned (ptr q) ∧ NodeAt w' (atN s n st).1 q ∧ Pat w' p s (atN s n st).2 ∧ K1 p w w' := by
  cases hB : isB s 40 st with
  | true => exact atom_paren n ih p s st w h hb h0 h50 hr hB
  | false =>
  clear ih
  have hpl := h.lt
  have hB0 := Lib.hid hB
  have hN0 := Lib.hid (isB_not hB)
  clear hB
  cases hD : isB s 46 st with
  | true =>
    have hB1 := Lib.hid hD
    have hN1 := Lib.hid (isB_next hD)
    clear hD
    have hA : Hid (atN s n st = (.set dotW, st.next)) := Lib.hid (by
      unfold atN atomF
      rw [if_neg (by rw [hB0.out]; simp), if_pos hB1.out])
    go_enter Try.func43, Try.ntmps43
    go_wp2_with fail
    refine (is_c 40 p s st w h).mono ?_
    rintro e w1 ⟨rfl, hp1, hk1⟩
    rw [hB0.out]
    rw [hN0.out] at hp1
    go_wp2_with fail
    refine (is_c 46 p s st w1 hp1).mono ?_
    rintro e w2 ⟨rfl, hp2, hk2⟩
    rw [hB1.out]
    rw [hN1.out] at hp2
    have hk2' := hk1.trans hk2
    go_wp2_with fail
    refine (one_c 10 (by omega) w2).mono ?_
    rintro e w3 ⟨rfl, hk3⟩
    have hp3 := hp2.kn hk3
    have hk3' := hk2'.trans hk3.weak
    have hok := one_ok 10
    generalize hws : W4.one 10 = ws at *
    have hWS := Lib.hid hws
    clear hws
    have hs4 : SetAt (w3.alloc (.cells (wordsV ws) 41)) w3.heap.size ws := blk_new w3 _
    have hp4 := hp3.kn ((Kp.refl _ w3).alloc (.cells (wordsV ws) 41))
    have hk4 : K1 p w (w3.alloc (.cells (wordsV ws) 41)) := hk3'.alloc _
    have hlt3 : w.heap.size ≤ w3.heap.size := hk3'.size
    have hne : w3.heap.size ≠ p := by omega
    obtain ⟨B, hBe⟩ : ∃ B, B = w3.heap.size := ⟨_, rfl⟩
    rw [← hBe] at hs4 hlt3 hne
    go_wp2_with fail
    rw [← hBe]
    have hBe' := Lib.hid hBe
    clear hBe
    go_loopw [58] (fun i wr => ∃ k : Nat, k ≤ 4 ∧ i = .int .i64 k ∧ SetAt wr B (ws.notN k) ∧ Pat wr p s st.next ∧ K1 p w wr) (fun i _ => 4 - (intOf i).toNat)
    case atStart => exact ⟨0, by omega, rfl, by rw [W4.notN_zero]; exact hs4, hp4, hk4⟩
    case round =>
      clear hs4 hp4 hk4
      obtain ⟨k, hk4, rfl, SY, PY, KY⟩ := hrel
      by_cases hlt : k < 4
      · have hlt' : (k : Int) < 4 := by omega
        obtain ⟨hn1, hn2⟩ := W4.notN_succ ws k hlt
        have hg := SY.get k hlt
        rw [hn2] at hg
        have hfz : wr.frozen? ⟨B, k, none⟩ = false := frozen_blk SY _
        have hsp := SY.put k hlt (W4.flip (ws.get k))
        rw [← hn1] at hsp
        have hgr := get_range hok k
        clear hn1 hn2
        generalize ws.get k = x at *
        go_wp2_with fail
        go_roundw
        case rel =>
          refine ⟨k + 1, by omega, by go_num, ?_, ?_, ?_⟩
          · rw [xor_max x hgr]; exact hsp
          · exact ⟨blk_set_ne PY.1 (Ne.symm hne) _ _, PY.2⟩
          · exact KY.setCell (p := ⟨B, k, none⟩) (fun hx => absurd (show B < w.heap.size from hx) (by omega)) _
        case measure => simp [intOf]; omega
      · have hk : k = 4 := by omega
        have hE3 : Hid (ws.notN k = ws.not) := Lib.hid (by rw [hk]; rfl)
        rw [hE3.out] at SY
        obtain ⟨v0, v1, v2, v3⟩ := SY.four
        go_wp2_with fail
        refine (SetOf_c ws.not (W4.not_ok hok) _).mono ?_
        rintro e w5 ⟨q5, rfl, hq5, hk5⟩
        go_wp2_with fail
        go_ret
        refine ⟨q5, rfl, ?_, by rw [hA.out]; exact PY.kn hk5, KY.trans hk5.weak⟩
        rw [hA.out]
        show NodeAt w5 (.set dotW) q5
        unfold dotW
        rw [hWS.out]; exact hq5
  | false =>
  have hB1 := Lib.hid hD
  have hN1 := Lib.hid (isB_not hD)
  clear hD
  cases hC : isB s 91 st with
  | true =>
    have hB2 := Lib.hid hC
    have hN2 := Lib.hid (isB_next hC)
    clear hC
    have hA : Hid (atN s n st = (.set (clsR s st.next).2, (clsR s st.next).1)) := Lib.hid (by
      unfold atN atomF
      rw [if_neg (by rw [hB0.out]; simp), if_neg (by rw [hB1.out]; simp), if_pos hB2.out])
    go_enter Try.func43, Try.ntmps43
    go_wp2_with fail
    refine (is_c 40 p s st w h).mono ?_
    rintro e w1 ⟨rfl, hp1, hk1⟩
    rw [hB0.out]
    rw [hN0.out] at hp1
    go_wp2_with fail
    refine (is_c 46 p s st w1 hp1).mono ?_
    rintro e w2 ⟨rfl, hp2, hk2⟩
    rw [hB1.out]
    rw [hN1.out] at hp2
    have hk2' := hk1.trans hk2
    go_wp2_with fail
    refine (is_c 91 p s st w2 hp2).mono ?_
    rintro e w3 ⟨rfl, hp3, hk3⟩
    rw [hB2.out]
    rw [hN2.out] at hp3
    go_wp2_with fail
    refine (class_c p s st.next w3 hp3).mono ?_
    rintro e w4 ⟨q, rfl, hq, hp4, hk4⟩
    go_wp2_with fail
    go_ret
    exact ⟨q, rfl, by rw [hA.out]; exact hq, by rw [hA.out]; exact hp4, (hk2'.trans hk3).trans hk4⟩
  | false =>
    have hB2 := Lib.hid hC
    have hN2 := Lib.hid (isB_not hC)
    clear hC
    have hA : Hid (atN s n st = (.set (W4.one (letV s specialOut st)), letS s specialOut st)) := Lib.hid (by
      unfold atN atomF
      rw [if_neg (by rw [hB0.out]; simp), if_neg (by rw [hB1.out]; simp), if_neg (by rw [hB2.out]; simp)])
    go_enter Try.func43, Try.ntmps43
    go_wp2_with fail
    refine (is_c 40 p s st w h).mono ?_
    rintro e w1 ⟨rfl, hp1, hk1⟩
    rw [hB0.out]
    rw [hN0.out] at hp1
    go_wp2_with fail
    refine (is_c 46 p s st w1 hp1).mono ?_
    rintro e w2 ⟨rfl, hp2, hk2⟩
    rw [hB1.out]
    rw [hN1.out] at hp2
    have hk2' := hk1.trans hk2
    go_wp2_with fail
    refine (is_c 91 p s st w2 hp2).mono ?_
    rintro e w3 ⟨rfl, hp3, hk3⟩
    rw [hB2.out]
    rw [hN2.out] at hp3
    go_wp2_with fail
    refine (letter_c p s specialOut st w3 hp3).mono ?_
    rintro e w4 ⟨rfl, hp4, hk4⟩
    have hlv := letV_lt s specialOut st
    go_wp2_with fail
    refine (one_c _ hlv w4).mono ?_
    rintro e w5 ⟨rfl, hk5⟩
    go_wp2_with fail
    refine (SetOf_c _ (one_ok _) w5).mono ?_
    rintro e w6 ⟨q, rfl, hq, hk6⟩
    go_wp2_with fail
    go_ret
    exact ⟨q, rfl, by rw [hA.out]; exact hq, by rw [hA.out]; exact (hp4.kn hk5).kn hk6, (((hk2'.trans hk3).trans hk4).trans hk5.weak).trans hk6.weak⟩

end Go.Proofs.Ytkhcnneflcbnpaa
