/-
  The reader of expressions: factors: the walk. Conditions: the reader stands in memory, within its text.
-/
import Derived.Test.YtkhcnneflcbnpaaPAtom
namespace Go.Proofs.Ytkhcnneflcbnpaa
open Go.RowKit

theorem ptrs_two (w : World) (i j : Nat) : PtrsAt (w.alloc (pairObj i j)) (some ⟨w.heap.size, 0, none⟩) [i, j] := fun k hk => by
  refine ⟨w.heap.size, rfl, ?_⟩
  rw [cell_blk (blk_new w (pairObj i j))]
  match k, hk with
  | 0, _ => rfl
  | 1, _ => rfl

set_option maxRecDepth 100000 in
set_option maxHeartbeats 4000000 in
theorem factor_c (n : Nat) (ih : OrC n) (p : Nat) (s : ByteArray) (st : PS) (w : World) (h : Pat w p s st) (hb : st.bad = false) (h0 : 0 ≤ st.deep) (h50 : st.deep ≤ 50) (hr : s.size - st.at_ ≤ n) :
    Calls Try.prog 36 #[ptr p] w fun e w' => ∃ q : Nat, e = .returned (ptr q) ∧ NodeAt w' (fcN s n st).1 q ∧ Pat w' p s (fcN s n st).2 ∧ K1 p w w' := by
  have hsz := h.2.2
  have hAC := Lib.hid (atom_c n ih p s st w h hb h0 h50 hr)
  have hg := atN_good s n st hb h0 h50
  have hF : Hid (fcN s n st = facLoop s (s.size + 2) (atN s n st).1 (atN s n st).2) := Lib.hid rfl
  clear ih
  go_enter Try.func36, Try.ntmps36
  go_wp2_with fail
  refine hAC.out.mono ?_
  rintro e w1 ⟨q1, rfl, hq1, hp1, hk1⟩
  obtain ⟨r, hre⟩ : ∃ r, r = atN s n st := ⟨_, rfl⟩
  rw [← hre] at hq1 hp1 hg
  have hF' : Hid (facLoop s (s.size + 2) r.1 r.2 = fcN s n st) := Lib.hid (by rw [hF.out, hre])
  clear hre
  have hn0 : r.2.bad = true ∨ s.size - r.2.at_ < s.size + 2 := .inr (by omega)
  go_wp2_with fail
  go_loopg [3] (s.size + 2) (fun k v wr => ∃ (q : Nat) (t : Rw) (st' : PS), v = ptr q ∧ Hid (facLoop s k t st' = fcN s n st) ∧ Kept9 st (t, st') 1 2 ∧ (st'.bad = true ∨ s.size - st'.at_ < k) ∧ NodeAt wr t q ∧ Pat wr p s st' ∧ K1 p w wr)
  case atStart => exact ⟨q1, r.1, r.2, rfl, hF', hg, hn0, hq1, hp1, hk1⟩
  case round =>
    clear hq1 hp1 hk1 hn0 hg hF'
    obtain ⟨q, t, st', rfl, hfl, hK9, hn, hq, hp, hk⟩ := hrel
    obtain ⟨x0, x1, x2, x3, x4, _, _, _, _⟩ := hp.cells
    cases hbad : st'.bad with
    | true =>
      have hBad := Lib.hid hbad
      rw [hbad] at x2
      have hfin : Hid ((t, st') = fcN s n st) := Lib.hid (by
        rw [← hfl.out]
        cases gk with
        | zero => rfl
        | succ m => simp [facLoop, hBad.out])
      clear hbad hn
      go_wp2_with fail
      go_ret
      exact ⟨q, rfl, by rw [← hfin.out]; exact hq, by rw [← hfin.out]; exact hp, hk⟩
    | false =>
      have hBad := Lib.hid hbad
      have hn' : s.size - st'.at_ < gk := by
        rcases hn with h | h
        · rw [hbad] at h; cases h
        · exact h
      obtain ⟨k3, k4, k5⟩ := hK9.ok hbad
      simp only at k3 k4 k5
      have hat := hp.2.1
      have hbd : t.size ≤ 442004319000000 := by omega
      rw [hbad] at x2
      clear hbad hn
      obtain ⟨m, hm⟩ : ∃ m, gk = m + 1 := ⟨gk - 1, by omega⟩
      have hm' := Lib.hid hm
      clear hm
      cases h42 : isB s 42 st' with
      | true =>
        have hI := Lib.hid h42
        have hS := Lib.hid (isB_next h42)
        have hlt := isB_lt h42
        clear h42
        go_wp2_with fail
        refine (is_c 42 p s st' wr hp).mono ?_
        rintro e w2 ⟨rfl, hp2, hk2⟩
        rw [hI.out]
        rw [hS.out] at hp2
        have hq2 := hq.mono61 (hp.nodes hk2)
        have hk2' := hk.trans hk2
        clear x0 x1 x2 x3 x4
        go_wp2_with fail
        refine (Star_c q w2).mono ?_
        rintro e w3 ⟨rfl, rfl⟩
        have hs3 : NodeAt ((w2.alloc (loneObj q)).alloc (ndObj 4 W4.zero (sl1 w2.heap.size))) (.star t) (w2.heap.size + 1) := by
          refine ⟨w2.heap.size, q, ?_, blk_alloc (blk_new w2 _) _, (hq2.alloc _).alloc _⟩
          have := blk_new (w2.alloc (loneObj q)) (ndObj 4 W4.zero (sl1 w2.heap.size))
          simpa using this
        have hk3 : Kn w2 ((w2.alloc (loneObj q)).alloc (ndObj 4 W4.zero (sl1 w2.heap.size))) := ((Kp.refl _ _).alloc _).alloc _
        have hsz9 : (Re.star t).size ≤ 9223372036854775807 := by have := hbd; simp only [Re.size] at *; omega
        have hQ := hs3
        have hPQ := hp2.kn hk3
        have hKQ := hk2'.trans hk3.weak
        go_wp2_with fail
        refine (Size_c _ _ _ _ rfl hQ hsz9).mono ?_
        rintro e wz ⟨rfl, rfl⟩
        by_cases hgt : 400 < (Re.star t).size
        · have hgt' : (400 : Int) < ((Re.star t).size : Int) := by omega
          have hfin : Hid ((Re.empty, st'.next.stop) = fcN s n st) := Lib.hid (by rw [← hfl.out, hm'.out]; simp [facLoop, hBad.out, hI.out]; intro hx; omega)
          obtain ⟨y0, y1, y2, y3, y4, f1, f2, f3, f4⟩ := hPQ.cells
          have hp8 := hPQ.setLong
          go_wp2_with fail
          refine (fail_c p s _ _ hp8).mono ?_
          rintro e w9 ⟨q9, rfl, hq9, hp9, hk9⟩
          go_wp2_with fail
          go_ret
          exact ⟨q9, rfl, by rw [← hfin.out]; exact hq9, by rw [← hfin.out]; exact hp9, (hKQ.trans (K1.set _)).trans hk9⟩
        · have hgt' : ¬ (400 : Int) < ((Re.star t).size : Int) := by omega
          have hfl' : Hid (facLoop s m (Re.star t) st'.next = fcN s n st) := Lib.hid (by rw [← hfl.out, hm'.out]; simp [facLoop, hBad.out, hI.out]; intro hx; omega)
          have hkt : Kept9 st (Re.star t, st'.next) 1 2 := ⟨hK9.lo, hK9.hi, fun _ => ⟨k3, by simp only [PS.next]; omega, by simp only [PS.next]; omega⟩⟩
          have hnx : s.size - st'.next.at_ < m := by have := hm'.out; simp only [PS.next]; omega
          have HN := Lib.hid (And.intro hkt hnx)
          clear hkt hnx
          go_wp2_with fail
          go_roundg m
          case measure => have := hm'.out; omega
          case rel => exact ⟨_, _, _, rfl, hfl', HN.out.1, .inr HN.out.2, hQ, hPQ, hKQ⟩
      | false =>
      have hI0 := Lib.hid h42
      have hS0 := Lib.hid (isB_not h42)
      clear h42
      cases h43 : isB s 43 st' with
      | true =>
        have hI := Lib.hid h43
        have hS := Lib.hid (isB_next h43)
        have hlt := isB_lt h43
        clear h43
        go_wp2_with fail
        refine (is_c 42 p s st' wr hp).mono ?_
        rintro e w2 ⟨rfl, hp2, hk2⟩
        rw [hI0.out]
        rw [hS0.out] at hp2
        have hq2 := hq.mono61 (hp.nodes hk2)
        have hk2' := hk.trans hk2
        clear x0 x1 x2 x3 x4
        go_wp2_with fail
        refine (is_c 43 p s st' w2 hp2).mono ?_
        rintro e w3 ⟨rfl, hp3, hk3⟩
        rw [hI.out]
        rw [hS.out] at hp3
        have hq3 := hq2.mono61 (hp2.nodes hk3)
        have hk3' := hk2'.trans hk3
        go_wp2_with fail
        refine (Star_c q w3).mono ?_
        rintro e w4 ⟨rfl, rfl⟩
        have hs4 : NodeAt ((w3.alloc (loneObj q)).alloc (ndObj 4 W4.zero (sl1 w3.heap.size))) (.star t) (w3.heap.size + 1) := by
          refine ⟨w3.heap.size, q, ?_, blk_alloc (blk_new w3 _) _, (hq3.alloc _).alloc _⟩
          have := blk_new (w3.alloc (loneObj q)) (ndObj 4 W4.zero (sl1 w3.heap.size))
          simpa using this
        have hk4 : Kn w3 ((w3.alloc (loneObj q)).alloc (ndObj 4 W4.zero (sl1 w3.heap.size))) := ((Kp.refl _ _).alloc _).alloc _
        obtain ⟨w4, hw4⟩ : ∃ w4, w4 = ((w3.alloc (loneObj q)).alloc (ndObj 4 W4.zero (sl1 w3.heap.size))) := ⟨_, rfl⟩
        obtain ⟨q4, hq4e⟩ : ∃ q4, q4 = w3.heap.size + 1 := ⟨_, rfl⟩
        rw [← hw4] at hs4 hk4
        rw [← hq4e] at hs4
        rw [← hw4, ← hq4e]
        have hp4 := hp3.kn hk4
        have hq4 := hq3.kn hk4
        have hk4' := hk3'.trans hk4.weak
        clear hw4 hq4e
        have hk5 : Kn w4 (w4.alloc (pairObj q q4)) := (Kp.refl _ _).alloc _
        have hrow : RowAt (w4.alloc (pairObj q q4)) [t, .star t] [q, q4] := .cons (hq4.kn hk5) (.cons (hs4.kn hk5) .nil)
        have hpt := Lib.hid (ptrs_two w4 q q4)
        have hp5 := hp4.kn hk5
        go_wp2_with fail
        refine (Cat_c [t, .star t] [q, q4] _ 2 _ hrow hpt.out (by simp)).mono ?_
        rintro e w6 ⟨q6, rfl, hq6, hk6⟩
        have hq6' : NodeAt w6 (.cat t (.star t)) q6 := hq6
        clear hrow
        have hsz9 : (Re.cat t (.star t)).size ≤ 9223372036854775807 := by have := hbd; simp only [Re.size] at *; omega
        have hQ := hq6'
        have hPQ := hp5.kn hk6
        have hKQ := (hk4'.trans hk5.weak).trans hk6.weak
        go_wp2_with fail
        refine (Size_c _ _ _ _ rfl hQ hsz9).mono ?_
        rintro e wz ⟨rfl, rfl⟩
        by_cases hgt : 400 < (Re.cat t (.star t)).size
        · have hgt' : (400 : Int) < ((Re.cat t (.star t)).size : Int) := by omega
          have hfin : Hid ((Re.empty, st'.next.stop) = fcN s n st) := Lib.hid (by rw [← hfl.out, hm'.out]; simp [facLoop, hBad.out, hI0.out, hI.out]; intro hx; omega)
          obtain ⟨y0, y1, y2, y3, y4, f1, f2, f3, f4⟩ := hPQ.cells
          have hp8 := hPQ.setLong
          go_wp2_with fail
          refine (fail_c p s _ _ hp8).mono ?_
          rintro e w9 ⟨q9, rfl, hq9, hp9, hk9⟩
          go_wp2_with fail
          go_ret
          exact ⟨q9, rfl, by rw [← hfin.out]; exact hq9, by rw [← hfin.out]; exact hp9, (hKQ.trans (K1.set _)).trans hk9⟩
        · have hgt' : ¬ (400 : Int) < ((Re.cat t (.star t)).size : Int) := by omega
          have hfl' : Hid (facLoop s m (Re.cat t (.star t)) st'.next = fcN s n st) := Lib.hid (by rw [← hfl.out, hm'.out]; simp [facLoop, hBad.out, hI0.out, hI.out]; intro hx; omega)
          have hkt : Kept9 st (Re.cat t (.star t), st'.next) 1 2 := ⟨hK9.lo, hK9.hi, fun _ => ⟨k3, by simp only [PS.next]; omega, by simp only [PS.next]; omega⟩⟩
          have hnx : s.size - st'.next.at_ < m := by have := hm'.out; simp only [PS.next]; omega
          have HN := Lib.hid (And.intro hkt hnx)
          clear hkt hnx
          go_wp2_with fail
          go_roundg m
          case measure => have := hm'.out; omega
          case rel => exact ⟨_, _, _, rfl, hfl', HN.out.1, .inr HN.out.2, hQ, hPQ, hKQ⟩
      | false =>
      have hI1 := Lib.hid h43
      have hS1 := Lib.hid (isB_not h43)
      clear h43
      cases h63 : isB s 63 st' with
      | true =>
        have hI := Lib.hid h63
        have hS := Lib.hid (isB_next h63)
        have hlt := isB_lt h63
        clear h63
        go_wp2_with fail
        refine (is_c 42 p s st' wr hp).mono ?_
        rintro e w2 ⟨rfl, hp2, hk2⟩
        rw [hI0.out]
        rw [hS0.out] at hp2
        have hq2 := hq.mono61 (hp.nodes hk2)
        have hk2' := hk.trans hk2
        clear x0 x1 x2 x3 x4
        go_wp2_with fail
        refine (is_c 43 p s st' w2 hp2).mono ?_
        rintro e w3 ⟨rfl, hp3, hk3⟩
        rw [hI1.out]
        rw [hS1.out] at hp3
        have hq3 := hq2.mono61 (hp2.nodes hk3)
        have hk3' := hk2'.trans hk3
        go_wp2_with fail
        refine (is_c 63 p s st' w3 hp3).mono ?_
        rintro e w3b ⟨rfl, hp3b, hk3b⟩
        rw [hI.out]
        rw [hS.out] at hp3b
        have hq3b := hq3.mono61 (hp3.nodes hk3b)
        have hk3b' := hk3'.trans hk3b
        go_wp2_with fail
        refine (EmptyAt_c w3b).mono ?_
        rintro e w4 ⟨q4, rfl, hs4, hk4⟩
        have hp4 := hp3b.kn hk4
        have hq4 := hq3b.kn hk4
        have hk4' := hk3b'.trans hk4.weak
        have hk5 : Kn w4 (w4.alloc (pairObj q q4)) := (Kp.refl _ _).alloc _
        have hrow : RowAt (w4.alloc (pairObj q q4)) [t, .empty] [q, q4] := .cons (hq4.kn hk5) (.cons (hs4.kn hk5) .nil)
        have hpt := Lib.hid (ptrs_two w4 q q4)
        have hp5 := hp4.kn hk5
        go_wp2_with fail
        refine (Or_c [t, .empty] [q, q4] _ 2 _ hrow hpt.out (by simp)).mono ?_
        rintro e w6 ⟨q6, rfl, hq6, hk6⟩
        have hq6' : NodeAt w6 (.or t .empty) q6 := hq6
        clear hrow
        have hsz9 : (Re.or t .empty).size ≤ 9223372036854775807 := by have := hbd; simp only [Re.size] at *; omega
        have hQ := hq6'
        have hPQ := hp5.kn hk6
        have hKQ := (hk4'.trans hk5.weak).trans hk6.weak
        go_wp2_with fail
        refine (Size_c _ _ _ _ rfl hQ hsz9).mono ?_
        rintro e wz ⟨rfl, rfl⟩
        by_cases hgt : 400 < (Re.or t .empty).size
        · have hgt' : (400 : Int) < ((Re.or t .empty).size : Int) := by omega
          have hfin : Hid ((Re.empty, st'.next.stop) = fcN s n st) := Lib.hid (by rw [← hfl.out, hm'.out]; simp [facLoop, hBad.out, hI0.out, hI1.out, hI.out]; intro hx; omega)
          obtain ⟨y0, y1, y2, y3, y4, f1, f2, f3, f4⟩ := hPQ.cells
          have hp8 := hPQ.setLong
          go_wp2_with fail
          refine (fail_c p s _ _ hp8).mono ?_
          rintro e w9 ⟨q9, rfl, hq9, hp9, hk9⟩
          go_wp2_with fail
          go_ret
          exact ⟨q9, rfl, by rw [← hfin.out]; exact hq9, by rw [← hfin.out]; exact hp9, (hKQ.trans (K1.set _)).trans hk9⟩
        · have hgt' : ¬ (400 : Int) < ((Re.or t .empty).size : Int) := by omega
          have hfl' : Hid (facLoop s m (Re.or t .empty) st'.next = fcN s n st) := Lib.hid (by rw [← hfl.out, hm'.out]; simp [facLoop, hBad.out, hI0.out, hI1.out, hI.out]; intro hx; omega)
          have hkt : Kept9 st (Re.or t .empty, st'.next) 1 2 := ⟨hK9.lo, hK9.hi, fun _ => ⟨k3, by simp only [PS.next]; omega, by simp only [PS.next]; omega⟩⟩
          have hnx : s.size - st'.next.at_ < m := by have := hm'.out; simp only [PS.next]; omega
          have HN := Lib.hid (And.intro hkt hnx)
          clear hkt hnx
          go_wp2_with fail
          go_roundg m
          case measure => have := hm'.out; omega
          case rel => exact ⟨_, _, _, rfl, hfl', HN.out.1, .inr HN.out.2, hQ, hPQ, hKQ⟩
      | false =>
        have hI := Lib.hid h63
        have hS := Lib.hid (isB_not h63)
        clear h63
        have hfin : Hid ((t, st') = fcN s n st) := Lib.hid (by rw [← hfl.out, hm'.out]; simp [facLoop, hBad.out, hI0.out, hI1.out, hI.out])
        go_wp2_with fail
        refine (is_c 42 p s st' wr hp).mono ?_
        rintro e w2 ⟨rfl, hp2, hk2⟩
        rw [hI0.out]
        rw [hS0.out] at hp2
        have hq2 := hq.mono61 (hp.nodes hk2)
        have hk2' := hk.trans hk2
        clear x0 x1 x2 x3 x4
        go_wp2_with fail
        refine (is_c 43 p s st' w2 hp2).mono ?_
        rintro e w3 ⟨rfl, hp3, hk3⟩
        rw [hI1.out]
        rw [hS1.out] at hp3
        have hq3 := hq2.mono61 (hp2.nodes hk3)
        have hk3' := hk2'.trans hk3
        go_wp2_with fail
        refine (is_c 63 p s st' w3 hp3).mono ?_
        rintro e w3b ⟨rfl, hp3b, hk3b⟩
        rw [hI.out]
        rw [hS.out] at hp3b
        have hq3b := hq3.mono61 (hp3.nodes hk3b)
        have hk3b' := hk3'.trans hk3b
        go_wp2_with fail
        go_ret
        exact ⟨q, rfl, by rw [← hfin.out]; exact hq3b, by rw [← hfin.out]; exact hp3b, hk3b'⟩

end Go.Proofs.Ytkhcnneflcbnpaa
