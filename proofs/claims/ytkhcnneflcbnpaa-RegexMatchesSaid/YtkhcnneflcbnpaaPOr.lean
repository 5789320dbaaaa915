/-
  The reader of expressions: alternatives, and a text whole: the walks. Conditions: the reader stands in memory, within its text.
-/
import Derived.Test.YtkhcnneflcbnpaaPFac
namespace Go.Proofs.Ytkhcnneflcbnpaa
open Go.RowKit

theorem info_ptr : (Try.prog.info? 23).map (fun i => (i.zero, i.size, i.bytes)) = some (some (.pointer none), 1, 8) := by kernel_rfl

theorem Pat.kp {S : Nat → Prop} {w w' : World} {p : Nat} {s : ByteArray} {st : PS} (h : Pat w p s st) (hk : Kp S w w') (hs : ¬ S p) : Pat w' p s st := ⟨hk.blk h.1 hs, h.2⟩

abbrev RowN (w : World) (B : Nat) (v : Value) (qs : List Nat) : Prop := RowZ w B 23 (.pointer none) v (qs.map ptr)

theorem RowN.ptrs {w : World} {B : Nat} {v : Value} {qs : List Nat} (h : RowN w B v qs) : ∃ a c, v = .slice a qs.length c ∧ PtrsAt w a qs := by
  obtain ⟨a, c, hv, hg⟩ := RowZ.get h
  refine ⟨a, c, by simpa using hv, fun i hi => ?_⟩
  obtain ⟨g, h1, h2⟩ := hg i (by simpa using hi)
  exact ⟨g, h1, by simpa using h2⟩

set_option maxRecDepth 100000 in
set_option maxHeartbeats 4000000 in
theorem cat_c (n : Nat) (ih : OrC n) (p : Nat) (s : ByteArray) (st : PS) (w : World) (h : Pat w p s st) (hb : st.bad = false) (h0 : 0 ≤ st.deep) (h50 : st.deep ≤ 50) (hr : s.size - st.at_ ≤ n) :
    Calls Try.prog 29 #[ptr p] w fun e w' => ∃ q : Nat, e = .returned (ptr q) ∧ NodeAt w' (ctN s n st).1 q ∧ Pat w' p s (ctN s n st).2 ∧ K1 p w w' := by
  have hsz := h.2.2
  have hpl := h.lt
  obtain ⟨i0, hi, hz0, hz1, hz2⟩ := info_parts info_ptr
  have HI := Lib.hid (And.intro hi (And.intro hz0 (And.intro hz1 hz2)))
  clear hi hz0 hz1 hz2
  have hF1 : Hid ((ctN s n st).1 = Re.two .cat .empty (catLoop (fcN s n) s (s.size + 2) [] st).1) := Lib.hid rfl
  have hF2 : Hid ((ctN s n st).2 = (catLoop (fcN s n) s (s.size + 2) [] st).2) := Lib.hid rfl
  have IH := Lib.hid ih
  clear ih
  have hn0 : s.size - st.at_ < s.size + 2 := by omega
  go_enter Try.func29, Try.ntmps29
  go_wp2_with fail
  go_loopg [3] (s.size + 2) (fun k v9 wr => ∃ (v : Value) (qs : List Nat) (ts : List Rw) (st' : PS), v = v9 ∧ RowN wr w.heap.size v qs ∧ RowAt wr ts qs ∧ Hid (catLoop (fcN s n) s k ts st' = catLoop (fcN s n) s (s.size + 2) [] st) ∧ qs.length ≤ s.size + 1 ∧
    (st'.bad = true ∨ (s.size - st'.at_ < k ∧ st'.deep = st.deep ∧ st.at_ ≤ st'.at_ ∧ qs.length ≤ st'.at_ - st.at_)) ∧ Pat wr p s st' ∧ K1 p w wr)
  case atStart => exact ⟨_, [], [], st, rfl, .inl ⟨rfl, rfl⟩, .nil, Lib.hid rfl, by simp, .inr ⟨hn0, rfl, Nat.le_refl _, by simp⟩, h, Kp.refl _ _⟩
  case round =>
    obtain ⟨v, qs, ts, st', rfl, hrow, hts, hfl, hql, hn, hp, hk⟩ := hrel
    have HROW := Lib.hid hrow
    clear hrow
    obtain ⟨x0, x1, x2, x3, x4, _, _, _, _⟩ := hp.cells
    have hfinish : Hid (∀ (WX : World) (qs : List Nat) (a : Option Addr) (c : Nat), RowAt WX ts qs → PtrsAt WX a qs → qs.length ≤ s.size + 1 → Calls Try.prog 13 #[.slice a qs.length c] WX fun e w' => ∃ q : Nat, e = .returned (ptr q) ∧ NodeAt w' (Re.two .cat .empty ts) q ∧ Kn WX w') :=
      Lib.hid (fun WX qs a c h1 h2 h3 => Cat_c ts qs a c WX h1 h2 (by omega))
    cases hbad : st'.bad with
    | true =>
      have hBad := Lib.hid hbad
      rw [hbad] at x2
      have hfin : Hid ((ts, st') = catLoop (fcN s n) s (s.size + 2) [] st) := Lib.hid (by
        rw [← hfl.out]
        cases gk with
        | zero => rfl
        | succ m => simp [catLoop, hBad.out])
      clear hbad hn
      obtain ⟨a, c, hv, hpt⟩ := HROW.out.ptrs
      subst hv
      have HPT := Lib.hid hpt
      clear hpt
      go_wp2_with fail
      refine (hfinish.out wr qs a c hts HPT.out hql).mono ?_
      rintro e w2 ⟨q, rfl, hq, hk2⟩
      go_wp2_with fail
      go_ret
      exact ⟨q, rfl, by rw [hF1.out, ← hfin.out]; exact hq, by rw [hF2.out, ← hfin.out]; exact hp.kn hk2, hk.trans hk2.weak⟩
    | false =>
      have hBad := Lib.hid hbad
      have hn' : s.size - st'.at_ < gk ∧ st'.deep = st.deep ∧ st.at_ ≤ st'.at_ ∧ qs.length ≤ st'.at_ - st.at_ := by
        rcases hn with h | h
        · rw [hbad] at h; cases h
        · exact h
      obtain ⟨hn1, hn2, hn3, hn4⟩ := hn'
      have HN2 := Lib.hid hn2
      rw [hbad] at x2
      clear hbad hn hn2
      have hat := hp.2.1
      obtain ⟨m, hm⟩ : ∃ m, gk = m + 1 := ⟨gk - 1, by omega⟩
      have hm' := Lib.hid hm
      clear hm
      cases hce : catEnd s st' with
      | true =>
        have hCE := Lib.hid hce
        have hfin : Hid ((ts, st') = catLoop (fcN s n) s (s.size + 2) [] st) := Lib.hid (by
          rw [← hfl.out, hm'.out]; simp [catLoop, hBad.out, hCE.out])
        obtain ⟨a, c, hv, hpt⟩ := HROW.out.ptrs
        subst hv
        have HPT := Lib.hid hpt
        clear hpt hce
        have hways : Hid (decide (st'.at_ < s.size) = false ∨ (decide (st'.at_ < s.size) = true ∧ (((bt s st'.at_ : Nat) : Int) == 124) = true) ∨ (decide (st'.at_ < s.size) = true ∧ (((bt s st'.at_ : Nat) : Int) == 124) = false ∧ (((bt s st'.at_ : Nat) : Int) == 41) = true)) := Lib.hid (by
          have h1 := hCE.out
          simp only [catEnd, Bool.or_eq_true, Bool.not_eq_true', decide_eq_true_eq] at h1
          by_cases hl : st'.at_ < s.size
          · by_cases h124 : bt s st'.at_ = 124
            · right; left; exact ⟨by simpa using hl, by simp [h124]⟩
            · right; right
              rcases h1 with (h1 | h1) | h1
              · simp at h1; omega
              · exact (h124 h1).elim
              · exact ⟨by simpa using hl, by simp; omega, by simp [h1]⟩
          · left; simpa using hl)
        rcases hways.out with hd | ⟨hd, h124⟩ | ⟨hd, h124, h41⟩
        all_goals
          go_wp2_with fail
          refine (peek_c p s st' wr hp).mono ?_
          rintro e w' ⟨rfl, n1, rfl⟩
          clear x0 x1 x2 x3 x4
          go_wp2_with fail
          refine (hfinish.out (wr.drewN n1) qs a c (hts.kn ((Kp.refl _ _).drewN n1)) (HPT.out.kn ((Kp.refl _ _).drewN n1)) hql).mono ?_
          rintro e w2 ⟨q, rfl, hq, hk2⟩
          go_wp2_with fail
          go_ret
          exact ⟨q, rfl, by rw [hF1.out, ← hfin.out]; exact hq, by rw [hF2.out, ← hfin.out]; exact (hp.drewN n1).kn hk2, (hk.drewN n1).trans hk2.weak⟩
      | false =>
        have hCE := Lib.hid hce
        have hcx : st'.at_ < s.size ∧ ¬ bt s st'.at_ = 124 ∧ ¬ bt s st'.at_ = 41 := by
          simp only [catEnd, Bool.or_eq_false_iff, Bool.not_eq_false', decide_eq_true_eq, decide_eq_false_iff_not] at hce
          exact ⟨hce.1.1, hce.1.2, hce.2⟩
        have hd : decide (st'.at_ < s.size) = true := by simpa using hcx.1
        have h124 : (((bt s st'.at_ : Nat) : Int) == 124) = false := by have := hcx.2.1; simp; omega
        have h41 : (((bt s st'.at_ : Nat) : Int) == 41) = false := by have := hcx.2.2; simp; omega
        have hfl' : Hid (catLoop (fcN s n) s m (ts ++ [(fcN s n st').1]) (fcN s n st').2 = catLoop (fcN s n) s (s.size + 2) [] st) := Lib.hid (by
          rw [← hfl.out, hm'.out]; simp [catLoop, hBad.out, hCE.out])
        clear hce hcx
        go_wp2_with fail
        refine (peek_c p s st' wr hp).mono ?_
        rintro e w' ⟨rfl, n1, rfl⟩
        clear x0 x1 x2 x3 x4
        go_wp2_with fail
        refine (factor_c n IH.out p s st' _ (hp.drewN n1) hBad.out (by rw [HN2.out]; exact h0) (by rw [HN2.out]; exact h50) (by omega)).mono ?_
        rintro e w2 ⟨q, rfl, hq, hp2, hk2⟩
        have hg := fcN_good s n st' hBad.out (by rw [HN2.out]; exact h0) (by rw [HN2.out]; exact h50)
        have hk2' : K1 p w w2 := (hk.drewN n1).trans hk2
        have hrow2 : RowN w2 w.heap.size v qs := (HROW.out.kp ((Kp.refl (fun k => k = p) wr).drewN n1) (fun k hk1 _ e => by omega)).kp hk2 (fun k hk1 _ e => by omega)
        have hts2 := (hts.kn ((Kp.refl _ _).drewN n1)).mono61 ((hp.drewN n1).nodes hk2)
        have hrow3 := hrow2.kp ((Kp.refl (fun _ => False) w2).alloc (loneObj q)) (fun k _ _ x => x)
        have hcell : (w2.alloc (loneObj q)).cell? ⟨w2.heap.size, 0, none⟩ = some (ptr q) := cell_blk (blk_new w2 (loneObj q)) 0
        have hb9 : w.heap.size ≤ (w2.alloc (loneObj q)).heap.size := by have := hk2'.size; simp; omega
        have hwn := Lib.hid (And.intro hrow3 hcell)
        clear hrow3 hcell hrow2
        go_wp2_with (first | (at_builtin; refine wpList_append_z _ rfl _ _ 47 rfl w.heap.size 23 i0 (.pointer none) 8 Try.underlying47 HI.out.1 HI.out.2.1 HI.out.2.2.1 HI.out.2.2.2 rfl v (qs.map ptr) rfl hwn.out.1 ⟨w2.heap.size, 0, none⟩ 1 (ptr q) rfl hwn.out.2 rfl ?c1 ?c2 hb9 ?_; (case c1 => simp [maxLen]; omega); (case c2 => simp; omega); intro v' w4 hrow4 hk4))
        have hp3 := hp2.kn ((Kp.refl _ w2).alloc (loneObj q))
        have hkn4 := nodes_row (v := v) hk4 (fun k x => x.2)
        have hp4 := hp3.kp hk4 (fun x => by have := HROW.out.ge p x.1; omega)
        have hk4' : K1 p w w4 := (hk2'.alloc (loneObj q)).trans' hk4 (fun k hk1 x => by have := HROW.out.ge k x.1; omega)
        have hq4 := (hq.alloc (loneObj q)).mono61 hkn4
        have hts4 := (hts2.kn ((Kp.refl _ w2).alloc (loneObj q))).mono61 hkn4
        have hrow5 : RowN w4 w.heap.size v' (qs ++ [q]) := by
          unfold RowN; rw [List.map_append]; exact hrow4
        have hts5 := hts4.snoc hq4
        have hnx : (fcN s n st').2.bad = true ∨ (s.size - (fcN s n st').2.at_ < m ∧ (fcN s n st').2.deep = st.deep ∧ st.at_ ≤ (fcN s n st').2.at_ ∧ (qs ++ [q]).length ≤ (fcN s n st').2.at_ - st.at_) := by
          cases hx : (fcN s n st').2.bad with
          | true => exact .inl rfl
          | false =>
            obtain ⟨y1, y2, y3⟩ := hg.ok hx
            have y4 := hp2.2.1
            have y5 := hm'.out
            have y6 := HN2.out
            exact .inr ⟨by omega, by omega, by omega, by simp; omega⟩
        have HX := Lib.hid (And.intro hnx (And.intro hrow5 (show (qs ++ [q]).length ≤ s.size + 1 by simp; omega)))
        clear hnx hrow5 hrow4
        go_wp2_with fail
        go_roundg m
        case measure => have := hm'.out; omega
        case rel => exact ⟨_, qs ++ [q], _, _, rfl, HX.out.2.1, hts5, hfl', HX.out.2.2, HX.out.1, hp4, hk4'⟩

theorem row_one {w : World} {B q : Nat} (hB : B ≤ w.heap.size) : RowN (w.alloc (loneObj q)) B (.slice (some ⟨w.heap.size, 0, none⟩) 1 1) [q] :=
  RowZ.new (w := w) (B := B) (e := 23) (z := .pointer none) [ptr q] hB (by simp [maxLen])

set_option maxRecDepth 100000 in
set_option maxHeartbeats 4000000 in
theorem or_c (n : Nat) (ih : OrC n) : OrC (n + 1) := by
  intro p s st w h hb h0 h50 hr
  have hsz := h.2.2
  have hpl := h.lt
  obtain ⟨i0, hi, hz0, hz1, hz2⟩ := info_parts info_ptr
  have HI := Lib.hid (And.intro hi (And.intro hz0 (And.intro hz1 hz2)))
  clear hi hz0 hz1 hz2
  have hF : Hid (orN s (n + 1) st = (Re.two .or Rw.none (orLoop (ctN s n) s (s.size + 2) [(ctN s n st).1] (ctN s n st).2).1, (orLoop (ctN s n) s (s.size + 2) [(ctN s n st).1] (ctN s n st).2).2)) := Lib.hid rfl
  have CC := Lib.hid (cat_c n ih)
  have hg := ctN_good s n st hb h0 h50
  have hcat := Lib.hid (cat_c n ih p s st w h hb h0 h50 (by omega))
  have IH := Lib.hid ih
  clear ih
  go_enter Try.func22, Try.ntmps22
  go_wp2_with fail
  refine hcat.out.mono ?_
  rintro e w1 ⟨q1, rfl, hq1, hp1, hk1⟩
  have hB1 : w.heap.size ≤ w1.heap.size := hk1.size
  have hrow0 := Lib.hid (row_one (w := w1) (q := q1) hB1)
  have hq1' := hq1.alloc (loneObj q1)
  have hp1' := hp1.kn ((Kp.refl _ w1).alloc (loneObj q1))
  have hk1' : K1 p w (w1.alloc (loneObj q1)) := hk1.alloc _
  have hn0 : (ctN s n st).2.bad = true ∨ (s.size - (ctN s n st).2.at_ < s.size + 2 ∧ (ctN s n st).2.deep = st.deep ∧ st.at_ ≤ (ctN s n st).2.at_ ∧ ([q1] : List Nat).length ≤ (ctN s n st).2.at_ - st.at_ + 1) := by
    cases hx : (ctN s n st).2.bad with
    | true => exact .inl rfl
    | false =>
      obtain ⟨y1, y2, y3⟩ := hg.ok hx
      exact .inr ⟨by omega, by omega, by omega, by simp⟩
  have HN0 := Lib.hid hn0
  clear hn0 hg
  generalize ctN s n st = r at *
  have hF1 : Hid ((orN s (n + 1) st).1 = Re.two .or Rw.none (orLoop (ctN s n) s (s.size + 2) [r.1] r.2).1) := Lib.hid (by rw [hF.out])
  have hF2 : Hid ((orN s (n + 1) st).2 = (orLoop (ctN s n) s (s.size + 2) [r.1] r.2).2) := Lib.hid (by rw [hF.out])
  go_wp2_with fail
  go_loopg [3] (s.size + 2) (fun k v9 wr => ∃ (v : Value) (qs : List Nat) (ts : List Rw) (st' : PS), v = v9 ∧ RowN wr w.heap.size v qs ∧ RowAt wr ts qs ∧ Hid (orLoop (ctN s n) s k ts st' = orLoop (ctN s n) s (s.size + 2) [r.1] r.2) ∧ qs.length ≤ s.size + 2 ∧
    (st'.bad = true ∨ (s.size - st'.at_ < k ∧ st'.deep = st.deep ∧ st.at_ ≤ st'.at_ ∧ qs.length ≤ st'.at_ - st.at_ + 1)) ∧ Pat wr p s st' ∧ K1 p w wr)
  case atStart => exact ⟨_, [q1], [r.1], r.2, rfl, hrow0.out, .cons hq1' .nil, Lib.hid rfl, by simp, HN0.out, hp1', hk1'⟩
  case round =>
    clear hq1 hp1 hk1 hq1' hp1' hk1' hrow0 HN0 hcat hF hB1
    obtain ⟨v, qs, ts, st', rfl, hrow, hts, hfl, hql, hn, hp, hk⟩ := hrel
    have HROW := Lib.hid hrow
    clear hrow
    obtain ⟨x0, x1, x2, x3, x4, _, _, _, _⟩ := hp.cells
    have hfinish : Hid (∀ (WX : World) (qs : List Nat) (a : Option Addr) (c : Nat), RowAt WX ts qs → PtrsAt WX a qs → qs.length ≤ s.size + 2 → Calls Try.prog 14 #[.slice a qs.length c] WX fun e w' => ∃ q : Nat, e = .returned (ptr q) ∧ NodeAt w' (Re.two .or Rw.none ts) q ∧ Kn WX w') :=
      Lib.hid (fun WX qs a c h1 h2 h3 => Or_c ts qs a c WX h1 h2 (by omega))
    cases hbad : st'.bad with
    | true =>
      have hBad := Lib.hid hbad
      rw [hbad] at x2
      have hfin : Hid ((ts, st') = orLoop (ctN s n) s (s.size + 2) [r.1] r.2) := Lib.hid (by
        rw [← hfl.out]
        cases gk with
        | zero => rfl
        | succ m => simp [orLoop, hBad.out])
      clear hbad hn
      obtain ⟨a, c, hv, hpt⟩ := HROW.out.ptrs
      subst hv
      have HPT := Lib.hid hpt
      clear hpt
      go_wp2_with fail
      refine (hfinish.out wr qs a c hts HPT.out hql).mono ?_
      rintro e w2 ⟨q, rfl, hq, hk2⟩
      go_wp2_with fail
      go_ret
      exact ⟨q, rfl, by rw [hF1.out, ← hfin.out]; exact hq, by rw [hF2.out, ← hfin.out]; exact hp.kn hk2, hk.trans hk2.weak⟩
    | false =>
      have hBad := Lib.hid hbad
      have hn' : s.size - st'.at_ < gk ∧ st'.deep = st.deep ∧ st.at_ ≤ st'.at_ ∧ qs.length ≤ st'.at_ - st.at_ + 1 := by
        rcases hn with h | h
        · rw [hbad] at h; cases h
        · exact h
      obtain ⟨hn1, hn2, hn3, hn4⟩ := hn'
      have HN2 := Lib.hid hn2
      rw [hbad] at x2
      clear hbad hn hn2
      have hat := hp.2.1
      obtain ⟨m, hm⟩ : ∃ m, gk = m + 1 := ⟨gk - 1, by omega⟩
      have hm' := Lib.hid hm
      clear hm
      cases hbar : isB s 124 st' with
      | false =>
        have hI := Lib.hid hbar
        have hS := Lib.hid (isB_not hbar)
        have hfin : Hid ((ts, st') = orLoop (ctN s n) s (s.size + 2) [r.1] r.2) := Lib.hid (by
          rw [← hfl.out, hm'.out]; simp [orLoop, hBad.out, hI.out])
        clear hbar
        go_wp2_with fail
        refine (is_c 124 p s st' wr hp).mono ?_
        rintro e w2 ⟨rfl, hp2, hk2⟩
        rw [hI.out]
        rw [hS.out] at hp2
        have hts2 := hts.mono61 (hp.nodes hk2)
        have hrow2 : RowN w2 w.heap.size v qs := HROW.out.kp hk2 (fun k hk1 _ e => by omega)
        obtain ⟨a, c, hv, hpt⟩ := hrow2.ptrs
        have HPT := Lib.hid hpt
        clear hrow2 hpt
        clear x0 x1 x2 x3 x4
        subst hv
        go_wp2_with fail
        refine (hfinish.out w2 qs a c hts2 HPT.out hql).mono ?_
        rintro e w3 ⟨q, rfl, hq, hk3⟩
        go_wp2_with fail
        go_ret
        exact ⟨q, rfl, by rw [hF1.out, ← hfin.out]; exact hq, by rw [hF2.out, ← hfin.out]; exact hp2.kn hk3, (hk.trans hk2).trans hk3.weak⟩
      | true =>
        have hI := Lib.hid hbar
        have hS := Lib.hid (isB_next hbar)
        have hlt := isB_lt hbar
        have hfl' : Hid (orLoop (ctN s n) s m (ts ++ [(ctN s n st'.next).1]) (ctN s n st'.next).2 = orLoop (ctN s n) s (s.size + 2) [r.1] r.2) := Lib.hid (by
          rw [← hfl.out, hm'.out]; simp [orLoop, hBad.out, hI.out])
        clear hbar
        go_wp2_with fail
        refine (is_c 124 p s st' wr hp).mono ?_
        rintro e w1b ⟨rfl, hp1b, hk1b⟩
        rw [hI.out]
        rw [hS.out] at hp1b
        clear x0 x1 x2 x3 x4
        have hd0 : 0 ≤ st'.next.deep := by show 0 ≤ st'.deep; rw [HN2.out]; exact h0
        have hd50 : st'.next.deep ≤ 50 := by show st'.deep ≤ 50; rw [HN2.out]; exact h50
        have hat' : s.size - st'.next.at_ ≤ n := by show s.size - (st'.at_ + 1) ≤ n; omega
        go_wp2_with fail
        refine (CC.out p s st'.next w1b hp1b hBad.out hd0 hd50 hat').mono ?_
        rintro e w2 ⟨q, rfl, hq, hp2, hk2⟩
        have hg := ctN_good s n st'.next hBad.out hd0 hd50
        have hk2' : K1 p w w2 := (hk.trans hk1b).trans hk2
        have hrow2 : RowN w2 w.heap.size v qs := (HROW.out.kp hk1b (fun k hk1 _ e => by omega)).kp hk2 (fun k hk1 _ e => by omega)
        have hts2 := (hts.mono61 (hp.nodes hk1b)).mono61 (hp1b.nodes hk2)
        have hrow3 := hrow2.kp ((Kp.refl (fun _ => False) w2).alloc (loneObj q)) (fun k _ _ x => x)
        have hcell : (w2.alloc (loneObj q)).cell? ⟨w2.heap.size, 0, none⟩ = some (ptr q) := cell_blk (blk_new w2 (loneObj q)) 0
        have hb9 : w.heap.size ≤ (w2.alloc (loneObj q)).heap.size := by have := hk2'.size; simp; omega
        have hwn := Lib.hid (And.intro hrow3 hcell)
        clear hrow3 hcell hrow2
        go_wp2_with (first | (at_builtin; refine wpList_append_z _ rfl _ _ 47 rfl w.heap.size 23 i0 (.pointer none) 8 Try.underlying47 HI.out.1 HI.out.2.1 HI.out.2.2.1 HI.out.2.2.2 rfl v (qs.map ptr) rfl hwn.out.1 ⟨w2.heap.size, 0, none⟩ 1 (ptr q) rfl hwn.out.2 rfl ?c1 ?c2 hb9 ?_; (case c1 => simp [maxLen]; omega); (case c2 => simp; omega); intro v' w4 hrow4 hk4))
        have hp3 := hp2.kn ((Kp.refl _ w2).alloc (loneObj q))
        have hkn4 := nodes_row (v := v) hk4 (fun k x => x.2)
        have hp4 := hp3.kp hk4 (fun x => by have := HROW.out.ge p x.1; omega)
        have hk4' : K1 p w w4 := (hk2'.alloc (loneObj q)).trans' hk4 (fun k hk1 x => by have := HROW.out.ge k x.1; omega)
        have hq4 := (hq.alloc (loneObj q)).mono61 hkn4
        have hts4 := (hts2.kn ((Kp.refl _ w2).alloc (loneObj q))).mono61 hkn4
        have hrow5 : RowN w4 w.heap.size v' (qs ++ [q]) := by
          unfold RowN; rw [List.map_append]; exact hrow4
        have hts5 := hts4.snoc hq4
        have hnx : (ctN s n st'.next).2.bad = true ∨ (s.size - (ctN s n st'.next).2.at_ < m ∧ (ctN s n st'.next).2.deep = st.deep ∧ st.at_ ≤ (ctN s n st'.next).2.at_ ∧ (qs ++ [q]).length ≤ (ctN s n st'.next).2.at_ - st.at_ + 1) := by
          cases hx : (ctN s n st'.next).2.bad with
          | true => exact .inl rfl
          | false =>
            obtain ⟨y1, y2, y3⟩ := hg.ok hx
            have y4 := hp2.2.1
            have y5 := hm'.out
            have y6 := HN2.out
            have y7 : st'.next.at_ = st'.at_ + 1 := rfl
            have y8 : st'.next.deep = st'.deep := rfl
            exact .inr ⟨by omega, by omega, by omega, by simp; omega⟩
        have HX := Lib.hid (And.intro hnx (And.intro hrow5 (show (qs ++ [q]).length ≤ s.size + 2 by simp; omega)))
        clear hnx hrow5 hrow4
        go_wp2_with fail
        go_roundg m
        case measure => have := hm'.out; omega
        case rel => exact ⟨_, qs ++ [q], _, _, rfl, HX.out.2.1, hts5, hfl', HX.out.2.2, HX.out.1, hp4, hk4'⟩

theorem or_all : ∀ n, OrC n
  | 0 => fun p s st w _ _ _ _ hr => by omega
  | n + 1 => or_c n (or_all n)

abbrev tripV (a : Value) (at_ : Nat) (e : Int) : Value := .tuple #[a, .int .i64 at_, .int .i64 e]

/-- what Parse answers -/
def ParseOut (s : ByteArray) (w : World) (e : Ending) (w' : World) : Prop :=
  Kn w w' ∧ match parseO s with
  | .ok t => ∃ q : Nat, e = .returned (tripV (ptr q) 0 0) ∧ NodeAt w' t q ∧ t.size ≤ 400
  | .err at_ no => e = .returned (tripV (.pointer none) at_ no)

set_option maxRecDepth 100000 in
set_option maxHeartbeats 4000000 in
theorem Parse_c (s : ByteArray) (w : World) (hs : s.size ≤ 1099511627776) :
    Calls Try.prog 8 #[.string s] w (ParseOut s w) := by
  have hstart : Pat (w.alloc (.cells (psArr s startPS) 53 (0, 0))) w.heap.size s startPS := ⟨blk_new w _, by simp [startPS], hs⟩
  have hor := Lib.hid (or_all (s.size + 2) w.heap.size s startPS _ hstart rfl (by simp [startPS]) (by simp [startPS]) (by simp [startPS]))
  have hg := orN_good s (s.size + 2) startPS rfl (by simp [startPS]) (by simp [startPS])
  have hO : Hid (parseO s = if (orN s (s.size + 2) startPS).2.long then .err 0 3 else if (orN s (s.size + 2) startPS).2.bad || decide ((orN s (s.size + 2) startPS).2.at_ < s.size) then .err (orN s (s.size + 2) startPS).2.at_ 4 else if 400 < (orN s (s.size + 2) startPS).1.size then .err 0 3 else .ok (orN s (s.size + 2) startPS).1) := Lib.hid rfl
  have hOut : Hid (∀ (e : Ending) (w' : World), Kn w w' → (match parseO s with
      | .ok t => ∃ q : Nat, e = .returned (tripV (ptr q) 0 0) ∧ NodeAt w' t q ∧ t.size ≤ 400
      | .err at_ no => e = .returned (tripV (.pointer none) at_ no)) → ParseOut s w e w') := Lib.hid (fun e w' h1 h2 => ⟨h1, h2⟩)
  have hkfin : ∀ w', K1 w.heap.size (w.alloc (.cells (psArr s startPS) 53 (0, 0))) w' → Kn w w' := fun w' hk =>
    ((Kp.refl (fun _ => False) w).alloc _).trans' hk (fun i hi x => by omega)
  have HK := Lib.hid hkfin
  clear hkfin
  go_enter Try.func8, Try.ntmps8
  go_wp2_with fail
  refine hor.out.mono ?_
  rintro e w1 ⟨q, rfl, hq, hp, hk⟩
  have hk' := HK.out w1 hk
  clear hor hstart
  generalize orN s (s.size + 2) startPS = r at *
  obtain ⟨x0, x1, x2, x3, x4, _, _, _, _⟩ := hp.cells
  have hat := hp.2.1
  cases hlong : r.2.long with
  | true =>
    have hO' : Hid (parseO s = .err 0 3) := Lib.hid (by rw [hO.out, hlong]; rfl)
    rw [hlong] at x3
    clear hlong
    go_wp2_with fail
    refine bodyPost_ret (results_tmp3 rfl _ _ _) rfl (hOut.out _ _ hk' ?_)
    rw [hO'.out]; rfl
  | false =>
    have hL := Lib.hid hlong
    rw [hlong] at x3
    clear hlong
    cases hbad : r.2.bad with
    | true =>
      have hO' : Hid (parseO s = .err r.2.at_ 4) := Lib.hid (by rw [hO.out, hL.out, hbad]; rfl)
      rw [hbad] at x2
      clear hbad
      go_wp2_with fail
      go_quiet (fail)
      go_wp2_with fail
      refine bodyPost_ret (results_tmp3 rfl _ _ _) rfl (hOut.out _ _ (hk'.drewN _) ?_)
      rw [hO'.out]; rfl
    | false =>
      have hB := Lib.hid hbad
      rw [hbad] at x2
      by_cases hlt : r.2.at_ < s.size
      · have hO' : Hid (parseO s = .err r.2.at_ 4) := Lib.hid (by rw [hO.out, hL.out, hbad]; simp [hlt])
        have hlt' : (r.2.at_ : Int) < s.size := by omega
        clear hbad
        go_wp2_with fail
        go_quiet (fail)
        go_wp2_with fail
        refine bodyPost_ret (results_tmp3 rfl _ _ _) rfl (hOut.out _ _ (hk'.drewN _) ?_)
        rw [hO'.out]; rfl
      · have hlt' : ¬ (r.2.at_ : Int) < s.size := by omega
        obtain ⟨g1, g2, g3⟩ := hg.ok hbad
        have hsz : r.1.size ≤ 9223372036854775807 := by simp only [startPS] at g2 g3; omega
        clear g1 g2 g3 hg
        by_cases hgt : 400 < r.1.size
        · have hO' : Hid (parseO s = .err 0 3) := Lib.hid (by rw [hO.out, hL.out, hbad]; simp [hlt, hgt])
          have hgt' : (400 : Int) < (r.1.size : Int) := by omega
          clear hbad
          go_wp2_with fail
          refine (Size_c _ _ _ _ rfl hq hsz).mono ?_
          rintro e w2 ⟨rfl, rfl⟩
          go_wp2_with fail
          refine bodyPost_ret (results_tmp3 rfl _ _ _) rfl (hOut.out _ _ hk' ?_)
          rw [hO'.out]; rfl
        · have hO' : Hid (parseO s = .ok r.1) := Lib.hid (by rw [hO.out, hL.out, hbad]; simp [hlt, hgt])
          have hgt' : ¬ (400 : Int) < (r.1.size : Int) := by omega
          have hle := Lib.hid (Nat.not_lt.1 hgt)
          clear hbad
          go_wp2_with fail
          refine (Size_c _ _ _ _ rfl hq hsz).mono ?_
          rintro e w2 ⟨rfl, rfl⟩
          go_wp2_with fail
          refine bodyPost_ret (results_tmp3 rfl _ _ _) rfl (hOut.out _ _ hk' ?_)
          rw [hO'.out]
          exact ⟨q, rfl, hq, hle.out⟩

end Go.Proofs.Ytkhcnneflcbnpaa
