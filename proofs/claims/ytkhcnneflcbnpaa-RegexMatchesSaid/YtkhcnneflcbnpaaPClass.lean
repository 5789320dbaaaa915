/-
  The reader of expressions: classes of bytes: the walks. Conditions: the reader stands in memory, within its text.
-/
import Derived.Test.YtkhcnneflcbnpaaPSpan
import Derived.Deep.LoopGhost
namespace Go.Proofs.Ytkhcnneflcbnpaa
open Go.RowKit

/-- a class, behind its first letter or range -/
def clsLoop (s : ByteArray) : Nat → PS → W4 → PS × W4
  | 0, st, ws => (st, ws)
  | n + 1, st, ws => if st.bad then (st, ws) else if isB s 93 st then (isS s 93 st, ws) else clsLoop s n (spanS s st) (spanW s st ws)

theorem escS_next (s sp : ByteArray) (st : PS) (h : (escS s sp st).bad = false) : st.at_ + 1 ≤ (escS s sp st).at_ := by
  unfold escS at *
  split at h
  · rename_i h0; rw [if_pos h0]
    split at h
    · rename_i h1; rw [if_pos h1]; simp [PS.next]
    · rename_i h1; rw [if_neg h1]
      split at h
      · rename_i h2; rw [if_pos h2]; simp [PS.next]
      · rename_i h2; rw [if_neg h2]
        split at h
        · rename_i h3; rw [if_pos h3]; simp [PS.next]
        · rename_i h3; rw [if_neg h3]
          split at h
          · rename_i h4; rw [if_pos h4]
            split at h
            · rename_i h5; rw [h5] at h; cases h
            · rename_i h5; rw [if_neg h5]
              have h6 : (hexS s st).at_ = st.at_ + 2 := by
                have : (hexS s st).bad = false := by simpa using h5
                unfold hexS digitS at *
                split at this
                · rename_i h7; rw [if_pos h7]; simp [PS.next]
                · simp [PS.fail] at this
              unfold digitS at *
              split at h
              · rename_i h7; rw [if_pos h7]; simp [PS.next]; omega
              · simp [PS.fail] at h
          · rename_i h4; rw [if_neg h4]
            split at h
            · rename_i h5; rw [if_pos h5]; simp [PS.next]
            · simp [PS.fail] at h
  · simp [PS.fail] at h
theorem letS_next (s sp : ByteArray) (st : PS) (h : (letS s sp st).bad = false) : st.at_ + 1 ≤ (letS s sp st).at_ := by
  unfold letS at *
  split at h
  · rename_i h0; rw [if_pos h0]
    split at h
    · rename_i h1; rw [if_pos h1]
      have := escS_next s sp st.next h
      simp [PS.next] at *; omega
    · rename_i h1; rw [if_neg h1]
      split at h
      · rename_i h2; rw [if_pos h2]; simp [PS.next]
      · simp [PS.fail] at h
  · simp [PS.fail] at h
theorem spanS_next (s : ByteArray) (st : PS) (h : (spanS s st).bad = false) : st.at_ + 1 ≤ (spanS s st).at_ := by
  unfold spanS at *
  simp only at h ⊢
  split at h
  · rename_i h0; rw [if_pos h0]
    have h1 : (letS s specialIn st).bad = false ∧ isB s 45 (letS s specialIn st) = true := by simpa [spanRange] using h0
    have h2 := letS_next s specialIn st h1.1
    have h3 : isS s 45 (letS s specialIn st) = (letS s specialIn st).next := by simp [isS, h1.2]
    split at h
    · simp [PS.back] at h
    · rename_i h4; rw [if_neg h4]
      have h5 := letS_next s specialIn _ h
      rw [h3] at h5 ⊢
      simp [PS.next] at *; omega
  · rename_i h0; rw [if_neg h0]
    exact letS_next s specialIn st h

theorem addTo_ok {s : W4} (h : s.ok) (lo hi : Nat) : (s.addTo lo hi).ok := addN_ok h lo _
theorem spanW_ok (s : ByteArray) (st : PS) {ws : W4} (h : ws.ok) : (spanW s st ws).ok := by
  unfold spanW; split
  · exact h
  · exact addTo_ok h _ _

namespace W4
def flip (x : Int) : Int := 18446744073709551615 - x
def notN (s : W4) (k : Nat) : W4 := ⟨if 0 < k then flip s.a else s.a, if 1 < k then flip s.b else s.b, if 2 < k then flip s.c else s.c, if 3 < k then flip s.d else s.d⟩
def not (s : W4) : W4 := ⟨flip s.a, flip s.b, flip s.c, flip s.d⟩
theorem notN_zero (s : W4) : s.notN 0 = s := by simp [notN]
theorem notN_succ (s : W4) (k : Nat) (h : k < 4) : s.notN (k + 1) = (s.notN k).put k (flip (s.get k)) ∧ (s.notN k).get k = s.get k := by
  match k, h with
  | 0, _ => exact ⟨rfl, rfl⟩
  | 1, _ => exact ⟨rfl, rfl⟩
  | 2, _ => exact ⟨rfl, rfl⟩
  | 3, _ => exact ⟨rfl, rfl⟩
theorem notN_end (s : W4) : s.notN 4 = s.not := rfl
theorem not_ok {s : W4} (h : s.ok) : s.not.ok := by
  unfold ok not flip at *; simp only; omega
end W4

theorem SetAt.four {w : World} {q : Nat} {s : W4} (h : SetAt w q s) : w.cell? ⟨q, 0, none⟩ = some (.int .u64 s.a) ∧ w.cell? ⟨q, 1, none⟩ = some (.int .u64 s.b) ∧ w.cell? ⟨q, 2, none⟩ = some (.int .u64 s.c) ∧ w.cell? ⟨q, 3, none⟩ = some (.int .u64 s.d) :=
  ⟨cell_blk h 0, cell_blk h 1, cell_blk h 2, cell_blk h 3⟩

theorem xor_max (x : Int) (h : 0 ≤ x ∧ x < 18446744073709551616) : bits .xor .u64 (if IntKind.u64.signed = true then -1 else IntKind.u64.max) x = W4.flip x := by
  obtain ⟨n, rfl⟩ := Int.eq_ofNat_of_zero_le h.1
  have hn : n < 18446744073709551616 := by omega
  have e : (if IntKind.u64.signed = true then -1 else IntKind.u64.max) = ((18446744073709551615 : Nat) : Int) := by decide
  rw [e, bits_xor_u64_nat _ _ (by omega) hn]
  have key : (18446744073709551615 : Nat) ^^^ n = 18446744073709551615 - n := by
    apply Nat.eq_of_testBit_eq
    intro i
    rw [Nat.testBit_xor]
    have h1 : Nat.testBit 18446744073709551615 i = decide (i < 64) := Nat.testBit_two_pow_sub_one 64 i
    have h2 : Nat.testBit (18446744073709551615 - n) i = (decide (i < 64) && !Nat.testBit n i) := by
      have := Nat.testBit_two_pow_sub_succ (n := 64) (x := n) (by simpa using hn) i
      rw [← this]; congr 1; omega
    rw [h1, h2]
    by_cases hi : i < 64
    · simp [hi]
    · have : Nat.testBit n i = false := Nat.testBit_lt_two_pow (Nat.lt_of_lt_of_le hn (by have := Nat.pow_le_pow_right (n := 2) (by decide) (show 64 ≤ i by omega); omega))
      simp [hi, this]
  rw [key]; unfold W4.flip; omega

/-- the node of a set that stands in memory -/
theorem SetOf_c (ws : W4) (hok : ws.ok) (w : World) :
    Calls Try.prog 17 #[.agg (wordsV ws)] w fun e w' => ∃ q : Nat, e = .returned (ptr q) ∧ NodeAt w' (.set ws) q ∧ Kn w w' :=
  (Set_c ws w).mono fun _ _ ⟨he, hw⟩ => ⟨_, he, by
    rw [hw]
    refine ⟨hok, ?_⟩
    have := blk_new (w.alloc (.cells (wordsV ws) 41)) (ndObj 0 ws sl0)
    simpa using this, by rw [hw]; exact ((Kp.refl _ w).alloc _).alloc _⟩

/-- what a class means, and where the reader stands behind it -/
def clsR (s : ByteArray) (st : PS) : PS × W4 :=
  let st1 := isS s 94 st
  let r := clsLoop s (s.size + 2) (spanS s st1) (spanW s st1 W4.zero)
  (r.1, if isB s 94 st then r.2.not else r.2)

set_option maxRecDepth 100000 in
set_option maxHeartbeats 4000000 in
theorem class_c (p : Nat) (s : ByteArray) (st : PS) (w : World) (h : Pat w p s st) :
    Calls Try.prog 46 #[ptr p] w fun e w' => ∃ q : Nat, e = .returned (ptr q) ∧ NodeAt w' (.set (clsR s st).2) q ∧ Pat w' p s (clsR s st).1 ∧ K1 p w w' := by
  have hpl := h.lt
  have hR : Hid ((clsR s st).1 = (clsLoop s (s.size + 2) (spanS s (isS s 94 st)) (spanW s (isS s 94 st) W4.zero)).1) := Lib.hid rfl
  have hRW : Hid ((clsR s st).2 = if isB s 94 st then (clsLoop s (s.size + 2) (spanS s (isS s 94 st)) (spanW s (isS s 94 st) W4.zero)).2.not else (clsLoop s (s.size + 2) (spanS s (isS s 94 st)) (spanW s (isS s 94 st) W4.zero)).2) := Lib.hid rfl
  go_enter Try.func46, Try.ntmps46
  go_wp2_with fail
  refine (is_c 94 p s st w h).mono ?_
  rintro e w1 ⟨rfl, hp1, hk1⟩
  have hpl1 : p < w1.heap.size := hk1.lt hpl
  have hne : w1.heap.size ≠ p := by omega
  have hs2 : SetAt (w1.alloc (.cells (wordsV W4.zero) 41)) w1.heap.size W4.zero := blk_new w1 _
  have hp2 := hp1.kn ((Kp.refl _ w1).alloc (.cells (wordsV W4.zero) 41))
  have hk2 : K1 p w (w1.alloc (.cells (wordsV W4.zero) 41)) := hk1.alloc _
  go_wp2_with fail
  refine (span_c p w1.heap.size hne s _ W4.zero _ hp2 hs2).mono ?_
  rintro e w3 ⟨rfl, hp3, hs3, hk3⟩
  have hql : w.heap.size ≤ w1.heap.size := hk1.size
  have hk3' : K1 p w w3 := hk2.trans' hk3 (fun i hi x => x.elim id (fun e => by omega))
  have hok3 := spanW_ok s (isS s 94 st) zero_ok
  have hn3 : (spanS s (isS s 94 st)).bad = true ∨ s.size - (spanS s (isS s 94 st)).at_ < s.size + 2 := .inr (by omega)
  generalize hg1 : spanS s (isS s 94 st) = st3 at *
  generalize hg2 : spanW s (isS s 94 st) W4.zero = ws3 at *
  clear hg1 hg2
  obtain ⟨B, hB⟩ : ∃ B, B = w1.heap.size := ⟨_, rfl⟩
  rw [← hB] at hs3 hql hne
  rw [← hB]
  have hB' := Lib.hid hB
  clear hB hs2 hk2 hk3 hp2
  go_wp2_with fail
  go_loopg [] (s.size + 2) (fun n wr => ∃ (st' : PS) (ws' : W4), Hid (clsLoop s n st' ws' = clsLoop s (s.size + 2) st3 ws3) ∧ (st'.bad = true ∨ s.size - st'.at_ < n) ∧ ws'.ok ∧ Pat wr p s st' ∧ SetAt wr B ws' ∧ K1 p w wr)
  case atStart => exact ⟨st3, ws3, Lib.hid rfl, hn3, hok3, hp3, hs3, hk3'⟩
  case round =>
    obtain ⟨st', ws', hcl, hn, hok, hp4, hs4, hk4⟩ := hrel
    obtain ⟨x0, x1, x2, x3, x4, _, _, _, _⟩ := hp4.cells
    cases hbad : st'.bad with
    | true =>
      have hBad := Lib.hid hbad
      have hE0 : Hid ((st', ws') = clsLoop s (s.size + 2) st3 ws3) := Lib.hid (by
        rw [← hcl.out]; cases gk with
        | zero => rfl
        | succ n => simp [clsLoop, hBad.out])
      rw [hbad] at x2
      clear hbad hn
      have PX := hp4
      have SX := hs4
      have KX := hk4
      have hE1 : Hid ((clsR s st).1 = st') := Lib.hid (by rw [hR.out, ← hE0.out])
      cases hnot : isB s 94 st with
      | false =>
        have hE2 : Hid ((clsR s st).2 = ws') := Lib.hid (by rw [hRW.out, ← hE0.out, hnot]; rfl)
        obtain ⟨v0, v1, v2, v3⟩ := SX.four
        go_wp2_with fail
        refine (SetOf_c ws' hok _).mono ?_
        rintro e w5 ⟨q5, rfl, hq5, hk5⟩
        go_wp2_with fail
        go_ret
        exact ⟨q5, rfl, by rw [hE2.out]; exact hq5, by rw [hE1.out]; exact PX.kn hk5, KX.trans hk5.weak⟩
      | true =>
        have hE2 : Hid ((clsR s st).2 = (ws').not) := Lib.hid (by rw [hRW.out, ← hE0.out, hnot]; rfl)
        go_wp2_with fail
        go_loopw [27] (fun i wr => ∃ k : Nat, k ≤ 4 ∧ i = .int .i64 k ∧ SetAt wr B ((ws').notN k) ∧ Pat wr p s st' ∧ K1 p w wr) (fun i _ => 4 - (intOf i).toNat)
        case atStart => exact ⟨0, by omega, rfl, by rw [W4.notN_zero]; exact SX, PX, KX⟩
        case round =>
          obtain ⟨k, hk4, rfl, SY, PY, KY⟩ := hrel
          by_cases hlt : k < 4
          · have hlt' : (k : Int) < 4 := by omega
            obtain ⟨hn1, hn2⟩ := W4.notN_succ ws' k hlt
            have hg := SY.get k hlt
            rw [hn2] at hg
            have hfz : wr.frozen? ⟨B, k, none⟩ = false := frozen_blk SY _
            have hsp := SY.put k hlt (W4.flip ((ws').get k))
            rw [← hn1] at hsp
            have hgr := get_range hok k
            clear hn1 hn2
            generalize (ws').get k = x at *
            go_wp2_with fail
            go_roundw
            case rel =>
              refine ⟨k + 1, by omega, by go_num, ?_, ?_, ?_⟩
              · rw [xor_max x hgr]; exact hsp
              · exact ⟨blk_set_ne PY.1 (Ne.symm hne) _ _, PY.2⟩
              · exact KY.setCell (p := ⟨B, k, none⟩) (fun hx => absurd (show B < w.heap.size from hx) (by omega)) _
            case measure => simp [intOf]; omega
          · have hk : k = 4 := by omega
            have hE3 : Hid ((ws').notN k = (ws').not) := Lib.hid (by rw [hk]; rfl)
            rw [hE3.out] at SY
            obtain ⟨v0, v1, v2, v3⟩ := SY.four
            go_wp2_with fail
            refine (SetOf_c (ws').not (W4.not_ok hok) _).mono ?_
            rintro e w5 ⟨q5, rfl, hq5, hk5⟩
            go_wp2_with fail
            go_ret
            exact ⟨q5, rfl, by rw [hE2.out]; exact hq5, by rw [hE1.out]; exact PY.kn hk5, KY.trans hk5.weak⟩
    | false =>
      have hBad := Lib.hid hbad
      have hn' : s.size - st'.at_ < gk := by
        rcases hn with h | h
        · rw [hbad] at h; cases h
        · exact h
      rw [hbad] at x2
      clear hbad hn
      obtain ⟨m, hm⟩ : ∃ m, gk = m + 1 := ⟨gk - 1, by omega⟩
      have hm' := Lib.hid hm
      clear hm
      cases hi : isB s 93 st' with
      | true =>
        have hI := Lib.hid hi
        have hE0 : Hid ((isS s 93 st', ws') = clsLoop s (s.size + 2) st3 ws3) := Lib.hid (by
          rw [← hcl.out, hm'.out]; simp [clsLoop, hBad.out, hI.out])
        clear hi
        go_wp2_with fail
        refine (is_c 93 p s st' wr hp4).mono ?_
        rintro e w4 ⟨rfl, hp5, hk5⟩
        rw [hI.out]
        have hs5 := hs4.kp hk5 (fun x => hne x)
        have hk5' := hk4.trans hk5
        clear x0 x1 x2 x3 x4
        have PX := hp5
        have SX := hs5
        have KX := hk5'
        have hE1 : Hid ((clsR s st).1 = (isS s 93 st')) := Lib.hid (by rw [hR.out, ← hE0.out])
        cases hnot : isB s 94 st with
        | false =>
          have hE2 : Hid ((clsR s st).2 = ws') := Lib.hid (by rw [hRW.out, ← hE0.out, hnot]; rfl)
          obtain ⟨v0, v1, v2, v3⟩ := SX.four
          go_wp2_with fail
          refine (SetOf_c ws' hok _).mono ?_
          rintro e w5 ⟨q5, rfl, hq5, hk5⟩
          go_wp2_with fail
          go_ret
          exact ⟨q5, rfl, by rw [hE2.out]; exact hq5, by rw [hE1.out]; exact PX.kn hk5, KX.trans hk5.weak⟩
        | true =>
          have hE2 : Hid ((clsR s st).2 = (ws').not) := Lib.hid (by rw [hRW.out, ← hE0.out, hnot]; rfl)
          go_wp2_with fail
          go_loopw [27] (fun i wr => ∃ k : Nat, k ≤ 4 ∧ i = .int .i64 k ∧ SetAt wr B ((ws').notN k) ∧ Pat wr p s (isS s 93 st') ∧ K1 p w wr) (fun i _ => 4 - (intOf i).toNat)
          case atStart => exact ⟨0, by omega, rfl, by rw [W4.notN_zero]; exact SX, PX, KX⟩
          case round =>
            obtain ⟨k, hk4, rfl, SY, PY, KY⟩ := hrel
            by_cases hlt : k < 4
            · have hlt' : (k : Int) < 4 := by omega
              obtain ⟨hn1, hn2⟩ := W4.notN_succ ws' k hlt
              have hg := SY.get k hlt
              rw [hn2] at hg
              have hfz : wr.frozen? ⟨B, k, none⟩ = false := frozen_blk SY _
              have hsp := SY.put k hlt (W4.flip ((ws').get k))
              rw [← hn1] at hsp
              have hgr := get_range hok k
              clear hn1 hn2
              generalize (ws').get k = x at *
              go_wp2_with fail
              go_roundw
              case rel =>
                refine ⟨k + 1, by omega, by go_num, ?_, ?_, ?_⟩
                · rw [xor_max x hgr]; exact hsp
                · exact ⟨blk_set_ne PY.1 (Ne.symm hne) _ _, PY.2⟩
                · exact KY.setCell (p := ⟨B, k, none⟩) (fun hx => absurd (show B < w.heap.size from hx) (by omega)) _
              case measure => simp [intOf]; omega
            · have hk : k = 4 := by omega
              have hE3 : Hid ((ws').notN k = (ws').not) := Lib.hid (by rw [hk]; rfl)
              rw [hE3.out] at SY
              obtain ⟨v0, v1, v2, v3⟩ := SY.four
              go_wp2_with fail
              refine (SetOf_c (ws').not (W4.not_ok hok) _).mono ?_
              rintro e w5 ⟨q5, rfl, hq5, hk5⟩
              go_wp2_with fail
              go_ret
              exact ⟨q5, rfl, by rw [hE2.out]; exact hq5, by rw [hE1.out]; exact PY.kn hk5, KY.trans hk5.weak⟩
      | false =>
        have hI := Lib.hid hi
        have hcl' : Hid (clsLoop s m (spanS s st') (spanW s st' ws') = clsLoop s (s.size + 2) st3 ws3) := Lib.hid (by
          rw [← hcl.out, hm'.out]; simp [clsLoop, hBad.out, hI.out])
        have hIS : Hid (isS s 93 st' = st') := Lib.hid (by simp [isS, hI.out])
        clear hi
        go_wp2_with fail
        refine (is_c 93 p s st' wr hp4).mono ?_
        rintro e w4 ⟨rfl, hp5, hk5⟩
        rw [hI.out]
        rw [hIS.out] at hp5
        have hs5 := hs4.kp hk5 (fun x => hne x)
        have hk5' := hk4.trans hk5
        clear x0 x1 x2 x3 x4
        go_wp2_with fail
        refine (span_c p B hne s st' ws' _ hp5 hs5).mono ?_
        rintro e w6 ⟨rfl, hp6, hs6, hk6⟩
        have hk6' : K1 p w w6 := hk5'.trans' hk6 (fun i hi x => x.elim id (fun e => by omega))
        have hnx : (spanS s st').bad = true ∨ s.size - (spanS s st').at_ < m := by
          cases hx : (spanS s st').bad with
          | true => exact .inl rfl
          | false =>
            have h1 := spanS_next s st' hx
            have h2 := hp6.2.1
            have h3 := hm'.out
            exact .inr (by omega)
        have hnx' := Lib.hid hnx
        clear hnx
        go_wp2_with fail
        go_roundg m
        case measure => have h3 := hm'.out; omega
        case rel => exact ⟨spanS s st', spanW s st' ws', hcl', hnx'.out, spanW_ok s st' hok, hp6, hs6, hk6'⟩
end Go.Proofs.Ytkhcnneflcbnpaa
