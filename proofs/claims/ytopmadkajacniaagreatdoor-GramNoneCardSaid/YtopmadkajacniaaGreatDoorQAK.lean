/-
  Texts of this claim, laid together: GTake2, GIdx, GPart2, GLkMem, GItoa, GPp. Conditions: none.
-/
import Derived.Test.YtopmadkajacniaaGreatDoorQAJ
import Derived.Test.YtopmadkajacniaaGreatDoorQAA
set_option linter.unusedVariables false
set_option linter.unusedSimpArgs false
namespace Go.Proofs.YtopmadkajacniaaGreatDoor
open Go.RowKit Go.Maps
theorem RS.take_words {R : RS} {n : Nat} {s h : ByteArray} {l : List ByteArray} (h0 : ¬ s.size = 0) (h1 : ¬ bt s 0 = 35) (hw : splitW s = h :: l) :
  R.take n s = if h = tokenB then R.token l false else if h = layoutB then R.token l true else if h = sortB then R.sort_ l
   else if h = ruleB then R.rule n l else if h = bracketB then R.bracket n l else none := by
 unfold RS.take
 rw [if_neg (by rintro (h2 | h2); exact h0 h2; exact h1 h2), hw]
set_option maxRecDepth 100000 in
set_option maxHeartbeats 8000000 in
theorem take_c {B p num : Nat} {R : RS} {A : RA} {w : World} (s : ByteArray) (h : RdAt w B p R A) (ok : RSok R) (hm : MaxLenAt w) (hs : s.size ≤ 1000000) (hnum : num ≤ 2000000) :
  Calls Tryz.prog 67 #[ptr p, .int .i64 num, .string s] w (ErrPost B p A (R.take num s) w) := by
 by_cases h0 : s.size = 0
 ·have he := isE_true h0
  have hF : Hid (R.take num s = some R) := Lib.hid (by unfold RS.take; rw [if_pos (.inl h0)])
  have H := Lib.hid (And.intro h ok)
  clear h ok h0
  go_enter Tryz.func67, Tryz.ntmps67
  go_wp2_with fail
  go_ret
  refine ⟨0, rfl, Kp.refl _ _, ?_⟩
  rw [hF.out]; exact ⟨rfl, H.out.2, A, H.out.1, rfl, rfl⟩
 ·have he := isE_false h0
  have hlt : 0 < s.size := by omega
  have hlt' : (0 : Int) < s.size := by omega
  have hE := bt_in hlt
  by_cases h1 : bt s 0 = 35
  ·have i1 : (((s[0].toNat : Nat) : Int) == 35) = true := by rw [← hE]; simp [h1]
   have hF : Hid (R.take num s = some R) := Lib.hid (by unfold RS.take; rw [if_pos (.inr h1)])
   have H := Lib.hid (And.intro h ok)
   clear h ok h1 hE
   go_enter Tryz.func67, Tryz.ntmps67
   go_wp2_with fail
   go_ret
   refine ⟨0, rfl, Kp.refl _ _, ?_⟩
   rw [hF.out]; exact ⟨rfl, H.out.2, A, H.out.1, rfl, rfl⟩
  ·have i1 : (((s[0].toNat : Nat) : Int) == 35) = false := by rw [← hE]; simp; omega
   obtain ⟨hd, l, hsp⟩ : ∃ hd l, splitW s = hd :: l := by
    have := splitW_len s
    cases hx : splitW s with
    | nil => rw [hx] at this; simp at this
    | cons a l => exact ⟨a, l, rfl⟩
   have HSZ : Hid (∀ x ∈ hd :: l, x.size ≤ 1000000) := Lib.hid (fun x hx => by have := splitW_size s x (by rw [hsp]; exact hx); omega)
   have hlen : l.length ≤ 1000000 := by
    have e1 := splitW_len s
    have e2 := countB_le1 s
    rw [hsp] at e1
    simp at e1; omega
   have hF := RS.take_words (R := R) (n := num) h0 h1 hsp
   have hSP := split_c s w hm (by omega)
   rw [hsp] at hSP
   simp only [List.length_cons] at hSP
   obtain ⟨bl, hbl⟩ : ∃ z, z = w.heap.size := ⟨_, rfl⟩
   obtain ⟨w1, hw1⟩ : ∃ z, z = w.alloc (.cells ((hd :: l).map Value.string).toArray TS) := ⟨_, rfl⟩
   rw [← hbl, ← hw1] at hSP
   have HSP := Lib.hid hSP
   have hk1 : Kn w w1 := by rw [hw1]; exact (Kp.refl _ _).alloc _
   have hbb : w1.heap[bl]? = some (.cells ((hd :: l).map Value.string).toArray TS (0, 0)) := by rw [hw1, hbl]; exact blk_new _ _
   have x0 : w1.cell? ⟨bl, 0, none⟩ = some (.string hd) := by rw [cell_blk hbb]; rfl
   have HWL : Hid (WL w1 bl 1 l) := Lib.hid (fun i hi => by
    rw [cell_blk hbb, List.getElem?_toArray, List.getElem?_map, show 1 + i = i + 1 by omega, List.getElem?_cons_succ, List.getElem?_eq_getElem hi]; rfl)
   have HO : Hid (Off A p bl) := Lib.hid ⟨by have := h.lt; omega, fun g hg => by have := (h.lits.lt g hg).2; omega, fun g hg => by have := (h.sorts.lt g hg).2; omega, by have := h.names.lt; omega, by have := h.cons.lt; omega, by have := h.rounds.lt; omega⟩
   have HR := Lib.hid (h.kn hk1)
   have HM := Lib.hid (hm.kn hk1)
   have HOK := Lib.hid ok
   have HK1 := Lib.hid hk1
   have HF := Lib.hid hF
   clear h ok hm hF hSP hbl hw1 hk1 hbb hsp h1 h0 hE
   by_cases h1 : hd = tokenB
   ·have c1 : (hd.toList == [116, 111, 107, 101, 110]) = true := by rw [str_eq]; exact decide_eq_true h1
    have hF2 : Hid (R.take num s = R.token l false) := Lib.hid (by rw [HF.out, if_pos h1])
    clear h1
    by_cases hl0 : l = []
    ·subst hl0
     have hF3 : Hid (R.take num s = none) := Lib.hid (by rw [hF2.out]; exact R.token_not [] _ (by simp))
     simp only [List.length_nil, Nat.zero_add] at HSP
     go_enter Tryz.func67, Tryz.ntmps67
     go_wp2_with fail
     refine HSP.out.mono ?_
     rintro e9 w9 ⟨rfl, rfl⟩
     go_wp2_with fail
     refine (token_nil (p := p) (c := 0) false).mono ?_
     rintro e9 w8 ⟨rfl, rfl⟩
     go_wp2_with fail
     go_ret
     exact ErrPost.none hF3.out (by decide) (kn_b HK1.out)
    ·have hl1 : 0 < l.length := List.length_pos_iff.2 hl0
     have hl2 : ¬ l.length = 0 := by omega
     have hl3 : (0 : Int) < l.length := by omega
     clear hl0
     go_enter Tryz.func67, Tryz.ntmps67
     go_wp2_with fail
     refine HSP.out.mono ?_
     rintro e9 w9 ⟨rfl, rfl⟩
     go_wp2_with fail
     refine (token_c (c := l.length) l false HR.out HOK.out HWL.out HO.out (by omega) (fun x hx => by have := HSZ.out x (by simp [hx]); omega)).mono ?_
     rintro e9 w8 ⟨n9, rfl, hkz, hmz⟩
     go_wp2_with fail
     go_ret
     refine ⟨n9, rfl, (kn_b HK1.out).trans hkz, ?_⟩
     rw [hF2.out]; exact hmz
   ·have c1 : (hd.toList == [116, 111, 107, 101, 110]) = false := by rw [str_eq]; exact decide_eq_false h1
    by_cases h2 : hd = layoutB
    ·have c2 : (hd.toList == [108, 97, 121, 111, 117, 116]) = true := by rw [str_eq]; exact decide_eq_true h2
     have hF2 : Hid (R.take num s = R.token l true) := Lib.hid (by rw [HF.out, if_neg h1, if_pos h2])
     clear h2 h1
     by_cases hl0 : l = []
     ·subst hl0
      have hF3 : Hid (R.take num s = none) := Lib.hid (by rw [hF2.out]; exact R.token_not [] _ (by simp))
      simp only [List.length_nil, Nat.zero_add] at HSP
      go_enter Tryz.func67, Tryz.ntmps67
      go_wp2_with fail
      refine HSP.out.mono ?_
      rintro e9 w9 ⟨rfl, rfl⟩
      go_wp2_with fail
      refine (token_nil (p := p) (c := 0) true).mono ?_
      rintro e9 w8 ⟨rfl, rfl⟩
      go_wp2_with fail
      go_ret
      exact ErrPost.none hF3.out (by decide) (kn_b HK1.out)
     ·have hl1 : 0 < l.length := List.length_pos_iff.2 hl0
      have hl2 : ¬ l.length = 0 := by omega
      have hl3 : (0 : Int) < l.length := by omega
      clear hl0
      go_enter Tryz.func67, Tryz.ntmps67
      go_wp2_with fail
      refine HSP.out.mono ?_
      rintro e9 w9 ⟨rfl, rfl⟩
      go_wp2_with fail
      refine (token_c (c := l.length) l true HR.out HOK.out HWL.out HO.out (by omega) (fun x hx => by have := HSZ.out x (by simp [hx]); omega)).mono ?_
      rintro e9 w8 ⟨n9, rfl, hkz, hmz⟩
      go_wp2_with fail
      go_ret
      refine ⟨n9, rfl, (kn_b HK1.out).trans hkz, ?_⟩
      rw [hF2.out]; exact hmz
    ·have c2 : (hd.toList == [108, 97, 121, 111, 117, 116]) = false := by rw [str_eq]; exact decide_eq_false h2
     by_cases h3 : hd = sortB
     ·have c3 : (hd.toList == [115, 111, 114, 116]) = true := by rw [str_eq]; exact decide_eq_true h3
      have hF2 : Hid (R.take num s = R.sort_ l) := Lib.hid (by rw [HF.out, if_neg h1, if_neg h2, if_pos h3])
      clear h3 h1 h2
      by_cases hl0 : l = []
      ·subst hl0
       have hF3 : Hid (R.take num s = none) := Lib.hid (by rw [hF2.out]; exact rfl)
       simp only [List.length_nil, Nat.zero_add] at HSP
       go_enter Tryz.func67, Tryz.ntmps67
       go_wp2_with fail
       refine HSP.out.mono ?_
       rintro e9 w9 ⟨rfl, rfl⟩
       go_wp2_with fail
       refine (sort_nil (p := p) (c := 0)).mono ?_
       rintro e9 w8 ⟨rfl, rfl⟩
       go_wp2_with fail
       go_ret
       exact ErrPost.none hF3.out (by decide) (kn_b HK1.out)
      ·have hl1 : 0 < l.length := List.length_pos_iff.2 hl0
       have hl2 : ¬ l.length = 0 := by omega
       have hl3 : (0 : Int) < l.length := by omega
       clear hl0
       go_enter Tryz.func67, Tryz.ntmps67
       go_wp2_with fail
       refine HSP.out.mono ?_
       rintro e9 w9 ⟨rfl, rfl⟩
       go_wp2_with fail
       refine (sort_c (c := l.length) l HR.out HOK.out HWL.out HO.out (by omega) (fun x hx => by have := HSZ.out x (by simp [hx]); omega)).mono ?_
       rintro e9 w8 ⟨n9, rfl, hkz, hmz⟩
       go_wp2_with fail
       go_ret
       refine ⟨n9, rfl, (kn_b HK1.out).trans hkz, ?_⟩
       rw [hF2.out]; exact hmz
     ·have c3 : (hd.toList == [115, 111, 114, 116]) = false := by rw [str_eq]; exact decide_eq_false h3
      by_cases h4 : hd = ruleB
      ·have c4 : (hd.toList == [114, 117, 108, 101]) = true := by rw [str_eq]; exact decide_eq_true h4
       have hF2 : Hid (R.take num s = R.rule num l) := Lib.hid (by rw [HF.out, if_neg h1, if_neg h2, if_neg h3, if_pos h4])
       clear h4 h1 h2 h3
       by_cases hl0 : l = []
       ·subst hl0
        have hF3 : Hid (R.take num s = none) := Lib.hid (by rw [hF2.out]; exact R.rule_short num [] (by simp))
        simp only [List.length_nil, Nat.zero_add] at HSP
        go_enter Tryz.func67, Tryz.ntmps67
        go_wp2_with fail
        refine HSP.out.mono ?_
        rintro e9 w9 ⟨rfl, rfl⟩
        go_wp2_with fail
        refine (rule_nil (p := p) (c := 0) (num := num)).mono ?_
        rintro e9 w8 ⟨rfl, rfl⟩
        go_wp2_with fail
        go_ret
        exact ErrPost.none hF3.out (by decide) (kn_b HK1.out)
       ·have hl1 : 0 < l.length := List.length_pos_iff.2 hl0
        have hl2 : ¬ l.length = 0 := by omega
        have hl3 : (0 : Int) < l.length := by omega
        clear hl0
        go_enter Tryz.func67, Tryz.ntmps67
        go_wp2_with fail
        refine HSP.out.mono ?_
        rintro e9 w9 ⟨rfl, rfl⟩
        go_wp2_with fail
        refine (grule_c (c0 := l.length) (num := num) l HR.out HOK.out HM.out HWL.out HO.out (by omega) (Nat.le_refl _) (fun x hx => HSZ.out x (by simp [hx])) hnum).mono ?_
        rintro e9 w8 ⟨n9, rfl, hkz, hmz⟩
        go_wp2_with fail
        go_ret
        refine ⟨n9, rfl, (kn_b HK1.out).trans hkz, ?_⟩
        rw [hF2.out]; exact hmz
      ·have c4 : (hd.toList == [114, 117, 108, 101]) = false := by rw [str_eq]; exact decide_eq_false h4
       by_cases h5 : hd = bracketB
       ·have c5 : (hd.toList == [98, 114, 97, 99, 107, 101, 116]) = true := by rw [str_eq]; exact decide_eq_true h5
        have hF2 : Hid (R.take num s = R.bracket num l) := Lib.hid (by rw [HF.out, if_neg h1, if_neg h2, if_neg h3, if_neg h4, if_pos h5])
        clear h5 h1 h2 h3 h4
        by_cases hl0 : l = []
        ·subst hl0
         have hF3 : Hid (R.take num s = none) := Lib.hid (by rw [hF2.out]; exact R.bracket_not num [] (by simp))
         simp only [List.length_nil, Nat.zero_add] at HSP
         go_enter Tryz.func67, Tryz.ntmps67
         go_wp2_with fail
         refine HSP.out.mono ?_
         rintro e9 w9 ⟨rfl, rfl⟩
         go_wp2_with fail
         refine (bracket_nil (p := p) (c := 0) (num := num)).mono ?_
         rintro e9 w8 ⟨rfl, rfl⟩
         go_wp2_with fail
         go_ret
         exact ErrPost.none hF3.out (by decide) (kn_b HK1.out)
        ·have hl1 : 0 < l.length := List.length_pos_iff.2 hl0
         have hl2 : ¬ l.length = 0 := by omega
         have hl3 : (0 : Int) < l.length := by omega
         clear hl0
         go_enter Tryz.func67, Tryz.ntmps67
         go_wp2_with fail
         refine HSP.out.mono ?_
         rintro e9 w9 ⟨rfl, rfl⟩
         go_wp2_with fail
         refine (bracket_c (c0 := l.length) (num := num) l HR.out HOK.out HWL.out HO.out (by omega) (fun x hx => HSZ.out x (by simp [hx])) hnum).mono ?_
         rintro e9 w8 ⟨n9, rfl, hkz, hmz⟩
         go_wp2_with fail
         go_ret
         refine ⟨n9, rfl, (kn_b HK1.out).trans hkz, ?_⟩
         rw [hF2.out]; exact hmz
       ·have c5 : (hd.toList == [98, 114, 97, 99, 107, 101, 116]) = false := by rw [str_eq]; exact decide_eq_false h5
        have hF2 : Hid (R.take num s = none) := Lib.hid (by rw [HF.out, if_neg h1, if_neg h2, if_neg h3, if_neg h4, if_neg h5])
        clear h1 h2 h3 h4 h5
        go_enter Tryz.func67, Tryz.ntmps67
        go_wp2_with fail
        refine HSP.out.mono ?_
        rintro e9 w9 ⟨rfl, rfl⟩
        go_wp2_with fail
        go_ret
        exact ErrPost.none hF2.out (by decide) (kn_b HK1.out)
end Go.Proofs.YtopmadkajacniaaGreatDoor
namespace Go.Proofs.YtopmadkajacniaaGreatDoor
open Go.RowKit Go.Maps
def clIdx (cs : List GC) (x : ByteArray) (k : Nat) : Prop := ∀ j (h : j < cs.length), j < k → cs[j].name ≠ x
theorem str_eq2 (a b : ByteArray) : (a.toList == b.toList) = decide (a = b) := by
 rw [str_eq]
 congr 1
 rw [Lib.toList_data]
set_option maxHeartbeats 1000000 in
theorem class1_c {bx : Nat} {w : World} (c : GC) (x : ByteArray) (hb : w.heap[bx]? = some (.cells #[.string x] TS (0, 0))) :
  Calls Tryz.prog 207 #[.agg #[.string c.name, .string c.regex, .bool c.layout], .pointer (some ⟨bx, 0, none⟩)] w fun e w' => e = .returned (.bool (decide (c.name = x))) ∧ Kn w w' := by
 have c0 : w.cell? ⟨bx, 0, none⟩ = some (.string x) := by rw [cell_blk hb]; rfl
 have hl := blk_lt hb
 have hE := Lib.hid (str_eq2 c.name x)
 clear hb
 go_enter Tryz.func207, Tryz.ntmps207
 go_wp2_with fail
 go_ret
 exact ⟨by rw [← hE.out]; rfl, (Kp.refl _ _).alloc _⟩
def idxC (cs : List GC) (x : ByteArray) : Int := match cs.findIdx? (fun c => decide (c.name = x)) with | some i => (i : Int) | none => -1
theorem clIdx_some {cs : List GC} {x : ByteArray} {k : Nat} (h : clIdx cs x k) (hk : k < cs.length) (hx : cs[k].name = x) : cs.findIdx? (fun c => decide (c.name = x)) = some k := by
 rw [List.findIdx?_eq_some_iff_getElem]
 exact ⟨hk, decide_eq_true hx, fun j hj => by simpa using h j (by omega) hj⟩
theorem clIdx_none {cs : List GC} {x : ByteArray} (h : clIdx cs x cs.length) : cs.findIdx? (fun c => decide (c.name = x)) = none := by
 rw [List.findIdx?_eq_none_iff]
 intro c hc
 obtain ⟨j, hj, rfl⟩ := List.getElem_of_mem hc
 exact decide_eq_false (h j hj hj)
set_option maxRecDepth 100000 in
set_option maxHeartbeats 8000000 in
theorem indexFunc_c {B bx : Nat} {v : Value} {cs : List GC} {w : World} (x : ByteArray) (h : OwnK w B TCl 3 v (cs.map clL)) (hb : w.heap[bx]? = some (.cells #[.string x] TS (0, 0))) (hl : cs.length ≤ 1000) :
  Calls Tryz.prog 206 #[v, .func (.func 207) #[] #[.pointer (some ⟨bx, 0, none⟩)]] w fun e w' => e = .returned (.int .i64 (idxC cs x)) ∧ Kn w w' := by
 obtain ⟨a, c, rfl, _, _, hg⟩ := h.row (fun C hC => by obtain ⟨x, _, rfl⟩ := List.mem_map.1 hC; rfl)
 rw [List.length_map] at *
 have H := Lib.hid h
 have HB := Lib.hid hb
 clear h hb
 go_enter Tryz.func206, Tryz.ntmps206
 go_wp2_with fail
 go_loopw [8] (fun s8 wr => ∃ k : Nat, s8 = .int .i64 k ∧ k ≤ cs.length ∧ Hid (clIdx cs x k) ∧ Kn w wr) (fun s8 _ => cs.length - (intOf s8).toNat)
 case atStart => exact ⟨0, rfl, Nat.zero_le _, Lib.hid (fun j h1 h2 => by omega), Kp.refl _ _⟩
 case round =>
  obtain ⟨k, rfl, hk, hno, hkn⟩ := hrel
  by_cases hlt : k < cs.length
  ·obtain ⟨g, rfl, _, _, hcs⟩ := hg (fun e => by rw [List.map_eq_nil_iff] at e; subst e; simp at hlt)
   have h3 := hcs k (by simpa using hlt)
   have c0 : wr.cell? ⟨g, k * 3, none⟩ = some (.string cs[k].name) := by
    have := (h3 0 (by omega)).1; rw [show 0 + 3 * k + 0 = k * 3 by omega] at this; refine kn_cell hkn ?_; rw [this]; simp [clL]
   have c1 : wr.cell? ⟨g, k * 3 + 1, none⟩ = some (.string cs[k].regex) := by
    have := (h3 1 (by omega)).1; rw [show 0 + 3 * k + 1 = k * 3 + 1 by omega] at this; refine kn_cell hkn ?_; rw [this]; simp [clL]
   have c2 : wr.cell? ⟨g, k * 3 + 2, none⟩ = some (.bool cs[k].layout) := by
    have := (h3 2 (by omega)).1; rw [show 0 + 3 * k + 2 = k * 3 + 2 by omega] at this; refine kn_cell hkn ?_; rw [this]; simp [clL]
   obtain ⟨y, hy⟩ : ∃ y, y = cs[k] := ⟨_, rfl⟩
   rw [← hy] at c0 c1 c2
   have HC1 := Lib.hid (class1_c y x (hkn.blk HB.out (fun x => x)))
   have HY := Lib.hid hy
   clear hy hcs h3
   by_cases hx : y.name = x
   ·have hF : Hid (idxC cs x = (k : Nat)) := Lib.hid (by unfold idxC; rw [clIdx_some hno.out hlt (by rw [← HY.out]; exact hx)])
    rw [decide_eq_true hx] at HC1
    clear hx
    go_wp2_with fail
    refine HC1.out.mono ?_
    rintro e w4 ⟨rfl, hk4⟩
    have hkn4 := hkn.trans hk4
    go_wp2_with fail
    go_ret
    exact ⟨by rw [hF.out]; rfl, hkn4⟩
   ·have hN : Hid (clIdx cs x (k + 1)) := Lib.hid (fun j h1 h2 => by
     rcases Nat.lt_succ_iff_lt_or_eq.1 h2 with h | h
     ·exact hno.out j h1 h
     ·subst h; rw [← HY.out]; exact hx)
    rw [decide_eq_false hx] at HC1
    clear hx
    go_wp2_with fail
    refine HC1.out.mono ?_
    rintro e w4 ⟨rfl, hk4⟩
    have hkn4 := hkn.trans hk4
    go_wp2_with fail
    go_roundw
    case rel => exact ⟨k + 1, by go_num, by omega, hN, hkn4⟩
    case measure => simp [intOf]; omega
  ·obtain rfl : k = cs.length := by omega
   have hF : Hid (idxC cs x = -1) := Lib.hid (by unfold idxC; rw [clIdx_none hno.out])
   go_wp2_with fail
   go_ret
   exact ⟨by rw [hF.out]; rfl, hkn⟩
def clsV (R : RS) (x : ByteArray) : Value := .tuple #[.int .i64 ((R.lits.length : Int) + idxC R.cls x), .bool (decide (0 ≤ idxC R.cls x))]
theorem idxC_ge (cs : List GC) (x : ByteArray) : -1 ≤ idxC cs x ∧ idxC cs x < cs.length := by
 unfold idxC
 split
 ·rename_i i h
  obtain ⟨h1, _⟩ := List.findIdx?_eq_some_iff_getElem.1 h
  omega
 ·omega
set_option maxRecDepth 100000 in
set_option maxHeartbeats 8000000 in
theorem gclass_c {B p : Nat} {R : RS} {A : RA} {w : World} (x : ByteArray) (h : RdAt w B p R A) (ok : RSok R) :
  Calls Tryz.prog 176 #[ptr p, .string x] w fun e w' => e = .returned (clsV R x) ∧ Kn w w' := by
 obtain ⟨a1, c1, hv1, _⟩ := h.cls.row (fun C hC => by obtain ⟨x, _, rfl⟩ := List.mem_map.1 hC; rfl)
 obtain ⟨a0, c0, hv0, _⟩ := h.lits.look
 rw [List.length_map] at hv1
 have hk1 : Kn w (w.alloc (.cells #[.string x] TS)) := (Kp.refl _ _).alloc _
 have hb : (w.alloc (.cells #[.string x] TS)).heap[w.heap.size]? = some (.cells #[.string x] TS (0, 0)) := blk_new _ _
 obtain ⟨w1, hw1⟩ : ∃ z, z = w.alloc (.cells #[.string x] TS) := ⟨_, rfl⟩
 obtain ⟨bx, hbx⟩ : ∃ z, z = w.heap.size := ⟨_, rfl⟩
 rw [← hw1, ← hbx] at hb
 rw [← hw1] at hk1
 have hr1 := h.kn hk1
 have hcl := hr1.cls
 rw [hv1] at hcl
 have HIX := Lib.hid (indexFunc_c x hcl hb (by have := ok.cls; omega))
 obtain ⟨_, q1, _⟩ := hr1.cells
 rw [hv1] at q1
 have HR1 := Lib.hid hr1
 have HW := Lib.hid (And.intro hw1 hbx)
 have HV0 := Lib.hid hv0
 have hl := ok.lits
 have hc := ok.cls
 have hmf : ∀ (fn : Fn) (first cap : Array Value) (w : World), (Instr.makeFunc fn first cap).run Tryz.prog w = .ok (.func fn first cap) w := fun _ _ _ _ => rfl
 have HRL := Lib.hid hl
 clear h ok hv1 hb hw1 hbx hr1 hcl hv0
 go_enter Tryz.func176, Tryz.ntmps176
 go_upto_region 1 with fail
 rw [← HW.out.1, ← HW.out.2]
 obtain ⟨ix, hix⟩ : ∃ ix, ix = idxC R.cls x := ⟨_, rfl⟩
 have hge := idxC_ge R.cls x
 rw [← hix] at hge HIX
 have HVV : Hid (clsV R x = .tuple #[.int .i64 ((R.lits.length : Int) + ix), .bool (decide (0 ≤ ix))]) := Lib.hid (by rw [hix]; rfl)
 clear hix
 go_wp2_with fail
 refine HIX.out.mono ?_
 rintro e w2 ⟨rfl, hk2⟩
 have HK := Lib.hid (hk1.trans hk2)
 obtain ⟨q0, _⟩ := (HR1.out.kn hk2).cells
 rw [HV0.out] at q0
 go_wp2_with fail
 go_ret2
 exact ⟨by rw [HVV.out]; rfl, HK.out⟩
end Go.Proofs.YtopmadkajacniaaGreatDoor
namespace Go.Proofs.YtopmadkajacniaaGreatDoor
open Go.RowKit Go.Maps
abbrev paV (q : GP) : Value := .agg #[.int .i64 q.cls, .int .i64 q.sort, .int .i64 q.level, .bool q.fixed]
def Part2Post (R : RS) (x : GW) (w : World) (e : Ending) (w' : World) : Prop :=
 Kn w w' ∧ ∃ (q : GP) (ok : Bool), e = .returned (.tuple #[paV q, .bool ok]) ∧ match R.part x with | some q' => ok = true ∧ q = q' | none => ok = false
theorem part_sort {R : RS} {x : GW} (h0 : x.lit.size = 0) (h1 : x.sort = true) : R.part x = if 0 ≤ Lib.idxOfS R.sorts x.name then some ⟨-1, Lib.idxOfS R.sorts x.name, x.level, false⟩ else none := by
 unfold RS.part
 rw [if_neg (by simp [h0]), if_pos h1]
theorem part_lit {R : RS} {x : GW} (h0 : ¬ x.lit.size = 0) : R.part x = some ⟨Lib.idxOfS R.lits x.lit, -1, 0, true⟩ := by
 unfold RS.part
 rw [if_pos h0]
theorem part_cls {R : RS} {x : GW} (h0 : x.lit.size = 0) (h1 : x.sort = false) : (∃ i : Nat, idxC R.cls x.name = i ∧ R.part x = some ⟨(R.lits.length + i : Nat), -1, 0, false⟩) ∨ (idxC R.cls x.name = -1 ∧ R.part x = none) := by
 unfold RS.part idxC
 rw [if_neg (by simp [h0]), if_neg (by simp [h1])]
 cases R.cls.findIdx? (fun c => decide (c.name = x.name)) with
 | some i => exact .inl ⟨i, rfl, rfl⟩
 | none => exact .inr ⟨rfl, rfl⟩
set_option maxRecDepth 100000 in
set_option maxHeartbeats 8000000 in
theorem part2_c {B p : Nat} {R : RS} {A : RA} {w : World} (x : GW) (h : RdAt w B p R A) (ok : RSok R) :
  Calls Tryz.prog 152 #[ptr p, wdV x] w (Part2Post R x w) := by
 obtain ⟨a0, c0, hv0, _⟩ := h.lits.look
 obtain ⟨a2, c2, hv2, _⟩ := h.sorts.look
 have hl40 := ok.lits
 obtain ⟨bx, hbx⟩ : ∃ z, z = w.heap.size := ⟨_, rfl⟩
 obtain ⟨b4, hb4⟩ : ∃ z, z = w.heap.size + 1 := ⟨_, rfl⟩
 obtain ⟨w1, hw1⟩ : ∃ z, z = (w.alloc (.cells #[.string x.lit, .string x.name, .int .i64 x.level, .bool x.sort] TWd)).alloc (.cells #[.int .i64 0, .int .i64 0, .int .i64 0, .bool false] TPa) := ⟨_, rfl⟩
 have hk1 : Kn w w1 := by rw [hw1]; exact ((Kp.refl _ _).alloc _).alloc _
 have hbb : w1.heap[bx]? = some (.cells #[.string x.lit, .string x.name, .int .i64 x.level, .bool x.sort] TWd (0, 0)) := by rw [hw1, hbx]; exact blk_alloc (blk_new _ _) _
 have hbr : w1.heap[b4]? = some (.cells #[.int .i64 0, .int .i64 0, .int .i64 0, .bool false] TPa (0, 0)) := by
  have := blk_new (w.alloc (.cells #[.string x.lit, .string x.name, .int .i64 x.level, .bool x.sort] TWd)) (.cells #[.int .i64 0, .int .i64 0, .int .i64 0, .bool false] TPa)
  rw [size_alloc', ← hb4, ← hw1] at this
  exact this
 have hr1 := h.kn hk1
 obtain ⟨q0, _, q2, _⟩ := hr1.cells
 rw [hv0] at q0
 rw [hv2] at q2
 have d0 : w1.cell? ⟨bx, 0, none⟩ = some (.string x.lit) := by rw [cell_blk hbb]; rfl
 have d1 : w1.cell? ⟨bx, 1, none⟩ = some (.string x.name) := by rw [cell_blk hbb]; rfl
 have d2 : w1.cell? ⟨bx, 2, none⟩ = some (.int .i64 x.level) := by rw [cell_blk hbb]; rfl
 have d3 : w1.cell? ⟨bx, 3, none⟩ = some (.bool x.sort) := by rw [cell_blk hbb]; rfl
 have hol := hr1.lits
 have hos := hr1.sorts
 rw [hv0] at hol
 rw [hv2] at hos
 have HIL := Lib.hid (fun W (hk : Kn w1 W) => index_c (w := W) (row_kp hol hk (fun _ _ x => x)) x.lit (by have := ok.lits; omega))
 have HIS := Lib.hid (fun W (hk : Kn w1 W) => index_c (w := W) (row_kp hos hk (fun _ _ x => x)) x.name (by have := ok.sorts; omega))
 have HCL := Lib.hid (gclass_c x.name hr1 ok)
 have HW := Lib.hid (And.intro hw1 (And.intro hbx hb4))
 have HBR := Lib.hid hbr
 have hnp : p ≠ b4 := by have := h.lt; omega
 have hnx : bx ≠ b4 := by omega
 have HNW := Lib.hid (show w.heap.size ≤ b4 by omega)
 have HK1 := Lib.hid hk1
 have HB0 : Hid (b4 = w.heap.size + 1) := Lib.hid hb4
 clear h ok hw1 hbx hb4 hbb hbr hr1 hol hos hk1 hv0 hv2
 by_cases h0 : x.lit.size = 0
 ·have he := isE_true h0
  cases hso : x.sort with
  | true =>
   rw [hso] at d3
   have hF := part_sort (R := R) h0 hso
   obtain ⟨ix, hix⟩ : ∃ z, z = Lib.idxOfS R.sorts x.name := ⟨_, rfl⟩
   rw [← hix] at hF HIS
   have HF := Lib.hid hF
   clear h0 hso hF hix
   go_enter Tryz.func152, Tryz.ntmps152
   go_upto_region 1 with fail
   rw [← HB0.out, ← HW.out.1, ← HW.out.2.1]
   go_wp2_with fail
   refine wp_region_held_drew (S := fun w' => w'.cell? ⟨p, 2, none⟩ = some (.slice a2 R.sorts.length c2) ∧ w'.cell? ⟨bx, 1, none⟩ = some (.string x.name)) (by kernel_rfl) ⟨kn_cell ((Kp.refl _ _).drew) q2, kn_cell ((Kp.refl _ _).drew) d1⟩ (fun hHeld => ?_)
   obtain ⟨wd, hwd⟩ : ∃ zz, zz = w1.drew := ⟨_, rfl⟩
   have hkd : Kn w1 wd := by rw [hwd]; exact (Kp.refl _ _).drew
   rw [← hwd] at hHeld ⊢
   clear hwd
   refine TK 0 23 (v := ?_) rfl (fun _ _ _ h => h) (Or.inl ⟨by rfl, ?_⟩) (by assumption) ?_
   rotate_left
   ·(intro w hSw; clear hSw; go_simp; try with_reducible rfl)
   try simp only [PP]
   refine TK 1 24 (v := ?_) rfl (fun _ _ _ h => h) (Or.inl ⟨by rfl, ?_⟩) (by assumption) ?_
   rotate_left
   ·(intro w hSw; clear hSw; go_simp; try with_reducible rfl)
   try simp only [PP]
   refine TK 2 25 (v := ?_) rfl (fun _ _ _ h => h) (Or.inl ⟨by rfl, ?_⟩) (by assumption) ?_
   rotate_left
   ·(intro w hSw; clear hSw; go_simp; try with_reducible rfl)
   try simp only [PP]
   refine TK 3 26 (v := ?_) rfl (fun _ _ _ h => h) (Or.inl ⟨by rfl, ?_⟩) (by assumption) ?_
   rotate_left
   ·(intro w hSw; clear hSw; go_simp; try with_reducible rfl)
   try simp only [PP]
   refine TK 4 27 (v := ?_) rfl (fun _ _ _ h => h) (Or.inl ⟨by rfl, ?_⟩) (by assumption) ?_
   rotate_left
   ·(intro w hSw; obtain ⟨hs1, hs2⟩ := hSw; go_simp; try with_reducible rfl)
   try simp only [PP]
   refine TK 5 28 (v := ?_) rfl (fun _ _ _ h => h) (Or.inl ⟨by rfl, ?_⟩) (by assumption) ?_
   rotate_left
   ·(intro w hSw; clear hSw; go_simp; try with_reducible rfl)
   try simp only [PP]
   refine TK 6 29 (v := ?_) rfl (fun _ _ _ h => h) (Or.inl ⟨by rfl, ?_⟩) (by assumption) ?_
   rotate_left
   ·(intro w hSw; obtain ⟨hs1, hs2⟩ := hSw; go_simp; try with_reducible rfl)
   try simp only [PP]
   refine wpAnyH_ready (rs := [7]) (by kernel_rfl) (by simp) (AllReadyH.cons (o := Oper.mk (some 30) _ _ _ _ _) rfl (fun K hK => ?_) AllReadyH.nil)
   go_simp
   go_at_call 80
   refine (HIS.out wd hkd).mono ?_
   rintro e9 w9 ⟨rfl, hw9⟩
   rw [hw9]
   clear hw9 w9
   dsimp only
   refine hK.out _ _ hHeld (fun hHeld => ?_)
   clear hK K
   try simp only [PP]
   refine TK 8 6 (v := ?_) rfl (fun _ _ _ h => h) (Or.inl ⟨by rfl, ?_⟩) (by assumption) ?_
   rotate_left
   ·(intro w hSw; clear hSw; go_simp; try with_reducible rfl)
   try simp only [PP]
   refine wpAnyH_done (by kernel_rfl) ?_ _
   have x2l := hHeld
   clear hHeld
   have hbd := hkd.blk HBR.out (fun x => x)
   have x0 : wd.cell? ⟨b4, 0, none⟩ = some (.int .i64 0) := by rw [cell_blk hbd]; rfl
   have x1 : wd.cell? ⟨b4, 1, none⟩ = some (.int .i64 0) := by rw [cell_blk hbd]; rfl
   have x2 : wd.cell? ⟨b4, 2, none⟩ = some (.int .i64 0) := by rw [cell_blk hbd]; rfl
   have x3 : wd.cell? ⟨b4, 3, none⟩ = some (.bool false) := by rw [cell_blk hbd]; rfl
   have f0 := frozen_blk hbd 0
   have f1 := frozen_blk hbd 1
   have f2 := frozen_blk hbd 2
   have f3 := frozen_blk hbd 3
   have e2 : wd.cell? ⟨bx, 2, none⟩ = some (.int .i64 x.level) := kn_cell hkd d2
   have hk13 := HK1.out.trans hkd
   have HNW2 := HNW.out
   clear x2l hbd d0 d1 d2 d3 q0 q2
   go_wp2_with fail
   (try simp only [Exit.inBlock, Exit.then])
   refine bodyPost_ret (v := .tuple #[paV ⟨-1, ix, x.level, false⟩, .bool (decide (0 ≤ ix))]) (by rw [results_cell_tmp rfl]; go_simp; try first | rfl | exact ⟨rfl, rfl, rfl, rfl⟩) rfl ⟨?_, _, _, rfl, ?_⟩
   ·(repeat' (first | exact hk13 | refine Kp.drew ?_ | refine Kp.setCell ?_ (fun hp => by have hp2 : b4 < w.heap.size := hp; omega) _))
   ·rw [HF.out]
    by_cases h9 : 0 ≤ ix
    ·rw [if_pos h9]; exact ⟨decide_eq_true h9, rfl⟩
    ·rw [if_neg h9]; exact decide_eq_false h9
  | false =>
   rw [hso] at d3
   have hF := part_cls (R := R) h0 hso
   have hge := idxC_ge R.cls x.name
   obtain ⟨ix, hix⟩ : ∃ z, z = idxC R.cls x.name := ⟨_, rfl⟩
   have HVV : Hid (clsV R x.name = .tuple #[.int .i64 ((R.lits.length : Int) + ix), .bool (decide (0 ≤ ix))]) := Lib.hid (by rw [hix]; rfl)
   rw [HVV.out] at HCL
   rw [← hix] at hF hge
   have HF := Lib.hid hF
   clear h0 hso hF hix HVV
   go_enter Tryz.func152, Tryz.ntmps152
   go_upto_region 1 with fail
   rw [← HB0.out, ← HW.out.1, ← HW.out.2.1]
   go_wp2_with fail
   refine HCL.out.mono ?_
   rintro e9 w3 ⟨rfl, hk3⟩
   have hb3 := hk3.blk HBR.out (fun x => x)
   have x0 : w3.cell? ⟨b4, 0, none⟩ = some (.int .i64 0) := by rw [cell_blk hb3]; rfl
   have x1 : w3.cell? ⟨b4, 1, none⟩ = some (.int .i64 0) := by rw [cell_blk hb3]; rfl
   have x2 : w3.cell? ⟨b4, 2, none⟩ = some (.int .i64 0) := by rw [cell_blk hb3]; rfl
   have x3 : w3.cell? ⟨b4, 3, none⟩ = some (.bool false) := by rw [cell_blk hb3]; rfl
   have f0 := frozen_blk hb3 0
   have f1 := frozen_blk hb3 1
   have f2 := frozen_blk hb3 2
   have f3 := frozen_blk hb3 3
   have hk13 := HK1.out.trans hk3
   have HNW2 := HNW.out
   clear hb3 d0 d1 d2 d3 q0 q2
   go_wp2_with fail
   (try simp only [Exit.inBlock, Exit.then])
   refine bodyPost_ret (v := .tuple #[paV ⟨(R.lits.length : Int) + ix, -1, 0, false⟩, .bool (decide (0 ≤ ix))]) (by rw [results_cell_tmp rfl]; go_simp; try first | rfl | exact ⟨rfl, rfl, rfl, rfl⟩) rfl ⟨?_, _, _, rfl, ?_⟩
   ·(repeat' (first | exact hk13 | refine Kp.drew ?_ | refine Kp.setCell ?_ (fun hp => by have hp2 : b4 < w.heap.size := hp; omega) _))
   ·rcases HF.out with ⟨i, h1, h2⟩ | ⟨h1, h2⟩
    ·rw [h2, h1]; exact ⟨by simp, by simp⟩
    ·rw [h2, h1]; rfl
 ·have he := isE_false h0
  have hF := part_lit (R := R) h0
  obtain ⟨ix, hix⟩ : ∃ z, z = Lib.idxOfS R.lits x.lit := ⟨_, rfl⟩
  rw [← hix] at hF HIL
  have HF := Lib.hid hF
  clear h0 hF hix
  go_enter Tryz.func152, Tryz.ntmps152
  go_upto_region 1 with fail
  rw [← HB0.out, ← HW.out.1, ← HW.out.2.1]
  go_wp2_with fail
  refine wp_region_held_drew (S := fun w' => True) (by kernel_rfl) trivial (fun hHeld => ?_)
  obtain ⟨wd, hwd⟩ : ∃ zz, zz = w1.drew := ⟨_, rfl⟩
  have hkd : Kn w1 wd := by rw [hwd]; exact (Kp.refl _ _).drew
  rw [← hwd]
  clear hwd
  refine TK 0 12 (v := ?_) rfl (fun _ _ _ h => h) (Or.inl ⟨by rfl, ?_⟩) (by assumption) ?_
  rotate_left
  ·(intro w hSw; clear hSw; go_simp; try with_reducible rfl)
  try simp only [PP]
  refine TK 1 13 (v := ?_) rfl (fun _ _ _ h => h) (Or.inl ⟨by rfl, ?_⟩) (by assumption) ?_
  rotate_left
  ·(intro w hSw; clear hSw; go_simp; try with_reducible rfl)
  try simp only [PP]
  refine TK 2 14 (v := ?_) rfl (fun _ _ _ h => h) (Or.inl ⟨by rfl, ?_⟩) (by assumption) ?_
  rotate_left
  ·(intro w hSw; clear hSw; go_simp; try with_reducible rfl)
  try simp only [PP]
  refine TK 3 15 (v := ?_) rfl (fun _ _ _ h => h) (Or.inl ⟨by rfl, ?_⟩) (by assumption) ?_
  rotate_left
  ·(intro w hSw; clear hSw; go_simp; try with_reducible rfl)
  try simp only [PP]
  refine TK 5 17 (v := ?_) rfl (fun _ _ _ h => h) (Or.inl ⟨by rfl, ?_⟩) (by assumption) ?_
  rotate_left
  ·(intro w hSw; clear hSw; go_simp; try with_reducible rfl)
  try simp only [PP]
  refine wpAnyH_ready (rs := [4, 6]) (by kernel_rfl) (by simp) (AllReadyH.cons (o := Oper.mk (some 16) _ _ _ _ _) rfl (fun K hK => ?_) (AllReadyH.cons (o := Oper.mk (some 18) _ _ _ _ _) rfl (fun K hK => ?_) AllReadyH.nil))
  ·have xq : wd.cell? ⟨p, 0, none⟩ = some (.slice a0 R.lits.length c0) := kn_cell hkd q0
   go_simp
   clear xq
   refine hK.out _ _ trivial (fun hHeld => ?_)
   clear hK K
   try simp only [PP]
   refine wpAnyH_ready (rs := [6]) (by kernel_rfl) (by simp) (AllReadyH.cons (o := Oper.mk (some 18) _ _ _ _ _) rfl (fun K hK => ?_) AllReadyH.nil)
   have xq : wd.cell? ⟨bx, 0, none⟩ = some (.string x.lit) := kn_cell hkd d0
   go_simp
   clear xq
   refine hK.out _ _ trivial (fun hHeld => ?_)
   clear hK K
   try simp only [PP]
   refine wpAnyH_ready (rs := [7]) (by kernel_rfl) (by simp) (AllReadyH.cons (o := Oper.mk (some 19) _ _ _ _ _) rfl (fun K hK => ?_) AllReadyH.nil)
   go_simp
   go_at_call 80
   refine (HIL.out wd hkd).mono ?_
   rintro e9 w9 ⟨rfl, hw9⟩
   rw [hw9]
   clear hw9 w9
   dsimp only
   refine hK.out _ _ trivial (fun hHeld => ?_)
   clear hK K
   try simp only [PP]
   refine TK 8 20 (v := ?_) rfl (fun _ _ _ h => h) (Or.inl ⟨by rfl, ?_⟩) (by assumption) ?_
   rotate_left
   ·(intro w hSw; clear hSw; go_simp; try with_reducible rfl)
   try simp only [PP]
   refine wpAnyH_ready (rs := [9]) (by kernel_rfl) (by simp) (AllReadyH.cons (o := Oper.mk none _ _ _ _ _) rfl (fun K hK => ?_) AllReadyH.nil)
   have hbd := hkd.blk HBR.out (fun x => x)
   have x0 : wd.cell? ⟨b4, 0, none⟩ = some (.int .i64 0) := by rw [cell_blk hbd]; rfl
   have x1 : wd.cell? ⟨b4, 1, none⟩ = some (.int .i64 0) := by rw [cell_blk hbd]; rfl
   have x2 : wd.cell? ⟨b4, 2, none⟩ = some (.int .i64 0) := by rw [cell_blk hbd]; rfl
   have x3 : wd.cell? ⟨b4, 3, none⟩ = some (.bool false) := by rw [cell_blk hbd]; rfl
   have f0 := frozen_blk hbd 0
   have f1 := frozen_blk hbd 1
   have f2 := frozen_blk hbd 2
   have f3 := frozen_blk hbd 3
   go_simp
   refine hK.out _ _ trivial (fun hHeld => ?_)
   clear hK K
   try simp only [PP]
   refine TK 10 5 (v := ?_) rfl (fun _ _ _ h => h) (Or.inl ⟨by rfl, ?_⟩) (by assumption) ?_
   rotate_left
   ·(intro w hSw; clear hSw; go_simp; try with_reducible rfl)
   try simp only [PP]
   refine wpAnyH_done (by kernel_rfl) ?_ _
   clear hHeld
   have hk13 := HK1.out.trans hkd
   have HNW2 := HNW.out
   go_wp2_with fail
   (try simp only [Exit.inBlock, Exit.then])
   refine bodyPost_ret (v := .tuple #[paV ⟨ix, -1, 0, true⟩, .bool true]) (by rw [results_cell_tmp rfl]; go_simp; try first | rfl | exact ⟨rfl, rfl, rfl, rfl⟩) rfl ⟨?_, _, _, rfl, ?_⟩
   ·(repeat' (first | exact hk13 | refine Kp.drew ?_ | refine Kp.setCell ?_ (fun hp => by have hp2 : b4 < w.heap.size := hp; omega) _))
   ·rw [HF.out]; exact ⟨rfl, rfl⟩
  ·have xq : wd.cell? ⟨bx, 0, none⟩ = some (.string x.lit) := kn_cell hkd d0
   go_simp
   clear xq
   refine hK.out _ _ trivial (fun hHeld => ?_)
   clear hK K
   try simp only [PP]
   refine wpAnyH_ready (rs := [4]) (by kernel_rfl) (by simp) (AllReadyH.cons (o := Oper.mk (some 16) _ _ _ _ _) rfl (fun K hK => ?_) AllReadyH.nil)
   have xq : wd.cell? ⟨p, 0, none⟩ = some (.slice a0 R.lits.length c0) := kn_cell hkd q0
   go_simp
   clear xq
   refine hK.out _ _ trivial (fun hHeld => ?_)
   clear hK K
   try simp only [PP]
   refine wpAnyH_ready (rs := [7]) (by kernel_rfl) (by simp) (AllReadyH.cons (o := Oper.mk (some 19) _ _ _ _ _) rfl (fun K hK => ?_) AllReadyH.nil)
   go_simp
   go_at_call 80
   refine (HIL.out wd hkd).mono ?_
   rintro e9 w9 ⟨rfl, hw9⟩
   rw [hw9]
   clear hw9 w9
   dsimp only
   refine hK.out _ _ trivial (fun hHeld => ?_)
   clear hK K
   try simp only [PP]
   refine TK 8 20 (v := ?_) rfl (fun _ _ _ h => h) (Or.inl ⟨by rfl, ?_⟩) (by assumption) ?_
   rotate_left
   ·(intro w hSw; clear hSw; go_simp; try with_reducible rfl)
   try simp only [PP]
   refine wpAnyH_ready (rs := [9]) (by kernel_rfl) (by simp) (AllReadyH.cons (o := Oper.mk none _ _ _ _ _) rfl (fun K hK => ?_) AllReadyH.nil)
   have hbd := hkd.blk HBR.out (fun x => x)
   have x0 : wd.cell? ⟨b4, 0, none⟩ = some (.int .i64 0) := by rw [cell_blk hbd]; rfl
   have x1 : wd.cell? ⟨b4, 1, none⟩ = some (.int .i64 0) := by rw [cell_blk hbd]; rfl
   have x2 : wd.cell? ⟨b4, 2, none⟩ = some (.int .i64 0) := by rw [cell_blk hbd]; rfl
   have x3 : wd.cell? ⟨b4, 3, none⟩ = some (.bool false) := by rw [cell_blk hbd]; rfl
   have f0 := frozen_blk hbd 0
   have f1 := frozen_blk hbd 1
   have f2 := frozen_blk hbd 2
   have f3 := frozen_blk hbd 3
   go_simp
   refine hK.out _ _ trivial (fun hHeld => ?_)
   clear hK K
   try simp only [PP]
   refine TK 10 5 (v := ?_) rfl (fun _ _ _ h => h) (Or.inl ⟨by rfl, ?_⟩) (by assumption) ?_
   rotate_left
   ·(intro w hSw; clear hSw; go_simp; try with_reducible rfl)
   try simp only [PP]
   refine wpAnyH_done (by kernel_rfl) ?_ _
   clear hHeld
   have hk13 := HK1.out.trans hkd
   have HNW2 := HNW.out
   go_wp2_with fail
   (try simp only [Exit.inBlock, Exit.then])
   refine bodyPost_ret (v := .tuple #[paV ⟨ix, -1, 0, true⟩, .bool true]) (by rw [results_cell_tmp rfl]; go_simp; try first | rfl | exact ⟨rfl, rfl, rfl, rfl⟩) rfl ⟨?_, _, _, rfl, ?_⟩
   ·(repeat' (first | exact hk13 | refine Kp.drew ?_ | refine Kp.setCell ?_ (fun hp => by have hp2 : b4 < w.heap.size := hp; omega) _))
   ·rw [HF.out]; exact ⟨rfl, rfl⟩
end Go.Proofs.YtopmadkajacniaaGreatDoor
namespace Go.Proofs.YtopmadkajacniaaGreatDoor
open Go.RowKit Go.Maps
def paL (q : GP) : List Value := [.int .i64 q.cls, .int .i64 q.sort, .int .i64 q.level, .bool q.fixed]
def ruL (r : GR) (v : Value) : List Value := [.int .i64 r.sort, .string r.cons, .int .i64 r.level, v]
def brM (m : List (Nat × Nat)) : KV := m.map (fun p => (Value.int .i64 (p.1 : Nat), Value.int .i64 (p.2 : Nat)))
abbrev TI : TypeId := 3
theorem brM_mem {m : List (Nat × Nat)} {p : Value × Value} : p ∈ brM m ↔ ∃ q ∈ m, p = (.int .i64 (q.1 : Nat), .int .i64 (q.2 : Nat)) := by
 unfold brM; rw [List.mem_map]
 exact ⟨fun ⟨s, h, e⟩ => ⟨s, h, e.symm⟩, fun ⟨s, h, e⟩ => ⟨s, h, e.symm⟩⟩
theorem int_keyOf (x : Nat) (h : x ≤ 1000000) : ∃ l, keyOf Tryz.prog TI (.int .i64 (x : Nat)) = some l := ⟨_, keyOf_int_mk Tryz.underlying3 (by
 simp [Lit.wf, IntKind.min, IntKind.max, IntKind.signed, IntKind.bits]; omega)⟩
theorem brPut_map {w : World} {kb : Nat} {m : List (Nat × Nat)} (x v : Nat) (hx : x ≤ 1000000) (h : MapA w TI kb (brM m)) :
  ∃ w', (Instr.mapUpdate 122 (.map (some kb)) (.int .i64 (x : Nat)) (.int .i64 (v : Nat))).run Tryz.prog w = .ok () w' ∧ MapA w' TI kb (brM (brPut m x v)) ∧ K1 kb w w' := by
 obtain ⟨lx, hlx⟩ := int_keyOf x hx
 unfold brPut
 cases hf : m.findIdx? (fun p => decide (p.1 = x)) with
 | none =>
  have hn : ∀ p ∈ brM m, p.1 ≠ Value.int .i64 (x : Nat) := by
   intro p hp e
   obtain ⟨q, hq, rfl⟩ := brM_mem.1 hp
   have h1 := List.findIdx?_eq_none_iff.1 hf q hq
   have e2 : ((q.1 : Nat) : Int) = (x : Nat) := by injection e
   exact absurd (by omega : q.1 = x) (of_decide_eq_false h1)
  obtain ⟨w', h1, h2, h3⟩ := h.put0 (int_keyed Tryz.underlying3) Tryz.underlying122 hlx hn (.int .i64 (v : Nat))
  exact ⟨w', h1, by simpa [brM] using h2, h3⟩
 | some j =>
  obtain ⟨hj, he, _⟩ := List.findIdx?_eq_some_iff_getElem.1 hf
  have he2 : m[j].1 = x := of_decide_eq_true he
  have hmem : (Value.int .i64 (x : Nat), Value.int .i64 (m[j].2 : Nat)) ∈ brM m := brM_mem.2 ⟨m[j], List.getElem_mem hj, by rw [he2]⟩
  have hnd : ((brM m).map (·.1)).Nodup := by obtain ⟨_, _, _, _, hd, _⟩ := h; exact hd
  obtain ⟨w', j2, h1, h2, h3, h4⟩ := h.put1 (int_keyed Tryz.underlying3) Tryz.underlying122 hlx hmem (.int .i64 (v : Nat))
  have hj2 : j2 = j := by
   have hl2 : j2 < (brM m).length := (List.getElem?_eq_some_iff.1 h2).1
   have e1 : ((brM m).map (·.1))[j2]? = some (.int .i64 (x : Nat)) := by rw [List.getElem?_map, h2]; rfl
   have e2 : ((brM m).map (·.1))[j]? = some (.int .i64 (x : Nat)) := by
    rw [List.getElem?_map]
    unfold brM
    rw [List.getElem?_map, List.getElem?_eq_getElem hj]
    simp [he2]
   exact (List.getElem?_inj (by simpa using hl2) hnd).1 (e1.trans e2.symm)
  subst hj2
  exact ⟨w', h1, by simpa [brM, List.map_set] using h3, h4⟩
structure RuAt (w : World) (B : Nat) (vr : Value) (rs : List GR) (vps : List Value) : Prop where
 row : OwnK w B TRu 4 vr (List.zipWith ruL rs vps)
 len : vps.length = rs.length
 parts : ∀ i (h : i < vps.length) (h' : i < rs.length), OwnK w B TPa 4 vps[i] (rs[i].parts.map paL)
theorem RuAt.kn {w w' : World} {B : Nat} {vr : Value} {rs : List GR} {vps : List Value} (h : RuAt w B vr rs vps) (hk : Kn w w') : RuAt w' B vr rs vps := ⟨h.row.kn hk, h.len, fun i a b => (h.parts i a b).kn hk⟩
theorem RuAt.ty {S : Nat → Prop} {X : TypeId} {w w' : World} {B : Nat} {vr : Value} {rs : List GR} {vps : List Value} (h : RuAt w B vr rs vps) (hk : Kp S w w') (hS : Ty S w X) (h1 : X ≠ TRu) (h2 : X ≠ TPa) : RuAt w' B vr rs vps := ⟨row_ty h.row hk hS h1, h.len, fun i a b => row_ty (h.parts i a b) hk hS h2⟩
theorem RuAt.tym {S : Nat → Prop} {w w' : World} {B : Nat} {vr : Value} {rs : List GR} {vps : List Value} (h : RuAt w B vr rs vps) (hk : Kp S w w') (hS : TyM S w) : RuAt w' B vr rs vps := ⟨row_tym h.row hk hS, h.len, fun i a b => row_tym (h.parts i a b) hk hS⟩
theorem RuAt.snoc {w w1 : World} {B : Nat} {vr v1 vp : Value} {rs : List GR} {vps : List Value} (h : RuAt w B vr rs vps) {r : GR} (hp : OwnK w B TPa 4 vp (r.parts.map paL)) (hr : OwnK w1 B TRu 4 v1 (List.zipWith ruL rs vps ++ [ruL r vp])) (hk : Kp (fun k => some k = vr.ownBlock) w w1) :
  RuAt w1 B v1 (rs ++ [r]) (vps ++ [vp]) := by
 have hS := ty_row h.row
 refine ⟨?_, by simp [h.len], fun i a b => ?_⟩
 ·have e : List.zipWith ruL (rs ++ [r]) (vps ++ [vp]) = List.zipWith ruL rs vps ++ [ruL r vp] := by rw [List.zipWith_append h.len.symm]; rfl
  rw [e]; exact hr
 ·have hl := h.len
  by_cases hi : i < vps.length
  ·have := row_ty (h.parts i hi (by omega)) hk hS (by decide)
   rw [List.getElem_append_left hi]
   simp only [List.getElem_append_left (show i < rs.length by omega)]
   exact this
  ·have ei : i = vps.length := by simp at a; omega
   subst ei
   have := row_ty hp hk hS (by decide)
   rw [List.getElem_append_right (Nat.le_refl _)]
   simp only [List.getElem_append_right (show rs.length ≤ vps.length by omega), Nat.sub_self, List.getElem_singleton, show vps.length - rs.length = 0 by omega]
   exact this
structure LkAt (w : World) (B p : Nat) (R : RS) (A : RA) (kb : Nat) (rs : List GR) (vps : List Value) (br : List (Nat × Nat)) : Prop where
 rd : RdAt w B p R A
 bb : A.bb = .map (some kb)
 brk : MapA w TI kb (brM br)
 ru : RuAt w B A.vr rs vps
 ne : B ≤ kb ∧ kb ≠ A.bn ∧ kb ≠ A.bc ∧ kb ≠ A.br
theorem LkAt.kn {w w' : World} {B p : Nat} {R : RS} {A : RA} {kb : Nat} {rs : List GR} {vps : List Value} {br : List (Nat × Nat)} (h : LkAt w B p R A kb rs vps br) (hk : Kn w w') : LkAt w' B p R A kb rs vps br := ⟨h.rd.kn hk, h.bb, h.brk.kn hk, h.ru.kn hk, h.ne⟩
theorem LkAt.blk {w : World} {B p : Nat} {R : RS} {A : RA} {kb : Nat} {rs : List GR} {vps : List Value} {br : List (Nat × Nat)} (h : LkAt w B p R A kb rs vps br) : w.heap[p]? = some (.cells (rdC A) TGr (0, 0)) := h.rd.blk
theorem LkAt.lt {w : World} {B p : Nat} {R : RS} {A : RA} {kb : Nat} {rs : List GR} {vps : List Value} {br : List (Nat × Nat)} (h : LkAt w B p R A kb rs vps br) : p < w.heap.size := h.rd.lt
theorem LkAt.pB {w : World} {B p : Nat} {R : RS} {A : RA} {kb : Nat} {rs : List GR} {vps : List Value} {br : List (Nat × Nat)} (h : LkAt w B p R A kb rs vps br) : B ≤ p ∧ B ≤ A.bn ∧ B ≤ A.bc ∧ B ≤ A.br := h.rd.pB
theorem step_putbr {w : World} {kb : Nat} {m : List (Nat × Nat)} {ops : Array Oper} {o : Oper} {a : Act} {K : Act → World → Prop} {Q : Exit → Act → World → Prop} {E : Prop} (hg : o.guard = none) (mo xo vo : Operand) (hop : o.op = Op.mapUpdate 122 mo xo vo)
  (hm : a.eval mo = .map (some kb)) (h : MapA w TI kb (brM m)) (x v : Nat) (hx9 : x ≤ 1000000) (hx : a.eval xo = .int .i64 (x : Nat)) (hv : a.eval vo = .int .i64 (v : Nat))
  (hK : ∀ w', MapA w' TI kb (brM (brPut m x v)) → K1 kb w w' → K (a.put o.dst undef) w') : if Region.wanted o (yielded ops a.tmps) = true then Oper.wp Tryz.prog o a w K Q else E := by
 have hw : Region.wanted o (yielded ops a.tmps) = true := by simp [Region.wanted, hg]
 rw [if_pos hw]
 obtain ⟨w', hr, h1, h2⟩ := brPut_map x v hx9 h
 unfold Oper.wp
 simp [execOp, hop, hm, hx, hv, hr, Result.andThen]
 exact hK w' h1 h2
theorem RdAt.setVr {w : World} {B p : Nat} {R : RS} {A : RA} (h : RdAt w B p R A) (v : Value) : RdAt (w.setCell ⟨p, 3, none⟩ v) B p R { A with vr := v } := by
 have hk1 : K1 p w (w.setCell ⟨p, 3, none⟩ v) := Kp.set1 _ _
 have hS1 := ty_one h.blk
 exact ⟨by have := blk_set h.blk 3 v; simpa [rdC] using this, row_ty h.lits hk1 hS1 (by decide), row_ty h.cls hk1 hS1 (by decide), row_ty h.sorts hk1 hS1 (by decide), map_ty h.names hk1 hS1, map_ty h.cons hk1 hS1, map_ty h.rounds hk1 hS1,
  row_ty h.lines hk1 hS1 (by decide), h.wl, fun i a b => row_ty (h.words i a b) hk1 hS1 (by decide), h.ne1, h.ne2, h.pB⟩
theorem RdAt.setBb {w : World} {B p : Nat} {R : RS} {A : RA} (h : RdAt w B p R A) (v : Value) : RdAt (w.setCell ⟨p, 4, none⟩ v) B p R { A with bb := v } := by
 have hk1 : K1 p w (w.setCell ⟨p, 4, none⟩ v) := Kp.set1 _ _
 have hS1 := ty_one h.blk
 exact ⟨by have := blk_set h.blk 4 v; simpa [rdC] using this, row_ty h.lits hk1 hS1 (by decide), row_ty h.cls hk1 hS1 (by decide), row_ty h.sorts hk1 hS1 (by decide), map_ty h.names hk1 hS1, map_ty h.cons hk1 hS1, map_ty h.rounds hk1 hS1,
  row_ty h.lines hk1 hS1 (by decide), h.wl, fun i a b => row_ty (h.words i a b) hk1 hS1 (by decide), h.ne1, h.ne2, h.pB⟩
theorem RdAt.setSc {w : World} {B p : Nat} {R : RS} {A : RA} (h : RdAt w B p R A) (v : Value) : RdAt (w.setCell ⟨p, 5, none⟩ v) B p R { A with sc := v } := by
 have hk1 : K1 p w (w.setCell ⟨p, 5, none⟩ v) := Kp.set1 _ _
 have hS1 := ty_one h.blk
 exact ⟨by have := blk_set h.blk 5 v; simpa [rdC] using this, row_ty h.lits hk1 hS1 (by decide), row_ty h.cls hk1 hS1 (by decide), row_ty h.sorts hk1 hS1 (by decide), map_ty h.names hk1 hS1, map_ty h.cons hk1 hS1, map_ty h.rounds hk1 hS1,
  row_ty h.lines hk1 hS1 (by decide), h.wl, fun i a b => row_ty (h.words i a b) hk1 hS1 (by decide), h.ne1, h.ne2, h.pB⟩
theorem RdAt.ty {S : Nat → Prop} {X : TypeId} {w w' : World} {B p : Nat} {R : RS} {A : RA} (h : RdAt w B p R A) (hk : Kp S w w') (hS : Ty S w X) (h1 : X ≠ TGr) (h2 : X ≠ TS) (h3 : X ≠ TCl) (h4 : X ≠ TLn) (h5 : X ≠ TWd) : RdAt w' B p R A :=
 ⟨blk_ty h.blk hk hS h1, row_ty h.lits hk hS h2, row_ty h.cls hk hS h3, row_ty h.sorts hk hS h2, map_ty h.names hk hS, map_ty h.cons hk hS, map_ty h.rounds hk hS, row_ty h.lines hk hS h4, h.wl, fun i a b => row_ty (h.words i a b) hk hS h5, h.ne1, h.ne2, h.pB⟩
theorem RdAt.tym {w w' : World} {B p kb : Nat} {R : RS} {A : RA} {m : KV} (h : RdAt w B p R A) (hk : K1 kb w w') (hm : MapA w TI kb m) (hn : kb ≠ A.bn ∧ kb ≠ A.bc ∧ kb ≠ A.br) : RdAt w' B p R A := by
 have hS := tym_one hm
 exact ⟨blk_tym h.blk hk hS, row_tym h.lits hk hS, row_tym h.cls hk hS, row_tym h.sorts hk hS, h.names.kp hk (fun e => hn.1 e.symm), h.cons.kp hk (fun e => hn.2.1 e.symm), h.rounds.kp hk (fun e => hn.2.2 e.symm), row_tym h.lines hk hS, h.wl, fun i a b => row_tym (h.words i a b) hk hS, h.ne1, h.ne2, h.pB⟩
theorem LkAt.putRule {w w1 : World} {B p : Nat} {R : RS} {A : RA} {kb : Nat} {rs : List GR} {vps : List Value} {br : List (Nat × Nat)} {v1 vp : Value} {r : GR} (h : LkAt w B p R A kb rs vps br) (hp : OwnK w B TPa 4 vp (r.parts.map paL)) (hr : OwnK w1 B TRu 4 v1 (List.zipWith ruL rs vps ++ [ruL r vp])) (hk : Kp (fun k => some k = A.vr.ownBlock) w w1) :
  LkAt (w1.setCell ⟨p, 3, none⟩ v1) B p R { A with vr := v1 } kb (rs ++ [r]) (vps ++ [vp]) br := by
 have hS := ty_row h.ru.row
 have h1 := h.rd.ty hk hS (by decide) (by decide) (by decide) (by decide) (by decide)
 have hk1 : K1 p w1 (w1.setCell ⟨p, 3, none⟩ v1) := Kp.set1 _ _
 have hS1 := ty_one h1.blk
 exact ⟨h1.setVr v1, h.bb, map_ty (map_ty h.brk hk hS) hk1 hS1, (h.ru.snoc hp hr hk).ty hk1 hS1 (by decide) (by decide), h.ne⟩
theorem LkAt.putBr {w w' : World} {B p : Nat} {R : RS} {A : RA} {kb : Nat} {rs : List GR} {vps : List Value} {br : List (Nat × Nat)} {br' : List (Nat × Nat)} (h : LkAt w B p R A kb rs vps br) (hm : MapA w' TI kb (brM br')) (hk : K1 kb w w') : LkAt w' B p R A kb rs vps br' :=
 ⟨h.rd.tym hk h.brk h.ne.2, h.bb, hm, h.ru.tym hk (tym_one h.brk), h.ne⟩
theorem lines_cells {w : World} {B : Nat} {v : Value} {xs : List GL} {vws : List Value} (h : OwnK w B TLn 6 v (List.zipWith lnL xs vws)) (hl : vws.length = xs.length) : ∃ a c, v = .slice a xs.length c ∧ ∀ i (hi : i < xs.length) (hv : i < vws.length), ∃ g, a = some ⟨g, 0, none⟩ ∧
  w.cell? ⟨g, i * 6, none⟩ = some (.int .i64 xs[i].number) ∧ w.cell? ⟨g, i * 6 + 1, none⟩ = some (.string xs[i].sort) ∧ w.cell? ⟨g, i * 6 + 2, none⟩ = some (.string xs[i].cons) ∧ w.cell? ⟨g, i * 6 + 3, none⟩ = some (.int .i64 xs[i].level) ∧ w.cell? ⟨g, i * 6 + 4, none⟩ = some vws[i] ∧ w.cell? ⟨g, i * 6 + 5, none⟩ = some (.bool xs[i].round) := by
 obtain ⟨a, c, hv, _, _, h1⟩ := h.row (fun C hC => by obtain ⟨i, hi, rfl⟩ := List.getElem_of_mem hC; simp [lnL])
 rw [List.length_zipWith, hl, Nat.min_self] at hv
 refine ⟨a, c, hv, fun i hi hv2 => ?_⟩
 obtain ⟨g, ha, _, _, h2⟩ := h1 (fun e => by have := congrArg List.length e; simp [hl] at this; subst this; simp at hi)
 have h3 := h2 i (by simp [hl]; omega)
 have key : ∀ j, j < 6 → w.cell? ⟨g, i * 6 + j, none⟩ = (lnL xs[i] vws[i])[j]? := fun j hj => by
  have := (h3 j hj).1
  rw [show 0 + 6 * i + j = i * 6 + j by omega] at this
  rw [this]; simp
 exact ⟨g, ha, (key 0 (by omega)).trans rfl, (key 1 (by omega)).trans rfl, (key 2 (by omega)).trans rfl, (key 3 (by omega)).trans rfl, (key 4 (by omega)).trans rfl, (key 5 (by omega)).trans rfl⟩
end Go.Proofs.YtopmadkajacniaaGreatDoor
namespace Go.Proofs.YtopmadkajacniaaGreatDoor
open Go.Shelf Go.RowKit
set_option maxHeartbeats 1000000 in
theorem formatInt_c (i : Nat) (hi : i < 100) (w : World) :
  Calls Tryz.prog 163 #[.int .i64 i, .int .i64 10] w fun e w' => e = .returned (.string ⟨(Lib.decDigits i).toArray⟩) ∧ w' = w := by
 have HS := Lib.hid (fun W => Tryz.internal_strconv_small i hi W)
 have h1 : (i : Int) < 100 := by omega
 have h0 : (0 : Int) ≤ i := by omega
 go_enter Tryz.func163, Tryz.ntmps163
 go_wp2_with fail
 refine (HS.out _).mono ?_
 rintro e w' ⟨rfl, rfl⟩
 go_wp2_with fail
 go_ret
 exact ⟨rfl, rfl⟩
set_option maxHeartbeats 1000000 in
theorem itoa1_c (i : Nat) (hi : i < 100) (w : World) :
  Calls Tryz.prog 129 #[.int .i64 i] w fun e w' => e = .returned (.string ⟨(Lib.decDigits i).toArray⟩) ∧ w' = w := by
 have HS := Lib.hid (formatInt_c i hi w)
 go_enter Tryz.func129, Tryz.ntmps129
 go_wp2_with fail
 refine HS.out.mono ?_
 rintro e w' ⟨rfl, rfl⟩
 go_wp2_with fail
 go_ret
 exact ⟨rfl, rfl⟩
set_option maxHeartbeats 1000000 in
theorem itoa_c (i : Nat) (hi : i < 100) (w : World) :
  Calls Tryz.prog 81 #[.int .i64 i] w fun e w' => e = .returned (.string ⟨(Lib.decDigits i).toArray⟩) ∧ w' = w := by
 have HS := Lib.hid (itoa1_c i hi w)
 go_enter Tryz.func81, Tryz.ntmps81
 go_wp2_with fail
 refine HS.out.mono ?_
 rintro e w' ⟨rfl, rfl⟩
 go_wp2_with fail
 go_ret
 exact ⟨rfl, rfl⟩
end Go.Proofs.YtopmadkajacniaaGreatDoor
namespace Go.Proofs.YtopmadkajacniaaGreatDoor
open Go.RowKit Go.Maps
def decS (i : Nat) : ByteArray := ⟨(Lib.decDigits i).toArray⟩
theorem decS_le (i : Nat) (h : i < 100) : (decS i).size ≤ 2 := by
 show (Lib.decDigits i).toArray.size ≤ 2
 rw [List.size_toArray]
 unfold Lib.decDigits
 split
 ·simp
 ·rw [List.length_append]
  unfold Lib.decDigits
  rw [dif_pos (by omega)]
  simp
def partS (R : RS) (q : GP) : ByteArray :=
 if 0 ≤ q.sort then (R.sorts.getD q.sort.toNat ⟨#[]⟩ ++ ⟨#[58]⟩) ++ decS q.level
 else if q.fixed = true then (⟨#[39]⟩ : ByteArray) ++ R.lits.getD q.cls.toNat ⟨#[]⟩
 else match R.cls[q.cls.toNat - R.lits.length]? with | some c => c.name | none => ⟨#[]⟩
def PaOk (R : RS) (q : GP) : Bool :=
 decide (q.level ≤ 9) && (if 0 ≤ q.sort then decide (q.sort < R.sorts.length) else if q.fixed = true then decide (0 ≤ q.cls) && decide (q.cls < R.lits.length) else decide ((R.lits.length : Int) ≤ q.cls) && decide (q.cls < R.lits.length + R.cls.length))
def SzOk (R : RS) : Bool := R.sorts.all (fun s => decide (s.size ≤ 20)) && R.lits.all (fun s => decide (s.size ≤ 20)) && R.cls.all (fun c => decide (c.name.size ≤ 20) && decide (c.regex.size ≤ 3000))
theorem getD_at {α : Type} (l : List α) (d : α) {i : Nat} (h : i < l.length) : l.getD i d = l[i] := by rw [List.getD_eq_getElem?_getD, List.getElem?_eq_getElem h]; rfl
set_option maxRecDepth 100000 in
set_option maxHeartbeats 8000000 in
theorem ppart_c {B p : Nat} {R : RS} {A : RA} {w : World} (q : GP) (h : RdAt w B p R A) (hl1 : R.lits.length ≤ 40) (hl2 : R.cls.length ≤ 40) (hsz : SzOk R = true) (hq : PaOk R q = true) :
  Calls Tryz.prog 121 #[ptr p, paV q] w fun e w' => e = .returned (.string (partS R q)) ∧ Kn w w' := by
 obtain ⟨a0, c0, hv0, _, _, hg0⟩ := h.lits.look
 obtain ⟨a2, c2, hv2, _, _, hg2⟩ := h.sorts.look
 obtain ⟨a1, c1, hv1, _, _, hg1⟩ := h.cls.row (fun C hC => by obtain ⟨x, _, rfl⟩ := List.mem_map.1 hC; rfl)
 rw [List.length_map] at hv1
 obtain ⟨bx, hbx⟩ : ∃ z, z = w.heap.size := ⟨_, rfl⟩
 obtain ⟨w1, hw1⟩ : ∃ z, z = w.alloc (.cells #[.int .i64 q.cls, .int .i64 q.sort, .int .i64 q.level, .bool q.fixed] TPa) := ⟨_, rfl⟩
 have hk1 : Kn w w1 := by rw [hw1]; exact (Kp.refl _ _).alloc _
 have hbb : w1.heap[bx]? = some (.cells #[.int .i64 q.cls, .int .i64 q.sort, .int .i64 q.level, .bool q.fixed] TPa (0, 0)) := by rw [hw1, hbx]; exact blk_new _ _
 obtain ⟨q0, q1, q2, _⟩ := (h.kn hk1).cells
 rw [hv0] at q0
 rw [hv1] at q1
 rw [hv2] at q2
 have d0 : w1.cell? ⟨bx, 0, none⟩ = some (.int .i64 q.cls) := by rw [cell_blk hbb]; rfl
 have d1 : w1.cell? ⟨bx, 1, none⟩ = some (.int .i64 q.sort) := by rw [cell_blk hbb]; rfl
 have d2 : w1.cell? ⟨bx, 2, none⟩ = some (.int .i64 q.level) := by rw [cell_blk hbb]; rfl
 have d3 : w1.cell? ⟨bx, 3, none⟩ = some (.bool q.fixed) := by rw [cell_blk hbb]; rfl
 have HW := Lib.hid (And.intro hw1 hbx)
 have HF : Hid (partS R q = if 0 ≤ q.sort then (R.sorts.getD q.sort.toNat ⟨#[]⟩ ++ ⟨#[58]⟩) ++ decS q.level
  else if q.fixed = true then (⟨#[39]⟩ : ByteArray) ++ R.lits.getD q.cls.toNat ⟨#[]⟩
  else match R.cls[q.cls.toNat - R.lits.length]? with | some c => c.name | none => ⟨#[]⟩) := Lib.hid rfl
 have HSZ : Hid ((∀ s ∈ R.sorts, s.size ≤ 20) ∧ (∀ s ∈ R.lits, s.size ≤ 20) ∧ ∀ c ∈ R.cls, c.name.size ≤ 20) := Lib.hid (by
  unfold SzOk at hsz
  simp only [Bool.and_eq_true, List.all_eq_true, decide_eq_true_eq] at hsz
  exact ⟨hsz.1.1, hsz.1.2, fun c hc => (hsz.2 c hc).1⟩)
 have HK1 := Lib.hid hk1
 obtain ⟨qc, qs, ql, qf⟩ := q
 dsimp only at *
 unfold PaOk at hq
 dsimp only at hq
 rw [Bool.and_eq_true, decide_eq_true_eq] at hq
 obtain ⟨hql, hq⟩ := hq
 clear hw1 hbx hbb hk1 hsz
 by_cases hs : 0 ≤ qs
 ·rw [if_pos hs, decide_eq_true_eq] at hq
  obtain ⟨n, rfl⟩ : ∃ n : Nat, qs = n := ⟨qs.toNat, by omega⟩
  have hn : n < R.sorts.length := by omega
  obtain ⟨g, rfl, _, _, hc⟩ := hg2 (fun e => by rw [e] at hn; simp at hn)
  have hcn := kn_cell HK1.out (hc n hn)
  have hszn := HSZ.out.1 _ (List.getElem_mem hn)
  obtain ⟨s, hsn⟩ : ∃ s, s = R.sorts[n] := ⟨_, rfl⟩
  have HF2 : Hid (partS R ⟨qc, n, ql, qf⟩ = (s ++ ⟨#[58]⟩) ++ decS ql) := Lib.hid (by rw [HF.out, if_pos (by omega), Int.toNat_natCast, getD_at _ _ hn, hsn])
  rw [← hsn] at hcn hszn
  have hnn : (0 : Int) ≤ n := by omega
  have hni : (n : Int) < R.sorts.length := by omega
  have hdl := decS_le ql (by omega)
  have HIT : Hid (∀ W, Calls Tryz.prog 81 #[.int .i64 ql] W fun e w' => e = .returned (.string (decS ql)) ∧ w' = W) := Lib.hid (fun W => itoa_c ql (by omega) W)
  obtain ⟨t, ht⟩ : ∃ t, t = decS ql := ⟨_, rfl⟩
  rw [← ht] at HF2 HIT hdl
  clear hsn hc hq hs hg0 hg1 hg2 ht HF
  go_enter Tryz.func121, Tryz.ntmps121
  go_upto_region 1 with fail
  rw [← HW.out.2, ← HW.out.1]
  go_upto_region 2 with fail
  refine wp_region_held_drew (S := fun w' => w'.cell? ⟨p, 2, none⟩ = some (.slice (some ⟨g, 0, none⟩) R.sorts.length c2) ∧ w'.cell? ⟨bx, 1, none⟩ = some (.int .i64 (n : Nat)) ∧ w'.cell? ⟨g, n, none⟩ = some (.string s) ∧ w'.cell? ⟨bx, 2, none⟩ = some (.int .i64 ql)) (by kernel_rfl) ⟨kn_cell ((Kp.refl _ _).drew) q2, kn_cell ((Kp.refl _ _).drew) d1, kn_cell ((Kp.refl _ _).drew) hcn, kn_cell ((Kp.refl _ _).drew) d2⟩ (fun hHeld => ?_)
  obtain ⟨wd, hwd⟩ : ∃ zz, zz = w1.drew := ⟨_, rfl⟩
  have hkd : Kn w1 wd := by rw [hwd]; exact (Kp.refl _ _).drew
  rw [← hwd] at hHeld ⊢
  clear hwd
  refine TK 0 9 (v := ?_) rfl (fun _ _ _ h => h) (Or.inl ⟨by rfl, ?_⟩) (by assumption) ?_
  rotate_left
  ·(intro w hSw; clear hSw; go_simp; try with_reducible rfl)
  try simp only [PP]
  refine TK 1 10 (v := ?_) rfl (fun _ _ _ h => h) (Or.inl ⟨by rfl, ?_⟩) (by assumption) ?_
  rotate_left
  ·(intro w hSw; clear hSw; go_simp; try with_reducible rfl)
  try simp only [PP]
  refine TK 2 11 (v := ?_) rfl (fun _ _ _ h => h) (Or.inl ⟨by rfl, ?_⟩) (by assumption) ?_
  rotate_left
  ·(intro w hSw; clear hSw; go_simp; try with_reducible rfl)
  try simp only [PP]
  refine TK 3 12 (v := ?_) rfl (fun _ _ _ h => h) (Or.inl ⟨by rfl, ?_⟩) (by assumption) ?_
  rotate_left
  ·(intro w hSw; obtain ⟨hs1, hs2, hs3, hs4⟩ := hSw; go_simp; try with_reducible rfl)
  try simp only [PP]
  refine TK 4 13 (v := ?_) rfl (fun _ _ _ h => h) (Or.inl ⟨by rfl, ?_⟩) (by assumption) ?_
  rotate_left
  ·(intro w hSw; clear hSw; go_simp; try with_reducible rfl)
  try simp only [PP]
  refine TK 5 14 (v := ?_) rfl (fun _ _ _ h => h) (Or.inl ⟨by rfl, ?_⟩) (by assumption) ?_
  rotate_left
  ·(intro w hSw; obtain ⟨hs1, hs2, hs3, hs4⟩ := hSw; go_simp; try with_reducible rfl)
  try simp only [PP]
  refine TK 6 15 (v := ?_) rfl (fun _ _ _ h => h) (Or.inl ⟨by rfl, ?_⟩) (by assumption) ?_
  rotate_left
  ·(intro w hSw; clear hSw; go_simp; try with_reducible rfl)
  try simp only [PP]
  refine TK 7 16 (v := ?_) rfl (fun _ _ _ h => h) (Or.inl ⟨by rfl, ?_⟩) (by assumption) ?_
  rotate_left
  ·(intro w hSw; obtain ⟨hs1, hs2, hs3, hs4⟩ := hSw; go_simp; try with_reducible rfl)
  try simp only [PP]
  refine TK 8 17 (v := ?_) rfl (fun _ _ _ h => h) (Or.inl ⟨by rfl, ?_⟩) (by assumption) ?_
  rotate_left
  ·(intro w hSw; clear hSw; have ho1 : ¬ (9223372036854775807 : Nat) < s.size + 1 := (by omega); go_simp; try with_reducible rfl)
  try simp only [PP]
  refine TK 9 18 (v := ?_) rfl (fun _ _ _ h => h) (Or.inl ⟨by rfl, ?_⟩) (by assumption) ?_
  rotate_left
  ·(intro w hSw; clear hSw; go_simp; try with_reducible rfl)
  try simp only [PP]
  refine TK 10 19 (v := ?_) rfl (fun _ _ _ h => h) (Or.inl ⟨by rfl, ?_⟩) (by assumption) ?_
  rotate_left
  ·(intro w hSw; obtain ⟨hs1, hs2, hs3, hs4⟩ := hSw; go_simp; try with_reducible rfl)
  try simp only [PP]
  refine wpAnyH_ready (rs := [11]) (by kernel_rfl) (by simp) (AllReadyH.cons (o := Oper.mk (some 20) _ _ _ _ _) rfl (fun K hK => ?_) AllReadyH.nil)
  go_simp
  go_at_call 81
  refine (HIT.out wd).mono ?_
  rintro e9 w9 ⟨rfl, hw9⟩
  rw [hw9]
  clear hw9 w9
  dsimp only
  refine hK.out _ _ hHeld (fun hHeld => ?_)
  clear hK K
  try simp only [PP]
  refine TK 12 21 (v := ?_) rfl (fun _ _ _ h => h) (Or.inl ⟨by rfl, ?_⟩) (by assumption) ?_
  rotate_left
  ·(intro w hSw; clear hSw; have ho2 : ¬ (9223372036854775807 : Nat) < s.size + 1 + t.size := (by omega); go_simp; try with_reducible rfl)
  try simp only [PP]
  refine TK 13 4 (v := ?_) rfl (fun _ _ _ h => h) (Or.inl ⟨by rfl, ?_⟩) (by assumption) ?_
  rotate_left
  ·(intro w hSw; clear hSw; go_simp; try with_reducible rfl)
  try simp only [PP]
  refine wpAnyH_done (by kernel_rfl) ?_ _
  go_wp2_with fail
  go_ret
  exact ⟨by rw [HF2.out]; rfl, HK1.out.trans hkd⟩
 ·rw [if_neg hs] at hq
  cases hqf : qf with
  | true =>
   rw [hqf, if_pos rfl, Bool.and_eq_true, decide_eq_true_eq, decide_eq_true_eq] at hq
   obtain ⟨n, rfl⟩ : ∃ n : Nat, qc = n := ⟨qc.toNat, by omega⟩
   have hn : n < R.lits.length := by omega
   obtain ⟨g, rfl, _, _, hc⟩ := hg0 (fun e => by rw [e] at hn; simp at hn)
   have hcn := kn_cell HK1.out (hc n hn)
   have hszn := HSZ.out.2.1 _ (List.getElem_mem hn)
   obtain ⟨s, hsn⟩ : ∃ s, s = R.lits[n] := ⟨_, rfl⟩
   have HF2 : Hid (partS R ⟨n, qs, ql, true⟩ = (⟨#[39]⟩ : ByteArray) ++ s) := Lib.hid (by rw [← hqf, HF.out, if_neg hs, if_pos hqf, Int.toNat_natCast, getD_at _ _ hn, hsn])
   rw [← hsn] at hcn hszn
   rw [hqf] at d3
   have hnn : (0 : Int) ≤ n := by omega
   have hni : (n : Int) < R.lits.length := by omega
   clear hsn hc hq hg0 hg1 hg2 HF
   subst hqf
   go_enter Tryz.func121, Tryz.ntmps121
   go_upto_region 1 with fail
   rw [← HW.out.2, ← HW.out.1]
   go_upto_region 4 with fail
   refine wp_region_held_drew (S := fun w' => w'.cell? ⟨p, 0, none⟩ = some (.slice (some ⟨g, 0, none⟩) R.lits.length c0) ∧ w'.cell? ⟨bx, 0, none⟩ = some (.int .i64 (n : Nat)) ∧ w'.cell? ⟨g, n, none⟩ = some (.string s)) (by kernel_rfl) ⟨kn_cell ((Kp.refl _ _).drew) q0, kn_cell ((Kp.refl _ _).drew) d0, kn_cell ((Kp.refl _ _).drew) hcn⟩ (fun hHeld => ?_)
   obtain ⟨wd, hwd⟩ : ∃ zz, zz = w1.drew := ⟨_, rfl⟩
   have hkd : Kn w1 wd := by rw [hwd]; exact (Kp.refl _ _).drew
   rw [← hwd] at hHeld ⊢
   clear hwd
   refine TK 0 25 (v := ?_) rfl (fun _ _ _ h => h) (Or.inl ⟨by rfl, ?_⟩) (by assumption) ?_
   rotate_left
   ·(intro w hSw; clear hSw; go_simp; try with_reducible rfl)
   try simp only [PP]
   refine TK 1 26 (v := ?_) rfl (fun _ _ _ h => h) (Or.inl ⟨by rfl, ?_⟩) (by assumption) ?_
   rotate_left
   ·(intro w hSw; clear hSw; go_simp; try with_reducible rfl)
   try simp only [PP]
   refine TK 2 27 (v := ?_) rfl (fun _ _ _ h => h) (Or.inl ⟨by rfl, ?_⟩) (by assumption) ?_
   rotate_left
   ·(intro w hSw; clear hSw; go_simp; try with_reducible rfl)
   try simp only [PP]
   refine TK 3 28 (v := ?_) rfl (fun _ _ _ h => h) (Or.inl ⟨by rfl, ?_⟩) (by assumption) ?_
   rotate_left
   ·(intro w hSw; obtain ⟨hs1, hs2, hs3⟩ := hSw; go_simp; try with_reducible rfl)
   try simp only [PP]
   refine TK 4 29 (v := ?_) rfl (fun _ _ _ h => h) (Or.inl ⟨by rfl, ?_⟩) (by assumption) ?_
   rotate_left
   ·(intro w hSw; clear hSw; go_simp; try with_reducible rfl)
   try simp only [PP]
   refine TK 5 30 (v := ?_) rfl (fun _ _ _ h => h) (Or.inl ⟨by rfl, ?_⟩) (by assumption) ?_
   rotate_left
   ·(intro w hSw; obtain ⟨hs1, hs2, hs3⟩ := hSw; go_simp; try with_reducible rfl)
   try simp only [PP]
   refine TK 6 31 (v := ?_) rfl (fun _ _ _ h => h) (Or.inl ⟨by rfl, ?_⟩) (by assumption) ?_
   rotate_left
   ·(intro w hSw; clear hSw; go_simp; try with_reducible rfl)
   try simp only [PP]
   refine TK 7 32 (v := ?_) rfl (fun _ _ _ h => h) (Or.inl ⟨by rfl, ?_⟩) (by assumption) ?_
   rotate_left
   ·(intro w hSw; obtain ⟨hs1, hs2, hs3⟩ := hSw; go_simp; try with_reducible rfl)
   try simp only [PP]
   refine TK 8 33 (v := ?_) rfl (fun _ _ _ h => h) (Or.inl ⟨by rfl, ?_⟩) (by assumption) ?_
   rotate_left
   ·(intro w hSw; clear hSw; have ho1 : ¬ (9223372036854775807 : Nat) < 1 + s.size := (by omega); go_simp; try with_reducible rfl)
   try simp only [PP]
   refine TK 9 4 (v := ?_) rfl (fun _ _ _ h => h) (Or.inl ⟨by rfl, ?_⟩) (by assumption) ?_
   rotate_left
   ·(intro w hSw; clear hSw; go_simp; try with_reducible rfl)
   try simp only [PP]
   refine wpAnyH_done (by kernel_rfl) ?_ _
   go_wp2_with fail
   go_ret
   exact ⟨by rw [HF2.out]; rfl, HK1.out.trans hkd⟩
  | false =>
   rw [hqf, if_neg (by decide), Bool.and_eq_true, decide_eq_true_eq, decide_eq_true_eq] at hq
   obtain ⟨n, hm⟩ : ∃ n : Nat, qc = (R.lits.length : Int) + n := ⟨(qc - R.lits.length).toNat, by omega⟩
   have hn : n < R.cls.length := by omega
   obtain ⟨g, rfl, _, _, hc⟩ := hg1 (fun e => by rw [List.map_eq_nil_iff.1 e] at hn; simp at hn)
   have hcn : w1.cell? ⟨g, n * 3, none⟩ = some (.string R.cls[n].name) := by
    have := (hc n (by simpa using hn) 0 (by omega)).1; rw [show 0 + 3 * n + 0 = n * 3 by omega] at this; refine kn_cell HK1.out ?_; rw [this]; simp [clL]
   obtain ⟨s, hsn⟩ : ∃ s, s = R.cls[n].name := ⟨_, rfl⟩
   have HF2 : Hid (partS R ⟨qc, qs, ql, false⟩ = s) := Lib.hid (by
    rw [← hqf, HF.out, if_neg hs, if_neg (by rw [hqf]; decide), show qc.toNat - R.lits.length = n by omega, List.getElem?_eq_getElem hn]; exact hsn.symm)
   rw [← hsn] at hcn
   rw [hqf] at d3
   have hnn : (0 : Int) ≤ n := by omega
   have hni : (n : Int) < R.cls.length := by omega
   have hwr : IntKind.i64.wrap (qc - R.lits.length) = n := by
    rw [hm]
    unfold IntKind.wrap
    simp [IntKind.signed, IntKind.bits]
    omega
   clear hsn hc hq hg0 hg1 hg2 HF hm
   subst hqf
   go_enter Tryz.func121, Tryz.ntmps121
   go_upto_region 1 with fail
   rw [← HW.out.2, ← HW.out.1]
   go_upto_region 5 with fail
   refine wp_region_held_drew (S := fun w' => w'.cell? ⟨p, 1, none⟩ = some (.slice (some ⟨g, 0, none⟩) R.cls.length c1) ∧ w'.cell? ⟨bx, 0, none⟩ = some (.int .i64 qc) ∧ w'.cell? ⟨p, 0, none⟩ = some (.slice a0 R.lits.length c0) ∧ w'.cell? ⟨g, n * 3, none⟩ = some (.string s)) (by kernel_rfl) ⟨kn_cell ((Kp.refl _ _).drew) q1, kn_cell ((Kp.refl _ _).drew) d0, kn_cell ((Kp.refl _ _).drew) q0, kn_cell ((Kp.refl _ _).drew) hcn⟩ (fun hHeld => ?_)
   obtain ⟨wd, hwd⟩ : ∃ zz, zz = w1.drew := ⟨_, rfl⟩
   have hkd : Kn w1 wd := by rw [hwd]; exact (Kp.refl _ _).drew
   rw [← hwd] at hHeld ⊢
   clear hwd
   refine TK 0 34 (v := ?_) rfl (fun _ _ _ h => h) (Or.inl ⟨by rfl, ?_⟩) (by assumption) ?_
   rotate_left
   ·(intro w hSw; clear hSw; go_simp; try with_reducible rfl)
   try simp only [PP]
   refine TK 1 35 (v := ?_) rfl (fun _ _ _ h => h) (Or.inl ⟨by rfl, ?_⟩) (by assumption) ?_
   rotate_left
   ·(intro w hSw; clear hSw; go_simp; try with_reducible rfl)
   try simp only [PP]
   refine TK 2 36 (v := ?_) rfl (fun _ _ _ h => h) (Or.inl ⟨by rfl, ?_⟩) (by assumption) ?_
   rotate_left
   ·(intro w hSw; clear hSw; go_simp; try with_reducible rfl)
   try simp only [PP]
   refine TK 3 37 (v := ?_) rfl (fun _ _ _ h => h) (Or.inl ⟨by rfl, ?_⟩) (by assumption) ?_
   rotate_left
   ·(intro w hSw; obtain ⟨hs1, hs2, hs3, hs4⟩ := hSw; go_simp; try with_reducible rfl)
   try simp only [PP]
   refine TK 4 38 (v := ?_) rfl (fun _ _ _ h => h) (Or.inl ⟨by rfl, ?_⟩) (by assumption) ?_
   rotate_left
   ·(intro w hSw; clear hSw; go_simp; try with_reducible rfl)
   try simp only [PP]
   refine TK 5 39 (v := ?_) rfl (fun _ _ _ h => h) (Or.inl ⟨by rfl, ?_⟩) (by assumption) ?_
   rotate_left
   ·(intro w hSw; obtain ⟨hs1, hs2, hs3, hs4⟩ := hSw; go_simp; try with_reducible rfl)
   try simp only [PP]
   refine TK 6 40 (v := ?_) rfl (fun _ _ _ h => h) (Or.inl ⟨by rfl, ?_⟩) (by assumption) ?_
   rotate_left
   ·(intro w hSw; clear hSw; go_simp; try with_reducible rfl)
   try simp only [PP]
   refine TK 7 41 (v := ?_) rfl (fun _ _ _ h => h) (Or.inl ⟨by rfl, ?_⟩) (by assumption) ?_
   rotate_left
   ·(intro w hSw; clear hSw; go_simp; try with_reducible rfl)
   try simp only [PP]
   refine TK 8 42 (v := ?_) rfl (fun _ _ _ h => h) (Or.inl ⟨by rfl, ?_⟩) (by assumption) ?_
   rotate_left
   ·(intro w hSw; clear hSw; go_simp; try with_reducible rfl)
   try simp only [PP]
   refine TK 9 43 (v := ?_) rfl (fun _ _ _ h => h) (Or.inl ⟨by rfl, ?_⟩) (by assumption) ?_
   rotate_left
   ·(intro w hSw; obtain ⟨hs1, hs2, hs3, hs4⟩ := hSw; go_simp; try with_reducible rfl)
   try simp only [PP]
   refine TK 10 44 (v := ?_) rfl (fun _ _ _ h => h) (Or.inl ⟨by rfl, ?_⟩) (by assumption) ?_
   rotate_left
   ·(intro w hSw; clear hSw; go_simp; try with_reducible rfl)
   try simp only [PP]
   refine TK 11 45 (v := ?_) rfl (fun _ _ _ h => h) (Or.inl ⟨by rfl, ?_⟩) (by assumption) ?_
   rotate_left
   ·(intro w hSw; clear hSw; go_simp; try with_reducible rfl)
   try simp only [PP]
   refine TK 12 46 (v := ?_) rfl (fun _ _ _ h => h) (Or.inl ⟨by rfl, ?_⟩) (by assumption) ?_
   rotate_left
   ·(intro w hSw; clear hSw; go_simp; try with_reducible rfl)
   try simp only [PP]
   refine TK 13 47 (v := ?_) rfl (fun _ _ _ h => h) (Or.inl ⟨by rfl, ?_⟩) (by assumption) ?_
   rotate_left
   ·(intro w hSw; clear hSw; go_simp; try with_reducible rfl)
   try simp only [PP]
   refine TK 14 48 (v := ?_) rfl (fun _ _ _ h => h) (Or.inl ⟨by rfl, ?_⟩) (by assumption) ?_
   rotate_left
   ·(intro w hSw; obtain ⟨hs1, hs2, hs3, hs4⟩ := hSw; go_simp; try with_reducible rfl)
   try simp only [PP]
   refine TK 15 4 (v := ?_) rfl (fun _ _ _ h => h) (Or.inl ⟨by rfl, ?_⟩) (by assumption) ?_
   rotate_left
   ·(intro w hSw; clear hSw; go_simp; try with_reducible rfl)
   try simp only [PP]
   refine wpAnyH_done (by kernel_rfl) ?_ _
   go_wp2_with fail
   go_ret
   exact ⟨by rw [HF2.out]; rfl, HK1.out.trans hkd⟩
end Go.Proofs.YtopmadkajacniaaGreatDoor
