/-
  Texts of this claim, laid together: NCount, NNew, NAcc, DAcc, DText, DSort, DBehind, KMap, DMem. Conditions: none.
-/
import Derived.Test.YtopmadkajacniaaGreatDoorQAC
import Derived.Test.YtopmadkajacniaaGreatDoorQAE
import Derived.Test.YtopmadkajacniaaGreatDoorQAA
import Derived.Laws.IdiomStrings
import Derived.Laws.OwnMore
import Derived.Maps.OwnSet
import Derived.DeepKeys4
import Derived.Great.BuildSlice
import Derived.Deep.WholeRow
set_option linter.unusedVariables false
set_option linter.unusedSimpArgs false
namespace Go.Proofs.YtopmadkajacniaaGreatDoor
open Go.RowKit
theorem le_sum {l : List Nat} {x : Nat} (h : x ∈ l) : x ≤ l.sum := by
 induction l with
 | nil => cases h
 | cons a l ih =>
  rw [List.sum_cons]
  rcases List.mem_cons.1 h with rfl | h
  ·omega
  ·have := ih h; omega
def cntF : Rw → Nat
 | .set _ => 1
 | .empty => 0
 | .star x => cntF x
 | .cat x y => if 2000 < cntF x then cntF x else cntF x + cntF y
 | .or x y => if 2000 < cntF x then cntF x else cntF x + cntF y
theorem cntF_le : ∀ t : Rw, cntF t ≤ t.size
 | .set _ => by simp [cntF, Re.size]
 | .empty => by simp [cntF]
 | .star x => by have := cntF_le x; simp [cntF, Re.size]; omega
 | .cat x y => by have := cntF_le x; have := cntF_le y; simp only [cntF, Re.size]; split <;> omega
 | .or x y => by have := cntF_le x; have := cntF_le y; simp only [cntF, Re.size]; split <;> omega
theorem cntF_eq : ∀ t : Rw, (ncount t ≤ 2000 → cntF t = ncount t) ∧ (2000 < ncount t → 2000 < cntF t)
 | .set _ => by simp [cntF, ncount]
 | .empty => by simp [cntF, ncount]
 | .star x => by simpa [cntF, ncount] using cntF_eq x
 | .cat x y => by
  obtain ⟨h1, h2⟩ := cntF_eq x; obtain ⟨h3, h4⟩ := cntF_eq y
  simp only [cntF, ncount]
  constructor
  ·intro h; rw [if_neg (by rw [h1 (by omega)]; omega), h1 (by omega), h3 (by omega)]
  ·intro h; split
   ·assumption
   ·rename_i h5
    by_cases h6 : 2000 < ncount x
    ·have := h2 h6; omega
    ·by_cases h7 : 2000 < ncount y
     ·have := h4 h7; omega
     ·rw [h1 (by omega), h3 (by omega)]; exact h
 | .or x y => by
  obtain ⟨h1, h2⟩ := cntF_eq x; obtain ⟨h3, h4⟩ := cntF_eq y
  simp only [cntF, ncount]
  constructor
  ·intro h; rw [if_neg (by rw [h1 (by omega)]; omega), h1 (by omega), h3 (by omega)]
  ·intro h; split
   ·assumption
   ·rename_i h5
    by_cases h6 : 2000 < ncount x
    ·have := h2 h6; omega
    ·by_cases h7 : 2000 < ncount y
     ·have := h4 h7; omega
     ·rw [h1 (by omega), h3 (by omega)]; exact h
def csum (l : List Rw) (k : Nat) : Nat := (l.take k).foldl (fun s t => if 2000 < s then s else s + cntF t) 0
theorem csum_succ (l : List Rw) (k : Nat) (h : k < l.length) : csum l (k + 1) = if 2000 < csum l k then csum l k else csum l k + cntF l[k] := by
 unfold csum
 rw [List.take_succ_eq_append_getElem h, List.foldl_append]; rfl
theorem csum_stop (l : List Rw) (k : Nat) (h : 2000 < csum l k) : ∀ j, k ≤ j → j ≤ l.length → csum l j = csum l k := by
 intro j hj hl
 induction j with
 | zero =>
      obtain rfl : k = 0 := by omega
      rfl
 | succ j ih =>
  by_cases e : k = j + 1
  ·rw [e]
  ·rw [csum_succ l j (by omega), ih (by omega) (by omega), if_pos h]
theorem csum_parts (t : Rw) (h : t.kind ≠ 0) : csum t.parts t.parts.length = cntF t := by
 cases t with
 | set s => exact absurd rfl h
 | empty => rfl
 | star x => simp [csum, Re.parts, cntF]
 | cat x y => simp [csum, Re.parts, cntF]
 | or x y => simp [csum, Re.parts, cntF]
def CountC (t : Rw) : Prop := ∀ (n : Nat) (w : World), NodeAt w t n → Calls Tryz.prog 181 #[ptr n, .int .i64 2000] w fun e w' => e = .returned (.int .i64 (cntF t)) ∧ Kn w w'
set_option maxRecDepth 100000 in
set_option maxHeartbeats 4000000 in
theorem count_set (s : W4) : CountC (.set s) := by
 intro n w h
 go_enter Tryz.func181, Tryz.ntmps181
 go_wp2_with fail
 refine (Kind_c _ n w h).mono ?_
 rintro e w' ⟨rfl, rfl⟩
 simp only [Re.kind]
 go_wp2_with fail
 go_ret
 exact ⟨rfl, Kp.refl _ _⟩
set_option maxRecDepth 100000 in
set_option maxHeartbeats 4000000 in
theorem count_rest (t : Rw) (hk : t.kind ≠ 0) (hsz : t.size ≤ 1000000) (ih : ∀ x ∈ t.parts, CountC x) : CountC t := by
 intro n w h
 have hk0 : ((t.kind : Int) == 0) = false := by simpa using hk
 have HP := Qh (Parts_c t n w h)
 have HF := Qh (csum_parts t hk)
 have HS := Qh (csum_stop t.parts)
 have HLE : Hid (∀ i (hi : i < t.parts.length), cntF t.parts[i] ≤ 1000000) := Qh (fun i hi => by
  have h1 := cntF_le (t.parts[i])
  have h2 : (t.parts[i]).size ≤ t.size := by
   have h3 := size_parts t
   have h4 : (t.parts[i]).size ≤ (t.parts.map Re.size).sum := le_sum (List.mem_map_of_mem (List.getElem_mem hi))
   omega
  omega)
 have IH := Qh ih
 have hcs : ∀ i, i ≤ t.parts.length → csum t.parts i ≤ 2000 + 1000000 := by
  intro i
  induction i with
  | zero => intro _; simp [csum]
  | succ i ih2 =>
   intro hi
   rw [csum_succ _ _ (by omega)]
   have h1 := ih2 (by omega)
   have h2 := HLE.out i (by omega)
   split <;> omega
 have HCS := Qh hcs
 clear hk ih hcs
 go_enter Tryz.func181, Tryz.ntmps181
 go_wp2_with fail
 refine (Kind_c _ n w h).mono ?_
 rintro e w' ⟨rfl, rfl⟩
 go_wp2_with fail
 refine HP.out.mono ?_
 rintro e w1 ⟨v7, qs, rfl, ⟨a, c, rfl, hpt, hrow⟩, hk1, _⟩
 have HPT := Qh hpt
 have HROW := Qh hrow
 have hlen : Hid (t.parts.length = qs.length) := Qh hrow.len
 have hqb : qs.length ≤ 2 := by have h1 := hlen.out; rw [← h1]; cases t <;> simp [Re.parts]
 clear hpt hrow h HP
 go_wp2_with fail
 go_loopw [5, 7, 14, 15, 16, 17, 18, 19, 20, 21, 22, 23, 24, 25, 26] (fun s _ i _ _ _ _ _ _ _ _ _ _ _ _ wr => ∃ k : Nat, k ≤ qs.length ∧ i = .int .i64 k ∧ s = .int .i64 (csum t.parts k : Nat) ∧ Kn w1 wr) (fun _ _ i _ _ _ _ _ _ _ _ _ _ _ _ _ => qs.length - (intOf i).toNat)
 case atStart => exact ⟨0, Nat.zero_le _, rfl, rfl, Kp.refl _ _⟩
 case round =>
  obtain ⟨k, hk, rfl, rfl, hkn⟩ := hrel
  have hb := HCS.out k (by have := hlen.out; omega)
  by_cases hlt : k < qs.length
  ·obtain ⟨g, rfl, hc⟩ := (HPT.out.kn hkn) k hlt
   by_cases hgt : 2000 < csum t.parts k
   ·have hgt' : (2000 : Int) < (csum t.parts k : Nat) := by omega
    have HE : Hid (csum t.parts k = cntF t) := Qh (by rw [← HF.out]; exact (HS.out k hgt _ (by have := hlen.out; omega) (Nat.le_refl _)).symm)
    clear hgt
    go_wp2_with fail
    go_ret
    exact ⟨by rw [HE.out]; rfl, hk1.trans hkn⟩
   ·have hgt' : ¬ (2000 : Int) < (csum t.parts k : Nat) := by omega
    have hkp : k < t.parts.length := by have := hlen.out; omega
    have hs := Qh (csum_succ t.parts k hkp)
    have hx := (HROW.out.get k hkp hlt).kn hkn
    have hle := HLE.out k hkp
    have hih := Qh (IH.out _ (List.getElem_mem hkp) _ _ hx)
    clear hx
    go_wp2_with fail
    refine hih.out.mono ?_
    rintro e w2 ⟨rfl, hk2⟩
    go_wp2_with fail
    go_roundw
    case rel => exact ⟨k + 1, by omega, by go_num, by rw [hs.out, if_neg (by omega)]; go_num, hkn.trans hk2⟩
    case measure => simp [intOf]; omega
  ·have HE : Hid (csum t.parts k = cntF t) := Qh (by rw [← HF.out]; congr 1; have := hlen.out; omega)
   go_wp2_with fail
   go_ret
   exact ⟨by rw [HE.out]; rfl, hk1.trans hkn⟩
theorem count_c (t : Rw) : t.size ≤ 1000000 → CountC t := by
 induction t with
 | set s => intro _; exact count_set s
 | empty => intro h; exact count_rest _ (by simp [Re.kind]) h (fun x hx => by simp [Re.parts] at hx)
 | star x ih =>
  intro h
  refine count_rest _ (by simp [Re.kind]) h (fun y hy => ?_)
  simp only [Re.size] at h
  simp only [Re.parts, List.mem_singleton] at hy
  subst hy; exact ih (by omega)
 | cat x y ihx ihy =>
  intro h
  refine count_rest _ (by simp [Re.kind]) h (fun z hz => ?_)
  simp only [Re.size] at h
  simp only [Re.parts, List.mem_cons, List.mem_nil_iff, or_false] at hz
  rcases hz with rfl | rfl
  ·exact ihx (by omega)
  ·exact ihy (by omega)
 | or x y ihx ihy =>
  intro h
  refine count_rest _ (by simp [Re.kind]) h (fun z hz => ?_)
  simp only [Re.size] at h
  simp only [Re.parts, List.mem_cons, List.mem_nil_iff, or_false] at hz
  rcases hz with rfl | rfl
  ·exact ihx (by omega)
  ·exact ihy (by omega)
theorem eql_nil_ptr (q : Nat) (w : World) : (binOp .eql 246 (.pointer none) (ptr q)).run Tryz.prog w = .ok (.bool false) w := by
 have h : ∀ d : Nat, (Op.equalIn (d + 1) 246 (.pointer none) (ptr q)).run Tryz.prog w = .ok false w := fun d => by
  simp [Op.equalIn, run_underlying Tryz.underlying246]
 simp only [binOp]
 simp [Op.equal, Op.maxDepth, h 9999]
set_option maxRecDepth 100000 in
set_option maxHeartbeats 4000000 in
theorem IndexNil_c (qs : List Nat) (a : Option Addr) (c : Nat) (w : World) (hp : PtrsAt w a qs) (hm : qs.length ≤ 1000000) :
  Calls Tryz.prog 211 #[.slice a qs.length c, .pointer none] w fun e w' => e = .returned (.int .i64 (-1)) ∧ w = w' := by
 have HP := Qh hp
 have hq := eql_nil_ptr
 clear hp
 go_enter Tryz.func211, Tryz.ntmps211
 go_wp2_with fail
 go_loop [5, 8, 9, 10, 11, 12, 13, 14, 15, 16, 17, 18] (fun _ i _ _ _ _ _ _ _ _ _ _ => ∃ k : Nat, k ≤ qs.length ∧ i = .int .i64 k) (fun _ i _ _ _ _ _ _ _ _ _ _ => qs.length - (intOf i).toNat)
 case atStart => exact ⟨0, Nat.zero_le _, rfl⟩
 case round =>
  obtain ⟨k, hk, rfl⟩ := hrel
  by_cases hlt : k < qs.length
  ·obtain ⟨g, rfl, hc⟩ := HP.out k hlt
   go_wp2_with fail
   go_round
   case rel => exact ⟨k + 1, by omega, by go_num⟩
   case measure => simp [intOf]; omega
  ·go_wp2_with fail
   go_ret
   exact ⟨rfl, rfl⟩
set_option maxHeartbeats 4000000 in
theorem ContainsNil_c (qs : List Nat) (a : Option Addr) (c : Nat) (w : World) (hp : PtrsAt w a qs) (hm : qs.length ≤ 1000000) :
  Calls Tryz.prog 180 #[.slice a qs.length c, .pointer none] w fun e w' => e = .returned (.bool false) ∧ w = w' := by
 have HP := Qh (IndexNil_c qs a c w hp hm)
 clear hp
 go_enter Tryz.func180, Tryz.ntmps180
 go_wp2_with fail
 refine HP.out.mono ?_
 rintro e w' ⟨rfl, rfl⟩
 go_wp2_with fail
 go_ret
 exact ⟨rfl, rfl⟩
open Go.RowKit Go.Maps
theorem info_kno : (Tryz.prog.info? TKno).map (fun i => (i.zero, i.size, i.bytes)) = some (some (.agg #[.map none, .map none, .bool false]), 3, 24) := by kernel_rfl
abbrev knL (k : KN) (b : Nat × Nat) : List Value := [.map (some b.1), .map (some b.2), .bool k.empty]
def knC (ks : List KN) (bs : List (Nat × Nat)) : List (List Value) := List.zipWith knL ks bs
theorem knC_len {ks : List KN} {bs : List (Nat × Nat)} (h : ks.length = bs.length) : (knC ks bs).length = ks.length := by simp [knC, h]
theorem knC_three (ks : List KN) (bs : List (Nat × Nat)) : ∀ C ∈ knC ks bs, C.length = 3 := by
 intro C hC
 obtain ⟨i, hi, rfl⟩ := List.getElem_of_mem hC
 simp [knC]
theorem knC_snoc {ks : List KN} {bs : List (Nat × Nat)} (h : ks.length = bs.length) (x : KN) (b : Nat × Nat) : knC (ks ++ [x]) (bs ++ [b]) = knC ks bs ++ [knL x b] := by
 unfold knC; rw [List.zipWith_append h]; rfl
structure NfaIn (w : World) (pm : Nat) (v vr : Value) (ps : List NP) (ks : List KN) (fs : List Nat) (bs : List (Nat × Nat)) : Prop where
 mach : MachAt w pm v vr ps fs
 rules : OwnK w (pm + 1) TKno 3 vr (knC ks bs)
 len : ks.length = bs.length
 first : ∀ i (h : i < ks.length) (h' : i < bs.length), SetN w bs[i].1 ks[i].first
 last : ∀ i (h : i < ks.length) (h' : i < bs.length), SetN w bs[i].2 ks[i].last
 off : ∀ b ∈ bs, ¬ MS pm v fs b.1 ∧ ¬ MS pm v fs b.2
 good : NGood ps
 kgood : ∀ k ∈ ks, KGood k ps.length
def NfaAt (w : World) (pm : Nat) (M : NM) : Prop := ∃ v vr fs bs, NfaIn w pm v vr M.pos M.rules fs bs ∧ M.pos.length ≤ 2000
theorem OwnK.other {w : World} {B k : Nat} {v : Value} {Cs : List (List Value)} {pm : Nat} {vm vr : Value} {ps : List NP} {fs : List Nat} (h : OwnK w B TKno k v Cs) (hM : MachAt w pm vm vr ps fs) : ∀ g, v.ownBlock = some g → ¬ MS pm vm fs g := fun g hg => by
 rcases h.2 with ⟨h1, _⟩ | ⟨g', cap, cur, h1, _, h3, _⟩
 ·rw [h1] at hg; cases hg
 ·have e : g' = g := by rw [h1] at hg; simpa [Value.ownBlock] using hg
  subst e
  exact hM.other h3 (by decide) (by decide)
section
variable {w W w' : World} {pm : Nat} {v vr v1 : Value} {ps ps1 : List NP} {ks : List KN} {fs fs2 : List Nat} {bs : List (Nat × Nat)}
theorem NfaIn.kn (h : NfaIn w pm v vr ps ks fs bs) (hk : Kn w w') : NfaIn w' pm v vr ps ks fs bs :=
 ⟨h.mach.kn hk, h.rules.kn hk, h.len, fun i a b => (h.first i a b).kn hk, fun i a b => (h.last i a b).kn hk, h.off, h.good, h.kgood⟩
theorem NfaIn.ow (h : NfaIn w pm v vr ps ks fs bs) (ho : Ow w W pm v vr fs v1 ps1 fs2) (hg : NGood ps1) (hl : ps.length ≤ ps1.length) : NfaIn W pm v1 vr ps1 ks (fs ++ fs2) bs :=
 ⟨ho.mach, h.rules.kp ho.kp (h.rules.other h.mach), h.len, fun i a b => (h.first i a b).kp ho.kp (h.off _ (List.getElem_mem b)).1, fun i a b => (h.last i a b).kp ho.kp (h.off _ (List.getElem_mem b)).2,
  fun b hb => by
   obtain ⟨i, hi, rfl⟩ := List.getElem_of_mem hb
   exact ⟨ho.ms (h.first i (by rw [h.len]; exact hi) hi).lt (h.off _ hb).1, ho.ms (h.last i (by rw [h.len]; exact hi) hi).lt (h.off _ hb).2⟩, hg, fun k hk => (h.kgood k hk).mono hl⟩
theorem NfaIn.snoc {w1 : World} {vr1 : Value} (h : NfaIn W pm v vr ps ks fs bs) {x : KN} {f l : Nat} (hf : SetN W f x.first) (hl : SetN W l x.last) (nf : ¬ MS pm v fs f) (nl : ¬ MS pm v fs l) (hx : KGood x ps.length)
  (hown : OwnK w1 (pm + 1) TKno 3 vr1 (knC ks bs ++ [knL x (f, l)])) (hk : Kp (fun k => some k = vr.ownBlock) W w1) :
  NfaIn (w1.setCell ⟨pm, 1, none⟩ vr1) pm v vr1 ps (ks ++ [x]) fs (bs ++ [(f, l)]) := by
 have hk1 : K1 pm w1 (w1.setCell ⟨pm, 1, none⟩ vr1) := Kp.set1 _ _
 have hoff := h.rules.other h.mach
 have hS : ∀ q s, SetN W q s → ¬ MS pm v fs q → SetN (w1.setCell ⟨pm, 1, none⟩ vr1) q s := fun q s hs hq => (hs.kp hk (fun e => by
   rcases h.rules.2 with ⟨h1, _⟩ | ⟨g', cap, cur, h1, _, h3, _⟩
   ·rw [h1] at e; cases e
   ·have e2 : g' = q := by rw [h1] at e; simpa [Value.ownBlock] using e.symm
    subst e2
    obtain ⟨D, ⟨es, clock, hb, _⟩, _⟩ := hs
    rw [h3] at hb; injection hb with hb; cases hb)).kp hk1 (fun e => hq (.inl e))
 have hm1 : MachAt w1 pm v vr ps fs := h.mach.kp hk (fun k hS' e => hoff k e.symm hS')
 refine ⟨⟨?_, hm1.len, ?_, fun i a b => ?_, hm1.ok, hm1.nd, hm1.ap⟩, ?_, by simp [h.len], fun i a b => ?_, fun i a b => ?_, fun b hb => ?_, h.good, fun k hk => ?_⟩
 ·exact blk_set hm1.blk 1 vr1
 ·exact hm1.row.kp hk1 (fun g hg e => by have := (hm1.own_lt hg).1; omega)
 ·exact (hm1.sets i a b).kp hk1 (fun e => by have := (hm1.ap _ (List.getElem_mem b)).1; omega)
 ·rw [knC_snoc h.len]
  exact hown.kp hk1 (fun g hg e => by have := (hown.lt g hg).1; omega)
 ·have e1 := h.len
  by_cases h3 : i < ks.length
  ·rw [List.getElem_append_left h3, List.getElem_append_left (show i < bs.length by omega)]
   exact hS _ _ (h.first i h3 (by omega)) (h.off _ (List.getElem_mem _)).1
  ·simp only [List.length_append, List.length_singleton] at a
   obtain rfl : i = ks.length := by omega
   rw [List.getElem_append_right (Nat.le_refl _), List.getElem_append_right (by omega)]
   simp only [List.getElem_singleton]
   exact hS _ _ hf nf
 ·have e1 := h.len
  by_cases h3 : i < ks.length
  ·rw [List.getElem_append_left h3, List.getElem_append_left (show i < bs.length by omega)]
   exact hS _ _ (h.last i h3 (by omega)) (h.off _ (List.getElem_mem _)).2
  ·simp only [List.length_append, List.length_singleton] at a
   obtain rfl : i = ks.length := by omega
   rw [List.getElem_append_right (Nat.le_refl _), List.getElem_append_right (by omega)]
   simp only [List.getElem_singleton]
   exact hS _ _ hl nl
 ·rcases List.mem_append.1 hb with hb | hb
  ·exact h.off b hb
  ·simp at hb; subst hb; exact ⟨nf, nl⟩
 ·rcases List.mem_append.1 hk with hk | hk
  ·exact h.kgood k hk
  ·simp at hk; subst hk; exact hx
end
theorem nRules_snoc : ∀ (ts : List Rw) (i : Nat) (m : List NP) (t : Rw), nRules i (ts ++ [t]) m = ((nAdd (i + ts.length) t (nRules i ts m).1).1, (nRules i ts m).2 ++ [(nAdd (i + ts.length) t (nRules i ts m).1).2])
 | [], i, m, t => by simp [nRules]
 | x :: ts, i, m, t => by
  have ih := nRules_snoc ts (i + 1) (nAdd i x m).1 t
  simp only [List.cons_append, nRules, ih, List.length_cons]
  have e : i + 1 + ts.length = i + (ts.length + 1) := by omega
  rw [e]
def nPre (ts : List Rw) (k : Nat) : List NP × List KN := nRules 0 (ts.take k) []
theorem nPre_succ (ts : List Rw) (k : Nat) (h : k < ts.length) : nPre ts (k + 1) = ((nAdd k ts[k] (nPre ts k).1).1, (nPre ts k).2 ++ [(nAdd k ts[k] (nPre ts k).1).2]) := by
 unfold nPre
 rw [List.take_succ_eq_append_getElem h, nRules_snoc]
 have e : 0 + (ts.take k).length = k := by simp; omega
 rw [e]
def nsum (ts : List Rw) (k : Nat) : Nat := ((ts.take k).map ncount).sum
theorem nsum_succ (ts : List Rw) (k : Nat) (h : k < ts.length) : nsum ts (k + 1) = nsum ts k + ncount ts[k] := by
 unfold nsum
 rw [List.take_succ_eq_append_getElem h, List.map_append, List.sum_append]; simp
theorem nsum_le (ts : List Rw) (k : Nat) (h : k ≤ ts.length) : ∀ j, k ≤ j → j ≤ ts.length → nsum ts k ≤ nsum ts j := by
 intro j hj hl
 induction j with
 | zero =>
      obtain rfl : k = 0 := by omega
      exact Nat.le_refl _
 | succ j ih =>
  by_cases e : k = j + 1
  ·rw [e]; exact Nat.le_refl _
  ·rw [nsum_succ ts j (by omega)]; have := ih (by omega) (by omega); omega
theorem nPre_good (ts : List Rw) : ∀ k, k ≤ ts.length → (nPre ts k).1.length = nsum ts k ∧ NGood (nPre ts k).1 ∧ (nPre ts k).2.length = k := by
 intro k
 induction k with
 | zero => intro _; exact ⟨rfl, (fun p hp => by cases hp), rfl⟩
 | succ k ih =>
  intro hk
  obtain ⟨h1, h2, h5⟩ := ih (by omega)
  obtain ⟨h3, h4, _⟩ := nAdd_good k ts[k] _ h2
  rw [nPre_succ ts k (by omega), nsum_succ ts k (by omega)]
  exact ⟨by rw [h3, h1], h4, by simp [h5]⟩
def psum2 (ts : List Rw) (k : Nat) : Nat := ((ts.take k).map cntF).sum
theorem psum2_succ (ts : List Rw) (k : Nat) (h : k < ts.length) : psum2 ts (k + 1) = psum2 ts k + cntF ts[k] := by
 unfold psum2
 rw [List.take_succ_eq_append_getElem h, List.map_append, List.sum_append]; simp
theorem cntF_le_n : ∀ t : Rw, cntF t ≤ ncount t
 | .set _ => by simp [cntF, ncount]
 | .empty => by simp [cntF]
 | .star x => by simpa [cntF, ncount] using cntF_le_n x
 | .cat x y => by have := cntF_le_n x; have := cntF_le_n y; simp only [cntF, ncount]; split <;> omega
 | .or x y => by have := cntF_le_n x; have := cntF_le_n y; simp only [cntF, ncount]; split <;> omega
theorem psum2_n (ts : List Rw) : ∀ k, k ≤ ts.length → psum2 ts k ≤ nsum ts k ∧ (psum2 ts k ≤ 2000 → nsum ts k = psum2 ts k) := by
 intro k
 induction k with
 | zero => intro _; exact ⟨Nat.le_refl _, fun _ => rfl⟩
 | succ k ih =>
  intro hk
  obtain ⟨h1, h2⟩ := ih (by omega)
  have h3 := cntF_le_n ts[k]
  obtain ⟨h4, h5⟩ := cntF_eq ts[k]
  rw [psum2_succ ts k (by omega), nsum_succ ts k (by omega)]
  refine ⟨by omega, fun h => ?_⟩
  rw [h2 (by omega)]
  by_cases h6 : 2000 < ncount ts[k]
  ·have := h5 h6; omega
  ·rw [h4 (by omega)]
def NewPost (ts : List Rw) (w : World) (e : Ending) (w' : World) : Prop :=
 Kn w w' ∧ ((2000 < nsum ts ts.length ∧ e = .returned (.tuple #[.pointer none, .int .i64 3])) ∨ (nsum ts ts.length ≤ 2000 ∧ ∃ pm : Nat, e = .returned (.tuple #[ptr pm, .int .i64 0]) ∧ NfaAt w' pm (nfaF ts)))
set_option maxRecDepth 100000 in
set_option maxHeartbeats 8000000 in
theorem New_c (ts : List Rw) (qs : List Nat) (a : Option Addr) (c : Nat) (w : World) (hrow : RowAt w ts qs) (hp : PtrsAt w a qs) (hne : ts ≠ []) (hlen : ts.length ≤ 100) (hsz : ∀ t ∈ ts, t.size ≤ 1000000) :
  Calls Tryz.prog 155 #[.slice a qs.length c] w (NewPost ts w) := by
 have hl := hrow.len
 have hq0 : ((qs.length : Int) == 0) = false := by
  have : 0 < ts.length := List.length_pos_iff.2 hne
  rw [beq_eq_false_iff_ne]; omega
 have HC := Qh (fun w' (hk : Kn w w') => ContainsNil_c qs a c w' (hp.kn hk) (by omega))
 have HP := Qh hp
 have HROW0 := Qh hrow
 have HSZ := Qh hsz
 have HL := Qh hl
 have hql : qs.length ≤ 100 := by omega
 have HCN : Hid (∀ k (h : k < ts.length) (hq : k < qs.length) w', Kn w w' → Calls Tryz.prog 181 #[ptr qs[k], .int .i64 2000] w' fun e w'' => e = .returned (.int .i64 (cntF ts[k])) ∧ Kn w' w'') :=
  Qh (fun k h hq w' hk => count_c ts[k] (hsz _ (List.getElem_mem h)) _ w' ((hrow.get k h hq).kn hk))
 have HCB : Hid (∀ k (h : k < ts.length), cntF ts[k] ≤ 1000000) := Qh (fun k h => Nat.le_trans (cntF_le _) (hsz _ (List.getElem_mem h)))
 have hmm := @run_makeMap Tryz.prog
 clear hp hrow hsz hl hne
 go_enter Tryz.func155, Tryz.ntmps155
 go_wp2_with fail
 refine (HC.out w (Kp.refl _ _)).mono ?_
 rintro e w' ⟨rfl, rfl⟩
 clear HC
 go_wp2_with fail
 go_loopw [4, 6, 19, 20, 21, 22, 23, 24, 25, 26, 27, 28, 29] (fun s _ i _ _ _ _ _ _ _ _ _ _ wr => ∃ k : Nat, k ≤ qs.length ∧ i = .int .i64 k ∧ s = .int .i64 (psum2 ts k : Nat) ∧ psum2 ts k ≤ 2000 ∧ Kn w wr) (fun _ _ i _ _ _ _ _ _ _ _ _ _ _ => qs.length - (intOf i).toNat)
 case atStart => exact ⟨0, Nat.zero_le _, rfl, rfl, by simp [psum2], Kp.refl _ _⟩
 case round =>
  obtain ⟨k, hk, rfl, rfl, hps, hkn⟩ := hrel
  by_cases hlt : k < qs.length
  ·obtain ⟨g, rfl, hc⟩ := (HP.out.kn hkn) k hlt
   have hkt : k < ts.length := by have := HL.out; omega
   have hcb := HCB.out k hkt
   have hs := Qh (psum2_succ ts k hkt)
   by_cases hgt : 2000 < psum2 ts k + cntF ts[k]
   ·have hgt' : (2000 : Int) < (psum2 ts k : Nat) + (cntF ts[k] : Nat) := by omega
    have HBIG : Hid (2000 < nsum ts ts.length) := Qh (by
     have h1 := (psum2_n ts (k + 1) (by omega)).1
     rw [hs.out] at h1
     have h2 := nsum_le ts (k + 1) (by omega) ts.length (by omega) (Nat.le_refl _)
     omega)
    go_wp2_with fail
    refine (HCN.out k hkt hlt wr hkn).mono ?_
    rintro e w2 ⟨rfl, hk2⟩
    go_wp2_with fail
    go_ret2
    exact ⟨hkn.trans hk2, .inl ⟨HBIG.out, rfl⟩⟩
   ·have hgt' : ¬ (2000 : Int) < (psum2 ts k : Nat) + (cntF ts[k] : Nat) := by omega
    go_wp2_with fail
    refine (HCN.out k hkt hlt wr hkn).mono ?_
    rintro e w2 ⟨rfl, hk2⟩
    go_wp2_with fail
    go_roundw
    case rel => exact ⟨k + 1, by omega, by go_num, by rw [hs.out]; go_num, by rw [hs.out]; omega, hkn.trans hk2⟩
    case measure => simp [intOf]; omega
  ·have HSUM : Hid (nsum ts ts.length ≤ 2000) := Qh (by
    have e : k = ts.length := by have := HL.out; omega
    subst e
    rw [(psum2_n ts ts.length (Nat.le_refl _)).2 hps]; exact hps)
   have HP2 := Qh (HP.out.kn hkn)
   have HROW := Qh (HROW0.out.kn hkn)
   obtain ⟨wo, hwo⟩ : ∃ wo : World, wo = wr := ⟨_, rfl⟩
   subst hwo
   clear HP HROW0 HCN HCB hps
   have hpb0 := blk_new wo (.cells #[.slice none 0 0, .slice none 0 0] TM)
   have hN0 : NfaIn (wo.alloc (.cells #[.slice none 0 0, .slice none 0 0] TM)) wo.heap.size (.slice none 0 0) (.slice none 0 0) [] [] [] [] :=
    ⟨⟨hpb0, rfl, OwnK.nil, fun i h => by simp at h, by simp, by simp, by simp⟩, OwnK.nil, rfl, fun i h => by simp at h, fun i h => by simp at h, by simp, (fun p hp => by cases hp), by simp⟩
   have HN0 := Qh hN0
   have hkw0 : Kp (fun i => wo.heap.size ≤ i) wo (wo.alloc (.cells #[.slice none 0 0, .slice none 0 0] TM)) := (Kp.refl _ _).alloc _
   obtain ⟨pm, hpm⟩ : ∃ p, p = wo.heap.size := ⟨_, rfl⟩
   have hpmle : wo.heap.size ≤ pm := by omega
   obtain ⟨i0, hi, hz0, hz1, hz2⟩ := info_parts info_kno
   have HI := Qh (And.intro hi (And.intro hz0 (And.intro hz1 hz2)))
   clear hi hz0 hz1 hz2 hN0 hpb0
   go_wp2_with fail
   rw [← hpm] at HN0 ⊢
   clear hpm
   go_loopw [8, 9, 34, 36, 37, 38, 39, 40, 41, 42, 43, 44, 45, 46, 47, 48, 49, 50, 51, 52] (fun _ _ i _ _ _ _ _ _ _ _ _ _ _ _ _ _ _ _ _ wr => ∃ (k : Nat) (v vr : Value) (fs : List Nat) (bs : List (Nat × Nat)), k ≤ qs.length ∧ i = .int .i64 k ∧ Hid (NfaIn wr pm v vr (nPre ts k).1 (nPre ts k).2 fs bs) ∧ Kp (fun i => wo.heap.size ≤ i) wo wr) (fun _ _ i _ _ _ _ _ _ _ _ _ _ _ _ _ _ _ _ _ _ => qs.length - (intOf i).toNat)
   case atStart => exact ⟨0, _, _, _, _, Nat.zero_le _, rfl, Qh HN0.out, hkw0⟩
   case round =>
    clear hkw0 HN0
    obtain ⟨k, v, vr, fs, bs, hk, rfl, hN, hKW⟩ := hrel
    by_cases hkq : k < qs.length
    ·have hc0 := HP2.out k hkq
     obtain ⟨g, rfl, hc1⟩ := hc0
     have hkt : k < ts.length := by have := HL.out; omega
     have hk6 : k < 1000000 := by omega
     have hc2 : wr.cell? ⟨g, k, none⟩ = some (ptr qs[k]) := kp_cell hKW hc1 (fun h => by have h1 : g < wo.heap.size := World.block_lt_of_cell? wo _ hc1; change wo.heap.size ≤ g at h; omega)
     have hAG := Qh (nAdd_good k ts[k] (nPre ts k).1 hN.out.good)
     have hnk : (nPre ts k).1.length + ncount ts[k] ≤ 2000 := by
      have h1 := (nPre_good ts k (by omega)).1
      have h2 := nsum_succ ts k hkt
      have h3 := nsum_le ts (k + 1) (by omega) ts.length (by omega) (Nat.le_refl _)
      have h4 := HSUM.out
      omega
     have HKL : Hid ((nPre ts k).2.length = k) := Qh (nPre_good ts k (by omega)).2.2
     have hvr : ∃ a n c, vr = .slice a n c := by
      obtain ⟨a, c, h1, _⟩ := hN.out.rules.row (knC_three _ _)
      exact ⟨a, _, c, h1⟩
     obtain ⟨av, nv, cv, hvr⟩ := hvr
     have HV := Qh hvr
     clear hvr hc1
     go_wp2_with fail
     clear hc2
     refine wp_region_any (by kernel_rfl) ?_
     change wpAny _ _ _ _ _ _ _ (World.drew _)
     obtain ⟨wd, hwd⟩ : ∃ z, z = wr.drew := ⟨_, rfl⟩
     have HKd : Kn wr wd := by rw [hwd]; exact (Kp.refl _ _).drew
     rw [← hwd]
     have N0 := hN.out.kn HKd
     have X0 := (HROW.out.get k hkt hkq).mono61 (Kn61.of (hKW.trans HKd.weak) (fun g o ho _ h => by have := blk_lt ho; omega))
     have HKW0 : Kp (fun i => wo.heap.size ≤ i) wo wd := hKW.trans HKd.weak
     clear hwd
     refine TA 0 39 ?_
     refine TA 1 40 ?_
     refine TA 2 41 ?_
     refine TA 3 42 ?_
     refine TA 5 44 ?_
     refine TA 6 45 ?_
     refine TA 7 46 ?_
     refine wpAny_ready (rs := [4, 8]) (by kernel_rfl) (by simp) (AllReady.cons (o := Oper.mk (some 43) _ _ _ _ _) rfl (fun K hK => ?_) (AllReady.cons (o := Oper.mk (some 47) _ _ _ _ _) rfl (fun K hK => ?_) AllReady.nil))
     ·have xq := cell_blk N0.mach.blk 1
      simp only [PE] at xq
      rw [HV.out] at xq
      go_simp
      rw [← HV.out]
      clear xq
      refine hK _ _ ?_
      clear hK K
      try simp only [PP]
      refine wpAny_ready (rs := [8]) (by kernel_rfl) (by simp) (AllReady.cons (o := Oper.mk (some 47) _ _ _ _ _) rfl (fun K hK => ?_) AllReady.nil)
      go_simp
      go_at_call 182
      refine (add_c ts[k] k (nPre ts k).1 fs v vr pm qs[k] wd N0.mach X0 N0.good hnk hk6).mono ?_
      rintro e u1 ⟨f, l, v1, fs2, rfl, hO1, hFf1, hFl1⟩
      have N1 := N0.ow hO1 hAG.out.2.1 (by rw [hAG.out.1]; omega)
      have SF1 := hFf1.set
      have SL1 := hFl1.set
      have HNF : Hid (¬ MS pm v1 (fs ++ fs2) f) := Qh (fun e => by rcases e with e | e | e; have h1 := hFf1.ge; have h2 := N0.mach.lt; omega; exact hFf1.row e.symm; exact hFf1.apart N0.mach e)
      have HNL : Hid (¬ MS pm v1 (fs ++ fs2) l) := Qh (fun e => by rcases e with e | e | e; have h1 := hFl1.ge; have h2 := N0.mach.lt; omega; exact hFl1.row e.symm; exact hFl1.apart N0.mach e)
      have HKW1 : Kp (fun i => wo.heap.size ≤ i) wo u1 := HKW0.trans (hO1.kp.mono (fun i _ h => by have := (N0.mach.ms_lt h).1; omega))
      clear hO1 hFf1 hFl1 N0 X0 HKW0
      dsimp only
      refine hK _ _ ?_
      clear hK K
      try simp only [PP]
      refine wpAny_ready (rs := [9]) (by kernel_rfl) (by simp) (AllReady.cons (o := Oper.mk (some 48) _ _ _ _ _) rfl (fun K hK => ?_) AllReady.nil)
      go_simp
      obtain ⟨u2, hw2⟩ : ∃ z, z = u1.alloc (.cells #[.map (some f), .map (some l), .bool (nAdd k ts[k] (nPre ts k).1).2.empty] TKno) := ⟨_, rfl⟩
      have hk2 : Kn u1 u2 := by rw [hw2]; exact (Kp.refl _ _).alloc _
      obtain ⟨ge, hge⟩ : ∃ z, z = u1.heap.size := ⟨_, rfl⟩
      have GE2 : u2.heap[ge]? = some (.cells #[.map (some f), .map (some l), .bool (nAdd k ts[k] (nPre ts k).1).2.empty] TKno) := by rw [hw2, hge]; exact blk_new _ _
      have N2 := N1.kn hk2
      have SF2 := SF1.kn hk2
      have SL2 := SL1.kn hk2
      have HKW2 := HKW1.trans hk2.weak
      rw [← hw2, ← hge]
      clear hk2 hw2 hge N1 SF1 SL1 HKW1
      refine hK _ _ ?_
      clear hK K
      try simp only [PP]
      refine wpAny_ready (rs := [10]) (by kernel_rfl) (by simp) (AllReady.cons (o := Oper.mk (some 49) _ _ _ _ _) rfl (fun K hK => ?_) AllReady.nil)
      refine step_append_k u2 (by rfl) _ _ 272 (by rfl) (pm + 1) TKno i0 (.agg #[.map none, .map none, .bool false]) 3 24 Tryz.underlying272 HI.out.1 HI.out.2.1 HI.out.2.2.1 HI.out.2.2.2 (by rfl) (by decide) vr (knC (nPre ts k).2 bs) (by rfl) N2.rules ge 1 (by rfl) _ TKno (0, 0) GE2 (by rfl) (by simp [Value.oneCell']) (by rw [knC_len N2.len, HKL.out]; simp only [maxLen]; omega) (by rw [knC_len N2.len, HKL.out]; omega) (by have := N2.mach.lt; omega) ?_
      intro vr1 u3 hown hka _
      have hsn := N2.snoc SF2 SL2 HNF.out HNL.out hAG.out.2.2 hown hka
      have HSN := Qh hsn
      have HKW3 : Kp (fun i => wo.heap.size ≤ i) wo u3 := HKW2.trans (hka.mono (fun i _ h => by have := (N2.rules.lt i h.symm).1; omega))
      obtain ⟨av1, cv1, hv1, _⟩ := hown.row (k := 3) (fun C hC => by rcases List.mem_append.1 hC with h | h; exact knC_three _ _ C h; simp at h; rw [h]; rfl)
      obtain ⟨nl1, hv1⟩ : ∃ n, vr1 = .slice av1 n cv1 := ⟨_, hv1⟩
      have HV1 := Qh hv1
      clear hv1
      have hpb := hka.blk N2.mach.blk (fun e => N2.rules.other N2.mach _ e.symm (.inl rfl))
      clear hsn hown hka N2 SF2 SL2 GE2 HKW2
      refine hK _ _ ?_
      clear hK K
      try simp only [PP]
      refine TA 11 50 ?_
      refine TA 12 51 ?_
      refine wpAny_ready (rs := [13]) (by kernel_rfl) (by simp) (AllReady.cons (o := Oper.mk none _ _ _ _ _) rfl (fun K hK => ?_) AllReady.nil)
      have xp1 := cell_blk hpb 1
      have yp1 := frozen_blk hpb 1
      simp only [PE] at xp1
      rw [HV1.out]
      go_simp
      rw [← HV1.out]
      obtain ⟨w9, hw9⟩ : ∃ z, z = u3.setCell ⟨pm, 1, none⟩ vr1 := ⟨_, rfl⟩
      have HKW9 : Kp (fun i => wo.heap.size ≤ i) wo w9 := HKW3.trans (by rw [hw9]; exact (Kp.set1 _ _).mono (fun i _ h => by omega))
      rw [← hw9] at HSN ⊢
      clear xp1 yp1 hpb hw9 HKW3
      refine hK _ _ ?_
      clear hK K
      try simp only [PP]
      refine wpAny_done (by kernel_rfl) ?_ _
      go_wp2_with fail
      go_roundw
      case rel => exact ⟨k + 1, v1, vr1, _, _, by omega, by go_num, Qh (by rw [nPre_succ ts k hkt]; exact HSN.out), HKW9⟩
      case measure => simp [intOf]; omega
     ·go_simp
      go_at_call 182
      refine (add_c ts[k] k (nPre ts k).1 fs v vr pm qs[k] wd N0.mach X0 N0.good hnk hk6).mono ?_
      rintro e u4 ⟨f, l, v1, fs2, rfl, hO4, hFf4, hFl4⟩
      have N4 := N0.ow hO4 hAG.out.2.1 (by rw [hAG.out.1]; omega)
      have SF4 := hFf4.set
      have SL4 := hFl4.set
      have HNF : Hid (¬ MS pm v1 (fs ++ fs2) f) := Qh (fun e => by rcases e with e | e | e; have h1 := hFf4.ge; have h2 := N0.mach.lt; omega; exact hFf4.row e.symm; exact hFf4.apart N0.mach e)
      have HNL : Hid (¬ MS pm v1 (fs ++ fs2) l) := Qh (fun e => by rcases e with e | e | e; have h1 := hFl4.ge; have h2 := N0.mach.lt; omega; exact hFl4.row e.symm; exact hFl4.apart N0.mach e)
      have HKW4 : Kp (fun i => wo.heap.size ≤ i) wo u4 := HKW0.trans (hO4.kp.mono (fun i _ h => by have := (N0.mach.ms_lt h).1; omega))
      clear hO4 hFf4 hFl4 N0 X0 HKW0
      dsimp only
      refine hK _ _ ?_
      clear hK K
      try simp only [PP]
      refine wpAny_ready (rs := [4, 9]) (by kernel_rfl) (by simp) (AllReady.cons (o := Oper.mk (some 43) _ _ _ _ _) rfl (fun K hK => ?_) (AllReady.cons (o := Oper.mk (some 48) _ _ _ _ _) rfl (fun K hK => ?_) AllReady.nil))
      ·have xq := cell_blk N4.mach.blk 1
       simp only [PE] at xq
       rw [HV.out] at xq
       go_simp
       rw [← HV.out]
       clear xq
       refine hK _ _ ?_
       clear hK K
       try simp only [PP]
       refine wpAny_ready (rs := [9]) (by kernel_rfl) (by simp) (AllReady.cons (o := Oper.mk (some 48) _ _ _ _ _) rfl (fun K hK => ?_) AllReady.nil)
       go_simp
       obtain ⟨u5, hw5⟩ : ∃ z, z = u4.alloc (.cells #[.map (some f), .map (some l), .bool (nAdd k ts[k] (nPre ts k).1).2.empty] TKno) := ⟨_, rfl⟩
       have hk5 : Kn u4 u5 := by rw [hw5]; exact (Kp.refl _ _).alloc _
       obtain ⟨ge, hge⟩ : ∃ z, z = u4.heap.size := ⟨_, rfl⟩
       have GE5 : u5.heap[ge]? = some (.cells #[.map (some f), .map (some l), .bool (nAdd k ts[k] (nPre ts k).1).2.empty] TKno) := by rw [hw5, hge]; exact blk_new _ _
       have N5 := N4.kn hk5
       have SF5 := SF4.kn hk5
       have SL5 := SL4.kn hk5
       have HKW5 := HKW4.trans hk5.weak
       rw [← hw5, ← hge]
       clear hk5 hw5 hge N4 SF4 SL4 HKW4
       refine hK _ _ ?_
       clear hK K
       try simp only [PP]
       refine wpAny_ready (rs := [10]) (by kernel_rfl) (by simp) (AllReady.cons (o := Oper.mk (some 49) _ _ _ _ _) rfl (fun K hK => ?_) AllReady.nil)
       refine step_append_k u5 (by rfl) _ _ 272 (by rfl) (pm + 1) TKno i0 (.agg #[.map none, .map none, .bool false]) 3 24 Tryz.underlying272 HI.out.1 HI.out.2.1 HI.out.2.2.1 HI.out.2.2.2 (by rfl) (by decide) vr (knC (nPre ts k).2 bs) (by rfl) N5.rules ge 1 (by rfl) _ TKno (0, 0) GE5 (by rfl) (by simp [Value.oneCell']) (by rw [knC_len N5.len, HKL.out]; simp only [maxLen]; omega) (by rw [knC_len N5.len, HKL.out]; omega) (by have := N5.mach.lt; omega) ?_
       intro vr1 u6 hown hka _
       have hsn := N5.snoc SF5 SL5 HNF.out HNL.out hAG.out.2.2 hown hka
       have HSN := Qh hsn
       have HKW6 : Kp (fun i => wo.heap.size ≤ i) wo u6 := HKW5.trans (hka.mono (fun i _ h => by have := (N5.rules.lt i h.symm).1; omega))
       obtain ⟨av1, cv1, hv1, _⟩ := hown.row (k := 3) (fun C hC => by rcases List.mem_append.1 hC with h | h; exact knC_three _ _ C h; simp at h; rw [h]; rfl)
       obtain ⟨nl1, hv1⟩ : ∃ n, vr1 = .slice av1 n cv1 := ⟨_, hv1⟩
       have HV1 := Qh hv1
       clear hv1
       have hpb := hka.blk N5.mach.blk (fun e => N5.rules.other N5.mach _ e.symm (.inl rfl))
       clear hsn hown hka N5 SF5 SL5 GE5 HKW5
       refine hK _ _ ?_
       clear hK K
       try simp only [PP]
       refine TA 11 50 ?_
       refine TA 12 51 ?_
       refine wpAny_ready (rs := [13]) (by kernel_rfl) (by simp) (AllReady.cons (o := Oper.mk none _ _ _ _ _) rfl (fun K hK => ?_) AllReady.nil)
       have xp1 := cell_blk hpb 1
       have yp1 := frozen_blk hpb 1
       simp only [PE] at xp1
       rw [HV1.out]
       go_simp
       rw [← HV1.out]
       obtain ⟨w9, hw9⟩ : ∃ z, z = u6.setCell ⟨pm, 1, none⟩ vr1 := ⟨_, rfl⟩
       have HKW9 : Kp (fun i => wo.heap.size ≤ i) wo w9 := HKW6.trans (by rw [hw9]; exact (Kp.set1 _ _).mono (fun i _ h => by omega))
       rw [← hw9] at HSN ⊢
       clear xp1 yp1 hpb hw9 HKW6
       refine hK _ _ ?_
       clear hK K
       try simp only [PP]
       refine wpAny_done (by kernel_rfl) ?_ _
       go_wp2_with fail
       go_roundw
       case rel => exact ⟨k + 1, v1, vr1, _, _, by omega, by go_num, Qh (by rw [nPre_succ ts k hkt]; exact HSN.out), HKW9⟩
       case measure => simp [intOf]; omega
      ·go_simp
       obtain ⟨u7, hw7⟩ : ∃ z, z = u4.alloc (.cells #[.map (some f), .map (some l), .bool (nAdd k ts[k] (nPre ts k).1).2.empty] TKno) := ⟨_, rfl⟩
       have hk7 : Kn u4 u7 := by rw [hw7]; exact (Kp.refl _ _).alloc _
       obtain ⟨ge, hge⟩ : ∃ z, z = u4.heap.size := ⟨_, rfl⟩
       have GE7 : u7.heap[ge]? = some (.cells #[.map (some f), .map (some l), .bool (nAdd k ts[k] (nPre ts k).1).2.empty] TKno) := by rw [hw7, hge]; exact blk_new _ _
       have N7 := N4.kn hk7
       have SF7 := SF4.kn hk7
       have SL7 := SL4.kn hk7
       have HKW7 := HKW4.trans hk7.weak
       rw [← hw7, ← hge]
       clear hk7 hw7 hge N4 SF4 SL4 HKW4
       refine hK _ _ ?_
       clear hK K
       try simp only [PP]
       refine wpAny_ready (rs := [4]) (by kernel_rfl) (by simp) (AllReady.cons (o := Oper.mk (some 43) _ _ _ _ _) rfl (fun K hK => ?_) AllReady.nil)
       have xq := cell_blk N7.mach.blk 1
       simp only [PE] at xq
       rw [HV.out] at xq
       go_simp
       rw [← HV.out]
       clear xq
       refine hK _ _ ?_
       clear hK K
       try simp only [PP]
       refine wpAny_ready (rs := [10]) (by kernel_rfl) (by simp) (AllReady.cons (o := Oper.mk (some 49) _ _ _ _ _) rfl (fun K hK => ?_) AllReady.nil)
       refine step_append_k u7 (by rfl) _ _ 272 (by rfl) (pm + 1) TKno i0 (.agg #[.map none, .map none, .bool false]) 3 24 Tryz.underlying272 HI.out.1 HI.out.2.1 HI.out.2.2.1 HI.out.2.2.2 (by rfl) (by decide) vr (knC (nPre ts k).2 bs) (by rfl) N7.rules ge 1 (by rfl) _ TKno (0, 0) GE7 (by rfl) (by simp [Value.oneCell']) (by rw [knC_len N7.len, HKL.out]; simp only [maxLen]; omega) (by rw [knC_len N7.len, HKL.out]; omega) (by have := N7.mach.lt; omega) ?_
       intro vr1 u8 hown hka _
       have hsn := N7.snoc SF7 SL7 HNF.out HNL.out hAG.out.2.2 hown hka
       have HSN := Qh hsn
       have HKW8 : Kp (fun i => wo.heap.size ≤ i) wo u8 := HKW7.trans (hka.mono (fun i _ h => by have := (N7.rules.lt i h.symm).1; omega))
       obtain ⟨av1, cv1, hv1, _⟩ := hown.row (k := 3) (fun C hC => by rcases List.mem_append.1 hC with h | h; exact knC_three _ _ C h; simp at h; rw [h]; rfl)
       obtain ⟨nl1, hv1⟩ : ∃ n, vr1 = .slice av1 n cv1 := ⟨_, hv1⟩
       have HV1 := Qh hv1
       clear hv1
       have hpb := hka.blk N7.mach.blk (fun e => N7.rules.other N7.mach _ e.symm (.inl rfl))
       clear hsn hown hka N7 SF7 SL7 GE7 HKW7
       refine hK _ _ ?_
       clear hK K
       try simp only [PP]
       refine TA 11 50 ?_
       refine TA 12 51 ?_
       refine wpAny_ready (rs := [13]) (by kernel_rfl) (by simp) (AllReady.cons (o := Oper.mk none _ _ _ _ _) rfl (fun K hK => ?_) AllReady.nil)
       have xp1 := cell_blk hpb 1
       have yp1 := frozen_blk hpb 1
       simp only [PE] at xp1
       rw [HV1.out]
       go_simp
       rw [← HV1.out]
       obtain ⟨w9, hw9⟩ : ∃ z, z = u8.setCell ⟨pm, 1, none⟩ vr1 := ⟨_, rfl⟩
       have HKW9 : Kp (fun i => wo.heap.size ≤ i) wo w9 := HKW8.trans (by rw [hw9]; exact (Kp.set1 _ _).mono (fun i _ h => by omega))
       rw [← hw9] at HSN ⊢
       clear xp1 yp1 hpb hw9 HKW8
       refine hK _ _ ?_
       clear hK K
       try simp only [PP]
       refine wpAny_done (by kernel_rfl) ?_ _
       go_wp2_with fail
       go_roundw
       case rel => exact ⟨k + 1, v1, vr1, _, _, by omega, by go_num, Qh (by rw [nPre_succ ts k hkt]; exact HSN.out), HKW9⟩
       case measure => simp [intOf]; omega
    ·have e : k = ts.length := by have := HL.out; omega
     have HFIN : Hid (NfaAt wr pm (nfaF ts)) := Qh ⟨v, vr, fs, bs, by
      have h1 := hN.out
      rw [e] at h1
      have h2 : nPre ts ts.length = nRules 0 ts [] := by unfold nPre; rw [List.take_length]
      rw [h2] at h1
      exact h1, by
      have h1 := (nPre_good ts ts.length (Nat.le_refl _)).1
      have h2 : nPre ts ts.length = nRules 0 ts [] := by unfold nPre; rw [List.take_length]
      rw [h2] at h1
      show (nRules 0 ts []).1.length ≤ 2000
      rw [h1]; exact HSUM.out⟩
     clear e
     go_wp2_with fail
     go_ret2
     exact ⟨hkn.trans (hKW.mono (fun i hi h => by omega)), .inr ⟨HSUM.out, pm, rfl, HFIN.out⟩⟩
structure NMok (M : NM) : Prop where
 good : NGood M.pos
 ris : ∀ p ∈ M.pos, Ris p.follow
 kgood : ∀ k ∈ M.rules, KGood k M.pos.length
 rule : ∀ p ∈ M.pos, p.rule < M.rules.length
 len : M.pos.length ≤ 2000
 rlen : M.rules.length ≤ 100
theorem nlink_ris {m : List NP} {a b : List Nat} (h : ∀ p ∈ m, Ris p.follow) : ∀ p ∈ nlink m a b, Ris p.follow := by
 intro p hp
 obtain ⟨i, hi, rfl⟩ := List.getElem_of_mem hp
 have hi' : i < m.length := by rwa [nlink_len] at hi
 rw [nlink_get m a b i hi hi']
 split
 ·exact ris_uni _ _ (h _ (List.getElem_mem hi'))
 ·exact h _ (List.getElem_mem hi')
theorem nlink_rule {m : List NP} {a b : List Nat} {R : Nat} (h : ∀ p ∈ m, p.rule < R) : ∀ p ∈ nlink m a b, p.rule < R := by
 intro p hp
 obtain ⟨i, hi, rfl⟩ := List.getElem_of_mem hp
 have hi' : i < m.length := by rwa [nlink_len] at hi
 rw [nlink_get m a b i hi hi']
 have h1 := h m[i] (List.getElem_mem hi')
 split <;> exact h1
theorem nAdd_ris (r : Nat) : ∀ (t : Rw) (m : List NP), (∀ p ∈ m, Ris p.follow) → ∀ p ∈ (nAdd r t m).1, Ris p.follow
 | .set b, m, h => fun p hp => by
  simp only [nAdd, List.mem_append, List.mem_singleton] at hp
  rcases hp with hp | rfl
  ·exact h p hp
  ·simp [Ris]
 | .empty, m, h => h
 | .cat x y, m, h => nlink_ris (nAdd_ris r y _ (nAdd_ris r x m h))
 | .or x y, m, h => nAdd_ris r y _ (nAdd_ris r x m h)
 | .star x, m, h => nlink_ris (nAdd_ris r x m h)
theorem nAdd_rule (r R : Nat) (hr : r < R) : ∀ (t : Rw) (m : List NP), (∀ p ∈ m, p.rule < R) → ∀ p ∈ (nAdd r t m).1, p.rule < R
 | .set b, m, h => fun p hp => by
  simp only [nAdd, List.mem_append, List.mem_singleton] at hp
  rcases hp with hp | rfl
  ·exact h p hp
  ·exact hr
 | .empty, m, h => h
 | .cat x y, m, h => nlink_rule (nAdd_rule r R hr y _ (nAdd_rule r R hr x m h))
 | .or x y, m, h => nAdd_rule r R hr y _ (nAdd_rule r R hr x m h)
 | .star x, m, h => nlink_rule (nAdd_rule r R hr x m h)
theorem nPre_ok (ts : List Rw) : ∀ k, k ≤ ts.length → (∀ p ∈ (nPre ts k).1, Ris p.follow) ∧ (∀ p ∈ (nPre ts k).1, p.rule < ts.length) ∧ ∀ x ∈ (nPre ts k).2, KGood x (nPre ts k).1.length := by
 intro k
 induction k with
 | zero => intro _; exact ⟨(fun p hp => by cases hp), (fun p hp => by cases hp), (fun p hp => by cases hp)⟩
 | succ k ih =>
  intro hk
  obtain ⟨h1, h2, h3⟩ := ih (by omega)
  obtain ⟨h4, h5, h6⟩ := nAdd_good k ts[k] _ (nPre_good ts k (by omega)).2.1
  rw [nPre_succ ts k (by omega)]
  refine ⟨nAdd_ris _ _ _ h1, nAdd_rule _ _ (by omega) _ _ h2, fun x hx => ?_⟩
  simp only [List.mem_append, List.mem_singleton] at hx
  rcases hx with hx | rfl
  ·exact (h3 x hx).mono (by rw [h4]; omega)
  ·exact h6
theorem nfaF_ok (ts : List Rw) (h1 : nsum ts ts.length ≤ 2000) (h2 : ts.length ≤ 100) : NMok (nfaF ts) := by
 have e : nPre ts ts.length = nRules 0 ts [] := by unfold nPre; rw [List.take_length]
 obtain ⟨a1, a2, a3⟩ := nPre_good ts ts.length (Nat.le_refl _)
 obtain ⟨b1, b2, b3⟩ := nPre_ok ts ts.length (Nat.le_refl _)
 rw [e] at a1 a2 a3 b1 b2 b3
 exact ⟨a2, b1, b3, fun p hp => by show p.rule < (nRules 0 ts []).2.length; rw [a3]; exact b2 p hp, by show (nRules 0 ts []).1.length ≤ 2000; rw [a1]; exact h1, by show (nRules 0 ts []).2.length ≤ 100; rw [a3]; exact h2⟩
theorem NfaAt.kn {w w' : World} {pm : Nat} {M : NM} (h : NfaAt w pm M) (hk : Kn w w') : NfaAt w' pm M := by
 obtain ⟨v, vr, fs, bs, h1, h2⟩ := h
 exact ⟨v, vr, fs, bs, h1.kn hk, h2⟩
theorem NfaAt.lt {w : World} {pm : Nat} {M : NM} (h : NfaAt w pm M) : pm < w.heap.size := by obtain ⟨v, vr, fs, bs, h1, h2⟩ := h; exact h1.mach.lt
theorem NfaIn.kno {w : World} {pm : Nat} {v vr : Value} {ps : List NP} {ks : List KN} {fs : List Nat} {bs : List (Nat × Nat)} (h : NfaIn w pm v vr ps ks fs bs) {i : Nat} (hi : i < ks.length) :
  ∃ (g c f l : Nat), vr = .slice (some ⟨g, 0, none⟩) ks.length c ∧ SetN w f ks[i].first ∧ SetN w l ks[i].last ∧
  w.cell? ⟨g, i * 3, none⟩ = some (.map (some f)) ∧ w.cell? ⟨g, i * 3 + 1, none⟩ = some (.map (some l)) ∧ w.cell? ⟨g, i * 3 + 2, none⟩ = some (.bool ks[i].empty) := by
 have hib : i < bs.length := by rw [← h.len]; exact hi
 have hic : i < (knC ks bs).length := by rw [knC_len h.len]; exact hi
 obtain ⟨a, c, h1, h2, h3, h4⟩ := h.rules.row (knC_three ks bs)
 obtain ⟨g, rfl, _, _, h5⟩ := h4 (fun e => by rw [e] at hic; simp at hic)
 rw [knC_len h.len] at h1
 have h6 := fun j hj => (h5 i hic j hj).1
 have e0 : (knC ks bs)[i] = knL ks[i] bs[i] := by simp [knC]
 rw [e0] at h6
 have e : ∀ j, 0 + 3 * i + j = i * 3 + j := fun j => by omega
 simp only [e] at h6
 exact ⟨g, c, bs[i].1, bs[i].2, h1, h.first i hi hib, h.last i hi hib, h6 0 (by omega), h6 1 (by omega), h6 2 (by omega)⟩
set_option maxHeartbeats 1000000 in
theorem Rules_c (pm : Nat) (M : NM) (w : World) (h : NfaAt w pm M) :
  Calls Tryz.prog 237 #[ptr pm] w fun e w' => e = .returned (.int .i64 M.rules.length) ∧ w = w' := by
 obtain ⟨v, vr, fs, bs, h1, _⟩ := h
 have c1 := cell_blk h1.mach.blk 1
 obtain ⟨a, c, hv, _⟩ := h1.rules.row (knC_three _ _)
 rw [knC_len h1.len] at hv
 simp only [PE] at c1
 rw [hv] at c1
 clear h1 hv
 go_enter Tryz.func237, Tryz.ntmps237
 go_wp2_with fail
 go_ret
 exact ⟨rfl, rfl⟩
set_option maxHeartbeats 1000000 in
theorem Len_c (pm : Nat) (M : NM) (w : World) (h : NfaAt w pm M) :
  Calls Tryz.prog 257 #[ptr pm] w fun e w' => e = .returned (.int .i64 M.pos.length) ∧ w = w' := by
 obtain ⟨v, vr, fs, bs, h1, _⟩ := h
 have c0 := cell_blk h1.mach.blk 0
 obtain ⟨a, c, hv, _⟩ := h1.mach.row.row (posC_six _ _)
 rw [posC_len h1.mach.len] at hv
 simp only [PE] at c0
 rw [hv] at c0
 clear h1 hv
 go_enter Tryz.func257, Tryz.ntmps257
 go_wp2_with fail
 go_ret
 exact ⟨rfl, rfl⟩
set_option maxRecDepth 100000 in
set_option maxHeartbeats 2000000 in
theorem rule_c (pm i : Nat) (M : NM) (w : World) (h : NfaAt w pm M) (hi : i < M.rules.length) (hi2 : M.rules.length ≤ 100) :
  Calls Tryz.prog 253 #[ptr pm, .int .i64 i] w fun e w' => ∃ f l : Nat, e = .returned (knV f l M.rules[i].empty) ∧ SetN w' f M.rules[i].first ∧ SetN w' l M.rules[i].last ∧ Kn w w' := by
 have hk : Kn w (w.alloc zeroK) := (Kp.refl _ w).alloc _
 have HR := Qh (Rules_c pm M _ (h.kn hk))
 obtain ⟨v, vr, fs, bs, h1, _⟩ := h
 obtain ⟨g, c, f, l, hv, hf, hl, x0, x1, x2⟩ := h1.kno hi
 have c1 := cell_blk h1.mach.blk 1
 simp only [PE] at c1
 rw [hv] at c1
 have hpl := h1.mach.lt
 have hgl : g < w.heap.size := World.block_lt_of_cell? w _ x0
 have HS := Qh (And.intro hf hl)
 have hi0 : ¬ (i : Int) < 0 := by omega
 have hi1 : (i : Int) < M.rules.length := by omega
 clear h1 hv hf hl hk
 go_enter Tryz.func253, Tryz.ntmps253
 go_wp2_with fail
 refine HR.out.mono ?_
 rintro e w' ⟨rfl, rfl⟩
 go_wp2_with fail
 obtain ⟨hf, hl⟩ := HS.out
 have hk : Kn w (w.alloc (knB f l M.rules[i].empty)) := (Kp.refl _ w).alloc _
 exact bodyPost_ret (v := knV f l M.rules[i].empty) (res3 (b := w.heap.size) Tryz.results253 (by rfl) (blk_new _ _)) rfl ⟨f, l, rfl, hf.kn hk, hl.kn hk, hk⟩
theorem field_first (f l : Nat) (e : Bool) (w : World) : (Instr.field TKno (knV f l e) 0).run Tryz.prog w = .ok (.map (some f)) w := by kernel_rfl
theorem field_last (f l : Nat) (e : Bool) (w : World) : (Instr.field TKno (knV f l e) 1).run Tryz.prog w = .ok (.map (some l)) w := by kernel_rfl
theorem OwnI.kn {w w' : World} {B : Nat} {v : Value} {l : List Nat} (h : OwnI w B v l) (hk : Kn w w') : OwnI w' B v l := by
 refine ⟨h.1, ?_⟩
 rcases h.2 with h1 | ⟨g, cap, cur, h1, h2, h3, h4⟩
 ·exact .inl h1
 ·exact .inr ⟨g, cap, cur, h1, h2, hk.blk h3 (fun x => x), h4⟩
set_option maxRecDepth 100000 in
set_option maxHeartbeats 2000000 in
theorem First_c (pm i : Nat) (M : NM) (w : World) (h : NfaAt w pm M) (ok : NMok M) (hi : i < M.rules.length) :
  Calls Tryz.prog 238 #[ptr pm, .int .i64 i] w fun e w' => ∃ v B, e = .returned v ∧ w.heap.size ≤ B ∧ OwnI w' B v M.rules[i].first ∧ Kn w w' := by
 have HR := Qh (rule_c pm i M w h hi ok.rlen)
 have hg := ok.kgood _ (List.getElem_mem hi)
 have hle := ok.len
 go_enter Tryz.func238, Tryz.ntmps238
 go_wp2_with fail
 refine HR.out.mono ?_
 rintro e w1 ⟨f, l, rfl, hf, hl, hk⟩
 have hfd := field_first f l M.rules[i].empty
 have HS := Qh (sorted_c f _ w1 hf hg.rf (small_of hg.f hle))
 clear hf hl
 go_wp2_with fail
 refine HS.out.mono ?_
 rintro e w2 ⟨v, rfl, ho, hk2⟩
 go_wp2_with fail
 go_ret
 exact ⟨v, _, rfl, hk.size, ho, hk.trans hk2⟩
set_option maxRecDepth 100000 in
set_option maxHeartbeats 2000000 in
theorem Last_c (pm i : Nat) (M : NM) (w : World) (h : NfaAt w pm M) (ok : NMok M) (hi : i < M.rules.length) :
  Calls Tryz.prog 260 #[ptr pm, .int .i64 i] w fun e w' => ∃ v B, e = .returned v ∧ w.heap.size ≤ B ∧ OwnI w' B v M.rules[i].last ∧ Kn w w' := by
 have HR := Qh (rule_c pm i M w h hi ok.rlen)
 have hg := ok.kgood _ (List.getElem_mem hi)
 have hle := ok.len
 go_enter Tryz.func260, Tryz.ntmps260
 go_wp2_with fail
 refine HR.out.mono ?_
 rintro e w1 ⟨f, l, rfl, hf, hl, hk⟩
 have hfd := field_last f l M.rules[i].empty
 have HS := Qh (sorted_c l _ w1 hl hg.rl (small_of hg.l hle))
 clear hf hl
 go_wp2_with fail
 refine HS.out.mono ?_
 rintro e w2 ⟨v, rfl, ho, hk2⟩
 go_wp2_with fail
 go_ret
 exact ⟨v, _, rfl, hk.size, ho, hk.trans hk2⟩
abbrev posV (x : NP) (f : Nat) : Value := .agg #[.int .u64 x.bytes.a, .int .u64 x.bytes.b, .int .u64 x.bytes.c, .int .u64 x.bytes.d, .int .i64 x.rule, .map (some f)]
abbrev posB (x : NP) (f : Nat) : Obj := .cells #[.int .u64 x.bytes.a, .int .u64 x.bytes.b, .int .u64 x.bytes.c, .int .u64 x.bytes.d, .int .i64 x.rule, .map (some f)] TPos
theorem resPos {fn : Func} {t u : Tmp} {tmps : Array Value} {W : World} {b : Nat} {c0 c1 c2 c3 c4 c5 : Value} {T : TypeId} {fr : Nat × Nat} (h : fn.results = #[.cell t TPos, .tmp u]) (ht : tmps[t]?.getD undef = ptr b) (hb : W.heap[b]? = some (.cells #[c0, c1, c2, c3, c4, c5] T fr)) :
  (results fn tmps).run Tryz.prog W = .ok (.tuple #[.agg #[c0, c1, c2, c3, c4, c5], tmps[u]?.getD undef]) W := by
 have e0 := cell_blk hb 0; have e1 := cell_blk hb 1; have e2 := cell_blk hb 2; have e3 := cell_blk hb 3; have e4 := cell_blk hb 4; have e5 := cell_blk hb 5
 simp only [PE] at e0 e1 e2 e3 e4 e5
 simp [results, h, ht, go_sem, e0, e1, e2, e3, e4, e5]
set_option maxRecDepth 100000 in
set_option maxHeartbeats 4000000 in
theorem at_c (pm i : Nat) (M : NM) (w : World) (h : NfaAt w pm M) (hi : i < M.pos.length) :
  Calls Tryz.prog 242 #[ptr pm, .int .i64 i] w fun e w' => ∃ f : Nat, e = .returned (.tuple #[posV M.pos[i] f, .bool true]) ∧ SetN w' f M.pos[i].follow ∧ Kn w w' := by
 have hk : Kn w (w.alloc (.cells #[.int .u64 0, .int .u64 0, .int .u64 0, .int .u64 0, .int .i64 0, .map none] TPos)) := (Kp.refl _ w).alloc _
 have HR := Qh (Len_c pm M _ (h.kn hk))
 obtain ⟨v, vr, fs, bs, h1, hle⟩ := h
 obtain ⟨g, c, f, hv, _, hf, x0, x1, x2, x3, x4, x5⟩ := h1.mach.pos hi
 have c0 := cell_blk h1.mach.blk 0
 simp only [PE] at c0
 rw [hv] at c0
 have hpl := h1.mach.lt
 have hgl : g < w.heap.size := World.block_lt_of_cell? w _ x0
 have HS := Qh hf
 have hi0 : ¬ (i : Int) < 0 := by omega
 have hi1 : (i : Int) < M.pos.length := by omega
 clear h1 hv hf hk
 go_enter Tryz.func242, Tryz.ntmps242
 go_wp2_with fail
 refine HR.out.mono ?_
 rintro e w' ⟨rfl, rfl⟩
 go_wp2_with fail
 have hk : Kn w (w.alloc (posB M.pos[i] f)) := (Kp.refl _ w).alloc _
 refine bodyPost_ret (resPos (b := w.heap.size) Tryz.results242 (by rfl) (blk_new w (posB M.pos[i] f))) rfl ⟨f, rfl, HS.out.kn hk, hk⟩
set_option maxRecDepth 100000 in
set_option maxHeartbeats 4000000 in
theorem Follow_c (pm i : Nat) (M : NM) (w : World) (h : NfaAt w pm M) (ok : NMok M) (hi : i < M.pos.length) :
  Calls Tryz.prog 239 #[ptr pm, .int .i64 i] w fun e w' => ∃ v B, e = .returned v ∧ w.heap.size ≤ B ∧ OwnI w' B v M.pos[i].follow ∧ Kn w w' := by
 have HR := Qh (at_c pm i M w h hi)
 have hle := ok.len
 have hg := ok.good _ (List.getElem_mem hi)
 have hr := ok.ris _ (List.getElem_mem hi)
 have HG := Qh (And.intro hr (small_of hg hle))
 clear hg hr
 go_enter Tryz.func239, Tryz.ntmps239
 go_wp2_with fail
 refine HR.out.mono ?_
 rintro e w1 ⟨f, rfl, hf, hk⟩
 have hk2 : Kn w1 (w1.alloc (posB M.pos[i] f)) := (Kp.refl _ _).alloc _
 have HS := Qh (sorted_c f _ _ (hf.kn hk2) HG.out.1 HG.out.2)
 clear hf
 go_wp2_with fail
 refine HS.out.mono ?_
 rintro e w2 ⟨v, rfl, ho, hk3⟩
 go_wp2_with fail
 go_ret
 exact ⟨v, _, rfl, Nat.le_trans hk.size hk2.size, ho, (hk.trans hk2).trans hk3⟩
set_option maxRecDepth 100000 in
set_option maxHeartbeats 4000000 in
theorem Rule_c (pm i : Nat) (M : NM) (w : World) (h : NfaAt w pm M) (hi : i < M.pos.length) :
  Calls Tryz.prog 258 #[ptr pm, .int .i64 i] w fun e w' => e = .returned (.int .i64 M.pos[i].rule) ∧ Kn w w' := by
 have HR := Qh (at_c pm i M w h hi)
 go_enter Tryz.func258, Tryz.ntmps258
 go_wp2_with fail
 refine HR.out.mono ?_
 rintro e w1 ⟨f, rfl, hf, hk⟩
 clear hf
 go_wp2_with fail
 go_ret
 exact ⟨rfl, hk.alloc _⟩
theorem getN (x : NP) (f : Nat) (w : World) (i : Nat) (hi : i < 4) : (w.alloc (posB x f)).cell? ⟨w.heap.size, i, none⟩ = some (.int .u64 (x.bytes.get i)) := by
 rw [cell_blk (blk_new w (posB x f))]
 match i, hi with
 | 0, _ => rfl
 | 1, _ => rfl
 | 2, _ => rfl
 | 3, _ => rfl
set_option maxRecDepth 100000 in
set_option maxHeartbeats 4000000 in
theorem Has_c (pm i b : Nat) (M : NM) (w : World) (h : NfaAt w pm M) (hi : i < M.pos.length) (hb : b < 256) :
  Calls Tryz.prog 219 #[ptr pm, .int .i64 i, .int .u8 b] w fun e w' => e = .returned (.bool (M.has i b)) ∧ Kn w w' := by
 have HR := Qh (at_c pm i M w h hi)
 have hok : M.pos[i].bytes.ok := by obtain ⟨v, vr, fs, bs, h1, hle⟩ := h; exact h1.mach.ok _ (List.getElem_mem hi)
 have HT := Qh (bit_test hok b)
 have HH : Hid (M.has i b = M.pos[i].bytes.bit b) := Qh (by simp [NM.has, hi])
 have hb2 : (b : Int) < 256 := by omega
 have hq : (b : Int) / 64 < 4 := by omega
 have hq0 : (0 : Int) ≤ (b : Int) / 64 := by omega
 clear hok h
 go_enter Tryz.func219, Tryz.ntmps219
 go_wp2_with fail
 refine HR.out.mono ?_
 rintro e w1 ⟨f, rfl, hf, hk⟩
 clear hf
 have cg := getN M.pos[i] f w1 (b / 64) (by omega)
 go_wp2_with fail
 go_ret
 exact ⟨by rw [HH.out, ← HT.out]; rfl, hk.alloc _⟩
theorem OwnI.look {w : World} {B : Nat} {v : Value} {l : List Nat} (h : OwnI w B v l) : ∃ a c, v = .slice a l.length c ∧ l.length ≤ c ∧ c ≤ maxLen ∧ (l ≠ [] → ∃ b : Nat, a = some ⟨b, 0, none⟩ ∧ B ≤ b ∧ v.ownBlock = some b ∧
  ∀ j (hj : j < l.length), w.cell? ⟨b, j, none⟩ = some (.int .i64 (l[j] : Nat)) ∧ w.frozen? ⟨b, j, none⟩ = false) := by
 rcases h.2 with ⟨h1, h2⟩ | ⟨g, cap, cur, h1, h2, h3, h4, h5, h6, h7⟩
 ·exact ⟨none, 0, by rw [h1, h2], by omega, by simp [maxLen], fun hne => (hne (by simpa using h2)).elim⟩
 ·refine ⟨_, cap, h1, h4, h5, fun _ => ⟨g, rfl, h2, by rw [h1]; rfl, fun j hj => ⟨?_, frozen_blk h3 _⟩⟩⟩
  have hc := World.ownsRow.cells h (g := g) (by rw [h1]; rfl) j (.int .i64 (l[j] : Nat)) (by simp [hj])
  have hadd : (⟨g, 0, none⟩ : Addr).add j = ⟨g, j, none⟩ := by unfold Addr.add; split <;> simp_all
  rw [hadd] at hc; exact hc
theorem toInts_getD (l : List Nat) (j : Nat) (hj : j < l.length) : (l.map (fun x : Nat => (x : Int))).getD j 0 = (l[j] : Nat) := by
 rw [List.getD_eq_getElem?_getD, List.getElem?_map, List.getElem?_eq_getElem hj]; rfl
theorem Contains_c (x B : Nat) (v : Value) (l : List Nat) (w : World) (h : OwnI w B v l) :
  Calls Tryz.prog 259 #[v, .int .i64 x] w fun e w' => e = .returned (.bool (l.contains x)) ∧ w = w' := by
 obtain ⟨a, c, rfl, h1, h2, h3⟩ := h.look
 by_cases hl : l = []
 ·subst hl
  exact (Tryz.slices_Contains_int_empty a c x w).mono fun e w' ⟨q1, q2⟩ => ⟨by rw [q1]; rfl, q2.symm⟩
 ·obtain ⟨b, rfl, _, _, h4⟩ := h3 hl
  have hm : l.length ≤ 9223372036854775807 := by simp only [maxLen] at h2; omega
  refine (Tryz.slices_Contains_int b 0 l.length c (l.map (fun x : Nat => (x : Int))) x w (by simp) hm (fun j hj => ?_)).mono fun e w' ⟨q1, q2⟩ => ⟨?_, q2.symm⟩
  ·simp only [List.length_map] at hj
   rw [Nat.zero_add, toInts_getD l j hj]; exact (h4 j hj).1
  ·rw [q1, List.take_of_length_le (by simp)]
   congr 2
   rw [Bool.eq_iff_iff]
   simp only [List.contains_eq_mem, List.mem_map, decide_eq_true_eq]
   constructor
   ·rintro ⟨y, hy, e⟩; have : y = x := by omega
    subst this; exact hy
   ·intro h; exact ⟨x, h, rfl⟩
def accK (M : NM) (l : List Nat) (k : Nat) : Int := (l.take k).foldl M.acc (-1)
theorem accK_succ (M : NM) (l : List Nat) (k : Nat) (h : k < l.length) : accK M l (k + 1) = M.acc (accK M l k) l[k] := by
 unfold accK
 rw [List.take_succ_eq_append_getElem h, List.foldl_append]; rfl
theorem acc_ge (M : NM) (b : Int) (p : Nat) (hb : -1 ≤ b ∧ b < 1000000) (hp : p < M.pos.length) (ok : NMok M) : -1 ≤ M.acc b p ∧ M.acc b p < 1000000 := by
 unfold NM.acc
 split
 ·have h1 := ok.rule _ (List.getElem_mem hp)
  have h2 := ok.rlen
  simp only [NM.rule, List.getElem?_eq_getElem hp]
  omega
 ·exact hb
theorem accK_ge (M : NM) (l : List Nat) (hl : ∀ p ∈ l, p < M.pos.length) (ok : NMok M) : ∀ k, k ≤ l.length → -1 ≤ accK M l k ∧ accK M l k < 1000000 := by
 intro k
 induction k with
 | zero => intro _; simp [accK]
 | succ k ih =>
  intro h
  rw [accK_succ M l k (by omega)]
  exact acc_ge M _ _ (ih (by omega)) (hl _ (List.getElem_mem _)) ok
set_option maxRecDepth 100000 in
set_option maxHeartbeats 8000000 in
theorem accept_c (pm B : Nat) (M : NM) (v : Value) (l : List Nat) (w : World) (h : NfaAt w pm M) (ok : NMok M) (hv : OwnI w B v l) (hl : ∀ p ∈ l, p < M.pos.length) :
  Calls Tryz.prog 243 #[ptr pm, v] w fun e w' => e = .returned (.int .i64 (M.accept l)) ∧ Kn w w' := by
 obtain ⟨a, c, rfl, h1, h2, h3⟩ := hv.look
 have hm : l.length ≤ 9223372036854775807 := by simp only [maxLen] at h2; omega
 have HC : Hid (∀ j (hj : j < l.length), ∃ b : Nat, a = some ⟨b, 0, none⟩ ∧ w.cell? ⟨b, j, none⟩ = some (.int .i64 (l[j] : Nat))) := Qh (fun j hj => by
  obtain ⟨b, e, _, _, h4⟩ := h3 (fun e => by rw [e] at hj; simp at hj)
  exact ⟨b, e, (h4 j hj).1⟩)
 have HN := Qh h
 have HL := Qh hl
 have HOK := Qh ok
 have HG := Qh (accK_ge M l hl ok)
 have HE : Hid (accK M l l.length = M.accept l) := Qh (by unfold accK NM.accept; rw [List.take_length])
 clear h hl ok hv h1 h2 h3
 go_enter Tryz.func243, Tryz.ntmps243
 go_wp2_with fail
 go_loopw [5, 7, 8, 11, 12, 13, 14, 15, 16, 17, 18, 19, 20, 21, 22, 23, 24, 25, 26, 27, 28, 29, 30, 31, 32, 33] (fun s _ _ i _ _ _ _ _ _ _ _ _ _ _ _ _ _ _ _ _ _ _ _ _ _ wr => ∃ k : Nat, k ≤ l.length ∧ i = .int .i64 k ∧ s = .int .i64 (accK M l k) ∧ Kn w wr) (fun _ _ _ i _ _ _ _ _ _ _ _ _ _ _ _ _ _ _ _ _ _ _ _ _ _ _ => l.length - (intOf i).toNat)
 case atStart => exact ⟨0, Nat.zero_le _, rfl, rfl, Kp.refl _ _⟩
 case round =>
  obtain ⟨k, hk, rfl, rfl, hkn⟩ := hrel
  by_cases hlt : k < l.length
  ·obtain ⟨b, rfl, hc0⟩ := HC.out k hlt
   have hc := kn_cell hkn hc0
   have hp := HL.out _ (List.getElem_mem hlt)
   have hs := Qh (accK_succ M l k hlt)
   have hr := (HOK.out).rule _ (List.getElem_mem hp)
   obtain ⟨hg1, hg2⟩ := HG.out k hk
   have HR := Qh (Rule_c pm l[k] M wr (HN.out.kn hkn) hp)
   have HRU : Hid (M.rule l[k] = (M.pos[l[k]].rule : Int)) := Qh (by simp [NM.rule, hp])
   have HLA : Hid (M.last (M.rule l[k]) = M.rules[M.pos[l[k]].rule].last) := Qh (by rw [HRU.out]; simp [NM.last, hr]; intro h; omega)
   have HACC : Hid (M.acc (accK M l k) l[k] = if (accK M l k = -1 ∨ M.rule l[k] < accK M l k) ∧ (M.last (M.rule l[k])).contains l[k] = true then M.rule l[k] else accK M l k) := Qh rfl
   clear hc0
   generalize hgen : accK M l k = bst at hg1 hg2
   have HGEN := Qh hgen
   clear hgen
   have hr0 : M.pos[l[k]].rule < 1000000 := by have := HOK.out.rlen; omega
   have ways : Hid ((bst == -1) = true ∨ ((bst == -1) = false ∧ (M.pos[l[k]].rule : Int) < bst) ∨ ((bst == -1) = false ∧ ¬ (M.pos[l[k]].rule : Int) < bst)) := Qh (by
    by_cases e : bst = -1
    ·left; simp [e]
    ·right
     have e1 : (bst == -1) = false := by simpa using e
     by_cases e2 : (M.pos[l[k]].rule : Int) < bst
     ·exact .inl ⟨e1, e2⟩
     ·exact .inr ⟨e1, e2⟩)
   rcases ways.out with hw | ⟨hw, hw2⟩ | ⟨hw, hw2⟩
   ·go_wp2_with fail
    refine HR.out.mono ?_
    rintro e w2 ⟨rfl, hk2⟩
    go_wp2_with fail
    refine (Last_c pm M.pos[l[k]].rule M w2 (HN.out.kn (hkn.trans hk2)) HOK.out hr).mono ?_
    rintro e w3 ⟨vl, Bl, rfl, _, hol, hk3⟩
    have HCO := Qh (Contains_c l[k] Bl vl _ w3 hol)
    clear hol
    go_wp2_with fail
    refine HCO.out.mono ?_
    rintro e w' ⟨rfl, rfl⟩
    cases hcon : M.rules[M.pos[l[k]].rule].last.contains l[k] with
    | true =>
     have HX : Hid (accK M l (k + 1) = (M.pos[l[k]].rule : Int)) := Qh (by
      rw [hs.out, HACC.out, HGEN.out, HLA.out, HRU.out, if_pos ⟨(.inl (by simpa using hw)), hcon⟩])
     clear hcon
     go_wp2_with fail
     go_roundw
     case rel => exact ⟨k + 1, by omega, by go_num, by rw [HX.out], (hkn.trans hk2).trans hk3⟩
     case measure => simp [intOf]; omega
    | false =>
     have HX : Hid (accK M l (k + 1) = bst) := Qh (by
      rw [hs.out, HACC.out, HGEN.out, HLA.out, if_neg (fun h => by rw [hcon] at h; exact absurd h.2 (by simp))])
     clear hcon
     go_wp2_with fail
     go_roundw
     case rel => exact ⟨k + 1, by omega, by go_num, by rw [HX.out], (hkn.trans hk2).trans hk3⟩
     case measure => simp [intOf]; omega
   ·go_wp2_with fail
    refine HR.out.mono ?_
    rintro e w2 ⟨rfl, hk2⟩
    go_wp2_with fail
    refine (Last_c pm M.pos[l[k]].rule M w2 (HN.out.kn (hkn.trans hk2)) HOK.out hr).mono ?_
    rintro e w3 ⟨vl, Bl, rfl, _, hol, hk3⟩
    have HCO := Qh (Contains_c l[k] Bl vl _ w3 hol)
    clear hol
    go_wp2_with fail
    refine HCO.out.mono ?_
    rintro e w' ⟨rfl, rfl⟩
    cases hcon : M.rules[M.pos[l[k]].rule].last.contains l[k] with
    | true =>
     have HX : Hid (accK M l (k + 1) = (M.pos[l[k]].rule : Int)) := Qh (by
      rw [hs.out, HACC.out, HGEN.out, HLA.out, HRU.out, if_pos ⟨(.inr hw2), hcon⟩])
     clear hcon
     go_wp2_with fail
     go_roundw
     case rel => exact ⟨k + 1, by omega, by go_num, by rw [HX.out], (hkn.trans hk2).trans hk3⟩
     case measure => simp [intOf]; omega
    | false =>
     have HX : Hid (accK M l (k + 1) = bst) := Qh (by
      rw [hs.out, HACC.out, HGEN.out, HLA.out, if_neg (fun h => by rw [hcon] at h; exact absurd h.2 (by simp))])
     clear hcon
     go_wp2_with fail
     go_roundw
     case rel => exact ⟨k + 1, by omega, by go_num, by rw [HX.out], (hkn.trans hk2).trans hk3⟩
     case measure => simp [intOf]; omega
   ·have HX : Hid (accK M l (k + 1) = bst) := Qh (by
     rw [hs.out, HACC.out, HGEN.out, HRU.out, if_neg (fun h => by rcases h.1 with h | h; simp [h] at hw; exact hw2 h)])
    go_wp2_with fail
    refine HR.out.mono ?_
    rintro e w2 ⟨rfl, hk2⟩
    go_wp2_with fail
    go_roundw
    case rel => exact ⟨k + 1, by omega, by go_num, by rw [HX.out], hkn.trans hk2⟩
    case measure => simp [intOf]; omega
  ·have e : k = l.length := by omega
   have HF : Hid (accK M l k = M.accept l) := Qh (by rw [e]; exact HE.out)
   clear e
   go_wp2_with fail
   go_ret
   exact ⟨by rw [HF.out]; rfl, hkn⟩
def txt2 (n : Nat) : List UInt8 := [UInt8.ofNat n, UInt8.ofNat (n / 256)]
def textF (l : List Nat) : List UInt8 := l.flatMap txt2
theorem textF_len : ∀ l : List Nat, (textF l).length = 2 * l.length
 | [] => rfl
 | x :: l => by
  have := textF_len l
  simp only [textF, List.flatMap_cons, List.length_append, List.length_cons] at this ⊢
  rw [this]; simp [txt2]; omega
theorem txt2_inj {a b : Nat} (ha : a < 65536) (hb : b < 65536) (h : txt2 a = txt2 b) : a = b := by
 simp only [txt2, List.cons.injEq, and_true] at h
 have h1 := congrArg UInt8.toNat h.1
 have h2 := congrArg UInt8.toNat h.2
 simp only [UInt8.toNat_ofNat'] at h1 h2
 omega
theorem textF_inj : ∀ {a b : List Nat}, (∀ x ∈ a, x < 65536) → (∀ x ∈ b, x < 65536) → textF a = textF b → a = b
 | [], [], _, _, _ => rfl
 | [], y :: b, _, _, h => by simp [textF, txt2] at h
 | x :: a, [], _, _, h => by simp [textF, txt2] at h
 | x :: a, y :: b, ha, hb, h => by
  have e : txt2 x ++ textF a = txt2 y ++ textF b := h
  have h1 := List.append_inj e (by simp [txt2])
  rw [txt2_inj (ha x (by simp)) (hb y (by simp)) h1.1, textF_inj (fun z hz => ha z (by simp [hz])) (fun z hz => hb z (by simp [hz])) h1.2]
theorem info_byte : (Tryz.prog.info? 5).map (fun i => (i.zero, i.size, i.bytes)) = some (some (.int .u8 0), 1, 1) := by kernel_rfl
abbrev byC (l : List UInt8) : List Value := l.map (fun b => Value.int .u8 (b.toNat : Int))
set_option maxRecDepth 100000 in
set_option maxHeartbeats 8000000 in
theorem text_c (B : Nat) (v : Value) (l : List Nat) (w : World) (hv : OwnI w B v l) (hl : ∀ p ∈ l, p < 65536) (hlen : l.length ≤ 1000000) :
  Calls Tryz.prog 221 #[v] w fun e w' => e = .returned (.string ⟨(textF l).toArray⟩) ∧ Kn w w' := by
 obtain ⟨a, c, rfl, h1, h2, h3⟩ := hv.look
 have HC : Hid (∀ j (hj : j < l.length), ∃ b : Nat, a = some ⟨b, 0, none⟩ ∧ w.cell? ⟨b, j, none⟩ = some (.int .i64 (l[j] : Nat))) := Qh (fun j hj => by
  obtain ⟨b, e, _, _, h4⟩ := h3 (fun e => by rw [e] at hj; simp at hj)
  exact ⟨b, e, (h4 j hj).1⟩)
 have HL := Qh hl
 obtain ⟨i0, hi, hz0, hz1, hz2⟩ := info_parts info_byte
 have HI := Qh (And.intro hi (And.intro hz0 (And.intro hz1 hz2)))
 clear hl hv h1 h2 h3 hi hz0 hz1 hz2
 go_enter Tryz.func221, Tryz.ntmps221
 go_wp2_with (first | (at_make; go_must (refine wpList_make_own _ rfl (.const (.int .i64 0)) (.tmp 8) 42 rfl w.heap.size 5 i0 (.int .u8 0) 1 Tryz.underlying42 HI.out.1 HI.out.2.1 HI.out.2.2.1 .i64 .i64 (2 * (l.length : Int)) (2 * l.length) rfl rfl (by omega) (by rw [HI.out.2.2.2]; omega) (by simp only [maxLen]; omega) (Nat.le_refl _) ?_; intro w1 hown1 hg1)))
 obtain ⟨gb, hgb⟩ : ∃ g, g = w.heap.size := ⟨_, rfl⟩
 rw [← hgb] at hown1 ⊢
 have hg : w.heap.size ≤ gb := by omega
 have hgl : gb < w1.heap.size := (hown1.lt gb rfl).2
 have hk1 : Kn w w1 := Kp.of_grown hg1 (fun k e _ => by cases e)
 clear hgb
 go_loopw [3, 5, 12, 14, 15, 16, 17, 18, 19, 20, 21, 22, 23, 24] (fun s _ i _ _ _ _ _ _ _ _ _ _ _ wr => ∃ k : Nat, k ≤ l.length ∧ i = .int .i64 k ∧ s = .slice (some ⟨gb, 0, none⟩) (2 * k) (2 * l.length) ∧ Hid (wr.ownsRow gb 5 1 (.slice (some ⟨gb, 0, none⟩) (2 * k) (2 * l.length)) (2 * k) (byC (textF (l.take k)))) ∧ Kn w wr) (fun _ _ i _ _ _ _ _ _ _ _ _ _ _ _ => l.length - (intOf i).toNat)
 case atStart => exact ⟨0, Nat.zero_le _, rfl, rfl, Qh hown1, hk1⟩
 case round =>
  obtain ⟨k, hk, rfl, rfl, hown, hkn⟩ := hrel
  by_cases hlt : k < l.length
  ·obtain ⟨b, rfl, hc0⟩ := HC.out k hlt
   have hc := kn_cell hkn hc0
   have hx := HL.out _ (List.getElem_mem hlt)
   clear hc0
   have e1 : ((UInt8.ofNat l[k]).toNat : Int) = (l[k] : Int) % 256 := by rw [UInt8.toNat_ofNat']; omega
   have e2 : ((UInt8.ofNat (l[k] / 256)).toNat : Int) = (l[k] : Int) / 256 := by rw [UInt8.toNat_ofNat']; omega
   have HS : Hid (byC (textF (l.take (k + 1))) = byC (textF (l.take k)) ++ [.int .u8 ((l[k] : Int) % 256), .int .u8 ((l[k] : Int) / 256)]) := Qh (by
    rw [List.take_succ_eq_append_getElem hlt]
    simp only [byC, textF, List.flatMap_append, List.map_append, List.flatMap_cons, List.flatMap_nil, List.append_nil, txt2, List.map_cons, List.map_nil, e1, e2])
   have hnews := World.news_of_block (blk_new wr (.cells #[.int .u8 ((l[k] : Int) % 256), .int .u8 ((l[k] : Int) / 256)] 5))
   have HN := Qh (And.intro hown hnews)
   have hfit : 2 * k + 2 ≤ 2 * l.length := by omega
   have HI1 := Qh HI.out.1
   clear e1 e2 hnews
   go_wp2_with (at_builtin; refine wpList_append_fits _ rfl (.tmp 16) (.tmp 22) 42 rfl gb 5 i0 1 Tryz.underlying42 HI.out.1 HI.out.2.2.1 gb (2 * k) (2 * l.length) _ rfl (HN.out.1.out.alloc _) ⟨wr.heap.size, 0, none⟩ 2 2 _ rfl rfl HN.out.2 (by simp [Value.oneCell']) hfit ?_; intro w3 hown3 hg3)
   have hk3 : Kn w w3 := (hkn.alloc _).trans' (Kp.of_grown (S := fun k => k = gb) hg3 (fun k e _ => by cases e; rfl)) (fun i hi e => by omega)
   have HO3 := Qh hown3
   clear hown3 hg3 hc
   go_wp2_with fail
   go_roundw
   case rel => exact ⟨k + 1, by omega, by go_num, rfl, Qh (by rw [HS.out]; exact HO3.out), hk3⟩
   case measure => simp [intOf]; omega
  ·have e : k = l.length := by omega
   have hrow := hown.out
   rw [e, List.take_length] at hrow
   have hbl := hrow.lt gb rfl
   have hconv := run_convert_bytes_back (P := Tryz.prog) wr 42 9 5 ⟨gb, 0, none⟩ (2 * l.length) (textF l) Tryz.underlying42 Tryz.underlying5 Tryz.underlying9 (fun j hj => by
    exact World.ownsRow.cells hrow (g := gb) rfl j _ (by simp [hj]))
   rw [textF_len] at hconv
   subst e
   clear hrow
   go_wp2_with fail
   go_ret
   exact ⟨rfl, hkn⟩
open Go.RowKit Go.Maps Go.Sort Go.Lib
theorem compact_sorted (d : Array Int) (hs : ∀ i j, i ≤ j → j < d.size → d[i]! ≤ d[j]!) : ∀ m, m ≤ d.size → (compactUpTo d m).Pairwise (· < ·) ∧ ∀ x, x ∈ compactUpTo d m ↔ ∃ j, j < m ∧ d[j]! = x := by
 intro m
 induction m with
 | zero => intro _; simp [compactUpTo]
 | succ m ih =>
  intro hm
  obtain ⟨h1, h2⟩ := ih (by omega)
  rw [compactUpTo_succ]
  cases hk : keeps d m with
  | true =>
   rw [if_pos rfl]
   have hne : m = 0 ∨ d[m - 1]! ≠ d[m]! := by
    simp only [keeps, decide_eq_true_eq] at hk
    rcases hk with h | h
    ·exact .inl h
    ·exact .inr (fun e => h e.symm)
   refine ⟨List.pairwise_append.2 ⟨h1, by simp, fun x hx y hy => ?_⟩, fun x => ?_⟩
   ·simp at hy; subst hy
    obtain ⟨j, hj, rfl⟩ := (h2 x).1 hx
    rcases hne with h | h
    ·omega
    ·have e1 := hs j (m - 1) (by omega) (by omega)
     have e2 := hs (m - 1) m (by omega) (by omega)
     omega
   ·rw [List.mem_append, h2 x, List.mem_singleton]
    constructor
    ·rintro (⟨j, hj, e⟩ | rfl)
     ·exact ⟨j, by omega, e⟩
     ·exact ⟨m, by omega, rfl⟩
    ·rintro ⟨j, hj, e⟩
     by_cases h : j = m
     ·subst h; exact .inr e.symm
     ·exact .inl ⟨j, by omega, e⟩
  | false =>
   rw [if_neg (by simp), List.append_nil]
   have he : m ≠ 0 ∧ d[m - 1]! = d[m]! := by
    simp only [keeps, decide_eq_false_iff_not] at hk
    rw [not_or] at hk
    exact ⟨hk.1, by have := hk.2; simp only [ne_eq, Decidable.not_not] at this; exact this.symm⟩
   refine ⟨h1, fun x => ?_⟩
   rw [h2 x]
   constructor
   ·rintro ⟨j, hj, e⟩; exact ⟨j, by omega, e⟩
   ·rintro ⟨j, hj, e⟩
    by_cases h : j = m
    ·subst h; exact ⟨j - 1, by omega, by rw [he.2]; exact e⟩
    ·exact ⟨j, by omega, e⟩
theorem sort_compact {l r : List Nat} (hr : Ris r) (hm : ∀ x, x ∈ r ↔ x ∈ l) : compact ((l.map (fun x : Nat => (x : Int))).mergeSort (fun x y => decide (x ≤ y))) = r.map (fun x : Nat => (x : Int)) := by
 have hp : (((l.map (fun x : Nat => (x : Int))).mergeSort (fun x y => decide (x ≤ y)))).Pairwise (fun a b => decide (a ≤ b) = true) :=
  List.pairwise_mergeSort (fun a b c h1 h2 => by simp only [decide_eq_true_eq] at *; omega) (fun a b => by simp only [Bool.or_eq_true, decide_eq_true_eq]; omega) _
 generalize hz : (l.map (fun x : Nat => (x : Int))).mergeSort (fun x y => decide (x ≤ y)) = zs at hp
 have hmem : ∀ x : Int, x ∈ zs ↔ ∃ y ∈ l, (y : Int) = x := fun x => by rw [← hz, List.mem_mergeSort]; simp
 have hs : ∀ i j, i ≤ j → j < zs.toArray.size → zs.toArray[i]! ≤ zs.toArray[j]! := by
  intro i j hij hj
  simp only [List.size_toArray] at hj
  simp only [List.getElem!_toArray]
  rw [getElem!_pos zs i (by omega), getElem!_pos zs j hj]
  rcases Nat.lt_or_ge i j with h | h
  ·have := List.pairwise_iff_getElem.1 hp i j (by omega) hj h
   simpa using this
  ·obtain rfl : i = j := by omega
   exact Int.le_refl _
 obtain ⟨h1, h2⟩ := compact_sorted zs.toArray hs zs.length (by simp)
 have hr' : (r.map (fun x : Nat => (x : Int))).Pairwise (· < ·) := by
  rw [List.pairwise_map]; exact hr.imp (fun {a b} h => by omega)
 refine List.Perm.eq_of_pairwise (le := fun a b => a < b) (fun a b _ _ q1 q2 => by omega) h1 hr' ?_
 refine (List.perm_ext_iff_of_nodup (h1.imp (fun {a b} h => by omega)) (hr'.imp (fun {a b} h => by omega))).2 (fun x => ?_)
 show x ∈ compactUpTo zs.toArray zs.length ↔ _
 rw [h2 x]
 have e : (∃ j, j < zs.length ∧ zs.toArray[j]! = x) ↔ x ∈ zs := by
  constructor
  ·rintro ⟨j, hj, rfl⟩
   simp only [List.getElem!_toArray]
   rw [getElem!_pos zs j hj]; exact List.getElem_mem hj
  ·intro h
   obtain ⟨j, hj, rfl⟩ := List.getElem_of_mem h
   exact ⟨j, hj, by simp only [List.getElem!_toArray]; rw [getElem!_pos zs j hj]⟩
 rw [e, hmem x]
 simp only [List.mem_map]
 constructor
 ·rintro ⟨y, hy, rfl⟩; exact ⟨y, (hm y).2 hy, rfl⟩
 ·rintro ⟨y, hy, rfl⟩; exact ⟨y, (hm y).1 hy, rfl⟩
abbrev OwnZ (w : World) (B : Nat) (v : Value) (zs : List Int) : Prop := w.ownsRow B 3 1 v zs.length (zs.map encZ)
theorem OwnI.z {w : World} {B : Nat} {v : Value} {l : List Nat} (h : OwnI w B v l) : OwnZ w B v (l.map (fun x : Nat => (x : Int))) := by
 unfold OwnZ; rw [List.map_map, List.length_map]; exact h
theorem OwnI.of_z {w : World} {B : Nat} {v : Value} {l : List Nat} (h : OwnZ w B v (l.map (fun x : Nat => (x : Int)))) : OwnI w B v l := by
 unfold OwnZ at h; rw [List.map_map, List.length_map] at h; exact h
theorem Sort_c (B : Nat) (v : Value) (zs : List Int) (w : World) (h : OwnZ w B v zs) (hl : zs.length ≤ 100000000) :
  Calls Tryz.prog 240 #[v] w fun e w' => e = .returned (.tuple #[]) ∧ OwnZ w' B v (zs.mergeSort (fun x y => decide (x ≤ y))) ∧ Kp (fun k => v.ownBlock = some k) w w' := by
 rcases h.2 with ⟨rfl, hz⟩ | ⟨gb, cap, cur, rfl, hbase, hgb, r1, r2, r3, r4⟩
 ·have hss : zs = [] := List.eq_nil_of_length_eq_zero hz
  subst hss
  exact (Tryz.slices_Sort_int_none none 0 w).mono fun e w' ⟨q1, q2⟩ => by subst q2; exact ⟨q1, by simpa using h, Kp.refl _ _⟩
 ·have hH : Holds encZ w gb 0 zs.toArray := holds_of_block_i hgb (by simpa using r4)
  refine (Tryz.slices_Sort_int gb 0 cap zs w hH (blk_lt hgb) (by omega)).mono fun e w' ⟨q1, n, os, q2⟩ => ?_
  subst q2
  have hlen : (zs.mergeSort (fun x y => decide (x ≤ y))).length = zs.length := by simp
  refine ⟨q1, ?_, Kp.of_grown (grownBy_sorted_i _) (fun k e _ => by simpa [Value.ownBlock] using e.symm)⟩
  have := ownsRow_sorted_i (n := n) (os := os) (ts := zs.mergeSort (fun x y => decide (x ≤ y))) hlen hbase hgb r1 r2 r3
  unfold OwnZ; rw [hlen]; exact this
theorem Compact_c (B : Nat) (v : Value) (zs : List Int) (w : World) (h : OwnZ w B v zs) (hl : zs.length ≤ 100000000) :
  Calls Tryz.prog 241 #[v] w fun e w' => ∃ v', e = .returned v' ∧ OwnZ w' B v' (compact zs) ∧ Kp (fun k => v.ownBlock = some k) w w' := by
 rcases h.2 with ⟨rfl, hz⟩ | ⟨gb, cap, cur, rfl, hbase, hgb, r1, r2, r3, r4⟩
 ·have hss : zs = [] := List.eq_nil_of_length_eq_zero hz
  subst hss
  exact (Tryz.slices_Compact_int_empty none 0 w).mono fun e w' ⟨q1, q2⟩ => by subst q2; exact ⟨_, q1, h, Kp.refl _ _⟩
 ·have hH : Holds encZ w gb 0 zs.toArray := holds_of_block_i hgb (by simpa using r4)
  refine (Tryz.slices_Compact_int gb 0 cap zs w hH (by omega) r1).mono fun e w' ⟨q1, n, q2⟩ => ?_
  have hcl : (compact zs).length ≤ zs.length := by
   unfold compact compactUpTo
   rw [List.length_map]
   exact Nat.le_trans (List.length_filter_le _ _) (by simp)
  have hg : w' = grow w' #[] := by simp [grow]
  rw [hg, q2]
  have hlen : (compact zs ++ List.replicate (zs.length - (compact zs).length) 0).length = zs.length := by simp; omega
  have hrow := ownsRow_sorted_i (n := n) (os := #[]) (ts := compact zs ++ List.replicate (zs.length - (compact zs).length) 0) hlen hbase hgb r1 r2 r3
  refine ⟨_, q1, ?_, Kp.of_grown (grownBy_sorted_i _) (fun k e _ => by simpa [Value.ownBlock] using e.symm)⟩
  refine ⟨by simp, ?_⟩
  rcases hrow.2 with ⟨e, _⟩ | ⟨g', cap', cur', e1, e2, e3, e4, e5, e6, e7⟩
  ·cases e
  ·simp only [Value.slice.injEq, Option.some.injEq, Addr.mk.injEq, and_true, true_and] at e1
   obtain ⟨rfl, rfl⟩ := e1
   refine .inr ⟨_, _, cur', rfl, e2, e3, by omega, e5, e6, ?_⟩
   simp only [Nat.mul_one] at e7 ⊢
   have : (cur'.toList.take zs.length).take (compact zs).length = ((compact zs ++ List.replicate (zs.length - (compact zs).length) 0).map encZ).take (compact zs).length := by rw [e7]
   rw [List.take_take, Nat.min_eq_left hcl, List.map_append, List.take_left' (by simp)] at this
   exact this
theorem info_int : (Tryz.prog.info? 3).map (fun i => (i.zero, i.size, i.bytes)) = some (some (.int .i64 0), 1, 8) := by kernel_rfl
theorem run_append_i (w : World) (ty : TypeId) (B Bx : Nat) (va vx : Value) (a x : List Nat) (ha : OwnI w B va a) (hx : OwnI w Bx vx x) (hl : a.length + x.length ≤ 100000000) (hB : B ≤ w.heap.size) :
  ∃ v' w', (Builtin.append_ #[69, 69] ty #[va, vx]).run Tryz.prog w = .ok v' w' ∧ OwnI w' B v' (a ++ x) ∧ Kp (fun k => some k = va.ownBlock) w w' := by
 obtain ⟨i0, hi, hz0, hz1, hz2⟩ := info_parts info_int
 rcases hx.2 with ⟨rfl, hz⟩ | ⟨g, cap, cur, rfl, hbase, hgb, r1, r2, r3, r4⟩
 ·have hss : x = [] := List.eq_nil_of_length_eq_zero hz
  subst hss
  exact ⟨va, w, run_append_owned_none (w := w) B 69 ty 3 i0 1 Tryz.underlying69 hi va _ _ ha, by simpa using ha, Kp.refl _ _⟩
 ·obtain ⟨v', w', hr, h2, h3, _, _⟩ := run_append_own_at (P := Tryz.prog) w B 69 ty 3 i0 (.int .i64 0) 1 8 Tryz.underlying69 hi hz0 hz1 hz2 rfl (by decide) va _ _ ha ⟨g, 0, none⟩ x.length cap (x.map (fun x : Nat => Value.int .i64 x)) (by simp)
   (World.ownsRow.cells hx (g := g) rfl) (by simp [Value.oneCell']) (by simp only [maxLen]; omega) (by omega) hB
  exact ⟨v', w', hr, by unfold OwnI; rw [List.length_append, List.map_append]; exact h2, Kp.grownK h3⟩
theorem wpList_append_i {w : World} {ops : Array Oper} {rest : List Oper} {o : Oper} {act : Act} {Q : Exit → Act → World → Prop} (hgd : o.guard = none) (s x : Operand)
  (ho : o.op = .call { callee := .builtin .append, args := #[s, x], argTypes := #[69, 69] }) (B Bx : Nat) (va vx : Value) (a l : List Nat) (hs : act.eval s = va) (hxe : act.eval x = vx) (ha : OwnI w B va a) (hx : OwnI w Bx vx l) (hl : a.length + l.length ≤ 100000000) (hB : B ≤ w.heap.size)
  (h : ∀ v' w', OwnI w' B v' (a ++ l) → Kp (fun k => some k = va.ownBlock) w w' → wpList Tryz.prog ops Q rest (act.put o.dst v') w') : wpList Tryz.prog ops Q (o :: rest) act w := by
 refine wpList_plain hgd fun K hK => ?_
 obtain ⟨v', w', hr, h2, h3⟩ := run_append_i w o.type B Bx va vx a l ha hx hl hB
 unfold Oper.wp execOp
 simp only [ho, resolve, invoke, builtin, Sem.run_bind, Sem.run_pure, Result.andThen_ok, List.map_toArray, List.map_cons, List.map_nil, hs, hxe, hr]
 exact hK _ _ (h v' w' h2 h3)
end Go.Proofs.YtopmadkajacniaaGreatDoor
namespace Go.Proofs.YtopmadkajacniaaGreatDoor
open Go.RowKit Go.Maps
theorem foldl_uni {α : Type} (f : α → List Nat) : ∀ (L : List α) (l : List Nat), Ris l → Ris (L.foldl (fun l k => uni l (f k)) l) ∧ ∀ x, x ∈ L.foldl (fun l k => uni l (f k)) l ↔ x ∈ l ∨ x ∈ L.flatMap f
 | [], l, h => ⟨h, fun x => by simp⟩
 | k :: L, l, h => by
  obtain ⟨h1, h2⟩ := foldl_uni f L (uni l (f k)) (ris_uni _ _ h)
  refine ⟨h1, fun x => ?_⟩
  rw [List.foldl_cons, h2 x, mem_uni, List.flatMap_cons, List.mem_append, or_assoc]
def catK {α : Type} (f : α → List Nat) (L : List α) (k : Nat) : List Nat := (L.take k).flatMap f
theorem catK_succ {α : Type} (f : α → List Nat) (L : List α) (k : Nat) (h : k < L.length) : catK f L (k + 1) = catK f L k ++ f L[k] := by
 unfold catK; rw [List.take_succ_eq_append_getElem h, List.flatMap_append]; simp
theorem catK_len {α : Type} (f : α → List Nat) (L : List α) (h : ∀ x ∈ L, (f x).length ≤ 2000) : ∀ k, k ≤ L.length → (catK f L k).length ≤ 2000 * k := by
 intro k
 induction k with
 | zero => intro _; simp [catK]
 | succ k ih =>
  intro hk
  rw [catK_succ f L k (by omega), List.length_append]
  have h1 := ih (by omega)
  have h2 := h _ (List.getElem_mem (show k < L.length by omega))
  omega
theorem ris_small {l : List Nat} (h : Ris l) {n : Nat} (hl : ∀ x ∈ l, x < n) (hn : n ≤ 2000) : l.length ≤ 2000 := by
 have := ris_len (N := n) (m := 0) h (fun x hx => ⟨Nat.zero_le _, hl x hx⟩)
 omega
theorem behind_ris (M : NM) (l : List Nat) : Ris (M.behind l) := by
 unfold NM.behind
 split
 ·exact (foldl_uni (fun k : KN => k.first) M.rules [] List.Pairwise.nil).1
 ·exact (foldl_uni M.follow l [] List.Pairwise.nil).1
theorem behind_lt (M : NM) (ok : NMok M) (l : List Nat) (hl : ∀ p ∈ l, p < M.pos.length) : ∀ x ∈ M.behind l, x < M.pos.length := by
 intro x hx
 unfold NM.behind at hx
 split at hx
 ·have h1 := ((foldl_uni (fun k : KN => k.first) M.rules [] List.Pairwise.nil).2 x).1 hx
  simp only [List.not_mem_nil, false_or, List.mem_flatMap] at h1
  obtain ⟨k, hk, h2⟩ := h1
  exact (ok.kgood k hk).f x h2
 ·have h1 := ((foldl_uni M.follow l [] List.Pairwise.nil).2 x).1 hx
  simp only [List.not_mem_nil, false_or, List.mem_flatMap] at h1
  obtain ⟨p, hp, h2⟩ := h1
  have hp' := hl p hp
  simp only [NM.follow, List.getElem?_eq_getElem hp'] at h2
  exact ok.good _ (List.getElem_mem hp') x h2
def BehindPost (M : NM) (l : List Nat) (w : World) (e : Ending) (w' : World) : Prop := ∃ v B, e = .returned v ∧ w.heap.size ≤ B ∧ OwnI w' B v (M.behind l) ∧ Kn w w'
set_option maxRecDepth 100000 in
set_option maxHeartbeats 8000000 in
theorem behind_nil (pm : Nat) (M : NM) (l : List Nat) (hl0 : l = []) (w : World) (h : NfaAt w pm M) (ok : NMok M) :
  Calls Tryz.prog 218 #[ptr pm, .slice none 0 0] w (BehindPost M l w) := by
 have HN := Qh h
 have HOK := Qh ok
 have HL0 := Qh hl0
 have hrl := ok.rlen
 have HLEN := Qh (catK_len (fun k : KN => k.first) M.rules (fun k hk => ris_small (ok.kgood k hk).rf (ok.kgood k hk).f ok.len))
 have hqn : ∀ w, (binOp .eql 69 (.slice none 0 0) (.slice none 0 0)).run Tryz.prog w = .ok (.bool true) w := fun w => by kernel_rfl
 clear h ok hl0
 go_enter Tryz.func218, Tryz.ntmps218
 go_wp2_with fail
 refine (Rules_c pm M w HN.out).mono ?_
 rintro e w' ⟨rfl, rfl⟩
 go_wp2_with fail
 go_loopw [5, 6, 13, 14, 15, 16, 17, 18, 19, 20, 21] (fun s _ i _ _ _ _ _ _ _ _ wr => ∃ (v : Value) (k : Nat), v = s ∧ k ≤ M.rules.length ∧ i = .int .i64 k ∧ Hid (OwnI wr w.heap.size v (catK (fun k : KN => k.first) M.rules k)) ∧ Kn w wr) (fun _ _ i _ _ _ _ _ _ _ _ _ => M.rules.length - (intOf i).toNat)
 case atStart => exact ⟨_, 0, rfl, Nat.zero_le _, rfl, Qh (World.ownsRow_nil _ _ _ _), Kp.refl _ _⟩
 case round =>
  obtain ⟨v, k, rfl, hk, rfl, hrow, hkn⟩ := hrel
  have hlk := HLEN.out k hk
  by_cases hlt : k < M.rules.length
  ·have hs := Qh (catK_succ (fun k : KN => k.first) M.rules k hlt)
   have hx : (M.rules[k].first).length ≤ 2000 := ris_small (HOK.out.kgood _ (List.getElem_mem hlt)).rf (HOK.out.kgood _ (List.getElem_mem hlt)).f HOK.out.len
   have HF := Qh (First_c pm k M wr (HN.out.kn hkn) HOK.out hlt)
   go_wp2_with fail
   refine HF.out.mono ?_
   rintro e w3 ⟨vx, Bx, rfl, hbx, hox, hk3⟩
   have HX := Qh hox
   have hB3 : w.heap.size ≤ w3.heap.size := Nat.le_trans hkn.size hk3.size
   clear hox
   go_wp2_with (at_builtin; refine wpList_append_i rfl (.tmp 16) (.tmp 19) rfl w.heap.size Bx v vx _ _ rfl rfl (hrow.out.kn hk3) HX.out (by omega) hB3 ?_; intro v4 w4 hro4 hk4)
   have HR4 := Qh hro4
   have hkn4 : Kn w w4 := (hkn.trans hk3).trans' hk4 (fun i hi e => by have := (hrow.out.lt i e.symm).1; omega)
   clear hro4 hk4
   go_wp2_with fail
   go_roundw
   case rel => exact ⟨v4, k + 1, rfl, by omega, by go_num, Qh (by rw [hs.out]; exact HR4.out), hkn4⟩
   case measure => simp [intOf]; omega
  ·have e : k = M.rules.length := by omega
   go_wp2_with fail
   refine wp_loop_rounds 1 ?_
   rw [rounds_succ]
   have HSORT := Qh (Sort_c w.heap.size _ _ wr hrow.out.z (by simp; omega))
   have HSC : Hid (Lib.compact (((catK (fun k : KN => k.first) M.rules k).map (fun x : Nat => (x : Int))).mergeSort (fun x y => decide (x ≤ y))) = (M.behind l).map (fun x : Nat => (x : Int))) := Qh (sort_compact (behind_ris M l) (fun x => by
    have e1 : M.behind l = M.rules.foldl (fun l k => uni l k.first) [] := by rw [HL0.out]; simp [NM.behind]
    rw [e1, (foldl_uni (fun k : KN => k.first) M.rules [] List.Pairwise.nil).2 x, e]
    unfold catK; rw [List.take_length]; simp))
   go_wp2_with fail
   refine (HSORT.out).mono ?_
   rintro e w5 ⟨rfl, hs5, hk5⟩
   have HCOM := Qh (Compact_c w.heap.size _ _ w5 hs5 (by simp; omega))
   clear hs5
   go_wp2_with fail
   refine HCOM.out.mono ?_
   rintro e w6 ⟨v6, rfl, hs6, hk6⟩
   rw [HSC.out] at hs6
   go_wp2_with fail
   go_ret
   exact ⟨v6, _, rfl, Nat.le_refl _, OwnI.of_z hs6, (hkn.trans' hk5 (fun i hi e => by have := (hrow.out.lt i e).1; omega)).trans' hk6 (fun i hi e => by have := (hrow.out.lt i e).1; omega)⟩
set_option maxRecDepth 100000 in
set_option maxHeartbeats 8000000 in
theorem behind_at (pm B : Nat) (M : NM) (v0 : Value) (l : List Nat) (hl0 : l ≠ []) (w : World) (h : NfaAt w pm M) (ok : NMok M) (hv : OwnI w B v0 l) (hl : ∀ p ∈ l, p < M.pos.length) (hll : l.length ≤ 2000) :
  Calls Tryz.prog 218 #[ptr pm, v0] w (BehindPost M l w) := by
 obtain ⟨a, c, rfl, h1, h2, h3⟩ := hv.look
 obtain ⟨b, rfl, _, _, h4⟩ := h3 hl0
 have HN := Qh h
 have HOK := Qh ok
 have HL0 := Qh hl0
 have HC := Qh h4
 have HL := Qh hl
 have hfl : ∀ p ∈ l, (M.follow p).length ≤ 2000 := fun p hp => by
  have hp' := hl p hp
  simp only [NM.follow, List.getElem?_eq_getElem hp']
  exact ris_small (ok.ris _ (List.getElem_mem hp')) (ok.good _ (List.getElem_mem hp')) ok.len
 have HFL := Qh hfl
 have HLEN := Qh (catK_len M.follow l hfl)
 have hqn := Lib.run_eql_slice_nil (P := Tryz.prog) (t := 69)
 clear h ok hl0 hv hl h2 h3 h4 hfl h1
 go_enter Tryz.func218, Tryz.ntmps218
 go_wp2_with fail
 go_loopw [5, 8, 24, 25, 26, 27, 28, 29, 30, 31, 32, 33] (fun s _ i _ _ _ _ _ _ _ _ _ wr => ∃ (v : Value) (k : Nat), v = s ∧ k ≤ l.length ∧ i = .int .i64 k ∧ Hid (OwnI wr w.heap.size v (catK M.follow l k)) ∧ Kn w wr) (fun _ _ i _ _ _ _ _ _ _ _ _ _ => l.length - (intOf i).toNat)
 case atStart => exact ⟨_, 0, rfl, Nat.zero_le _, rfl, Qh (World.ownsRow_nil _ _ _ _), Kp.refl _ _⟩
 case round =>
  obtain ⟨v, k, rfl, hk, rfl, hrow, hkn⟩ := hrel
  have hlk := HLEN.out k hk
  by_cases hlt : k < l.length
  ·have hs := Qh (catK_succ M.follow l k hlt)
   have hx := HFL.out _ (List.getElem_mem hlt)
   have hp := HL.out _ (List.getElem_mem hlt)
   have hc := kn_cell hkn (HC.out k hlt).1
   have hfo : Hid (M.follow l[k] = M.pos[l[k]].follow) := Qh (by simp [NM.follow, hp])
   have HF := Qh (Follow_c pm l[k] M wr (HN.out.kn hkn) HOK.out hp)
   go_wp2_with fail
   refine HF.out.mono ?_
   rintro e w3 ⟨vx, Bx, rfl, hbx, hox, hk3⟩
   rw [← hfo.out] at hox
   have HX := Qh hox
   have hB3 : w.heap.size ≤ w3.heap.size := Nat.le_trans hkn.size hk3.size
   clear hox hc
   go_wp2_with (at_builtin; refine wpList_append_i rfl (.tmp 28) (.tmp 31) rfl w.heap.size Bx v vx _ _ rfl rfl (hrow.out.kn hk3) HX.out (by omega) hB3 ?_; intro v4 w4 hro4 hk4)
   have HR4 := Qh hro4
   have hkn4 : Kn w w4 := (hkn.trans hk3).trans' hk4 (fun i hi e => by have := (hrow.out.lt i e.symm).1; omega)
   clear hro4 hk4
   go_wp2_with fail
   go_roundw
   case rel => exact ⟨v4, k + 1, rfl, by omega, by go_num, Qh (by rw [hs.out]; exact HR4.out), hkn4⟩
   case measure => simp [intOf]; omega
  ·have e : k = l.length := by omega
   have HSORT := Qh (Sort_c w.heap.size _ _ wr hrow.out.z (by simp; omega))
   have HSC : Hid (Lib.compact (((catK M.follow l k).map (fun x : Nat => (x : Int))).mergeSort (fun x y => decide (x ≤ y))) = (M.behind l).map (fun x : Nat => (x : Int))) := Qh (sort_compact (behind_ris M l) (fun x => by
    have e1 : M.behind l = l.foldl (fun l p => uni l (M.follow p)) [] := by unfold NM.behind; rw [if_neg HL0.out]
    rw [e1, (foldl_uni M.follow l [] List.Pairwise.nil).2 x, e]
    unfold catK; rw [List.take_length]; simp))
   go_wp2_with fail
   refine (HSORT.out).mono ?_
   rintro e w5 ⟨rfl, hs5, hk5⟩
   have HCOM := Qh (Compact_c w.heap.size _ _ w5 hs5 (by simp; omega))
   clear hs5
   go_wp2_with fail
   refine HCOM.out.mono ?_
   rintro e w6 ⟨v6, rfl, hs6, hk6⟩
   rw [HSC.out] at hs6
   go_wp2_with fail
   go_ret
   exact ⟨v6, _, rfl, Nat.le_refl _, OwnI.of_z hs6, (hkn.trans' hk5 (fun i hi e => by have := (hrow.out.lt i e).1; omega)).trans' hk6 (fun i hi e => by have := (hrow.out.lt i e).1; omega)⟩
open Go.RowKit Go.Maps Go.ChangeMaps
abbrev KV := List (Value × Value)
def MapA (w : World) (k : TypeId) (b : Nat) (m : KV) : Prop :=
 ∃ (es : Array MapEntry) (clock : Nat), w.heap[b]? = some (.map es clock) ∧ es.toList.map (fun e => (e.key, e.val)) = m ∧ (m.map (·.1)).Nodup ∧ ∀ p ∈ m, ∃ l, keyOf Tryz.prog k p.1 = some l
section
variable {w : World} {k e t : TypeId} {b : Nat} {m : KV} {x : Value} {lx : Lit}
theorem MapA.keys {es : Array MapEntry} (he : es.toList.map (fun e => (e.key, e.val)) = m) (hk : ∀ p ∈ m, ∃ l, keyOf Tryz.prog k p.1 = some l) : ∀ e ∈ es.toList, ∃ l, keyOf Tryz.prog k e.key = some l := fun e h => by
 refine hk (e.key, e.val) ?_
 rw [← he]; exact List.mem_map_of_mem h
theorem MapA.lt (h : MapA w k b m) : b < w.heap.size := by obtain ⟨_, _, hb, _⟩ := h; exact blk_lt hb
theorem MapA.kp {S : Nat → Prop} {w' : World} (h : MapA w k b m) (hk : Kp S w w') (hs : ¬ S b) : MapA w' k b m := by obtain ⟨es, clock, hb, r⟩ := h; exact ⟨es, clock, hk.blk hb hs, r⟩
theorem MapA.kn {w' : World} (h : MapA w k b m) (hk : Kn w w') : MapA w' k b m := h.kp hk (fun x => x)
theorem MapA.new (w : World) (k : TypeId) : MapA (w.alloc (.map #[] 0)) k w.heap.size [] := ⟨#[], 0, blk_new w _, rfl, by simp, by simp⟩
theorem MapA.look0 (h : MapA w k b m) (K : Keyed Tryz.prog k) (ht : Tryz.prog.underlying t = some (.map k e)) {z : Value} (hz : (zeroValue e).run Tryz.prog w = .ok z w) (hx : keyOf Tryz.prog k x = some lx) (hn : ∀ p ∈ m, p.1 ≠ x) (c : Bool) :
  (Instr.lookup t (.map (some b)) x c).run Tryz.prog w = .ok (if c then .tuple #[z, .bool false] else z) w := by
 obtain ⟨es, clock, hb, he, hd, hk⟩ := h
 rcases K.find w hx es.toList (MapA.keys he hk) with ⟨h1, _⟩ | ⟨j, e0, h1, h2, h3⟩
 ·simp [Instr.lookup, run_underlying ht, MapKept.run_getObj_map hb, K.check w _ hx, h1, hz, Result.andThen]
 ·exact (hn (e0.key, e0.val) (by rw [← he]; exact List.mem_map_of_mem (List.mem_of_getElem? h2)) h3).elim
theorem MapA.val {v : Value} (hd : (m.map (·.1)).Nodup) (h1 : (x, v) ∈ m) {u : Value} (h2 : (x, u) ∈ m) : u = v := by
 induction m with
 | nil => cases h1
 | cons p m ih =>
  simp only [List.map_cons, List.nodup_cons] at hd
  rcases List.mem_cons.1 h1 with e1 | e1
  ·subst e1
   rcases List.mem_cons.1 h2 with e2 | e2
   ·exact congrArg Prod.snd e2
   ·exact (hd.1 (List.mem_map_of_mem (f := (·.1)) e2)).elim
  ·rcases List.mem_cons.1 h2 with e2 | e2
   ·subst e2
    exact (hd.1 (List.mem_map_of_mem (f := (·.1)) e1)).elim
   ·exact ih hd.2 e1 e2
theorem MapA.look1 (h : MapA w k b m) (K : Keyed Tryz.prog k) (ht : Tryz.prog.underlying t = some (.map k e)) (hx : keyOf Tryz.prog k x = some lx) {v : Value} (hn : (x, v) ∈ m) (c : Bool) :
  (Instr.lookup t (.map (some b)) x c).run Tryz.prog w = .ok (if c then .tuple #[v, .bool true] else v) w := by
 obtain ⟨es, clock, hb, he, hd, hk⟩ := h
 rcases K.find w hx es.toList (MapA.keys he hk) with ⟨h1, h0⟩ | ⟨j, e0, h1, h2, h3⟩
 ·rw [← he] at hn
  obtain ⟨e1, h4, h5⟩ := List.mem_map.1 hn
  exact (h0 e1 h4 (congrArg Prod.fst h5)).elim
 ·have hv : e0.val = v := MapA.val hd hn (by rw [← he, ← h3]; exact List.mem_map_of_mem (List.mem_of_getElem? h2))
  subst hv
  simp [Instr.lookup, run_underlying ht, MapKept.run_getObj_map hb, K.check w _ hx, h1, Result.andThen]
theorem MapA.put0 (h : MapA w k b m) (K : Keyed Tryz.prog k) (ht : Tryz.prog.underlying t = some (.map k e)) (hx : keyOf Tryz.prog k x = some lx) (hn : ∀ p ∈ m, p.1 ≠ x) (v : Value) :
  ∃ w', (Instr.mapUpdate t (.map (some b)) x v).run Tryz.prog w = .ok () w' ∧ MapA w' k b (m ++ [(x, v)]) ∧ K1 b w w' := by
 obtain ⟨es, clock, hb, he, hd, hk⟩ := h
 rcases K.find w hx es.toList (MapA.keys he hk) with ⟨h1, _⟩ | ⟨j, e0, h1, h2, h3⟩
 ·refine ⟨setBlock w b (.map (es.push ⟨x, v, clock⟩) (clock + 1)), ?_, ⟨_, _, heap_setBlock_same hb _, ?_, ?_, ?_⟩, ⟨rfl, rfl, rfl, by simp [setBlock], fun i _ hi => heap_setBlock_other hb _ hi⟩⟩
  ·simp [Instr.mapUpdate, run_underlying ht, MapKept.run_getObj_map hb, K.check w false hx, h1, MapKept.run_setObj_map _ hb, Result.andThen, setBlock]
  ·simp [he]
  ·rw [List.map_append, List.nodup_append]
   refine ⟨hd, by simp, fun y hy z hz => ?_⟩
   simp at hz; subst hz
   obtain ⟨p, hp, rfl⟩ := List.mem_map.1 hy
   exact hn p hp
  ·intro p hp
   rcases List.mem_append.1 hp with hp | hp
   ·exact hk p hp
   ·simp at hp; subst hp; exact ⟨_, hx⟩
 ·exact (hn (e0.key, e0.val) (by rw [← he]; exact List.mem_map_of_mem (List.mem_of_getElem? h2)) h3).elim
theorem MapA.put1 (h : MapA w k b m) (K : Keyed Tryz.prog k) (ht : Tryz.prog.underlying t = some (.map k e)) (hx : keyOf Tryz.prog k x = some lx) {u : Value} (hn : (x, u) ∈ m) (v : Value) :
  ∃ (w' : World) (j : Nat), (Instr.mapUpdate t (.map (some b)) x v).run Tryz.prog w = .ok () w' ∧ m[j]? = some (x, u) ∧ MapA w' k b (m.set j (x, v)) ∧ K1 b w w' := by
 obtain ⟨es, clock, hb, he, hd, hk⟩ := h
 rcases K.find w hx es.toList (MapA.keys he hk) with ⟨h1, h0⟩ | ⟨j, e0, h1, h2, h3⟩
 ·rw [← he] at hn
  obtain ⟨e1, h4, h5⟩ := List.mem_map.1 hn
  exact (h0 e1 h4 (congrArg Prod.fst h5)).elim
 ·have hv : e0.val = u := MapA.val hd hn (by rw [← he, ← h3]; exact List.mem_map_of_mem (List.mem_of_getElem? h2))
  have hj : es[j]? = some e0 := by simpa using h2
  have hm : m[j]? = some (x, u) := by rw [← he, List.getElem?_map, h2]; simp [h3, hv]
  have hjl : j < m.length := (List.getElem?_eq_some_iff.1 hm).1
  refine ⟨setBlock w b (.map (es.modify j (fun e' => { e' with key := x, val := v })) clock), j, ?_, hm, ⟨_, _, heap_setBlock_same hb _, ?_, ?_, ?_⟩, ⟨rfl, rfl, rfl, by simp [setBlock], fun i _ hi => heap_setBlock_other hb _ hi⟩⟩
  ·simp [Instr.mapUpdate, run_underlying ht, MapKept.run_getObj_map hb, K.check w false hx, h1, hj, h3, K.stays w hx, MapKept.run_setObj_map _ hb, Result.andThen, setBlock]
  ·rw [Array.toList_modify, List.modify_eq_set, h2]
   simp [List.map_set, he]
  ·have : (m.set j (x, v)).map (·.1) = m.map (·.1) := by
    rw [List.map_set]
    apply List.ext_getElem?
    intro i
    rw [List.getElem?_set]
    split
    ·rename_i e; subst e; rw [List.getElem?_map, hm]; simp [hjl]
    ·rfl
   rw [this]; exact hd
  ·intro p hp
   rcases List.mem_or_eq_of_mem_set hp with hp | rfl
   ·exact hk p hp
   ·exact ⟨_, hx⟩
theorem MapA.len (h : MapA w k b m) (ht : Tryz.prog.underlying t = some (.map k e)) (ty : TypeId) : (Builtin.len_ #[t] ty #[.map (some b)]).run Tryz.prog w = .ok (.int .i64 m.length) w := by
 obtain ⟨es, clock, hb, he, _, _⟩ := h
 have e1 : m.length = es.size := by rw [← he]; simp
 rw [e1]
 simp [Builtin.len_, run_underlying ht, MapKept.run_getObj_map hb, goInt, Result.andThen]
end
section
variable {w : World} {k e t : TypeId} {b : Nat} {m : KV} {ops : Array Oper} {rest : List Oper} {o : Oper} {a : Act} {Q : Exit → Act → World → Prop}
theorem wpList_look0 (hg : o.guard = none) (mo xo : Operand) (c : Bool) (hop : o.op = Op.lookup t mo xo c) (K : Keyed Tryz.prog k) (ht : Tryz.prog.underlying t = some (.map k e)) (z : Value) (hz : ∀ w, (zeroValue e).run Tryz.prog w = .ok z w)
  (hm : a.eval mo = .map (some b)) (h : MapA w k b m) (x : Value) (lx : Lit) (hx : a.eval xo = x) (hk : keyOf Tryz.prog k x = some lx) (hn : ∀ p ∈ m, p.1 ≠ x)
  (hK : wpList Tryz.prog ops Q rest (a.put o.dst (if c then .tuple #[z, .bool false] else z)) w) : wpList Tryz.prog ops Q (o :: rest) a w := by
 refine wpList_plain hg fun K' hK' => ?_
 unfold Oper.wp
 simp [execOp, hop, hm, hx, h.look0 K ht (hz w) hk hn c, Result.andThen]
 exact hK' _ _ hK
theorem wpList_look1 (hg : o.guard = none) (mo xo : Operand) (c : Bool) (hop : o.op = Op.lookup t mo xo c) (K : Keyed Tryz.prog k) (ht : Tryz.prog.underlying t = some (.map k e))
  (hm : a.eval mo = .map (some b)) (h : MapA w k b m) (x : Value) (lx : Lit) (hx : a.eval xo = x) (hk : keyOf Tryz.prog k x = some lx) (v : Value) (hn : (x, v) ∈ m)
  (hK : wpList Tryz.prog ops Q rest (a.put o.dst (if c then .tuple #[v, .bool true] else v)) w) : wpList Tryz.prog ops Q (o :: rest) a w := by
 refine wpList_plain hg fun K' hK' => ?_
 unfold Oper.wp
 simp [execOp, hop, hm, hx, h.look1 K ht hk hn c, Result.andThen]
 exact hK' _ _ hK
theorem wpList_put0 (hg : o.guard = none) (mo xo vo : Operand) (hop : o.op = Op.mapUpdate t mo xo vo) (K : Keyed Tryz.prog k) (ht : Tryz.prog.underlying t = some (.map k e))
  (hm : a.eval mo = .map (some b)) (h : MapA w k b m) (x v : Value) (lx : Lit) (hx : a.eval xo = x) (hv : a.eval vo = v) (hk : keyOf Tryz.prog k x = some lx) (hn : ∀ p ∈ m, p.1 ≠ x)
  (hK : ∀ w', MapA w' k b (m ++ [(x, v)]) → K1 b w w' → wpList Tryz.prog ops Q rest (a.put o.dst undef) w') : wpList Tryz.prog ops Q (o :: rest) a w := by
 refine wpList_plain hg fun K' hK' => ?_
 obtain ⟨w', hr, h1, h2⟩ := h.put0 K ht hk hn v
 unfold Oper.wp
 simp [execOp, hop, hm, hx, hv, hr, Result.andThen]
 exact hK' _ _ (hK w' h1 h2)
theorem wpList_put1 (hg : o.guard = none) (mo xo vo : Operand) (hop : o.op = Op.mapUpdate t mo xo vo) (K : Keyed Tryz.prog k) (ht : Tryz.prog.underlying t = some (.map k e))
  (hm : a.eval mo = .map (some b)) (h : MapA w k b m) (x v : Value) (lx : Lit) (hx : a.eval xo = x) (hv : a.eval vo = v) (hk : keyOf Tryz.prog k x = some lx) (u : Value) (hn : (x, u) ∈ m)
  (hK : ∀ w' j, m[j]? = some (x, u) → MapA w' k b (m.set j (x, v)) → K1 b w w' → wpList Tryz.prog ops Q rest (a.put o.dst undef) w') : wpList Tryz.prog ops Q (o :: rest) a w := by
 refine wpList_plain hg fun K' hK' => ?_
 obtain ⟨w', j, hr, hj, h1, h2⟩ := h.put1 K ht hk hn v
 unfold Oper.wp
 simp [execOp, hop, hm, hx, hv, hr, Result.andThen]
 exact hK' _ _ (hK w' j hj h1 h2)
end
end Go.Proofs.YtopmadkajacniaaGreatDoor
namespace Go.Proofs.YtopmadkajacniaaGreatDoor
open Go.RowKit Go.Maps
abbrev TD : TypeId := 284
abbrev TDs : TypeId := 281
abbrev TDb : TypeId := 287
abbrev TStr : TypeId := 9
def stL (s : DS) (va : Value) : List Value := va :: (s.next.map (Value.int .i64) ++ [.int .i64 s.accept])
theorem stL_len {s : DS} {va : Value} (h : s.next.length = 256) : (stL s va).length = 258 := by simp [stL, h]
def stC (l : List DS) (vas : List Value) : List (List Value) := List.zipWith stL l vas
theorem stC_len {l : List DS} {vas : List Value} (h : l.length = vas.length) : (stC l vas).length = l.length := by simp [stC, h]
theorem stC_all {l : List DS} {vas : List Value} (h : ∀ s ∈ l, s.next.length = 256) : ∀ C ∈ stC l vas, C.length = 258 := by
 intro C hC
 obtain ⟨i, hi, rfl⟩ := List.getElem_of_mem hC
 have h1 : i < l.length := by simp [stC] at hi; omega
 simp only [stC, List.getElem_zipWith]
 exact stL_len (h _ (List.getElem_mem h1))
theorem stC_get {l : List DS} {vas : List Value} {i : Nat} (h1 : i < l.length) (h2 : i < vas.length) (h3 : i < (stC l vas).length) : (stC l vas)[i] = stL l[i] vas[i] := by simp [stC]
theorem stC_snoc {l : List DS} {vas : List Value} (h : l.length = vas.length) (s : DS) (va : Value) : stC (l ++ [s]) (vas ++ [va]) = stC l vas ++ [stL s va] := by
 unfold stC; rw [List.zipWith_append h]; rfl
def AtAt (w : World) (l : List Nat) (v : Value) : Prop := (l = [] ∧ v = .slice none 0 0) ∨ (l ≠ [] ∧ ∃ B, OwnI w B v l)
theorem AtAt.kp {S : Nat → Prop} {w w' : World} {l : List Nat} {v : Value} (h : AtAt w l v) (hk : Kp S w w') (hS : ∀ (g : Nat) (cs : Array Value), w.heap[g]? = some (.cells cs 3 (0, 0)) → ¬ S g) : AtAt w' l v := by
 rcases h with h | ⟨h1, B, h2⟩
 ·exact .inl h
 ·refine .inr ⟨h1, B, h2.1, ?_⟩
  rcases h2.2 with h3 | ⟨g, cap, cur, h3, h4, h5, h6⟩
  ·exact .inl h3
  ·exact .inr ⟨g, cap, cur, h3, h4, hk.blk h5 (hS g cur h5), h6⟩
theorem AtAt.slice {w : World} {l : List Nat} {v : Value} (h : AtAt w l v) : ∃ a c, v = .slice a l.length c := by
 rcases h with ⟨h1, h2⟩ | ⟨_, B, h2⟩
 ·exact ⟨none, 0, by rw [h1, h2]; rfl⟩
 ·obtain ⟨a, c, h3, _⟩ := h2.look; exact ⟨a, c, h3⟩
theorem OwnK.blkT {w : World} {B k : Nat} {T : TypeId} {v : Value} {Cs : List (List Value)} (h : OwnK w B T k v Cs) {g : Nat} (hg : v.ownBlock = some g) : ∃ cur, w.heap[g]? = some (.cells cur T (0, 0)) := by
 rcases h.2 with ⟨h1, _⟩ | ⟨g', cap, cur, h1, _, h3, _⟩
 ·rw [h1] at hg; cases hg
 ·have e : g' = g := by rw [h1] at hg; simpa [Value.ownBlock] using hg
  subst e; exact ⟨cur, h3⟩
def dfL (pm : Nat) (v : Value) (cl : List Int) (nc : Int) : List Value := ptr pm :: v :: (cl.map (Value.int .i64) ++ [.int .i64 nc])
structure DfaIn (w : World) (pd pm : Nat) (v : Value) (l : List DS) (vas : List Value) (cl : List Int) (nc : Int) : Prop where
 blk : w.heap[pd]? = some (.cells (dfL pm v cl nc).toArray TD (0, 0))
 cls : cl.length = 256
 len : l.length = vas.length
 row : OwnK w (pd - 1) TDs 258 v (stC l vas)
 nx : ∀ s ∈ l, s.next.length = 256
 ats : ∀ i (h : i < l.length) (h' : i < vas.length), AtAt w l[i].at_ vas[i]
def DSS (pd bm : Nat) (v : Value) (k : Nat) : Prop := k = pd ∨ k = bm ∨ v.ownBlock = some k
section
variable {w w' : World} {pd pm : Nat} {v : Value} {l : List DS} {vas : List Value} {cl : List Int} {nc : Int}
theorem DfaIn.lt (h : DfaIn w pd pm v l vas cl nc) : pd < w.heap.size := blk_lt h.blk
theorem DfaIn.kn (h : DfaIn w pd pm v l vas cl nc) (hk : Kn w w') : DfaIn w' pd pm v l vas cl nc :=
 ⟨hk.blk h.blk (fun x => x), h.cls, h.len, h.row.kn hk, h.nx, fun i a b => (h.ats i a b).kp hk (fun _ _ _ x => x)⟩
theorem DfaIn.own_blk (h : DfaIn w pd pm v l vas cl nc) {g : Nat} (hg : v.ownBlock = some g) : ∃ cur, w.heap[g]? = some (.cells cur TDs (0, 0)) := h.row.blkT hg
theorem DfaIn.own_lt (h : DfaIn w pd pm v l vas cl nc) {g : Nat} (hg : v.ownBlock = some g) : (pd ≠ g ∧ pd ≤ g + 1) ∧ g < w.heap.size := by
 obtain ⟨h1, h2⟩ := h.row.lt g hg
 refine ⟨⟨fun e => ?_, by omega⟩, h2⟩
 subst e
 obtain ⟨cur, hb⟩ := h.own_blk hg
 rw [h.blk] at hb; injection hb with hb; injection hb with _ hb _; exact absurd hb (by decide)
theorem DfaIn.slice (h : DfaIn w pd pm v l vas cl nc) : ∃ a c, v = .slice a l.length c := by
 obtain ⟨a, c, h1, _⟩ := h.row.row (stC_all h.nx)
 rw [stC_len h.len] at h1
 exact ⟨a, c, h1⟩
theorem DfaIn.other (h : DfaIn w pd pm v l vas cl nc) {g : Nat} {C : Array Value} {T : TypeId} {fr : Nat × Nat} (hg : w.heap[g]? = some (.cells C T fr)) (h1 : T ≠ TD) (h2 : T ≠ TDs) : ¬ (g = pd ∨ v.ownBlock = some g) := by
 rintro (rfl | e)
 ·rw [h.blk] at hg; injection hg with hg; injection hg with _ hg _; exact h1 hg.symm
 ·obtain ⟨cur, hb⟩ := h.own_blk e
  rw [hb] at hg; injection hg with hg; injection hg with _ hg _; exact h2 hg.symm
theorem DfaIn.cells (h : DfaIn w pd pm v l vas cl nc) : w.cell? ⟨pd, 0, none⟩ = some (ptr pm) ∧ w.cell? ⟨pd, 1, none⟩ = some v ∧ w.frozen? ⟨pd, 1, none⟩ = false :=
 ⟨by rw [cell_blk h.blk]; rfl, by rw [cell_blk h.blk]; rfl, frozen_blk h.blk _⟩
theorem DfaIn.st (h : DfaIn w pd pm v l vas cl nc) {i : Nat} (hi : i < l.length) : ∃ g c va, v = .slice (some ⟨g, 0, none⟩) l.length c ∧ vas[i]? = some va ∧ AtAt w l[i].at_ va ∧ w.cell? ⟨g, i * 258, none⟩ = some va ∧
  (∀ c, c < 256 → w.cell? ⟨g, i * 258 + 1 + c, none⟩ = (l[i].next.map (Value.int .i64))[c]?) ∧ w.cell? ⟨g, i * 258 + 257, none⟩ = some (.int .i64 l[i].accept) ∧ (∀ j, j < 258 → w.frozen? ⟨g, i * 258 + j, none⟩ = false) := by
 have hiv : i < vas.length := by rw [← h.len]; exact hi
 have hic : i < (stC l vas).length := by rw [stC_len h.len]; exact hi
 obtain ⟨a, c, h1, h2, h3, h4⟩ := h.row.row (stC_all h.nx)
 obtain ⟨g, rfl, _, _, h5⟩ := h4 (fun e => by rw [e] at hic; simp at hic)
 rw [stC_len h.len] at h1
 have h6 := fun j hj => h5 i hic j hj
 rw [stC_get hi hiv hic] at h6
 have e : ∀ j, 0 + 258 * i + j = i * 258 + j := fun j => by omega
 simp only [e] at h6
 have hn := h.nx _ (List.getElem_mem hi)
 have h60 := (h6 0 (by omega)).1
 rw [Nat.add_zero] at h60
 have h61 : (stL l[i] vas[i])[0]? = some vas[i] := by rw [stL, List.getElem?_cons_zero]
 rw [h61] at h60
 have hlen : (l[i].next.map (Value.int .i64)).length = 256 := by rw [List.length_map]; exact hn
 refine ⟨g, c, vas[i], h1, List.getElem?_eq_getElem hiv, h.ats i hi hiv, h60, fun c hc => ?_, ?_, fun j hj => (h6 j hj).2⟩
 ·have h7 := (h6 (1 + c) (by omega)).1
  rw [← Nat.add_assoc] at h7
  rw [h7, stL, Nat.add_comm 1 c, List.getElem?_cons_succ, List.getElem?_append_left (by rw [hlen]; exact hc)]
 ·rw [(h6 257 (by omega)).1, stL, show (257 : Nat) = 256 + 1 from rfl, List.getElem?_cons_succ, List.getElem?_append_right (by rw [hlen]; exact Nat.le_refl _), hlen]
  rfl
end
def newN (n : Nat) (v : Value) (acc : Int) : Array Value := (v :: (List.replicate n (Value.int .i64 0) ++ [.int .i64 acc])).toArray
theorem newN_size (n : Nat) (v : Value) (acc : Int) : (newN n v acc).size = n + 2 := by simp [newN]
theorem newN_one (n : Nat) (a : Option Addr) (k c : Nat) (acc : Int) : (newN n (.slice a k c) acc).all (·.oneCell') = true := by
 rw [Array.all_eq_true_iff_forall_mem]
 intro v hv
 simp only [newN, List.mem_toArray, List.mem_cons, List.mem_append, List.mem_replicate, List.mem_nil_iff, or_false] at hv
 rcases hv with h | h | h
 ·subst h; rfl
 ·rw [h.2]; rfl
 ·subst h; rfl
theorem newN_eq (n : Nat) (v : Value) (acc : Int) : (newN n v acc).toList = v :: ((List.replicate n (0 : Int)).map (Value.int .i64) ++ [.int .i64 acc]) := by simp [newN]
def newS (v : Value) (acc : Int) : Array Value := newN 256 v acc
theorem newS_eq (tl : List Nat) (v : Value) (acc : Int) : (newS v acc).toList = stL ⟨tl, NM.zeros, acc⟩ v := newN_eq 256 v acc
theorem newS_size (v : Value) (acc : Int) : (newS v acc).size = 258 := newN_size 256 v acc
theorem newS_one (a : Option Addr) (n c : Nat) (acc : Int) : (newS (.slice a n c) acc).all (·.oneCell') = true := newN_one 256 a n c acc
set_option maxRecDepth 100000 in
theorem build_state (a : Option Addr) (n c : Nat) (acc : Int) (w : World) : (Instr.build TDs #[(0, .slice a n c), (2, .int .i64 acc)]).run Tryz.prog w = .ok (.agg (newS (.slice a n c) acc)) w :=
 run_build w _ _ _ (by kernel_rfl)
set_option maxRecDepth 100000 in
theorem state_info : ∃ ie, Tryz.prog.info? TDs = some ie ∧ ie.zero = some (.agg (newS (.slice none 0 0) 0)) ∧ ie.size = 258 ∧ ie.bytes = 2080 := by
 have h : (Tryz.prog.info? TDs).map (fun i => (i.zero, i.size, i.bytes)) = some (some (.agg (newS (.slice none 0 0) 0)), 258, 2080) := by kernel_rfl
 obtain ⟨i0, h1, h2, h3, h4⟩ := info_parts h
 exact ⟨i0, h1, h2, h3, h4⟩
theorem slice_state (C : Array Value) (hC : C.size = 258) (w : World) : (Instr.buildSlice 282 1 #[(0, .agg C)]).run Tryz.prog w = .ok (.slice (some ⟨w.heap.size, 0, none⟩) 1 1) (w.alloc (.cells C TDs)) := by
 obtain ⟨ie, h1, h2, h3, _⟩ := state_info
 refine run_buildSlice w 282 TDs 1 _ C ie _ Tryz.underlying282 h1 h2 (by rw [h3]; decide) (by rw [h3]; decide) ?_
 have := Great.fill_whole (s := 258) (by decide) [.agg C] ((Array.range (1 * ie.size)).map ((Value.agg (newS (.slice none 0 0) 0)).cells[· % (Value.agg (newS (.slice none 0 0) 0)).cells.size]!)) (by
  intro v hv
  simp at hv; subst hv; exact hC) (by simp [h3])
 rw [h3] at this ⊢
 simp only [List.zipIdx_cons, List.zipIdx_nil, List.map_cons, List.map_nil, List.flatMap_cons, List.flatMap_nil, List.append_nil, Array.toArray_toList] at this
 exact this
theorem wp_slice_state {o : Oper} {a : Act} {w : World} {K : Act → World → Prop} {Q : Exit → Act → World → Prop} (x : Operand) (C : Array Value) (ho : o.op = .buildSlice 282 1 #[(0, x)]) (hx : a.eval x = .agg C) (hC : C.size = 258)
  (h : K (a.put o.dst (.slice (some ⟨w.heap.size, 0, none⟩) 1 1)) (w.alloc (.cells C TDs))) : o.wp Tryz.prog a w K Q := by
 obtain ⟨ie, h1, h2, h3, _⟩ := state_info
 refine wp_buildSlice 282 TDs 1 _ ho C ie _ Tryz.underlying282 h1 h2 (by rw [h3]; decide) (by rw [h3]; decide) ?_ h
 have := Great.fill_whole (s := 258) (by decide) [.agg C] ((Array.range (1 * ie.size)).map ((Value.agg (newS (.slice none 0 0) 0)).cells[· % (Value.agg (newS (.slice none 0 0) 0)).cells.size]!)) (by
  intro v hv
  simp at hv; subst hv; exact hC) (by simp [h3])
 rw [h3] at this ⊢
 simp only [List.zipIdx_cons, List.zipIdx_nil, List.map_cons, List.map_nil, List.flatMap_cons, List.flatMap_nil, List.append_nil, Array.toArray_toList] at this
 have e : (#[(0, x)].map fun (i, y) => (i, a.eval y)).toList = [(0, Value.agg C)] := by simp [hx]
 first
  | exact this
  | (simp only [List.map_toArray, List.map_cons, List.map_nil, hx]; exact this)
theorem step_slice_state {ops : Array Oper} {o : Oper} {a : Act} {w : World} {K : Act → World → Prop} {Q : Exit → Act → World → Prop} {E : Prop} (hgd : o.guard = none) (x : Operand) (C : Array Value) (ho : o.op = .buildSlice 282 1 #[(0, x)]) (hx : a.eval x = .agg C) (hC : C.size = 258)
  (h : K (a.put o.dst (.slice (some ⟨w.heap.size, 0, none⟩) 1 1)) (w.alloc (.cells C TDs))) : if Region.wanted o (yielded ops a.tmps) = true then Oper.wp Tryz.prog o a w K Q else E := by
 have hw : Region.wanted o (yielded ops a.tmps) = true := by simp [Region.wanted, hgd]
 rw [if_pos hw]
 exact wp_slice_state x C ho hx hC h
end Go.Proofs.YtopmadkajacniaaGreatDoor
