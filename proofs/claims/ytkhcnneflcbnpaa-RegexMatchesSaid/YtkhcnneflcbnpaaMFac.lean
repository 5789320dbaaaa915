/-
  The document's reader of expressions: atoms, and what stands behind them: the walk. Conditions: the reader stands in memory, within its text.
-/
import Derived.Test.YtkhcnneflcbnpaaMRel
namespace Go.Proofs.Ytkhcnneflcbnpaa
open Go.RowKit

/-- the contract of 'or' up to n bytes ahead -/
def OrR (n : Nat) : Prop := ∀ (p : Nat) (s : ByteArray) (sm sr : PS) (A : Nat → Prop) (w : World), Tat w p s sr → sr = sm.lg sr.long → sm.bad = false → 0 ≤ sm.deep → sm.deep ≤ 50 → s.size - sm.at_ < n → (∀ g, w.heap.size ≤ g → A g) →
  Calls Try.prog 23 #[ptr p] w fun e w' => ∃ C t st, e = .returned (.agg C) ∧ NV w' A t C ∧ Tat w' p s st ∧ Alike (orN s n sm) sr.long t st ∧ K1 p w w'

def plusB : ByteArray := ⟨#[42, 43, 63]⟩
theorem inS_plus (c : Nat) (hc : c < 256) : inS plusB c = (decide (c = 42) || decide (c = 43) || decide (c = 63)) := by
  have key : ∀ c : Fin 256, inS plusB c.val = (decide (c.val = 42) || decide (c.val = 43) || decide (c.val = 63)) := by decide +kernel
  exact key ⟨c, hc⟩

theorem fc_bad {s : ByteArray} {n : Nat} {st : PS} (h : (atN s n st).2.bad = true) : (fcN s n st).2.bad = true := by
  show (facLoop s (s.size + 2) (atN s n st).1 (atN s n st).2).2.bad = true
  rw [show s.size + 2 = (s.size + 1) + 1 from rfl, facLoop, if_pos h]; exact h
theorem at_stop {s : ByteArray} {n : Nat} {st : PS} (h : isB s 40 st = true) (hd : 50 < st.deep + 1) : (atN s n st).2.bad = true := by
  unfold atN atomF
  rw [if_pos h]; simp only
  rw [if_pos (by simpa [PS.deeper, PS.next] using hd)]; rfl
theorem at_paren {s : ByteArray} {n : Nat} {st : PS} (h : isB s 40 st = true) (hd : ¬ 50 < st.deep + 1) :
    atN s n st = if (orN s n st.next.deeper).2.bad then ((orN s n st.next.deeper).1, (orN s n st.next.deeper).2.upper) else if isB s 41 (orN s n st.next.deeper).2 then ((orN s n st.next.deeper).1, (orN s n st.next.deeper).2.next.upper) else (.empty, (orN s n st.next.deeper).2.fail) := by
  unfold atN atomF
  rw [if_pos h]; simp only
  rw [if_neg (by simpa [PS.deeper, PS.next] using hd)]
theorem at_dot {s : ByteArray} {n : Nat} {st : PS} (h : isB s 40 st = false) (h2 : isB s 46 st = true) : atN s n st = (.set dotW, st.next) := by
  unfold atN atomF
  rw [if_neg (by rw [h]; decide), if_pos h2]
theorem at_cls {s : ByteArray} {n : Nat} {st : PS} (h : isB s 40 st = false) (h2 : isB s 46 st = false) (h3 : isB s 91 st = true) : atN s n st = (.set (clsR s st.next).2, (clsR s st.next).1) := by
  unfold atN atomF
  rw [if_neg (by rw [h]; decide), if_neg (by rw [h2]; decide), if_pos h3]
theorem at_let {s : ByteArray} {n : Nat} {st : PS} (h : isB s 40 st = false) (h2 : isB s 46 st = false) (h3 : isB s 91 st = false) : atN s n st = (.set (W4.one (letV s specialOut st)), letS s specialOut st) := by
  unfold atN atomF
  rw [if_neg (by rw [h]; decide), if_neg (by rw [h2]; decide), if_neg (by rw [h3]; decide)]
theorem oneB (b c : Nat) (hb : b < 256) (hc : c < 256) : (W4.one b).bit c = decide (c = b) := by
  rw [Bool.eq_iff_iff, one_bit b c hb hc]; simp
theorem dot_bit (c : Nat) (hc : c < 256) : dotW.bit c = decide (c ≠ 10) := by
  unfold dotW
  rw [W4.not_bit (one_ok 10), oneB 10 c (by decide) hc]
  by_cases e : c = 10 <;> simp [e]

/-- the node that is made, its answer's place, and the reader -/
structure NodeIn (wc w : World) (p : Nat) (s : ByteArray) (t : Rb) (C : Array Value) (st : PS) : Prop where
  B : wc.heap[w.heap.size + 1]? = some (.cells C TN (0, 0))
  R : wc.heap[w.heap.size]? = some (.cells (zeroN 256) TN (0, 0))
  S : w.heap.size + 2 ≤ wc.heap.size
  N : NV wc (fun g => w.heap.size + 2 ≤ g) t C
  T : Tat wc p s st
  K : K1 p w wc
theorem NodeIn.kn {wc wd w : World} {p : Nat} {s : ByteArray} {t : Rb} {C : Array Value} {st st' : PS} (h : NodeIn wc w p s t C st) (hp : p < w.heap.size) (hk : K1 p wc wd) (hT : Tat wd p s st') : NodeIn wd w p s t C st' :=
  ⟨hk.blk h.B (by omega), hk.blk h.R (by omega), Nat.le_trans h.S hk.size, h.N.kp hk (fun k hk9 => by omega), hT, h.K.trans hk⟩
/-- the node is a set of bytes, told by f -/
def SetIn (wc w : World) (p : Nat) (s : ByteArray) (f : Nat → Bool) (C : Array Value) (st : PS) : Prop := NodeIn wc w p s (.set f) C st ∧ SC C f
theorem SetIn.put {wc w : World} {p : Nat} {s : ByteArray} {f : Nat → Bool} {C : Array Value} {st : PS} (h : SetIn wc w p s f C st) (hp : p < w.heap.size) (b : Nat) (hb : b < 256) (v : Bool) :
    SetIn (wc.setCell ⟨w.heap.size + 1, 1 + b, none⟩ (.bool v)) w p s (fun x => if x = b then v else f x) (C.setIfInBounds (b + 1) (.bool v)) st := by
  have hS := h.2.put b hb v
  have h := h.1
  refine ⟨⟨by rw [Nat.add_comm 1 b]; exact blk_set h.B _ _, blk_set_ne h.R (by omega) _ _, by simpa [World.setCell] using h.S, hS.nv _ _, ⟨blk_set_ne h.T.1 (by omega) _ _, h.T.2⟩, ?_⟩, hS⟩
  exact h.K.setCell (p := ⟨w.heap.size + 1, 1 + b, none⟩) (fun x => by simp at x; omega) _
theorem SetIn.to {wc w : World} {p : Nat} {s : ByteArray} {f g : Nat → Bool} {C : Array Value} {st : PS} (h : SetIn wc w p s f C st) (hfg : ∀ b, b < 256 → f b = g b) : NodeIn wc w p s (.set g) C st :=
  ⟨h.1.B, h.1.R, h.1.S, ⟨h.2.nc, fun b hb => by rw [← hfg b hb]; exact h.2.byte b hb⟩, h.1.T, h.1.K⟩
theorem SetIn.cell {wc w : World} {p : Nat} {s : ByteArray} {f : Nat → Bool} {C : Array Value} {st : PS} (h : SetIn wc w p s f C st) (b : Nat) (hb : b < 256) :
    wc.cell? ⟨w.heap.size + 1, 1 + b, none⟩ = some (.bool (f b)) ∧ wc.frozen? ⟨w.heap.size + 1, 1 + b, none⟩ = false :=
  ⟨by rw [cell_blk h.1.B, Nat.add_comm]; exact h.2.byte b hb, frozen_blk h.1.B _⟩
theorem NodeIn.star {wc w : World} {p : Nat} {s : ByteArray} {t : Rb} {C : Array Value} {st : PS} (h : NodeIn wc w p s t C st) (hp : p < w.heap.size) :
    NodeIn ((wc.alloc (.cells C TN (0, 0))).setRow (w.heap.size + 1) ((zeroC.setIfInBounds 0 (.int .i64 4)).setIfInBounds 257 (.slice (some ⟨wc.heap.size, 0, none⟩) 1 1))) w p s (.star t) ((zeroC.setIfInBounds 0 (.int .i64 4)).setIfInBounds 257 (.slice (some ⟨wc.heap.size, 0, none⟩) 1 1)) st := by
  have hS := h.S
  have hk : Kn wc (wc.alloc (.cells C TN (0, 0))) := (Kp.refl _ wc).alloc _
  have hB := hk.blk h.B (fun x => x)
  have hg : ((wc.alloc (.cells C TN (0, 0))).setRow (w.heap.size + 1) ((zeroC.setIfInBounds 0 (.int .i64 4)).setIfInBounds 257 (.slice (some ⟨wc.heap.size, 0, none⟩) 1 1))).heap[wc.heap.size]? = some (.cells C TN (0, 0)) := by
    rw [setRow_other _ _ _ _ (by omega)]; exact blk_new wc _
  refine ⟨setRow_heap _ _ _ _ TN (0, 0) hB, by rw [setRow_other _ _ _ _ (by omega)]; exact hk.blk h.R (fun x => x), by simp; omega,
    ⟨wc.heap.size, C, hS, NC.made 4 _ rfl, hg, (h.N.kn hk).row _ (fun x => by omega)⟩, (h.T.kn hk).row (by omega), K1.row (h.K.trans hk.weak) (by omega) hB⟩
theorem NodeIn.opt {wc w : World} {p : Nat} {s : ByteArray} {t : Rb} {C : Array Value} {st : PS} (h : NodeIn wc w p s t C st) (hp : p < w.heap.size) :
    NodeIn ((wc.alloc (.cells (C ++ zeroC.setIfInBounds 0 (.int .i64 1)) TN (0, 0))).setRow (w.heap.size + 1) ((zeroC.setIfInBounds 0 (.int .i64 3)).setIfInBounds 257 (.slice (some ⟨wc.heap.size, 0, none⟩) 2 2))) w p s (.or t .empty) ((zeroC.setIfInBounds 0 (.int .i64 3)).setIfInBounds 257 (.slice (some ⟨wc.heap.size, 0, none⟩) 2 2)) st := by
  have hS := h.S
  generalize hD : (.cells (C ++ zeroC.setIfInBounds 0 (.int .i64 1)) TN (0, 0) : Obj) = D
  have hk : Kn wc (wc.alloc D) := (Kp.refl _ wc).alloc _
  have hB := hk.blk h.B (fun x => x)
  have hg : ((wc.alloc D).setRow (w.heap.size + 1) ((zeroC.setIfInBounds 0 (.int .i64 3)).setIfInBounds 257 (.slice (some ⟨wc.heap.size, 0, none⟩) 2 2))).heap[wc.heap.size]? = some D := by
    rw [setRow_other _ _ _ _ (by omega)]; exact blk_new wc _
  rw [← hD] at hg
  refine ⟨setRow_heap _ _ _ _ TN (0, 0) hB, by rw [setRow_other _ _ _ _ (by omega)]; exact hk.blk h.R (fun x => x), by simp; omega,
    ⟨wc.heap.size, C, _, hS, NC.made 3 _ rfl, by rw [hD] at hg ⊢; exact hg, (h.N.kn hk).row _ (fun x => by omega), NC.empty⟩, (h.T.kn hk).row (by omega), K1.row (h.K.trans hk.weak) (by omega) hB⟩
theorem NodeIn.plus {wc w : World} {p : Nat} {s : ByteArray} {t : Rb} {C : Array Value} {st : PS} (h : NodeIn wc w p s t C st) (hp : p < w.heap.size) :
    NodeIn (((wc.alloc (.cells C TN (0, 0))).alloc (.cells (C ++ (zeroC.setIfInBounds 0 (.int .i64 4)).setIfInBounds 257 (.slice (some ⟨wc.heap.size, 0, none⟩) 1 1)) TN (0, 0))).setRow (w.heap.size + 1) ((zeroC.setIfInBounds 0 (.int .i64 2)).setIfInBounds 257 (.slice (some ⟨wc.heap.size + 1, 0, none⟩) 2 2))) w p s (.cat t (.star t)) ((zeroC.setIfInBounds 0 (.int .i64 2)).setIfInBounds 257 (.slice (some ⟨wc.heap.size + 1, 0, none⟩) 2 2)) st := by
  have hS := h.S
  have hk1 : Kn wc (wc.alloc (.cells C TN (0, 0))) := (Kp.refl _ wc).alloc _
  generalize hD : (.cells (C ++ (zeroC.setIfInBounds 0 (.int .i64 4)).setIfInBounds 257 (.slice (some ⟨wc.heap.size, 0, none⟩) 1 1)) TN (0, 0) : Obj) = D
  have hk : Kn wc ((wc.alloc (.cells C TN (0, 0))).alloc D) := hk1.alloc _
  have hB := hk.blk h.B (fun x => x)
  have h2 := blk_new (wc.alloc (.cells C TN (0, 0))) D
  have h1 := blk_alloc (blk_new wc (.cells C TN (0, 0))) D
  rw [size_alloc'] at h2
  have hg1 : (((wc.alloc (.cells C TN (0, 0))).alloc D).setRow (w.heap.size + 1) ((zeroC.setIfInBounds 0 (.int .i64 2)).setIfInBounds 257 (.slice (some ⟨wc.heap.size + 1, 0, none⟩) 2 2))).heap[wc.heap.size]? = some (.cells C TN (0, 0)) := by
    rw [setRow_other _ _ _ _ (by omega)]; exact h1
  have hg2 : (((wc.alloc (.cells C TN (0, 0))).alloc D).setRow (w.heap.size + 1) ((zeroC.setIfInBounds 0 (.int .i64 2)).setIfInBounds 257 (.slice (some ⟨wc.heap.size + 1, 0, none⟩) 2 2))).heap[wc.heap.size + 1]? = some D := by
    rw [setRow_other _ _ _ _ (by omega)]; exact h2
  have hN := (h.N.kn hk).row ((zeroC.setIfInBounds 0 (.int .i64 2)).setIfInBounds 257 (.slice (some ⟨wc.heap.size + 1, 0, none⟩) 2 2)) (g := w.heap.size + 1) (fun x => by omega)
  refine ⟨setRow_heap _ _ _ _ TN (0, 0) hB, by rw [setRow_other _ _ _ _ (by omega)]; exact hk.blk h.R (fun x => x), by simp; omega,
    ⟨wc.heap.size + 1, C, _, by omega, NC.made 2 _ rfl, by rw [hg2, ← hD]; rfl, hN, ⟨wc.heap.size, C, hS, NC.made 4 _ rfl, hg1, hN⟩⟩, (h.T.kn hk).row (by omega), K1.row (h.K.trans hk.weak) (by omega) hB⟩
theorem fac_end {s : ByteArray} {m : Nat} {r : Rw × PS} (hb : r.2.bad = false) (h1 : isB s 42 r.2 = false) (h2 : isB s 43 r.2 = false) (h3 : isB s 63 r.2 = false) : facLoop s (m + 1) r.1 r.2 = r := by
  rw [facLoop, if_neg (by rw [hb]; decide), if_neg (by rw [h1]; decide), if_neg (by rw [h2]; decide), if_neg (by rw [h3]; decide)]
/-- what stands behind an atom, once -/
def facOne (c : Nat) (t : Rw) : Rw := if c = 42 then .star t else if c = 43 then .cat t (.star t) else .or t .empty
theorem fac_go {s : ByteArray} {m : Nat} {r : Rw × PS} (hb : r.2.bad = false) (hlt : r.2.at_ < s.size) (h1 : bt s r.2.at_ = 42 ∨ bt s r.2.at_ = 43 ∨ bt s r.2.at_ = 63) :
    facLoop s (m + 1) r.1 r.2 = if 400 < (facOne (bt s r.2.at_) r.1).size then (.empty, r.2.next.stop) else facLoop s m (facOne (bt s r.2.at_) r.1) r.2.next := by
  rw [facLoop, if_neg (by rw [hb]; decide)]
  unfold facOne isB
  rcases h1 with h | h | h <;> simp [hlt, h]
theorem facOne_size (c : Nat) (t : Rw) : t.size ≤ (facOne c t).size ∧ (facOne c t).size ≤ 2 * t.size + 3 := by
  unfold facOne
  split
  · simp [Re.size]; omega
  · split
    · simp [Re.size]; omega
    · simp [Re.size]; omega
theorem Alike.upper {r : Rw × PS} {g : Bool} {t : Rb} {st : PS} (h : Alike r g t st) : Alike (r.1, r.2.next.upper) g t st.next.upper :=
  ⟨h.bad, fun hb => by
    obtain ⟨a, b, c⟩ := h.ok hb
    exact ⟨congrArg (fun x : PS => x.next.upper) a, b, c⟩⟩

set_option maxRecDepth 100000 in
set_option maxHeartbeats 8000000 in
theorem factorR_c (n : Nat) (ih : OrR n) (p : Nat) (s : ByteArray) (sm sr : PS) (A : Nat → Prop) (w : World) (h : Tat w p s sr) (hl : sr = sm.lg sr.long) (hbd : sm.bad = false) (h0 : 0 ≤ sm.deep) (h50 : sm.deep ≤ 50) (hr : s.size - sm.at_ ≤ n) (hA : ∀ g, w.heap.size ≤ g → A g) :
    Calls Try.prog 32 #[ptr p] w fun e w' => ∃ C t st, e = .returned (.agg C) ∧ NV w' A t C ∧ Tat w' p s st ∧ Alike (fcN s n sm) sr.long t st ∧ K1 p w w' := by
  have hz := zero_node.1
  have zs := zeroC_size
  have zne : ¬ zeroC = #[] := fun x => by have := zeroC_size; rw [x] at this; cases this
  have hst := run_storeCells_new (P := Try.prog) (w.alloc (.cells zeroC TN (0, 0))) TN zeroC zeroC (by rw [zeroC_size]; exact zero_node.2) rfl zeroC_one
  rw [size_alloc'] at hst
  have IH := Lib.hid ih
  have HL := Lib.hid hl
  have HA := Lib.hid hA
  have hpw := h.lt
  clear ih hl hA
  go_enter Try.func32, Try.ntmps32
  go_upto_block 0 with fail
  have hk0 : K1 p w ((w.alloc (.cells zeroC TN (0, 0))).alloc (.cells zeroC TN (0, 0))) := ((Kp.refl _ w).alloc _).alloc _
  have hT0 := h.kn (((Kp.refl (fun _ => False) w).alloc (.cells zeroC TN (0, 0))).alloc (.cells zeroC TN (0, 0)))
  have hB0 := blk_new (w.alloc (.cells zeroC TN (0, 0))) (.cells zeroC TN (0, 0))
  rw [size_alloc'] at hB0
  have hR0 := blk_alloc (blk_new w (.cells zeroC TN (0, 0))) (.cells zeroC TN (0, 0))
  have hne : w.heap.size + 1 ≠ p := by omega
  have hne2 : w.heap.size ≠ p := by omega
  have hsW : ((w.alloc (.cells zeroC TN (0, 0))).alloc (.cells zeroC TN (0, 0))).heap.size = w.heap.size + 2 := by simp
  have hIn : Hid (NodeIn ((w.alloc (.cells zeroC TN (0, 0))).alloc (.cells zeroC TN (0, 0))) w p s (.set (fun _ => false)) zeroC sr) := Lib.hid ⟨hB0, hR0, by rw [hsW]; omega, SC.zero.nv _ _, hT0, hk0⟩
  have hsW' := Lib.hid hsW
  clear hsW hst hB0 hR0 hT0 hk0 h
  generalize ((w.alloc (.cells zeroC TN (0, 0))).alloc (.cells zeroC TN (0, 0))) = W at hIn hsW' ⊢
  have hdl : 0 ≤ sr.deep ∧ sr.deep ≤ 50 ∧ sr.at_ = sm.at_ := by rw [HL.out]; exact ⟨h0, h50, rfl⟩
  obtain ⟨d0, d50, dat⟩ := hdl
  have HD := Lib.hid dat
  have hDE : Hid (sr.deep = sm.deep) := Lib.hid (by rw [HL.out]; rfl)
  clear dat
  have hszz := hIn.out.T.2.2
  have HB1 : Hid (∀ b, isB s b sm = isB s b sr) := Lib.hid (fun b => by rw [HL.out, isB_lg])
  go_cut [4] (fun _ wc => ∃ t C st, Hid (NodeIn wc w p s t C st) ∧ Hid (Alike (atN s n sm) sr.long t st))
  case first =>
    go_wp2_with fail
    refine (sees_c 40 p s sr W hIn.out.T).mono ?_
    rintro e w1 ⟨rfl, n1, rfl⟩
    have hIn1 : Hid (NodeIn (W.drewN n1) w p s (.set (fun _ => false)) zeroC sr) := Lib.hid (hIn.out.kn hpw ((Kp.refl _ _).drewN n1) (hIn.out.T.drewN n1))
    have hs1 : Hid ((W.drewN n1).heap.size = w.heap.size + 2) := Lib.hid hsW'.out
    clear hIn hsW'
    generalize W.drewN n1 = w1 at *
    cases h40 : isB s 40 sr with
    | true =>
      have H40 : Hid (isB s 40 sm = true) := Lib.hid (by rw [HB1.out]; exact h40)
      have hlt := isB_lt h40
      have hT1 := hIn1.out.T
      obtain ⟨c0, c1, c2, c3, c4, f1, f2, f3, f4⟩ := hT1.cells
      have hTd : Tat ((w1.setCell ⟨p, 1, none⟩ (.int .i64 (sr.at_ + 1))).setCell ⟨p, 2, none⟩ (.int .i64 (sr.deep + 1))) p s sr.next.deeper := (hT1.at (sr.at_ + 1) (by omega)).setDeep (sr.deep + 1)
      have hkq : K1 p w1 ((w1.setCell ⟨p, 1, none⟩ (.int .i64 (sr.at_ + 1))).setCell ⟨p, 2, none⟩ (.int .i64 (sr.deep + 1))) := (K1.set' _).trans (K1.set' _)
      clear h40
      by_cases hd : 50 < sr.deep + 1
      · have hAlX : Alike (fcN s n sm) sr.long (.set (fun _ => false)) ({ sr.next.deeper with long := true } : PS).fail := .fail rfl (fc_bad (at_stop H40.out (by rw [← hDE.out]; exact hd)))
        have hIX := hIn1.out.kn hpw (hkq.trans ((K1.set' (o := 4) (.bool true)).trans (K1.set' (o := 3) (.bool true)))) (hTd.setLong true).setBad
        obtain ⟨CX, hCX⟩ : ∃ CX, CX = zeroC := ⟨_, rfl⟩
        rw [← hCX] at hIX
        clear hCX
        go_upto_region 9 with fail
        revert hIX
        generalize World.setCell _ _ _ = wX
        intro hIX
        obtain ⟨hBX, hRX, hSX, hNX, hTX, hKX⟩ := hIX
        have hcs := hNX.size
        have hiC : (Try.prog.info? TN).map (·.size) = some CX.size := by rw [hcs]; exact zero_node.2
        have hzC : zeroC.size = CX.size := by rw [hcs]; exact zs
        obtain ⟨slq, hnc⟩ := hNX.nc
        have hone := hnc.one
        have hRf := setRow_heap _ _ zeroC CX TN (0, 0) hRX
        have hNf := (hNX.row CX (g := w.heap.size) (fun x => by omega)).mono (M := A) (fun g hg _ => HA.out g (by omega))
        have hTf := hTX.row (C := CX) hne2
        have hKf := K1.row (C := CX) hKX (Nat.le_refl _) hRX
        go_wp2_with (first | (refine wpList_load_row rfl TN (.tmp 3) rfl (w.heap.size + 1) rfl TN CX (0, 0) _ hBX Try.underlying30 rfl hiC ?_) | (refine wpList_store_row rfl TN (.tmp 2) (.tmp 38) rfl w.heap.size CX rfl rfl TN zeroC hRX hiC hzC hone ?_))
        exact bodyPost_ret (results_cell_row rfl _ _ w.heap.size TN CX (0, 0) _ rfl hRf Try.underlying30 rfl hiC) rfl ⟨CX, _, _, rfl, hNf, hTf, hAlX, hKf⟩
      · have hd' : ¬ (50 : Int) < sr.deep + 1 := hd
        have hAt := Lib.hid (at_paren (n := n) H40.out (by rw [← hDE.out]; exact hd))
        obtain ⟨hBd, hRd, hSd, hNd, hTd9, hKd⟩ := hIn1.out.kn hpw hkq hTd
        have HC := Lib.hid (IH.out p s sm.next.deeper sr.next.deeper (fun g => w.heap.size + 2 ≤ g) _ hTd (by show sr.next.deeper = _; conv => lhs; rw [HL.out]
                                                                                                              rfl) hbd (by show 0 ≤ sm.deep + 1; omega) (by show sm.deep + 1 ≤ 50; rw [← hDE.out]; omega) (by show s.size - (sm.at_ + 1) < n; rw [← HD.out]; have := HD.out; omega) (fun g hg => by simpa [hs1.out] using hg))
        go_wp2_with fail
        refine HC.out.mono ?_
        rintro e w3 ⟨C3, t3, st3, rfl, hN3, hT3, hAl3, hk3⟩
        have hB3 := hk3.blk hBd hne
        have hR3 := hk3.blk hRd hne2
        have hK3 := hKd.trans hk3
        have hS3 := Nat.le_trans hSd hk3.size
        clear c0 c1 c2 c3 c4 f1 f2 f3 f4 hTd hkq hKd hRd hBd hT1 hTd9 hNd hSd HC
        have hcs3 := hN3.size
        have hiC3 : (Try.prog.info? TN).map (·.size) = some C3.size := by rw [hcs3]; exact zero_node.2
        have hzC3 : zeroC.size = C3.size := by rw [hcs3]; exact zs
        obtain ⟨slq3, hnc3⟩ := hN3.nc
        have hone3 := hnc3.one
        have HX : Hid (NodeIn (w3.setRow (w.heap.size + 1) C3) w p s t3 C3 st3) := Lib.hid ⟨setRow_heap _ _ zeroC C3 TN (0, 0) hB3, by rw [setRow_other _ _ _ _ (by omega)]; exact hR3, by simpa using hS3, hN3.row C3 (g := w.heap.size + 1) (fun x => by omega), hT3.row (C := C3) hne, K1.row (C := C3) hK3 (show w.heap.size ≤ w.heap.size + 1 by omega) hB3⟩
        go_upto_region 11 with (refine wpList_store_row rfl TN (.tmp 3) (.tmp 40) rfl (w.heap.size + 1) C3 rfl rfl TN zeroC hB3 hiC3 hzC3 hone3 ?_)
        revert HX
        generalize World.setRow _ _ _ = w4
        intro HX
        clear hB3 hR3 hS3 hN3 hT3 hK3 hk3 hone3 hnc3 hzC3 hiC3 hcs3
        obtain ⟨c0, c1, c2, c3, c4, f1, f2, f3, f4⟩ := HX.out.T.cells
        cases hb3 : st3.bad with
        | true =>
          replace hAl3 : Alike (fcN s n sm) sr.long t3 st3 := .fail hb3 (fc_bad (by
            have := hAl3.bad
            rw [hb3] at this
            rw [hAt.out, if_pos this.symm]; exact this.symm))
          have hI3 := HX.out
          rw [hb3] at c3
          clear hb3
          obtain ⟨hB3, hR3, hS3, hN3, hT3, hK3⟩ := hI3
          have hcs := hN3.size
          have hiC : (Try.prog.info? TN).map (·.size) = some C3.size := by rw [hcs]; exact zero_node.2
          have hzC : zeroC.size = C3.size := by rw [hcs]; exact zs
          obtain ⟨slq, hnc⟩ := hN3.nc
          have hone := hnc.one
          have hRf := setRow_heap _ _ zeroC C3 TN (0, 0) hR3
          have hNf := (hN3.row C3 (g := w.heap.size) (fun x => by omega)).mono (M := A) (fun g hg _ => HA.out g (by omega))
          have hTf := hT3.row (C := C3) hne2
          have hKf := K1.row (C := C3) hK3 (Nat.le_refl _) hR3
          go_wp2_with (first | (refine wpList_load_row rfl TN (.tmp 3) rfl (w.heap.size + 1) rfl TN C3 (0, 0) _ hB3 Try.underlying30 rfl hiC ?_) | (refine wpList_store_row rfl TN (.tmp 2) (.tmp 45) rfl w.heap.size C3 rfl rfl TN zeroC hR3 hiC hzC hone ?_))
          exact bodyPost_ret (results_cell_row rfl _ _ w.heap.size TN C3 (0, 0) _ rfl hRf Try.underlying30 rfl hiC) rfl ⟨C3, _, _, rfl, hNf, hTf, hAl3, hKf⟩
        | false =>
          have hrb : (orN s n sm.next.deeper).2.bad = false := by rw [← hAl3.bad]; exact hb3
          obtain ⟨q1, q2, q3⟩ := hAl3.ok hrb
          have hd9 : (orN s n sm.next.deeper).2.deep = sm.deep + 1 := ((orN_good s n sm.next.deeper hbd (by show 0 ≤ sm.deep + 1; omega) (by show sm.deep + 1 ≤ 50; rw [← hDE.out]; omega)).ok hrb).1
          have hd8 : st3.deep = (orN s n sm.next.deeper).2.deep := by have h := congrArg (fun x : PS => x.deep) q1; exact h
          have hd2 : 0 ≤ st3.deep := by omega
          have hd1 : st3.deep ≤ 1000 := by omega
          clear hd8 hd9
          have HB41 : Hid (isB s 41 (orN s n sm.next.deeper).2 = isB s 41 st3) := Lib.hid (by rw [q1, isB_lg])
          have hAt2 : Hid (atN s n sm = if isB s 41 st3 then ((orN s n sm.next.deeper).1, (orN s n sm.next.deeper).2.next.upper) else (.empty, (orN s n sm.next.deeper).2.fail)) := Lib.hid (by
            rw [hAt.out, if_neg (by rw [hrb]; decide), HB41.out])
          have HA3 := Lib.hid hAl3
          rw [hb3] at c3
          clear hb3 hrb q1 q2 q3 hAl3
          have hT4 := HX.out.T
          have hsz3 := hT4.2.1
          go_wp2_with fail
          refine (sees_c 41 p s st3 w4 hT4).mono ?_
          rintro e w5 ⟨rfl, n5, rfl⟩
          have hI5 : Hid (NodeIn (w4.drewN n5) w p s t3 C3 st3) := Lib.hid (HX.out.kn hpw ((Kp.refl _ _).drewN n5) (hT4.drewN n5))
          clear HX hT4 c0 c1 c2 c3 c4 f1 f2 f3 f4
          generalize w4.drewN n5 = w5 at *
          have hT5 := hI5.out.T
          obtain ⟨c0, c1, c2, c3, c4, f1, f2, f3, f4⟩ := hT5.cells
          cases h41 : isB s 41 st3 with
          | false =>
            have hIX := hI5.out.kn hpw (K1.set' (o := 3) (.bool true)) hT5.setBad
            have hAlX : Alike (fcN s n sm) sr.long t3 st3.fail := .fail rfl (fc_bad (by rw [hAt2.out, h41]; rfl))
            obtain ⟨CX, hCX⟩ : ∃ CX, CX = C3 := ⟨_, rfl⟩
            rw [← hCX] at hIX
            clear hCX h41
            go_upto_region 15 with fail
            revert hIX
            generalize World.setCell _ _ _ = wX
            intro hIX
            obtain ⟨hBX, hRX, hSX, hNX, hTX, hKX⟩ := hIX
            have hcs := hNX.size
            have hiC : (Try.prog.info? TN).map (·.size) = some CX.size := by rw [hcs]; exact zero_node.2
            have hzC : zeroC.size = CX.size := by rw [hcs]; exact zs
            obtain ⟨slq, hnc⟩ := hNX.nc
            have hone := hnc.one
            have hRf := setRow_heap _ _ zeroC CX TN (0, 0) hRX
            have hNf := (hNX.row CX (g := w.heap.size) (fun x => by omega)).mono (M := A) (fun g hg _ => HA.out g (by omega))
            have hTf := hTX.row (C := CX) hne2
            have hKf := K1.row (C := CX) hKX (Nat.le_refl _) hRX
            go_wp2_with (first | (refine wpList_load_row rfl TN (.tmp 3) rfl (w.heap.size + 1) rfl TN CX (0, 0) _ hBX Try.underlying30 rfl hiC ?_) | (refine wpList_store_row rfl TN (.tmp 2) (.tmp 52) rfl w.heap.size CX rfl rfl TN zeroC hRX hiC hzC hone ?_))
            exact bodyPost_ret (results_cell_row rfl _ _ w.heap.size TN CX (0, 0) _ rfl hRf Try.underlying30 rfl hiC) rfl ⟨CX, _, _, rfl, hNf, hTf, hAlX, hKf⟩
          | true =>
            have hlt3 := isB_lt h41
            have hI6 := hI5.out.kn hpw ((K1.set' (o := 1) (.int .i64 (st3.at_ + 1))).trans (K1.set' (o := 2) (.int .i64 (st3.deep - 1)))) ((hT5.at (st3.at_ + 1) (by omega)).setDeep (st3.deep - 1))
            have hAl6 : Alike (atN s n sm) sr.long t3 st3.next.upper := by rw [hAt2.out, if_pos h41]; exact HA3.out.upper
            clear h41
            go_wp2_with fail
            go_meet
            case rel => exact ⟨t3, C3, _, Lib.hid hI6, Lib.hid hAl6⟩
    | false =>
      have H40 : Hid (isB s 40 sm = false) := Lib.hid (by rw [HB1.out]; exact h40)
      clear h40
      go_wp2_with fail
      refine (sees_c 46 p s sr w1 hIn1.out.T).mono ?_
      rintro e w2 ⟨rfl, n2, rfl⟩
      have hIn2 : Hid (NodeIn (w1.drewN n2) w p s (.set (fun _ => false)) zeroC sr) := Lib.hid (hIn1.out.kn hpw ((Kp.refl _ _).drewN n2) (hIn1.out.T.drewN n2))
      clear hIn1 hs1
      generalize w1.drewN n2 = w2 at *
      cases h46 : isB s 46 sr with
      | true =>
        have H46 : Hid (isB s 46 sm = true) := Lib.hid (by rw [HB1.out]; exact h46)
        have hlt := isB_lt h46
        have hT2 := hIn2.out.T
        obtain ⟨c0, c1, c2, c3, c4, f1, f2, f3, f4⟩ := hT2.cells
        have hI3 : SetIn (w2.setCell ⟨p, 1, none⟩ (.int .i64 (sr.at_ + 1))) w p s (fun _ => false) zeroC sr.next := ⟨hIn2.out.kn hpw (K1.set' (o := 1) (.int .i64 (sr.at_ + 1))) (hT2.at (sr.at_ + 1) (by omega)), SC.zero⟩
        have hAl6 : Hid (Alike (atN s n sm) sr.long (.set dotW.bit) sr.next) := Lib.hid (by
          rw [at_dot H40.out H46.out]
          exact ⟨by have h := congrArg (fun x : PS => x.next.bad) HL.out; exact h, fun _ => ⟨congrArg (fun x : PS => x.next) HL.out, rfl, fun x => .inl x⟩⟩)
        clear h46
        go_upto_block 1 with fail
        revert hI3
        generalize World.setCell _ _ _ = w3
        intro hI3
        clear c0 c1 c2 c3 c4 f1 f2 f3 f4 hT2 hIn2
        go_wp2_with fail
        go_loopw [4] (fun b wr => ∃ (k : Nat) (f : Nat → Bool) (C : Array Value), k ≤ 256 ∧ b = .int .i64 (k : Int) ∧ Hid (∀ x, f x = if x < k then decide (x ≠ 10) else false) ∧ SetIn wr w p s f C sr.next) (fun b _ => 256 - (intOf b).toNat)
        case atStart => exact ⟨0, _, _, by omega, rfl, Lib.hid (fun x => by simp), hI3⟩
        case round =>
          obtain ⟨k, f, C, hk, rfl, hf, hS⟩ := hrel
          by_cases hle : k < 256
          · have hle' : (k : Int) < 256 := by omega
            have h0' : (0 : Int) ≤ k := by omega
            obtain ⟨e1, e2⟩ := hS.cell k hle
            have hS9 := hS.put hpw k hle ((k : Int) != 10)
            have hf9 : Hid (∀ x, (if x = k then ((k : Int) != 10) else f x) = if x < k + 1 then decide (x ≠ 10) else false) := Lib.hid (fun x => by
              by_cases e : x = k
              · subst e; rw [if_pos rfl, if_pos (by omega)]; rw [Bool.eq_iff_iff]; simp; omega
              · rw [if_neg e, hf.out x]
                by_cases e2 : x < k
                · rw [if_pos e2, if_pos (by omega)]
                · rw [if_neg e2, if_neg (by omega)])
            have HS := Lib.hid hS
            clear hS
            go_wp2_with fail
            go_roundw
            case rel => exact ⟨k + 1, _, _, by omega, by go_num, hf9, hS9⟩
            case measure => simp [intOf]; omega
          · have hle' : ¬ (k : Int) < 256 := by omega
            have hN9 := Lib.hid (hS.to (g := dotW.bit) (fun b hb => by rw [hf.out b, if_pos (by omega), dot_bit b hb]))
            go_wp2_with fail
            go_meet
            case rel => exact ⟨_, _, _, hN9, hAl6⟩
      | false =>
        have H46 : Hid (isB s 46 sm = false) := Lib.hid (by rw [HB1.out]; exact h46)
        clear h46
        go_wp2_with fail
        refine (sees_c 91 p s sr w2 hIn2.out.T).mono ?_
        rintro e w3 ⟨rfl, n3, rfl⟩
        have hIn3 : Hid (NodeIn (w2.drewN n3) w p s (.set (fun _ => false)) zeroC sr) := Lib.hid (hIn2.out.kn hpw ((Kp.refl _ _).drewN n3) (hIn2.out.T.drewN n3))
        clear hIn2
        generalize w2.drewN n3 = w3 at *
        have hT3 := hIn3.out.T
        have hbr : sr.bad = false := by rw [HL.out]; exact hbd
        cases h91 : isB s 91 sr with
        | true =>
          have H91 : Hid (isB s 91 sm = true) := Lib.hid (by rw [HB1.out]; exact h91)
          have hlt := isB_lt h91
          obtain ⟨c0, c1, c2, c3, c4, f1, f2, f3, f4⟩ := hT3.cells
          have hTn : Tat (w3.setCell ⟨p, 1, none⟩ (.int .i64 (sr.at_ + 1))) p s sr.next := hT3.at (sr.at_ + 1) (by omega)
          have hIn := hIn3.out.kn hpw (K1.set' (o := 1) (.int .i64 (sr.at_ + 1))) hTn
          have HC := Lib.hid (classR_c p s sr.next (fun g => w.heap.size + 2 ≤ g) _ hTn hbr)
          have hAl6 : Hid (Alike (atN s n sm) sr.long (.set (clsR s sr.next).2.bit) (clsR s sr.next).1) := Lib.hid (by
            have e : clsR s sr.next = ((clsR s sm.next).1.lg sr.long, (clsR s sm.next).2) := by
              rw [← clsR_lg]; exact congrArg (fun x : PS => clsR s x.next) HL.out
            rw [at_cls H40.out H46.out H91.out, e]
            exact ⟨rfl, fun _ => ⟨rfl, rfl, fun x => .inl x⟩⟩)
          clear h91
          go_wp2_with fail
          refine HC.out.mono ?_
          rintro e w5 ⟨C5, rfl, hN5, hT5, hk5⟩
          have hB5 := hk5.blk hIn.B hne
          have hR5 := hk5.blk hIn.R hne2
          have hS5 := Nat.le_trans hIn.S hk5.size
          have hK5 := hIn.K.trans hk5
          generalize (clsR s sr.next).1 = st5 at *
          generalize hu : (.set (clsR s sr.next).2.bit : Rb) = t5 at *
          clear c0 c1 c2 c3 c4 f1 f2 f3 f4 hIn HC hTn
          have hcs5 := hN5.size
          have hiC5 : (Try.prog.info? TN).map (·.size) = some C5.size := by rw [hcs5]; exact zero_node.2
          have hzC5 : zeroC.size = C5.size := by rw [hcs5]; exact zs
          obtain ⟨slq5, hnc5⟩ := hN5.nc
          have hone5 := hnc5.one
          have HX : Hid (NodeIn (w5.setRow (w.heap.size + 1) C5) w p s t5 C5 st5) := Lib.hid ⟨setRow_heap _ _ zeroC C5 TN (0, 0) hB5, by rw [setRow_other _ _ _ _ (by omega)]; exact hR5, by simpa using hS5, hN5.row C5 (g := w.heap.size + 1) (fun x => by omega), hT5.row (C := C5) hne, K1.row (C := C5) hK5 (show w.heap.size ≤ w.heap.size + 1 by omega) hB5⟩
          go_wp2_with (refine wpList_store_row rfl TN (.tmp 3) (.tmp 97) rfl (w.heap.size + 1) C5 rfl rfl TN zeroC hB5 hiC5 hzC5 hone5 ?_)
          go_meet
          case rel => exact ⟨_, _, _, HX, hAl6⟩
        | false =>
          have H91 : Hid (isB s 91 sm = false) := Lib.hid (by rw [HB1.out]; exact h91)
          have hltr := Lib.hid (letterR_c p s specialOut sr w3 hT3 (by decide) hbr)
          have hlo := letR_lt s specialOut sr
          have hAl6 : Hid (Alike (atN s n sm) sr.long (.set (W4.one (letR s specialOut sr)).bit) (letS s specialOut sr)) := Lib.hid (by
            have e : letS s specialOut sr = (letS s specialOut sm).lg sr.long := by rw [← letS_lg, ← HL.out]
            have e2 : letV s specialOut sr = letV s specialOut sm := by rw [← letV_lg s specialOut sm sr.long, ← HL.out]
            rw [at_let H40.out H46.out H91.out, e]
            refine ⟨rfl, fun hb => ⟨rfl, ?_, fun x => .inl x⟩⟩
            rw [letR_ok (by rw [e]; exact hb), e2]; rfl)
          clear h91
          generalize letR s specialOut sr = lo at *
          generalize letS s specialOut sr = st5 at *
          go_wp2_with fail
          refine hltr.out.mono ?_
          rintro e w5 ⟨rfl, hT5, hk5⟩
          have hI5 : SetIn w5 w p s (fun _ => false) zeroC st5 := ⟨hIn3.out.kn hpw hk5 hT5, SC.zero⟩
          obtain ⟨e1, e2⟩ := hI5.cell lo hlo
          have h1 : (lo : Int) < 256 := by omega
          have h2 : (0 : Int) ≤ lo := by omega
          have hN9 := Lib.hid ((hI5.put hpw lo hlo true).to (g := (W4.one lo).bit) (fun b hb => by rw [oneB lo b hlo hb]; by_cases e : b = lo <;> simp [e]))
          clear hI5 hT5 hk5 hltr hT3
          go_wp2_with fail
          go_meet
          case rel => exact ⟨_, _, _, hN9, hAl6⟩
  case rest =>
    obtain ⟨t, C, st, hIn2, hAl⟩ := hcut
    have hF : Hid (fcN s n sm = facLoop s (s.size + 2) (atN s n sm).1 (atN s n sm).2) := Lib.hid rfl
    have hin : Hid (∀ (k : Nat) (hk : k < s.size), inS plusB s[k].toNat = (decide (s[k].toNat = 42) || decide (s[k].toNat = 43) || decide (s[k].toNat = 63))) := Lib.hid (fun k hk => inS_plus _ s[k].toNat_lt)
    have hG : Hid ((atN s n sm).2.bad = false → (atN s n sm).1.size ≤ 500000000) := Lib.hid (fun hb => by
      have h1 := ((atN_good s n) sm hbd h0 h50).ok hb
      have h2 := hAl.out.ok hb
      have h3 : st.at_ = (atN s n sm).2.at_ := by have h := congrArg (fun x : PS => x.at_) h2.1; exact h
      have h4 := hIn2.out.T.2
      omega)
    generalize atN s n sm = r0 at hAl hF hG
    clear hIn hsW' HB1 HD hDE d0 d50 IH h0 h50 hr hbd HL
    go_upto_block 3 with fail
    go_cut [4] (fun _ wc => ∃ t C st, Hid (NodeIn wc w p s t C st) ∧ Hid (Alike (fcN s n sm) sr.long t st))
    case first =>
      go_wp2_with fail
      go_loopg [] (s.size + 2) (fun k wr => ∃ t C st r, Hid (NodeIn wr w p s t C st) ∧ Hid (Alike r sr.long t st) ∧ Hid (fcN s n sm = facLoop s k r.1 r.2) ∧ Hid (r.2.bad = true ∨ s.size - r.2.at_ < k) ∧ Hid (r.2.bad = false → r.1.size ≤ 500000000))
      case atStart => exact ⟨t, C, st, r0, hIn2, hAl, hF, Lib.hid (.inr (by omega)), hG⟩
      case round =>
        clear hF hAl hIn2 hG
        obtain ⟨t, C, st, r, hI, hAl, hF, hN, hG⟩ := hrel
        have hT := hI.out.T
        obtain ⟨c0, c1, c2, c3, c4, f1, f2, f3, f4⟩ := hT.cells
        have hsz := hT.2.2
        cases hb : st.bad with
        | true =>
          have hfin : Hid (Alike (fcN s n sm) sr.long t st) := Lib.hid (by
            have hrb : r.2.bad = true := by rw [← hAl.out.bad]; exact hb
            have e : facLoop s gk r.1 r.2 = r := by
              cases gk with
              | zero => rfl
              | succ m => rw [facLoop, if_pos hrb]
            rw [hF.out, e]; exact hAl.out)
          rw [hb] at c3
          clear hb
          go_wp2_with fail
          go_quiet (fail)
          go_wp2_with fail
          go_meet
          case rel => exact ⟨t, C, st, Lib.hid (hI.out.kn hpw ((Kp.refl _ _).drewN _) (hT.drewN _)), hfin⟩
        | false =>
          have hrb : r.2.bad = false := by rw [← hAl.out.bad]; exact hb
          have hq := hAl.out.ok hrb
          have hat : st.at_ = r.2.at_ := by have h := congrArg (fun x : PS => x.at_) hq.1; exact h
          have hB : Hid (∀ b, isB s b r.2 = isB s b st) := Lib.hid (fun b => by unfold isB; rw [hat])
          have hgk : s.size - st.at_ < gk := by
            rcases hN.out with x | x
            · rw [hrb] at x; cases x
            · rw [hat]; exact x
          obtain ⟨m, hm⟩ : ∃ m, gk = m + 1 := ⟨gk - 1, by omega⟩
          have HM := Lib.hid hm
          have HRB := Lib.hid hrb
          have HQ := Lib.hid hq
          have HAT := Lib.hid hat
          rw [hb] at c3
          clear hb hrb hq hat hm hN
          have hexit : Hid (isB s 42 st = false → isB s 43 st = false → isB s 63 st = false → Alike (fcN s n sm) sr.long t st) := Lib.hid (fun h1 h2 h3 => by
            rw [hF.out, HM.out, fac_end HRB.out (by rw [hB.out]; exact h1) (by rw [hB.out]; exact h2) (by rw [hB.out]; exact h3)]; exact hAl.out)
          by_cases hlt : st.at_ < s.size
          · have hlt' : (st.at_ : Int) < s.size := by omega
            have hE := Lib.hid (bt_in hlt)
            cases hc : inS plusB s[st.at_].toNat with
            | false =>
              have hno : Hid (Alike (fcN s n sm) sr.long t st) := Lib.hid (by
                rw [hin.out _ hlt] at hc
                simp only [Bool.or_eq_false_iff, decide_eq_false_iff_not] at hc
                exact hexit.out (by simp [isB, hE.out, hc]) (by simp [isB, hE.out, hc]) (by simp [isB, hE.out, hc]))
              have HI : Hid (∀ w, Calls Try.prog 39 #[.string plusB, .int .u8 s[st.at_].toNat] w fun e w' => e = .returned (.bool false) ∧ w = w') := Lib.hid (fun w => by rw [← hc]; exact inR_c plusB _ s[st.at_].toNat_lt (by decide) w)
              clear hc
              go_wp2_with fail
              go_quiet ((go_at_call 39; first | exact quiet_left (HI.out _) | exact quiet_add_left (HI.out _)))
              go_wp2_with fail
              go_meet
              case rel => exact ⟨t, C, st, Lib.hid (hI.out.kn hpw ((Kp.refl _ _).drewN _) (hT.drewN _)), hno⟩
            | true =>
              have h3w : Hid (s[st.at_].toNat = 42 ∨ s[st.at_].toNat = 43 ∨ s[st.at_].toNat = 63) := Lib.hid (by
                rw [hin.out _ hlt] at hc
                simp only [Bool.or_eq_true, decide_eq_true_eq] at hc; omega)
              have HI : Hid (∀ w, Calls Try.prog 39 #[.string plusB, .int .u8 s[st.at_].toNat] w fun e w' => e = .returned (.bool true) ∧ w = w') := Lib.hid (fun w => by rw [← hc]; exact inR_c plusB _ s[st.at_].toNat_lt (by decide) w)
              clear hc
              go_wp2_with fail
              go_quiet ((go_at_call 39; first | exact quiet_left (HI.out _) | exact quiet_add_left (HI.out _)))
              obtain ⟨nqa, rfl⟩ : ∃ x : Nat, x = nq := ⟨_, rfl⟩
              go_wp2_with fail
              go_quiet (fail)
              obtain ⟨nqb, rfl⟩ : ∃ x : Nat, x = nq := ⟨_, rfl⟩
              go_upto_block 5 with fail
              have hI9 := Lib.hid (hI.out.kn hpw (((Kp.refl _ _).drewN nqa).drewN nqb) ((hT.drewN nqa).drewN nqb))
              generalize ((wr.drewN nqa).drewN nqb) = wx at *
              have hfac : Hid (fcN s n sm = if 400 < (facOne (bt s st.at_) r.1).size then (.empty, r.2.next.stop) else facLoop s m (facOne (bt s st.at_) r.1) r.2.next) := Lib.hid (by
                rw [hF.out, HM.out, HAT.out]
                exact fac_go HRB.out (by rw [← HAT.out]; exact hlt) (by rw [← HAT.out, hE.out]; exact h3w.out))
              have htB : Hid (t = toB r.1) := Lib.hid HQ.out.2.1
              clear hI c0 c1 c2 c3 c4 f1 f2 f3 f4 hT HI
              go_cut [140] (fun _ wc => ∃ C', Hid (NodeIn wc w p s (toB (facOne (bt s st.at_) r.1)) C' st))
              case first =>
                have hcs := hI9.out.N.size
                have hiC : (Try.prog.info? TN).map (·.size) = some C.size := by rw [hcs]; exact zero_node.2
                have hB9 := hI9.out.B
                have hS9 := hI9.out.S
                have hBa := fun D => blk_alloc hB9 (.cells D TN (0, 0))
                rcases h3w.out with h42 | h43 | h63
                · have q1 : (((s[st.at_].toNat : Nat) : Int) == 42) = true := by rw [h42]; rfl
                  have hfo : Hid (NodeIn ((wx.alloc (.cells C TN (0, 0))).setRow (w.heap.size + 1) ((zeroC.setIfInBounds 0 (.int .i64 4)).setIfInBounds 257 (.slice (some ⟨wx.heap.size, 0, none⟩) 1 1))) w p s (toB (facOne (bt s st.at_) r.1)) ((zeroC.setIfInBounds 0 (.int .i64 4)).setIfInBounds 257 (.slice (some ⟨wx.heap.size, 0, none⟩) 1 1)) st) := Lib.hid (by
                    have h := hI9.out.star hpw
                    rw [htB.out] at h
                    unfold facOne; rw [if_pos (by rw [hE.out]; exact h42)]; exact h)
                  clear h42
                  have hsC : C.size = ((zeroC.setIfInBounds 0 (.int .i64 4)).setIfInBounds 257 (.slice (some ⟨wx.heap.size, 0, none⟩) 1 1)).size := by simp [hcs, zs]
                  have hiD : (Try.prog.info? TN).map (·.size) = some ((zeroC.setIfInBounds 0 (.int .i64 4)).setIfInBounds 257 (.slice (some ⟨wx.heap.size, 0, none⟩) 1 1)).size := by rw [← hsC]; exact hiC
                  have hoD : ((zeroC.setIfInBounds 0 (.int .i64 4)).setIfInBounds 257 (.slice (some ⟨wx.heap.size, 0, none⟩) 1 1)).all (·.oneCell') = true := (NC.made 4 _ rfl).one
                  go_wp2_with (first | (refine wpList_load_row rfl TN (.tmp 3) rfl (w.heap.size + 1) rfl TN C (0, 0) _ hB9 Try.underlying30 rfl hiC ?_) | (refine wpList_one rfl (.tmp 142) C rfl rfl hcs ?_) | (refine wpList_store_row rfl TN (.tmp 3) (.tmp 144) rfl (w.heap.size + 1) ((zeroC.setIfInBounds 0 (.int .i64 4)).setIfInBounds 257 (.slice (some ⟨wx.heap.size, 0, none⟩) 1 1)) rfl rfl TN C (hBa _) hiD hsC hoD ?_))
                  go_meet
                  case rel => exact ⟨_, hfo⟩
                · have q1 : (((s[st.at_].toNat : Nat) : Int) == 42) = false := by rw [h43]; rfl
                  have q2 : (((s[st.at_].toNat : Nat) : Int) == 43) = true := by rw [h43]; rfl
                  obtain ⟨D1, hD1⟩ : ∃ D, D = (zeroC.setIfInBounds 0 (.int .i64 4)).setIfInBounds 257 (.slice (some ⟨wx.heap.size, 0, none⟩) 1 1) := ⟨_, rfl⟩
                  have hfo : Hid (NodeIn (((wx.alloc (.cells C TN (0, 0))).alloc (.cells (C ++ D1) TN (0, 0))).setRow (w.heap.size + 1) ((zeroC.setIfInBounds 0 (.int .i64 2)).setIfInBounds 257 (.slice (some ⟨wx.heap.size + 1, 0, none⟩) 2 2))) w p s (toB (facOne (bt s st.at_) r.1)) ((zeroC.setIfInBounds 0 (.int .i64 2)).setIfInBounds 257 (.slice (some ⟨wx.heap.size + 1, 0, none⟩) 2 2)) st) := Lib.hid (by
                    have h := hI9.out.plus hpw
                    rw [htB.out, ← hD1] at h
                    unfold facOne; rw [if_neg (by rw [hE.out, h43]; decide), if_pos (by rw [hE.out]; exact h43)]; exact h)
                  clear h43
                  have hs1 : D1.size = 258 := by rw [hD1]; simp [zs]
                  have HD1 := Lib.hid hD1
                  clear hD1
                  have hsC : C.size = ((zeroC.setIfInBounds 0 (.int .i64 2)).setIfInBounds 257 (.slice (some ⟨wx.heap.size + 1, 0, none⟩) 2 2)).size := by simp [hcs, zs]
                  have hiD : (Try.prog.info? TN).map (·.size) = some ((zeroC.setIfInBounds 0 (.int .i64 2)).setIfInBounds 257 (.slice (some ⟨wx.heap.size + 1, 0, none⟩) 2 2)).size := by rw [← hsC]; exact hiC
                  have hoD : ((zeroC.setIfInBounds 0 (.int .i64 2)).setIfInBounds 257 (.slice (some ⟨wx.heap.size + 1, 0, none⟩) 2 2)).all (·.oneCell') = true := (NC.made 2 _ rfl).one
                  have hBb : ((wx.alloc (.cells C TN (0, 0))).alloc (.cells (C ++ D1) TN (0, 0))).heap[w.heap.size + 1]? = some (.cells C TN (0, 0)) := blk_alloc (hBa C) _
                  have hsz1 : (wx.alloc (.cells C TN (0, 0))).heap.size = wx.heap.size + 1 := by simp
                  go_wp2_with (first | (refine wpList_load_row rfl TN (.tmp 3) rfl (w.heap.size + 1) rfl TN C (0, 0) _ hB9 Try.underlying30 rfl hiC ?_) | (refine wpList_one rfl (.tmp 148) C rfl rfl hcs ?_) | (refine wpList_two rfl (.tmp 147) (.tmp 150) C D1 rfl rfl (by rw [HD1.out]; rfl) hcs hs1 ?_; rw [hsz1]) | (refine wpList_store_row rfl TN (.tmp 3) (.tmp 152) rfl (w.heap.size + 1) ((zeroC.setIfInBounds 0 (.int .i64 2)).setIfInBounds 257 (.slice (some ⟨wx.heap.size + 1, 0, none⟩) 2 2)) rfl rfl TN C hBb hiD hsC hoD ?_))
                  go_meet
                  case rel => exact ⟨_, hfo⟩
                · have q1 : (((s[st.at_].toNat : Nat) : Int) == 42) = false := by rw [h63]; rfl
                  have q2 : (((s[st.at_].toNat : Nat) : Int) == 43) = false := by rw [h63]; rfl
                  have hfo : Hid (NodeIn ((wx.alloc (.cells (C ++ zeroC.setIfInBounds 0 (.int .i64 1)) TN (0, 0))).setRow (w.heap.size + 1) ((zeroC.setIfInBounds 0 (.int .i64 3)).setIfInBounds 257 (.slice (some ⟨wx.heap.size, 0, none⟩) 2 2))) w p s (toB (facOne (bt s st.at_) r.1)) ((zeroC.setIfInBounds 0 (.int .i64 3)).setIfInBounds 257 (.slice (some ⟨wx.heap.size, 0, none⟩) 2 2)) st) := Lib.hid (by
                    have h := hI9.out.opt hpw
                    rw [htB.out] at h
                    unfold facOne; rw [if_neg (by rw [hE.out, h63]; decide), if_neg (by rw [hE.out, h63]; decide)]; exact h)
                  clear h63
                  have hs1 : (zeroC.setIfInBounds 0 (.int .i64 1)).size = 258 := by simp [zs]
                  have hsC : C.size = ((zeroC.setIfInBounds 0 (.int .i64 3)).setIfInBounds 257 (.slice (some ⟨wx.heap.size, 0, none⟩) 2 2)).size := by simp [hcs, zs]
                  have hiD : (Try.prog.info? TN).map (·.size) = some ((zeroC.setIfInBounds 0 (.int .i64 3)).setIfInBounds 257 (.slice (some ⟨wx.heap.size, 0, none⟩) 2 2)).size := by rw [← hsC]; exact hiC
                  have hoD : ((zeroC.setIfInBounds 0 (.int .i64 3)).setIfInBounds 257 (.slice (some ⟨wx.heap.size, 0, none⟩) 2 2)).all (·.oneCell') = true := (NC.made 3 _ rfl).one
                  go_wp2_with (first | (refine wpList_load_row rfl TN (.tmp 3) rfl (w.heap.size + 1) rfl TN C (0, 0) _ hB9 Try.underlying30 rfl hiC ?_) | (refine wpList_two rfl (.tmp 136) (.tmp 137) C (zeroC.setIfInBounds 0 (.int .i64 1)) rfl rfl rfl hcs hs1 ?_) | (refine wpList_store_row rfl TN (.tmp 3) (.tmp 139) rfl (w.heap.size + 1) ((zeroC.setIfInBounds 0 (.int .i64 3)).setIfInBounds 257 (.slice (some ⟨wx.heap.size, 0, none⟩) 2 2)) rfl rfl TN C (hBa _) hiD hsC hoD ?_))
                  go_meet
                  case rel => exact ⟨_, hfo⟩
              case rest =>
                obtain ⟨C', hI8⟩ := hcut
                clear hI9
                have hT8 := hI8.out.T
                obtain ⟨c0, c1, c2, c3, c4, f1, f2, f3, f4⟩ := hT8.cells
                have hIn := hI8.out.kn hpw (K1.set' (o := 1) (.int .i64 (st.at_ + 1))) (hT8.at (st.at_ + 1) (by omega))
                have HSZ := Lib.hid (facOne_size (bt s st.at_) r.1)
                have hG1 := hG.out HRB.out
                generalize facOne (bt s st.at_) r.1 = r1 at *
                go_upto_region 35 with fail
                revert hIn
                generalize World.setCell _ _ _ = wy
                intro hIn
                clear c0 c1 c2 c3 c4 f1 f2 f3 f4 hT8 hI8
                have hcs := hIn.N.size
                have hiC : (Try.prog.info? TN).map (·.size) = some C'.size := by rw [hcs]; exact zero_node.2
                have hB9 := hIn.B
                have hsB : wrap64 (toB r1).size = (r1.size : Int) := by
                  have := HSZ.out
                  rw [toB_size]; unfold wrap64; omega
                have hcall := SizeR_all (toB r1).size (toB r1) C' _ wy (Nat.le_refl _) hIn.N
                rw [hsB] at hcall
                have HCALL := Lib.hid hcall
                clear hcall hsB
                go_wp2_with (refine wpList_load_row rfl TN (.tmp 3) rfl (w.heap.size + 1) rfl TN C' (0, 0) _ hB9 Try.underlying30 rfl hiC ?_)
                refine HCALL.out.mono ?_
                rintro e wz ⟨rfl, hkz⟩
                have hIz := hIn.kn hpw hkz.weak (hIn.T.kn hkz)
                clear hIn hB9
                by_cases hgt : 400 < r1.size
                · have hgt' : (400 : Int) < (r1.size : Int) := by omega
                  have hI0 := hIz.kn hpw ((K1.set' (o := 4) (.bool true)).trans (K1.set' (o := 3) (.bool true))) ((hIz.T.setLong true).setBad)
                  have hal0 : Hid (Alike (.empty, r.2.next.stop) sr.long (toB r1) ({ ({ st with at_ := st.at_ + 1 } : PS) with long := true } : PS).fail) := Lib.hid (.fail rfl rfl)
                  have hfa : Hid (fcN s n sm = facLoop s m (Re.empty : Rw) r.2.next.stop) := Lib.hid (by
                    rw [hfac.out, if_pos hgt]
                    cases m with
                    | zero => rfl
                    | succ k => rw [facLoop, if_pos (by rfl)])
                  have hT8 := hIz.T
                  obtain ⟨c0, c1, c2, c3, c4, f1, f2, f3, f4⟩ := hT8.cells
                  have HI0 := Lib.hid hI0
                  clear hI0
                  go_wp2_with fail
                  go_roundg m
                  case rel => exact ⟨_, _, _, (.empty, r.2.next.stop), HI0, hal0, hfa, Lib.hid (.inl rfl), Lib.hid (fun x => by cases x)⟩
                  all_goals (have := HM.out; omega)
                · have hgt' : ¬ (400 : Int) < (r1.size : Int) := by omega
                  have hal0 : Hid (Alike (r1, r.2.next) sr.long (toB r1) { st with at_ := st.at_ + 1 }) := Lib.hid ⟨by have h := congrArg (fun x : PS => x.bad) HQ.out.1; exact h, fun _ => ⟨by have h := congrArg (fun x : PS => x.next) HQ.out.1; exact h, rfl, fun x => by
                    rcases HQ.out.2.2 x with h | h
                    · exact .inl h
                    · right; have := HSZ.out.1; show 400 < r1.size; omega⟩⟩
                  have hfa : Hid (fcN s n sm = facLoop s m r1 r.2.next) := Lib.hid (by rw [hfac.out, if_neg hgt])
                  have HI0 := Lib.hid hIz
                  have hn9 : Hid (r.2.next.bad = true ∨ s.size - r.2.next.at_ < m) := Lib.hid (.inr (by have := HAT.out; have := HM.out; show s.size - (r.2.at_ + 1) < m; omega))
                  clear hIz
                  go_wp2_with fail
                  go_roundg m
                  case rel => exact ⟨_, _, _, (r1, r.2.next), HI0, hal0, hfa, hn9, Lib.hid (fun _ => by show r1.size ≤ _; omega)⟩
                  all_goals (have := HM.out; omega)
          · have hlt' : ¬ (st.at_ : Int) < s.size := by omega
            have hno : Hid (Alike (fcN s n sm) sr.long t st) := Lib.hid (hexit.out (by simp [isB, hlt]) (by simp [isB, hlt]) (by simp [isB, hlt]))
            go_wp2_with fail
            go_quiet (fail)
            go_wp2_with fail
            go_meet
            case rel => exact ⟨t, C, st, Lib.hid (hI.out.kn hpw ((Kp.refl _ _).drewN _) (hT.drewN _)), hno⟩
    case rest =>
      obtain ⟨tZ, CZ, st, hIn3, hAl3⟩ := hcut
      have hIZ := hIn3.out
      have hAlZ := hAl3.out
      obtain ⟨hBZ, hRZ, hSZ, hNZ, hTZ, hKZ⟩ := hIZ
      have hcs := hNZ.size
      have hiC : (Try.prog.info? TN).map (·.size) = some CZ.size := by rw [hcs]; exact zero_node.2
      have hzC : zeroC.size = CZ.size := by rw [hcs]; exact zs
      obtain ⟨slq, hnc⟩ := hNZ.nc
      have hone := hnc.one
      have hRf := setRow_heap _ _ zeroC CZ TN (0, 0) hRZ
      have hNf := (hNZ.row CZ (g := w.heap.size) (fun x => by omega)).mono (M := A) (fun g hg _ => HA.out g (by omega))
      have hTf := hTZ.row (C := CZ) hne2
      have hKf := K1.row (C := CZ) hKZ (Nat.le_refl _) hRZ
      go_wp2_with (first | (refine wpList_load_row rfl TN (.tmp 3) rfl (w.heap.size + 1) rfl TN CZ (0, 0) _ hBZ Try.underlying30 rfl hiC ?_) | (refine wpList_store_row rfl TN (.tmp 2) (.tmp 169) rfl w.heap.size CZ rfl rfl TN zeroC hRZ hiC hzC hone ?_))
      exact bodyPost_ret (results_cell_row rfl _ _ w.heap.size TN CZ (0, 0) _ rfl hRf Try.underlying30 rfl hiC) rfl ⟨CZ, _, _, rfl, hNf, hTf, hAlZ, hKf⟩

end Go.Proofs.Ytkhcnneflcbnpaa
