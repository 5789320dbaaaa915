/-
  The document's reader of expressions beside the program's: what is alike; slices of one node and of two. Conditions: none.
-/
import Derived.Test.YtkhcnneflcbnpaaMClass
namespace Go.Proofs.Ytkhcnneflcbnpaa
open Go.RowKit

/-- the same reader, but for the mark of what is more than may be -/
def PS.lg (st : PS) (l : Bool) : PS := { st with long := l }
theorem isB_lg (s : ByteArray) (b : Nat) (st : PS) (l : Bool) : isB s b (st.lg l) = isB s b st := rfl
theorem isS_lg (s : ByteArray) (b : Nat) (st : PS) (l : Bool) : isS s b (st.lg l) = (isS s b st).lg l := by
  unfold isS; rw [isB_lg]; split <;> rfl
theorem digitS_lg (s : ByteArray) (st : PS) (l : Bool) : digitS s (st.lg l) = (digitS s st).lg l := by
  unfold digitS; rw [show digitOk s (st.lg l) = digitOk s st from rfl]; split <;> rfl
theorem digitV_lg (s : ByteArray) (st : PS) (l : Bool) : digitV s (st.lg l) = digitV s st := rfl
theorem hexS_lg (s : ByteArray) (st : PS) (l : Bool) : hexS s (st.lg l) = (hexS s st).lg l := digitS_lg s st.next l
theorem escS_lg (s sp : ByteArray) (st : PS) (l : Bool) : escS s sp (st.lg l) = (escS s sp st).lg l := by
  unfold escS
  rw [hexS_lg, digitS_lg]
  simp only [show (st.lg l).at_ = st.at_ from rfl, show (st.lg l).next = st.next.lg l from rfl, show (st.lg l).fail = st.fail.lg l from rfl, show ((hexS s st).lg l).bad = (hexS s st).bad from rfl]
  repeat' split
  all_goals rfl
theorem letS_lg (s sp : ByteArray) (st : PS) (l : Bool) : letS s sp (st.lg l) = (letS s sp st).lg l := by
  unfold letS
  simp only [show (st.lg l).at_ = st.at_ from rfl, show (st.lg l).next = st.next.lg l from rfl, show (st.lg l).fail = st.fail.lg l from rfl, escS_lg]
  repeat' split
  all_goals rfl
theorem escV_lg (s sp : ByteArray) (st : PS) (l : Bool) : escV s sp (st.lg l) = escV s sp st := by
  unfold escV
  rw [hexS_lg]; rfl
theorem letV_lg (s sp : ByteArray) (st : PS) (l : Bool) : letV s sp (st.lg l) = letV s sp st := by
  unfold letV
  rw [show (st.lg l).next = st.next.lg l from rfl, escV_lg]; rfl
theorem spanRange_lg (s : ByteArray) (st : PS) (l : Bool) : spanRange s (st.lg l) = spanRange s st := by
  unfold spanRange; rw [letS_lg]; rfl
theorem spanHi_lg (s : ByteArray) (st : PS) (l : Bool) : spanHi s (st.lg l) = spanHi s st := by
  unfold spanHi; rw [spanRange_lg, letS_lg, isS_lg, letV_lg, letV_lg]
theorem spanS_lg (s : ByteArray) (st : PS) (l : Bool) : spanS s (st.lg l) = (spanS s st).lg l := by
  unfold spanS
  simp only [spanRange_lg, spanHi_lg, letS_lg, isS_lg, letV_lg, show ∀ x : PS, (x.lg l).bad = x.bad from fun _ => rfl, show ∀ x : PS, (x.lg l).at_ = x.at_ from fun _ => rfl]
  split
  · split <;> rfl
  · rfl
theorem spanW_lg (s : ByteArray) (st : PS) (ws : W4) (l : Bool) : spanW s (st.lg l) ws = spanW s st ws := by
  unfold spanW; rw [spanS_lg, letV_lg, spanHi_lg]; rfl
theorem clsLoop_lg (s : ByteArray) (l : Bool) (n : Nat) : ∀ (st : PS) (ws : W4), clsLoop s n (st.lg l) ws = ((clsLoop s n st ws).1.lg l, (clsLoop s n st ws).2) := by
  induction n with
  | zero => intro st ws; rfl
  | succ n ih =>
    intro st ws
    simp only [clsLoop, spanS_lg, spanW_lg, ih, isS_lg, isB_lg, show (st.lg l).bad = st.bad from rfl]
    split
    · rfl
    · split <;> rfl
theorem clsR_lg (s : ByteArray) (st : PS) (l : Bool) : clsR s (st.lg l) = ((clsR s st).1.lg l, (clsR s st).2) := by
  unfold clsR
  simp only [isS_lg, isB_lg, spanS_lg, spanW_lg, clsLoop_lg]

/-- the program's expression, its sets told byte by byte -/
def toB : Rw → Rb
  | .set s => .set s.bit
  | .empty => .empty
  | .cat x y => .cat (toB x) (toB y)
  | .or x y => .or (toB x) (toB y)
  | .star x => .star (toB x)
theorem toB_size (t : Rw) : (toB t).size = t.size := by
  induction t <;> simp_all [toB, Re.size]

/-- what the document's reader has read, beside what the program has -/
structure Alike (r : Rw × PS) (g : Bool) (t : Rb) (st : PS) : Prop where
  bad : st.bad = r.2.bad
  ok : r.2.bad = false → st = r.2.lg st.long ∧ t = toB r.1 ∧ (st.long = true → g = true ∨ 400 < r.1.size)
theorem Alike.fail {r : Rw × PS} {g : Bool} {t : Rb} {st : PS} (h1 : st.bad = true) (h2 : r.2.bad = true) : Alike r g t st := ⟨by rw [h1, h2], fun x => by rw [h2] at x; cases x⟩

theorem wpList_one {ops : Array Oper} {rest : List Oper} {o : Oper} {a : Act} {w : World} {Q : Exit → Act → World → Prop} (hgd : o.guard = none) (x : Operand) (X : Array Value) (ho : o.op = .buildSlice 28 1 #[(0, x)])
    (hx : a.eval x = .agg X) (hX : X.size = 258)
    (h : wpList Try.prog ops Q rest (a.put o.dst (.slice (some ⟨w.heap.size, 0, none⟩) 1 1)) (w.alloc (.cells X TN))) : wpList Try.prog ops Q (o :: rest) a w := by
  refine wpList_plain hgd fun K hK => ?_
  obtain ⟨ie, h1, h2, h3⟩ := node_info
  refine wp_buildSlice 28 TN 1 _ ho X ie _ Try.underlying28 h1 h2 (by rw [h3]; decide) (by rw [h3]; decide) ?_ (hK _ _ h)
  have hf := fill_nodes [X] ((Array.range (1 * ie.size)).map ((Value.agg zeroC).cells[· % (Value.agg zeroC).cells.size]!)) (by simp [hX]) (by simp [h3])
  rw [h3] at hf ⊢
  simpa [hx] using hf
theorem wpList_two {ops : Array Oper} {rest : List Oper} {o : Oper} {a : Act} {w : World} {Q : Exit → Act → World → Prop} (hgd : o.guard = none) (x y : Operand) (X Y : Array Value) (ho : o.op = .buildSlice 28 2 #[(0, x), (1, y)])
    (hx : a.eval x = .agg X) (hy : a.eval y = .agg Y) (hX : X.size = 258) (hY : Y.size = 258)
    (h : wpList Try.prog ops Q rest (a.put o.dst (.slice (some ⟨w.heap.size, 0, none⟩) 2 2)) (w.alloc (.cells (X ++ Y) TN))) : wpList Try.prog ops Q (o :: rest) a w :=
  wpList_plain hgd fun _ hK => wp_two x y X Y ho hx hy hX hY (hK _ _ h)

/-- the block of a node of the call's own is written anew -/
theorem K1.row {w wc : World} {p g : Nat} {C D : Array Value} (hk : K1 p w wc) (hg : w.heap.size ≤ g) (_ : wc.heap[g]? = some (.cells D TN (0, 0))) : K1 p w (wc.setRow g C) :=
  hk.trans' (T := fun k => k = g) ⟨rfl, rfl, rfl, by simp, fun k _ hk => setRow_other _ _ _ _ hk⟩ (fun i hi x => by omega)
theorem Tat.row {w : World} {p g : Nat} {s : ByteArray} {st : PS} {C : Array Value} (h : Tat w p s st) (hg : g ≠ p) : Tat (w.setRow g C) p s st :=
  ⟨by rw [setRow_other _ _ _ _ (fun x => hg x.symm)]; exact h.1, h.2⟩
theorem kp_row (w : World) (g : Nat) (C : Array Value) : Kp (fun k => k = g) w (w.setRow g C) := ⟨rfl, rfl, rfl, by simp, fun k _ hk => setRow_other _ _ _ _ hk⟩
theorem NV.row {w : World} {N : Nat → Prop} {t : Rb} {X : Array Value} {g : Nat} (h : NV w N t X) (C : Array Value) (hg : ¬ N g) : NV (w.setRow g C) N t X :=
  h.kp (kp_row w g C) (fun _ hk e => hg (e ▸ hk))

end Go.Proofs.Ytkhcnneflcbnpaa
