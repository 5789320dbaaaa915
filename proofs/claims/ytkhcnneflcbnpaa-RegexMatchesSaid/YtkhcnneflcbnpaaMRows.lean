/-
  Rows of the document's nodes that a call gathers: what they hold, and what an append leaves. Conditions: none.
-/
import Derived.Test.YtkhcnneflcbnpaaMFac
import Derived.Maps.AppendAt
namespace Go.Proofs.Ytkhcnneflcbnpaa
open Go.RowKit

def flatC (Cs : List (Array Value)) : List Value := Cs.flatMap Array.toList
theorem flatC_snoc (Cs : List (Array Value)) (C : Array Value) : flatC (Cs ++ [C]) = flatC Cs ++ C.toList := by simp [flatC]
theorem flatC_len : ∀ {Cs : List (Array Value)}, (∀ C ∈ Cs, C.size = 258) → (flatC Cs).length = Cs.length * 258
  | [], _ => rfl
  | C :: Cs, h => by
    have ih := flatC_len (Cs := Cs) (fun D hD => h D (List.mem_cons_of_mem _ hD))
    have h0 := h C List.mem_cons_self
    simp only [flatC, List.flatMap_cons, List.length_append, List.length_cons, Array.length_toList] at ih ⊢
    omega
theorem flatC_get : ∀ {Cs : List (Array Value)}, (∀ C ∈ Cs, C.size = 258) → ∀ (i j : Nat) (hi : i < Cs.length), j < 258 → (flatC Cs)[258 * i + j]? = Cs[i].toList[j]?
  | [], _, i, j, hi, _ => by simp at hi
  | C :: Cs, h, 0, j, hi, hj => by
    have h0 := h C List.mem_cons_self
    simp only [flatC, List.flatMap_cons, Nat.mul_zero, Nat.zero_add, List.getElem_cons_zero]
    rw [List.getElem?_append_left (by simpa [h0] using hj)]
  | C :: Cs, h, i + 1, j, hi, hj => by
    have h0 := h C List.mem_cons_self
    have ih := flatC_get (Cs := Cs) (fun D hD => h D (List.mem_cons_of_mem _ hD)) i j (by simpa using hi) hj
    simp only [flatC, List.flatMap_cons, List.getElem_cons_succ] at ih ⊢
    rw [List.getElem?_append_right (by simp [h0]; omega), ← ih]
    congr 1
    simp [h0]; omega

abbrev OwnC (w : World) (B : Nat) (v : Value) (Cs : List (Array Value)) : Prop := w.ownsRow B TN 258 v Cs.length (flatC Cs)
theorem OwnC.row {w : World} {B : Nat} {v : Value} {Cs : List (Array Value)} (h : OwnC w B v Cs) (hs : ∀ C ∈ Cs, C.size = 258) :
    ∃ a c, v = .slice a Cs.length c ∧ Cs.length ≤ c ∧ c ≤ maxLen ∧ (Cs ≠ [] → ∃ g, a = some ⟨g, 0, none⟩ ∧ ∀ i (hi : i < Cs.length), w.rangeAt g (0 + 258 * i) Cs[i].toList) := by
  rcases h.2 with ⟨h1, h2⟩ | ⟨g, cap, cur, h1, h2, h3, h4, h5, h6, h7⟩
  · exact ⟨none, 0, by rw [h1, h2], by omega, by simp [maxLen], fun hne => (hne (by simpa using h2)).elim⟩
  · refine ⟨_, cap, h1, h4, h5, fun _ => ⟨g, rfl, fun i hi j u hu => ?_⟩⟩
    have hj : j < 258 := by
      rcases Nat.lt_or_ge j 258 with h | h
      · exact h
      · rw [List.getElem?_eq_none (by rw [Array.length_toList, hs _ (List.getElem_mem hi)]; exact h)] at hu; cases hu
    have hc := h.cells (g := g) (by rw [h1]; rfl) (258 * i + j) u (by rw [flatC_get hs i j hi hj]; exact hu)
    have hadd : (⟨g, 0, none⟩ : Addr).add (258 * i + j) = ⟨g, 0 + 258 * i + j, none⟩ := by unfold Addr.add; split <;> simp_all
    rw [hadd] at hc; exact hc

theorem NVs.size {w : World} {N : Nat → Prop} {ts : List Rb} {Cs : List (Array Value)} (h : NVs w N ts Cs) : ∀ C ∈ Cs, C.size = 258 := by
  induction h with
  | nil => intro C hC; cases hC
  | cons a _ ih =>
    intro C hC
    rcases List.mem_cons.1 hC with rfl | h
    · exact a.size
    · exact ih C h
theorem NVs.kp {S : Nat → Prop} {w w' : World} {N : Nat → Prop} (hk : Kp S w w') (hS : ∀ k, N k → ¬ S k) {ts : List Rb} {Cs : List (Array Value)} (h : NVs w N ts Cs) : NVs w' N ts Cs := by
  induction h with
  | nil => exact .nil
  | cons a _ ih => exact .cons (a.kp hk hS) ih
theorem NVs.snoc {w : World} {N : Nat → Prop} {ts : List Rb} {Cs : List (Array Value)} {t : Rb} {C : Array Value} (h : NVs w N ts Cs) (hC : NV w N t C) : NVs w N (ts ++ [t]) (Cs ++ [C]) := by
  induction h with
  | nil => exact .cons hC .nil
  | cons a _ ih => exact .cons a ih
theorem Kp.grown {w w' : World} {row : Option Nat} (h : w.grownBy w' row) : Kp (fun k => some k = row) w w' := ⟨h.os, h.tape, h.output, h.size, fun k hk hs => h.block k hk hs⟩
theorem Kp.toGrown {p : Nat} {w w' : World} (h : K1 p w w') : w.grownBy w' (some p) := ⟨h.os, h.tape, h.output, h.size, fun k hk hs => h.block k hk (fun e => hs (by rw [e]))⟩

theorem news_blk (w : World) (C : Array Value) : ∀ j u, C.toList[j]? = some u → (w.alloc (.cells C TN (0, 0))).cell? ((⟨w.heap.size, 0, none⟩ : Addr).add j) = some u := fun j u h => by
  have hadd : (⟨w.heap.size, 0, none⟩ : Addr).add j = ⟨w.heap.size, j, none⟩ := by unfold Addr.add; split <;> simp_all
  rw [hadd, cell_blk (blk_new w _)]; simpa using h
theorem ones_of {C : Array Value} (h : C.all (·.oneCell') = true) : ∀ u ∈ C.toList, u.oneCell' = true := by rw [Array.all_eq_true_iff_forall_mem] at h; simpa using h

/-- two rows of nodes are gathered: their blocks, and the nodes', are all the call's own -/
structure OI (wr w : World) (p : Nat) (s : ByteArray) (st : PS) (va : Value) (ta : List Rb) (Ca : List (Array Value)) (vl : Value) (tl : List Rb) (Cl : List (Array Value)) : Prop where
  R : wr.heap[w.heap.size]? = some (.cells zeroC TN (0, 0))
  S : w.heap.size + 1 ≤ wr.heap.size
  T : Tat wr p s st
  K : K1 p w wr
  oa : OwnC wr (w.heap.size + 1) va Ca
  ol : OwnC wr (w.heap.size + 1) vl Cl
  na : NVs wr (fun g => w.heap.size + 1 ≤ g ∧ some g ≠ va.ownBlock ∧ some g ≠ vl.ownBlock) ta Ca
  nl : NVs wr (fun g => w.heap.size + 1 ≤ g ∧ some g ≠ va.ownBlock ∧ some g ≠ vl.ownBlock) tl Cl
  ne : va.ownBlock = none ∨ va.ownBlock ≠ vl.ownBlock
theorem OI.swap {wr w : World} {p : Nat} {s : ByteArray} {st : PS} {va vl : Value} {ta tl : List Rb} {Ca Cl : List (Array Value)} (h : OI wr w p s st va ta Ca vl tl Cl) : OI wr w p s st vl tl Cl va ta Ca :=
  ⟨h.R, h.S, h.T, h.K, h.ol, h.oa, h.nl.mono (fun _ x _ => ⟨x.1, x.2.2, x.2.1⟩), h.na.mono (fun _ x _ => ⟨x.1, x.2.2, x.2.1⟩), by
    rcases h.ne with h | h
    · cases hv : vl.ownBlock with
      | none => exact .inl rfl
      | some x => right; rw [h]; simp
    · exact .inr (fun e => h e.symm)⟩
theorem OI.kp {wr w' w : World} {p : Nat} {s : ByteArray} {st st' : PS} {va vl : Value} {ta tl : List Rb} {Ca Cl : List (Array Value)} (h : OI wr w p s st va ta Ca vl tl Cl) (hp : p < w.heap.size) (hk : K1 p wr w') (hT : Tat w' p s st') :
    OI w' w p s st' va ta Ca vl tl Cl := by
  have hb : ∀ v B Cs, OwnC wr (w.heap.size + 1) v Cs → B = v.ownBlock → B = none ∨ B ≠ some p := fun v B Cs ho e => by
    cases hB : B with
    | none => exact .inl rfl
    | some x =>
      right; intro e2; cases e2
      have := ho.lt p (by rw [← e, hB]); omega
  exact ⟨hk.blk h.R (by omega), Nat.le_trans h.S hk.size, hT, h.K.trans hk, h.oa.kept hk.toGrown (hb va _ Ca h.oa rfl), h.ol.kept hk.toGrown (hb vl _ Cl h.ol rfl),
    NVs.kp hk (fun k x e => by omega) h.na, NVs.kp hk (fun k x e => by omega) h.nl, h.ne⟩
/-- a node more -/
theorem OI.app {wr w1 w : World} {p : Nat} {s : ByteArray} {st : PS} {va vl v1 : Value} {ta tl : List Rb} {Ca Cl : List (Array Value)} (h : OI wr w p s st va ta Ca vl tl Cl) (hp : p < w.heap.size) {t : Rb} {C : Array Value}
    (hC : NV wr (fun g => w.heap.size + 1 ≤ g ∧ some g ≠ va.ownBlock ∧ some g ≠ vl.ownBlock) t C)
    (ho : w1.ownsRow (w.heap.size + 1) TN 258 v1 (Cl.length + 1) (flatC Cl ++ C.toList)) (hg : (wr.alloc (.cells C TN (0, 0))).grownBy w1 vl.ownBlock)
    (hat : v1.ownBlock = vl.ownBlock ∨ v1.ownBlock = some (wr.alloc (.cells C TN (0, 0))).heap.size) : OI w1 w p s st va ta Ca v1 (tl ++ [t]) (Cl ++ [C]) := by
  have hk0 : Kn wr (wr.alloc (.cells C TN (0, 0))) := (Kp.refl _ wr).alloc _
  have hk : Kp (fun k => some k = vl.ownBlock) wr w1 := hk0.weak.trans (Kp.grown hg)
  have hvl : ∀ k, some k = vl.ownBlock → w.heap.size + 1 ≤ k := fun k e => (h.ol.lt k e.symm).1
  have hsz : (wr.alloc (.cells C TN (0, 0))).heap.size = wr.heap.size + 1 := by simp
  have hva : va.ownBlock = none ∨ ∃ k, va.ownBlock = some k ∧ k < wr.heap.size := by
    cases hv : va.ownBlock with
    | none => exact .inl rfl
    | some k => exact .inr ⟨k, rfl, (h.oa.lt k hv).2⟩
  have h1 : ∀ g, (w.heap.size + 1 ≤ g ∧ some g ≠ va.ownBlock ∧ some g ≠ vl.ownBlock) → g < wr.heap.size → ((w.heap.size + 1 ≤ g ∧ some g ≠ va.ownBlock ∧ some g ≠ vl.ownBlock) ∧ g < wr.heap.size) := fun g x hlt => ⟨x, hlt⟩
  have h2 : ∀ g, ((w.heap.size + 1 ≤ g ∧ some g ≠ va.ownBlock ∧ some g ≠ vl.ownBlock) ∧ g < wr.heap.size) → g < w1.heap.size → (w.heap.size + 1 ≤ g ∧ some g ≠ va.ownBlock ∧ some g ≠ v1.ownBlock) := fun g x _ => ⟨x.1.1, x.1.2.1, by
    rcases hat with e | e
    · rw [e]; exact x.1.2.2
    · rw [e, hsz]; intro y; injection y; omega⟩
  refine ⟨hk.blk h.R (fun e => by have := hvl _ e; omega), Nat.le_trans h.S hk.size, ⟨hk.blk h.T.1 (fun e => by have := hvl _ e; omega), h.T.2⟩, h.K.trans' hk (fun i hi e => by have := hvl _ e; omega), ?_, ?_, ?_, ?_, ?_⟩
  · exact (h.oa.alloc _).kept hg (by rcases h.ne with e | e; exact .inl e; exact .inr e)
  · unfold OwnC; rw [flatC_snoc, List.length_append]; exact ho
  · exact (NVs.kp hk (fun k x e => x.1.2.2 e) (h.na.mono h1)).mono h2
  · exact ((NVs.kp hk (fun k x e => x.1.2.2 e) (h.nl.mono h1)).mono h2).snoc (((hC.mono h1).kp hk (fun k x e => x.1.2.2 e)).mono h2)
  · rcases hva with e | ⟨k, e, hlt⟩
    · exact .inl e
    · rcases hat with e2 | e2
      · rw [e2]; exact h.ne
      · right; rw [e, e2, hsz]; intro y; injection y; omega

end Go.Proofs.Ytkhcnneflcbnpaa
