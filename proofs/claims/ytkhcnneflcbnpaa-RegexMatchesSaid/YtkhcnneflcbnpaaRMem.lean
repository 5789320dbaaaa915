/-
  Where an expression's nodes stand in memory. Conditions: none.
-/
import Derived.Test.YtkhcnneflcbnpaaKBase
import Derived.Test.YtkhcnneflcbnpaaRPure
namespace Go.Proofs.Ytkhcnneflcbnpaa
open Go.RowKit

abbrev ptr (n : Nat) : Value := .pointer (some ⟨n, 0, none⟩)
abbrev ndArr (k : Int) (s : W4) (sl : Value) : Array Value := #[.int .i64 k, .int .u64 s.a, .int .u64 s.b, .int .u64 s.c, .int .u64 s.d, sl]
abbrev ndObj (k : Int) (s : W4) (sl : Value) : Obj := .cells (ndArr k s sl) 61 (0, 0)
abbrev pairObj (i j : Nat) : Obj := .cells #[ptr i, ptr j] 23 (0, 0)
abbrev loneObj (i : Nat) : Obj := .cells #[ptr i] 23 (0, 0)
abbrev sl2 (r : Nat) : Value := .slice (some ⟨r, 0, none⟩) 2 2
abbrev sl1 (r : Nat) : Value := .slice (some ⟨r, 0, none⟩) 1 1
abbrev sl0 : Value := .slice none 0 0

def NodeAt (w : World) : Rw → Nat → Prop
  | .set s, n => s.ok ∧ w.heap[n]? = some (ndObj 0 s sl0)
  | .empty, n => w.heap[n]? = some (ndObj 1 W4.zero sl0)
  | .cat x y, n => ∃ r i j, w.heap[n]? = some (ndObj 2 W4.zero (sl2 r)) ∧ w.heap[r]? = some (pairObj i j) ∧ NodeAt w x i ∧ NodeAt w y j
  | .or x y, n => ∃ r i j, w.heap[n]? = some (ndObj 3 W4.zero (sl2 r)) ∧ w.heap[r]? = some (pairObj i j) ∧ NodeAt w x i ∧ NodeAt w y j
  | .star x, n => ∃ r i, w.heap[n]? = some (ndObj 4 W4.zero (sl1 r)) ∧ w.heap[r]? = some (loneObj i) ∧ NodeAt w x i

/-- the shapes of the blocks that nodes are made of -/
inductive NShape : Obj → Prop where
  | node (k : Int) (s : W4) (sl : Value) : NShape (ndObj k s sl)
  | pair (i j : Nat) : NShape (pairObj i j)
  | lone (i : Nat) : NShape (loneObj i)

/-- the blocks that may hold nodes are as they were -/
def Kn61 (w w' : World) : Prop := ∀ (k : Nat) (o : Obj), w.heap[k]? = some o → NShape o → w'.heap[k]? = some o

theorem NodeAt.mono61 {w w' : World} (hk : Kn61 w w') : ∀ {t : Rw} {n : Nat}, NodeAt w t n → NodeAt w' t n
  | .set _, _, ⟨h0, h⟩ => ⟨h0, hk _ _ h (.node ..)⟩
  | .empty, _, h => hk _ _ h (.node ..)
  | .cat _ _, _, ⟨r, i, j, h1, h2, h3, h4⟩ => ⟨r, i, j, hk _ _ h1 (.node ..), hk _ _ h2 (.pair ..), h3.mono61 hk, h4.mono61 hk⟩
  | .or _ _, _, ⟨r, i, j, h1, h2, h3, h4⟩ => ⟨r, i, j, hk _ _ h1 (.node ..), hk _ _ h2 (.pair ..), h3.mono61 hk, h4.mono61 hk⟩
  | .star _, _, ⟨r, i, h1, h2, h3⟩ => ⟨r, i, hk _ _ h1 (.node ..), hk _ _ h2 (.lone ..), h3.mono61 hk⟩

theorem Kn61.of {S : Nat → Prop} {w w' : World} (h : Kp S w w') (hs : ∀ (k : Nat) (o : Obj), w.heap[k]? = some o → NShape o → ¬ S k) : Kn61 w w' :=
  fun k o hk ht => h.blk hk (hs k o hk ht)

theorem NodeAt.kn {w w' : World} {t : Rw} {n : Nat} (h : NodeAt w t n) (hk : Kn w w') : NodeAt w' t n := h.mono61 (Kn61.of hk (fun _ _ _ _ x => x))

theorem NodeAt.alloc {w : World} {t : Rw} {n : Nat} (h : NodeAt w t n) (o : Obj) : NodeAt (w.alloc o) t n := h.kn ((Kp.refl _ _).alloc o)

theorem NodeAt.drewN {w : World} {t : Rw} {n : Nat} (h : NodeAt w t n) (m : Nat) : NodeAt (w.drewN m) t n := h.kn ((Kp.refl _ _).drewN m)

/-- a block of another type is no node's -/
theorem Kn61.k1 {w w' : World} {p : Nat} (h : K1 p w w') {cs : Array Value} {T : TypeId} {fr : Nat × Nat} (hp : w.heap[p]? = some (.cells cs T fr)) (h1 : T ≠ 61) (h2 : T ≠ 23) : Kn61 w w' :=
  Kn61.of h (fun k o hk ht e => by
    subst e
    rw [hp] at hk
    injection hk with hk
    cases ht with
    | node => injection hk with _ hk _; exact h1 hk
    | pair => injection hk with _ hk _; exact h2 hk
    | lone => injection hk with _ hk _; exact h2 hk)

theorem NodeAt.lt {w : World} {t : Rw} {n : Nat} (h : NodeAt w t n) : n < w.heap.size := by
  cases t with
  | set s => exact blk_lt h.2
  | empty => exact blk_lt h
  | cat x y => obtain ⟨_, _, _, h, _⟩ := h; exact blk_lt h
  | or x y => obtain ⟨_, _, _, h, _⟩ := h; exact blk_lt h
  | star x => obtain ⟨_, _, h, _⟩ := h; exact blk_lt h

def Re.parts {σ : Type} : Re σ → List (Re σ)
  | .set _ => [] | .empty => [] | .cat x y => [x, y] | .or x y => [x, y] | .star x => [x]
def Rw.words : Rw → W4
  | .set s => s
  | _ => W4.zero

/-- a row of pointers to nodes -/
inductive RowAt (w : World) : List Rw → List Nat → Prop where
  | nil : RowAt w [] []
  | cons {t : Rw} {q : Nat} {ts : List Rw} {qs : List Nat} : NodeAt w t q → RowAt w ts qs → RowAt w (t :: ts) (q :: qs)

theorem RowAt.mono61 {w w' : World} (hk : Kn61 w w') {ts : List Rw} {qs : List Nat} (h : RowAt w ts qs) : RowAt w' ts qs := by
  induction h with
  | nil => exact .nil
  | cons a _ ih => exact .cons (a.mono61 hk) ih
theorem RowAt.kn {w w' : World} {ts : List Rw} {qs : List Nat} (h : RowAt w ts qs) (hk : Kn w w') : RowAt w' ts qs := h.mono61 (Kn61.of hk (fun _ _ _ _ x => x))
theorem RowAt.len {w : World} {ts : List Rw} {qs : List Nat} (h : RowAt w ts qs) : ts.length = qs.length := by
  induction h with
  | nil => rfl
  | cons _ _ ih => simp [ih]
theorem RowAt.get {w : World} {ts : List Rw} {qs : List Nat} (h : RowAt w ts qs) : ∀ (i : Nat) (hi : i < ts.length) (hq : i < qs.length), NodeAt w ts[i] qs[i] := by
  induction h with
  | nil => intro i hi; simp at hi
  | cons a _ ih =>
    intro i hi hq
    cases i with
    | zero => exact a
    | succ i => exact ih i (by simpa using hi) (by simpa using hq)
theorem RowAt.snoc {w : World} {ts : List Rw} {qs : List Nat} (h : RowAt w ts qs) {t : Rw} {q : Nat} (ht : NodeAt w t q) : RowAt w (ts ++ [t]) (qs ++ [q]) := by
  induction h with
  | nil => exact .cons ht .nil
  | cons a _ ih => exact .cons a ih

/-- one way to look at any node -/
theorem NodeAt.look {w : World} {t : Rw} {n : Nat} (h : NodeAt w t n) : ∃ (sa : Option Addr) (qs : List Nat),
    w.heap[n]? = some (ndObj t.kind t.words (.slice sa qs.length qs.length)) ∧ RowAt w t.parts qs ∧
    (∀ i, (hi : i < qs.length) → ∃ r : Nat, sa = some ⟨r, 0, none⟩ ∧ w.cell? ⟨r, i, none⟩ = some (ptr qs[i])) ∧ qs.length ≤ 2 := by
  cases t with
  | set s => exact ⟨none, [], h.2, .nil, fun i hi => by simp at hi, by simp⟩
  | empty => exact ⟨none, [], h, .nil, fun i hi => by simp at hi, by simp⟩
  | cat x y =>
    obtain ⟨r, i, j, h1, h2, h3, h4⟩ := h
    refine ⟨some ⟨r, 0, none⟩, [i, j], h1, .cons h3 (.cons h4 .nil), fun k hk => ⟨r, rfl, ?_⟩, by simp⟩
    rw [cell_blk h2]
    rcases k with _ | _ | k
    · rfl
    · rfl
    · simp at hk; try omega
  | or x y =>
    obtain ⟨r, i, j, h1, h2, h3, h4⟩ := h
    refine ⟨some ⟨r, 0, none⟩, [i, j], h1, .cons h3 (.cons h4 .nil), fun k hk => ⟨r, rfl, ?_⟩, by simp⟩
    rw [cell_blk h2]
    rcases k with _ | _ | k
    · rfl
    · rfl
    · simp at hk; try omega
  | star x =>
    obtain ⟨r, i, h1, h2, h3⟩ := h
    refine ⟨some ⟨r, 0, none⟩, [i], h1, .cons h3 .nil, fun k hk => ⟨r, rfl, ?_⟩, by simp⟩
    rw [cell_blk h2]
    rcases k with _ | k
    · rfl
    · simp at hk; try omega

end Go.Proofs.Ytkhcnneflcbnpaa
