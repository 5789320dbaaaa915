/-
  Of several expressions, nodes of two: all of them. Conditions: they lie in memory, one behind the other.
-/
import Derived.Test.YtkhcnneflcbnpaaMPair
namespace Go.Proofs.Ytkhcnneflcbnpaa
open Go.RowKit

theorem NVs.kn {w w' : World} {N : Nat → Prop} (hk : Kn w w') {ts : List Rb} {Cs : List (Array Value)} (h : NVs w N ts Cs) : NVs w' N ts Cs := by
  induction h with
  | nil => exact .nil
  | cons a _ ih => exact .cons (a.kn hk) ih
theorem NVs.mono {w : World} {N M : Nat → Prop} (hNM : ∀ g, N g → g < w.heap.size → M g) {ts : List Rb} {Cs : List (Array Value)} (h : NVs w N ts Cs) : NVs w M ts Cs := by
  induction h with
  | nil => exact .nil
  | cons a _ ih => exact .cons (a.mono hNM) ih

theorem pair_all (k : Nat) (hk : k = 2 ∨ k = 3) : ∀ (ts : List Rb) (Cs : List (Array Value)) (g o c : Nat) (N : Nat → Prop) (w : World), ts ≠ [] → NVs w N ts Cs → (∀ i (hi : i < Cs.length), w.rangeAt g (o + 258 * i) Cs[i].toList) →
    Cs.length ≤ c → c ≤ maxLen → Cs.length ≤ 10000000 → (∀ g, w.heap.size ≤ g → N g) →
    Calls Try.prog 33 #[.int .i64 k, .slice (some ⟨g, o, none⟩) Cs.length c] w fun e w' => ∃ C, e = .returned (.agg C) ∧ NV w' N (pairB k ts) C ∧ Kn w w' := by
  intro ts
  induction ts with
  | nil => intro Cs g o c N w h; exact (h rfl).elim
  | cons t ts ih =>
    intro Cs g o c N w _ hvs hrow hc hc2 hm hN
    cases hvs with
    | @cons _ C _ Cs' hv hvs' =>
    have hr0 : w.rangeAt g o C.toList := by have := hrow 0 (by simp); simpa using this
    cases hvs' with
    | nil =>
      refine (pair_one k t C g o c N w hv hr0).mono ?_
      rintro e w' ⟨rfl, hkn⟩
      exact ⟨C, rfl, hv.kn hkn, hkn⟩
    | @cons t2 C2 ts2 Cs2 hv2 hvs2 =>
      have hvs' : NVs w N (t2 :: ts2) (C2 :: Cs2) := .cons hv2 hvs2
      refine pair_step k t C g o (C :: C2 :: Cs2).length c N w hv hr0 (by simp) hm hc hc2 (pairB k (t2 :: ts2)) (fun h => by omega) hN ?_
      intro W hKW hlt
      have hv3 : NVs W (fun x => N x ∧ x ≠ w.heap.size) (t2 :: ts2) (C2 :: Cs2) := (hvs'.mono (fun x hx hxl => ⟨hx, by omega⟩)).kn hKW
      exact ih (C2 :: Cs2) g (o + 258) (c - 1) (fun x => N x ∧ x ≠ w.heap.size) W (by simp) hv3 (fun i hi => by
        have := hrow (i + 1) (by simpa using hi)
        rw [show o + 258 + 258 * i = o + 258 * (i + 1) by omega]
        exact range_kn hKW this) (by simp at hc ⊢; omega) (by omega) (by simp at hm ⊢; omega) (fun x hx => ⟨hN x (by omega), by omega⟩)

end Go.Proofs.Ytkhcnneflcbnpaa
