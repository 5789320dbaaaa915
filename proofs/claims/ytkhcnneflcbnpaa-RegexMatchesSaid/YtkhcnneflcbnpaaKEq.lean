/-
  Two arrays of whole numbers, held against each other. Conditions: none.
-/
import Derived.Test.YtkhcnneflcbnpaaKBase
namespace Go.Proofs.Ytkhcnneflcbnpaa
open Go.RowKit

def intsV (k : IntKind) (l : List Int) : Array Value := (l.map (Value.int k)).toArray

theorem run_part_int {P : Program} {e : TypeId} {k : IntKind} (he : P.underlying e = some (.int k)) (l : List Int) (i : Nat) (hi : i < l.length) (w : World) :
    (part e (intsV k l) i).run P w = .ok (.int k l[i]) w := by
  simp [part, isAgg, run_underlying he, intsV, hi]

theorem run_equalIn_ints {P : Program} (d : Nat) {t e : TypeId} {n : Nat} {k : IntKind} (ht : P.underlying t = some (.array n e)) (he : P.underlying e = some (.int k))
    (hs : ∀ w, (sizeOf e).run P w = .ok 1 w) (l m : List Int) (hl : l.length = n) (hm : m.length = n) (w : World) :
    (Op.equalIn (d + 2) t (.agg (intsV k l)) (.agg (intsV k m))).run P w = .ok (l == m) w := by
  obtain ⟨d', hd'⟩ : ∃ d', d' = d + 1 := ⟨_, rfl⟩
  have key : ∀ (c j : Nat), j + c = n → (forIn (m := Sem) (List.range' j c) ((none, ()) : Option Bool × Unit) (fun i r => do
      if !(← Op.equalIn d' e (← part e (intsV k l) (i * 1)) (← part e (intsV k m) (i * 1))) then pure (ForInStep.done (some false, ())) else pure (ForInStep.yield (none, ())))).run P w
      = .ok (if l.drop j == m.drop j then (none, ()) else (some false, ())) w := by
    intro c
    induction c with
    | zero =>
      intro j hj
      rw [List.drop_of_length_le (by omega), List.drop_of_length_le (by omega)]
      simp
    | succ c ih =>
      intro j hj
      simp only [List.range'_succ, List.forIn_cons, Sem.run_bind, Nat.mul_one]
      rw [run_part_int he l j (by omega)]
      simp only [Result.andThen_ok]
      rw [run_part_int he m j (by omega)]
      simp only [Result.andThen_ok]
      rw [show (Op.equalIn d' e (.int k l[j]) (.int k m[j])).run P w = .ok (l[j] == m[j]) w from by rw [hd']; exact run_equalIn_int _ _ _ _ _ _ _ he]
      simp only [Result.andThen_ok]
      have hd : (l.drop j == m.drop j) = (l[j] == m[j] && l.drop (j + 1) == m.drop (j + 1)) := by
        rw [List.drop_eq_getElem_cons (show j < l.length by omega), List.drop_eq_getElem_cons (show j < m.length by omega)]; rfl
      rw [hd]
      by_cases hq : l[j] = m[j]
      · have h1 : (l[j] == m[j]) = true := by simpa using hq
        rw [h1]
        simp only [Bool.not_true, Bool.false_eq_true, if_false, Sem.run_pure, Result.andThen_ok, Bool.true_and]
        have := ih (j + 1) (by omega)
        simp only [Nat.mul_one] at this
        exact this
      · have h1 : (l[j] == m[j]) = false := by simpa using hq
        rw [h1]
        simp
  rw [show d + 2 = d' + 1 by omega]
  simp only [Op.equalIn, Sem.run_bind, run_underlying ht, Result.andThen_ok, hs]
  have h0 := key n 0 (by omega)
  simp only [List.drop_zero] at h0
  rw [Std.Legacy.Range.forIn_eq_forIn_range', show ([:n] : Std.Legacy.Range).size = n from by simp [Std.Legacy.Range.size]]
  refine (congrArg (fun r => Result.andThen r _) h0).trans ?_
  by_cases h : l = m
  · simp [h]
  · simp [h]

/-- '==' and '!=' of two arrays of whole numbers -/
theorem run_eql_ints {P : Program} {t e : TypeId} {n : Nat} {k : IntKind} (ht : P.underlying t = some (.array n e)) (he : P.underlying e = some (.int k))
    (hs : ∀ w, (sizeOf e).run P w = .ok 1 w) (l m : List Int) (hl : l.length = n) (hm : m.length = n) (w : World) :
    (binOp .eql t (.agg (intsV k l)) (.agg (intsV k m))).run P w = .ok (.bool (l == m)) w := by
  rw [run_eql_struct, run_equalIn_ints 9998 ht he hs l m hl hm]; rfl
theorem run_neq_ints {P : Program} {t e : TypeId} {n : Nat} {k : IntKind} (ht : P.underlying t = some (.array n e)) (he : P.underlying e = some (.int k))
    (hs : ∀ w, (sizeOf e).run P w = .ok 1 w) (l m : List Int) (hl : l.length = n) (hm : m.length = n) (w : World) :
    (binOp .neq t (.agg (intsV k l)) (.agg (intsV k m))).run P w = .ok (.bool (!(l == m))) w := by
  rw [run_neq_struct, run_equalIn_ints 9998 ht he hs l m hl hm]; rfl

end Go.Proofs.Ytkhcnneflcbnpaa
