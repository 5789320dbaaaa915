/-
  'append' of one element of one cell to a row of the call's own, whose spare places hold zero. Conditions: the sizes stand in each law.
-/
import Derived.Test.YtkhcnneflcbnpaaKBase
namespace Go.Proofs.Ytkhcnneflcbnpaa
open Go.RowKit

/-- a row of the call's own: its elements, and behind them zeros -/
def RowZ (w : World) (B : Nat) (e : TypeId) (z : Value) (v : Value) (xs : List Value) : Prop :=
  (v = .slice none 0 0 ∧ xs = []) ∨ ∃ g cap k, v = .slice (some ⟨g, 0, none⟩) xs.length cap ∧ B ≤ g ∧ cap = xs.length + k ∧ cap ≤ maxLen ∧ w.heap[g]? = some (.cells (xs ++ List.replicate k z).toArray e (0, 0))

theorem RowZ.nil (w : World) (B : Nat) (e : TypeId) (z : Value) : RowZ w B e z (.slice none 0 0) [] := .inl ⟨rfl, rfl⟩

theorem RowZ.new {w : World} {B : Nat} {e : TypeId} {z : Value} (xs : List Value) (hB : B ≤ w.heap.size) (hm : xs.length ≤ maxLen) : RowZ (w.alloc (.cells xs.toArray e (0, 0))) B e z (.slice (some ⟨w.heap.size, 0, none⟩) xs.length xs.length) xs :=
  .inr ⟨w.heap.size, xs.length, 0, rfl, hB, rfl, hm, by simpa using blk_new w (.cells xs.toArray e (0, 0))⟩

/-- the block of a row with room -/
def Roomy (w : World) (e : TypeId) (z : Value) (k : Nat) : Prop := ∃ cs : List Value, w.heap[k]? = some (.cells (cs ++ [z]).toArray e (0, 0))

theorem RowZ.kp {S : Nat → Prop} {w w' : World} {B : Nat} {e : TypeId} {z v : Value} {xs : List Value} (h : RowZ w B e z v xs) (hk : Kp S w w') (hs : ∀ k, B ≤ k → k < w.heap.size → ¬ S k) : RowZ w' B e z v xs := by
  rcases h with h | ⟨g, cap, k, h1, h2, h3, h4, h5⟩
  · exact .inl h
  · exact .inr ⟨g, cap, k, h1, h2, h3, h4, hk.blk h5 (hs g h2 (blk_lt h5))⟩

theorem RowZ.ge {w : World} {B : Nat} {e : TypeId} {z v : Value} {xs : List Value} (h : RowZ w B e z v xs) : ∀ k, v.ownBlock = some k → B ≤ k := by
  rcases h with ⟨rfl, _⟩ | ⟨g, cap, k, rfl, h2, _⟩
  · intro k hk; simp [Value.ownBlock] at hk
  · intro k hk; simp [Value.ownBlock] at hk; omega

/-- its elements, as a reader finds them -/
theorem RowZ.get {w : World} {B : Nat} {e : TypeId} {z v : Value} {xs : List Value} (h : RowZ w B e z v xs) : ∃ a c, v = .slice a xs.length c ∧ ∀ i, (hi : i < xs.length) → ∃ g : Nat, a = some ⟨g, 0, none⟩ ∧ w.cell? ⟨g, i, none⟩ = some xs[i] := by
  rcases h with ⟨rfl, rfl⟩ | ⟨g, cap, k, rfl, _, _, _, h5⟩
  · exact ⟨none, 0, rfl, fun i hi => by simp at hi⟩
  · refine ⟨_, _, rfl, fun i hi => ⟨g, rfl, ?_⟩⟩
    rw [cell_blk h5, List.getElem?_toArray, List.getElem?_append_left hi]
    simp

theorem zeros_one (z : Value) (n : Nat) (hz : z.cells = #[z]) : (Builtin.zeroCells z.cells n).toList = List.replicate n z := by
  apply List.ext_getElem
  · simp [Builtin.zeroCells, hz]
  · intro i h1 h2
    simp [Builtin.zeroCells, hz, Nat.mod_one]

section
variable {P : Program} (w : World)
theorem run_append_z (B : Nat) (t ty e : TypeId) (i : TypeInfo) (z : Value) (bytes : Nat) (ht : P.underlying t = some (.slice e)) (hi : P.info? e = some i) (hz : i.zero = some z) (hsize : i.size = 1) (hby : i.bytes = bytes) (hzs : z.cells = #[z])
    (v : Value) (xs : List Value) (hown : RowZ w B e z v xs) (a : Addr) (c : Nat) (u : Value) (hu : w.cell? a = some u) (h1 : u.oneCell' = true)
    (h63 : xs.length + 1 ≤ maxLen) (hbytes : (xs.length + 1) * bytes ≤ 140737488355328) (hbase : B ≤ w.heap.size) :
    ∃ v' w', (Builtin.append_ #[t, t] ty #[v, .slice (some a) 1 c]).run P w = .ok v' w' ∧ RowZ w' B e z v' (xs ++ [u]) ∧ Kp (fun k => v.ownBlock = some k ∧ Roomy w e z k) w w' := by
  subst hby
  have hnews : ∀ j x, [u][j]? = some x → w.cell? (a.add j) = some x := by
    intro j x hx
    cases j with
    | zero => simp at hx; subst hx; simpa [Addr.add] using hu
    | succ j => simp at hx
  have hl : [u].length = 1 * i.size := by simp [hsize]
  have hsmall : xs.length + 1 ≤ 9223372036854775807 := by simp only [maxLen] at h63; omega
  have grown : ∀ (old : Nat), RowZ (w.drew.alloc (.cells (xs.toArray ++ [u].toArray ++ Builtin.zeroCells z.cells (grownCap w (xs.length + 1) old e - (xs.length + 1))) e)) B e z (.slice (some ⟨w.heap.size, 0, none⟩) (xs.length + 1) (grownCap w (xs.length + 1) old e)) (xs ++ [u]) := by
    intro old
    have hge := grownCap_ge w (xs.length + 1) old e
    refine .inr ⟨w.heap.size, grownCap w (xs.length + 1) old e, grownCap w (xs.length + 1) old e - (xs.length + 1), by simp, hbase, by simp; omega, grownCap_le_maxLen w _ old e h63, ?_⟩
    have hb := blk_new w.drew (.cells (xs.toArray ++ [u].toArray ++ Builtin.zeroCells z.cells (grownCap w (xs.length + 1) old e - (xs.length + 1))) e)
    refine Eq.trans hb ?_
    congr 2
    apply Array.toList_inj.1
    simp [zeros_one z _ hzs]
  have hnew : ∀ (o : Obj) (S : Nat → Prop), Kp S w (w.drew.alloc o) := fun o S => ((Kp.refl S w).drew).alloc o
  rcases hown with ⟨rfl, rfl⟩ | ⟨g, cap, k, rfl, hbg, hcap, hcm, hg⟩
  · have hr := run_append_nil (P := P) w t ty e i z ht hi hz a 1 c [u] hl hnews (by omega) (by omega) (by simp at hbytes; omega)
    have hgr := grown 0
    simp only [List.length_nil, Nat.zero_add, List.nil_append, Array.empty_append] at hgr ⊢
    exact ⟨_, _, hr, hgr, hnew _ _⟩
  · have hcs : ((xs ++ List.replicate k z).toArray).size = cap * i.size := by simp [hsize, hcap]
    by_cases hroom : xs.length + 1 ≤ cap
    · obtain ⟨m, rfl⟩ : ∃ m, k = m + 1 := ⟨k - 1, by omega⟩
      have hr := run_append_room (P := P) w t ty e i ht hi g xs.length cap _ hg a 1 c [u] hl hnews (by simpa using h1) hroom (by rw [hl, hcs, hsize]; omega)
      refine ⟨_, _, hr, .inr ⟨g, cap, m, by simp, hbg, by simp; omega, hcm, ?_⟩, ⟨rfl, rfl, rfl, by simp, fun j hj hs => setRow_other w g j _ (fun ej => hs ?_)⟩⟩
      · rw [setRow_heap w g _ _ e _ hg]
        congr 2
        apply congrArg
        simp only [hsize, Nat.mul_one, List.length_singleton]
        rw [List.take_left]
        simp [List.drop_append, List.replicate_succ]
      · subst ej
        exact ⟨rfl, xs ++ List.replicate m z, by rw [hg]; simp [List.replicate_succ']⟩
    · have holds : ∀ j x, xs[j]? = some x → w.cell? ((⟨g, 0, none⟩ : Addr).add j) = some x := by
        intro j x hx
        have hadd : (⟨g, 0, none⟩ : Addr).add j = ⟨g, j, none⟩ := by unfold Addr.add; split <;> simp_all
        rw [hadd, cell_blk hg]
        have : j < xs.length := (List.getElem?_eq_some_iff.1 hx).1
        rw [List.getElem?_toArray, List.getElem?_append_left this]; exact hx
      have hr := run_append_grow (P := P) w t ty e i z ht hi hz ⟨g, 0, none⟩ xs.length cap xs (by simp [hsize]) holds a 1 c [u] hl hnews (by omega) (by omega) (growslice_fits (by omega) hbytes)
      exact ⟨_, _, hr, by simpa using grown cap, hnew _ _⟩

theorem wpList_append_z {ops : Array Oper} {rest : List Oper} {o : Oper} {a : Act} {Q : Exit → Act → World → Prop} (hgd : o.guard = none) (s x : Operand) (t : TypeId)
    (ho : o.op = .call { callee := .builtin .append, args := #[s, x], argTypes := #[t, t] })
    (B : Nat) (e : TypeId) (i : TypeInfo) (z : Value) (bytes : Nat) (ht : P.underlying t = some (.slice e)) (hi : P.info? e = some i) (hz : i.zero = some z) (hsize : i.size = 1) (hby : i.bytes = bytes) (hzs : z.cells = #[z])
    (v : Value) (xs : List Value) (hs : a.eval s = v) (hown : RowZ w B e z v xs) (ad : Addr) (c : Nat) (u : Value) (hx : a.eval x = .slice (some ad) 1 c) (hu : w.cell? ad = some u) (h1 : u.oneCell' = true)
    (h63 : xs.length + 1 ≤ maxLen) (hbytes : (xs.length + 1) * bytes ≤ 140737488355328) (hbase : B ≤ w.heap.size)
    (h : ∀ v' w', RowZ w' B e z v' (xs ++ [u]) → Kp (fun k => v.ownBlock = some k ∧ Roomy w e z k) w w' → wpList P ops Q rest (a.put o.dst v') w') : wpList P ops Q (o :: rest) a w := by
  refine wpList_plain hgd fun K hK => ?_
  obtain ⟨v', w', hr, h2, h3⟩ := run_append_z (P := P) w B t o.type e i z bytes ht hi hz hsize hby hzs v xs hown ad c u hu h1 h63 hbytes hbase
  unfold Oper.wp execOp
  simp only [ho, resolve, invoke, builtin, Sem.run_bind, Sem.run_pure, Result.andThen_ok, List.map_toArray, List.map_cons, List.map_nil, hs, hx, hr]
  exact hK _ _ (h v' w' h2 h3)
end
end Go.Proofs.Ytkhcnneflcbnpaa
