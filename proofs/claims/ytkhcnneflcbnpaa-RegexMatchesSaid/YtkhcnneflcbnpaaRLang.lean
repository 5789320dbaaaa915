/-
  What stands behind a byte, and whether an expression means a text: the walks. Conditions: the nodes that are handed in stand in memory.
-/
import Derived.Test.YtkhcnneflcbnpaaRTwo
import Derived.Test.YtkhcnneflcbnpaaKEq
namespace Go.Proofs.Ytkhcnneflcbnpaa
open Go.RowKit

set_option maxHeartbeats 400000 in
theorem Nullable_nil (w : World) :
    Calls Try.prog 11 #[.pointer none] w fun e w' => e = .returned (.bool false) ∧ w = w' := by
  go_enter Try.func11, Try.ntmps11
  go_wp2_with fail
  refine (Kind_nil w).mono ?_
  rintro e w' ⟨rfl, rfl⟩
  go_wp2_with fail
  go_ret
  exact ⟨rfl, rfl⟩

/-- the cells of a node's block, one by one -/
theorem nd_cells {w : World} {n : Nat} {k : Int} {s : W4} {sl : Value} (h : w.heap[n]? = some (ndObj k s sl)) :
    w.cell? ⟨n, 0, none⟩ = some (.int .i64 k) ∧ w.cell? ⟨n, 1, none⟩ = some (.int .u64 s.a) ∧ w.cell? ⟨n, 2, none⟩ = some (.int .u64 s.b) ∧ w.cell? ⟨n, 3, none⟩ = some (.int .u64 s.c) ∧ w.cell? ⟨n, 4, none⟩ = some (.int .u64 s.d) ∧
    w.cell? ⟨n, 5, none⟩ = some sl := ⟨cell_blk h 0, cell_blk h 1, cell_blk h 2, cell_blk h 3, cell_blk h 4, cell_blk h 5⟩
theorem pair_cells {w : World} {r i j : Nat} (h : w.heap[r]? = some (pairObj i j)) : w.cell? ⟨r, 0, none⟩ = some (ptr i) ∧ w.cell? ⟨r, 1, none⟩ = some (ptr j) := ⟨cell_blk h 0, cell_blk h 1⟩
theorem lone_cells {w : World} {r i : Nat} (h : w.heap[r]? = some (loneObj i)) : w.cell? ⟨r, 0, none⟩ = some (ptr i) := cell_blk h 0

set_option maxHeartbeats 400000 in
theorem Nullable_c : ∀ (t : Rw) (n : Nat) (w : World), NodeAt w t n →
    Calls Try.prog 11 #[ptr n] w fun e w' => e = .returned (.bool t.nullable) ∧ w = w' := by
  intro t
  induction t with
  | set s =>
    intro n w h
    go_enter Try.func11, Try.ntmps11
    go_wp2_with fail
    refine (Kind_c _ n w h).mono ?_
    rintro e w' ⟨rfl, rfl⟩
    simp only [Re.kind]
    go_wp2_with fail
    go_ret
    exact ⟨rfl, rfl⟩
  | empty =>
    intro n w h
    go_enter Try.func11, Try.ntmps11
    go_wp2_with fail
    refine (Kind_c _ n w h).mono ?_
    rintro e w' ⟨rfl, rfl⟩
    simp only [Re.kind]
    go_wp2_with fail
    go_ret
    exact ⟨rfl, rfl⟩
  | star x ih =>
    intro n w h
    clear ih
    go_enter Try.func11, Try.ntmps11
    go_wp2_with fail
    refine (Kind_c _ n w h).mono ?_
    rintro e w' ⟨rfl, rfl⟩
    simp only [Re.kind]
    go_wp2_with fail
    go_ret
    exact ⟨rfl, rfl⟩
  | cat x y ihx ihy =>
    intro n w h
    have IX := Lib.hid ihx
    have IY := Lib.hid ihy
    clear ihx ihy
    obtain ⟨r, i, j, h1, h2, h3, h4⟩ := id h
    obtain ⟨c0, _, _, _, _, c5⟩ := nd_cells h1
    obtain ⟨d0, d1⟩ := pair_cells h2
    clear h1 h2
    have hE : Hid ((Re.cat x y).nullable = (x.nullable && y.nullable)) := Lib.hid rfl
    go_enter Try.func11, Try.ntmps11
    go_wp2_with fail
    refine (Kind_c _ n w h).mono ?_
    rintro e w' ⟨rfl, rfl⟩
    simp only [Re.kind]
    go_wp2_with fail
    refine (IX.out i w h3).mono ?_
    rintro e w' ⟨rfl, rfl⟩
    cases hx : x.nullable with
    | false =>
      have hx' := Lib.hid hx
      clear hx
      go_wp2_with fail
      go_ret
      exact ⟨by rw [hE.out, hx'.out]; rfl, rfl⟩
    | true =>
      have hx' := Lib.hid hx
      clear hx
      go_wp2_with fail
      refine (IY.out j w h4).mono ?_
      rintro e w' ⟨rfl, rfl⟩
      go_wp2_with fail
      go_ret
      exact ⟨by rw [hE.out, hx'.out]; simp, rfl⟩
  | or x y ihx ihy =>
    intro n w h
    have IX := Lib.hid ihx
    have IY := Lib.hid ihy
    clear ihx ihy
    obtain ⟨r, i, j, h1, h2, h3, h4⟩ := id h
    obtain ⟨c0, _, _, _, _, c5⟩ := nd_cells h1
    obtain ⟨d0, d1⟩ := pair_cells h2
    clear h1 h2
    have hE : Hid ((Re.or x y).nullable = (x.nullable || y.nullable)) := Lib.hid rfl
    go_enter Try.func11, Try.ntmps11
    go_wp2_with fail
    refine (Kind_c _ n w h).mono ?_
    rintro e w' ⟨rfl, rfl⟩
    simp only [Re.kind]
    go_wp2_with fail
    refine (IX.out i w h3).mono ?_
    rintro e w' ⟨rfl, rfl⟩
    cases hx : x.nullable with
    | true =>
      have hx' := Lib.hid hx
      clear hx
      go_wp2_with fail
      go_ret
      exact ⟨by rw [hE.out, hx'.out]; rfl, rfl⟩
    | false =>
      have hx' := Lib.hid hx
      clear hx
      go_wp2_with fail
      refine (IY.out j w h4).mono ?_
      rintro e w' ⟨rfl, rfl⟩
      go_wp2_with fail
      go_ret
      exact ⟨by rw [hE.out, hx'.out]; simp, rfl⟩

/-- are two sets of four words the same? -/
def eqW (a b c d a' b' c' d' : Int) : Bool := decide (a = a' ∧ b = b' ∧ c = c' ∧ d = d')

theorem eqW_words (s t : W4) : eqW s.a s.b s.c s.d t.a t.b t.c t.d = decide (s = t) := by
  cases s; cases t; rw [Bool.eq_iff_iff]; simp [eqW]

theorem eq4 (a b c d a' b' c' d' : Int) (w : World) :
    (Op.equalIn 10000 41 (.agg #[.int .u64 a, .int .u64 b, .int .u64 c, .int .u64 d]) (.agg #[.int .u64 a', .int .u64 b', .int .u64 c', .int .u64 d'])).run Try.prog w =
      .ok (eqW a b c d a' b' c' d') w := by
  have h := run_equalIn_ints (P := Try.prog) 9998 (t := 41) (e := 40) (n := 4) (k := .u64) Try.underlying41 Try.underlying40 (fun _ => by kernel_rfl) [a, b, c, d] [a', b', c', d'] rfl rfl w
  refine h.trans ?_
  congr 1
  rw [Bool.eq_iff_iff]
  simp [eqW]

theorem guard4 : Try.prog.eqGuardType Try.prog.depth 41 = false := by kernel_rfl

set_option maxHeartbeats 400000 in
theorem nothing_c (t : Rw) (n : Nat) (w : World) (h : NodeAt w t n) :
    Calls Try.prog 40 #[ptr n] w fun e w' => e = .returned (.bool t.nothing) ∧ w = w' := by
  obtain ⟨sa, qs, hb, _⟩ := h.look
  obtain ⟨c0, c1, c2, c3, c4, c5⟩ := nd_cells hb
  clear hb
  have g4 := guard4
  have e4 := eq4
  by_cases hk : t.kind = 0
  · have hr : Hid (t.nothing = decide (t.words = W4.zero)) := Lib.hid (by
      cases t with
      | set s => exact decide_eq_decide.2 (by simp [Rw.none, Rw.words])
      | _ => simp [Re.kind] at hk)
    have hk' : ((t.kind : Int) == 0) = true := by simp [hk]
    clear hk
    go_enter Try.func40, Try.ntmps40
    go_wp2_with fail
    go_ret
    refine ⟨?_, rfl⟩
    rw [hr.out, ← eqW_words]; rfl
  · have hr : Hid (t.nothing = false) := Lib.hid (by cases t <;> simp_all [Re.kind, Rw.nothing, Rw.none])
    have hk' : ((t.kind : Int) == 0) = false := by simp; omega
    clear hk
    go_enter Try.func40, Try.ntmps40
    go_wp2_with fail
    go_ret
    exact ⟨by rw [hr.out]; rfl, rfl⟩

theorem NodeAt.inj {w : World} {t u : Rw} {n : Nat} (h : NodeAt w t n) (h' : NodeAt w u n) : t = u := by
  induction t generalizing u n with
  | set s =>
    cases u with
    | set s' =>
      have := h.2.symm.trans h'.2
      cases s; cases s'
      simp at this
      simp [this]
    | empty => have := h.2.symm.trans h'; simp at this
    | cat x y => obtain ⟨_, _, _, h1, _⟩ := h'; have := h.2.symm.trans h1; simp at this
    | or x y => obtain ⟨_, _, _, h1, _⟩ := h'; have := h.2.symm.trans h1; simp at this
    | star x => obtain ⟨_, _, h1, _⟩ := h'; have := h.2.symm.trans h1; simp at this
  | empty =>
    cases u with
    | set s' => have := h.symm.trans h'.2; simp at this
    | empty => rfl
    | cat x y => obtain ⟨_, _, _, h1, _⟩ := h'; have := h.symm.trans h1; simp at this
    | or x y => obtain ⟨_, _, _, h1, _⟩ := h'; have := h.symm.trans h1; simp at this
    | star x => obtain ⟨_, _, h1, _⟩ := h'; have := h.symm.trans h1; simp at this
  | cat x y hx hy =>
    obtain ⟨r, i, j, h1, h2, h3, h4⟩ := h
    cases u with
    | set s' => have := h1.symm.trans h'.2; simp at this
    | empty => have := h1.symm.trans h'; simp at this
    | cat x' y' =>
      obtain ⟨r', i', j', h1', h2', h3', h4'⟩ := h'
      have e := h1.symm.trans h1'; simp at e; subst e
      have e := h2.symm.trans h2'; simp at e; obtain ⟨rfl, rfl⟩ := e
      rw [hx h3 h3', hy h4 h4']
    | or x' y' => obtain ⟨_, _, _, h1', _⟩ := h'; have := h1.symm.trans h1'; simp at this
    | star x' => obtain ⟨_, _, h1', _⟩ := h'; have := h1.symm.trans h1'; simp at this
  | or x y hx hy =>
    obtain ⟨r, i, j, h1, h2, h3, h4⟩ := h
    cases u with
    | set s' => have := h1.symm.trans h'.2; simp at this
    | empty => have := h1.symm.trans h'; simp at this
    | or x' y' =>
      obtain ⟨r', i', j', h1', h2', h3', h4'⟩ := h'
      have e := h1.symm.trans h1'; simp at e; subst e
      have e := h2.symm.trans h2'; simp at e; obtain ⟨rfl, rfl⟩ := e
      rw [hx h3 h3', hy h4 h4']
    | cat x' y' => obtain ⟨_, _, _, h1', _⟩ := h'; have := h1.symm.trans h1'; simp at this
    | star x' => obtain ⟨_, _, h1', _⟩ := h'; have := h1.symm.trans h1'; simp at this
  | star x hx =>
    obtain ⟨r, i, h1, h2, h3⟩ := h
    cases u with
    | set s' => have := h1.symm.trans h'.2; simp at this
    | empty => have := h1.symm.trans h'; simp at this
    | cat x' y' => obtain ⟨_, _, _, h1', _⟩ := h'; have := h1.symm.trans h1'; simp at this
    | or x' y' => obtain ⟨_, _, _, h1', _⟩ := h'; have := h1.symm.trans h1'; simp at this
    | star x' =>
      obtain ⟨r', i', h1', h2', h3'⟩ := h'
      have e := h1.symm.trans h1'; simp at e; subst e
      have e := h2.symm.trans h2'; simp at e; subst e
      rw [hx h3 h3']

theorem kind_parts {t u : Rw} (hk : t.kind = u.kind) (hw : t.words = u.words) (hp : t.parts = u.parts) : t = u := by
  cases t <;> cases u <;> simp_all [Re.kind, Rw.words, Re.parts]

theorem info_node : ∃ j : TypeInfo, j.size = 6 ∧ Try.prog.info? 61 = some j := by
  cases h : Try.prog.info? 61 with
  | none =>
    have h0 : (Try.prog.info? 61).isSome = true := by kernel_rfl
    rw [h] at h0; cases h0
  | some j =>
    have h0 : (Try.prog.info? 61).map (·.size) = some 6 := by kernel_rfl
    rw [h] at h0
    exact ⟨j, by simpa using h0, rfl⟩

set_option maxHeartbeats 1000000 in
theorem same_c : ∀ (m : Nat) (t u : Rw) (n k : Nat) (w : World), t.size = m → NodeAt w t n → NodeAt w u k →
    Calls Try.prog 41 #[ptr n, ptr k] w fun e w' => e = .returned (.bool (decide (t = u))) ∧ ∃ q, w' = w.drewN q := by
  intro m
  induction m using Nat.strongRecOn with
  | _ m ih =>
    intro t u n k w hm h h'
    have IH := Lib.hid ih
    have hM := Lib.hid hm
    clear ih hm
    obtain ⟨sa, qs, hb, hrow, hcs, hle⟩ := h.look
    obtain ⟨c0, c1, c2, c3, c4, c5⟩ := nd_cells hb
    obtain ⟨sa', qs', hb', hrow', hcs', hle'⟩ := h'.look
    obtain ⟨d0, d1, d2, d3, d4, d5⟩ := nd_cells hb'
    clear hb hb'
    have HC := Lib.hid hcs
    have HC' := Lib.hid hcs'
    clear hcs hcs'
    have g4 := guard4
    have e4 := eq4
    by_cases hnk : n = k
    · subst hnk
      have := h.inj h'
      subst this
      have heq : (binOp .eql 23 (ptr n) (ptr n)).run Try.prog w = .ok (.bool true) w := by
        obtain ⟨j, hj1, hj2⟩ := info_node
        exact run_eql_ptr_same w ⟨n, 0, none⟩ Try.underlying23 hj2
      go_enter Try.func41, Try.ntmps41
      go_wp2_with fail
      go_ret
      exact ⟨by simp, 0, rfl⟩
    · have heq : (binOp .eql 23 (ptr n) (ptr k)).run Try.prog w = .ok (.bool false) w := by
        obtain ⟨_, _, hb, _⟩ := h.look
        obtain ⟨_, _, hb', _⟩ := h'.look
        obtain ⟨j, hj1, hj2⟩ := info_node
        exact run_eql_ptr_other w Try.underlying23 hj2 (by rw [hj1]; decide) (by simp [hnk]) hb hb'
      have hnk' := Lib.hid hnk
      clear hnk
      by_cases hk : t.kind = u.kind
      · have hpl : t.parts.length = u.parts.length := by cases t <;> cases u <;> simp_all [Re.kind, Re.parts]
        have hll : Hid (qs.length = qs'.length) := Lib.hid (by rw [← hrow.len, ← hrow'.len, hpl])
        have hl1 : ((qs.length : Int) != qs'.length) = false := by rw [hll.out]; simp
        have hk1 : ((t.kind : Int) != u.kind) = false := by rw [hk]; simp
        have hK := Lib.hid hk
        clear hk hpl
        cases hw : eqW t.words.a t.words.b t.words.c t.words.d u.words.a u.words.b u.words.c u.words.d with
        | false =>
          have hr : Hid (decide (t = u) = false) := Lib.hid (by
            rw [eqW_words] at hw
            simp only [decide_eq_false_iff_not] at hw ⊢
            rintro rfl; exact hw rfl)
          go_enter Try.func41, Try.ntmps41
          go_wp2_with fail
          go_quiet (fail)
          go_wp2_with fail
          go_ret
          exact ⟨by rw [hr.out]; rfl, _, rfl⟩
        | true =>
          have hW : Hid (t.words = u.words) := Lib.hid (by rw [eqW_words] at hw; simpa using hw)
          have hlen := Lib.hid hrow.len
          have hlen' := Lib.hid hrow'.len
          go_enter Try.func41, Try.ntmps41
          go_wp2_with fail
          go_quiet (fail)
          clear hw hl1 hk1 heq e4 g4
          go_wp2_with fail
          go_loopw [47] (fun i wr => ∃ j : Nat, j ≤ qs.length ∧ i = .int .i64 j ∧ Hid (t.parts.take j = u.parts.take j) ∧ ∃ q, wr = w.drewN q) (fun i _ => qs.length - (intOf i).toNat)
          case atStart => exact ⟨0, Nat.zero_le _, rfl, Lib.hid (by simp), _, rfl⟩
          case round =>
            obtain ⟨j, hj, rfl, htk, q, rfl⟩ := hrel
            by_cases hlt : j < qs.length
            · have hlt' : j < qs'.length := by have := hll.out; omega
              obtain ⟨r, rfl, x1⟩ := HC.out j hlt
              obtain ⟨r', rfl, x2⟩ := HC'.out j hlt'
              have hj1 : j < t.parts.length := by have := hlen.out; omega
              have hj2 : j < u.parts.length := by have := hlen'.out; omega
              have hn1 := hrow.get j hj1 hlt
              have hn2 := hrow'.get j hj2 hlt'
              have hsz := parts_size t j hj1
              cases hd : decide (t.parts[j] = u.parts[j]) with
              | false =>
                have hr : Hid (decide (t = u) = false) := Lib.hid (by
                  simp only [decide_eq_false_iff_not] at hd ⊢
                  rintro rfl; exact hd rfl)
                have hc : ∀ q', Calls Try.prog 41 #[ptr qs[j], ptr qs'[j]] (w.drewN q') fun e w' => e = .returned (.bool false) ∧ ∃ m, w' = (w.drewN q').drewN m :=
                  fun q' => (IH.out _ (by have := hM.out; omega) _ _ _ _ _ rfl (hn1.drewN q') (hn2.drewN q')).mono fun e w' h => ⟨by rw [h.1, hd], h.2⟩
                have HX := Lib.hid hc
                clear hd hc
                go_wp2_with fail
                go_quiet ((go_at_call 41; exact quiet_add (HX.out _)))
                go_wp2_with fail
                go_ret
                exact ⟨by rw [hr.out]; rfl, _, World.drewN_drewN ..⟩
              | true =>
                have htk' : Hid (t.parts.take (j + 1) = u.parts.take (j + 1)) := Lib.hid (by
                  rw [List.take_succ_eq_append_getElem hj1, List.take_succ_eq_append_getElem hj2, htk.out, of_decide_eq_true hd])
                have hc : ∀ q', Calls Try.prog 41 #[ptr qs[j], ptr qs'[j]] (w.drewN q') fun e w' => e = .returned (.bool true) ∧ ∃ m, w' = (w.drewN q').drewN m :=
                  fun q' => (IH.out _ (by have := hM.out; omega) _ _ _ _ _ rfl (hn1.drewN q') (hn2.drewN q')).mono fun e w' h => ⟨by rw [h.1, hd], h.2⟩
                have HX := Lib.hid hc
                clear hd hc
                go_wp2_with fail
                go_quiet ((go_at_call 41; exact quiet_add (HX.out _)))
                go_wp2_with fail
                go_roundw
                case rel => exact ⟨j + 1, by omega, by go_num, htk', _, rfl⟩
                case measure => simp [intOf]; omega
            · have hr : Hid (decide (t = u) = true) := Lib.hid (by
                have h1 := htk.out
                have h2 := hlen.out
                have h3 := hlen'.out
                have h4 := hll.out
                rw [List.take_of_length_le (by omega), List.take_of_length_le (by omega)] at h1
                exact decide_eq_true (kind_parts hK.out hW.out h1))
              go_wp2_with fail
              go_ret
              exact ⟨by rw [hr.out]; rfl, _, rfl⟩
      · have hk1 : ((t.kind : Int) != u.kind) = true := by simp; omega
        have hr : Hid (decide (t = u) = false) := Lib.hid (by
          simp only [decide_eq_false_iff_not]
          rintro rfl; exact hk rfl)
        clear hk
        go_enter Try.func41, Try.ntmps41
        go_wp2_with fail
        go_quiet (fail)
        go_wp2_with fail
        go_ret
        exact ⟨by rw [hr.out]; rfl, _, rfl⟩

end Go.Proofs.Ytkhcnneflcbnpaa
