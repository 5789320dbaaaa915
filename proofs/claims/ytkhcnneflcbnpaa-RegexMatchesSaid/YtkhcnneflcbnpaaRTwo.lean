/-
  What the makers of nodes of two do: their walks. Conditions: the nodes that are handed in stand in memory.
-/
import Derived.Test.YtkhcnneflcbnpaaRNode
namespace Go.Proofs.Ytkhcnneflcbnpaa
open Go.RowKit

def bin (k : Nat) : Rw → Rw → Rw := if k = 2 then .cat else .or

theorem mk_bin {w : World} {k r i j n : Nat} {x y : Rw} (hk : k = 2 ∨ k = 3) (h1 : w.heap[n]? = some (ndObj k W4.zero (sl2 r))) (h2 : w.heap[r]? = some (pairObj i j))
    (h3 : NodeAt w x i) (h4 : NodeAt w y j) : NodeAt w (bin k x y) n := by
  rcases hk with rfl | rfl
  · exact ⟨r, i, j, h1, h2, h3, h4⟩
  · exact ⟨r, i, j, h1, h2, h3, h4⟩

/-- two new blocks make a node of two -/
theorem new_bin {w : World} {k i j : Nat} {x y : Rw} (hk : k = 2 ∨ k = 3) (h3 : NodeAt w x i) (h4 : NodeAt w y j) :
    NodeAt ((w.alloc (pairObj i j)).alloc (ndObj k W4.zero (sl2 w.heap.size))) (bin k x y) (w.heap.size + 1) := by
  refine mk_bin hk ?_ (blk_alloc (blk_new w _) _) ((h3.alloc _).alloc _) ((h4.alloc _).alloc _)
  have := blk_new (w.alloc (pairObj i j)) (ndObj k W4.zero (sl2 w.heap.size))
  simpa using this

/-- a slice of pointers -/
def PtrsAt (w : World) (a : Option Addr) (qs : List Nat) : Prop := ∀ i, (hi : i < qs.length) → ∃ g : Nat, a = some ⟨g, 0, none⟩ ∧ w.cell? ⟨g, i, none⟩ = some (ptr qs[i])

theorem PtrsAt.kn {w w' : World} {a : Option Addr} {qs : List Nat} (h : PtrsAt w a qs) (hk : Kn w w') : PtrsAt w' a qs := fun i hi => by
  obtain ⟨g, h1, h2⟩ := h i hi
  refine ⟨g, h1, ?_⟩
  rw [World.cell?_of_block (w := w) (hk.block g (World.block_lt_of_cell? w _ h2) (fun x => x))]
  exact h2

theorem PtrsAt.of_own {w : World} {B : Nat} {e : TypeId} {v : Value} {qs : List Nat} (h : w.ownsRow B e 1 v qs.length (qs.map ptr)) : ∃ a c, v = .slice a qs.length c ∧ PtrsAt w a qs := by
  rcases h.2 with ⟨rfl, h0⟩ | ⟨g, cap, cur, rfl, _, hg, _, _, _, htake⟩
  · exact ⟨none, 0, by rw [h0], fun i hi => by omega⟩
  · refine ⟨_, _, rfl, fun i hi => ⟨g, rfl, ?_⟩⟩
    rw [cell_blk hg]
    have : (cur.toList.take (qs.length * 1))[i]? = (qs.map ptr)[i]? := by rw [htake]
    rw [List.getElem?_take, if_pos (by omega)] at this
    simpa [hi] using this

def botd (k : Nat) (z : Rw) (ts : List Rw) (j : Nat) : Rw := Re.two (bin k) z (ts.drop j)
theorem botd_last (k : Nat) (z : Rw) (ts : List Rw) (j : Nat) (h : j + 1 = ts.length) : botd k z ts j = ts[j]'(by omega) := by
  unfold botd
  rw [List.drop_eq_getElem_cons (by omega), List.drop_of_length_le (by omega)]; rfl
theorem botd_step (k : Nat) (z : Rw) (ts : List Rw) (j : Nat) (h : j + 1 < ts.length) : botd k z ts j = bin k (ts[j]'(by omega)) (botd k z ts (j + 1)) := by
  unfold botd
  rw [List.drop_eq_getElem_cons (by omega), List.drop_eq_getElem_cons h]; rfl

set_option maxHeartbeats 1000000 in
theorem two_c (k : Nat) (hk : k = 2 ∨ k = 3) (z : Rw) (zn : Nat) (ts : List Rw) (qs : List Nat) (a : Option Addr) (c : Nat) (w : World) (hz : NodeAt w z zn) (hrow : RowAt w ts qs)
    (hp : PtrsAt w a qs) (hm : qs.length ≤ 9223372036854775807) :
    Calls Try.prog 27 #[.int .i64 k, ptr zn, .slice a qs.length c] w fun e w' => ∃ q : Nat, e = .returned (ptr q) ∧ NodeAt w' (Re.two (bin k) z ts) q ∧ Kn w w' := by
  have hlen := Lib.hid hrow.len
  have hp' := Lib.hid hp
  clear hp
  go_enter Try.func27, Try.ntmps27
  go_wp2_with fail
  go_loop [13] (fun i => ∃ k : Nat, k ≤ qs.length ∧ i = .int .i64 k) (fun i => qs.length - (intOf i).toNat)
  case atStart => exact ⟨0, Nat.zero_le _, rfl⟩
  case round =>
    obtain ⟨i, hi, rfl⟩ := hrel
    by_cases hlt : i < qs.length
    · obtain ⟨g, rfl, hc⟩ := hp'.out i hlt
      go_wp2_with fail
      go_round
      case rel => exact ⟨i + 1, by omega, by go_num⟩
      case measure => simp [intOf]; omega
    · by_cases h0 : qs.length = 0
      · have h0' : ((qs.length : Int) == 0) = true := by simp [h0]
        have hts : Hid (ts = []) := Lib.hid (List.eq_nil_of_length_eq_zero (by have := hlen.out; omega))
        clear h0
        go_wp2_with fail
        go_ret
        refine ⟨zn, rfl, ?_, Kp.refl _ _⟩
        rw [hts.out]; exact hz
      · have h0' : ((qs.length : Int) == 0) = false := by simp [h0]
        have hn1 : 1 ≤ qs.length := by omega
        clear h0
        obtain ⟨g, rfl, hc⟩ := hp'.out (qs.length - 1) (by omega)
        have hnl := hrow.get (qs.length - 1) (by have := hlen.out; omega) (by omega)
        have hbl := botd_last k z ts (qs.length - 1) (by have := hlen.out; omega)
        rw [← hbl] at hnl
        clear hbl
        have hb0 : Hid (botd k z ts 0 = Re.two (bin k) z ts) := Lib.hid (by simp [botd])
        go_wp2_with fail
        go_loopw [9, 10] (fun o i wr => ∃ (j q : Nat), j + 1 ≤ qs.length ∧ i = .int .i64 ((j : Int) - 1) ∧ o = ptr q ∧ NodeAt wr (botd k z ts j) q ∧ Kn w wr) (fun _ i _ => (intOf i + 1).toNat)
        case atStart => exact ⟨qs.length - 1, _, by omega, by congr 1; omega, rfl, hnl, Kp.refl _ _⟩
        case round =>
          obtain ⟨j, q, hj, rfl, rfl, hq, hkn⟩ := hrel
          by_cases hj0 : j = 0
          · subst hj0
            go_wp2_with fail
            go_ret
            refine ⟨q, rfl, ?_, hkn⟩
            rw [← hb0.out]; exact hq
          · obtain ⟨j, rfl⟩ : ∃ m, j = m + 1 := ⟨j - 1, by omega⟩
            obtain ⟨g', hg, hcj⟩ := (hp'.out.kn hkn) j (by omega)
            injection hg with hg; injection hg with hg; subst hg
            have hnj := (hrow.get j (by have := hlen.out; omega) (by omega)).kn hkn
            have hst := Lib.hid (botd_step k z ts j (by have := hlen.out; omega))
            have hnb := new_bin hk hnj hq
            rw [← hst.out] at hnb
            have e1 : ((j + 1 : Nat) : Int) - 1 = j := by omega
            rw [e1]
            clear e1
            go_wp2_with fail
            go_roundw
            case rel => exact ⟨j, wr.heap.size + 1, by omega, rfl, rfl, hnb, (hkn.alloc _).alloc _⟩
            case measure => simp [intOf]

/-- a pointer that may be nil -/
abbrev optr : Option Nat → Value
  | none => .pointer none
  | some n => ptr n
def OptrsAt (w : World) (a : Option Addr) (qs : List (Option Nat)) : Prop := ∀ i, (hi : i < qs.length) → ∃ g : Nat, a = some ⟨g, 0, none⟩ ∧ w.cell? ⟨g, i, none⟩ = some (optr qs[i])

theorem OptrsAt.kn {w w' : World} {a : Option Addr} {qs : List (Option Nat)} (h : OptrsAt w a qs) (hk : Kn w w') : OptrsAt w' a qs := fun i hi => by
  obtain ⟨g, h1, h2⟩ := h i hi
  refine ⟨g, h1, ?_⟩
  rw [World.cell?_of_block (w := w) (hk.block g (World.block_lt_of_cell? w _ h2) (fun x => x))]
  exact h2

set_option maxHeartbeats 1000000 in
theorem two_nil (k : Int) (z : Value) (qs : List (Option Nat)) (a : Option Addr) (c : Nat) (w : World) (hp : OptrsAt w a qs) (hm : qs.length ≤ 9223372036854775807) (j : Nat) (hj : j < qs.length) (hn : qs[j] = none) :
    Calls Try.prog 27 #[.int .i64 k, z, .slice a qs.length c] w fun e w' => e = .returned (.pointer none) ∧ w = w' := by
  have hp' := Lib.hid hp
  have hn' := Lib.hid hn
  clear hp hn
  go_enter Try.func27, Try.ntmps27
  go_wp2_with fail
  go_loop [13] (fun i => ∃ k : Nat, k ≤ j ∧ i = .int .i64 k) (fun i => qs.length - (intOf i).toNat)
  case atStart => exact ⟨0, Nat.zero_le _, rfl⟩
  case round =>
    obtain ⟨i, hi, rfl⟩ := hrel
    have hlt : i < qs.length := by omega
    obtain ⟨g, rfl, hc⟩ := hp'.out i hlt
    cases hq : qs[i] with
    | none =>
      rw [hq] at hc
      clear hq
      go_wp2_with fail
      go_ret
      exact ⟨rfl, rfl⟩
    | some q =>
      have hij : i < j := by
        rcases Nat.lt_or_ge i j with h | h
        · exact h
        · have : i = j := by omega
          subst this
          rw [hn'.out] at hq; cases hq
      rw [hq] at hc
      clear hq
      go_wp2_with fail
      go_round
      case rel => exact ⟨i + 1, by omega, by go_num⟩
      case measure => simp [intOf]; omega

set_option maxHeartbeats 400000 in
theorem Cat_c (ts : List Rw) (qs : List Nat) (a : Option Addr) (c : Nat) (w : World) (hrow : RowAt w ts qs) (hp : PtrsAt w a qs) (hm : qs.length ≤ 9223372036854775807) :
    Calls Try.prog 13 #[.slice a qs.length c] w fun e w' => ∃ q : Nat, e = .returned (ptr q) ∧ NodeAt w' (Re.two .cat .empty ts) q ∧ Kn w w' := by
  have hk : Kn w (w.alloc (ndObj 1 W4.zero sl0)) := (Kp.refl _ w).alloc _
  have hz : NodeAt (w.alloc (ndObj 1 W4.zero sl0)) .empty w.heap.size := blk_new w _
  have hr := hrow.kn hk
  have hp1 := hp.kn hk
  have H := Lib.hid hp1
  clear hp hp1
  go_enter Try.func13, Try.ntmps13
  go_wp2_with fail
  refine (Empty_c w).mono ?_
  rintro e w' ⟨rfl, rfl⟩
  go_wp2_with fail
  refine (two_c 2 (.inl rfl) .empty _ ts qs a c _ hz hr H.out hm).mono ?_
  rintro e w' ⟨q, rfl, h1, h2⟩
  go_wp2_with fail
  go_ret
  exact ⟨q, rfl, h1, hk.trans h2⟩

set_option maxHeartbeats 400000 in
theorem Cat_nil (qs : List (Option Nat)) (a : Option Addr) (c : Nat) (w : World) (hp0 : OptrsAt w a qs) (hm : qs.length ≤ 9223372036854775807) (j : Nat) (hj : j < qs.length) (hn : qs[j] = none) :
    Calls Try.prog 13 #[.slice a qs.length c] w fun e w' => e = .returned (.pointer none) ∧ Kn w w' := by
  have hk : Kn w (w.alloc (ndObj 1 W4.zero sl0)) := (Kp.refl _ w).alloc _
  have H := Lib.hid (hp0.kn hk)
  clear hp0
  have hn' := Lib.hid hn
  clear hn
  go_enter Try.func13, Try.ntmps13
  go_wp2_with fail
  refine (Empty_c w).mono ?_
  rintro e w' ⟨rfl, rfl⟩
  go_wp2_with fail
  refine (two_nil 2 _ qs a c _ H.out hm j hj hn'.out).mono ?_
  rintro e w' ⟨rfl, rfl⟩
  go_wp2_with fail
  go_ret
  exact ⟨rfl, hk⟩

theorem zero_at (w : World) : NodeAt ((w.alloc (.cells #[.int .u64 W4.zero.a, .int .u64 W4.zero.b, .int .u64 W4.zero.c, .int .u64 W4.zero.d] 41)).alloc (ndObj 0 W4.zero sl0)) Rw.none (w.heap.size + 1) := by
  refine ⟨by unfold W4.ok W4.zero; simp, ?_⟩
  have := blk_new (w.alloc (.cells #[.int .u64 W4.zero.a, .int .u64 W4.zero.b, .int .u64 W4.zero.c, .int .u64 W4.zero.d] 41)) (ndObj 0 W4.zero sl0)
  simpa using this

/-- the set of no bytes, by a contract of its own -/
theorem SetZero_c (w : World) :
    Calls Try.prog 17 #[.agg #[.int .u64 0, .int .u64 0, .int .u64 0, .int .u64 0]] w fun e w' => ∃ q : Nat, e = .returned (ptr q) ∧ NodeAt w' Rw.none q ∧ Kn w w' :=
  (Set_c W4.zero w).mono fun _ _ ⟨he, hw⟩ => ⟨_, he, by rw [hw]; exact zero_at w, by rw [hw]; exact ((Kp.refl _ w).alloc _).alloc _⟩

set_option maxHeartbeats 400000 in
theorem Or_c (ts : List Rw) (qs : List Nat) (a : Option Addr) (c : Nat) (w : World) (hrow : RowAt w ts qs) (hp : PtrsAt w a qs) (hm : qs.length ≤ 9223372036854775807) :
    Calls Try.prog 14 #[.slice a qs.length c] w fun e w' => ∃ q : Nat, e = .returned (ptr q) ∧ NodeAt w' (Re.two .or Rw.none ts) q ∧ Kn w w' := by
  have H := Lib.hid hp
  clear hp
  go_enter Try.func14, Try.ntmps14
  go_wp2_with fail
  refine (SetZero_c _).mono ?_
  rintro e w1 ⟨z, rfl, hz, hk⟩
  go_wp2_with fail
  refine (two_c 3 (.inr rfl) Rw.none _ ts qs a c _ hz (hrow.kn hk) (H.out.kn hk) hm).mono ?_
  rintro e w2 ⟨q, rfl, h1, h2⟩
  go_wp2_with fail
  go_ret
  exact ⟨q, rfl, h1, hk.trans h2⟩

set_option maxHeartbeats 400000 in
theorem Or_nil (qs : List (Option Nat)) (a : Option Addr) (c : Nat) (w : World) (hp : OptrsAt w a qs) (hm : qs.length ≤ 9223372036854775807) (j : Nat) (hj : j < qs.length) (hn : qs[j] = none) :
    Calls Try.prog 14 #[.slice a qs.length c] w fun e w' => e = .returned (.pointer none) ∧ Kn w w' := by
  have H := Lib.hid hp
  have hn' := Lib.hid hn
  clear hp hn
  go_enter Try.func14, Try.ntmps14
  go_wp2_with fail
  refine (SetZero_c _).mono ?_
  rintro e w1 ⟨z, rfl, hz, hk⟩
  go_wp2_with fail
  refine (two_nil 3 _ qs a c _ (H.out.kn hk) hm j hj hn'.out).mono ?_
  rintro e w' ⟨rfl, rfl⟩
  go_wp2_with fail
  go_ret
  exact ⟨rfl, hk⟩
end Go.Proofs.Ytkhcnneflcbnpaa
