/-
  Literals, and the document's example: the walks. Conditions: the texts' lengths stand in each law.
-/
import Derived.Test.YtkhcnneflcbnpaaPOr
namespace Go.Proofs.Ytkhcnneflcbnpaa
open Go.RowKit

def litL (s : ByteArray) : List Rw := (bts s).map (fun b => .set (W4.one b))
def litT (s : ByteArray) : Rw := Re.two .cat .empty (litL s)
theorem litL_take (s : ByteArray) (k : Nat) (h : k < s.size) : (litL s).take (k + 1) = (litL s).take k ++ [.set (W4.one s[k].toNat)] := by
  unfold litL
  rw [← List.map_take, bts_take s k h, List.map_append, ← List.map_take]; rfl
theorem litL_all (s : ByteArray) (k : Nat) (h : s.size ≤ k) : (litL s).take k = litL s := by
  rw [List.take_of_length_le]; simp [litL, bts_len]; exact h

theorem One_c (b : Nat) (hb : b < 256) (w : World) :
    Calls Try.prog 28 #[.int .u8 b] w fun e w' => e = .returned (.agg (wordsV (W4.one b))) ∧ Kn w w' := one_c b hb w

abbrev pairV (a : Value) (e : Int) : Value := .tuple #[a, .int .i64 e]

set_option maxHeartbeats 1000000 in
theorem Literal_long (s : ByteArray) (w : World) (hs : 200 < s.size) (hm : s.size ≤ 9223372036854775807) :
    Calls Try.prog 18 #[.string s] w fun e w' => e = .returned (pairV (.pointer none) 3) ∧ w = w' := by
  have hs' : (200 : Int) < s.size := by omega
  go_enter Try.func18, Try.ntmps18
  go_wp2_with fail
  go_ret2
  exact ⟨rfl, rfl⟩

set_option maxHeartbeats 1000000 in
theorem Literal_c (s : ByteArray) (w : World) (hs : s.size ≤ 200) :
    Calls Try.prog 18 #[.string s] w fun e w' => ∃ q : Nat, e = .returned (pairV (ptr q) 0) ∧ NodeAt w' (litT s) q ∧ Kn w w' := by
  have hs' : ¬ (200 : Int) < s.size := by omega
  obtain ⟨i0, hi, hz0, hz1, hz2⟩ := info_parts info_ptr
  have HI := Lib.hid (And.intro hi (And.intro hz0 (And.intro hz1 hz2)))
  clear hi hz0 hz1 hz2
  go_enter Try.func18, Try.ntmps18
  go_wp2_with fail
  go_loopw [4, 11] (fun v9 i wr => ∃ (v : Value) (qs : List Nat) (k : Nat), v = v9 ∧ k ≤ s.size ∧ i = .int .i64 k ∧ RowN wr w.heap.size v qs ∧ RowAt wr ((litL s).take k) qs ∧ qs.length ≤ k ∧ Kn w wr) (fun _ i _ => s.size - (intOf i).toNat)
  case atStart => exact ⟨_, [], 0, rfl, Nat.zero_le _, rfl, .inl ⟨rfl, rfl⟩, .nil, by simp, Kp.refl _ _⟩
  case round =>
    obtain ⟨v, qs, k, rfl, hk, rfl, hrow, hts, hql, hkn⟩ := hrel
    have HROW := Lib.hid hrow
    clear hrow
    by_cases hlt : k < s.size
    · have hb : s[k].toNat < 256 := s[k].toNat_lt
      have hst := Lib.hid (litL_take s k hlt)
      go_wp2_with fail
      refine (One_c s[k].toNat hb wr).mono ?_
      rintro e w1 ⟨rfl, hk1⟩
      have hok := one_ok s[k].toNat
      generalize hws : W4.one s[k].toNat = ws at *
      have hWS := Lib.hid hws
      clear hws
      go_wp2_with fail
      refine (SetOf_c ws hok w1).mono ?_
      rintro e w2 ⟨q, rfl, hq, hk2⟩
      have hk12 := hk1.trans hk2
      have hk2' : Kn w w2 := hkn.trans hk12
      have hrow2 : RowN w2 w.heap.size v qs := HROW.out.kp hk12 (fun _ _ _ x => x)
      have hts2 := hts.kn hk12
      have hrow3 := hrow2.kp ((Kp.refl (fun _ => False) w2).alloc (loneObj q)) (fun k _ _ x => x)
      have hcell : (w2.alloc (loneObj q)).cell? ⟨w2.heap.size, 0, none⟩ = some (ptr q) := cell_blk (blk_new w2 (loneObj q)) 0
      have hb9 : w.heap.size ≤ (w2.alloc (loneObj q)).heap.size := by have := hk2'.size; simp; omega
      have hwn := Lib.hid (And.intro hrow3 hcell)
      clear hrow3 hcell hrow2
      go_wp2_with (first | (at_builtin; refine wpList_append_z _ rfl _ _ 47 rfl w.heap.size 23 i0 (.pointer none) 8 Try.underlying47 HI.out.1 HI.out.2.1 HI.out.2.2.1 HI.out.2.2.2 rfl v (qs.map ptr) rfl hwn.out.1 ⟨w2.heap.size, 0, none⟩ 1 (ptr q) rfl hwn.out.2 rfl ?c1 ?c2 hb9 ?_; (case c1 => simp [maxLen]; omega); (case c2 => simp; omega); intro v' w4 hrow4 hk4))
      have hkn4 := nodes_row (v := v) hk4 (fun k x => x.2)
      have hk4' : Kn w w4 := (hk2'.alloc (loneObj q)).trans' hk4 (fun k hk1 x => by have := HROW.out.ge k x.1; omega)
      have hq4 := (hq.alloc (loneObj q)).mono61 hkn4
      have hts4 := (hts2.kn ((Kp.refl _ w2).alloc (loneObj q))).mono61 hkn4
      have hrow5 : RowN w4 w.heap.size v' (qs ++ [q]) := by
        unfold RowN; rw [List.map_append]; exact hrow4
      have hts5 : RowAt w4 ((litL s).take (k + 1)) (qs ++ [q]) := by
        rw [hst.out]; exact hts4.snoc hq4
      have HX := Lib.hid (And.intro hrow5 (show (qs ++ [q]).length ≤ k + 1 by simp; omega))
      clear hrow5 hrow4
      go_wp2_with fail
      go_roundw
      case rel => exact ⟨_, qs ++ [q], k + 1, rfl, by omega, by go_num, HX.out.1, hts5, HX.out.2, hk4'⟩
      case measure => simp [intOf]; omega
    · have hE := Lib.hid (litL_all s k (by omega))
      rw [hE.out] at hts
      obtain ⟨a, c, hv, hpt⟩ := HROW.out.ptrs
      subst hv
      have HPT := Lib.hid hpt
      clear hpt
      go_wp2_with fail
      refine (Cat_c (litL s) qs a c wr hts HPT.out (by omega)).mono ?_
      rintro e w2 ⟨q, rfl, hq, hk2⟩
      go_wp2_with fail
      go_ret2
      exact ⟨q, rfl, hq, hkn.trans hk2⟩

theorem one_get (b i : Nat) (hb : b < 256) (hi : i < 4) : (W4.one b).get i = if i = b / 64 then IntKind.u64.wrap (2 ^ (b % 64)) else 0 := by
  have hq : b / 64 < 4 := by omega
  unfold W4.one W4.put W4.get W4.zero
  generalize b / 64 = q at *
  match q, hq, i, hi with
  | 0, _, 0, _ => rfl
  | 0, _, 1, _ => rfl
  | 0, _, 2, _ => rfl
  | 0, _, 3, _ => rfl
  | 1, _, 0, _ => rfl
  | 1, _, 1, _ => rfl
  | 1, _, 2, _ => rfl
  | 1, _, 3, _ => rfl
  | 2, _, 0, _ => rfl
  | 2, _, 1, _ => rfl
  | 2, _, 2, _ => rfl
  | 2, _, 3, _ => rfl
  | 3, _, 0, _ => rfl
  | 3, _, 1, _ => rfl
  | 3, _, 2, _ => rfl
  | 3, _, 3, _ => rfl
theorem pow_bit (i j : Nat) (hi : i < 64) (hj : j < 64) : (IntKind.u64.wrap (2 ^ i) / 2 ^ j % 2 = 1) ↔ i = j := by
  have key : ∀ i j : Fin 64, decide (IntKind.u64.wrap (2 ^ i.val) / 2 ^ j.val % 2 = 1) = decide (i.val = j.val) := by decide +kernel
  have := key ⟨i, hi⟩ ⟨j, hj⟩
  simpa using this
theorem one_bit (b c : Nat) (hb : b < 256) (hc : c < 256) : (W4.one b).bit c = true ↔ c = b := by
  unfold W4.bit
  rw [one_get b (c / 64) hb (by omega)]
  simp only [decide_eq_true_eq]
  split
  · rename_i h
    rw [pow_bit _ _ (by omega) (by omega)]; omega
  · rename_i h
    simp; omega

theorem two_cat_L : ∀ (l : List Rw) (u : List Nat), Rw.L (Re.two .cat .empty l) u ↔ ∃ us : List (List Nat), us.length = l.length ∧ u = us.flatten ∧ ∀ i, (h1 : i < us.length) → (h2 : i < l.length) → Rw.L l[i] us[i]
  | [], u => by
    simp only [Re.two]
    rw [Rw.empty_L]
    constructor
    · rintro rfl; exact ⟨[], rfl, rfl, fun i h => by simp at h⟩
    · rintro ⟨us, h1, h2, _⟩
      have : us = [] := List.eq_nil_of_length_eq_zero (by simpa using h1)
      subst this; simpa using h2
  | [x], u => by
    simp only [Re.two]
    constructor
    · intro h; exact ⟨[u], rfl, by simp, fun i h1 h2 => by
        have : i = 0 := by simp at h1; exact h1
        subst this; exact h⟩
    · rintro ⟨us, h1, h2, h3⟩
      match us, h1 with
      | [v], _ => simp at h2; subst h2; exact h3 0 (by simp) (by simp)
  | x :: y :: l, u => by
    have ih := two_cat_L (y :: l)
    simp only [Re.two]
    rw [Rw.cat_L]
    constructor
    · rintro ⟨v, w, rfl, hx, hy⟩
      obtain ⟨us, h1, rfl, h3⟩ := (ih w).1 hy
      exact ⟨v :: us, by simp [h1], by simp, fun i g1 g2 => by
        cases i with
        | zero => exact hx
        | succ i => exact h3 i (by simpa using g1) (by simpa using g2)⟩
    · rintro ⟨us, h1, rfl, h3⟩
      match us, h1 with
      | v :: us, h1 =>
        exact ⟨v, us.flatten, by simp, h3 0 (by simp) (by simp), (ih _).2 ⟨us, by simpa using h1, rfl, fun i g1 g2 => h3 (i + 1) (by simpa using g1) (by simpa using g2)⟩⟩

theorem litT_L (s : ByteArray) (u : List Nat) (hu : ∀ c ∈ u, c < 256) : Rw.L (litT s) u ↔ u = bts s := by
  have hlt : ∀ c ∈ bts s, c < 256 := by
    intro c hc
    simp only [bts, List.mem_map] at hc
    obtain ⟨b, _, rfl⟩ := hc
    exact b.toNat_lt
  unfold litT litL
  generalize bts s = l at *
  induction l generalizing u with
  | nil => simp only [List.map_nil, Re.two]; exact Rw.empty_L
  | cons b l ih =>
    have hb : b < 256 := hlt b (by simp)
    have hone : ∀ v, (∀ c ∈ v, c < 256) → (Rw.L (.set (W4.one b)) v ↔ v = [b]) := by
      intro v hv
      rw [Rw.set_L]
      constructor
      · rintro ⟨c, rfl, h⟩
        rw [one_bit b c hb (hv c (by simp))] at h
        rw [h]
      · rintro rfl; exact ⟨b, rfl, (one_bit b b hb hb).2 rfl⟩
    cases l with
    | nil => simp only [List.map_cons, List.map_nil, Re.two]; exact hone u hu
    | cons b2 l =>
      have ih' := fun v hv => ih v hv (fun c hc => hlt c (by simp at hc ⊢; exact .inr hc))
      simp only [List.map_cons, Re.two] at ih' ⊢
      rw [Rw.cat_L]
      constructor
      · rintro ⟨v, w, rfl, hx, hy⟩
        have hx' := (hone v (fun c hc => hu c (List.mem_append_left _ hc))).1 hx
        have hy' := (ih' w (fun c hc => hu c (List.mem_append_right _ hc))).1 hy
        rw [hx', hy']; rfl
      · rintro rfl
        exact ⟨[b], b2 :: l, rfl, (hone _ (fun c hc => hu c (by simp at hc; simp [hc]))).2 rfl, (ih' _ (fun c hc => hu c (by simp at hc ⊢; exact .inr hc))).2 rfl⟩

def awakeS : ByteArray := ⟨#[91, 97, 45, 99, 93, 43, 120, 63]⟩
def abcx : ByteArray := ⟨#[97, 98, 99, 120]⟩
def xS : ByteArray := ⟨#[120]⟩
theorem awake_plain : (match parseO awakeS with | .ok t => Rw.matches t (bts abcx) && !Rw.matches t (bts xS) | _ => false) = true := by decide +kernel

theorem awake_ok : ∃ t, parseO awakeS = .ok t ∧ Rw.matches t (bts abcx) = true ∧ Rw.matches t (bts xS) = false := by
  have h := awake_plain
  cases hp : parseO awakeS with
  | ok t =>
    rw [hp] at h
    simp only [Bool.and_eq_true, Bool.not_eq_true'] at h
    exact ⟨t, rfl, h.1, h.2⟩
  | err a e => rw [hp] at h; cases h

set_option maxHeartbeats 1000000 in
theorem awake_c (w : World) :
    Calls Try.prog 7 #[] w fun e w' => e = .returned (.bool true) ∧ Kn w w' := by
  obtain ⟨t, hp, h1, h2⟩ := awake_ok
  have HP := Lib.hid hp
  have H1 := Lib.hid h1
  have H2 := Lib.hid h2
  clear hp h1 h2
  go_enter Try.func7, Try.ntmps7
  go_wp2_with fail
  refine (Parse_c awakeS w (by decide)).mono ?_
  rintro e w1 ⟨hk1, hm⟩
  rw [HP.out] at hm
  obtain ⟨q, rfl, hq, _⟩ := hm
  go_wp2_with fail
  refine (Matches_c t abcx q w1 hq (by decide)).mono ?_
  rintro e w2 ⟨rfl, hk2⟩
  rw [H1.out]
  go_wp2_with fail
  refine (Matches_c t xS q w2 (hq.kn hk2) (by decide)).mono ?_
  rintro e w3 ⟨rfl, hk3⟩
  rw [H2.out]
  go_wp2_with fail
  go_ret
  exact ⟨rfl, (hk1.trans hk2).trans hk3⟩

end Go.Proofs.Ytkhcnneflcbnpaa
