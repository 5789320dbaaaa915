/-
  The law 'RegexLiterals': the walk. Conditions: none but that its texts are texts.
-/
import Derived.Test.YtkhcnneflcbnpaaPLaw
namespace Go.Proofs.Ytkhcnneflcbnpaa
open Go.RowKit

theorem empty_str (s : ByteArray) : (s.data.toList = []) ↔ s = ⟨#[]⟩ := by
  constructor
  · intro h
    cases s with
    | mk d => simp at h; rw [h]
  · rintro rfl; rfl

theorem m_empty (t : ByteArray) : Rw.matches .empty (bts t) = t.toList.isEmpty := by
  rw [Rw.matches_empty, ByteArray.toList_eq, Bool.eq_iff_iff]
  simp [bts]

theorem m_lit (s t : ByteArray) : Rw.matches (litT s) (bts t) = (s.toList == t.toList) := by
  rw [lit_other, ByteArray.toList_eq, ByteArray.toList_eq, Bool.eq_iff_iff]
  simp only [decide_eq_true_eq, beq_iff_eq]
  constructor
  · rintro rfl; rfl
  · intro h; cases s; cases t; simp at h; rw [h]
theorem bts_extract (s : ByteArray) (i j : Nat) : bts (s.extract i j) = ((bts s).take j).drop i := by
  unfold bts
  rw [ByteArray.data_extract]
  simp [List.drop_take]
theorem m_one (s t : ByteArray) (b : Nat) (h0 : 0 < s.size) (hb : s[0].toNat = b) (hl : b < 256) : Rw.matches (.set (W4.one b)) (bts t) = (t.toList == (s.extract 0 1).toList) := by
  have e1 : bts (s.extract 0 1) = [b] := by
    have h1 := bts_take s 0 h0
    simp only [Nat.zero_add, List.take_zero, List.nil_append] at h1
    rw [bts_extract, h1, hb]; rfl
  rw [Bool.eq_iff_iff, Rw.matches_L, Rw.set_L, ByteArray.toList_eq, ByteArray.toList_eq]
  simp only [beq_iff_eq]
  constructor
  · rintro ⟨c, hc, hbit⟩
    have hcl : c < 256 := bts_lt t c (by rw [hc]; simp)
    rw [one_bit b c hl hcl] at hbit
    subst hbit
    have : t = s.extract 0 1 := bts_inj (by rw [hc, e1])
    rw [this]
  · intro h
    have : t = s.extract 0 1 := by cases t; cases hx : s.extract 0 1; rw [hx] at h; simp at h; rw [h]
    rw [this, e1]
    exact ⟨b, rfl, (one_bit b b hl hl).2 rfl⟩

set_option maxHeartbeats 400000 in
theorem Parts_nil (w : World) :
    Calls Try.prog 21 #[.pointer none] w fun e w' => e = .returned (.slice none 0 0) ∧ w = w' := by
  go_enter Try.func21, Try.ntmps21
  go_wp2_with fail
  go_ret
  exact ⟨rfl, rfl⟩

set_option maxRecDepth 100000 in
set_option maxHeartbeats 4000000 in
theorem lits_some (s t : ByteArray) (hs : s.size ≤ 300) (ht : t.size ≤ 300) (h0 : 0 < s.size) (w : World) :
    Calls Try.prog 6 #[.string s, .string t] w fun e w' => e = .returned (.bool true) ∧ Kn w w' := by
  have hs' : ¬ (300 : Int) < s.size := by omega
  have ht' : ¬ (300 : Int) < t.size := by omega
  have hneb : s.toList.isEmpty = false := by
    rw [ByteArray.toList_eq]
    cases hl : s.data.toList with
    | nil => rw [(empty_str s).1 hl] at h0; exact absurd h0 (by decide)
    | cons => rfl
  have hlt0 : (0 : Int) < s.size := by omega
  obtain ⟨b, hbe⟩ : ∃ b : Nat, s[0].toNat = b := ⟨_, rfl⟩
  have hb : b < 256 := by rw [← hbe]; exact s[0].toNat_lt
  have hq : (b : Int) / 64 < 4 := by omega
  have hq0 : (0 : Int) ≤ (b : Int) / 64 := by omega
  go_enter Try.func6, Try.ntmps6
  go_wp2_with fail
  refine (awake_c w).mono ?_
  rintro e w1 ⟨rfl, hk1⟩
  have hs2 : SetAt (w1.alloc (.cells (wordsV W4.zero) 41)) w1.heap.size W4.zero := blk_new w1 _
  have hk2 : Kn w (w1.alloc (.cells (wordsV W4.zero) 41)) := hk1.alloc _
  have hsz := hk1.size
  obtain ⟨w2, hw2⟩ : ∃ w2, w2 = w1.alloc (.cells (wordsV W4.zero) 41) := ⟨_, rfl⟩
  obtain ⟨B, hB⟩ : ∃ B, B = w1.heap.size := ⟨_, rfl⟩
  rw [← hw2, ← hB] at hs2
  rw [← hw2] at hk2
  rw [← hB] at hsz
  have hg := hs2.get (b / 64) (by omega)
  have hfz : w2.frozen? ⟨B, b / 64, none⟩ = false := frozen_blk hs2 _
  go_wp2_with fail
  rw [show w1.alloc (.cells #[.int .u64 0, .int .u64 0, .int .u64 0, .int .u64 0] 41) = w2 from hw2.symm, ← hB]
  have HW := Lib.hid (And.intro hw2 hB)
  clear hw2 hB
  go_region
  go_wp2_with fail
  have hs3 : SetAt (w2.setCell ⟨B, b / 64, none⟩ (.int .u64 (IntKind.u64.wrap (2 ^ (b % 64))))).drew B (W4.one b) := hs2.put (b / 64) (by omega) _
  have hk3 : Kn w (w2.setCell ⟨B, b / 64, none⟩ (.int .u64 (IntKind.u64.wrap (2 ^ (b % 64))))).drew := (hk2.setCell (p := ⟨B, b / 64, none⟩) (fun hx => absurd (show B < w.heap.size from hx) (by omega)) _).drew
  generalize (w2.setCell ⟨B, b / 64, none⟩ (.int .u64 (IntKind.u64.wrap (2 ^ (b % 64))))).drew = w3 at *
  clear hg hfz hs2 hk2
  have HM1 := Lib.hid (m_empty t)
  refine (EmptyAt_c w3).mono ?_
  rintro e w4 ⟨q4, rfl, hq4, hk4⟩
  go_wp2_with fail
  refine (Matches_c _ t q4 w4 hq4 (by omega)).mono ?_
  rintro e w5 ⟨rfl, hk5⟩
  rw [HM1.out]
  have hs5 := (hs3.kp hk4 (fun x => x)).kp hk5 (fun x => x)
  have hk5' := (hk3.trans hk4).trans hk5
  obtain ⟨v0, v1, v2, v3⟩ := hs5.four
  clear hs3
  have hok := one_ok b
  obtain ⟨ws, hws⟩ : ∃ ws, ws = W4.one b := ⟨_, rfl⟩
  rw [← hws] at v0 v1 v2 v3 hok
  have HM2 : Hid (Rw.matches (.set ws) (bts t) = (t.toList == (s.extract 0 1).toList)) := Lib.hid (by rw [hws]; exact m_one s t b h0 hbe hb)
  have HWS := Lib.hid hws
  clear hws
  go_wp2_with fail
  refine (SetOf_c ws hok w5).mono ?_
  rintro e w6 ⟨q6, rfl, hq6, hk6⟩
  go_wp2_with fail
  refine (Matches_c _ t q6 w6 hq6 (by omega)).mono ?_
  rintro e w7 ⟨rfl, hk7⟩
  rw [HM2.out]
  have hk7' := ((hk5'.trans hk6).trans hk7)
  by_cases h200 : 200 < s.size
  · have h200' : (200 : Int) < s.size := by omega
    go_wp2_with fail
    refine (Literal_long s w7 h200 (by omega)).mono ?_
    rintro e w8 ⟨rfl, rfl⟩
    go_wp2_with fail
    go_ret
    exact ⟨rfl, hk7'⟩
  · have h200' : ¬ (200 : Int) < s.size := by omega
    have HL1 := Lib.hid (lit_self s)
    have HL2 := Lib.hid (m_lit s t)
    go_wp2_with fail
    refine (Literal_c s w7 (by omega)).mono ?_
    rintro e w8 ⟨q8, rfl, hq8, hk8⟩
    go_wp2_with fail
    refine (Matches_c _ s q8 w8 hq8 (by omega)).mono ?_
    rintro e w9 ⟨rfl, hk9⟩
    rw [HL1.out]
    go_wp2_with fail
    refine (Matches_c _ t q8 w9 (hq8.kn hk9) (by omega)).mono ?_
    rintro e w10 ⟨rfl, hk10⟩
    rw [HL2.out]
    have hk10' := ((hk7'.trans hk8).trans hk9).trans hk10
    go_wp2_with fail
    refine (Star_nil w10).mono ?_
    rintro e w11 ⟨rfl, rfl⟩
    go_wp2_with fail
    refine (Size_nil w10).mono ?_
    rintro e w11 ⟨rfl, rfl⟩
    go_wp2_with fail
    refine (Kind_nil w10).mono ?_
    rintro e w11 ⟨rfl, rfl⟩
    go_wp2_with fail
    refine (Parts_nil w10).mono ?_
    rintro e w11 ⟨rfl, rfl⟩
    go_wp2_with fail
    go_ret
    exact ⟨rfl, hk10'⟩

theorem bts_none {s : ByteArray} (h : s.size = 0) : bts s = [] := List.eq_nil_of_length_eq_zero (by rw [bts_len]; exact h)
theorem list_none {s : ByteArray} (h : s.size = 0) : s.toList = [] := by
  rw [ByteArray.toList_eq]
  have := bts_none h
  simpa [bts] using this

set_option maxRecDepth 100000 in
set_option maxHeartbeats 4000000 in
theorem lits_none (s t : ByteArray) (ht : t.size ≤ 300) (h0 : s.size = 0) (w : World) :
    Calls Try.prog 6 #[.string s, .string t] w fun e w' => e = .returned (.bool true) ∧ Kn w w' := by
  have hs' : ¬ (300 : Int) < s.size := by omega
  have ht' : ¬ (300 : Int) < t.size := by omega
  have h200' : ¬ (200 : Int) < s.size := by omega
  have hneb : s.toList.isEmpty = true := by rw [list_none h0]; rfl
  have HL0 : Hid (s.toList = []) := Lib.hid (list_none h0)
  have HZ := Lib.hid h0
  clear h0
  go_enter Try.func6, Try.ntmps6
  go_wp2_with fail
  refine (awake_c w).mono ?_
  rintro e w1 ⟨rfl, hk1⟩
  have hs2 : SetAt (w1.alloc (.cells (wordsV W4.zero) 41)) w1.heap.size W4.zero := blk_new w1 _
  have hk2 : Kn w (w1.alloc (.cells (wordsV W4.zero) 41)) := hk1.alloc _
  obtain ⟨w2, hw2⟩ : ∃ w2, w2 = w1.alloc (.cells (wordsV W4.zero) 41) := ⟨_, rfl⟩
  obtain ⟨B, hB⟩ : ∃ B, B = w1.heap.size := ⟨_, rfl⟩
  rw [← hw2, ← hB] at hs2
  rw [← hw2] at hk2
  go_wp2_with fail
  rw [show w1.alloc (.cells #[.int .u64 0, .int .u64 0, .int .u64 0, .int .u64 0] 41) = w2 from hw2.symm, ← hB]
  have HW := Lib.hid (And.intro hw2 hB)
  clear hw2 hB
  have HM1 := Lib.hid (m_empty t)
  refine (EmptyAt_c w2).mono ?_
  rintro e w4 ⟨q4, rfl, hq4, hk4⟩
  go_wp2_with fail
  refine (Matches_c _ t q4 w4 hq4 (by omega)).mono ?_
  rintro e w5 ⟨rfl, hk5⟩
  rw [HM1.out]
  have hs5 := (hs2.kp hk4 (fun x => x)).kp hk5 (fun x => x)
  have hk5' := (hk2.trans hk4).trans hk5
  obtain ⟨v0, v1, v2, v3⟩ := hs5.four
  have HN := Lib.hid (Rw.matches_none (bts t))
  have hok := zero_ok
  obtain ⟨ws, hws⟩ : ∃ ws, ws = W4.zero := ⟨_, rfl⟩
  rw [← hws] at v0 v1 v2 v3 hok
  have HM2 : Hid (Rw.matches (.set ws) (bts t) = false) := Lib.hid (by rw [hws]; exact HN.out)
  clear hws hs2 hs5
  go_wp2_with fail
  refine (SetOf_c ws hok w5).mono ?_
  rintro e w6 ⟨q6, rfl, hq6, hk6⟩
  go_wp2_with fail
  refine (Matches_c _ t q6 w6 hq6 (by omega)).mono ?_
  rintro e w7 ⟨rfl, hk7⟩
  rw [HM2.out]
  have hk7' := ((hk5'.trans hk6).trans hk7)
  have HL1 := Lib.hid (lit_self s)
  have HL2 := Lib.hid (m_lit s t)
  go_wp2_with fail
  refine (Literal_c s w7 (by have := HZ.out; omega)).mono ?_
  rintro e w8 ⟨q8, rfl, hq8, hk8⟩
  go_wp2_with fail
  refine (Matches_c _ s q8 w8 hq8 (by have := HZ.out; omega)).mono ?_
  rintro e w9 ⟨rfl, hk9⟩
  rw [HL1.out]
  go_wp2_with fail
  refine (Matches_c _ t q8 w9 (hq8.kn hk9) (by omega)).mono ?_
  rintro e w10 ⟨rfl, hk10⟩
  rw [HL2.out]
  have hk10' := ((hk7'.trans hk8).trans hk9).trans hk10
  go_wp2_with fail
  refine (Star_nil w10).mono ?_
  rintro e w11 ⟨rfl, rfl⟩
  go_wp2_with fail
  refine (Size_nil w10).mono ?_
  rintro e w11 ⟨rfl, rfl⟩
  go_wp2_with fail
  refine (Kind_nil w10).mono ?_
  rintro e w11 ⟨rfl, rfl⟩
  go_wp2_with fail
  refine (Parts_nil w10).mono ?_
  rintro e w11 ⟨rfl, rfl⟩
  go_wp2_with fail
  go_ret
  exact ⟨rfl, hk10'⟩

set_option maxRecDepth 100000 in
set_option maxHeartbeats 4000000 in
theorem lits_walk (s t : ByteArray) (hs0 : s.size ≤ maxLen) (ht0 : t.size ≤ maxLen) (w : World) :
    Calls Try.prog 6 #[.string s, .string t] w fun e w' => e = .returned (.bool true) ∧ Below w.heap.size w w' := by
  refine Calls.mono (R := fun e w' => e = .returned (.bool true) ∧ Kn w w') ?_ (fun e w' h => ⟨h.1, h.2.below⟩)
  unfold maxLen at hs0 ht0
  by_cases hs : s.size ≤ 300
  · by_cases ht : t.size ≤ 300
    · by_cases h0 : 0 < s.size
      · exact lits_some s t hs ht h0 w
      · exact lits_none s t ht (by omega) w
    · have hs' : ¬ (300 : Int) < s.size := by omega
      have ht' : (300 : Int) < t.size := by omega
      go_enter Try.func6, Try.ntmps6
      go_wp2_with fail
      refine (awake_c w).mono ?_
      rintro e w1 ⟨rfl, hk1⟩
      go_wp2_with fail
      go_ret
      exact ⟨rfl, hk1⟩
  · have hs' : (300 : Int) < s.size := by omega
    go_enter Try.func6, Try.ntmps6
    go_wp2_with fail
    refine (awake_c w).mono ?_
    rintro e w1 ⟨rfl, hk1⟩
    go_wp2_with fail
    go_ret
    exact ⟨rfl, hk1⟩

end Go.Proofs.Ytkhcnneflcbnpaa
