/-
  The law 'RegexMatches': the walk. Conditions: none but that its texts are texts.
-/
import Derived.Test.YtkhcnneflcbnpaaMMean
import Derived.Test.YtkhcnneflcbnpaaPLaw
namespace Go.Proofs.Ytkhcnneflcbnpaa
open Go.RowKit

theorem parseO_err {s : ByteArray} {a : Nat} {no : Int} (h : parseO s = .err a no) : no = 3 ∨ no = 4 := by
  unfold parseO at h
  split at h
  · injection h with _ h; exact .inl h.symm
  · split at h
    · injection h with _ h; exact .inr h.symm
    · split at h
      · injection h with _ h; exact .inl h.symm
      · cases h

set_option maxRecDepth 100000 in
set_option maxHeartbeats 4000000 in
theorem matches_in (s t : ByteArray) (hs : s.size ≤ 60) (ht : t.size ≤ 24) (w : World) :
    Calls Try.prog 3 #[.string s, .string t] w fun e w' => e = .returned (.bool true) ∧ Kn w w' := by
  have hs' : ¬ (60 : Int) < s.size := by omega
  have ht' : ¬ (24 : Int) < t.size := by omega
  have hz := zero_node.1
  go_enter Try.func3, Try.ntmps3
  go_wp2_with fail
  refine (awake_c w).mono ?_
  rintro e w1 ⟨rfl, hk1⟩
  go_wp2_with fail
  refine (Parse_c s w1 (by omega)).mono ?_
  rintro e w2 ⟨hk2, hP⟩
  cases hpo : parseO s with
  | err a no =>
    have hno := parseO_err hpo
    have HPO := Lib.hid hpo
    rw [hpo] at hP
    simp only at hP
    subst hP
    clear hpo
    have hn0 : (no == 0) = false := by rcases hno with h | h <;> rw [h] <;> rfl
    have hn1 : (no != 0) = true := by rcases hno with h | h <;> rw [h] <;> rfl
    clear hno
    go_wp2_with fail
    refine (ParseR_c s w2 (by omega)).mono ?_
    rintro e w3 ⟨hk3, C, at_, gr, rfl, hcase⟩
    have hbad : (0 ≤ at_ ∨ gr = true) ∧ C = zeroC := by
      rcases hcase with ⟨t9, h9, _⟩ | ⟨_, h9, h8⟩
      · rw [HPO.out] at h9; cases h9
      · exact ⟨h9, h8⟩
    obtain ⟨hbad, rfl⟩ := hbad
    clear hcase
    have hst := run_storeCells_new (P := Try.prog) w3 TN zeroC zeroC (by rw [zeroC_size]; exact zero_node.2) rfl zeroC_one
    have hK3 := ((hk1.trans hk2).trans hk3).alloc (.cells zeroC TN (0, 0))
    have hmn := fun w => Matches_nil t w
    have HMN := Lib.hid hmn
    clear hmn
    by_cases ha : 0 ≤ at_
    · go_wp2_with fail
      refine (HMN.out _).mono ?_
      rintro e w4 ⟨rfl, rfl⟩
      go_wp2_with fail
      refine (Nullable_nil _).mono ?_
      rintro e w4 ⟨rfl, rfl⟩
      go_wp2_with fail
      go_ret
      exact ⟨rfl, hK3⟩
    · have hg : gr = true := by rcases hbad with h | h; exact (ha h).elim; exact h
      subst hg
      clear hbad
      go_wp2_with fail
      refine (HMN.out _).mono ?_
      rintro e w4 ⟨rfl, rfl⟩
      go_wp2_with fail
      refine (Nullable_nil _).mono ?_
      rintro e w4 ⟨rfl, rfl⟩
      go_wp2_with fail
      go_ret
      exact ⟨rfl, hK3⟩
  | ok x =>
    have HPO := Lib.hid hpo
    rw [hpo] at hP
    simp only at hP
    obtain ⟨q, rfl, hq, hxs⟩ := hP
    clear hpo hxs
    go_wp2_with fail
    refine (ParseR_c s w2 (by omega)).mono ?_
    rintro e w3 ⟨hk3, C, at_, gr, rfl, hcase⟩
    have hok : at_ = -1 ∧ gr = false ∧ NV w3 (fun g => w2.heap.size ≤ g) (toB x) C := by
      rcases hcase with ⟨t9, h9, h8, h7, h6⟩ | ⟨⟨_, _, h9⟩, _⟩
      · rw [HPO.out] at h9; injection h9 with h9; subst h9; exact ⟨h8, h7, h6⟩
      · rw [HPO.out] at h9; cases h9
    obtain ⟨rfl, rfl, hN⟩ := hok
    clear hcase
    have hcs := hN.size
    obtain ⟨slq, hnc⟩ := hN.nc
    have hone := hnc.one
    have hiC : (Try.prog.info? TN).map (·.size) = some C.size := by rw [hcs]; exact zero_node.2
    have hzC : zeroC.size = C.size := by rw [hcs]; exact zeroC_size
    have hi8 : (Try.prog.info? TN).map (·.size) = some C.toList.length := by rw [Array.length_toList]; exact hiC
    have hn7 : Kn w3 (w3.alloc (.cells zeroC TN (0, 0))) := (Kp.refl _ w3).alloc _
    have hB7 := blk_new w3 (.cells zeroC TN (0, 0))
    have hX : Hid (∃ w7, w7 = (w3.alloc (.cells zeroC TN (0, 0))).setRow w3.heap.size C ∧ w7.heap[w3.heap.size]? = some (.cells C TN (0, 0)) ∧ Kn w w7 ∧ NodeAt w7 x q ∧ NV w7 (fun g => w2.heap.size ≤ g ∧ g < w3.heap.size) (toB x) C) := Lib.hid (by
      have hkw : Kn w3 ((w3.alloc (.cells zeroC TN (0, 0))).setRow w3.heap.size C) := hn7.trans' (kp_row _ w3.heap.size C) (fun i hi x => by omega)
      exact ⟨_, rfl, setRow_heap _ _ zeroC C TN (0, 0) hB7, ((hk1.trans hk2).trans hk3).trans hkw, (hq.kn hk3).kn hkw, (hN.mono (fun g x hlt => ⟨x, hlt⟩)).kn hkw⟩)
    clear hq hN hnc hk1 hk2 hk3
    go_upto_region 7 with (refine wpList_store_row rfl TN (.tmp 8) (.tmp 33) rfl w3.heap.size C rfl rfl TN zeroC hB7 hiC hzC hone ?_)
    obtain ⟨w7, hw7, hB8, hK7, hq7, hN7⟩ := hX.out
    rw [← hw7]
    clear hw7 hX
    obtain ⟨g8, hg8⟩ : ∃ g, g = w3.heap.size := ⟨_, rfl⟩
    rw [← hg8] at hB8 ⊢
    have HN7 := Lib.hid hN7
    clear hg8 hN7 hB7 hn7
    try simp only [Act.put]
    have hr8 : w7.rangeAt g8 0 C.toList := fun j v hv => by rw [cell_blk hB8, Nat.zero_add]; simpa using hv
    have HM := Lib.hid (matchF_eq t x)
    have HE := Lib.hid (match_empty x)
    have HK : Kn w7 w7.drew := (Kp.refl _ _).drew
    clear hB8
    refine wp_region_held_drew (S := fun w' => w'.rangeAt g8 0 C.toList) (by kernel_rfl) hr8 (fun hHeld => ?_)
    refine wpAnyH_take (i := 0) (oi := Oper.mk (some 58) _ _ _ _ _) (v := ?_) rfl (by kernel_rfl) (by kernel_rfl) (by kernel_rfl) (fun _ _ _ h => h) (Or.inl ⟨by rfl, ?_⟩) (by assumption) ?_
    rotate_left
    · (intro w hSw; clear hSw; go_simp; try with_reducible rfl)
    try simp only [Act.put, List.setIfInBounds_toArray, List.set_cons_zero, List.set_cons_succ]
    refine wpAnyH_take (i := 1) (oi := Oper.mk (some 59) _ _ _ _ _) (v := ?_) rfl (by kernel_rfl) (by kernel_rfl) (by kernel_rfl) (fun _ _ _ h => h) (Or.inl ⟨by rfl, ?_⟩) (by assumption) ?_
    rotate_left
    · (intro w hSw; clear hSw; go_simp; try with_reducible rfl)
    try simp only [Act.put, List.setIfInBounds_toArray, List.set_cons_zero, List.set_cons_succ]
    refine wpAnyH_take (i := 3) (oi := Oper.mk (some 61) _ _ _ _ _) (v := _) rfl (by kernel_rfl) (by kernel_rfl) (by kernel_rfl) (fun _ _ _ h => h) (yieldsIf_load_mid (by rfl) TN _ rfl g8 0 rfl C.toList _ (fun _ h => h) Try.underlying30 rfl hi8) (by assumption) ?_
    try simp only [Act.put, List.setIfInBounds_toArray, List.set_cons_zero, List.set_cons_succ, Array.toArray_toList]
    refine wpAnyH_take (i := 4) (oi := Oper.mk (some 62) _ _ _ _ _) (v := ?_) rfl (by kernel_rfl) (by kernel_rfl) (by kernel_rfl) (fun _ _ _ h => h) (Or.inl ⟨by rfl, ?_⟩) (by assumption) ?_
    rotate_left
    · (intro w hSw; clear hSw; go_simp; try with_reducible rfl)
    try simp only [Act.put, List.setIfInBounds_toArray, List.set_cons_zero, List.set_cons_succ]
    refine wpAnyH_ready (rs := [2]) (by kernel_rfl) (by simp) (AllReadyH.cons (o := Oper.mk (some 60) _ _ _ _ _) rfl (fun K hK => ?_) AllReadyH.nil)
    go_simp
    go_at_call 10
    refine (Matches_c x t q _ (hq7.kn HK) (by omega)).mono ?_
    rintro e w4 ⟨rfl, hk4⟩
    replace HK := Kp.trans HK hk4
    dsimp only
    refine hK.out _ _ (range_kn HK hr8) (fun hHeld => ?_)
    clear hK K
    try simp only [Act.put, List.setIfInBounds_toArray, List.set_cons_zero, List.set_cons_succ]
    refine wpAnyH_ready (rs := [5]) (by kernel_rfl) (by simp) (AllReadyH.cons (o := Oper.mk (some 63) _ _ _ _ _) rfl (fun K hK => ?_) AllReadyH.nil)
    go_simp
    go_at_call 12
    refine (MatchesR t (by omega) (toB x) C _ _ (HN7.out.kn HK)).mono ?_
    rintro e w5 ⟨rfl, hk5⟩
    replace HK := Kp.trans HK hk5
    rw [HM.out]
    dsimp only
    refine hK.out _ _ (range_kn HK hr8) (fun hHeld => ?_)
    clear hK K
    try simp only [Act.put, List.setIfInBounds_toArray, List.set_cons_zero, List.set_cons_succ]
    refine wpAnyH_take (i := 6) (oi := Oper.mk (some 64) _ _ _ _ _) (v := ?_) rfl (by kernel_rfl) (by kernel_rfl) (by kernel_rfl) (fun _ _ _ h => h) (Or.inl ⟨by rfl, ?_⟩) (by assumption) ?_
    rotate_left
    · (intro w hSw; clear hSw; go_simp; try with_reducible rfl)
    try simp only [Act.put, List.setIfInBounds_toArray, List.set_cons_zero, List.set_cons_succ]
    refine wpAnyH_take (i := 7) (oi := Oper.mk (some 65) _ _ _ _ _) (v := ?_) rfl (by kernel_rfl) (by kernel_rfl) (by kernel_rfl) (fun _ _ _ h => h) (Or.inl ⟨by rfl, ?_⟩) (by assumption) ?_
    rotate_left
    · (intro w hSw; clear hSw; go_simp; try with_reducible rfl)
    try simp only [Act.put, List.setIfInBounds_toArray, List.set_cons_zero, List.set_cons_succ]
    refine wpAnyH_take (i := 8) (oi := Oper.mk (some 66) _ _ _ _ _) (v := ?_) rfl (by kernel_rfl) (by kernel_rfl) (by kernel_rfl) (fun _ _ _ h => h) (Or.inl ⟨by rfl, ?_⟩) (by assumption) ?_
    rotate_left
    · (intro w hSw; clear hSw; go_simp; try with_reducible rfl)
    try simp only [Act.put, List.setIfInBounds_toArray, List.set_cons_zero, List.set_cons_succ]
    refine wpAnyH_take (i := 10) (oi := Oper.mk (some 68) _ _ _ _ _) (v := _) rfl (by kernel_rfl) (by kernel_rfl) (by kernel_rfl) (fun _ _ _ h => h) (yieldsIf_load_mid (by rfl) TN _ rfl g8 0 rfl C.toList _ (fun _ h => h) Try.underlying30 rfl hi8) (by assumption) ?_
    try simp only [Act.put, List.setIfInBounds_toArray, List.set_cons_zero, List.set_cons_succ, Array.toArray_toList]
    refine wpAnyH_ready (rs := [9]) (by kernel_rfl) (by simp) (AllReadyH.cons (o := Oper.mk (some 67) _ _ _ _ _) rfl (fun K hK => ?_) AllReadyH.nil)
    go_simp
    go_at_call 11
    refine (Nullable_c x q _ (hq7.kn HK)).mono ?_
    rintro e w6 ⟨rfl, rfl⟩
    dsimp only
    refine hK.out _ _ (range_kn HK hr8) (fun hHeld => ?_)
    clear hK K
    try simp only [Act.put, List.setIfInBounds_toArray, List.set_cons_zero, List.set_cons_succ]
    refine wpAnyH_ready (rs := [11]) (by kernel_rfl) (by simp) (AllReadyH.cons (o := Oper.mk (some 69) _ _ _ _ _) rfl (fun K hK => ?_) AllReadyH.nil)
    go_simp
    go_at_call 12
    refine (MatchesR ⟨#[]⟩ (by decide) (toB x) C _ _ (HN7.out.kn HK)).mono ?_
    rintro e w8 ⟨rfl, hk8⟩
    replace HK := Kp.trans HK hk8
    rw [HE.out]
    dsimp only
    refine hK.out _ _ (range_kn HK hr8) (fun hHeld => ?_)
    clear hK K
    try simp only [Act.put, List.setIfInBounds_toArray, List.set_cons_zero, List.set_cons_succ]
    refine wpAnyH_take (i := 12) (oi := Oper.mk (some 70) _ _ _ _ _) (v := ?_) rfl (by kernel_rfl) (by kernel_rfl) (by kernel_rfl) (fun _ _ _ h => h) (Or.inl ⟨by rfl, ?_⟩) (by assumption) ?_
    rotate_left
    · (intro w hSw; clear hSw; go_simp; try with_reducible rfl)
    try simp only [Act.put, List.setIfInBounds_toArray, List.set_cons_zero, List.set_cons_succ]
    refine wpAnyH_take (i := 13) (oi := Oper.mk (some 71) _ _ _ _ _) (v := ?_) rfl (by kernel_rfl) (by kernel_rfl) (by kernel_rfl) (fun _ _ _ h => h) (Or.inl ⟨by rfl, ?_⟩) (by assumption) ?_
    rotate_left
    · (intro w hSw; clear hSw; go_simp; try with_reducible rfl)
    try simp only [Act.put, List.setIfInBounds_toArray, List.set_cons_zero, List.set_cons_succ]
    refine wpAnyH_take (i := 14) (oi := Oper.mk (some 4) _ _ _ _ _) (v := ?_) rfl (by kernel_rfl) (by kernel_rfl) (by kernel_rfl) (fun _ _ _ h => h) (Or.inl ⟨by rfl, ?_⟩) (by assumption) ?_
    rotate_left
    · (intro w hSw; clear hSw; go_simp; try with_reducible rfl)
    try simp only [Act.put, List.setIfInBounds_toArray, List.set_cons_zero, List.set_cons_succ]
    refine wpAnyH_done (by kernel_rfl) ?_ _
    go_wp2_with fail
    go_ret
    exact ⟨rfl, hK7.trans HK⟩

set_option maxRecDepth 100000 in
set_option maxHeartbeats 4000000 in
theorem matches_walk (s t : ByteArray) (hs0 : s.size ≤ maxLen) (ht0 : t.size ≤ maxLen) (w : World) :
    Calls Try.prog 3 #[.string s, .string t] w fun e w' => e = .returned (.bool true) ∧ Below w.heap.size w w' := by
  refine Calls.mono (R := fun e w' => e = .returned (.bool true) ∧ Kn w w') ?_ (fun e w' h => ⟨h.1, h.2.below⟩)
  unfold maxLen at hs0 ht0
  by_cases hs : s.size ≤ 60
  · by_cases ht : t.size ≤ 24
    · exact matches_in s t hs ht w
    · have hs' : ¬ (60 : Int) < s.size := by omega
      have ht' : (24 : Int) < t.size := by omega
      go_enter Try.func3, Try.ntmps3
      go_wp2_with fail
      refine (awake_c w).mono ?_
      rintro e w1 ⟨rfl, hk1⟩
      go_wp2_with fail
      go_ret
      exact ⟨rfl, hk1⟩
  · have hs' : (60 : Int) < s.size := by omega
    go_enter Try.func3, Try.ntmps3
    go_wp2_with fail
    refine (awake_c w).mono ?_
    rintro e w1 ⟨rfl, hk1⟩
    go_wp2_with fail
    go_ret
    exact ⟨rfl, hk1⟩

end Go.Proofs.Ytkhcnneflcbnpaa
