/-
  The law 'RegexMakes': the walk. Conditions: none but that its texts are texts.
-/
import Derived.Test.YtkhcnneflcbnpaaPLit
namespace Go.Proofs.Ytkhcnneflcbnpaa
open Go.RowKit

theorem parse_err {s : ByteArray} {a : Nat} {e : Int} (h : parseO s = .err a e) : (e != 0) = true := by
  unfold parseO at h
  split at h
  · injection h with _ h; subst h; rfl
  · split at h
    · injection h with _ h; subst h; rfl
    · split at h
      · injection h with _ h; subst h; rfl
      · cases h

abbrev optObj (x y : Option Nat) : Obj := .cells #[optr x, optr y] 23 (0, 0)
theorem optrs_two (w : World) (x y : Option Nat) : OptrsAt (w.alloc (optObj x y)) (some ⟨w.heap.size, 0, none⟩) [x, y] := fun k hk => by
  refine ⟨w.heap.size, rfl, ?_⟩
  rw [cell_blk (blk_new w (optObj x y))]
  match k, hk with
  | 0, _ => rfl
  | 1, _ => rfl

theorem StarAt_c (t : Rw) (n : Nat) (w : World) (h : NodeAt w t n) :
    Calls Try.prog 15 #[ptr n] w fun e w' => ∃ q : Nat, e = .returned (ptr q) ∧ NodeAt w' (.star t) q ∧ Kn w w' :=
  (Star_c n w).mono fun _ _ ⟨he, hw⟩ => ⟨_, he, by
    rw [hw]
    refine ⟨w.heap.size, n, ?_, blk_alloc (blk_new w _) _, (h.alloc _).alloc _⟩
    have := blk_new (w.alloc (loneObj n)) (ndObj 4 W4.zero (sl1 w.heap.size))
    simpa using this, by rw [hw]; exact ((Kp.refl _ w).alloc _).alloc _⟩

theorem bts_pre (t : ByteArray) (k : Nat) : bts (t.extract 0 k) = (bts t).take k := by rw [bts_extract]; simp
theorem bts_suf (t : ByteArray) (k : Nat) : bts (t.extract k t.size) = (bts t).drop k := by
  rw [bts_extract, List.take_of_length_le (by rw [bts_len]; omega)]
theorem star_zero (x : Rw) (t : ByteArray) : t.toList.isEmpty = starB x (bts t) 0 := by
  rw [ByteArray.toList_eq, Bool.eq_iff_iff]
  simp [starB, bts]
theorem sub_size (t : ByteArray) (i j : Nat) : (t.extract i j).size ≤ t.size := by simp; omega

theorem Pre_c (x : Rw) (t : ByteArray) (k q : Nat) (w : World) (h : NodeAt w x q) (ht : t.size ≤ 12) :
    Calls Try.prog 10 #[ptr q, .string (t.extract 0 k)] w fun e w' => e = .returned (.bool (Rw.matches x ((bts t).take k))) ∧ Kn w w' := by
  have := Matches_c x (t.extract 0 k) q w h (by have := sub_size t 0 k; omega)
  rw [bts_pre] at this; exact this
theorem Suf_c (x : Rw) (t : ByteArray) (k q : Nat) (w : World) (h : NodeAt w x q) (ht : t.size ≤ 12) :
    Calls Try.prog 10 #[ptr q, .string (t.extract k t.size)] w fun e w' => e = .returned (.bool (Rw.matches x ((bts t).drop k))) ∧ Kn w w' := by
  have := Matches_c x (t.extract k t.size) q w h (by have := sub_size t k t.size; omega)
  rw [bts_suf] at this; exact this

set_option maxRecDepth 100000 in
set_option maxHeartbeats 8000000 in
theorem makes_bad (a b t : ByteArray) (ha : a.size ≤ 30) (hb : b.size ≤ 30) (ht : t.size ≤ 12) (hbad : ∀ ta tb, ¬ (parseO a = .ok ta ∧ parseO b = .ok tb)) (w : World) :
    Calls Try.prog 4 #[.string a, .string b, .string t] w fun e w' => e = .returned (.bool true) ∧ Kn w w' := by
  have ha' : ¬ (30 : Int) < a.size := by omega
  have hb' : ¬ (30 : Int) < b.size := by omega
  have ht' : ¬ (12 : Int) < t.size := by omega
  have HBAD := Lib.hid hbad
  clear hbad
  cases hpa : parseO a with
  | ok ta =>
    cases hpb : parseO b with
    | ok tb => exact (HBAD.out ta tb ⟨hpa, hpb⟩).elim
    | err pb nb =>
      have HPA := Lib.hid hpa
      have HPB := Lib.hid hpb
      have eb := parse_err hpb
      clear hpa hpb
      go_enter Try.func4, Try.ntmps4
      go_wp2_with fail
      refine (awake_c w).mono ?_
      rintro e w1 ⟨rfl, hk1⟩
      go_wp2_with fail
      refine (Parse_c a w1 (by omega)).mono ?_
      rintro e w2 ⟨hk2, hm2⟩
      rw [HPA.out] at hm2
      obtain ⟨qa, rfl, hqa, _⟩ := hm2
      go_wp2_with fail
      refine (Parse_c b w2 (by omega)).mono ?_
      rintro e w3 ⟨hk3, hm3⟩
      rw [HPB.out] at hm3
      subst hm3
      have hk3' := (hk1.trans hk2).trans hk3
      have hO := Lib.hid (optrs_two w3 (some qa) none)
      go_wp2_with fail
      refine (Cat_nil [(some qa), none] _ 2 _ hO.out (by simp) 1 (by simp) rfl).mono ?_
      rintro e w4 ⟨rfl, hk4⟩
      have hk4' := (hk3'.alloc (optObj (some qa) none)).trans hk4
      have hO2 := Lib.hid (optrs_two w4 (some qa) none)
      go_wp2_with fail
      refine (Or_nil [(some qa), none] _ 2 _ hO2.out (by simp) 1 (by simp) rfl).mono ?_
      rintro e w5 ⟨rfl, hk5⟩
      go_wp2_with fail
      go_ret
      exact ⟨rfl, (hk4'.alloc (optObj (some qa) none)).trans hk5⟩
  | err pa na =>
    cases hpb : parseO b with
    | ok tb =>
      have HPA := Lib.hid hpa
      have HPB := Lib.hid hpb
      have ea := parse_err hpa
      clear hpa hpb
      go_enter Try.func4, Try.ntmps4
      go_wp2_with fail
      refine (awake_c w).mono ?_
      rintro e w1 ⟨rfl, hk1⟩
      go_wp2_with fail
      refine (Parse_c a w1 (by omega)).mono ?_
      rintro e w2 ⟨hk2, hm2⟩
      rw [HPA.out] at hm2
      subst hm2
      go_wp2_with fail
      refine (Parse_c b w2 (by omega)).mono ?_
      rintro e w3 ⟨hk3, hm3⟩
      rw [HPB.out] at hm3
      obtain ⟨qb, rfl, hqb, _⟩ := hm3
      have hk3' := (hk1.trans hk2).trans hk3
      have hO := Lib.hid (optrs_two w3 none (some qb))
      go_wp2_with fail
      refine (Cat_nil [none, (some qb)] _ 2 _ hO.out (by simp) 0 (by simp) rfl).mono ?_
      rintro e w4 ⟨rfl, hk4⟩
      have hk4' := (hk3'.alloc (optObj none (some qb))).trans hk4
      have hO2 := Lib.hid (optrs_two w4 none (some qb))
      go_wp2_with fail
      refine (Or_nil [none, (some qb)] _ 2 _ hO2.out (by simp) 0 (by simp) rfl).mono ?_
      rintro e w5 ⟨rfl, hk5⟩
      go_wp2_with fail
      go_ret
      exact ⟨rfl, (hk4'.alloc (optObj none (some qb))).trans hk5⟩
    | err pb nb =>
      have HPA := Lib.hid hpa
      have HPB := Lib.hid hpb
      have ea := parse_err hpa
      have eb := parse_err hpb
      clear hpa hpb
      go_enter Try.func4, Try.ntmps4
      go_wp2_with fail
      refine (awake_c w).mono ?_
      rintro e w1 ⟨rfl, hk1⟩
      go_wp2_with fail
      refine (Parse_c a w1 (by omega)).mono ?_
      rintro e w2 ⟨hk2, hm2⟩
      rw [HPA.out] at hm2
      subst hm2
      go_wp2_with fail
      refine (Parse_c b w2 (by omega)).mono ?_
      rintro e w3 ⟨hk3, hm3⟩
      rw [HPB.out] at hm3
      subst hm3
      have hk3' := (hk1.trans hk2).trans hk3
      have hO := Lib.hid (optrs_two w3 none none)
      go_wp2_with fail
      refine (Cat_nil [none, none] _ 2 _ hO.out (by simp) 0 (by simp) rfl).mono ?_
      rintro e w4 ⟨rfl, hk4⟩
      have hk4' := (hk3'.alloc (optObj none none)).trans hk4
      have hO2 := Lib.hid (optrs_two w4 none none)
      go_wp2_with fail
      refine (Or_nil [none, none] _ 2 _ hO2.out (by simp) 0 (by simp) rfl).mono ?_
      rintro e w5 ⟨rfl, hk5⟩
      go_wp2_with fail
      go_ret
      exact ⟨rfl, (hk4'.alloc (optObj none none)).trans hk5⟩

theorem ptrs_nil (w : World) (a : Option Addr) : PtrsAt w a [] := fun _ h => by simp at h
theorem ptrs_one (w : World) (i : Nat) : PtrsAt (w.alloc (loneObj i)) (some ⟨w.heap.size, 0, none⟩) [i] := fun k hk => by
  refine ⟨w.heap.size, rfl, ?_⟩
  rw [cell_blk (blk_new w (loneObj i))]
  match k, hk with
  | 0, _ => rfl

set_option maxRecDepth 100000 in
set_option maxHeartbeats 16000000 in
theorem makes_good (a b t : ByteArray) (ta tb : Rw) (ha : a.size ≤ 30) (hb : b.size ≤ 30) (ht : t.size ≤ 12) (hpa : parseO a = .ok ta) (hpb : parseO b = .ok tb) (w : World) :
    Calls Try.prog 4 #[.string a, .string b, .string t] w fun e w' => e = .returned (.bool true) ∧ Kn w w' := by
  have ha' : ¬ (30 : Int) < a.size := by omega
  have hb' : ¬ (30 : Int) < b.size := by omega
  have ht' : ¬ (12 : Int) < t.size := by omega
  have HPA := Lib.hid hpa
  have HPB := Lib.hid hpb
  clear hpa hpb
  have HS0 := Lib.hid (star_zero ta t)
  have hlen := Lib.hid (bts_len t)
  go_enter Try.func4, Try.ntmps4
  go_wp2_with fail
  refine (awake_c w).mono ?_
  rintro e w1 ⟨rfl, hk1⟩
  go_wp2_with fail
  refine (Parse_c a w1 (by omega)).mono ?_
  rintro e w2 ⟨hk2, hm2⟩
  rw [HPA.out] at hm2
  obtain ⟨qa, rfl, hqa, _⟩ := hm2
  go_wp2_with fail
  refine (Parse_c b w2 (by omega)).mono ?_
  rintro e w3 ⟨hk3, hm3⟩
  rw [HPB.out] at hm3
  obtain ⟨qb, rfl, hqb, _⟩ := hm3
  have hk3' := (hk1.trans hk2).trans hk3
  have hqa3 := hqa.kn hk3
  clear hqa
  go_wp2_with fail
  go_loopw [13, 14, 15] (fun c st i wr => ∃ k : Nat, k ≤ t.size + 1 ∧ i = .int .i64 k ∧ c = .bool (catB ta tb (bts t) k) ∧ st = .bool (starB ta (bts t) k) ∧ NodeAt wr ta qa ∧ NodeAt wr tb qb ∧ Kn w wr) (fun _ _ i _ => t.size + 1 - (intOf i).toNat)
  case atStart => exact ⟨0, Nat.zero_le _, rfl, rfl, by rw [HS0.out], hqa3, hqb, hk3'⟩
  case round =>
    obtain ⟨k, hk, rfl, rfl, rfl, hA, hB, hkn⟩ := hrel
    by_cases hlt : k ≤ t.size
    · have hlt' : (k : Int) ≤ t.size := by omega
      have hk0 : (0 : Int) ≤ (k : Int) := by omega
      have CS : Hid (catB ta tb (bts t) (k + 1) = (catB ta tb (bts t) k || (Rw.matches ta ((bts t).take k) && Rw.matches tb ((bts t).drop k)))) := Lib.hid rfl
      have SS : Hid (starB ta (bts t) (k + 1) = (starB ta (bts t) k || (decide (0 < k) && Rw.matches ta ((bts t).take k) && Rw.matches (.star ta) ((bts t).drop k)))) := Lib.hid rfl
      obtain ⟨m1, hm1⟩ : ∃ m, m = Rw.matches ta ((bts t).take k) := ⟨_, rfl⟩
      obtain ⟨m2, hm2⟩ : ∃ m, m = Rw.matches tb ((bts t).drop k) := ⟨_, rfl⟩
      obtain ⟨m3, hm3⟩ : ∃ m, m = Rw.matches (.star ta) ((bts t).drop k) := ⟨_, rfl⟩
      obtain ⟨c0, hc0⟩ : ∃ c, c = catB ta tb (bts t) k := ⟨_, rfl⟩
      obtain ⟨s0, hs0⟩ : ∃ c, c = starB ta (bts t) k := ⟨_, rfl⟩
      rw [← hc0, ← hs0]
      have M1 := Lib.hid hm1
      have M2 := Lib.hid hm2
      have M3 := Lib.hid hm3
      have C0 := Lib.hid hc0
      have S0 := Lib.hid hs0
      have CS' : Hid (catB ta tb (bts t) (k + 1) = (c0 || (m1 && m2))) := Lib.hid (by rw [CS.out, M1.out, M2.out, C0.out])
      have SS' : Hid (starB ta (bts t) (k + 1) = (s0 || (decide (0 < k) && m1 && m3))) := Lib.hid (by rw [SS.out, M1.out, M3.out, S0.out])
      clear hm1 hm2 hm3 hc0 hs0 CS SS
      cases c0 with
      | true =>
        obtain ⟨W, hW⟩ : ∃ W, W = wr := ⟨_, rfl⟩
        rw [← hW] at hA hB hkn
        rw [← hW]
        clear hW
        cases s0 with
        | true =>
          go_wp2_with fail
          go_quiet (fail)
          go_wp2_with fail
          go_roundw
          case rel => exact ⟨k + 1, by omega, by go_num, by rw [CS'.out]; simp, by rw [SS'.out]; simp, hA.drewN _, hB.drewN _, hkn.drewN _⟩
          case measure => simp [intOf]; omega
        | false =>
          by_cases hk1 : 0 < k
          · have hk1' : (0 : Int) < (k : Int) := by omega
            cases m1 with
            | false =>
              have HK : Kn W W.drew := (Kp.refl _ _).drew
              go_wp2_with fail
              refine wp_region_any (by kernel_rfl) ?_
              change wpAny _ _ _ _ _ _ _ (World.drew _)
              refine wpAny_take (i := 0) (oi := Oper.mk (some 88) _ _ _ _ _) (v := ?_) rfl (by kernel_rfl) (by kernel_rfl) (by kernel_rfl) (fun _ _ _ h => h) (Or.inl ⟨by rfl, ?_⟩) ?_
              rotate_left
              · (intro w; go_simp; try with_reducible rfl)
              try simp only [Act.put, List.setIfInBounds_toArray, List.set_cons_zero, List.set_cons_succ]
              refine wpAny_take (i := 1) (oi := Oper.mk (some 89) _ _ _ _ _) (v := ?_) rfl (by kernel_rfl) (by kernel_rfl) (by kernel_rfl) (fun _ _ _ h => h) (Or.inl ⟨by rfl, ?_⟩) ?_
              rotate_left
              · (intro w; go_simp; try with_reducible rfl)
              try simp only [Act.put, List.setIfInBounds_toArray, List.set_cons_zero, List.set_cons_succ]
              refine wpAny_take (i := 2) (oi := Oper.mk (some 90) _ _ _ _ _) (v := ?_) rfl (by kernel_rfl) (by kernel_rfl) (by kernel_rfl) (fun _ _ _ h => h) (Or.inl ⟨by rfl, ?_⟩) ?_
              rotate_left
              · (intro w; go_simp; try with_reducible rfl)
              try simp only [Act.put, List.setIfInBounds_toArray, List.set_cons_zero, List.set_cons_succ]
              refine wpAny_take (i := 3) (oi := Oper.mk (some 91) _ _ _ _ _) (v := ?_) rfl (by kernel_rfl) (by kernel_rfl) (by kernel_rfl) (fun _ _ _ h => h) (Or.inl ⟨by rfl, ?_⟩) ?_
              rotate_left
              · (intro w; go_simp; try with_reducible rfl)
              try simp only [Act.put, List.setIfInBounds_toArray, List.set_cons_zero, List.set_cons_succ]
              refine wpAny_take (i := 4) (oi := Oper.mk (some 92) _ _ _ _ _) (v := ?_) rfl (by kernel_rfl) (by kernel_rfl) (by kernel_rfl) (fun _ _ _ h => h) (Or.inl ⟨by rfl, ?_⟩) ?_
              rotate_left
              · (intro w; go_simp; try with_reducible rfl)
              try simp only [Act.put, List.setIfInBounds_toArray, List.set_cons_zero, List.set_cons_succ]
              refine wpAny_take (i := 5) (oi := Oper.mk (some 93) _ _ _ _ _) (v := ?_) rfl (by kernel_rfl) (by kernel_rfl) (by kernel_rfl) (fun _ _ _ h => h) (Or.inl ⟨by rfl, ?_⟩) ?_
              rotate_left
              · (intro w; go_simp; try with_reducible rfl)
              try simp only [Act.put, List.setIfInBounds_toArray, List.set_cons_zero, List.set_cons_succ]
              refine wpAny_take (i := 6) (oi := Oper.mk (some 94) _ _ _ _ _) (v := ?_) rfl (by kernel_rfl) (by kernel_rfl) (by kernel_rfl) (fun _ _ _ h => h) (Or.inl ⟨by rfl, ?_⟩) ?_
              rotate_left
              · (intro w; go_simp; try with_reducible rfl)
              try simp only [Act.put, List.setIfInBounds_toArray, List.set_cons_zero, List.set_cons_succ]
              refine wpAny_take (i := 7) (oi := Oper.mk (some 95) _ _ _ _ _) (v := ?_) rfl (by kernel_rfl) (by kernel_rfl) (by kernel_rfl) (fun _ _ _ h => h) (Or.inl ⟨by rfl, ?_⟩) ?_
              rotate_left
              · (intro w; go_simp; try with_reducible rfl)
              try simp only [Act.put, List.setIfInBounds_toArray, List.set_cons_zero, List.set_cons_succ]
              refine wpAny_take (i := 8) (oi := Oper.mk (some 96) _ _ _ _ _) (v := ?_) rfl (by kernel_rfl) (by kernel_rfl) (by kernel_rfl) (fun _ _ _ h => h) (Or.inl ⟨by rfl, ?_⟩) ?_
              rotate_left
              · (intro w; go_simp; try with_reducible rfl)
              try simp only [Act.put, List.setIfInBounds_toArray, List.set_cons_zero, List.set_cons_succ]
              refine wpAny_ready (rs := [9]) (by kernel_rfl) (by simp) (AllReady.cons (o := Oper.mk (some 97) _ _ _ _ _) rfl (fun K hK => ?_) AllReady.nil)
              go_simp
              go_at_call 10
              refine (Pre_c ta t k qa _ (hA.kn HK) ht).mono ?_
              rintro e wx ⟨rfl, hkx⟩
              rw [← M1.out]
              replace HK := Kp.trans HK hkx
              go_wp2_with fail
              try simp only [Act.put, List.setIfInBounds_toArray, List.set_cons_zero, List.set_cons_succ]
              refine wpAny_take (i := 10) (oi := Oper.mk (some 98) _ _ _ _ _) (v := ?_) rfl (by kernel_rfl) (by kernel_rfl) (by kernel_rfl) (fun _ _ _ h => h) (Or.inl ⟨by rfl, ?_⟩) ?_
              rotate_left
              · (intro w; go_simp; try with_reducible rfl)
              try simp only [Act.put, List.setIfInBounds_toArray, List.set_cons_zero, List.set_cons_succ]
              refine wpAny_take (i := 11) (oi := Oper.mk (some 99) _ _ _ _ _) (v := ?_) rfl (by kernel_rfl) (by kernel_rfl) (by kernel_rfl) (fun _ _ _ h => h) (Or.inl ⟨by rfl, ?_⟩) ?_
              rotate_left
              · (intro w; go_simp; try with_reducible rfl)
              try simp only [Act.put, List.setIfInBounds_toArray, List.set_cons_zero, List.set_cons_succ]
              refine wpAny_take (i := 12) (oi := Oper.mk (some 100) _ _ _ _ _) (v := undef) rfl (by kernel_rfl) (by kernel_rfl) (by kernel_rfl) (fun _ _ _ h => h) (Or.inr ⟨by rfl, rfl⟩) ?_
              try simp only [Act.put, List.setIfInBounds_toArray, List.set_cons_zero, List.set_cons_succ]
              refine wpAny_take (i := 14) (oi := Oper.mk (some 102) _ _ _ _ _) (v := undef) rfl (by kernel_rfl) (by kernel_rfl) (by kernel_rfl) (fun _ _ _ h => h) (Or.inr ⟨by rfl, rfl⟩) ?_
              try simp only [Act.put, List.setIfInBounds_toArray, List.set_cons_zero, List.set_cons_succ]
              refine wpAny_take (i := 15) (oi := Oper.mk (some 103) _ _ _ _ _) (v := undef) rfl (by kernel_rfl) (by kernel_rfl) (by kernel_rfl) (fun _ _ _ h => h) (Or.inr ⟨by rfl, rfl⟩) ?_
              try simp only [Act.put, List.setIfInBounds_toArray, List.set_cons_zero, List.set_cons_succ]
              refine wpAny_take (i := 16) (oi := Oper.mk (some 104) _ _ _ _ _) (v := undef) rfl (by kernel_rfl) (by kernel_rfl) (by kernel_rfl) (fun _ _ _ h => h) (Or.inr ⟨by rfl, rfl⟩) ?_
              try simp only [Act.put, List.setIfInBounds_toArray, List.set_cons_zero, List.set_cons_succ]
              refine wpAny_ready (rs := [13]) (by kernel_rfl) (by simp) (AllReady.cons (o := Oper.mk (some 101) _ _ _ _ _) rfl (fun K hK => ?_) AllReady.nil)
              go_simp
              refine hK _ _ ?_
              clear hK K
              try simp only [Act.put, List.setIfInBounds_toArray, List.set_cons_zero, List.set_cons_succ]
              refine wpAny_ready (rs := [17]) (by kernel_rfl) (by simp) (AllReady.cons (o := Oper.mk (some 105) _ _ _ _ _) rfl (fun K hK => ?_) AllReady.nil)
              go_simp
              refine hK _ _ ?_
              clear hK K
              try simp only [Act.put, List.setIfInBounds_toArray, List.set_cons_zero, List.set_cons_succ]
              refine wpAny_take (i := 18) (oi := Oper.mk (some 106) _ _ _ _ _) (v := ?_) rfl (by kernel_rfl) (by kernel_rfl) (by kernel_rfl) (fun _ _ _ h => h) (Or.inl ⟨by rfl, ?_⟩) ?_
              rotate_left
              · (intro w; go_simp; try with_reducible rfl)
              try simp only [Act.put, List.setIfInBounds_toArray, List.set_cons_zero, List.set_cons_succ]
              refine wpAny_take (i := 19) (oi := Oper.mk (some 107) _ _ _ _ _) (v := ?_) rfl (by kernel_rfl) (by kernel_rfl) (by kernel_rfl) (fun _ _ _ h => h) (Or.inl ⟨by rfl, ?_⟩) ?_
              rotate_left
              · (intro w; go_simp; try with_reducible rfl)
              try simp only [Act.put, List.setIfInBounds_toArray, List.set_cons_zero, List.set_cons_succ]
              refine wpAny_take (i := 20) (oi := Oper.mk (some 14) _ _ _ _ _) (v := ?_) rfl (by kernel_rfl) (by kernel_rfl) (by kernel_rfl) (fun _ _ _ h => h) (Or.inl ⟨by rfl, ?_⟩) ?_
              rotate_left
              · (intro w; go_simp; try with_reducible rfl)
              try simp only [Act.put, List.setIfInBounds_toArray, List.set_cons_zero, List.set_cons_succ]

              refine wpAny_done (by kernel_rfl) ?_ _
              have hA2 := hA.kn HK
              have hB2 := hB.kn HK
              have hkn2 := hkn.trans HK
              clear hA hB hkn

              go_wp2_with fail
              go_roundw
              case rel => exact ⟨k + 1, by omega, by go_num, by rw [CS'.out]; simp, by rw [SS'.out]; simp, hA2, hB2, hkn2⟩
              case measure => simp [intOf]; omega
            | true =>
              have HK : Kn W W.drew := (Kp.refl _ _).drew
              go_wp2_with fail
              go_region_held3 (fun _ => True) (trivial)
                (first
                  | (go_at_call_of 10 (ptr qa); refine (Pre_c ta t k qa _ ?_ ht).mono ?_; (exact hA.kn HK); rintro e wx ⟨rfl, hkx⟩; rw [← M1.out]; replace HK := Kp.trans HK hkx)
                  | (go_at_call 15; refine (StarAt_c ta qa _ ?_).mono ?_; (exact hA.kn HK); rintro e wy ⟨qs, rfl, hqs, hky⟩; replace HK := Kp.trans HK hky)
                  | (go_at_call 10; refine (Suf_c (.star ta) t k _ _ ?_ ht).mono ?_; (exact hqs); rintro e wz ⟨rfl, hkz⟩; rw [← M3.out]; replace HK := Kp.trans HK hkz)
                  | fail)
              have hA2 := hA.kn HK
              have hB2 := hB.kn HK
              have hkn2 := hkn.trans HK
              clear hA hB hkn

              go_wp2_with fail
              go_roundw
              case rel => exact ⟨k + 1, by omega, by go_num, by rw [CS'.out]; simp, by rw [SS'.out]; simp [hk1], hA2, hB2, hkn2⟩
              case measure => simp [intOf]; omega
          · have hk1' : ¬ (0 : Int) < (k : Int) := by omega
            go_wp2_with fail
            go_quiet (fail)
            go_wp2_with fail
            go_roundw
            case rel => exact ⟨k + 1, by omega, by go_num, by rw [CS'.out]; simp, by rw [SS'.out]; simp [hk1], hA.drewN _, hB.drewN _, hkn.drewN _⟩
            case measure => simp [intOf]; omega
      | false =>
        cases m1 with
        | false =>
          go_wp2_with fail
          refine (Pre_c ta t k qa wr hA ht).mono ?_
          rintro e W ⟨rfl, hkW⟩
          rw [← M1.out]
          replace hA := hA.kn hkW
          replace hB := hB.kn hkW
          replace hkn := hkn.trans hkW
          cases s0 with
          | true =>
            go_wp2_with fail
            go_quiet (fail)
            go_wp2_with fail
            go_roundw
            case rel => exact ⟨k + 1, by omega, by go_num, by rw [CS'.out]; simp, by rw [SS'.out]; simp, hA.drewN _, hB.drewN _, hkn.drewN _⟩
            case measure => simp [intOf]; omega
          | false =>
            by_cases hk1 : 0 < k
            · have hk1' : (0 : Int) < (k : Int) := by omega
              have HK : Kn W W.drew := (Kp.refl _ _).drew
              go_wp2_with fail
              refine wp_region_any (by kernel_rfl) ?_
              change wpAny _ _ _ _ _ _ _ (World.drew _)
              refine wpAny_take (i := 0) (oi := Oper.mk (some 88) _ _ _ _ _) (v := ?_) rfl (by kernel_rfl) (by kernel_rfl) (by kernel_rfl) (fun _ _ _ h => h) (Or.inl ⟨by rfl, ?_⟩) ?_
              rotate_left
              · (intro w; go_simp; try with_reducible rfl)
              try simp only [Act.put, List.setIfInBounds_toArray, List.set_cons_zero, List.set_cons_succ]
              refine wpAny_take (i := 1) (oi := Oper.mk (some 89) _ _ _ _ _) (v := ?_) rfl (by kernel_rfl) (by kernel_rfl) (by kernel_rfl) (fun _ _ _ h => h) (Or.inl ⟨by rfl, ?_⟩) ?_
              rotate_left
              · (intro w; go_simp; try with_reducible rfl)
              try simp only [Act.put, List.setIfInBounds_toArray, List.set_cons_zero, List.set_cons_succ]
              refine wpAny_take (i := 2) (oi := Oper.mk (some 90) _ _ _ _ _) (v := ?_) rfl (by kernel_rfl) (by kernel_rfl) (by kernel_rfl) (fun _ _ _ h => h) (Or.inl ⟨by rfl, ?_⟩) ?_
              rotate_left
              · (intro w; go_simp; try with_reducible rfl)
              try simp only [Act.put, List.setIfInBounds_toArray, List.set_cons_zero, List.set_cons_succ]
              refine wpAny_take (i := 3) (oi := Oper.mk (some 91) _ _ _ _ _) (v := ?_) rfl (by kernel_rfl) (by kernel_rfl) (by kernel_rfl) (fun _ _ _ h => h) (Or.inl ⟨by rfl, ?_⟩) ?_
              rotate_left
              · (intro w; go_simp; try with_reducible rfl)
              try simp only [Act.put, List.setIfInBounds_toArray, List.set_cons_zero, List.set_cons_succ]
              refine wpAny_take (i := 4) (oi := Oper.mk (some 92) _ _ _ _ _) (v := ?_) rfl (by kernel_rfl) (by kernel_rfl) (by kernel_rfl) (fun _ _ _ h => h) (Or.inl ⟨by rfl, ?_⟩) ?_
              rotate_left
              · (intro w; go_simp; try with_reducible rfl)
              try simp only [Act.put, List.setIfInBounds_toArray, List.set_cons_zero, List.set_cons_succ]
              refine wpAny_take (i := 5) (oi := Oper.mk (some 93) _ _ _ _ _) (v := ?_) rfl (by kernel_rfl) (by kernel_rfl) (by kernel_rfl) (fun _ _ _ h => h) (Or.inl ⟨by rfl, ?_⟩) ?_
              rotate_left
              · (intro w; go_simp; try with_reducible rfl)
              try simp only [Act.put, List.setIfInBounds_toArray, List.set_cons_zero, List.set_cons_succ]
              refine wpAny_take (i := 6) (oi := Oper.mk (some 94) _ _ _ _ _) (v := ?_) rfl (by kernel_rfl) (by kernel_rfl) (by kernel_rfl) (fun _ _ _ h => h) (Or.inl ⟨by rfl, ?_⟩) ?_
              rotate_left
              · (intro w; go_simp; try with_reducible rfl)
              try simp only [Act.put, List.setIfInBounds_toArray, List.set_cons_zero, List.set_cons_succ]
              refine wpAny_take (i := 7) (oi := Oper.mk (some 95) _ _ _ _ _) (v := ?_) rfl (by kernel_rfl) (by kernel_rfl) (by kernel_rfl) (fun _ _ _ h => h) (Or.inl ⟨by rfl, ?_⟩) ?_
              rotate_left
              · (intro w; go_simp; try with_reducible rfl)
              try simp only [Act.put, List.setIfInBounds_toArray, List.set_cons_zero, List.set_cons_succ]
              refine wpAny_take (i := 8) (oi := Oper.mk (some 96) _ _ _ _ _) (v := ?_) rfl (by kernel_rfl) (by kernel_rfl) (by kernel_rfl) (fun _ _ _ h => h) (Or.inl ⟨by rfl, ?_⟩) ?_
              rotate_left
              · (intro w; go_simp; try with_reducible rfl)
              try simp only [Act.put, List.setIfInBounds_toArray, List.set_cons_zero, List.set_cons_succ]
              refine wpAny_ready (rs := [9]) (by kernel_rfl) (by simp) (AllReady.cons (o := Oper.mk (some 97) _ _ _ _ _) rfl (fun K hK => ?_) AllReady.nil)
              go_simp
              go_at_call 10
              refine (Pre_c ta t k qa _ (hA.kn HK) ht).mono ?_
              rintro e wx ⟨rfl, hkx⟩
              rw [← M1.out]
              replace HK := Kp.trans HK hkx
              go_wp2_with fail
              try simp only [Act.put, List.setIfInBounds_toArray, List.set_cons_zero, List.set_cons_succ]
              refine wpAny_take (i := 10) (oi := Oper.mk (some 98) _ _ _ _ _) (v := ?_) rfl (by kernel_rfl) (by kernel_rfl) (by kernel_rfl) (fun _ _ _ h => h) (Or.inl ⟨by rfl, ?_⟩) ?_
              rotate_left
              · (intro w; go_simp; try with_reducible rfl)
              try simp only [Act.put, List.setIfInBounds_toArray, List.set_cons_zero, List.set_cons_succ]
              refine wpAny_take (i := 11) (oi := Oper.mk (some 99) _ _ _ _ _) (v := ?_) rfl (by kernel_rfl) (by kernel_rfl) (by kernel_rfl) (fun _ _ _ h => h) (Or.inl ⟨by rfl, ?_⟩) ?_
              rotate_left
              · (intro w; go_simp; try with_reducible rfl)
              try simp only [Act.put, List.setIfInBounds_toArray, List.set_cons_zero, List.set_cons_succ]
              refine wpAny_take (i := 12) (oi := Oper.mk (some 100) _ _ _ _ _) (v := undef) rfl (by kernel_rfl) (by kernel_rfl) (by kernel_rfl) (fun _ _ _ h => h) (Or.inr ⟨by rfl, rfl⟩) ?_
              try simp only [Act.put, List.setIfInBounds_toArray, List.set_cons_zero, List.set_cons_succ]
              refine wpAny_take (i := 14) (oi := Oper.mk (some 102) _ _ _ _ _) (v := undef) rfl (by kernel_rfl) (by kernel_rfl) (by kernel_rfl) (fun _ _ _ h => h) (Or.inr ⟨by rfl, rfl⟩) ?_
              try simp only [Act.put, List.setIfInBounds_toArray, List.set_cons_zero, List.set_cons_succ]
              refine wpAny_take (i := 15) (oi := Oper.mk (some 103) _ _ _ _ _) (v := undef) rfl (by kernel_rfl) (by kernel_rfl) (by kernel_rfl) (fun _ _ _ h => h) (Or.inr ⟨by rfl, rfl⟩) ?_
              try simp only [Act.put, List.setIfInBounds_toArray, List.set_cons_zero, List.set_cons_succ]
              refine wpAny_take (i := 16) (oi := Oper.mk (some 104) _ _ _ _ _) (v := undef) rfl (by kernel_rfl) (by kernel_rfl) (by kernel_rfl) (fun _ _ _ h => h) (Or.inr ⟨by rfl, rfl⟩) ?_
              try simp only [Act.put, List.setIfInBounds_toArray, List.set_cons_zero, List.set_cons_succ]
              refine wpAny_ready (rs := [13]) (by kernel_rfl) (by simp) (AllReady.cons (o := Oper.mk (some 101) _ _ _ _ _) rfl (fun K hK => ?_) AllReady.nil)
              go_simp
              refine hK _ _ ?_
              clear hK K
              try simp only [Act.put, List.setIfInBounds_toArray, List.set_cons_zero, List.set_cons_succ]
              refine wpAny_ready (rs := [17]) (by kernel_rfl) (by simp) (AllReady.cons (o := Oper.mk (some 105) _ _ _ _ _) rfl (fun K hK => ?_) AllReady.nil)
              go_simp
              refine hK _ _ ?_
              clear hK K
              try simp only [Act.put, List.setIfInBounds_toArray, List.set_cons_zero, List.set_cons_succ]
              refine wpAny_take (i := 18) (oi := Oper.mk (some 106) _ _ _ _ _) (v := ?_) rfl (by kernel_rfl) (by kernel_rfl) (by kernel_rfl) (fun _ _ _ h => h) (Or.inl ⟨by rfl, ?_⟩) ?_
              rotate_left
              · (intro w; go_simp; try with_reducible rfl)
              try simp only [Act.put, List.setIfInBounds_toArray, List.set_cons_zero, List.set_cons_succ]
              refine wpAny_take (i := 19) (oi := Oper.mk (some 107) _ _ _ _ _) (v := ?_) rfl (by kernel_rfl) (by kernel_rfl) (by kernel_rfl) (fun _ _ _ h => h) (Or.inl ⟨by rfl, ?_⟩) ?_
              rotate_left
              · (intro w; go_simp; try with_reducible rfl)
              try simp only [Act.put, List.setIfInBounds_toArray, List.set_cons_zero, List.set_cons_succ]
              refine wpAny_take (i := 20) (oi := Oper.mk (some 14) _ _ _ _ _) (v := ?_) rfl (by kernel_rfl) (by kernel_rfl) (by kernel_rfl) (fun _ _ _ h => h) (Or.inl ⟨by rfl, ?_⟩) ?_
              rotate_left
              · (intro w; go_simp; try with_reducible rfl)
              try simp only [Act.put, List.setIfInBounds_toArray, List.set_cons_zero, List.set_cons_succ]

              refine wpAny_done (by kernel_rfl) ?_ _
              have hA2 := hA.kn HK
              have hB2 := hB.kn HK
              have hkn2 := hkn.trans HK
              clear hA hB hkn

              go_wp2_with fail
              go_roundw
              case rel => exact ⟨k + 1, by omega, by go_num, by rw [CS'.out]; simp, by rw [SS'.out]; simp, hA2, hB2, hkn2⟩
              case measure => simp [intOf]; omega
            · have hk1' : ¬ (0 : Int) < (k : Int) := by omega
              go_wp2_with fail
              go_quiet (fail)
              go_wp2_with fail
              go_roundw
              case rel => exact ⟨k + 1, by omega, by go_num, by rw [CS'.out]; simp, by rw [SS'.out]; simp [hk1], hA.drewN _, hB.drewN _, hkn.drewN _⟩
              case measure => simp [intOf]; omega
        | true =>
          go_wp2_with fail
          refine (Pre_c ta t k qa wr hA ht).mono ?_
          rintro e W1 ⟨rfl, hkW1⟩
          rw [← M1.out]
          go_wp2_with fail
          refine (Suf_c tb t k qb W1 (hB.kn hkW1) ht).mono ?_
          rintro e W ⟨rfl, hkW2⟩
          rw [← M2.out]
          have hkW := hkW1.trans hkW2
          replace hA := hA.kn hkW
          replace hB := hB.kn hkW
          replace hkn := hkn.trans hkW
          cases s0 with
          | true =>
            go_wp2_with fail
            go_quiet (fail)
            go_wp2_with fail
            go_roundw
            case rel => exact ⟨k + 1, by omega, by go_num, by rw [CS'.out]; simp, by rw [SS'.out]; simp, hA.drewN _, hB.drewN _, hkn.drewN _⟩
            case measure => simp [intOf]; omega
          | false =>
            by_cases hk1 : 0 < k
            · have hk1' : (0 : Int) < (k : Int) := by omega
              have HK : Kn W W.drew := (Kp.refl _ _).drew
              go_wp2_with fail
              go_region_held3 (fun _ => True) (trivial)
                (first
                  | (go_at_call_of 10 (ptr qa); refine (Pre_c ta t k qa _ ?_ ht).mono ?_; (exact hA.kn HK); rintro e wx ⟨rfl, hkx⟩; rw [← M1.out]; replace HK := Kp.trans HK hkx)
                  | (go_at_call 15; refine (StarAt_c ta qa _ ?_).mono ?_; (exact hA.kn HK); rintro e wy ⟨qs, rfl, hqs, hky⟩; replace HK := Kp.trans HK hky)
                  | (go_at_call 10; refine (Suf_c (.star ta) t k _ _ ?_ ht).mono ?_; (exact hqs); rintro e wz ⟨rfl, hkz⟩; rw [← M3.out]; replace HK := Kp.trans HK hkz)
                  | fail)
              have hA2 := hA.kn HK
              have hB2 := hB.kn HK
              have hkn2 := hkn.trans HK
              clear hA hB hkn

              go_wp2_with fail
              go_roundw
              case rel => exact ⟨k + 1, by omega, by go_num, by rw [CS'.out]; simp, by rw [SS'.out]; simp [hk1], hA2, hB2, hkn2⟩
              case measure => simp [intOf]; omega
            · have hk1' : ¬ (0 : Int) < (k : Int) := by omega
              go_wp2_with fail
              go_quiet (fail)
              go_wp2_with fail
              go_roundw
              case rel => exact ⟨k + 1, by omega, by go_num, by rw [CS'.out]; simp, by rw [SS'.out]; simp [hk1], hA.drewN _, hB.drewN _, hkn.drewN _⟩
              case measure => simp [intOf]; omega
    · have HC := Lib.hid (catB_end ta tb (bts t) k (by rw [bts_len]; omega) (by rw [bts_len]; omega))
      have HS := Lib.hid (starB_end ta (bts t) k (by rw [bts_len]; omega) (by rw [bts_len]; omega))
      have HO := Lib.hid (Rw.matches_or ta tb (bts t))
      have HE := Lib.hid (m_empty t)
      have HN := Lib.hid (Rw.matches_none (bts t))
      have HE := Lib.hid (m_empty t)
      have HN := Lib.hid (Rw.matches_none (bts t))
      obtain ⟨cB, hcB⟩ : ∃ c, c = catB ta tb (bts t) k := ⟨_, rfl⟩
      obtain ⟨sB, hsB⟩ : ∃ c, c = starB ta (bts t) k := ⟨_, rfl⟩
      rw [← hcB, ← hsB]
      have CB := Lib.hid hcB
      have SB := Lib.hid hsB
      obtain ⟨mx, hmx⟩ : ∃ m, m = Rw.matches ta (bts t) := ⟨_, rfl⟩
      obtain ⟨my, hmy⟩ : ∃ m, m = Rw.matches tb (bts t) := ⟨_, rfl⟩
      have MX := Lib.hid hmx
      have MY := Lib.hid hmy
      clear hcB hsB hmx hmy
      have htb : t.size ≤ 9223372036854775807 := by omega
      have hlt' : ¬ (k : Int) ≤ t.size := by omega
      cases mx with
      | true =>
        go_wp2_with fail
        refine (Matches_c ta t qa wr hA htb).mono ?_
        rintro e W ⟨rfl, hkW⟩
        rw [← MX.out]
        replace hA := hA.kn hkW
        replace hB := hB.kn hkW
        replace hkn := hkn.trans hkW
        clear hkW
        have hk1a : Kn W (W.alloc (pairObj qa qb)) := (Kp.refl _ _).alloc _
        have hrow1 : RowAt (W.alloc (pairObj qa qb)) [ta, tb] [qa, qb] := .cons (hA.kn hk1a) (.cons (hB.kn hk1a) .nil)
        have hpt1 := Lib.hid (ptrs_two W qa qb)
        go_wp2_with fail
        refine (Cat_c [ta, tb] [qa, qb] _ 2 _ hrow1 hpt1.out (by simp)).mono ?_
        rintro e W2 ⟨q2, rfl, hq2, hk2⟩
        have hq2' : NodeAt W2 (.cat ta tb) q2 := hq2
        replace hA := hA.kn (hk1a.trans hk2)
        replace hB := hB.kn (hk1a.trans hk2)
        replace hkn := hkn.trans (hk1a.trans hk2)
        clear hrow1 hk1a hk2 hq2 hpt1
        go_wp2_with fail
        refine (Matches_c _ t q2 W2 hq2' htb).mono ?_
        rintro e W3 ⟨rfl, hk3⟩
        rw [HC.out, ← CB.out]
        replace hA := hA.kn hk3
        replace hB := hB.kn hk3
        replace hkn := hkn.trans hk3
        clear hk3 hq2'
        have hk1b : Kn W3 (W3.alloc (pairObj qa qb)) := (Kp.refl _ _).alloc _
        have hrow2 : RowAt (W3.alloc (pairObj qa qb)) [ta, tb] [qa, qb] := .cons (hA.kn hk1b) (.cons (hB.kn hk1b) .nil)
        have hpt2 := Lib.hid (ptrs_two W3 qa qb)
        go_wp2_with fail
        refine (Or_c [ta, tb] [qa, qb] _ 2 _ hrow2 hpt2.out (by simp)).mono ?_
        rintro e W4 ⟨q4, rfl, hq4, hk4⟩
        have hq4' : NodeAt W4 (.or ta tb) q4 := hq4
        replace hA := hA.kn (hk1b.trans hk4)
        replace hB := hB.kn (hk1b.trans hk4)
        replace hkn := hkn.trans (hk1b.trans hk4)
        clear hrow2 hk1b hk4 hq4 hpt2
        go_wp2_with fail
        refine (Matches_c _ t q4 W4 hq4' htb).mono ?_
        rintro e W5 ⟨rfl, hk5⟩
        rw [HO.out, ← MX.out, ← MY.out]
        replace hA := hA.kn hk5
        replace hkn := hkn.trans hk5
        clear hk5 hq4' hB
        go_wp2_with fail
        refine (StarAt_c ta qa W5 hA).mono ?_
        rintro e W6 ⟨q6, rfl, hq6, hk6⟩
        replace hA := hA.kn hk6
        replace hkn := hkn.trans hk6
        clear hk6
        go_wp2_with fail
        refine (Matches_c _ t q6 W6 hq6 htb).mono ?_
        rintro e W7 ⟨rfl, hk7⟩
        rw [HS.out, ← SB.out]
        replace hA := hA.kn hk7
        replace hkn := hkn.trans hk7
        clear hk7 hq6
        go_wp2_with fail
        refine (Cat_c [] [] none 0 W7 .nil (ptrs_nil _ _) (by simp)).mono ?_
        rintro e W8 ⟨q8, rfl, hq8, hk8⟩
        have hq8' : NodeAt W8 .empty q8 := hq8
        replace hA := hA.kn hk8
        replace hkn := hkn.trans hk8
        clear hk8 hq8
        go_wp2_with fail
        refine (Matches_c _ t q8 W8 hq8' htb).mono ?_
        rintro e W9 ⟨rfl, hk9⟩
        rw [HE.out]
        replace hA := hA.kn hk9
        replace hkn := hkn.trans hk9
        clear hk9 hq8'
        go_wp2_with fail
        refine (Or_c [] [] none 0 W9 .nil (ptrs_nil _ _) (by simp)).mono ?_
        rintro e W10 ⟨q10, rfl, hq10, hk10⟩
        have hq10' : NodeAt W10 Rw.none q10 := hq10
        replace hA := hA.kn hk10
        replace hkn := hkn.trans hk10
        clear hk10 hq10
        go_wp2_with fail
        refine (Matches_c _ t q10 W10 hq10' htb).mono ?_
        rintro e W11 ⟨rfl, hk11⟩
        rw [HN.out]
        replace hA := hA.kn hk11
        replace hkn := hkn.trans hk11
        clear hk11 hq10'
        have hk1c : Kn W11 (W11.alloc (loneObj qa)) := (Kp.refl _ _).alloc _
        have hrow3 : RowAt (W11.alloc (loneObj qa)) [ta] [qa] := .cons (hA.kn hk1c) .nil
        have hpt3 := Lib.hid (ptrs_one W11 qa)
        go_wp2_with fail
        refine (Cat_c [ta] [qa] _ 1 _ hrow3 hpt3.out (by simp)).mono ?_
        rintro e W12 ⟨q12, rfl, hq12, hk12⟩
        have hq12' : NodeAt W12 ta q12 := hq12
        replace hA := hA.kn (hk1c.trans hk12)
        replace hkn := hkn.trans (hk1c.trans hk12)
        clear hk12 hq12 hk1c hrow3 hpt3
        go_wp2_with fail
        refine (Matches_c _ t q12 W12 hq12' htb).mono ?_
        rintro e W13 ⟨rfl, hk13⟩
        rw [← MX.out]
        replace hA := hA.kn hk13
        replace hkn := hkn.trans hk13
        clear hk13 hq12'
        go_wp2_with fail
        refine (Matches_c _ t qa W13 hA htb).mono ?_
        rintro e W14 ⟨rfl, hk14⟩
        rw [← MX.out]
        replace hkn := hkn.trans hk14
        go_wp2_with fail
        go_ret
        exact ⟨by simp, hkn⟩
      | false =>
        go_wp2_with fail
        refine (Matches_c ta t qa wr hA htb).mono ?_
        rintro e W1 ⟨rfl, hkW1⟩
        rw [← MX.out]
        go_wp2_with fail
        refine (Matches_c tb t qb W1 (hB.kn hkW1) htb).mono ?_
        rintro e W ⟨rfl, hkW2⟩
        rw [← MY.out]
        have hkW := hkW1.trans hkW2
        replace hA := hA.kn hkW
        replace hB := hB.kn hkW
        replace hkn := hkn.trans hkW
        clear hkW hkW1 hkW2
        have hk1a : Kn W (W.alloc (pairObj qa qb)) := (Kp.refl _ _).alloc _
        have hrow1 : RowAt (W.alloc (pairObj qa qb)) [ta, tb] [qa, qb] := .cons (hA.kn hk1a) (.cons (hB.kn hk1a) .nil)
        have hpt1 := Lib.hid (ptrs_two W qa qb)
        go_wp2_with fail
        refine (Cat_c [ta, tb] [qa, qb] _ 2 _ hrow1 hpt1.out (by simp)).mono ?_
        rintro e W2 ⟨q2, rfl, hq2, hk2⟩
        have hq2' : NodeAt W2 (.cat ta tb) q2 := hq2
        replace hA := hA.kn (hk1a.trans hk2)
        replace hB := hB.kn (hk1a.trans hk2)
        replace hkn := hkn.trans (hk1a.trans hk2)
        clear hrow1 hk1a hk2 hq2 hpt1
        go_wp2_with fail
        refine (Matches_c _ t q2 W2 hq2' htb).mono ?_
        rintro e W3 ⟨rfl, hk3⟩
        rw [HC.out, ← CB.out]
        replace hA := hA.kn hk3
        replace hB := hB.kn hk3
        replace hkn := hkn.trans hk3
        clear hk3 hq2'
        have hk1b : Kn W3 (W3.alloc (pairObj qa qb)) := (Kp.refl _ _).alloc _
        have hrow2 : RowAt (W3.alloc (pairObj qa qb)) [ta, tb] [qa, qb] := .cons (hA.kn hk1b) (.cons (hB.kn hk1b) .nil)
        have hpt2 := Lib.hid (ptrs_two W3 qa qb)
        go_wp2_with fail
        refine (Or_c [ta, tb] [qa, qb] _ 2 _ hrow2 hpt2.out (by simp)).mono ?_
        rintro e W4 ⟨q4, rfl, hq4, hk4⟩
        have hq4' : NodeAt W4 (.or ta tb) q4 := hq4
        replace hA := hA.kn (hk1b.trans hk4)
        replace hB := hB.kn (hk1b.trans hk4)
        replace hkn := hkn.trans (hk1b.trans hk4)
        clear hrow2 hk1b hk4 hq4 hpt2
        go_wp2_with fail
        refine (Matches_c _ t q4 W4 hq4' htb).mono ?_
        rintro e W5 ⟨rfl, hk5⟩
        rw [HO.out, ← MX.out, ← MY.out]
        replace hA := hA.kn hk5
        replace hkn := hkn.trans hk5
        clear hk5 hq4' hB
        go_wp2_with fail
        refine (StarAt_c ta qa W5 hA).mono ?_
        rintro e W6 ⟨q6, rfl, hq6, hk6⟩
        replace hA := hA.kn hk6
        replace hkn := hkn.trans hk6
        clear hk6
        go_wp2_with fail
        refine (Matches_c _ t q6 W6 hq6 htb).mono ?_
        rintro e W7 ⟨rfl, hk7⟩
        rw [HS.out, ← SB.out]
        replace hA := hA.kn hk7
        replace hkn := hkn.trans hk7
        clear hk7 hq6
        go_wp2_with fail
        refine (Cat_c [] [] none 0 W7 .nil (ptrs_nil _ _) (by simp)).mono ?_
        rintro e W8 ⟨q8, rfl, hq8, hk8⟩
        have hq8' : NodeAt W8 .empty q8 := hq8
        replace hA := hA.kn hk8
        replace hkn := hkn.trans hk8
        clear hk8 hq8
        go_wp2_with fail
        refine (Matches_c _ t q8 W8 hq8' htb).mono ?_
        rintro e W9 ⟨rfl, hk9⟩
        rw [HE.out]
        replace hA := hA.kn hk9
        replace hkn := hkn.trans hk9
        clear hk9 hq8'
        go_wp2_with fail
        refine (Or_c [] [] none 0 W9 .nil (ptrs_nil _ _) (by simp)).mono ?_
        rintro e W10 ⟨q10, rfl, hq10, hk10⟩
        have hq10' : NodeAt W10 Rw.none q10 := hq10
        replace hA := hA.kn hk10
        replace hkn := hkn.trans hk10
        clear hk10 hq10
        go_wp2_with fail
        refine (Matches_c _ t q10 W10 hq10' htb).mono ?_
        rintro e W11 ⟨rfl, hk11⟩
        rw [HN.out]
        replace hA := hA.kn hk11
        replace hkn := hkn.trans hk11
        clear hk11 hq10'
        have hk1c : Kn W11 (W11.alloc (loneObj qa)) := (Kp.refl _ _).alloc _
        have hrow3 : RowAt (W11.alloc (loneObj qa)) [ta] [qa] := .cons (hA.kn hk1c) .nil
        have hpt3 := Lib.hid (ptrs_one W11 qa)
        go_wp2_with fail
        refine (Cat_c [ta] [qa] _ 1 _ hrow3 hpt3.out (by simp)).mono ?_
        rintro e W12 ⟨q12, rfl, hq12, hk12⟩
        have hq12' : NodeAt W12 ta q12 := hq12
        replace hA := hA.kn (hk1c.trans hk12)
        replace hkn := hkn.trans (hk1c.trans hk12)
        clear hk12 hq12 hk1c hrow3 hpt3
        go_wp2_with fail
        refine (Matches_c _ t q12 W12 hq12' htb).mono ?_
        rintro e W13 ⟨rfl, hk13⟩
        rw [← MX.out]
        replace hA := hA.kn hk13
        replace hkn := hkn.trans hk13
        clear hk13 hq12'
        go_wp2_with fail
        refine (Matches_c _ t qa W13 hA htb).mono ?_
        rintro e W14 ⟨rfl, hk14⟩
        rw [← MX.out]
        replace hkn := hkn.trans hk14
        go_wp2_with fail
        go_ret
        exact ⟨by simp, hkn⟩

set_option maxRecDepth 100000 in
set_option maxHeartbeats 4000000 in
theorem makes_walk (a b t : ByteArray) (ha0 : a.size ≤ maxLen) (hb0 : b.size ≤ maxLen) (ht0 : t.size ≤ maxLen) (w : World) :
    Calls Try.prog 4 #[.string a, .string b, .string t] w fun e w' => e = .returned (.bool true) ∧ Below w.heap.size w w' := by
  refine Calls.mono (R := fun e w' => e = .returned (.bool true) ∧ Kn w w') ?_ (fun e w' h => ⟨h.1, h.2.below⟩)
  unfold maxLen at ha0 hb0 ht0
  by_cases ha : a.size ≤ 30
  · by_cases hb : b.size ≤ 30
    · by_cases ht : t.size ≤ 12
      · by_cases hbad : ∀ ta tb, ¬ (parseO a = .ok ta ∧ parseO b = .ok tb)
        · exact makes_bad a b t ha hb ht hbad w
        · have ⟨ta, h1⟩ := Classical.not_forall.1 hbad
          have ⟨tb, h2⟩ := Classical.not_forall.1 h1
          have h3 := Classical.not_not.1 h2
          exact makes_good a b t ta tb ha hb ht h3.1 h3.2 w
      · have ha' : ¬ (30 : Int) < a.size := by omega
        have hb' : ¬ (30 : Int) < b.size := by omega
        have ht' : (12 : Int) < t.size := by omega
        go_enter Try.func4, Try.ntmps4
        go_wp2_with fail
        refine (awake_c w).mono ?_
        rintro e w1 ⟨rfl, hk1⟩
        go_wp2_with fail
        go_ret
        exact ⟨rfl, hk1⟩
    · have ha' : ¬ (30 : Int) < a.size := by omega
      have hb' : (30 : Int) < b.size := by omega
      go_enter Try.func4, Try.ntmps4
      go_wp2_with fail
      refine (awake_c w).mono ?_
      rintro e w1 ⟨rfl, hk1⟩
      go_wp2_with fail
      go_ret
      exact ⟨rfl, hk1⟩
  · have ha' : (30 : Int) < a.size := by omega
    go_enter Try.func4, Try.ntmps4
    go_wp2_with fail
    refine (awake_c w).mono ?_
    rintro e w1 ⟨rfl, hk1⟩
    go_wp2_with fail
    go_ret
    exact ⟨rfl, hk1⟩

end Go.Proofs.Ytkhcnneflcbnpaa
