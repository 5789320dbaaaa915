/-
  The law 'RegexTurns': the walk. Conditions: none but that its texts are texts.
-/
import Derived.Test.YtkhcnneflcbnpaaPTurn
import Derived.Test.YtkhcnneflcbnpaaPLit
namespace Go.Proofs.Ytkhcnneflcbnpaa
open Go.RowKit

theorem parse_errT {s : ByteArray} {a : Nat} {e : Int} (h : parseO s = .err a e) : (e == 0) = false := by
  unfold parseO at h
  split at h
  · injection h with _ h; subst h; rfl
  · split at h
    · injection h with _ h; subst h; rfl
    · split at h
      · injection h with _ h; subst h; rfl
      · cases h

/-- what a reading answers: three values, the last tells whether it was good -/
def okP (s : ByteArray) : Bool := match parseO s with | .ok _ => true | .err _ _ => false
theorem okP_ok {s : ByteArray} (h : okP s = true) : ∃ t, parseO s = .ok t := by
  unfold okP at h
  split at h
  · rename_i t ht; exact ⟨t, ht⟩
  · cases h
theorem ParseZ_c (s : ByteArray) (w : World) (hs : s.size ≤ 300) :
    Calls Try.prog 8 #[.string s] w fun e w' => Kn w w' ∧ ∃ (v : Value) (a : Nat) (n : Int), e = .returned (tripV v a n) ∧ (n == 0) = okP s ∧ (∀ t, parseO s = .ok t → ∃ q : Nat, v = ptr q ∧ NodeAt w' t q) := by
  refine (Parse_c s w (by omega)).mono ?_
  rintro e w' ⟨hk, hm⟩
  refine ⟨hk, ?_⟩
  cases hp : parseO s with
  | ok t =>
    rw [hp] at hm
    obtain ⟨q, rfl, hq, _⟩ := hm
    exact ⟨_, 0, 0, rfl, by simp [okP, hp], fun t' h => by injection h with h; subst h; exact ⟨q, rfl, hq⟩⟩
  | err a n =>
    rw [hp] at hm
    subst hm
    exact ⟨_, _, _, rfl, by simp only [okP, hp]; exact parse_errT hp, fun t' h => by cases h⟩

set_option maxRecDepth 100000 in
set_option maxHeartbeats 8000000 in
theorem turns_in (a b t : ByteArray) (ha : a.size ≤ 30) (hb : b.size ≤ 30) (ht : t.size ≤ 10) (w : World) :
    Calls Try.prog 5 #[.string a, .string b, .string t] w fun e w' => e = .returned (.bool true) ∧ Kn w w' := by
  have ha' : ¬ (30 : Int) < a.size := by omega
  have hb' : ¬ (30 : Int) < b.size := by omega
  have ht' : ¬ (10 : Int) < t.size := by omega
  go_enter Try.func5, Try.ntmps5
  go_wp2_with fail
  refine (awake_c w).mono ?_
  rintro e w1 ⟨rfl, hk1⟩
  go_wp2_with fail
  have h1 := ParseZ_c (altT a b) w1 (by rw [altT_size]; omega)
  unfold altT at h1
  refine h1.mono ?_
  clear h1
  rintro e w2 ⟨hk2, vx, ax, nx, rfl, hnx, hx⟩
  go_wp2_with fail
  have h1 := ParseZ_c (altT b a) w2 (by rw [altT_size]; omega)
  unfold altT at h1
  refine h1.mono ?_
  clear h1
  rintro e w3 ⟨hk3, vy, ay, ny, rfl, hny, hy⟩
  go_wp2_with fail
  have h1 := ParseZ_c (dblT a) w3 (by rw [dblT_size]; omega)
  unfold dblT at h1
  refine h1.mono ?_
  clear h1
  rintro e w4 ⟨hk4, vz, az, nz, rfl, hnz, hz⟩
  go_wp2_with fail
  refine (ParseZ_c a w4 (by omega)).mono ?_
  rintro e w5 ⟨hk5, vn, an, nn, rfl, hnn, hn⟩
  have hkk : Kn w w5 := (((hk1.trans hk2).trans hk3).trans hk4).trans hk5
  have HX := Lib.hid hx
  have HY := Lib.hid hy
  have HZ := Lib.hid hz
  have HN := Lib.hid hn
  clear hx hy hz hn hk1 hk2
  cases ox : okP (altT a b) with
  | false =>
    have ex : (nx == 0) = false := hnx.trans ox
    have ex' : (nx != 0) = true := by simp [bne, ex]
    go_wp2_with fail
    go_ret
    exact ⟨rfl, hkk⟩
  | true =>
    have ex : (nx == 0) = true := hnx.trans ox
    have ex' : (nx != 0) = false := by simp [bne, ex]
    cases oy : okP (altT b a) with
    | false =>
      have ey : (ny == 0) = false := hny.trans oy
      have ey' : (ny != 0) = true := by simp [bne, ey]
      go_wp2_with fail
      go_ret
      exact ⟨rfl, hkk⟩
    | true =>
      have ey : (ny == 0) = true := hny.trans oy
      have ey' : (ny != 0) = false := by simp [bne, ey]
      cases oz : okP (dblT a) with
      | false =>
        have ez : (nz == 0) = false := hnz.trans oz
        have ez' : (nz != 0) = true := by simp [bne, ez]
        go_wp2_with fail
        go_ret
        exact ⟨rfl, hkk⟩
      | true =>
        have ez : (nz == 0) = true := hnz.trans oz
        have ez' : (nz != 0) = false := by simp [bne, ez]
        cases on : okP (a) with
        | false =>
          have en : (nn == 0) = false := hnn.trans on
          have en' : (nn != 0) = true := by simp [bne, en]
          go_wp2_with fail
          go_ret
          exact ⟨rfl, hkk⟩
        | true =>
          have en : (nn == 0) = true := hnn.trans on
          have en' : (nn != 0) = false := by simp [bne, en]
          obtain ⟨tx, px⟩ := okP_ok ox
          obtain ⟨ty, py⟩ := okP_ok oy
          obtain ⟨tz, pz⟩ := okP_ok oz
          obtain ⟨tn, pn⟩ := okP_ok on
          obtain ⟨qx, rfl, hqx⟩ := HX.out tx px
          obtain ⟨qy, rfl, hqy⟩ := HY.out ty py
          obtain ⟨qz, rfl, hqz⟩ := HZ.out tz pz
          obtain ⟨qn, rfl, hqn⟩ := HN.out tn pn
          have E1 := Lib.hid (turn_same pn px py (bts t))
          have E2 := Lib.hid (turn_once pn pz (bts t))
          replace hqx := hqx.kn ((hk3.trans hk4).trans hk5)
          replace hqy := hqy.kn (hk4.trans hk5)
          replace hqz := hqz.kn hk5
          clear px py pz pn HX HY HZ HN hk3 hk4 hk5
          have htb : t.size ≤ 9223372036854775807 := by omega
          go_wp2_with fail
          refine (Matches_c tx t qx w5 hqx htb).mono ?_
          rintro e w6 ⟨rfl, hk6⟩
          rw [E1.out]
          replace hkk := hkk.trans hk6
          replace hqy := hqy.kn hk6
          replace hqz := hqz.kn hk6
          replace hqn := hqn.kn hk6
          clear hk6 hqx
          go_wp2_with fail
          refine (Matches_c ty t qy w6 hqy htb).mono ?_
          rintro e w7 ⟨rfl, hk7⟩
          replace hkk := hkk.trans hk7
          replace hqz := hqz.kn hk7
          replace hqn := hqn.kn hk7
          clear hk7 hqy
          go_wp2_with fail
          refine (Matches_c tz t qz w7 hqz htb).mono ?_
          rintro e w8 ⟨rfl, hk8⟩
          rw [E2.out]
          replace hkk := hkk.trans hk8
          replace hqn := hqn.kn hk8
          clear hk8 hqz
          go_wp2_with fail
          refine (Matches_c tn t qn w8 hqn htb).mono ?_
          rintro e w9 ⟨rfl, hk9⟩
          replace hkk := hkk.trans hk9
          clear hk9 hqn
          go_wp2_with fail
          go_ret
          exact ⟨by simp, hkk⟩

set_option maxRecDepth 100000 in
set_option maxHeartbeats 4000000 in
theorem turns_walk (a b t : ByteArray) (ha0 : a.size ≤ maxLen) (hb0 : b.size ≤ maxLen) (ht0 : t.size ≤ maxLen) (w : World) :
    Calls Try.prog 5 #[.string a, .string b, .string t] w fun e w' => e = .returned (.bool true) ∧ Below w.heap.size w w' := by
  refine Calls.mono (R := fun e w' => e = .returned (.bool true) ∧ Kn w w') ?_ (fun e w' h => ⟨h.1, h.2.below⟩)
  unfold maxLen at ha0 hb0 ht0
  by_cases ha : a.size ≤ 30
  · by_cases hb : b.size ≤ 30
    · by_cases ht : t.size ≤ 10
      · exact turns_in a b t ha hb ht w
      · have ha' : ¬ (30 : Int) < a.size := by omega
        have hb' : ¬ (30 : Int) < b.size := by omega
        have ht' : (10 : Int) < t.size := by omega
        go_enter Try.func5, Try.ntmps5
        go_wp2_with fail
        refine (awake_c w).mono ?_
        rintro e w1 ⟨rfl, hk1⟩
        go_wp2_with fail
        go_ret
        exact ⟨rfl, hk1⟩
    · have ha' : ¬ (30 : Int) < a.size := by omega
      have hb' : (30 : Int) < b.size := by omega
      go_enter Try.func5, Try.ntmps5
      go_wp2_with fail
      refine (awake_c w).mono ?_
      rintro e w1 ⟨rfl, hk1⟩
      go_wp2_with fail
      go_ret
      exact ⟨rfl, hk1⟩
  · have ha' : (30 : Int) < a.size := by omega
    go_enter Try.func5, Try.ntmps5
    go_wp2_with fail
    refine (awake_c w).mono ?_
    rintro e w1 ⟨rfl, hk1⟩
    go_wp2_with fail
    go_ret
    exact ⟨rfl, hk1⟩

end Go.Proofs.Ytkhcnneflcbnpaa
