/-
  The document's reader of expressions: alternatives: the walk. Conditions: the reader stands in memory, within its text.
-/
import Derived.Test.YtkhcnneflcbnpaaMRows
import Derived.Deep.DeepMust
namespace Go.Proofs.Ytkhcnneflcbnpaa
open Go.RowKit

/-- several that were read, beside what the program has -/
structure AlikeL (r : List Rw × PS) (g : Bool) (ts : List Rb) (st : PS) : Prop where
  bad : st.bad = r.2.bad
  ok : r.2.bad = false → st = r.2.lg st.long ∧ ts = r.1.map toB ∧ (st.long = true → g = true ∨ ∃ x ∈ r.1, 400 < x.size)
theorem pairB_cat : ∀ l : List Rw, pairB 2 (l.map toB) = toB (Re.two .cat .empty l)
  | [] => rfl
  | [x] => rfl
  | x :: y :: l => by
    have ih := pairB_cat (y :: l)
    show twoB 2 (toB x) (pairB 2 ((y :: l).map toB)) = _
    rw [ih]; rfl
theorem pairB_or : ∀ l : List Rw, l ≠ [] → pairB 3 (l.map toB) = toB (Re.two .or Rw.none l)
  | [], h => (h rfl).elim
  | [x], _ => rfl
  | x :: y :: l, _ => by
    have ih := pairB_or (y :: l) (by simp)
    show twoB 3 (toB x) (pairB 3 ((y :: l).map toB)) = _
    rw [ih]; rfl
theorem two_ge (f : Rw → Rw → Rw) (hf : ∀ x y, (f x y).size = 1 + x.size + y.size) (z : Rw) : ∀ (l : List Rw), ∀ x ∈ l, x.size ≤ (Re.two f z l).size
  | [], x, h => by cases h
  | [y], x, h => by simp at h; subst h; exact Nat.le_refl _
  | y :: y2 :: l, x, h => by
    have ih := two_ge f hf z (y2 :: l)
    show x.size ≤ (f y (Re.two f z (y2 :: l))).size
    rw [hf]
    rcases List.mem_cons.1 h with rfl | h
    · omega
    · have := ih x h; omega
theorem AlikeL.cat {l : List Rw} {q st : PS} {g : Bool} {ts : List Rb} (h : AlikeL (l, q) g ts st) : Alike (Re.two .cat .empty l, q) g (pairB 2 ts) st :=
  ⟨h.bad, fun hb => by
    obtain ⟨a, b, c⟩ := h.ok hb
    refine ⟨a, by rw [b]; exact pairB_cat l, fun x => ?_⟩
    rcases c x with y | ⟨y, hy, hs⟩
    · exact .inl y
    · exact .inr (Nat.lt_of_lt_of_le hs (two_ge .cat (fun _ _ => rfl) .empty l y hy))⟩
theorem AlikeL.snoc {l : List Rw} {q st : PS} {g : Bool} {ts : List Rb} (h : AlikeL (l, q) g ts st) (hb : q.bad = false) {r : Rw × PS} {t : Rb} {st' : PS} (h2 : Alike r st.long t st') : AlikeL (l ++ [r.1], r.2) g (ts ++ [t]) st' :=
  ⟨h2.bad, fun hb2 => by
    obtain ⟨a, b, c⟩ := h.ok hb
    obtain ⟨a2, b2, c2⟩ := h2.ok hb2
    refine ⟨a2, by rw [b, b2]; simp, fun x => ?_⟩
    rcases c2 x with y | y
    · rcases c y with z | ⟨z, hz, hs⟩
      · exact .inl z
      · exact .inr ⟨z, List.mem_append_left _ hz, hs⟩
    · exact .inr ⟨r.1, by simp, y⟩⟩
theorem AlikeL.next {l : List Rw} {q st : PS} {g : Bool} {ts : List Rb} (h : AlikeL (l, q) g ts st) : AlikeL (l, q.next) g ts st.next :=
  ⟨h.bad, fun hb => by
    obtain ⟨a, b, c⟩ := h.ok hb
    exact ⟨congrArg (fun x : PS => x.next) a, b, c⟩⟩

theorem pairC (k : Nat) (hk : k = 2 ∨ k = 3) {w : World} {B : Nat} {v : Value} {ts : List Rb} {Cs : List (Array Value)} {N : Nat → Prop} (ho : OwnC w B v Cs) (hv : NVs w N ts Cs) (hN : ∀ g, w.heap.size ≤ g → N g) (hl : Cs.length ≤ 10000000) :
    Calls Try.prog 33 #[.int .i64 k, v] w fun e w' => ∃ C, e = .returned (.agg C) ∧ NV w' N (pairB k ts) C ∧ Kn w w' := by
  obtain ⟨a, c, rfl, h1, h2, h3⟩ := ho.row hv.size
  cases hv with
  | nil => exact pair_none k c a N w
  | @cons t C ts Cs h4 h5 =>
    obtain ⟨g, rfl, hr⟩ := h3 (by simp)
    exact pair_all k hk (t :: ts) (C :: Cs) g 0 c N w (by simp) (.cons h4 h5) hr h1 h2 hl hN

theorem OI.drop {wr w : World} {p : Nat} {s : ByteArray} {st : PS} {va vl : Value} {ta tl : List Rb} {Ca Cl : List (Array Value)} (h : OI wr w p s st va ta Ca vl tl Cl) : OI wr w p s st va ta Ca (.slice none 0 0) [] [] :=
  ⟨h.R, h.S, h.T, h.K, h.oa, World.ownsRow_nil _ _ _ _, h.na.mono (fun _ x _ => ⟨x.1, x.2.1, fun e => by cases e⟩), .nil, by
    cases hv : va.ownBlock with
    | none => exact .inl rfl
    | some x => right; intro e; cases e⟩
theorem cat_stop {s : ByteArray} {f : PS → Rw × PS} {k : Nat} {r : List Rw × PS} (h : r.2.bad = true) : catLoop f s k r.1 r.2 = r := by
  cases k with
  | zero => rfl
  | succ k => rw [catLoop, if_pos h]
theorem cat_done {s : ByteArray} {f : PS → Rw × PS} {k : Nat} {r : List Rw × PS} (h : r.2.bad = false) (he : catEnd s r.2 = true) : catLoop f s (k + 1) r.1 r.2 = r := by
  rw [catLoop, if_neg (by rw [h]; decide), if_pos he]
theorem cat_more {s : ByteArray} {f : PS → Rw × PS} {k : Nat} {r : List Rw × PS} (h : r.2.bad = false) (he : catEnd s r.2 = false) : catLoop f s (k + 1) r.1 r.2 = catLoop f s k (r.1 ++ [(f r.2).1]) (f r.2).2 := by
  rw [catLoop, if_neg (by rw [h]; decide), if_neg (by rw [he]; decide)]
theorem or_stop {s : ByteArray} {f : PS → Rw × PS} {k : Nat} {r : List Rw × PS} (h : r.2.bad = true) : orLoop f s k r.1 r.2 = r := by
  cases k with
  | zero => rfl
  | succ k => rw [orLoop, if_pos h]
theorem or_done {s : ByteArray} {f : PS → Rw × PS} {k : Nat} {r : List Rw × PS} (h : r.2.bad = false) (he : isB s 124 r.2 = false) : orLoop f s (k + 1) r.1 r.2 = r := by
  rw [orLoop, if_neg (by rw [h]; decide), if_neg (by rw [he]; decide)]
theorem or_more {s : ByteArray} {f : PS → Rw × PS} {k : Nat} {r : List Rw × PS} (h : r.2.bad = false) (he : isB s 124 r.2 = true) : orLoop f s (k + 1) r.1 r.2 = orLoop f s k (r.1 ++ [(f r.2.next).1]) (f r.2.next).2 := by
  rw [orLoop, if_neg (by rw [h]; decide), if_pos he]
theorem node_bytes : (Try.prog.info? TN).map (fun i => (i.zero, i.size, i.bytes)) = some (some (.agg zeroC), 258, 288) := by kernel_rfl

set_option maxRecDepth 100000 in
set_option maxHeartbeats 8000000 in
theorem orR_c (n : Nat) (ih : OrR n) : OrR (n + 1) := by
  intro p s sm0 sr0 A w h hl hbd h0 h50 hr hA
  have hz := zero_node.1
  obtain ⟨i0, hi, hz0, hz1, hz2⟩ := info_parts node_bytes
  have HI := Lib.hid (And.intro hi (And.intro hz0 (And.intro hz1 hz2)))
  clear hi hz0 hz1 hz2
  have IH := Lib.hid ih
  have HL := Lib.hid hl
  have HA := Lib.hid hA
  have hpw := h.lt
  have hszz := h.2.2
  have hO0 : Hid (OI (w.alloc (.cells zeroC TN (0, 0))) w p s sr0 (.slice none 0 0) [] [] (.slice none 0 0) [] []) := Lib.hid
    ⟨blk_new w _, by simp, h.kn ((Kp.refl (fun _ => False) w).alloc _), (Kp.refl _ w).alloc _, World.ownsRow_nil _ _ _ _, World.ownsRow_nil _ _ _ _, .nil, .nil, .inl rfl⟩
  have hF : Hid (orN s (n + 1) sm0 = (Re.two .or Rw.none (orLoop (ctN s n) s (s.size + 2) [(ctN s n sm0).1] (ctN s n sm0).2).1, (orLoop (ctN s n) s (s.size + 2) [(ctN s n sm0).1] (ctN s n sm0).2).2)) := Lib.hid rfl
  have hAL0 : Hid (AlikeL ([], sm0) sr0.long [] sr0) := Lib.hid ⟨by have h := congrArg (fun x : PS => x.bad) hl; exact h, fun _ => ⟨hl, rfl, fun x => .inl x⟩⟩
  have hR0 : Hid (orLoop (ctN s n) s (s.size + 2) ([] ++ [(ctN s n sm0).1]) (ctN s n sm0).2 = orLoop (ctN s n) s (s.size + 2) [(ctN s n sm0).1] (ctN s n sm0).2) := Lib.hid rfl
  have hat0 := h.2.1
  have hats : sr0.at_ = sm0.at_ := by have h := congrArg (fun x : PS => x.at_) hl; exact h
  have hlt0 : Hid (s.size - sm0.at_ < s.size + 2) := Lib.hid (by omega)
  clear ih hl hA h hats hat0
  generalize orLoop (ctN s n) s (s.size + 2) [(ctN s n sm0).1] (ctN s n sm0).2 = R0 at hF hR0
  go_enter Try.func23, Try.ntmps23
  go_wp2_with fail
  go_loopg [3] (s.size + 2) (fun k v3 wr => ∃ (va : Value) (l : List Rw) (ta : List Rb) (Ca : List (Array Value)) (sm st : PS), va = v3 ∧ Hid (OI wr w p s st va ta Ca (.slice none 0 0) [] []) ∧ Hid (AlikeL (l, sm) sr0.long ta st) ∧ Hid (orLoop (ctN s n) s k (l ++ [(ctN s n sm).1]) (ctN s n sm).2 = R0) ∧
    Hid (sm.bad = false ∧ sm.deep = sm0.deep ∧ sm0.at_ ≤ sm.at_ ∧ s.size - sm.at_ < k ∧ Ca.length ≤ sm.at_))
  case atStart => exact ⟨_, [], [], [], sm0, sr0, rfl, hO0, hAL0, hR0, Lib.hid ⟨hbd, rfl, Nat.le_refl _, hlt0.out, Nat.zero_le _⟩⟩
  case round =>
    obtain ⟨va, l, ta, Ca, sm, st, rfl, hO, hAL, hRk, hinv⟩ := hrel
    clear hO0 hAL0 hR0 hlt0
    obtain ⟨wo, rfl⟩ : ∃ x : World, x = wr := ⟨_, rfl⟩
    obtain ⟨go, rfl⟩ : ∃ x : Nat, x = gk := ⟨_, rfl⟩
    have HATS : Hid (st.at_ ≤ s.size) := Lib.hid hO.out.T.2.1
    go_upto_block 2 with fail
    go_cut [3, 4] (fun v3 v4 wc => ∃ (vl : Value) (tl : List Rb) (Cl : List (Array Value)) (st' : PS), va = v3 ∧ vl = v4 ∧ Hid (OI wc w p s st' va ta Ca vl tl Cl) ∧ Hid (AlikeL (catLoop (fcN s n) s (s.size + 2) [] sm) st.long tl st') ∧ Hid (Cl.length ≤ s.size + 1))
    case first =>
      have hAL2 : Hid (AlikeL ([], sm) st.long [] st) := Lib.hid (by
        obtain ⟨a, b, c⟩ := hAL.out.ok hinv.out.1
        exact ⟨hAL.out.bad, fun _ => ⟨a, rfl, fun x => .inl x⟩⟩)
      have hs2 : Hid (s.size - sm.at_ < s.size + 2) := Lib.hid (by have := hO.out.T.2.1; omega)
      go_wp2_with fail
      go_loopg [4] (s.size + 2) (fun k v4 wr => ∃ (vl : Value) (tl : List Rb) (Cl : List (Array Value)) (st' : PS) (r : List Rw × PS), vl = v4 ∧ Hid (OI wr w p s st' va ta Ca vl tl Cl) ∧ Hid (AlikeL r st.long tl st') ∧ Hid (catLoop (fcN s n) s k r.1 r.2 = catLoop (fcN s n) s (s.size + 2) [] sm) ∧ Hid (Cl.length ≤ s.size + 1) ∧
        Hid (r.2.bad = true ∨ (r.2.bad = false ∧ s.size - r.2.at_ < k ∧ r.2.deep = sm.deep ∧ sm.at_ ≤ r.2.at_ ∧ Cl.length ≤ r.2.at_)))
      case atStart => exact ⟨_, [], [], st, ([], sm), rfl, hO, hAL2, Lib.hid rfl, Lib.hid (Nat.zero_le _), Lib.hid (.inr ⟨hinv.out.1, hs2.out, rfl, Nat.le_refl _, Nat.zero_le _⟩)⟩
      case round =>
        clear hO hAL2 hs2
        obtain ⟨vl, tl, Cl, st', r, rfl, hO, hA2, hck, hcl, hin⟩ := hrel
        have hT := hO.out.T
        obtain ⟨c0, c1, c2, c3, c4, f1, f2, f3, f4⟩ := hT.cells
        cases hb : st'.bad with
        | true =>
          have hfin : Hid (AlikeL (catLoop (fcN s n) s (s.size + 2) [] sm) st.long tl st') := Lib.hid (by
            rw [← hck.out, cat_stop (by rw [← hA2.out.bad]; exact hb)]; exact hA2.out)
          rw [hb] at c3
          clear hb
          go_wp2_with fail
          go_quiet (fail)
          go_wp2_with fail
          go_meet
          case rel => exact ⟨vl, tl, Cl, st', (by first | rfl | trivial), (by first | rfl | trivial), Lib.hid (hO.out.kp hpw ((Kp.refl _ _).drewN _) (hT.drewN _)), hfin, hcl⟩
        | false =>
          have hrb : r.2.bad = false := by rw [← hA2.out.bad]; exact hb
          have hin2 : Hid (s.size - r.2.at_ < gk ∧ r.2.deep = sm.deep ∧ sm.at_ ≤ r.2.at_ ∧ Cl.length ≤ r.2.at_) := Lib.hid (by
            rcases hin.out with x | x
            · rw [hrb] at x; cases x
            · exact x.2)
          have HQ := Lib.hid (hA2.out.ok hrb)
          have HAT : Hid (st'.at_ = r.2.at_) := Lib.hid (by have h := congrArg (fun x : PS => x.at_) HQ.out.1; exact h)
          obtain ⟨m, hm⟩ : ∃ m, gk = m + 1 := ⟨gk - 1, by have := hin2.out.1; omega⟩
          have HM := Lib.hid hm
          have HRB := Lib.hid hrb
          rw [hb] at c3
          clear hb hrb hm hin
          have hexit : Hid (catEnd s st' = true → AlikeL (catLoop (fcN s n) s (s.size + 2) [] sm) st.long tl st') := Lib.hid (fun h => by
            rw [← hck.out, HM.out, cat_done HRB.out (by unfold catEnd at h ⊢; rw [← HAT.out]; exact h)]; exact hA2.out)
          by_cases hlt : st'.at_ < s.size
          · have hlt' : (st'.at_ : Int) < s.size := by omega
            cases h124 : isB s 124 st' with
            | true =>
              have hfin := Lib.hid (hexit.out (by unfold isB at h124; simp [hlt] at h124; simp [catEnd, h124]))
              have HS1 : Hid (∀ n, Calls Try.prog 31 #[ptr p, .int .u8 124] (wr.drewN n) fun e w' => e = .returned (.bool true) ∧ ∃ m, w' = (wr.drewN n).drewN m) := Lib.hid (fun n => by rw [← h124]; exact sees_c 124 p s st' _ (hT.drewN n))
              clear h124
              go_wp2_with fail
              go_quiet ((go_at_call 31; exact Calls.quiet_of (HS1.out _)))
              go_wp2_with fail
              go_meet
              case rel => exact ⟨vl, tl, Cl, st', (by first | rfl | trivial), (by first | rfl | trivial), Lib.hid (hO.out.kp hpw ((Kp.refl _ _).drewN _) (hT.drewN _)), hfin, hcl⟩
            | false =>
              have HS1 : Hid (∀ n, Calls Try.prog 31 #[ptr p, .int .u8 124] (wr.drewN n) fun e w' => e = .returned (.bool false) ∧ ∃ m, w' = (wr.drewN n).drewN m) := Lib.hid (fun n => by rw [← h124]; exact sees_c 124 p s st' _ (hT.drewN n))
              cases h41 : isB s 41 st' with
              | true =>
                have hfin := Lib.hid (hexit.out (by unfold isB at h41; simp [hlt] at h41; simp [catEnd, h41]))
                have HS2 : Hid (∀ n, Calls Try.prog 31 #[ptr p, .int .u8 41] (wr.drewN n) fun e w' => e = .returned (.bool true) ∧ ∃ m, w' = (wr.drewN n).drewN m) := Lib.hid (fun n => by rw [← h41]; exact sees_c 41 p s st' _ (hT.drewN n))
                clear h124 h41
                go_wp2_with fail
                go_quiet ((go_at_call 31; first | (with_reducible exact Calls.quiet_of (HS1.out _)) | (with_reducible exact Calls.quiet_of (HS2.out _))))
                go_wp2_with fail
                go_meet
                case rel => exact ⟨vl, tl, Cl, st', (by first | rfl | trivial), (by first | rfl | trivial), Lib.hid (hO.out.kp hpw ((Kp.refl _ _).drewN _) (hT.drewN _)), hfin, hcl⟩
              | false =>
                have HS2 : Hid (∀ n, Calls Try.prog 31 #[ptr p, .int .u8 41] (wr.drewN n) fun e w' => e = .returned (.bool false) ∧ ∃ m, w' = (wr.drewN n).drewN m) := Lib.hid (fun n => by rw [← h41]; exact sees_c 41 p s st' _ (hT.drewN n))
                have hce : catEnd s r.2 = false := by
                  have := HAT.out
                  unfold isB at h124 h41; simp [hlt] at h124 h41
                  unfold catEnd; rw [← this]; simp [hlt, h124, h41]
                have hck2 : Hid (catLoop (fcN s n) s m (r.1 ++ [(fcN s n r.2).1]) (fcN s n r.2).2 = catLoop (fcN s n) s (s.size + 2) [] sm) := Lib.hid (by rw [← hck.out, HM.out, cat_more HRB.out hce])
                clear h124 h41 hce
                go_wp2_with fail
                go_quiet ((go_at_call 31; first | (with_reducible exact Calls.quiet_of (HS1.out _)) | (with_reducible exact Calls.quiet_of (HS2.out _))))
                have hO2 := Lib.hid (hO.out.kp hpw ((Kp.refl _ wr).drewN nq) (hT.drewN nq))
                generalize wr.drewN nq = w2 at *
                clear hO HS1 HS2 c0 c1 c2 c3 c4 f1 f2 f3 f4 hT
                have hi9 := hin2.out
                have hi8 := hinv.out
                have HC := Lib.hid (factorR_c n IH.out p s r.2 st' (fun g => w.heap.size + 1 ≤ g ∧ some g ≠ va.ownBlock ∧ some g ≠ vl.ownBlock) w2 hO2.out.T HQ.out.1 HRB.out (by omega) (by omega) (by omega) (fun g hg => by
                  have h1 := hO2.out.S
                  refine ⟨by omega, fun e => ?_, fun e => ?_⟩
                  · have := (hO2.out.oa.lt g e.symm).2; omega
                  · have := (hO2.out.ol.lt g e.symm).2; omega))
                clear hi9 hi8
                go_wp2_with fail
                refine HC.out.mono ?_
                rintro e w3 ⟨C, t, st3, rfl, hN3, hT3, hA3, hk3⟩
                have hO3 := Lib.hid (hO2.out.kp hpw hk3 hT3)
                have hcs := hN3.size
                obtain ⟨slq, hnc⟩ := hN3.nc
                have HNC := Lib.hid (And.intro hN3 hnc.one)
                have HA3 := Lib.hid hA3
                clear hO2 HC hT3 hk3 hN3 hnc hA3
                have E := Lib.hid (And.intro (hO3.out.ol.alloc (.cells C TN (0, 0))) (And.intro (show C.toList.length = 1 * 258 by simp [hcs]) (And.intro (news_blk w3 C) (ones_of HNC.out.2))))
                go_wp2_with (first | (refine wpList_one rfl (.tmp 35) C rfl rfl hcs ?_) | (at_builtin; go_must (refine wpList_append_own_at _ rfl (.tmp 33) (.tmp 36) 28 rfl (w.heap.size + 1) TN i0 (.agg zeroC) 258 288 Try.underlying28 HI.out.1 HI.out.2.1 HI.out.2.2.1 HI.out.2.2.2 zeroC_size (by decide) vl Cl.length (flatC Cl) rfl E.out.1 ⟨w3.heap.size, 0, none⟩ 1 1 C.toList rfl E.out.2.1 E.out.2.2.1 E.out.2.2.2 (by have := hcl.out; simp only [maxLen]; omega) (by have := hcl.out; omega) (by have := hO3.out.S; simp; omega) ?_); intro v1 w4 q1 q2 _ q4))
                have hO4 := Lib.hid (hO3.out.app hpw HNC.out.1 q1 q2 q4)
                have hA4 := Lib.hid (hA2.out.snoc HRB.out HA3.out)
                have hg := fcN_good s n r.2 HRB.out (by have := hin2.out; have := hinv.out; omega) (by have := hin2.out; have := hinv.out; omega)
                have hnx : Hid ((fcN s n r.2).2.bad = true ∨ ((fcN s n r.2).2.bad = false ∧ s.size - (fcN s n r.2).2.at_ < m ∧ (fcN s n r.2).2.deep = sm.deep ∧ sm.at_ ≤ (fcN s n r.2).2.at_ ∧ (Cl ++ [C]).length ≤ (fcN s n r.2).2.at_)) := Lib.hid (by
                  cases hx : (fcN s n r.2).2.bad with
                  | true => exact .inl rfl
                  | false =>
                    obtain ⟨y1, y2, y3⟩ := hg.ok hx
                    have y4 : st3.at_ = (fcN s n r.2).2.at_ := by have h := congrArg (fun x : PS => x.at_) (HA3.out.ok hx).1; exact h
                    have y5 := hO4.out.T.2.1
                    have y6 := hin2.out
                    have y7 := HM.out
                    simp only [List.length_append, List.length_singleton]
                    exact .inr ⟨by first | rfl | trivial, by omega, by omega, by omega, by omega⟩)
                have hcl4 : Hid ((Cl ++ [C]).length ≤ s.size + 1) := Lib.hid (by
                  have := hin2.out; have := HAT.out; have := hcl.out
                  simp only [List.length_append, List.length_singleton]; omega)
                clear hg q1 q2 q4 hO3
                go_wp2_with fail
                go_roundg m
                case measure => have := HM.out; omega
                case rel => exact ⟨v1, _, _, _, ((r.1 ++ [(fcN s n r.2).1]), (fcN s n r.2).2), (by first | rfl | trivial), hO4, hA4, hck2, hcl4, hnx⟩
          · have hlt' : ¬ (st'.at_ : Int) < s.size := by omega
            have hfin := Lib.hid (hexit.out (by simp [catEnd, hlt]))
            go_wp2_with fail
            go_quiet (fail)
            go_wp2_with fail
            go_meet
            case rel => exact ⟨vl, tl, Cl, st', (by first | rfl | trivial), (by first | rfl | trivial), Lib.hid (hO.out.kp hpw ((Kp.refl _ _).drewN _) (hT.drewN _)), hfin, hcl⟩
    case rest =>
      obtain ⟨vl, tl, Cl, st', rfl, rfl, hO2, hA2, hcl⟩ := hcut
      clear hO
      have HP := Lib.hid (pairC 2 (.inl rfl) hO2.out.ol hO2.out.nl (fun g hg => by
        have h1 := hO2.out.S
        refine ⟨by omega, fun e => ?_, fun e => ?_⟩
        · have := (hO2.out.oa.lt g e.symm).2; omega
        · have := (hO2.out.ol.lt g e.symm).2; omega) (by have := hcl.out; omega))
      obtain ⟨wo2, rfl⟩ : ∃ x : World, x = wc := ⟨_, rfl⟩
      have hat : Hid (Ca.length ≤ sm.at_ ∧ sm.at_ ≤ s.size) := Lib.hid ⟨hinv.out.2.2.2.2, by have h := congrArg (fun x : PS => x.at_) (hAL.out.ok hinv.out.1).1; have h1 : st.at_ = sm.at_ := h; have := HATS.out; omega⟩
      have hca : Hid (Ca.length ≤ s.size + 1) := Lib.hid (by
        have h1 := hinv.out
        have h2 := hO2.out.T.2
        have h3 := hat.out
        omega)
      go_wp2_with fail
      refine HP.out.mono ?_
      rintro e w3 ⟨C, rfl, hN3, hk3⟩
      have hO3 := Lib.hid (hO2.out.kp hpw hk3.weak (hO2.out.T.kn hk3)).drop.swap
      have hcs := hN3.size
      obtain ⟨slq, hnc⟩ := hN3.nc
      have HNC : Hid (NV w3 (fun g => w.heap.size + 1 ≤ g ∧ some g ≠ (Value.slice none 0 0).ownBlock ∧ some g ≠ va.ownBlock) (pairB 2 tl) C ∧ C.all (·.oneCell') = true) := Lib.hid ⟨hN3.mono (fun g x _ => ⟨x.1, (fun e => by cases e), x.2.1⟩), hnc.one⟩
      clear hO2 HP hk3 hN3 hnc
      have E := Lib.hid (And.intro (hO3.out.ol.alloc (.cells C TN (0, 0))) (And.intro (show C.toList.length = 1 * 258 by simp [hcs]) (And.intro (news_blk w3 C) (ones_of HNC.out.2))))
      go_upto_region 6 with (first | (refine wpList_one rfl (.tmp 40) C rfl rfl hcs ?_) | (at_builtin; go_must (refine wpList_append_own_at _ rfl (.tmp 38) (.tmp 41) 28 rfl (w.heap.size + 1) TN i0 (.agg zeroC) 258 288 Try.underlying28 HI.out.1 HI.out.2.1 HI.out.2.2.1 HI.out.2.2.2 zeroC_size (by decide) va Ca.length (flatC Ca) rfl E.out.1 ⟨w3.heap.size, 0, none⟩ 1 1 C.toList rfl E.out.2.1 E.out.2.2.1 E.out.2.2.2 (by have := hca.out; simp only [maxLen]; omega) (by have := hca.out; omega) (by have := hO3.out.S; simp; omega) ?_); intro v1 w4 q1 q2 _ q4))
      have hO4 := Lib.hid (hO3.out.app hpw HNC.out.1 q1 q2 q4)
      have hA4 : Hid (AlikeL (l ++ [(ctN s n sm).1], (ctN s n sm).2) sr0.long (ta ++ [pairB 2 tl]) st') := Lib.hid (hAL.out.snoc hinv.out.1 (r := ctN s n sm) hA2.out.cat)
      have hcn := Lib.hid (ctN_good s n sm hinv.out.1 (by have := hinv.out; omega) (by have := hinv.out; omega))
      clear hO3 q1 q2 q4 HNC hA2 E hat hcl
      obtain ⟨m, hm⟩ : ∃ m, go = m + 1 := ⟨go - 1, by have := hinv.out; omega⟩
      have HM := Lib.hid hm
      clear hm
      have hend : Hid (((ctN s n sm).2.bad = true ∨ ((ctN s n sm).2.bad = false ∧ isB s 124 (ctN s n sm).2 = false)) → R0 = (l ++ [(ctN s n sm).1], (ctN s n sm).2)) := Lib.hid (fun h => by
        rw [← hRk.out, HM.out]
        rcases h with h | ⟨h, h2⟩
        · exact or_stop (r := (l ++ [(ctN s n sm).1], (ctN s n sm).2)) h
        · exact or_done (r := (l ++ [(ctN s n sm).1], (ctN s n sm).2)) h h2)
      have hmore : Hid ((ctN s n sm).2.bad = false → isB s 124 (ctN s n sm).2 = true → orLoop (ctN s n) s m ((l ++ [(ctN s n sm).1]) ++ [(ctN s n (ctN s n sm).2.next).1]) (ctN s n (ctN s n sm).2.next).2 = R0) := Lib.hid (fun h h2 => by
        rw [← hRk.out, HM.out]
        exact (or_more (r := (l ++ [(ctN s n sm).1], (ctN s n sm).2)) h h2).symm)
      generalize hL : l ++ [(ctN s n sm).1] = l' at *
      have hne : Hid (l' ≠ []) := Lib.hid (by rw [← hL]; simp)
      clear hL
      generalize ctN s n sm = q at *
      go_cut [51] (fun v51 wc => ∃ b : Bool, v51 = .bool b ∧ Hid (OI wc w p s st' (.slice none 0 0) [] [] v1 (ta ++ [pairB 2 tl]) (Ca ++ [C])) ∧ Hid (if b then R0 = (l', q.2) else (q.2.bad = false ∧ isB s 124 q.2 = true)))
      case first =>
        have hT := hO4.out.T
        obtain ⟨c0, c1, c2, c3, c4, f1, f2, f3, f4⟩ := hT.cells
        cases hb : st'.bad with
        | true =>
          have hR9 : Hid (R0 = (l', q.2)) := Lib.hid (hend.out (.inl (by have h := hA4.out.bad; rw [hb] at h; exact h.symm)))
          rw [hb] at c3
          clear hb
          go_wp2_with fail
          go_meet
          case rel => exact ⟨true, rfl, hO4, hR9⟩
        | false =>
          have hqb : Hid (q.2.bad = false) := Lib.hid (by have h := hA4.out.bad; rw [hb] at h; exact h.symm)
          have hqi : Hid (isB s 124 q.2 = isB s 124 st') := Lib.hid (by
            have h := (hA4.out.ok hqb.out).1
            rw [h, isB_lg])
          rw [hb] at c3
          clear hb
          go_wp2_with fail
          refine (sees_c 124 p s st' w4 hT).mono ?_
          rintro e w5 ⟨rfl, n5, rfl⟩
          have hO5 := Lib.hid (hO4.out.kp hpw ((Kp.refl _ _).drewN n5) (hT.drewN n5))
          cases h124 : isB s 124 st' with
          | true =>
            have hR9 : Hid (q.2.bad = false ∧ isB s 124 q.2 = true) := Lib.hid ⟨hqb.out, by rw [hqi.out]; exact h124⟩
            clear h124
            go_wp2_with fail
            go_meet
            case rel => exact ⟨false, rfl, hO5, hR9⟩
          | false =>
            have hR9 : Hid (R0 = (l', q.2)) := Lib.hid (hend.out (.inr ⟨hqb.out, by rw [hqi.out]; exact h124⟩))
            clear h124
            go_wp2_with fail
            go_meet
            case rel => exact ⟨true, rfl, hO5, hR9⟩
      case rest =>
        obtain ⟨b, rfl, hO5, hR9⟩ := hcut
        clear hO4
        obtain ⟨w5, rfl⟩ : ∃ x : World, x = wc := ⟨_, rfl⟩
        cases b with
        | false =>
          have hT := hO5.out.T
          obtain ⟨c0, c1, c2, c3, c4, f1, f2, f3, f4⟩ := hT.cells
          have hqs := (hA4.out.ok hR9.out.1).1
          have hqa : Hid (st'.at_ = q.2.at_) := Lib.hid (by have h := congrArg (fun x : PS => x.at_) hqs; exact h)
          have hlt := isB_lt hR9.out.2
          have hlt' : st'.at_ < s.size := by rw [hqa.out]; exact hlt
          clear hqs hlt
          have hO6 := Lib.hid (hO5.out.kp hpw (K1.set' (o := 1) (.int .i64 (st'.at_ + 1))) (hT.at (st'.at_ + 1) (by omega))).swap
          have hA6 := Lib.hid hA4.out.next
          have hR6 := Lib.hid (hmore.out hR9.out.1 hR9.out.2)
          have hi6 : Hid (q.2.next.bad = false ∧ q.2.next.deep = sm0.deep ∧ sm0.at_ ≤ q.2.next.at_ ∧ s.size - q.2.next.at_ < m ∧ (Ca ++ [C]).length ≤ q.2.next.at_) := Lib.hid (by
            have h1 := hinv.out
            obtain ⟨y1, y2, y3⟩ := hcn.out.ok hR9.out.1
            have y4 := HM.out
            have y5 := hqa.out
            simp only [PS.next, List.length_append, List.length_singleton]
            exact ⟨hR9.out.1, by omega, by omega, by omega, by omega⟩)
          clear hT
          go_wp2_with fail
          go_roundg m
          case measure => have := HM.out; omega
          case rel => exact ⟨v1, _, _, _, _, _, (by first | rfl | trivial), hO6, hA6, hR6, hi6⟩
        | true =>
          have hlen : Hid ((Ca ++ [C]).length ≤ 10000000) := Lib.hid (by have := hca.out; simp only [List.length_append, List.length_singleton]; omega)
          have HP := Lib.hid (pairC 3 (.inr rfl) hO5.out.ol hO5.out.nl (fun g hg => by
            have h1 := hO5.out.S
            refine ⟨by omega, (fun e => by cases e), fun e => ?_⟩
            have := (hO5.out.ol.lt g e.symm).2; omega) hlen.out)
          have hA9 : Hid (∀ st9 : PS, st9.bad = st'.bad → (q.2.bad = false → st9 = q.2.lg st9.long) → (q.2.bad = false → st9.long = true → st'.long = true ∨ 400 < (pairB 3 (ta ++ [pairB 2 tl])).size) → Alike (orN s (n + 1) sm0) sr0.long (pairB 3 (ta ++ [pairB 2 tl])) st9) := Lib.hid (fun st9 e1 e2 e3 => by
            rw [hF.out, hR9.out]
            refine ⟨by rw [e1]; exact hA4.out.bad, fun hb => ?_⟩
            obtain ⟨a, b, c⟩ := hA4.out.ok hb
            refine ⟨e2 hb, by rw [b]; exact pairB_or l' hne.out, fun x => ?_⟩
            rcases e3 hb x with y | y
            · rcases c y with z | ⟨z, hz, hs⟩
              · exact .inl z
              · exact .inr (Nat.lt_of_lt_of_le hs (two_ge .or (fun _ _ => rfl) Rw.none l' z hz))
            · right
              rw [b, pairB_or l' hne.out, toB_size] at y; exact y)
          have hsz9 : Hid (q.2.bad = false → (pairB 3 (ta ++ [pairB 2 tl])).size ≤ 500000000) := Lib.hid (fun hb => by
            have hg := (orN_good s (n + 1) sm0 hbd h0 h50).ok (by rw [hF.out, hR9.out]; exact hb)
            rw [hF.out, hR9.out] at hg
            obtain ⟨a, b, _⟩ := hA4.out.ok hb
            have h2 : st'.at_ = q.2.at_ := by have h := congrArg (fun x : PS => x.at_) a; exact h
            have h3 := hO5.out.T.2
            rw [b, pairB_or l' hne.out, toB_size]
            have := hg.2.2
            simp only at this
            omega)
          have hAb := Lib.hid hA4.out.bad
          have hAo := Lib.hid hA4.out.ok
          generalize pairB 3 (ta ++ [pairB 2 tl]) = tF at *
          go_wp2_with fail
          refine HP.out.mono ?_
          rintro e w6 ⟨C5, rfl, hN6, hk6⟩
          have hO6 := hO5.out.kp hpw hk6.weak (hO5.out.T.kn hk6)
          have hR6 := hO6.R
          have hS6 := hO6.S
          have hT6 := hO6.T
          have hK6 := hO6.K
          have hcs5 := hN6.size
          obtain ⟨slq5, hnc5⟩ := hN6.nc
          have hone5 := hnc5.one
          have hiC5 : (Try.prog.info? TN).map (·.size) = some C5.size := by rw [hcs5]; exact zero_node.2
          have hzC5 : zeroC.size = C5.size := by rw [hcs5]; exact zeroC_size
          have hn7 : Kn w6 (w6.alloc (.cells zeroC TN (0, 0))) := (Kp.refl _ w6).alloc _
          have hB7 := blk_new w6 (.cells zeroC TN (0, 0))
          have HX : Hid (∃ w7, w7 = (w6.alloc (.cells zeroC TN (0, 0))).setRow w6.heap.size C5 ∧ w7.heap[w6.heap.size]? = some (.cells C5 TN (0, 0)) ∧ w7.heap[w.heap.size]? = some (.cells zeroC TN (0, 0)) ∧ Tat w7 p s st' ∧ K1 p w w7 ∧ NV w7 (fun g => w.heap.size + 1 ≤ g ∧ g < w6.heap.size) tF C5) := Lib.hid ⟨_, rfl, setRow_heap _ _ zeroC C5 TN (0, 0) hB7, (by rw [setRow_other _ _ _ _ (by omega)]; exact hn7.blk hR6 (fun x => x)), (hT6.kn hn7).row (by omega), K1.row (hK6.trans hn7.weak) (by omega) hB7, ((hN6.mono (fun g x hlt => ⟨x.1, hlt⟩)).kn hn7).row C5 (fun x => by omega)⟩
          clear hO6 hT6 hK6 hN6 hnc5 hO5 HP hk6
          go_upto_region 8 with (refine wpList_store_row rfl TN (.tmp 5) (.tmp 53) rfl w6.heap.size C5 rfl rfl TN zeroC hB7 hiC5 hzC5 hone5 ?_)
          obtain ⟨w7, hw7, hB8, hR8, hT8, hK8, hN8⟩ := HX.out
          rw [← hw7]
          clear hw7 HX
          have HN8 := Lib.hid hN8
          obtain ⟨g5, hg5⟩ : ∃ g, g = w6.heap.size := ⟨_, rfl⟩
          rw [← hg5] at hB8 ⊢
          have hg7 : w.heap.size < g5 := by omega
          clear hg5 hN8 hB7 hn7 hR6 hS6
          simp only [Act.put]
          go_cut [63] (fun _ wc => ∃ b : Bool, Hid (Tat wc p s { st' with long := b }) ∧ Hid (K1 p w7 wc) ∧ Hid (q.2.bad = false → b = true → st'.long = true ∨ 400 < tF.size))
          case first =>
            obtain ⟨c0, c1, c2, c3, c4, f1, f2, f3, f4⟩ := hT8.cells
            cases hlg : st'.long with
            | true =>
              have hT9 := Lib.hid (hT8.setLong true)
              rw [hlg] at c4
              go_wp2_with fail
              go_meet
              case rel => exact ⟨true, hT9, Lib.hid (K1.set' _), Lib.hid (fun _ _ => .inl (by first | rfl | trivial))⟩
            | false =>
              have HC := Lib.hid (SizeR_all tF.size tF C5 _ w7 (Nat.le_refl _) HN8.out)
              rw [hlg] at c4
              go_wp2_with fail
              refine wp_load_row TN (.tmp 5) rfl g5 rfl TN C5 (0, 0) _ hB8 Try.underlying30 rfl hiC5 ?_
              go_wp2_with fail
              refine HC.out.mono ?_
              rintro e w8 ⟨rfl, hk8⟩
              have hT9 := fun b => (hT8.kn hk8).setLong b
              have hK9 := fun (b : Bool) => (Kp.weak (S := fun k => k = p) hk8).trans (K1.set' (o := 4) (.bool b))
              have hf4 : w8.frozen? ⟨p, 4, none⟩ = false := (hT8.kn hk8).cells.2.2.2.2.2.2.2.2
              have hc4 := (hT8.kn hk8).cells.2.2.2.2.1
              have HT9 := Lib.hid hT9
              have HK9 := Lib.hid hK9
              clear hT9 hK9 c0 c1 c2 c3 c4 f1 f2 f3 f4 hk8
              have hsw : Hid (q.2.bad = false → decide ((400 : Int) < wrap64 tF.size) = true → st'.long = true ∨ 400 < tF.size) := Lib.hid (fun hb hd => by
                have := hsz9.out hb
                simp only [decide_eq_true_eq] at hd
                right
                unfold wrap64 at hd; omega)
              clear hlg
              go_wp2_with fail
              go_meet
              case rel => exact ⟨_, Lib.hid (HT9.out _), Lib.hid (HK9.out _), hsw⟩
          case rest =>
            obtain ⟨b, hT9, hk9, hb9⟩ := hcut
            have hB9 := hk9.out.blk hB8 (by omega)
            have hR9' := hk9.out.blk hR8 (by omega)
            have hK9 := hK8.trans hk9.out
            have hN9 := HN8.out.kp hk9.out (fun k x e => by omega)
            have hRf := setRow_heap _ _ zeroC C5 TN (0, 0) hR9'
            have hNf := (hN9.row C5 (g := w.heap.size) (fun x => by omega)).mono (M := A) (fun g hg _ => HA.out g (by omega))
            have hTf := hT9.out.row (C := C5) (show w.heap.size ≠ p by omega)
            have hKf := K1.row (C := C5) hK9 (Nat.le_refl _) hR9'
            have hAf := hA9.out { st' with long := b } rfl (fun hb => by have h := congrArg (fun x : PS => x.lg b) (hAo.out hb).1; exact h) hb9.out
            clear hN9 hT9
            go_wp2_with (first | (refine wpList_load_row rfl TN (.tmp 5) rfl g5 rfl TN C5 (0, 0) _ hB9 Try.underlying30 rfl hiC5 ?_) | (refine wpList_store_row rfl TN (.tmp 2) (.tmp 66) rfl w.heap.size C5 rfl rfl TN zeroC hR9' hiC5 hzC5 hone5 ?_))
            exact bodyPost_ret (results_cell_row rfl _ _ w.heap.size TN C5 (0, 0) _ rfl hRf Try.underlying30 rfl hiC5) rfl ⟨C5, _, _, rfl, hNf, hTf, hAf, hKf⟩

end Go.Proofs.Ytkhcnneflcbnpaa
