/-
  The document's reader of expressions: a text whole: the walk. Conditions: the text is short.
-/
import Derived.Test.YtkhcnneflcbnpaaMOr
namespace Go.Proofs.Ytkhcnneflcbnpaa
open Go.RowKit

theorem orR_all : ∀ n, OrR n
  | 0 => fun p s sm sr A w _ _ _ _ _ h => by omega
  | n + 1 => orR_c n (orR_all n)

theorem isS_long (s : ByteArray) (b : Nat) (st : PS) : (isS s b st).long = st.long := by have h := congrArg (fun x : PS => x.long) (isS_lg s b st st.long); exact h
theorem letS_long (s sp : ByteArray) (st : PS) : (letS s sp st).long = st.long := by have h := congrArg (fun x : PS => x.long) (letS_lg s sp st st.long); exact h
theorem clsR_long (s : ByteArray) (st : PS) : (clsR s st).1.long = st.long := by have h := congrArg (fun x : PS × W4 => x.1.long) (clsR_lg s st st.long); exact h
/-- what was not more than may be is so behind it, where it is not bad -/
def LB (f : PS → Rw × PS) : Prop := ∀ st, st.long = false → (f st).2.bad = false → (f st).2.long = false
theorem atom_lb {f : PS → Rw × PS} (s : ByteArray) (hf : LB f) : LB (atomF f s) := by
  intro st hl hb
  unfold atomF at hb ⊢
  simp only at hb ⊢
  split at hb
  · rename_i h1; rw [if_pos h1]
    split at hb
    · simp [PS.stop] at hb
    · rename_i h2; rw [if_neg h2]
      split at hb
      · rename_i h3; simp only [PS.upper] at hb; rw [h3] at hb; cases hb
      · rename_i h3; rw [if_neg h3]
        have h3' : (f st.next.deeper).2.bad = false := by simpa using h3
        split at hb
        · rename_i h4; rw [if_pos h4]; exact hf st.next.deeper hl h3'
        · simp [PS.fail] at hb
  · rename_i h1; rw [if_neg h1]
    split at hb
    · rename_i h2; rw [if_pos h2]; exact hl
    · rename_i h2; rw [if_neg h2]
      split at hb
      · rename_i h3; rw [if_pos h3]; exact (clsR_long s st.next).trans hl
      · rename_i h3; rw [if_neg h3]; exact (letS_long s specialOut st).trans hl
theorem facLoop_lb (s : ByteArray) (k : Nat) : ∀ (n : Rw) (st : PS), st.long = false ∨ st.bad = true → (facLoop s k n st).2.bad = false → (facLoop s k n st).2.long = false := by
  induction k with
  | zero => intro n st h hb; rcases h with h | h; exact h; rw [show (facLoop s 0 n st).2 = st from rfl, h] at hb; cases hb
  | succ k ih =>
    intro n st h hb
    rw [facLoop] at hb ⊢
    split at hb
    · rename_i h1; rw [h1] at hb; cases hb
    · rename_i h1; rw [if_neg h1]
      have hl : st.long = false := by rcases h with h | h; exact h; exact (h1 h).elim
      split at hb
      · rename_i h2; rw [if_pos h2]
        split at hb
        · simp [PS.stop] at hb
        · rename_i h3; rw [if_neg h3]; exact ih _ _ (.inl hl) hb
      · rename_i h2; rw [if_neg h2]
        split at hb
        · rename_i h3; rw [if_pos h3]
          split at hb
          · simp [PS.stop] at hb
          · rename_i h4; rw [if_neg h4]; exact ih _ _ (.inl hl) hb
        · rename_i h3; rw [if_neg h3]
          split at hb
          · rename_i h4; rw [if_pos h4]
            split at hb
            · simp [PS.stop] at hb
            · rename_i h5; rw [if_neg h5]; exact ih _ _ (.inl hl) hb
          · rename_i h4; rw [if_neg h4]; exact hl
theorem fac_lb {f : PS → Rw × PS} (s : ByteArray) (hf : LB f) : LB (facF f s) := by
  intro st hl hb
  refine facLoop_lb s _ _ _ ?_ hb
  cases h : (f st).2.bad with
  | true => exact .inr rfl
  | false => exact .inl (hf st hl h)
theorem catLoop_lb {f : PS → Rw × PS} (s : ByteArray) (hf : LB f) (k : Nat) : ∀ (l : List Rw) (st : PS), st.long = false ∨ st.bad = true → (catLoop f s k l st).2.bad = false → (catLoop f s k l st).2.long = false := by
  induction k with
  | zero => intro l st h hb; rcases h with h | h; exact h; rw [show (catLoop f s 0 l st).2 = st from rfl, h] at hb; cases hb
  | succ k ih =>
    intro l st h hb
    rw [catLoop] at hb ⊢
    split at hb
    · rename_i h1; rw [h1] at hb; cases hb
    · rename_i h1; rw [if_neg h1]
      have hl : st.long = false := by rcases h with h | h; exact h; exact (h1 h).elim
      split at hb
      · rename_i h2; rw [if_pos h2]; exact hl
      · rename_i h2; rw [if_neg h2]
        refine ih _ _ ?_ hb
        cases h : (f st).2.bad with
        | true => exact .inr rfl
        | false => exact .inl (hf st hl h)
theorem orLoop_lb {f : PS → Rw × PS} (s : ByteArray) (hf : LB f) (k : Nat) : ∀ (l : List Rw) (st : PS), st.long = false ∨ st.bad = true → (orLoop f s k l st).2.bad = false → (orLoop f s k l st).2.long = false := by
  induction k with
  | zero => intro l st h hb; rcases h with h | h; exact h; rw [show (orLoop f s 0 l st).2 = st from rfl, h] at hb; cases hb
  | succ k ih =>
    intro l st h hb
    rw [orLoop] at hb ⊢
    split at hb
    · rename_i h1; rw [h1] at hb; cases hb
    · rename_i h1; rw [if_neg h1]
      have hl : st.long = false := by rcases h with h | h; exact h; exact (h1 h).elim
      split at hb
      · rename_i h2; rw [if_pos h2]
        refine ih _ _ ?_ hb
        cases h : (f st.next).2.bad with
        | true => exact .inr rfl
        | false => exact .inl (hf st.next hl h)
      · rename_i h2; rw [if_neg h2]; exact hl
theorem orN_lb (s : ByteArray) : ∀ n, LB (orN s n)
  | 0 => fun _ h _ => h
  | n + 1 => fun st hl hb => by
    have hc : LB (catF (facF (atomF (orN s n) s) s) s) := fun st hl hb => catLoop_lb s (fac_lb s (atom_lb s (orN_lb s n))) _ [] st (.inl hl) hb
    refine orLoop_lb s hc _ _ _ ?_ hb
    cases h : (catF (facF (atomF (orN s n) s) s) s st).2.bad with
    | true => exact .inr rfl
    | false => exact .inl (hc st hl h)

theorem results_ctt9 {P : Program} {fn : Func} {p u v : Tmp} {ty : TypeId} (h : fn.results = #[.cell p ty, .tmp u, .tmp v]) (tmps : Array Value) (w : World) (g : Nat) (t : TypeId) (cs : Array Value) (fr : Nat × Nat) (d : TypeDesc)
    (hp : tmps.getD p undef = .pointer (some ⟨g, 0, none⟩)) (hg : w.heap[g]? = some (.cells cs t fr))
    (hu : P.underlying ty = some d) (hd : (match d with | .struct _ | .array _ _ => true | _ => false) = true) (hi : (P.info? ty).map (·.size) = some cs.size) :
    (results fn tmps).run P w = .ok (.tuple #[.agg cs, tmps.getD u undef, tmps.getD v undef]) w := by
  have hp' : tmps[p]?.getD undef = .pointer (some ⟨g, 0, none⟩) := by simpa using hp
  simp [results, h, hp', asAddr, run_loadVar_row w g t ty cs fr d hg hu hd hi]

/-- what the document's Parse answers -/
def ParseR (s : ByteArray) (w : World) (e : Ending) (w' : World) : Prop :=
  Kn w w' ∧ ∃ (C : Array Value) (at_ : Int) (gr : Bool), e = .returned (.tuple #[.agg C, .int .i64 at_, .bool gr]) ∧
    ((∃ t, parseO s = .ok t ∧ at_ = -1 ∧ gr = false ∧ NV w' (fun g => w.heap.size ≤ g) (toB t) C) ∨ ((∃ a no, parseO s = .err a no) ∧ (0 ≤ at_ ∨ gr = true) ∧ C = zeroC))

set_option maxRecDepth 100000 in
set_option maxHeartbeats 4000000 in
theorem ParseR_c (s : ByteArray) (w : World) (hs : s.size ≤ 1000000) : Calls Try.prog 9 #[.string s] w (ParseR s w) := by
  have hz := zero_node.1
  have hk0 : Kn w ((w.alloc (.cells zeroC TN (0, 0))).alloc (.cells (txArr s startPS) 56 (0, 0))) := ((Kp.refl (fun _ => False) w).alloc _).alloc _
  have hT0 : Tat ((w.alloc (.cells zeroC TN (0, 0))).alloc (.cells (txArr s startPS) 56 (0, 0))) (w.heap.size + 1) s startPS := ⟨by
    have h := blk_new (w.alloc (.cells zeroC TN (0, 0))) (.cells (txArr s startPS) 56 (0, 0))
    rw [size_alloc'] at h; exact h, by simp [startPS], hs⟩
  have hR0 := blk_alloc (blk_new w (.cells zeroC TN (0, 0))) (.cells (txArr s startPS) 56 (0, 0))
  have HC := Lib.hid (orR_all (s.size + 2) (w.heap.size + 1) s startPS startPS (fun g => w.heap.size + 2 ≤ g) _ hT0 rfl rfl (by simp [startPS]) (by simp [startPS]) (by simp [startPS]) (fun g hg => by simpa using hg))
  have hP : Hid (parseO s = if (orN s (s.size + 2) startPS).2.long then .err 0 3 else if (orN s (s.size + 2) startPS).2.bad || decide ((orN s (s.size + 2) startPS).2.at_ < s.size) then .err (orN s (s.size + 2) startPS).2.at_ 4 else if 400 < (orN s (s.size + 2) startPS).1.size then .err 0 3 else .ok (orN s (s.size + 2) startPS).1) := Lib.hid rfl
  have hLB : Hid ((orN s (s.size + 2) startPS).2.bad = false → (orN s (s.size + 2) startPS).2.long = false) := Lib.hid (orN_lb s (s.size + 2) startPS rfl)
  have hG := Lib.hid (orN_good s (s.size + 2) startPS rfl (by simp [startPS]) (by simp [startPS]))
  go_enter Try.func9, Try.ntmps9
  go_wp2_with fail
  refine HC.out.mono ?_
  rintro e w1 ⟨C, t, st, rfl, hN1, hT1, hA1, hk1⟩
  have hR1 := hk1.blk hR0 (by omega)
  have hS1 : w.heap.size + 2 ≤ w1.heap.size := by have := hk1.size; simpa using this
  have hK1 : Kn w w1 := hk0.trans' hk1 (fun i hi x => by omega)
  have HA := Lib.hid hA1
  clear hk1 hT0 hR0 HC hk0 hA1
  generalize orN s (s.size + 2) startPS = r at *
  have hcs := hN1.size
  obtain ⟨slq, hnc⟩ := hN1.nc
  have hone := hnc.one
  have hiC : (Try.prog.info? TN).map (·.size) = some C.size := by rw [hcs]; exact zero_node.2
  have hzC : zeroC.size = C.size := by rw [hcs]; exact zeroC_size
  have hn7 : Kn w1 (w1.alloc (.cells zeroC TN (0, 0))) := (Kp.refl _ w1).alloc _
  have hB7 := blk_new w1 (.cells zeroC TN (0, 0))
  have HX : Hid (∃ w7, w7 = (w1.alloc (.cells zeroC TN (0, 0))).setRow w1.heap.size C ∧ w7.heap[w1.heap.size]? = some (.cells C TN (0, 0)) ∧ w7.heap[w.heap.size]? = some (.cells zeroC TN (0, 0)) ∧ Tat w7 (w.heap.size + 1) s st ∧ Kn w w7 ∧ NV w7 (fun g => w.heap.size + 2 ≤ g ∧ g < w1.heap.size) t C) := Lib.hid ⟨_, rfl, setRow_heap _ _ zeroC C TN (0, 0) hB7, (by rw [setRow_other _ _ _ _ (by omega)]; exact hn7.blk hR1 (fun x => x)), (hT1.kn hn7).row (by omega), (hK1.trans hn7).trans' (kp_row _ w1.heap.size C) (fun i hi x => by omega), ((hN1.mono (fun g x hlt => ⟨x, hlt⟩)).kn hn7).row C (fun x => by omega)⟩
  clear hT1 hN1 hnc
  go_upto_region 3 with (refine wpList_store_row rfl TN (.tmp 6) (.tmp 11) rfl w1.heap.size C rfl rfl TN zeroC hB7 hiC hzC hone ?_)
  obtain ⟨w7, hw7, hB8, hR8, hT8, hK8, hN8⟩ := HX.out
  rw [← hw7]
  clear hw7 HX
  have HN8 := Lib.hid hN8
  obtain ⟨g5, hg5⟩ : ∃ g, g = w1.heap.size := ⟨_, rfl⟩
  rw [← hg5] at hB8 ⊢
  have hg7 : w.heap.size < g5 := by omega
  clear hg5 hN8 hB7 hn7 hR1 hS1 hK1
  simp only [Act.put]
  obtain ⟨c0, c1, c2, c3, c4, f1, f2, f3, f4⟩ := hT8.cells
  have hiZ : (Try.prog.info? TN).map (·.size) = some zeroC.size := by rw [zeroC_size]; exact zero_node.2
  have hRz := setRow_heap _ _ zeroC zeroC TN (0, 0) hR8
  have hKz : Kn w (w7.setRow w.heap.size zeroC) := hK8.trans' (kp_row _ w.heap.size zeroC) (fun i hi x => by omega)
  have herr : Hid (∀ (at_ : Int) (gr : Bool) (wf : World) (x y : Value), x = .int .i64 at_ → y = .bool gr → Kn w wf → (∃ a no, parseO s = .err a no) → (0 ≤ at_ ∨ gr = true) → ParseR s w (.returned (.tuple #[.agg zeroC, x, y])) wf) := Lib.hid (fun at_ gr wf x y ex ey h1 h2 h3 => ⟨h1, zeroC, at_, gr, by rw [ex, ey], .inr ⟨h2, h3, rfl⟩⟩)
  cases hlg : st.long with
  | true =>
    have hE : Hid (∃ a no, parseO s = .err a no) := Lib.hid (by
      rw [hP.out]
      cases hb : r.2.bad with
      | true => cases r.2.long <;> simp
      | false =>
        have h1 := (HA.out.ok hb).2.2 hlg
        have h2 : 400 < r.1.size := by rcases h1 with h | h; simp [startPS] at h; exact h
        rw [hLB.out hb]
        simp only [Bool.false_or, Bool.false_eq_true, if_false, if_pos h2]
        split <;> exact ⟨_, _, rfl⟩)
    rw [hlg] at c4
    clear hlg
    go_wp2_with (refine wpList_store_row rfl TN (.tmp 2) (.tmp 16) rfl w.heap.size zeroC rfl rfl TN zeroC hR8 hiZ rfl zeroC_one ?_)
    try simp only [Act.put, List.setIfInBounds_toArray, List.set_cons_zero, List.set_cons_succ]
    exact bodyPost_ret (results_ctt9 rfl _ _ w.heap.size TN zeroC (0, 0) _ rfl hRz Try.underlying30 rfl hiZ) rfl (herr.out 0 true _ _ _ rfl rfl hKz hE.out (.inr rfl))
  | false =>
    have HLG := Lib.hid hlg
    rw [hlg] at c4
    clear hlg
    have hRd := setRow_heap w7.drew w.heap.size zeroC zeroC TN (0, 0) hR8
    have hKd : Kn w (w7.drew.setRow w.heap.size zeroC) := hK8.drew.trans' (kp_row _ w.heap.size zeroC) (fun i hi x => by omega)
    cases hb : st.bad with
    | true =>
      have hrb : r.2.bad = true := by rw [← HA.out.bad]; exact hb
      rw [hb] at c3
      clear hb
      go_upto_region 6 with fail
      have hE : Hid (∃ a no, parseO s = .err a no) := Lib.hid (by
        rw [hP.out]
        cases hlr : r.2.long with
        | true => simp
        | false =>
          rw [if_neg (by decide)]
          rw [if_pos (by rw [hrb]; rfl)]; exact ⟨_, _, rfl⟩)
      refine wp_region_held_drew (S := fun w' => w'.cell? ⟨w.heap.size + 1, 1, none⟩ = some (.int .i64 st.at_)) (by kernel_rfl) (by exact c1) (fun hHeld => ?_)
      refine wpAnyH_take (i := 0) (oi := Oper.mk (some 30) _ _ _ _ _) (v := ?_) rfl (by kernel_rfl) (by kernel_rfl) (by kernel_rfl) (fun _ _ _ h => h) (Or.inl ⟨by rfl, ?_⟩) (by assumption) ?_
      rotate_left
      · (intro w hSw; go_simp; try with_reducible rfl)
      try simp only [Act.put, List.setIfInBounds_toArray, List.set_cons_zero, List.set_cons_succ]
      refine wpAnyH_take (i := 1) (oi := Oper.mk (some 31) _ _ _ _ _) (v := ?_) rfl (by kernel_rfl) (by kernel_rfl) (by kernel_rfl) (fun _ _ _ h => h) (Or.inl ⟨by rfl, ?_⟩) (by assumption) ?_
      rotate_left
      · (intro w hSw; go_simp; try with_reducible rfl)
      try simp only [Act.put, List.setIfInBounds_toArray, List.set_cons_zero, List.set_cons_succ]
      refine wpAnyH_take (i := 2) (oi := Oper.mk (some 32) _ _ _ _ _) (v := ?_) rfl (by kernel_rfl) (by kernel_rfl) (by kernel_rfl) (fun _ _ _ h => h) (Or.inl ⟨by rfl, ?_⟩) (by assumption) ?_
      rotate_left
      · (intro w hSw; go_simp; try with_reducible rfl)
      try simp only [Act.put, List.setIfInBounds_toArray, List.set_cons_zero, List.set_cons_succ]
      refine wpAnyH_take (i := 3) (oi := Oper.mk (some 33) _ _ _ _ _) (v := ?_) rfl (by kernel_rfl) (by kernel_rfl) (by kernel_rfl) (fun _ _ _ h => h) (Or.inl ⟨by rfl, ?_⟩) (by assumption) ?_
      rotate_left
      · (intro w hSw; go_simp; try with_reducible rfl)
      try simp only [Act.put, List.setIfInBounds_toArray, List.set_cons_zero, List.set_cons_succ]
      refine wpAnyH_take (i := 4) (oi := Oper.mk (some 34) _ _ _ _ _) (v := ?_) rfl (by kernel_rfl) (by kernel_rfl) (by kernel_rfl) (fun _ _ _ h => h) (Or.inl ⟨by rfl, ?_⟩) (by assumption) ?_
      rotate_left
      · (intro w hSw; go_simp; try with_reducible rfl)
      try simp only [Act.put, List.setIfInBounds_toArray, List.set_cons_zero, List.set_cons_succ]
      refine wpAnyH_ready (rs := [5]) (by kernel_rfl) (by simp) (AllReadyH.cons (o := Oper.mk none _ _ _ _ _) rfl (fun K hK => ?_) AllReadyH.nil)
      rw [if_pos (by rfl)]
      refine wp_store_row TN _ _ rfl w.heap.size zeroC rfl rfl TN zeroC hR8 hiZ rfl zeroC_one ?_
      refine hK.out _ _ (by rw [cell_blk (by rw [setRow_other _ _ _ _ (by omega)]; exact hT8.1)]; rfl) (fun hHeld => ?_)
      clear hK K
      try simp only [Act.put, List.setIfInBounds_toArray, List.set_cons_zero, List.set_cons_succ]
      refine wpAnyH_take (i := 6) (oi := Oper.mk (some 3) _ _ _ _ _) (v := ?_) rfl (by kernel_rfl) (by kernel_rfl) (by kernel_rfl) (fun _ _ _ h => h) (Or.inl ⟨by rfl, ?_⟩) (by assumption) ?_
      rotate_left
      · (intro w hSw; go_simp; try with_reducible rfl)
      try simp only [Act.put, List.setIfInBounds_toArray, List.set_cons_zero, List.set_cons_succ]
      refine wpAnyH_take (i := 7) (oi := Oper.mk (some 4) _ _ _ _ _) (v := ?_) rfl (by kernel_rfl) (by kernel_rfl) (by kernel_rfl) (fun _ _ _ h => h) (Or.inl ⟨by rfl, ?_⟩) (by assumption) ?_
      rotate_left
      · (intro w hSw; go_simp; try with_reducible rfl)
      try simp only [Act.put, List.setIfInBounds_toArray, List.set_cons_zero, List.set_cons_succ]
      refine wpAnyH_done (by kernel_rfl) ?_ _
      go_wp2_with fail
      try simp only [Act.put, List.setIfInBounds_toArray, List.set_cons_zero, List.set_cons_succ]
      exact bodyPost_ret (results_ctt9 rfl _ _ w.heap.size TN zeroC (0, 0) _ rfl hRd Try.underlying30 rfl hiZ) rfl (herr.out st.at_ false _ _ _ rfl rfl hKd hE.out (.inl (by omega)))
    | false =>
      have hrb : r.2.bad = false := by rw [← HA.out.bad]; exact hb
      have HQ := Lib.hid (HA.out.ok hrb)
      have HAT : Hid (st.at_ = r.2.at_) := Lib.hid (by have h := congrArg (fun x : PS => x.at_) HQ.out.1; exact h)
      rw [hb] at c3
      clear hb
      by_cases hlt : st.at_ < s.size
      · have hlt' : (st.at_ : Int) < s.size := by omega
        go_upto_region 6 with fail
        have hE : Hid (∃ a no, parseO s = .err a no) := Lib.hid (by
          rw [hP.out]
          cases hlr : r.2.long with
          | true => simp
          | false =>
            rw [if_neg (by decide)]
            rw [if_pos (by rw [← HAT.out, decide_eq_true hlt]; simp)]; exact ⟨_, _, rfl⟩)
        refine wp_region_held_drew (S := fun w' => w'.cell? ⟨w.heap.size + 1, 1, none⟩ = some (.int .i64 st.at_)) (by kernel_rfl) (by exact c1) (fun hHeld => ?_)
        refine wpAnyH_take (i := 0) (oi := Oper.mk (some 30) _ _ _ _ _) (v := ?_) rfl (by kernel_rfl) (by kernel_rfl) (by kernel_rfl) (fun _ _ _ h => h) (Or.inl ⟨by rfl, ?_⟩) (by assumption) ?_
        rotate_left
        · (intro w hSw; go_simp; try with_reducible rfl)
        try simp only [Act.put, List.setIfInBounds_toArray, List.set_cons_zero, List.set_cons_succ]
        refine wpAnyH_take (i := 1) (oi := Oper.mk (some 31) _ _ _ _ _) (v := ?_) rfl (by kernel_rfl) (by kernel_rfl) (by kernel_rfl) (fun _ _ _ h => h) (Or.inl ⟨by rfl, ?_⟩) (by assumption) ?_
        rotate_left
        · (intro w hSw; go_simp; try with_reducible rfl)
        try simp only [Act.put, List.setIfInBounds_toArray, List.set_cons_zero, List.set_cons_succ]
        refine wpAnyH_take (i := 2) (oi := Oper.mk (some 32) _ _ _ _ _) (v := ?_) rfl (by kernel_rfl) (by kernel_rfl) (by kernel_rfl) (fun _ _ _ h => h) (Or.inl ⟨by rfl, ?_⟩) (by assumption) ?_
        rotate_left
        · (intro w hSw; go_simp; try with_reducible rfl)
        try simp only [Act.put, List.setIfInBounds_toArray, List.set_cons_zero, List.set_cons_succ]
        refine wpAnyH_take (i := 3) (oi := Oper.mk (some 33) _ _ _ _ _) (v := ?_) rfl (by kernel_rfl) (by kernel_rfl) (by kernel_rfl) (fun _ _ _ h => h) (Or.inl ⟨by rfl, ?_⟩) (by assumption) ?_
        rotate_left
        · (intro w hSw; go_simp; try with_reducible rfl)
        try simp only [Act.put, List.setIfInBounds_toArray, List.set_cons_zero, List.set_cons_succ]
        refine wpAnyH_take (i := 4) (oi := Oper.mk (some 34) _ _ _ _ _) (v := ?_) rfl (by kernel_rfl) (by kernel_rfl) (by kernel_rfl) (fun _ _ _ h => h) (Or.inl ⟨by rfl, ?_⟩) (by assumption) ?_
        rotate_left
        · (intro w hSw; go_simp; try with_reducible rfl)
        try simp only [Act.put, List.setIfInBounds_toArray, List.set_cons_zero, List.set_cons_succ]
        refine wpAnyH_ready (rs := [5]) (by kernel_rfl) (by simp) (AllReadyH.cons (o := Oper.mk none _ _ _ _ _) rfl (fun K hK => ?_) AllReadyH.nil)
        rw [if_pos (by rfl)]
        refine wp_store_row TN _ _ rfl w.heap.size zeroC rfl rfl TN zeroC hR8 hiZ rfl zeroC_one ?_
        refine hK.out _ _ (by rw [cell_blk (by rw [setRow_other _ _ _ _ (by omega)]; exact hT8.1)]; rfl) (fun hHeld => ?_)
        clear hK K
        try simp only [Act.put, List.setIfInBounds_toArray, List.set_cons_zero, List.set_cons_succ]
        refine wpAnyH_take (i := 6) (oi := Oper.mk (some 3) _ _ _ _ _) (v := ?_) rfl (by kernel_rfl) (by kernel_rfl) (by kernel_rfl) (fun _ _ _ h => h) (Or.inl ⟨by rfl, ?_⟩) (by assumption) ?_
        rotate_left
        · (intro w hSw; go_simp; try with_reducible rfl)
        try simp only [Act.put, List.setIfInBounds_toArray, List.set_cons_zero, List.set_cons_succ]
        refine wpAnyH_take (i := 7) (oi := Oper.mk (some 4) _ _ _ _ _) (v := ?_) rfl (by kernel_rfl) (by kernel_rfl) (by kernel_rfl) (fun _ _ _ h => h) (Or.inl ⟨by rfl, ?_⟩) (by assumption) ?_
        rotate_left
        · (intro w hSw; go_simp; try with_reducible rfl)
        try simp only [Act.put, List.setIfInBounds_toArray, List.set_cons_zero, List.set_cons_succ]
        refine wpAnyH_done (by kernel_rfl) ?_ _
        go_wp2_with fail
        try simp only [Act.put, List.setIfInBounds_toArray, List.set_cons_zero, List.set_cons_succ]
        exact bodyPost_ret (results_ctt9 rfl _ _ w.heap.size TN zeroC (0, 0) _ rfl hRd Try.underlying30 rfl hiZ) rfl (herr.out st.at_ false _ _ _ rfl rfl hKd hE.out (.inl (by omega)))
      · have hlt' : ¬ (st.at_ : Int) < s.size := by omega
        have hsw : Hid (wrap64 t.size = ((r.1.size : Nat) : Int)) := Lib.hid (by
          have h1 := (hG.out.ok hrb).2.2
          have h2 := hT8.2.1
          have h3 := HAT.out
          simp only [startPS] at h1
          rw [HQ.out.2.1, toB_size]; unfold wrap64; omega)
        have hPO : Hid (parseO s = if 400 < r.1.size then .err 0 3 else .ok r.1) := Lib.hid (by
          rw [hP.out, hLB.out hrb, hrb, if_neg (by decide), if_neg (by rw [← HAT.out, decide_eq_false hlt]; decide)])
        have hcall := SizeR_all t.size t C _ w7 (Nat.le_refl _) HN8.out
        rw [hsw.out] at hcall
        have HC := Lib.hid hcall
        clear hcall
        go_wp2_with (refine wpList_load_row rfl TN (.tmp 6) rfl g5 rfl TN C (0, 0) _ hB8 Try.underlying30 rfl hiC ?_)
        refine HC.out.mono ?_
        rintro e w9 ⟨rfl, hk9⟩
        have hR9 := hk9.blk hR8 (fun x => x)
        have hB9 := hk9.blk hB8 (fun x => x)
        have hK9 := hK8.trans hk9
        have hN9 := HN8.out.kn hk9
        by_cases hgt : 400 < r.1.size
        · have hgt' : (400 : Int) < (r.1.size : Int) := by omega
          have hE : Hid (∃ a no, parseO s = .err a no) := Lib.hid ⟨0, 3, by rw [hPO.out, if_pos hgt]⟩
          have hRd9 := setRow_heap w9 w.heap.size zeroC zeroC TN (0, 0) hR9
          have hKd9 : Kn w (w9.setRow w.heap.size zeroC) := hK9.trans' (kp_row _ w.heap.size zeroC) (fun i hi x => by omega)
          go_wp2_with (refine wpList_store_row rfl TN (.tmp 2) (.tmp 38) rfl w.heap.size zeroC rfl rfl TN zeroC hR9 hiZ rfl zeroC_one ?_)
          try simp only [Act.put, List.setIfInBounds_toArray, List.set_cons_zero, List.set_cons_succ]
          exact bodyPost_ret (results_ctt9 rfl _ _ w.heap.size TN zeroC (0, 0) _ rfl hRd9 Try.underlying30 rfl hiZ) rfl (herr.out 0 true _ _ _ rfl rfl hKd9 hE.out (.inr rfl))
        · have hgt' : ¬ (400 : Int) < (r.1.size : Int) := by omega
          have hRd9 := setRow_heap w9 w.heap.size zeroC C TN (0, 0) hR9
          have hKd9 : Kn w (w9.setRow w.heap.size C) := hK9.trans' (kp_row _ w.heap.size C) (fun i hi x => by omega)
          have hNd9 := (hN9.row C (g := w.heap.size) (fun x => by omega)).mono (M := fun g => w.heap.size ≤ g) (fun g hg _ => by omega)
          have hfin : Hid (∀ x y : Value, x = .int .i64 (-1) → y = .bool false → ParseR s w (.returned (.tuple #[.agg C, x, y])) (w9.setRow w.heap.size C)) := Lib.hid (fun x y ex ey => ⟨hKd9, C, -1, false, by rw [ex, ey], .inl ⟨r.1, by rw [hPO.out, if_neg hgt], rfl, rfl, by rw [← HQ.out.2.1]; exact hNd9⟩⟩)
          go_wp2_with (first | (refine wpList_load_row rfl TN (.tmp 6) rfl g5 rfl TN C (0, 0) _ hB9 Try.underlying30 rfl hiC ?_) | (refine wpList_store_row rfl TN (.tmp 2) (.tmp 39) rfl w.heap.size C rfl rfl TN zeroC hR9 hiC hzC hone ?_))
          try simp only [Act.put, List.setIfInBounds_toArray, List.set_cons_zero, List.set_cons_succ]
          exact bodyPost_ret (results_ctt9 rfl _ _ w.heap.size TN C (0, 0) _ rfl hRd9 Try.underlying30 rfl hiC) rfl (hfin.out _ _ rfl rfl)

end Go.Proofs.Ytkhcnneflcbnpaa
