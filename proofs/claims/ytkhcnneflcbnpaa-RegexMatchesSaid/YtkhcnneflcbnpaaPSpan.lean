/-
  The reader of expressions: sets of bytes: the walks. Conditions: the reader stands in memory, within its text.
-/
import Derived.Test.YtkhcnneflcbnpaaPLet
namespace Go.Proofs.Ytkhcnneflcbnpaa
open Go.RowKit

abbrev wordsV (s : W4) : Array Value := #[.int .u64 s.a, .int .u64 s.b, .int .u64 s.c, .int .u64 s.d]
/-- a set of bytes in memory -/
def SetAt (w : World) (q : Nat) (s : W4) : Prop := w.heap[q]? = some (.cells (wordsV s) 41 (0, 0))
theorem SetAt.get {w : World} {q : Nat} {s : W4} (h : SetAt w q s) (i : Nat) (hi : i < 4) : w.cell? ⟨q, i, none⟩ = some (.int .u64 (s.get i)) := by
  rw [cell_blk h]
  match i, hi with
  | 0, _ => rfl
  | 1, _ => rfl
  | 2, _ => rfl
  | 3, _ => rfl
theorem SetAt.put {w : World} {q : Nat} {s : W4} (h : SetAt w q s) (i : Nat) (hi : i < 4) (x : Int) : SetAt (w.setCell ⟨q, i, none⟩ (.int .u64 x)) q (s.put i x) := by
  show _ = _
  rw [blk_set h]
  match i, hi with
  | 0, _ => rfl
  | 1, _ => rfl
  | 2, _ => rfl
  | 3, _ => rfl
theorem SetAt.kp {S : Nat → Prop} {w w' : World} {q : Nat} {s : W4} (h : SetAt w q s) (hk : Kp S w w') (hs : ¬ S q) : SetAt w' q s := hk.blk h hs

theorem put_ok {s : W4} (h : s.ok) (i : Nat) (x : Int) (h0 : 0 ≤ x) (h1 : x < 18446744073709551616) : (s.put i x).ok := by
  obtain ⟨ha, hb, hc, hd⟩ := h
  unfold W4.put
  split
  · exact ⟨⟨h0, h1⟩, hb, hc, hd⟩
  · split
    · exact ⟨ha, ⟨h0, h1⟩, hc, hd⟩
    · split
      · exact ⟨ha, hb, ⟨h0, h1⟩, hd⟩
      · exact ⟨ha, hb, hc, ⟨h0, h1⟩⟩
theorem wrap_range (x : Int) : 0 ≤ IntKind.u64.wrap x ∧ IntKind.u64.wrap x < 18446744073709551616 := by
  rw [IntKind.wrap_u64]; omega
theorem zero_ok : W4.zero.ok := by unfold W4.ok W4.zero; simp
theorem one_ok (b : Nat) : (W4.one b).ok := put_ok zero_ok _ _ (wrap_range _).1 (wrap_range _).2
theorem or_range {x y : Int} (hx : 0 ≤ x ∧ x < 18446744073709551616) (hy : 0 ≤ y ∧ y < 18446744073709551616) : 0 ≤ bits .or .u64 x y ∧ bits .or .u64 x y < 18446744073709551616 := by
  rw [u64_or x y hx.1 hx.2 hy.1 hy.2]
  have h1 : x.toNat < 2 ^ 64 := by omega
  have h2 : y.toNat < 2 ^ 64 := by omega
  have := Nat.or_lt_two_pow h1 h2
  omega
theorem add_ok {s : W4} (h : s.ok) (b : Nat) : (s.add b).ok := by
  have hr := or_range (get_range h (b / 64)) (wrap_range (2 ^ (b % 64)))
  exact put_ok h _ _ hr.1 hr.2
def addN (s : W4) (lo n : Nat) : W4 := (List.range' lo n).foldl W4.add s
theorem addN_zero (s : W4) (lo : Nat) : addN s lo 0 = s := rfl
theorem addN_succ (s : W4) (lo n : Nat) : addN s lo (n + 1) = (addN s lo n).add (lo + n) := by
  unfold addN
  rw [List.range'_concat, List.foldl_append]; simp
theorem addN_ok {s : W4} (h : s.ok) (lo n : Nat) : (addN s lo n).ok := by
  induction n with
  | zero => exact h
  | succ n ih => rw [addN_succ]; exact add_ok ih _

set_option maxHeartbeats 400000 in
theorem one_c (b : Nat) (hb : b < 256) (w : World) :
    Calls Try.prog 28 #[.int .u8 b] w fun e w' => e = .returned (.agg (wordsV (W4.one b))) ∧ Kn w w' := by
  have key : ∀ (i : Nat), i < 4 → (b : Int) / 64 = i → Calls Try.prog 28 #[.int .u8 b] w fun e w' => e = .returned (.agg (wordsV (W4.zero.put i (IntKind.u64.wrap (2 ^ (b % 64)))))) ∧ Kn w w' := by
    intro i hi hq
    match i, hi with
    | 0, _ =>
      go_enter Try.func28, Try.ntmps28
      go_wp2_with fail
      exact bodyPost_ret (v := .agg (wordsV (W4.zero.put 0 (IntKind.u64.wrap (2 ^ (b % 64)))))) (by simp [results, Try.results28, go_sem]; exact ⟨rfl, rfl, rfl, rfl⟩) rfl ⟨rfl, ((Kp.refl _ w).alloc _).alloc _⟩
    | 1, _ =>
      go_enter Try.func28, Try.ntmps28
      go_wp2_with fail
      exact bodyPost_ret (v := .agg (wordsV (W4.zero.put 1 (IntKind.u64.wrap (2 ^ (b % 64)))))) (by simp [results, Try.results28, go_sem]; exact ⟨rfl, rfl, rfl, rfl⟩) rfl ⟨rfl, ((Kp.refl _ w).alloc _).alloc _⟩
    | 2, _ =>
      go_enter Try.func28, Try.ntmps28
      go_wp2_with fail
      exact bodyPost_ret (v := .agg (wordsV (W4.zero.put 2 (IntKind.u64.wrap (2 ^ (b % 64)))))) (by simp [results, Try.results28, go_sem]; exact ⟨rfl, rfl, rfl, rfl⟩) rfl ⟨rfl, ((Kp.refl _ w).alloc _).alloc _⟩
    | 3, _ =>
      go_enter Try.func28, Try.ntmps28
      go_wp2_with fail
      exact bodyPost_ret (v := .agg (wordsV (W4.zero.put 3 (IntKind.u64.wrap (2 ^ (b % 64)))))) (by simp [results, Try.results28, go_sem]; exact ⟨rfl, rfl, rfl, rfl⟩) rfl ⟨rfl, ((Kp.refl _ w).alloc _).alloc _⟩
  have h := key (b / 64) (by omega) (by omega)
  exact h

theorem spanHi_lt (s : ByteArray) (st : PS) : spanHi s st < 256 := by
  unfold spanHi; split <;> exact letV_lt _ _ _

set_option maxRecDepth 100000 in
set_option maxHeartbeats 4000000 in
theorem span_c1 (p q : Nat) (hne : q ≠ p) (s : ByteArray) (st : PS) (ws : W4) (w : World) (h : Pat w p s st) (hs : SetAt w q ws) (hR : spanRange s st = false) (hb : (letS s specialIn st).bad = true) :
    Calls Try.prog 48 #[ptr p, ptr q] w fun e w' => e = .returned (.tuple #[]) ∧ Pat w' p s (spanS s st) ∧ SetAt w' q (spanW s st ws) ∧ Kp (fun k => k = p ∨ k = q) w w' := by
  have hsz := h.2.2
  have hlo := letV_lt s specialIn st
  have hhi := spanHi_lt s st
  have hH : Hid (spanHi s st = letV s specialIn st) := Lib.hid (by simp [spanHi, hR])
  have hS : Hid (spanS s st = letS s specialIn st) := Lib.hid (by simp [spanS, hR])
  have hRR := Lib.hid hR
  clear hR
  have hWe : Hid (spanW s st ws = if (letS s specialIn st).bad then ws else ws.addTo (letV s specialIn st) (letV s specialIn st)) := Lib.hid (by unfold spanW; rw [hS.out, hH.out])
  have hBad := Lib.hid hb
  have hW : Hid (spanW s st ws = ws) := Lib.hid (by rw [hWe.out, hb]; rfl)
  clear hb
  go_enter Try.func48, Try.ntmps48
  go_wp2_with fail
  refine (letter_c p s specialIn st w h).mono ?_
  rintro e w1 ⟨rfl, hp1, hk1⟩
  have hs1 := hs.kp hk1 (fun x => hne x)
  have hk1' : Kp (fun k => k = p ∨ k = q) w w1 := hk1.mono (fun _ _ x => .inl x)
  have hhi9 := letV_lt s specialIn (letS s specialIn st).next
  generalize letV s specialIn (letS s specialIn st).next = hi at *
  generalize letV s specialIn st = lo at *
  obtain ⟨x0, x1, x2, x3, x4, _, _, _, _⟩ := hp1.cells
  rw [hBad.out] at x2
  go_wp2_with fail
  clear x0 x1 x2 x3 x4
  go_loopw [7] (fun b wr => b = .int .i64 (lo : Int) ∧ Pat wr p s (spanS s st) ∧ SetAt wr q ws ∧ Kp (fun k => k = p ∨ k = q) w wr) (fun _ _ => 0)
  case atStart => exact ⟨rfl, by rw [hS.out]; exact hp1, hs1, hk1'⟩
  case round =>
    obtain ⟨rfl, PY, SY, KY⟩ := hrel
    obtain ⟨x0, x1, x2, x3, x4, _, _, _, _⟩ := PY.cells
    rw [hS.out, hBad.out] at x2
    go_wp2_with fail
    go_end0
    exact ⟨rfl, PY, by rw [hW.out]; exact SY, KY⟩

set_option maxRecDepth 100000 in
set_option maxHeartbeats 4000000 in
theorem span_c2 (p q : Nat) (hne : q ≠ p) (s : ByteArray) (st : PS) (ws : W4) (w : World) (h : Pat w p s st) (hs : SetAt w q ws) (hR : spanRange s st = false) (hb : (letS s specialIn st).bad = false) :
    Calls Try.prog 48 #[ptr p, ptr q] w fun e w' => e = .returned (.tuple #[]) ∧ Pat w' p s (spanS s st) ∧ SetAt w' q (spanW s st ws) ∧ Kp (fun k => k = p ∨ k = q) w w' := by
  have hsz := h.2.2
  have hlo := letV_lt s specialIn st
  have hhi := spanHi_lt s st
  have hH : Hid (spanHi s st = letV s specialIn st) := Lib.hid (by simp [spanHi, hR])
  have hS : Hid (spanS s st = letS s specialIn st) := Lib.hid (by simp [spanS, hR])
  have hRR := Lib.hid hR
  clear hR
  have hWe : Hid (spanW s st ws = if (letS s specialIn st).bad then ws else ws.addTo (letV s specialIn st) (letV s specialIn st)) := Lib.hid (by unfold spanW; rw [hS.out, hH.out])
  have hBad := Lib.hid hb
  have hW : Hid (spanW s st ws = ws.addTo (letV s specialIn st) (letV s specialIn st)) := Lib.hid (by rw [hWe.out, hb]; rfl)
  have hI : Hid (isB s 45 (letS s specialIn st) = false) := Lib.hid (by have := hRR.out; simpa [spanRange, hb] using this)
  have hIS : Hid (isS s 45 (letS s specialIn st) = letS s specialIn st) := Lib.hid (by simp [isS, hI.out])
  clear hb
  go_enter Try.func48, Try.ntmps48
  go_wp2_with fail
  refine (letter_c p s specialIn st w h).mono ?_
  rintro e w1 ⟨rfl, hp1, hk1⟩
  have hs1 := hs.kp hk1 (fun x => hne x)
  have hk1' : Kp (fun k => k = p ∨ k = q) w w1 := hk1.mono (fun _ _ x => .inl x)
  obtain ⟨y0, y1, y2, y3, y4, _, _, _, _⟩ := hp1.cells
  rw [hBad.out] at y2
  go_wp2_with fail
  refine (is_c 45 p s _ w1 hp1).mono ?_
  rintro e w2 ⟨rfl, hp2, hk2⟩
  rw [hI.out]
  rw [hIS.out] at hp2
  have hs2 := hs1.kp hk2 (fun x => hne x)
  have hk2' : Kp (fun k => k = p ∨ k = q) w w2 := hk1'.trans (hk2.mono (fun _ _ x => .inl x))
  clear y0 y1 y2 y3 y4
  generalize letV s specialIn st = lo at *
  obtain ⟨x0, x1, x2, x3, x4, _, _, _, _⟩ := hp2.cells
  rw [hBad.out] at x2
  go_wp2_with fail
  go_loopw [7] (fun b wr => ∃ i : Nat, lo + i ≤ 256 ∧ (i = 0 ∨ lo + i ≤ lo + 1) ∧ b = .int .i64 ((lo + i : Nat) : Int) ∧ Pat wr p s (letS s specialIn st) ∧ SetAt wr q (addN ws lo i) ∧ Kp (fun k => k = p ∨ k = q) w wr) (fun b _ => 256 - (intOf b).toNat)
  case atStart => exact ⟨0, by omega, .inl rfl, rfl, hp2, hs2, hk2'⟩
  case round =>
    clear x0 x1 x2 x3 x4
    obtain ⟨i, hi1, hi2, rfl, PY, SY, KY⟩ := hrel
    obtain ⟨x0, x1, x2, x3, x4, _, _, _, _⟩ := PY.cells
    rw [hBad.out] at x2
    by_cases hle : lo + i ≤ lo
    · have hle' : ((lo + i : Nat) : Int) ≤ lo := by omega
      have hlt' : ((lo + i : Nat) : Int) < 256 := by omega
      have hg := SY.get ((lo + i) / 64) (by omega)
      have hfz : wr.frozen? ⟨q, (lo + i) / 64, none⟩ = false := frozen_blk SY _
      have hsp := SY.put ((lo + i) / 64) (by omega) (bits .or .u64 ((addN ws lo i).get ((lo + i) / 64)) (IntKind.u64.wrap (2 ^ ((lo + i) % 64))))
      have hsu : Hid (addN ws lo (i + 1) = (addN ws lo i).put ((lo + i) / 64) (bits .or .u64 ((addN ws lo i).get ((lo + i) / 64)) (IntKind.u64.wrap (2 ^ ((lo + i) % 64))))) := Lib.hid (addN_succ ws lo i)
      have hne' : p ≠ q := fun x => hne x.symm
      obtain ⟨j, hj⟩ : ∃ j, j = lo + i := ⟨_, rfl⟩
      rw [← hj] at hle' hlt' hg hfz hsp hsu
      rw [← hj]
      have hj' := Lib.hid hj
      clear hj
      have hjq : (j : Int) / 64 < 4 := by omega
      have hjq0 : (0 : Int) ≤ (j : Int) / 64 := by omega
      go_wp2_with fail
      go_region
      all_goals
        go_wp2_with fail
        go_roundw
        case rel =>
          have hjj := hj'.out
          refine ⟨i + 1, by omega, .inr (by omega), by rw [hjj]; go_num, ?_, ?_, ?_⟩
          · exact ⟨(blk_set_ne PY.1 hne' _ _), PY.2⟩
          · rw [hsu.out]; exact hsp
          · exact (KY.drewN 1).setCell (p := ⟨q, j / 64, none⟩) (fun _ => .inr rfl) _
        case measure => simp [intOf]; omega
    · have hle' : ¬ ((lo + i : Nat) : Int) ≤ lo := by omega
      have hfi : Hid (addN ws lo i = ws.addTo lo lo) := Lib.hid (by
        unfold addN W4.addTo
        have : i = lo + 1 - lo := by omega
        rw [this])
      go_wp2_with fail
      go_end0
      refine ⟨rfl, ?_, ?_, KY⟩
      · rw [hS.out]; exact PY
      · rw [hW.out, ← hfi.out]; exact SY

set_option maxRecDepth 100000 in
set_option maxHeartbeats 4000000 in
theorem span_c3 (p q : Nat) (hne : q ≠ p) (s : ByteArray) (st : PS) (ws : W4) (w : World) (h : Pat w p s st) (hs : SetAt w q ws) (hR : spanRange s st = true) (hb : (letS s specialIn (letS s specialIn st).next).bad = true) :
    Calls Try.prog 48 #[ptr p, ptr q] w fun e w' => e = .returned (.tuple #[]) ∧ Pat w' p s (spanS s st) ∧ SetAt w' q (spanW s st ws) ∧ Kp (fun k => k = p ∨ k = q) w w' := by
  have hsz := h.2.2
  have hlo := letV_lt s specialIn st
  have hhi := spanHi_lt s st
  have hRb : (letS s specialIn st).bad = false ∧ isB s 45 (letS s specialIn st) = true := by simpa [spanRange] using hR
  have hB1 := Lib.hid hRb.1
  have hI := Lib.hid hRb.2
  have hH : Hid (spanHi s st = letV s specialIn (isS s 45 (letS s specialIn st))) := Lib.hid (by simp [spanHi, hR])
  have hIS : Hid (isS s 45 (letS s specialIn st) = (letS s specialIn st).next) := Lib.hid (by simp [isS, hI.out])
  have hSe : Hid (spanS s st = if !(letS s specialIn (letS s specialIn st).next).bad && decide (spanHi s st < letV s specialIn st) then (letS s specialIn (letS s specialIn st).next).back ((letS s specialIn st).at_ + 1) else letS s specialIn (letS s specialIn st).next) :=
    Lib.hid (by simp only [spanS, hR, if_true, hIS.out])
  have hWe : Hid (spanW s st ws = if (spanS s st).bad then ws else ws.addTo (letV s specialIn st) (spanHi s st)) := Lib.hid rfl
  clear hR hRb
  have hBad := Lib.hid hb
  have hS : Hid (spanS s st = letS s specialIn (letS s specialIn st).next) := Lib.hid (by rw [hSe.out, hb]; rfl)
  have hW : Hid (spanW s st ws = ws) := Lib.hid (by rw [hWe.out, hS.out, hb]; rfl)
  clear hb
  go_enter Try.func48, Try.ntmps48
  go_wp2_with fail
  refine (letter_c p s specialIn st w h).mono ?_
  rintro e w1 ⟨rfl, hp1, hk1⟩
  have hs1 := hs.kp hk1 (fun x => hne x)
  have hk1' : Kp (fun k => k = p ∨ k = q) w w1 := hk1.mono (fun _ _ x => .inl x)
  obtain ⟨y0, y1, y2, y3, y4, _, _, _, _⟩ := hp1.cells
  rw [hB1.out] at y2
  go_wp2_with fail
  refine (is_c 45 p s _ w1 hp1).mono ?_
  rintro e w2 ⟨rfl, hp2, hk2⟩
  rw [hI.out]
  rw [hIS.out] at hp2
  have hs2 := hs1.kp hk2 (fun x => hne x)
  have hk2' : Kp (fun k => k = p ∨ k = q) w w2 := hk1'.trans (hk2.mono (fun _ _ x => .inl x))
  clear y0 y1 y2 y3 y4
  obtain ⟨z0, z1, z2, z3, z4, _, _, _, _⟩ := hp2.cells
  go_wp2_with fail
  refine (letter_c p s specialIn _ w2 hp2).mono ?_
  rintro e w3 ⟨rfl, hp3, hk3⟩
  have hs3 := hs2.kp hk3 (fun x => hne x)
  have hk3' : Kp (fun k => k = p ∨ k = q) w w3 := hk2'.trans (hk3.mono (fun _ _ x => .inl x))
  clear z0 z1 z2 z3 z4
  have hhi9 := letV_lt s specialIn (letS s specialIn st).next
  generalize letV s specialIn (letS s specialIn st).next = hi at *
  generalize letV s specialIn st = lo at *
  obtain ⟨x0, x1, x2, x3, x4, _, _, _, _⟩ := hp3.cells
  rw [hBad.out] at x2
  go_wp2_with fail
  clear x0 x1 x2 x3 x4
  go_loopw [7] (fun b wr => b = .int .i64 (lo : Int) ∧ Pat wr p s (spanS s st) ∧ SetAt wr q ws ∧ Kp (fun k => k = p ∨ k = q) w wr) (fun _ _ => 0)
  case atStart => exact ⟨rfl, by rw [hS.out]; exact hp3, hs3, hk3'⟩
  case round =>
    obtain ⟨rfl, PY, SY, KY⟩ := hrel
    obtain ⟨x0, x1, x2, x3, x4, _, _, _, _⟩ := PY.cells
    rw [hS.out, hBad.out] at x2
    by_cases hlh : (lo : Int) ≤ hi
    · first
      | (exfalso; omega)
      | (go_wp2_with fail
         go_end0
         exact ⟨rfl, PY, by rw [hW.out]; exact SY, KY⟩)
    · go_wp2_with fail
      go_end0
      exact ⟨rfl, PY, by rw [hW.out]; exact SY, KY⟩

set_option maxRecDepth 100000 in
set_option maxHeartbeats 4000000 in
theorem span_c4 (p q : Nat) (hne : q ≠ p) (s : ByteArray) (st : PS) (ws : W4) (w : World) (h : Pat w p s st) (hs : SetAt w q ws) (hR : spanRange s st = true) (hb : (letS s specialIn (letS s specialIn st).next).bad = false) (hlt : spanHi s st < letV s specialIn st) :
    Calls Try.prog 48 #[ptr p, ptr q] w fun e w' => e = .returned (.tuple #[]) ∧ Pat w' p s (spanS s st) ∧ SetAt w' q (spanW s st ws) ∧ Kp (fun k => k = p ∨ k = q) w w' := by
  have hsz := h.2.2
  have hlo := letV_lt s specialIn st
  have hhi := spanHi_lt s st
  have hRb : (letS s specialIn st).bad = false ∧ isB s 45 (letS s specialIn st) = true := by simpa [spanRange] using hR
  have hB1 := Lib.hid hRb.1
  have hI := Lib.hid hRb.2
  have hH : Hid (spanHi s st = letV s specialIn (isS s 45 (letS s specialIn st))) := Lib.hid (by simp [spanHi, hR])
  have hIS : Hid (isS s 45 (letS s specialIn st) = (letS s specialIn st).next) := Lib.hid (by simp [isS, hI.out])
  have hSe : Hid (spanS s st = if !(letS s specialIn (letS s specialIn st).next).bad && decide (spanHi s st < letV s specialIn st) then (letS s specialIn (letS s specialIn st).next).back ((letS s specialIn st).at_ + 1) else letS s specialIn (letS s specialIn st).next) :=
    Lib.hid (by simp only [spanS, hR, if_true, hIS.out])
  have hWe : Hid (spanW s st ws = if (spanS s st).bad then ws else ws.addTo (letV s specialIn st) (spanHi s st)) := Lib.hid rfl
  clear hR hRb
  have hB3 := Lib.hid hb
  have hS : Hid (spanS s st = (letS s specialIn (letS s specialIn st).next).back ((letS s specialIn st).at_ + 1)) := Lib.hid (by rw [hSe.out, hb]; simp [hlt])
  have hBad : Hid (((letS s specialIn (letS s specialIn st).next).back ((letS s specialIn st).at_ + 1)).bad = true) := Lib.hid rfl
  have hW : Hid (spanW s st ws = ws) := Lib.hid (by rw [hWe.out, hS.out]; rfl)
  have hlt' : ((letV s specialIn (letS s specialIn st).next : Nat) : Int) < (letV s specialIn st : Nat) := by rw [← hIS.out, ← hH.out]; omega
  clear hb hlt
  go_enter Try.func48, Try.ntmps48
  go_wp2_with fail
  refine (letter_c p s specialIn st w h).mono ?_
  rintro e w1 ⟨rfl, hp1, hk1⟩
  have hs1 := hs.kp hk1 (fun x => hne x)
  have hk1' : Kp (fun k => k = p ∨ k = q) w w1 := hk1.mono (fun _ _ x => .inl x)
  obtain ⟨y0, y1, y2, y3, y4, _, _, _, _⟩ := hp1.cells
  rw [hB1.out] at y2
  go_wp2_with fail
  refine (is_c 45 p s _ w1 hp1).mono ?_
  rintro e w2 ⟨rfl, hp2, hk2⟩
  rw [hI.out]
  rw [hIS.out] at hp2
  have hs2 := hs1.kp hk2 (fun x => hne x)
  have hk2' : Kp (fun k => k = p ∨ k = q) w w2 := hk1'.trans (hk2.mono (fun _ _ x => .inl x))
  clear y0 y1 y2 y3 y4
  obtain ⟨z0, z1, z2, z3, z4, _, _, _, _⟩ := hp2.cells
  go_wp2_with fail
  refine (letter_c p s specialIn _ w2 hp2).mono ?_
  rintro e w3 ⟨rfl, hp3, hk3⟩
  have hs3 := hs2.kp hk3 (fun x => hne x)
  have hk3' : Kp (fun k => k = p ∨ k = q) w w3 := hk2'.trans (hk3.mono (fun _ _ x => .inl x))
  have hat : (letS s specialIn st).next.at_ ≤ s.size := hp2.2.1
  clear z0 z1 z2 z3 z4
  obtain ⟨z0, z1, z2, z3, z4, zf, _, _, _⟩ := hp3.cells
  rw [hB3.out] at z2
  have hp4 := hp3.at (letS s specialIn st).next.at_ hat
  have hs4 := hs3.kp (K1.set (p := p) (o := 1) (.int .i64 (letS s specialIn st).next.at_)) (fun x => hne x)
  go_wp2_with fail
  refine (fail_c p s _ _ hp4).mono ?_
  rintro e w5 ⟨_, rfl, _, hp5, hk5⟩
  have hs5 := hs4.kp hk5 (fun x => hne x)
  have hk5' : Kp (fun k => k = p ∨ k = q) w w5 := (hk3'.setCell (p := ⟨p, 1, none⟩) (fun _ => .inl rfl) _).trans (hk5.mono (fun _ _ x => .inl x))
  have hp6 : Pat w5 p s ((letS s specialIn (letS s specialIn st).next).back ((letS s specialIn st).at_ + 1)) := hp5
  clear z0 z1 z2 z3 z4 zf
  have hhi9 := letV_lt s specialIn (letS s specialIn st).next
  generalize letV s specialIn (letS s specialIn st).next = hi at *
  generalize letV s specialIn st = lo at *
  obtain ⟨x0, x1, x2, x3, x4, _, _, _, _⟩ := hp6.cells
  rw [hBad.out] at x2
  go_wp2_with fail
  clear x0 x1 x2 x3 x4
  go_loopw [7] (fun b wr => b = .int .i64 (lo : Int) ∧ Pat wr p s (spanS s st) ∧ SetAt wr q ws ∧ Kp (fun k => k = p ∨ k = q) w wr) (fun _ _ => 0)
  case atStart => exact ⟨rfl, by rw [hS.out]; exact hp6, hs5, hk5'⟩
  case round =>
    obtain ⟨rfl, PY, SY, KY⟩ := hrel
    obtain ⟨x0, x1, x2, x3, x4, _, _, _, _⟩ := PY.cells
    rw [hS.out, hBad.out] at x2
    by_cases hlh : (lo : Int) ≤ hi
    · first
      | (exfalso; omega)
      | (go_wp2_with fail
         go_end0
         exact ⟨rfl, PY, by rw [hW.out]; exact SY, KY⟩)
    · go_wp2_with fail
      go_end0
      exact ⟨rfl, PY, by rw [hW.out]; exact SY, KY⟩

set_option maxRecDepth 100000 in
set_option maxHeartbeats 4000000 in
theorem span_c5 (p q : Nat) (hne : q ≠ p) (s : ByteArray) (st : PS) (ws : W4) (w : World) (h : Pat w p s st) (hs : SetAt w q ws) (hR : spanRange s st = true) (hb : (letS s specialIn (letS s specialIn st).next).bad = false) (hlt : ¬ spanHi s st < letV s specialIn st) :
    Calls Try.prog 48 #[ptr p, ptr q] w fun e w' => e = .returned (.tuple #[]) ∧ Pat w' p s (spanS s st) ∧ SetAt w' q (spanW s st ws) ∧ Kp (fun k => k = p ∨ k = q) w w' := by
  have hsz := h.2.2
  have hlo := letV_lt s specialIn st
  have hhi := spanHi_lt s st
  have hRb : (letS s specialIn st).bad = false ∧ isB s 45 (letS s specialIn st) = true := by simpa [spanRange] using hR
  have hB1 := Lib.hid hRb.1
  have hI := Lib.hid hRb.2
  have hH : Hid (spanHi s st = letV s specialIn (isS s 45 (letS s specialIn st))) := Lib.hid (by simp [spanHi, hR])
  have hIS : Hid (isS s 45 (letS s specialIn st) = (letS s specialIn st).next) := Lib.hid (by simp [isS, hI.out])
  have hSe : Hid (spanS s st = if !(letS s specialIn (letS s specialIn st).next).bad && decide (spanHi s st < letV s specialIn st) then (letS s specialIn (letS s specialIn st).next).back ((letS s specialIn st).at_ + 1) else letS s specialIn (letS s specialIn st).next) :=
    Lib.hid (by simp only [spanS, hR, if_true, hIS.out])
  have hWe : Hid (spanW s st ws = if (spanS s st).bad then ws else ws.addTo (letV s specialIn st) (spanHi s st)) := Lib.hid rfl
  clear hR hRb
  have hB3 := Lib.hid hb
  have hS : Hid (spanS s st = letS s specialIn (letS s specialIn st).next) := Lib.hid (by rw [hSe.out]; simp [hlt])
  have hBad := hB3
  have hW : Hid (spanW s st ws = ws.addTo (letV s specialIn st) (letV s specialIn (letS s specialIn st).next)) := Lib.hid (by rw [hWe.out, hS.out, hb, hH.out, hIS.out]; rfl)
  have hlt' : ¬ ((letV s specialIn (letS s specialIn st).next : Nat) : Int) < (letV s specialIn st : Nat) := by rw [← hIS.out, ← hH.out]; omega
  have hhi' : letV s specialIn (letS s specialIn st).next < 256 := letV_lt _ _ _
  clear hb hlt
  go_enter Try.func48, Try.ntmps48
  go_wp2_with fail
  refine (letter_c p s specialIn st w h).mono ?_
  rintro e w1 ⟨rfl, hp1, hk1⟩
  have hs1 := hs.kp hk1 (fun x => hne x)
  have hk1' : Kp (fun k => k = p ∨ k = q) w w1 := hk1.mono (fun _ _ x => .inl x)
  obtain ⟨y0, y1, y2, y3, y4, _, _, _, _⟩ := hp1.cells
  rw [hB1.out] at y2
  go_wp2_with fail
  refine (is_c 45 p s _ w1 hp1).mono ?_
  rintro e w2 ⟨rfl, hp2, hk2⟩
  rw [hI.out]
  rw [hIS.out] at hp2
  have hs2 := hs1.kp hk2 (fun x => hne x)
  have hk2' : Kp (fun k => k = p ∨ k = q) w w2 := hk1'.trans (hk2.mono (fun _ _ x => .inl x))
  clear y0 y1 y2 y3 y4
  obtain ⟨z0, z1, z2, z3, z4, _, _, _, _⟩ := hp2.cells
  go_wp2_with fail
  refine (letter_c p s specialIn _ w2 hp2).mono ?_
  rintro e w3 ⟨rfl, hp3, hk3⟩
  have hs3 := hs2.kp hk3 (fun x => hne x)
  have hk3' : Kp (fun k => k = p ∨ k = q) w w3 := hk2'.trans (hk3.mono (fun _ _ x => .inl x))
  clear z0 z1 z2 z3 z4
  generalize letV s specialIn (letS s specialIn st).next = hi at *
  generalize letV s specialIn st = lo at *
  obtain ⟨x0, x1, x2, x3, x4, _, _, _, _⟩ := hp3.cells
  rw [hBad.out] at x2
  go_wp2_with fail
  go_loopw [7] (fun b wr => ∃ i : Nat, lo + i ≤ 256 ∧ (i = 0 ∨ lo + i ≤ hi + 1) ∧ b = .int .i64 ((lo + i : Nat) : Int) ∧ Pat wr p s (letS s specialIn (letS s specialIn st).next) ∧ SetAt wr q (addN ws lo i) ∧ Kp (fun k => k = p ∨ k = q) w wr) (fun b _ => 256 - (intOf b).toNat)
  case atStart => exact ⟨0, by omega, .inl rfl, rfl, hp3, hs3, hk3'⟩
  case round =>
    clear x0 x1 x2 x3 x4
    obtain ⟨i, hi1, hi2, rfl, PY, SY, KY⟩ := hrel
    obtain ⟨x0, x1, x2, x3, x4, _, _, _, _⟩ := PY.cells
    rw [hBad.out] at x2
    by_cases hle : lo + i ≤ hi
    · have hle' : ((lo + i : Nat) : Int) ≤ hi := by omega
      have hlt' : ((lo + i : Nat) : Int) < 256 := by omega
      have hg := SY.get ((lo + i) / 64) (by omega)
      have hfz : wr.frozen? ⟨q, (lo + i) / 64, none⟩ = false := frozen_blk SY _
      have hsp := SY.put ((lo + i) / 64) (by omega) (bits .or .u64 ((addN ws lo i).get ((lo + i) / 64)) (IntKind.u64.wrap (2 ^ ((lo + i) % 64))))
      have hsu : Hid (addN ws lo (i + 1) = (addN ws lo i).put ((lo + i) / 64) (bits .or .u64 ((addN ws lo i).get ((lo + i) / 64)) (IntKind.u64.wrap (2 ^ ((lo + i) % 64))))) := Lib.hid (addN_succ ws lo i)
      have hne' : p ≠ q := fun x => hne x.symm
      obtain ⟨j, hj⟩ : ∃ j, j = lo + i := ⟨_, rfl⟩
      rw [← hj] at hle' hlt' hg hfz hsp hsu
      rw [← hj]
      have hj' := Lib.hid hj
      clear hj
      have hjq : (j : Int) / 64 < 4 := by omega
      have hjq0 : (0 : Int) ≤ (j : Int) / 64 := by omega
      go_wp2_with fail
      go_region
      all_goals
        go_wp2_with fail
        go_roundw
        case rel =>
          have hjj := hj'.out
          refine ⟨i + 1, by omega, .inr (by omega), by rw [hjj]; go_num, ?_, ?_, ?_⟩
          · exact ⟨(blk_set_ne PY.1 hne' _ _), PY.2⟩
          · rw [hsu.out]; exact hsp
          · exact (KY.drewN 1).setCell (p := ⟨q, j / 64, none⟩) (fun _ => .inr rfl) _
        case measure => simp [intOf]; omega
    · have hle' : ¬ ((lo + i : Nat) : Int) ≤ hi := by omega
      have hfi : Hid (addN ws lo i = ws.addTo lo hi) := Lib.hid (by
        unfold addN W4.addTo
        have : i = hi + 1 - lo := by omega
        rw [this])
      go_wp2_with fail
      go_end0
      refine ⟨rfl, ?_, ?_, KY⟩
      · rw [hS.out]; exact PY
      · rw [hW.out, ← hfi.out]; exact SY

theorem span_c (p q : Nat) (hne : q ≠ p) (s : ByteArray) (st : PS) (ws : W4) (w : World) (h : Pat w p s st) (hs : SetAt w q ws) :
    Calls Try.prog 48 #[ptr p, ptr q] w fun e w' => e = .returned (.tuple #[]) ∧ Pat w' p s (spanS s st) ∧ SetAt w' q (spanW s st ws) ∧ Kp (fun k => k = p ∨ k = q) w w' := by
  cases hR : spanRange s st with
  | false =>
    cases hb : (letS s specialIn st).bad with
    | true => exact span_c1 p q hne s st ws w h hs hR hb
    | false => exact span_c2 p q hne s st ws w h hs hR hb
  | true =>
    cases hb : (letS s specialIn (letS s specialIn st).next).bad with
    | true => exact span_c3 p q hne s st ws w h hs hR hb
    | false =>
      by_cases hlt : spanHi s st < letV s specialIn st
      · exact span_c4 p q hne s st ws w h hs hR hb hlt
      · exact span_c5 p q hne s st ws w h hs hR hb hlt

end Go.Proofs.Ytkhcnneflcbnpaa
