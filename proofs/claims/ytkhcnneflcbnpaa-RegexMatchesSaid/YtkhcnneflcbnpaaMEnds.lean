/-
  The places where a match may end, by the document: the walk. Conditions: the expression and the places lie in memory, the text is short.
-/
import Derived.Test.YtkhcnneflcbnpaaMParse
import Derived.OwnWalk
import Derived.Laws.CopyOwn
namespace Go.Proofs.Ytkhcnneflcbnpaa
open Go.RowKit

abbrev TB : TypeId := 4
/-- a row of n bools, told by F -/
def BF (w : World) (g n : Nat) (F : Nat → Bool) : Prop := w.heap[g]? = some (.cells ((List.range n).map (fun j => Value.bool (F j))).toArray TB (0, 0))
theorem BF.congr {w : World} {g n : Nat} {F G : Nat → Bool} (h : BF w g n F) (hq : ∀ j, j < n → F j = G j) : BF w g n G := by
  unfold BF at *
  rw [h]
  have e : (List.range n).map (fun j => Value.bool (F j)) = (List.range n).map (fun j => Value.bool (G j)) := List.map_congr_left (fun j hj => by rw [hq j (List.mem_range.1 hj)])
  rw [e]
theorem BF.cell {w : World} {g n : Nat} {F : Nat → Bool} (h : BF w g n F) (j : Nat) (hj : j < n) : w.cell? ⟨g, j, none⟩ = some (.bool (F j)) ∧ w.frozen? ⟨g, j, none⟩ = false := by
  refine ⟨?_, frozen_blk h _⟩
  rw [cell_blk h]; simp [hj]
theorem BF.put {w : World} {g n : Nat} {F : Nat → Bool} (h : BF w g n F) (i : Nat) (v : Bool) : BF (w.setCell ⟨g, i, none⟩ (.bool v)) g n (fun j => if j = i then v else F j) := by
  unfold BF
  rw [blk_set h]
  congr 2
  apply Array.toList_inj.1
  rw [Array.toList_setIfInBounds]
  apply List.ext_getElem
  · simp
  · intro j h1 h2
    simp only [List.getElem_set, List.getElem_map, List.getElem_range]
    by_cases e : i = j
    · subst e; simp
    · rw [if_neg e, if_neg (fun x => e x.symm)]
theorem BF.kn {w w' : World} {g n : Nat} {F : Nat → Bool} (h : BF w g n F) (hk : Kn w w') : BF w' g n F := hk.blk h (fun x => x)
theorem BF.lt {w : World} {g n : Nat} {F : Nat → Bool} (h : BF w g n F) : g < w.heap.size := blk_lt h
theorem bf_made {w : World} {base g n : Nat} (h : w.ownsRow base TB 1 (.slice (some ⟨g, 0, none⟩) n n) n (madeCells (Value.bool false).cells (n * 1)).toList) : BF w g n (fun _ => false) := by
  rcases h.2 with ⟨h1, _⟩ | ⟨g', cap, cur, h1, h2, h3, h4, h5, h6, h7⟩
  · cases h1
  · cases h1
    rw [List.take_of_length_le (by simp [h6])] at h7
    have e : cur = ((List.range n).map (fun _ => Value.bool false)).toArray := by
      apply Array.toList_inj.1
      rw [h7]
      apply List.ext_getElem
      · simp [madeCells]
      · intro j h1 h2
        simp [madeCells, Value.cells, Nat.mod_one]
    unfold BF
    rw [h3, e]
theorem bool_info : (Try.prog.info? TB).map (fun i => (i.zero, i.size, i.bytes)) = some (some (.bool false), 1, 1) := by kernel_rfl

theorem wpList_copy_bf {ops : Array Oper} {rest : List Oper} {o : Oper} {a : Act} {w : World} {Q : Exit → Act → World → Prop} (hgd : o.guard = none) (d s : Operand)
    (ho : o.op = .call { callee := .builtin .copy, args := #[d, s], argTypes := #[62, 62] }) (go gf n : Nat) (F l : Nat → Bool) (hO : BF w go n F) (hL : BF w gf n l)
    (hd : a.eval d = .slice (some ⟨go, 0, none⟩) n n) (hs : a.eval s = .slice (some ⟨gf, 0, none⟩) n n)
    (h : ∀ w', BF w' go n l → Kp (fun k => k = go) w w' → wpList Try.prog ops Q rest (a.put o.dst (goInt n)) w') : wpList Try.prog ops Q (o :: rest) a w := by
  obtain ⟨i0, hi, hz0, hz1, hz2⟩ := info_parts bool_info
  refine wpList_copy_own hgd d s 62 62 ho TB Try.underlying62 (by rw [hi]; simp [hz1]) go 0 n n ⟨gf, 0, none⟩ n n hd hs _ TB hO ((List.range n).map (fun j => Value.bool (l j))) (by simp) (fun j v hv => by
    have hadd : (⟨gf, 0, none⟩ : Addr).add j = ⟨gf, j, none⟩ := by unfold Addr.add; split <;> simp_all
    rw [hadd, cell_blk hL]; simpa using hv) (by simp) (by simp [Value.oneCell']) ?_
  have hlen : ((List.range n).map (fun j => Value.bool (l j))).length = n := by simp
  rw [hlen]
  refine h _ ?_ (kp_row w go _)
  have hh := setRow_heap w go _ ((((List.range n).map (fun j => Value.bool (F j))).toArray.toList.take 0 ++ ((List.range n).map (fun j => Value.bool (l j)) ++ ((List.range n).map (fun j => Value.bool (F j))).toArray.toList.drop (0 + n))).toArray) TB (0, 0) hO
  unfold BF
  rw [hh]
  congr 2
  simp

/-- round by round, till there is nothing more -/
def starF (E : (Nat → Bool) → Nat → Bool) (n : Nat) : Nat → (Nat → Bool) → Nat → Bool
  | 0, l => l
  | k + 1, l => if (List.range n).any (fun j => E l j && !l j) then starF E n k (fun j => l j || E l j) else fun j => l j || E l j
/-- the places where a match may end that begins at one of some -/
def endsF (s : ByteArray) : Rb → (Nat → Bool) → Nat → Bool
  | .set f, l => fun j => if j = 0 then false else l (j - 1) && f (bt s (j - 1))
  | .empty, l => l
  | .cat x y, l => endsF s y (endsF s x l)
  | .or x y, l => fun j => endsF s x l j || endsF s y l j
  | .star x, l => starF (endsF s x) (s.size + 1) (s.size + 1) l

def EndsC (s : ByteArray) (t : Rb) : Prop := ∀ (C : Array Value) (N : Nat → Prop) (w : World) (gf : Nat) (l : Nat → Bool), NV w N t C → BF w gf (s.size + 1) l →
  Calls Try.prog 26 #[.agg C, .string s, .slice (some ⟨gf, 0, none⟩) (s.size + 1) (s.size + 1)] w fun e w' => ∃ g : Nat, e = .returned (.slice (some ⟨g, 0, none⟩) (s.size + 1) (s.size + 1)) ∧ BF w' g (s.size + 1) (endsF s t l) ∧ Kn w w' ∧ w.heap.size ≤ g

set_option maxRecDepth 100000 in
set_option maxHeartbeats 4000000 in
theorem ends_set (s : ByteArray) (hs : s.size ≤ 1000000) (f : Nat → Bool) : EndsC s (.set f) := by
  intro C N w gf l hN hl
  obtain ⟨i0, hi, hz0, hz1, hz2⟩ := info_parts bool_info
  have HI := Lib.hid (And.intro hi (And.intro hz0 (And.intro hz1 hz2)))
  clear hi hz0 hz1 hz2
  obtain ⟨sl, hnc⟩ := hN.nc
  have HN := Lib.hid hN
  have hgf := hl.lt
  have HLL := Lib.hid hl
  have hb0 : (w.alloc (.cells C TN (0, 0))).heap[w.heap.size]? = some (.cells C TN (0, 0)) := blk_new w _
  clear hN hl
  go_enter Try.func26, Try.ntmps26
  go_upto_region 2 with (at_make; go_must (refine wpList_make_full _ rfl (.tmp 18) (.tmp 18) 62 rfl 0 TB i0 (.bool false) 1 Try.underlying62 HI.out.1 HI.out.2.1 HI.out.2.2.1 .i64 .i64 ((s.size : Int) + 1) ((s.size : Int) + 1) (s.size + 1) rfl rfl (by omega) (by omega) (by rw [HI.out.2.2.2]; omega) (by simp only [maxLen]; omega) (Nat.zero_le _) ?_); intro w2 q1 q2)
  have hk2 : Kn w w2 := ((Kp.refl (fun _ => False) w).alloc (.cells C TN (0, 0))).trans ((Kp.grown q2).mono (fun _ _ x => by cases x))
  have hO2 := bf_made q1
  have hsz2 : (w.alloc (.cells C TN (0, 0))).heap.size = w.heap.size + 1 := by simp
  have hB2 : w2.heap[w.heap.size]? = some (.cells C TN (0, 0)) := (Kp.grown q2).blk hb0 (fun x => by cases x)
  rw [hsz2] at hO2
  clear q1 q2 hb0 hsz2
  have hc0 : w2.cell? ⟨w.heap.size, 0, none⟩ = some (.int .i64 (.set f : Rb).kind) := by rw [cell_blk hB2]; exact hnc.kind
  simp only [Re.kind] at hc0
  obtain ⟨go, hgo⟩ : ∃ g, g = w.heap.size + 1 := ⟨_, rfl⟩
  rw [← hgo] at hO2 ⊢
  obtain ⟨gb, hgb⟩ : ∃ g, g = w.heap.size := ⟨_, rfl⟩
  rw [← hgb] at hB2 hc0 hgo hgf ⊢
  have HGB := Lib.hid (And.intro hgb (show w.heap.size ≤ go by omega))
  have hgfo : gf < go := by omega
  have hgbo : gb < go := by omega
  have hL2 := Lib.hid (HLL.out.kn hk2)
  have hN2 := Lib.hid ((HN.out.mono (M := fun g => N g ∧ g < w.heap.size) (fun g a b => ⟨a, b⟩)).kn hk2)
  clear hgb hgo hgf HN HLL
  have hby := hN2.out.2
  have HBY := Lib.hid hby
  clear hby
  go_wp2_with fail
  go_loopw [8] (fun i wr => ∃ (k : Nat) (F : Nat → Bool), k ≤ s.size ∧ i = .int .i64 (k : Int) ∧ Hid (∀ j, F j = if j = 0 then false else if j ≤ k then l (j - 1) && f (bt s (j - 1)) else false) ∧ BF wr go (s.size + 1) F ∧ BF wr gf (s.size + 1) l ∧ wr.heap[gb]? = some (.cells C TN (0, 0)) ∧ Kn w wr) (fun i _ => s.size - (intOf i).toNat)
  case atStart => exact ⟨0, _, Nat.zero_le _, rfl, Lib.hid (fun j => by by_cases e : j = 0 <;> simp [e]), hO2, hL2.out, hB2, hk2⟩
  case round =>
    obtain ⟨k, F, hk, rfl, hF, hO, hL, hB, hK⟩ := hrel
    by_cases hlt : k < s.size
    · have hlt' : (k : Int) < s.size := by omega
      have h0 : (0 : Int) ≤ k := by omega
      have hu : (s.size : Int) ≤ 1000000 := by omega
      obtain ⟨e1, _⟩ := hL.cell k (by omega)
      obtain ⟨e2, e3⟩ := hO.cell (k + 1) (by omega)
      have hE := Lib.hid (bt_in hlt)
      have e4 : wr.cell? ⟨gb, 1 + s[k].toNat, none⟩ = some (.bool (f s[k].toNat)) := by rw [cell_blk hB, Nat.add_comm]; exact HBY.out _ s[k].toNat_lt
      have h256 : ((s[k].toNat : Nat) : Int) < 256 := by have := s[k].toNat_lt; omega
      have hne : gf ≠ go := by omega
      have hne2 : gb ≠ go := by omega
      have hin : ∀ v, BF (wr.setCell ⟨go, k + 1, none⟩ (.bool v)) gf (s.size + 1) l := fun v => blk_set_ne hL hne _ _
      have HP := Lib.hid (fun v => And.intro (hO.put (k + 1) v) (And.intro (hin v) (And.intro (blk_set_ne hB hne2 (k + 1) (.bool v)) (hK.setCell (p := ⟨go, k + 1, none⟩) (fun x => by have := HGB.out.2; simp at x; omega) (.bool v)))))
      have hF9 : Hid (∀ v, v = (l k && f s[k].toNat) → ∀ j, (if j = k + 1 then v else F j) = if j = 0 then false else if j ≤ k + 1 then l (j - 1) && f (bt s (j - 1)) else false) := Lib.hid (fun v hv j => by
        by_cases e : j = k + 1
        · subst e; rw [if_pos rfl, if_neg (by omega), if_pos (by omega), hv, Nat.add_sub_cancel, hE.out]
        · rw [if_neg e, hF.out j]
          by_cases e0 : j = 0
          · rw [if_pos e0, if_pos e0]
          · rw [if_neg e0, if_neg e0]
            by_cases e5 : j ≤ k
            · rw [if_pos e5, if_pos (by omega)]
            · rw [if_neg e5, if_neg (by omega)])
      clear hin
      cases hlk : l k with
      | true =>
        have hv := Lib.hid (hF9.out (f s[k].toNat) (by rw [hlk]; rfl))
        rw [hlk] at e1
        clear hlk
        go_wp2_with fail
        go_roundw
        case rel => exact ⟨k + 1, _, by omega, by go_num, hv, (HP.out _).1, (HP.out _).2.1, (HP.out _).2.2.1, (HP.out _).2.2.2⟩
        case measure => simp [intOf]; omega
      | false =>
        have hv := Lib.hid (hF9.out false (by rw [hlk]; rfl))
        rw [hlk] at e1
        clear hlk
        go_wp2_with fail
        go_roundw
        case rel => exact ⟨k + 1, _, by omega, by go_num, hv, (HP.out _).1, (HP.out _).2.1, (HP.out _).2.2.1, (HP.out _).2.2.2⟩
        case measure => simp [intOf]; omega
    · have hlt' : ¬ (k : Int) < s.size := by omega
      have hfin : Hid (BF wr go (s.size + 1) (endsF s (.set f) l)) := Lib.hid (hO.congr (fun j hj => by
        rw [hF.out j]
        unfold endsF
        by_cases e0 : j = 0
        · rw [if_pos e0, if_pos e0]
        · rw [if_neg e0, if_neg e0, if_pos (by omega)]))
      go_wp2_with fail
      go_ret
      exact ⟨go, rfl, hfin.out, hK, HGB.out.2⟩

set_option maxRecDepth 100000 in
set_option maxHeartbeats 4000000 in
theorem ends_empty (s : ByteArray) (hs : s.size ≤ 1000000)  : EndsC s (.empty) := by
  intro C N w gf l hN hl
  obtain ⟨i0, hi, hz0, hz1, hz2⟩ := info_parts bool_info
  have HI := Lib.hid (And.intro hi (And.intro hz0 (And.intro hz1 hz2)))
  clear hi hz0 hz1 hz2
  obtain ⟨sl, hnc⟩ := hN.nc
  have HN := Lib.hid hN
  have hgf := hl.lt
  have HLL := Lib.hid hl
  have hb0 : (w.alloc (.cells C TN (0, 0))).heap[w.heap.size]? = some (.cells C TN (0, 0)) := blk_new w _
  clear hN hl
  go_enter Try.func26, Try.ntmps26
  go_upto_region 2 with (at_make; go_must (refine wpList_make_full _ rfl (.tmp 18) (.tmp 18) 62 rfl 0 TB i0 (.bool false) 1 Try.underlying62 HI.out.1 HI.out.2.1 HI.out.2.2.1 .i64 .i64 ((s.size : Int) + 1) ((s.size : Int) + 1) (s.size + 1) rfl rfl (by omega) (by omega) (by rw [HI.out.2.2.2]; omega) (by simp only [maxLen]; omega) (Nat.zero_le _) ?_); intro w2 q1 q2)
  have hk2 : Kn w w2 := ((Kp.refl (fun _ => False) w).alloc (.cells C TN (0, 0))).trans ((Kp.grown q2).mono (fun _ _ x => by cases x))
  have hO2 := bf_made q1
  have hsz2 : (w.alloc (.cells C TN (0, 0))).heap.size = w.heap.size + 1 := by simp
  have hB2 : w2.heap[w.heap.size]? = some (.cells C TN (0, 0)) := (Kp.grown q2).blk hb0 (fun x => by cases x)
  rw [hsz2] at hO2
  clear q1 q2 hb0 hsz2
  have hc0 : w2.cell? ⟨w.heap.size, 0, none⟩ = some (.int .i64 (.empty : Rb).kind) := by rw [cell_blk hB2]; exact hnc.kind
  simp only [Re.kind] at hc0
  obtain ⟨go, hgo⟩ : ∃ g, g = w.heap.size + 1 := ⟨_, rfl⟩
  rw [← hgo] at hO2 ⊢
  obtain ⟨gb, hgb⟩ : ∃ g, g = w.heap.size := ⟨_, rfl⟩
  rw [← hgb] at hB2 hc0 hgo hgf ⊢
  have HGB := Lib.hid (And.intro hgb (show w.heap.size ≤ go by omega))
  have hgfo : gf < go := by omega
  have hgbo : gb < go := by omega
  have hL2 := Lib.hid (HLL.out.kn hk2)
  have hN2 := Lib.hid ((HN.out.mono (M := fun g => N g ∧ g < w.heap.size) (fun g a b => ⟨a, b⟩)).kn hk2)
  clear hgb hgo hgf HN HLL
  go_wp2_with (refine wpList_copy_bf rfl (.tmp 99) (.tmp 100) rfl go gf (s.size + 1) _ l hO2 hL2.out rfl rfl ?_; intro w3 hb3 hk3)
  have hK3 := hk2.trans' hk3 (fun i hi x => by have := HGB.out.2; omega)
  go_ret
  exact ⟨go, rfl, hb3, hK3, HGB.out.2⟩

set_option maxRecDepth 100000 in
set_option maxHeartbeats 4000000 in
theorem ends_cat (s : ByteArray) (hs : s.size ≤ 1000000) (x y : Rb) (hx : EndsC s x) (hy : EndsC s y) : EndsC s (.cat x y) := by
  intro C N w gf l hN hl
  obtain ⟨i0, hi, hz0, hz1, hz2⟩ := info_parts bool_info
  have HI := Lib.hid (And.intro hi (And.intro hz0 (And.intro hz1 hz2)))
  clear hi hz0 hz1 hz2
  obtain ⟨sl, hnc⟩ := hN.nc
  have HN := Lib.hid hN
  have hgf := hl.lt
  have HLL := Lib.hid hl
  have hb0 : (w.alloc (.cells C TN (0, 0))).heap[w.heap.size]? = some (.cells C TN (0, 0)) := blk_new w _
  clear hN hl
  go_enter Try.func26, Try.ntmps26
  go_upto_region 2 with (at_make; go_must (refine wpList_make_full _ rfl (.tmp 18) (.tmp 18) 62 rfl 0 TB i0 (.bool false) 1 Try.underlying62 HI.out.1 HI.out.2.1 HI.out.2.2.1 .i64 .i64 ((s.size : Int) + 1) ((s.size : Int) + 1) (s.size + 1) rfl rfl (by omega) (by omega) (by rw [HI.out.2.2.2]; omega) (by simp only [maxLen]; omega) (Nat.zero_le _) ?_); intro w2 q1 q2)
  have hk2 : Kn w w2 := ((Kp.refl (fun _ => False) w).alloc (.cells C TN (0, 0))).trans ((Kp.grown q2).mono (fun _ _ x => by cases x))
  have hO2 := bf_made q1
  have hsz2 : (w.alloc (.cells C TN (0, 0))).heap.size = w.heap.size + 1 := by simp
  have hB2 : w2.heap[w.heap.size]? = some (.cells C TN (0, 0)) := (Kp.grown q2).blk hb0 (fun x => by cases x)
  rw [hsz2] at hO2
  clear q1 q2 hb0 hsz2
  have hc0 : w2.cell? ⟨w.heap.size, 0, none⟩ = some (.int .i64 (.cat x y : Rb).kind) := by rw [cell_blk hB2]; exact hnc.kind
  simp only [Re.kind] at hc0
  obtain ⟨go, hgo⟩ : ∃ g, g = w.heap.size + 1 := ⟨_, rfl⟩
  rw [← hgo] at hO2 ⊢
  obtain ⟨gb, hgb⟩ : ∃ g, g = w.heap.size := ⟨_, rfl⟩
  rw [← hgb] at hB2 hc0 hgo hgf ⊢
  have HGB := Lib.hid (And.intro hgb (show w.heap.size ≤ go by omega))
  have hgfo : gf < go := by omega
  have hgbo : gb < go := by omega
  have hL2 := Lib.hid (HLL.out.kn hk2)
  have hN2 := Lib.hid ((HN.out.mono (M := fun g => N g ∧ g < w.heap.size) (fun g a b => ⟨a, b⟩)).kn hk2)
  clear hgb hgo hgf HN HLL
  obtain ⟨gp, X, Y, hgp, hC2, hG, hX, hY⟩ := hN2.out
  have hxs := hX.size
  have hys := hY.size
  have hi1 : (Try.prog.info? TN).map (·.size) = some X.toList.length := by rw [Array.length_toList, hxs]; exact zero_node.2
  have hi2 : (Try.prog.info? TN).map (·.size) = some Y.toList.length := by rw [Array.length_toList, hys]; exact zero_node.2
  have hrX : w2.rangeAt gp 0 X.toList := fun j v hv => by
    rw [cell_blk hG, Nat.zero_add]
    have hj : j < X.size := by
      rcases Nat.lt_or_ge j X.size with h | h
      · exact h
      · simp [List.getElem?_eq_none (l := X.toList) (i := j) (by simpa using h)] at hv
    rw [Array.getElem?_append_left hj]; simpa using hv
  have hrY : w2.rangeAt gp 258 Y.toList := fun j v hv => by
    rw [cell_blk hG, Array.getElem?_append_right (by omega), hxs, Nat.add_sub_cancel_left]; simpa using hv
  have hsl : sl = .slice (some ⟨gp, 0, none⟩) 2 2 := by have := hnc.parts; rw [hC2.parts] at this; simpa using this.symm
  have hcp : w2.cell? ⟨gb, 257, none⟩ = some (.slice (some ⟨gp, 0, none⟩) 2 2) := by rw [cell_blk hB2, hnc.parts, hsl]
  have HX := Lib.hid hX
  have HY := Lib.hid hY
  have HG := Lib.hid hG
  clear hnc hX hY hG hC2 hgp hsl
  go_upto_region 23 with fail
  have HK : Kn w2 w2.drew := (Kp.refl _ _).drew
  refine wp_region_held_drew (S := fun w' => w'.cell? ⟨gb, 257, none⟩ = some (.slice (some ⟨gp, 0, none⟩) 2 2) ∧ w'.rangeAt gp 0 X.toList ∧ w'.rangeAt gp 258 Y.toList) (by kernel_rfl) ⟨hcp, hrX, hrY⟩ (fun hHeld => ?_)
  refine wpAnyH_take (i := 0) (oi := Oper.mk (some 104) _ _ _ _ _) (v := ?_) rfl (by kernel_rfl) (by kernel_rfl) (by kernel_rfl) (fun _ _ _ h => h) (Or.inl ⟨by rfl, ?_⟩) (by assumption) ?_
  rotate_left
  · (intro w hSw; obtain ⟨hs1, hs2, hs3⟩ := hSw; clear hs2 hs3; go_simp; try with_reducible rfl)
  try simp only [Act.put, List.setIfInBounds_toArray, List.set_cons_zero, List.set_cons_succ]
  refine wpAnyH_take (i := 1) (oi := Oper.mk (some 105) _ _ _ _ _) (v := ?_) rfl (by kernel_rfl) (by kernel_rfl) (by kernel_rfl) (fun _ _ _ h => h) (Or.inl ⟨by rfl, ?_⟩) (by assumption) ?_
  rotate_left
  · (intro w hSw; obtain ⟨hs1, hs2, hs3⟩ := hSw; clear hs2 hs3; go_simp; try with_reducible rfl)
  try simp only [Act.put, List.setIfInBounds_toArray, List.set_cons_zero, List.set_cons_succ]
  refine wpAnyH_take (i := 2) (oi := Oper.mk (some 106) _ _ _ _ _) (v := ?_) rfl (by kernel_rfl) (by kernel_rfl) (by kernel_rfl) (fun _ _ _ h => h) (Or.inl ⟨by rfl, ?_⟩) (by assumption) ?_
  rotate_left
  · (intro w hSw; obtain ⟨hs1, hs2, hs3⟩ := hSw; clear hs2 hs3; go_simp; try with_reducible rfl)
  try simp only [Act.put, List.setIfInBounds_toArray, List.set_cons_zero, List.set_cons_succ]
  refine wpAnyH_take (i := 3) (oi := Oper.mk (some 107) _ _ _ _ _) (v := _) rfl (by kernel_rfl) (by kernel_rfl) (by kernel_rfl) (fun _ _ _ h => h) (yieldsIf_load_mid (by rfl) TN _ rfl gp 258 rfl Y.toList _ (fun _ h => h.2.2) Try.underlying30 rfl hi2) (by assumption) ?_
  try simp only [Act.put, List.setIfInBounds_toArray, List.set_cons_zero, List.set_cons_succ, Array.toArray_toList]
  refine wpAnyH_take (i := 4) (oi := Oper.mk (some 108) _ _ _ _ _) (v := ?_) rfl (by kernel_rfl) (by kernel_rfl) (by kernel_rfl) (fun _ _ _ h => h) (Or.inl ⟨by rfl, ?_⟩) (by assumption) ?_
  rotate_left
  · (intro w hSw; obtain ⟨hs1, hs2, hs3⟩ := hSw; clear hs2 hs3; go_simp; try with_reducible rfl)
  try simp only [Act.put, List.setIfInBounds_toArray, List.set_cons_zero, List.set_cons_succ]
  refine wpAnyH_take (i := 5) (oi := Oper.mk (some 109) _ _ _ _ _) (v := ?_) rfl (by kernel_rfl) (by kernel_rfl) (by kernel_rfl) (fun _ _ _ h => h) (Or.inl ⟨by rfl, ?_⟩) (by assumption) ?_
  rotate_left
  · (intro w hSw; obtain ⟨hs1, hs2, hs3⟩ := hSw; clear hs2 hs3; go_simp; try with_reducible rfl)
  try simp only [Act.put, List.setIfInBounds_toArray, List.set_cons_zero, List.set_cons_succ]
  refine wpAnyH_take (i := 6) (oi := Oper.mk (some 110) _ _ _ _ _) (v := ?_) rfl (by kernel_rfl) (by kernel_rfl) (by kernel_rfl) (fun _ _ _ h => h) (Or.inl ⟨by rfl, ?_⟩) (by assumption) ?_
  rotate_left
  · (intro w hSw; obtain ⟨hs1, hs2, hs3⟩ := hSw; clear hs2 hs3; go_simp; try with_reducible rfl)
  try simp only [Act.put, List.setIfInBounds_toArray, List.set_cons_zero, List.set_cons_succ]
  refine wpAnyH_take (i := 7) (oi := Oper.mk (some 111) _ _ _ _ _) (v := ?_) rfl (by kernel_rfl) (by kernel_rfl) (by kernel_rfl) (fun _ _ _ h => h) (Or.inl ⟨by rfl, ?_⟩) (by assumption) ?_
  rotate_left
  · (intro w hSw; obtain ⟨hs1, hs2, hs3⟩ := hSw; clear hs2 hs3; go_simp; try with_reducible rfl)
  try simp only [Act.put, List.setIfInBounds_toArray, List.set_cons_zero, List.set_cons_succ]
  refine wpAnyH_take (i := 8) (oi := Oper.mk (some 112) _ _ _ _ _) (v := _) rfl (by kernel_rfl) (by kernel_rfl) (by kernel_rfl) (fun _ _ _ h => h) (yieldsIf_load_mid (by rfl) TN _ rfl gp 0 rfl X.toList _ (fun _ h => h.2.1) Try.underlying30 rfl hi1) (by assumption) ?_
  try simp only [Act.put, List.setIfInBounds_toArray, List.set_cons_zero, List.set_cons_succ, Array.toArray_toList]
  refine wpAnyH_take (i := 9) (oi := Oper.mk (some 113) _ _ _ _ _) (v := ?_) rfl (by kernel_rfl) (by kernel_rfl) (by kernel_rfl) (fun _ _ _ h => h) (Or.inl ⟨by rfl, ?_⟩) (by assumption) ?_
  rotate_left
  · (intro w hSw; obtain ⟨hs1, hs2, hs3⟩ := hSw; clear hs2 hs3; go_simp; try with_reducible rfl)
  try simp only [Act.put, List.setIfInBounds_toArray, List.set_cons_zero, List.set_cons_succ]
  refine wpAnyH_take (i := 10) (oi := Oper.mk (some 114) _ _ _ _ _) (v := ?_) rfl (by kernel_rfl) (by kernel_rfl) (by kernel_rfl) (fun _ _ _ h => h) (Or.inl ⟨by rfl, ?_⟩) (by assumption) ?_
  rotate_left
  · (intro w hSw; obtain ⟨hs1, hs2, hs3⟩ := hSw; clear hs2 hs3; go_simp; try with_reducible rfl)
  try simp only [Act.put, List.setIfInBounds_toArray, List.set_cons_zero, List.set_cons_succ]
  refine wpAnyH_ready (rs := [11]) (by kernel_rfl) (by simp) (AllReadyH.cons (o := Oper.mk (some 115) _ _ _ _ _) rfl (fun K hK => ?_) AllReadyH.nil)
  go_simp
  go_at_call 26
  refine (hx X _ w2.drew gf l (HX.out.kn HK) (hL2.out.kn HK)).mono ?_
  rintro e w3 ⟨g3, rfl, hb3, hk3, hg3⟩
  have HK3 := Kp.trans HK hk3
  dsimp only
  refine hK.out _ _ ⟨kn_cell HK3 hcp, range_kn HK3 hrX, range_kn HK3 hrY⟩ (fun hHeld => ?_)
  clear hK K
  try simp only [Act.put, List.setIfInBounds_toArray, List.set_cons_zero, List.set_cons_succ]
  refine wpAnyH_ready (rs := [12]) (by kernel_rfl) (by simp) (AllReadyH.cons (o := Oper.mk (some 116) _ _ _ _ _) rfl (fun K hK => ?_) AllReadyH.nil)
  go_simp
  go_at_call 26
  refine (hy Y _ w3 g3 _ (HY.out.kn HK3) hb3).mono ?_
  rintro e w4 ⟨g4, rfl, hb4, hk4, hg4⟩
  have HK4 := Kp.trans HK3 hk4
  dsimp only
  refine hK.out _ _ ⟨kn_cell HK4 hcp, range_kn HK4 hrX, range_kn HK4 hrY⟩ (fun hHeld => ?_)
  clear hK K
  try simp only [Act.put, List.setIfInBounds_toArray, List.set_cons_zero, List.set_cons_succ]
  refine wpAnyH_take (i := 13) (oi := Oper.mk (some 6) _ _ _ _ _) (v := ?_) rfl (by kernel_rfl) (by kernel_rfl) (by kernel_rfl) (fun _ _ _ h => h) (Or.inl ⟨by rfl, ?_⟩) (by assumption) ?_
  rotate_left
  · (intro w hSw; obtain ⟨hs1, hs2, hs3⟩ := hSw; clear hs2 hs3; go_simp; try with_reducible rfl)
  try simp only [Act.put, List.setIfInBounds_toArray, List.set_cons_zero, List.set_cons_succ]
  refine wpAnyH_done (by kernel_rfl) ?_ _
  go_wp2_with fail
  go_ret
  exact ⟨g4, rfl, hb4, hk2.trans HK4, by have h1 := hk2.size; have h2 := HK3.size; omega⟩


set_option maxRecDepth 100000 in
set_option maxHeartbeats 4000000 in
theorem ends_or (s : ByteArray) (hs : s.size ≤ 1000000) (x y : Rb) (hx : EndsC s x) (hy : EndsC s y) : EndsC s (.or x y) := by
  intro C N w gf l hN hl
  obtain ⟨i0, hi, hz0, hz1, hz2⟩ := info_parts bool_info
  have HI := Lib.hid (And.intro hi (And.intro hz0 (And.intro hz1 hz2)))
  clear hi hz0 hz1 hz2
  obtain ⟨sl, hnc⟩ := hN.nc
  have HN := Lib.hid hN
  have hgf := hl.lt
  have HLL := Lib.hid hl
  have hb0 : (w.alloc (.cells C TN (0, 0))).heap[w.heap.size]? = some (.cells C TN (0, 0)) := blk_new w _
  clear hN hl
  go_enter Try.func26, Try.ntmps26
  go_upto_region 2 with (at_make; go_must (refine wpList_make_full _ rfl (.tmp 18) (.tmp 18) 62 rfl 0 TB i0 (.bool false) 1 Try.underlying62 HI.out.1 HI.out.2.1 HI.out.2.2.1 .i64 .i64 ((s.size : Int) + 1) ((s.size : Int) + 1) (s.size + 1) rfl rfl (by omega) (by omega) (by rw [HI.out.2.2.2]; omega) (by simp only [maxLen]; omega) (Nat.zero_le _) ?_); intro w2 q1 q2)
  have hk2 : Kn w w2 := ((Kp.refl (fun _ => False) w).alloc (.cells C TN (0, 0))).trans ((Kp.grown q2).mono (fun _ _ x => by cases x))
  have hO2 := bf_made q1
  have hsz2 : (w.alloc (.cells C TN (0, 0))).heap.size = w.heap.size + 1 := by simp
  have hB2 : w2.heap[w.heap.size]? = some (.cells C TN (0, 0)) := (Kp.grown q2).blk hb0 (fun x => by cases x)
  rw [hsz2] at hO2
  clear q1 q2 hb0 hsz2
  have hc0 : w2.cell? ⟨w.heap.size, 0, none⟩ = some (.int .i64 (.or x y : Rb).kind) := by rw [cell_blk hB2]; exact hnc.kind
  simp only [Re.kind] at hc0
  obtain ⟨go, hgo⟩ : ∃ g, g = w.heap.size + 1 := ⟨_, rfl⟩
  rw [← hgo] at hO2 ⊢
  obtain ⟨gb, hgb⟩ : ∃ g, g = w.heap.size := ⟨_, rfl⟩
  rw [← hgb] at hB2 hc0 hgo hgf ⊢
  have HGB := Lib.hid (And.intro hgb (show w.heap.size ≤ go by omega))
  have hgfo : gf < go := by omega
  have hgbo : gb < go := by omega
  have hL2 := Lib.hid (HLL.out.kn hk2)
  have hN2 := Lib.hid ((HN.out.mono (M := fun g => N g ∧ g < w.heap.size) (fun g a b => ⟨a, b⟩)).kn hk2)
  clear hgb hgo hgf HN HLL
  obtain ⟨gp, X, Y, hgp, hC2, hG, hX, hY⟩ := hN2.out
  have hxs := hX.size
  have hys := hY.size
  have hi1 : (Try.prog.info? TN).map (·.size) = some X.toList.length := by rw [Array.length_toList, hxs]; exact zero_node.2
  have hi2 : (Try.prog.info? TN).map (·.size) = some Y.toList.length := by rw [Array.length_toList, hys]; exact zero_node.2
  have hrX : w2.rangeAt gp 0 X.toList := fun j v hv => by
    rw [cell_blk hG, Nat.zero_add]
    have hj : j < X.size := by
      rcases Nat.lt_or_ge j X.size with h | h
      · exact h
      · simp [List.getElem?_eq_none (l := X.toList) (i := j) (by simpa using h)] at hv
    rw [Array.getElem?_append_left hj]; simpa using hv
  have hrY : w2.rangeAt gp 258 Y.toList := fun j v hv => by
    rw [cell_blk hG, Array.getElem?_append_right (by omega), hxs, Nat.add_sub_cancel_left]; simpa using hv
  have hsl : sl = .slice (some ⟨gp, 0, none⟩) 2 2 := by have := hnc.parts; rw [hC2.parts] at this; simpa using this.symm
  have hcp : w2.cell? ⟨gb, 257, none⟩ = some (.slice (some ⟨gp, 0, none⟩) 2 2) := by rw [cell_blk hB2, hnc.parts, hsl]
  have HX := Lib.hid hX
  have HY := Lib.hid hY
  have HG := Lib.hid hG
  clear hnc hX hY hG hC2 hgp hsl
  go_upto_region 25 with fail
  have HK : Kn w2 w2.drew := (Kp.refl _ _).drew
  refine wp_region_held_drew (S := fun w' => w'.cell? ⟨gb, 257, none⟩ = some (.slice (some ⟨gp, 0, none⟩) 2 2) ∧ w'.rangeAt gp 0 X.toList ∧ w'.rangeAt gp 258 Y.toList) (by kernel_rfl) ⟨hcp, hrX, hrY⟩ (fun hHeld => ?_)
  refine wpAnyH_take (i := 0) (oi := Oper.mk (some 119) _ _ _ _ _) (v := ?_) rfl (by kernel_rfl) (by kernel_rfl) (by kernel_rfl) (fun _ _ _ h => h) (Or.inl ⟨by rfl, ?_⟩) (by assumption) ?_
  rotate_left
  · (intro w hSw; obtain ⟨hs1, hs2, hs3⟩ := hSw; clear hs2 hs3; go_simp; try with_reducible rfl)
  try simp only [Act.put, List.setIfInBounds_toArray, List.set_cons_zero, List.set_cons_succ]
  refine wpAnyH_take (i := 1) (oi := Oper.mk (some 120) _ _ _ _ _) (v := ?_) rfl (by kernel_rfl) (by kernel_rfl) (by kernel_rfl) (fun _ _ _ h => h) (Or.inl ⟨by rfl, ?_⟩) (by assumption) ?_
  rotate_left
  · (intro w hSw; obtain ⟨hs1, hs2, hs3⟩ := hSw; clear hs2 hs3; go_simp; try with_reducible rfl)
  try simp only [Act.put, List.setIfInBounds_toArray, List.set_cons_zero, List.set_cons_succ]
  refine wpAnyH_take (i := 2) (oi := Oper.mk (some 121) _ _ _ _ _) (v := ?_) rfl (by kernel_rfl) (by kernel_rfl) (by kernel_rfl) (fun _ _ _ h => h) (Or.inl ⟨by rfl, ?_⟩) (by assumption) ?_
  rotate_left
  · (intro w hSw; obtain ⟨hs1, hs2, hs3⟩ := hSw; clear hs2 hs3; go_simp; try with_reducible rfl)
  try simp only [Act.put, List.setIfInBounds_toArray, List.set_cons_zero, List.set_cons_succ]
  refine wpAnyH_take (i := 3) (oi := Oper.mk (some 122) _ _ _ _ _) (v := _) rfl (by kernel_rfl) (by kernel_rfl) (by kernel_rfl) (fun _ _ _ h => h) (yieldsIf_load_mid (by rfl) TN _ rfl gp 0 rfl X.toList _ (fun _ h => h.2.1) Try.underlying30 rfl hi1) (by assumption) ?_
  try simp only [Act.put, List.setIfInBounds_toArray, List.set_cons_zero, List.set_cons_succ, Array.toArray_toList]
  refine wpAnyH_take (i := 4) (oi := Oper.mk (some 123) _ _ _ _ _) (v := ?_) rfl (by kernel_rfl) (by kernel_rfl) (by kernel_rfl) (fun _ _ _ h => h) (Or.inl ⟨by rfl, ?_⟩) (by assumption) ?_
  rotate_left
  · (intro w hSw; obtain ⟨hs1, hs2, hs3⟩ := hSw; clear hs2 hs3; go_simp; try with_reducible rfl)
  try simp only [Act.put, List.setIfInBounds_toArray, List.set_cons_zero, List.set_cons_succ]
  refine wpAnyH_take (i := 5) (oi := Oper.mk (some 124) _ _ _ _ _) (v := ?_) rfl (by kernel_rfl) (by kernel_rfl) (by kernel_rfl) (fun _ _ _ h => h) (Or.inl ⟨by rfl, ?_⟩) (by assumption) ?_
  rotate_left
  · (intro w hSw; obtain ⟨hs1, hs2, hs3⟩ := hSw; clear hs2 hs3; go_simp; try with_reducible rfl)
  try simp only [Act.put, List.setIfInBounds_toArray, List.set_cons_zero, List.set_cons_succ]
  refine wpAnyH_take (i := 7) (oi := Oper.mk (some 126) _ _ _ _ _) (v := ?_) rfl (by kernel_rfl) (by kernel_rfl) (by kernel_rfl) (fun _ _ _ h => h) (Or.inl ⟨by rfl, ?_⟩) (by assumption) ?_
  rotate_left
  · (intro w hSw; obtain ⟨hs1, hs2, hs3⟩ := hSw; clear hs2 hs3; go_simp; try with_reducible rfl)
  try simp only [Act.put, List.setIfInBounds_toArray, List.set_cons_zero, List.set_cons_succ]
  refine wpAnyH_take (i := 8) (oi := Oper.mk (some 127) _ _ _ _ _) (v := ?_) rfl (by kernel_rfl) (by kernel_rfl) (by kernel_rfl) (fun _ _ _ h => h) (Or.inl ⟨by rfl, ?_⟩) (by assumption) ?_
  rotate_left
  · (intro w hSw; obtain ⟨hs1, hs2, hs3⟩ := hSw; clear hs2 hs3; go_simp; try with_reducible rfl)
  try simp only [Act.put, List.setIfInBounds_toArray, List.set_cons_zero, List.set_cons_succ]
  refine wpAnyH_take (i := 9) (oi := Oper.mk (some 128) _ _ _ _ _) (v := ?_) rfl (by kernel_rfl) (by kernel_rfl) (by kernel_rfl) (fun _ _ _ h => h) (Or.inl ⟨by rfl, ?_⟩) (by assumption) ?_
  rotate_left
  · (intro w hSw; obtain ⟨hs1, hs2, hs3⟩ := hSw; clear hs2 hs3; go_simp; try with_reducible rfl)
  try simp only [Act.put, List.setIfInBounds_toArray, List.set_cons_zero, List.set_cons_succ]
  refine wpAnyH_take (i := 10) (oi := Oper.mk (some 129) _ _ _ _ _) (v := _) rfl (by kernel_rfl) (by kernel_rfl) (by kernel_rfl) (fun _ _ _ h => h) (yieldsIf_load_mid (by rfl) TN _ rfl gp 258 rfl Y.toList _ (fun _ h => h.2.2) Try.underlying30 rfl hi2) (by assumption) ?_
  try simp only [Act.put, List.setIfInBounds_toArray, List.set_cons_zero, List.set_cons_succ, Array.toArray_toList]
  refine wpAnyH_take (i := 11) (oi := Oper.mk (some 130) _ _ _ _ _) (v := ?_) rfl (by kernel_rfl) (by kernel_rfl) (by kernel_rfl) (fun _ _ _ h => h) (Or.inl ⟨by rfl, ?_⟩) (by assumption) ?_
  rotate_left
  · (intro w hSw; obtain ⟨hs1, hs2, hs3⟩ := hSw; clear hs2 hs3; go_simp; try with_reducible rfl)
  try simp only [Act.put, List.setIfInBounds_toArray, List.set_cons_zero, List.set_cons_succ]
  refine wpAnyH_take (i := 12) (oi := Oper.mk (some 131) _ _ _ _ _) (v := ?_) rfl (by kernel_rfl) (by kernel_rfl) (by kernel_rfl) (fun _ _ _ h => h) (Or.inl ⟨by rfl, ?_⟩) (by assumption) ?_
  rotate_left
  · (intro w hSw; obtain ⟨hs1, hs2, hs3⟩ := hSw; clear hs2 hs3; go_simp; try with_reducible rfl)
  try simp only [Act.put, List.setIfInBounds_toArray, List.set_cons_zero, List.set_cons_succ]
  refine wpAnyH_ready (rs := [6]) (by kernel_rfl) (by simp) (AllReadyH.cons (o := Oper.mk (some 125) _ _ _ _ _) rfl (fun K hK => ?_) AllReadyH.nil)
  go_simp
  go_at_call 26
  refine (hx X _ w2.drew gf l (HX.out.kn HK) (hL2.out.kn HK)).mono ?_
  rintro e w3 ⟨g3, rfl, hb3, hk3, hg3⟩
  have HK3 := Kp.trans HK hk3
  dsimp only
  refine hK.out _ _ ⟨kn_cell HK3 hcp, range_kn HK3 hrX, range_kn HK3 hrY⟩ (fun hHeld => ?_)
  clear hK K
  try simp only [Act.put, List.setIfInBounds_toArray, List.set_cons_zero, List.set_cons_succ]
  refine wpAnyH_ready (rs := [13]) (by kernel_rfl) (by simp) (AllReadyH.cons (o := Oper.mk (some 132) _ _ _ _ _) rfl (fun K hK => ?_) AllReadyH.nil)
  go_simp
  go_at_call 26
  refine (hy Y _ w3 gf l (HY.out.kn HK3) (hL2.out.kn HK3)).mono ?_
  rintro e w4 ⟨g4, rfl, hb4, hk4, hg4⟩
  have HK4 := Kp.trans HK3 hk4
  dsimp only
  refine hK.out _ _ ⟨kn_cell HK4 hcp, range_kn HK4 hrX, range_kn HK4 hrY⟩ (fun hHeld => ?_)
  clear hK K
  try simp only [Act.put, List.setIfInBounds_toArray, List.set_cons_zero, List.set_cons_succ]
  refine wpAnyH_take (i := 14) (oi := Oper.mk (some 9) _ _ _ _ _) (v := ?_) rfl (by kernel_rfl) (by kernel_rfl) (by kernel_rfl) (fun _ _ _ h => h) (Or.inl ⟨by rfl, ?_⟩) (by assumption) ?_
  rotate_left
  · (intro w hSw; obtain ⟨hs1, hs2, hs3⟩ := hSw; clear hs2 hs3; go_simp; try with_reducible rfl)
  try simp only [Act.put, List.setIfInBounds_toArray, List.set_cons_zero, List.set_cons_succ]
  refine wpAnyH_take (i := 15) (oi := Oper.mk (some 10) _ _ _ _ _) (v := ?_) rfl (by kernel_rfl) (by kernel_rfl) (by kernel_rfl) (fun _ _ _ h => h) (Or.inl ⟨by rfl, ?_⟩) (by assumption) ?_
  rotate_left
  · (intro w hSw; obtain ⟨hs1, hs2, hs3⟩ := hSw; clear hs2 hs3; go_simp; try with_reducible rfl)
  try simp only [Act.put, List.setIfInBounds_toArray, List.set_cons_zero, List.set_cons_succ]
  refine wpAnyH_done (by kernel_rfl) ?_ _
  have hO4 := hO2.kn HK4
  have hb34 := hb3.kn hk4
  have hK4 := hk2.trans HK4
  have h3 := hO2.lt
  have h4 : w2.heap.size ≤ g3 := hg3
  have h5 := HK3.size
  have hne3 : g3 ≠ go := by omega
  have hne4 : g4 ≠ go := by omega
  clear hO2 hc0 hcp hrX hrY hB2 h3 h4 h5 hg3 hg4
  clear hHeld
  go_wp2_with fail
  go_loopw [11] (fun i wr => ∃ (k : Nat) (F : Nat → Bool), k ≤ s.size + 1 ∧ i = .int .i64 (k : Int) ∧ Hid (∀ j, j < k → F j = (endsF s x l j || endsF s y l j)) ∧ BF wr go (s.size + 1) F ∧ BF wr g3 (s.size + 1) (endsF s x l) ∧ BF wr g4 (s.size + 1) (endsF s y l) ∧ Kn w wr) (fun i _ => s.size + 1 - (intOf i).toNat)
  case atStart => exact ⟨0, _, Nat.zero_le _, rfl, Lib.hid (fun j hj => by omega), hO4, hb34, hb4, hK4⟩
  case round =>
    clear hO4 hb34 hb4 hK4
    obtain ⟨k, G, hk, rfl, hG9, hO, h3, h4, hK⟩ := hrel
    by_cases hlt : k < s.size + 1
    · have hlt' : (k : Int) ≤ s.size := by omega
      have hlt9 : (k : Int) < s.size + 1 := by omega
      have h0 : (0 : Int) ≤ k := by omega
      obtain ⟨e1, _⟩ := h3.cell k hlt
      obtain ⟨e2, _⟩ := h4.cell k hlt
      obtain ⟨e3, e4⟩ := hO.cell k hlt
      have HP := Lib.hid (fun v => And.intro (hO.put k v) (And.intro (show BF (wr.setCell ⟨go, k, none⟩ (.bool v)) g3 (s.size + 1) (endsF s x l) from blk_set_ne h3 hne3 _ _) (And.intro (show BF (wr.setCell ⟨go, k, none⟩ (.bool v)) g4 (s.size + 1) (endsF s y l) from blk_set_ne h4 hne4 _ _) (hK.setCell (p := ⟨go, k, none⟩) (fun x => by have := HGB.out.2; simp at x; omega) (.bool v)))))
      have hF9 : Hid (∀ v, v = (endsF s x l k || endsF s y l k) → ∀ j, j < k + 1 → (if j = k then v else G j) = (endsF s x l j || endsF s y l j)) := Lib.hid (fun v hv j hj => by
        by_cases e : j = k
        · subst e; rw [if_pos rfl, hv]
        · rw [if_neg e]; exact hG9.out j (by omega))
      cases hlk : endsF s x l k with
      | true =>
        have hv := Lib.hid (hF9.out true (by rw [hlk]; rfl))
        rw [hlk] at e1
        clear hlk
        go_wp2_with fail
        go_roundw
        case rel => exact ⟨k + 1, _, by omega, by go_num, hv, (HP.out _).1, (HP.out _).2.1, (HP.out _).2.2.1, (HP.out _).2.2.2⟩
        case measure => simp [intOf]; omega
      | false =>
        have hv := Lib.hid (hF9.out (endsF s y l k) (by rw [hlk]; rfl))
        rw [hlk] at e1
        clear hlk
        go_wp2_with fail
        go_roundw
        case rel => exact ⟨k + 1, _, by omega, by go_num, hv, (HP.out _).1, (HP.out _).2.1, (HP.out _).2.2.1, (HP.out _).2.2.2⟩
        case measure => simp [intOf]; omega
    · have hlt' : ¬ (k : Int) ≤ s.size := by omega
      have hfin : Hid (BF wr go (s.size + 1) (endsF s (.or x y) l)) := Lib.hid (hO.congr (fun j hj => hG9.out j (by omega)))
      go_wp2_with fail
      go_ret
      exact ⟨go, rfl, hfin.out, hK, HGB.out.2⟩


set_option maxRecDepth 100000 in
set_option maxHeartbeats 4000000 in
theorem ends_star (s : ByteArray) (hs : s.size ≤ 1000000) (x : Rb) (hx : EndsC s x) : EndsC s (.star x) := by
  intro C N w gf l hN hl
  obtain ⟨i0, hi, hz0, hz1, hz2⟩ := info_parts bool_info
  have HI := Lib.hid (And.intro hi (And.intro hz0 (And.intro hz1 hz2)))
  clear hi hz0 hz1 hz2
  obtain ⟨sl, hnc⟩ := hN.nc
  have HN := Lib.hid hN
  have hgf := hl.lt
  have HLL := Lib.hid hl
  have hb0 : (w.alloc (.cells C TN (0, 0))).heap[w.heap.size]? = some (.cells C TN (0, 0)) := blk_new w _
  clear hN hl
  go_enter Try.func26, Try.ntmps26
  go_upto_region 2 with (at_make; go_must (refine wpList_make_full _ rfl (.tmp 18) (.tmp 18) 62 rfl 0 TB i0 (.bool false) 1 Try.underlying62 HI.out.1 HI.out.2.1 HI.out.2.2.1 .i64 .i64 ((s.size : Int) + 1) ((s.size : Int) + 1) (s.size + 1) rfl rfl (by omega) (by omega) (by rw [HI.out.2.2.2]; omega) (by simp only [maxLen]; omega) (Nat.zero_le _) ?_); intro w2 q1 q2)
  have hk2 : Kn w w2 := ((Kp.refl (fun _ => False) w).alloc (.cells C TN (0, 0))).trans ((Kp.grown q2).mono (fun _ _ x => by cases x))
  have hO2 := bf_made q1
  have hsz2 : (w.alloc (.cells C TN (0, 0))).heap.size = w.heap.size + 1 := by simp
  have hB2 : w2.heap[w.heap.size]? = some (.cells C TN (0, 0)) := (Kp.grown q2).blk hb0 (fun x => by cases x)
  rw [hsz2] at hO2
  clear q1 q2 hb0 hsz2
  have hc0 : w2.cell? ⟨w.heap.size, 0, none⟩ = some (.int .i64 (.star x : Rb).kind) := by rw [cell_blk hB2]; exact hnc.kind
  simp only [Re.kind] at hc0
  obtain ⟨go, hgo⟩ : ∃ g, g = w.heap.size + 1 := ⟨_, rfl⟩
  rw [← hgo] at hO2 ⊢
  obtain ⟨gb, hgb⟩ : ∃ g, g = w.heap.size := ⟨_, rfl⟩
  rw [← hgb] at hB2 hc0 hgo hgf ⊢
  have HGB := Lib.hid (And.intro hgb (show w.heap.size ≤ go by omega))
  have hgfo : gf < go := by omega
  have hgbo : gb < go := by omega
  have hL2 := Lib.hid (HLL.out.kn hk2)
  have hN2 := Lib.hid ((HN.out.mono (M := fun g => N g ∧ g < w.heap.size) (fun g a b => ⟨a, b⟩)).kn hk2)
  clear hgb hgo hgf HN HLL
  obtain ⟨gp, X, hgp, hC2, hG, hX⟩ := hN2.out
  have hxs := hX.size
  have hi1 : (Try.prog.info? TN).map (·.size) = some X.size := by rw [hxs]; exact zero_node.2
  have hsl : sl = .slice (some ⟨gp, 0, none⟩) 1 1 := by have := hnc.parts; rw [hC2.parts] at this; simpa using this.symm
  have hcp : w2.cell? ⟨gb, 257, none⟩ = some (.slice (some ⟨gp, 0, none⟩) 1 1) := by rw [cell_blk hB2, hnc.parts, hsl]
  have HX := Lib.hid hX
  have HC := Lib.hid (And.intro hcp hG)
  have HIH := Lib.hid hx
  clear hnc hX hG hC2 hsl hcp hx hB2
  have hgl := hgp.2
  have hgpo : gp ≠ go := by have := HGB.out.2; omega
  clear hgp
  go_upto_block 0 with fail
  go_cut [7] (fun v7 wc => v7 = .slice (some ⟨go, 0, none⟩) (s.size + 1) (s.size + 1) ∧ Hid (BF wc go (s.size + 1) (endsF s (.star x) l) ∧ Kn w wc))
  case first =>
    go_upto_region 4 with (refine wpList_copy_bf rfl (.tmp 22) (.tmp 23) rfl go gf (s.size + 1) _ l hO2 hL2.out rfl rfl ?_; intro w3 hb3 hk3)
    have hcp := kp_cell hk3 HC.out.1 (by show ¬ gb = go; omega)
    have hG3 := hk3.blk HC.out.2 hgpo
    have hX3 := HX.out.kp (S := fun k => k = go) hk3 (fun k hk e => by have := HGB.out.2; have := hk.2; omega)
    have hK3 := hk2.trans' hk3 (fun i hi x => by have := HGB.out.2; omega)
    have hP0 : Hid (NV w3 (fun g => N g ∧ g < w.heap.size) x X ∧ w3.heap[gp]? = some (.cells X TN (0, 0)) ∧ w3.cell? ⟨gb, 257, none⟩ = some (.slice (some ⟨gp, 0, none⟩) 1 1) ∧ BF w3 go (s.size + 1) l ∧ Kn w w3) := Lib.hid ⟨hX3, hG3, hcp, hb3, hK3⟩
    clear hO2 hb3 hk3 hcp hG3 hX3 hK3 hL2 hN2 HX HC hc0 hk2
    have hst : Hid (starF (endsF s x) (s.size + 1) (s.size + 1 - 0) l = starF (endsF s x) (s.size + 1) (s.size + 1) l) := Lib.hid rfl
    go_wp2_with fail
    go_loopw [12, 13, 14, 15] (fun v12 v13 v14 v15 wr => ∃ (k : Nat) (G : Nat → Bool), k ≤ s.size + 1 ∧ v12 = .int .i64 (k : Int) ∧ Hid (NV wr (fun g => N g ∧ g < w.heap.size) x X ∧ wr.heap[gp]? = some (.cells X TN (0, 0)) ∧ wr.cell? ⟨gb, 257, none⟩ = some (.slice (some ⟨gp, 0, none⟩) 1 1) ∧ BF wr go (s.size + 1) G ∧ Kn w wr) ∧
      Hid (starF (endsF s x) (s.size + 1) (s.size + 1 - k) G = starF (endsF s x) (s.size + 1) (s.size + 1) l)) (fun v12 _ _ _ _ => s.size + 1 - (intOf v12).toNat)
    case atStart => exact ⟨0, _, Nat.zero_le _, rfl, hP0, hst⟩
    case round =>
      clear hP0 hst
      obtain ⟨k, G, hk, rfl, hP, hS⟩ := hrel
      obtain ⟨wo, rfl⟩ : ∃ y : World, y = wr := ⟨_, rfl⟩
      by_cases hlt : k < s.size + 1
      · have hlt' : (k : Int) ≤ s.size := by omega
        have h0 : (0 : Int) ≤ k := by omega
        have hu : (s.size : Int) ≤ 1000000 := by omega
        have hcp := hP.out.2.2.1
        have hG := hP.out.2.1
        have HCALL := Lib.hid (HIH.out X _ wo go G hP.out.1 hP.out.2.2.2.1)
        obtain ⟨m, hm⟩ : ∃ m, s.size + 1 - k = m + 1 := ⟨s.size - k, by omega⟩
        have hS2 : Hid ((if (List.range (s.size + 1)).any (fun j => endsF s x G j && !G j) then starF (endsF s x) (s.size + 1) m (fun j => G j || endsF s x G j) else fun j => G j || endsF s x G j) = starF (endsF s x) (s.size + 1) (s.size + 1) l) := Lib.hid (by rw [← hS.out, hm]; rfl)
        have HM : Hid (s.size + 1 - (k + 1) = m) := Lib.hid (by omega)
        clear hm hS
        go_wp2_with (refine wpList_load_row rfl TN (.tmp 33) rfl gp rfl TN X (0, 0) _ hG Try.underlying30 rfl hi1 ?_)
        refine HCALL.out.mono ?_
        rintro e w4 ⟨g3, rfl, hb4, hk4, hg3⟩
        have hne3 : g3 ≠ go := by have := hP.out.2.2.2.1.lt; omega
        have hP4 : Hid (NV w4 (fun g => N g ∧ g < w.heap.size) x X ∧ w4.heap[gp]? = some (.cells X TN (0, 0)) ∧ w4.cell? ⟨gb, 257, none⟩ = some (.slice (some ⟨gp, 0, none⟩) 1 1) ∧ BF w4 go (s.size + 1) G ∧ Kn w w4) := Lib.hid ⟨hP.out.1.kn hk4, hk4.blk hG (fun x => x), kn_cell hk4 hcp, hP.out.2.2.2.1.kn hk4, hP.out.2.2.2.2.trans hk4⟩
        clear hP HCALL hcp hG hk4 hg3
        generalize hE : endsF s x G = E at hb4 hS2
        clear hE
        go_upto_block 3 with fail
        go_cut [14, 15] (fun v14 _ wc => v14 = .bool ((List.range (s.size + 1)).any (fun j => E j && !G j)) ∧ Hid (NV wc (fun g => N g ∧ g < w.heap.size) x X ∧ wc.heap[gp]? = some (.cells X TN (0, 0)) ∧ wc.cell? ⟨gb, 257, none⟩ = some (.slice (some ⟨gp, 0, none⟩) 1 1) ∧ BF wc go (s.size + 1) (fun j => G j || E j) ∧ Kn w wc))
        case first =>
          have hb4' := Lib.hid hb4
          go_wp2_with fail
          go_loopw [14, 15] (fun v14 v15 wr => ∃ (i : Nat) (mo : Bool) (H : Nat → Bool), i ≤ s.size + 1 ∧ v15 = .int .i64 (i : Int) ∧ v14 = .bool mo ∧ Hid (mo = (List.range i).any (fun j => E j && !G j)) ∧ Hid (∀ j, H j = if j < i then (G j || E j) else G j) ∧ Hid (BF wr g3 (s.size + 1) E) ∧
            Hid (NV wr (fun g => N g ∧ g < w.heap.size) x X ∧ wr.heap[gp]? = some (.cells X TN (0, 0)) ∧ wr.cell? ⟨gb, 257, none⟩ = some (.slice (some ⟨gp, 0, none⟩) 1 1) ∧ BF wr go (s.size + 1) H ∧ Kn w wr)) (fun _ v15 _ => s.size + 1 - (intOf v15).toNat)
          case atStart => exact ⟨0, false, G, Nat.zero_le _, rfl, rfl, Lib.hid rfl, Lib.hid (fun j => by simp), hb4', hP4⟩
          case round =>
            clear hP4 hb4 hb4'
            obtain ⟨i, mo, H, hi, rfl, rfl, hmo, hH, hb, hP⟩ := hrel
            by_cases hil : i < s.size + 1
            · have hil' : (i : Int) ≤ s.size := by omega
              have hil9 : (i : Int) < s.size + 1 := by omega
              have hi0 : (0 : Int) ≤ i := by omega
              obtain ⟨e1, _⟩ := hb.out.cell i hil
              obtain ⟨e2, e3⟩ := hP.out.2.2.2.1.cell i hil
              have hHi : H i = G i := by rw [hH.out i, if_neg (by omega)]
              have hmo9 : Hid ((mo || (E i && !G i)) = (List.range (i + 1)).any (fun j => E j && !G j)) := Lib.hid (by rw [List.range_succ, List.any_append, hmo.out]; simp)
              have HP := Lib.hid (fun (v : Bool) (hv : v = (G i || E i)) => And.intro (show BF (wr.setCell ⟨go, i, none⟩ (.bool v)) g3 (s.size + 1) E from blk_set_ne hb.out hne3 _ _) (And.intro (show (NV (wr.setCell ⟨go, i, none⟩ (.bool v)) (fun g => N g ∧ g < w.heap.size) x X ∧ (wr.setCell ⟨go, i, none⟩ (.bool v)).heap[gp]? = some (.cells X TN (0, 0)) ∧ (wr.setCell ⟨go, i, none⟩ (.bool v)).cell? ⟨gb, 257, none⟩ = some (.slice (some ⟨gp, 0, none⟩) 1 1) ∧ BF (wr.setCell ⟨go, i, none⟩ (.bool v)) go (s.size + 1) (fun j => if j = i then v else H j) ∧ Kn w (wr.setCell ⟨go, i, none⟩ (.bool v))) from by
                have hks : Kp (fun k => k = go) wr (wr.setCell ⟨go, i, none⟩ (.bool v)) := (Kp.refl (fun k => k = go) wr).setCell (p := ⟨go, i, none⟩) (fun _ => rfl) _
                exact ⟨hP.out.1.kp hks (fun k hk e => by have := HGB.out.2; have := hk.2; omega), hks.blk hP.out.2.1 hgpo, kp_cell hks hP.out.2.2.1 (by show ¬ gb = go; omega), hP.out.2.2.2.1.put i v, hP.out.2.2.2.2.setCell (p := ⟨go, i, none⟩) (fun x => by have := HGB.out.2; simp at x; omega) _⟩)
                (show ∀ j, (if j = i then v else H j) = if j < i + 1 then (G j || E j) else G j from fun j => by
                  by_cases e : j = i
                  · subst e; rw [if_pos rfl, if_pos (by omega), hv]
                  · rw [if_neg e, hH.out j]
                    by_cases e2 : j < i
                    · rw [if_pos e2, if_pos (by omega)]
                    · rw [if_neg e2, if_neg (by omega)])))
              rw [hHi] at e2
              clear hHi
              generalize hb1 : E i = b1 at e1 hmo9 HP
              generalize hb2 : G i = b2 at e2 hmo9 HP
              clear hb1 hb2 hmo
              cases mo <;> cases b1 <;> cases b2
              all_goals
                have HR := Lib.hid (HP.out _ rfl)
                simp only [Bool.or_true, Bool.or_false, Bool.true_or, Bool.false_or, Bool.or_self] at HR
                go_wp2_with fail
                go_roundw
                case rel => exact ⟨i + 1, _, _, by omega, by go_num, (by first | rfl | trivial), hmo9, Lib.hid HR.out.2.2, Lib.hid HR.out.1, Lib.hid HR.out.2.1⟩
                case measure => simp [intOf]; omega
            · have hil' : ¬ (i : Int) ≤ s.size := by omega
              have hie : i = s.size + 1 := by omega
              have hmo9 : Hid (mo = (List.range (s.size + 1)).any (fun j => E j && !G j)) := Lib.hid (by rw [hmo.out, hie])
              have hP9 : Hid (NV wr (fun g => N g ∧ g < w.heap.size) x X ∧ wr.heap[gp]? = some (.cells X TN (0, 0)) ∧ wr.cell? ⟨gb, 257, none⟩ = some (.slice (some ⟨gp, 0, none⟩) 1 1) ∧ BF wr go (s.size + 1) (fun j => G j || E j) ∧ Kn w wr) := Lib.hid ⟨hP.out.1, hP.out.2.1, hP.out.2.2.1, hP.out.2.2.2.1.congr (fun j hj => by rw [hH.out j, if_pos (by omega)]), hP.out.2.2.2.2⟩
              clear hie
              go_wp2_with fail
              go_meet
              case rel => exact ⟨by rw [hmo9.out], hP9⟩
        case rest =>
          obtain ⟨rfl, hP9⟩ := hcut
          clear hP4 hb4
          cases hany : (List.range (s.size + 1)).any (fun j => E j && !G j) with
          | true =>
            have hS9 : Hid (starF (endsF s x) (s.size + 1) (s.size + 1 - (k + 1)) (fun j => G j || E j) = starF (endsF s x) (s.size + 1) (s.size + 1) l) := Lib.hid (by rw [HM.out, ← hS2.out, hany]; rfl)
            clear hany
            go_wp2_with fail
            go_roundw
            case rel => exact ⟨k + 1, _, by omega, by go_num, hP9, hS9⟩
            case measure => simp [intOf]; omega
          | false =>
            have hfin : Hid (BF wc go (s.size + 1) (endsF s (.star x) l) ∧ Kn w wc) := Lib.hid ⟨by
              show BF wc go (s.size + 1) (starF (endsF s x) (s.size + 1) (s.size + 1) l)
              rw [← hS2.out, hany]; exact hP9.out.2.2.2.1, hP9.out.2.2.2.2⟩
            clear hany
            go_wp2_with fail
            go_meet
            case rel => exact ⟨rfl, hfin⟩
      · have hlt' : ¬ (k : Int) ≤ s.size := by omega
        have hfin : Hid (BF wo go (s.size + 1) (endsF s (.star x) l) ∧ Kn w wo) := Lib.hid ⟨by
          show BF wo go (s.size + 1) (starF (endsF s x) (s.size + 1) (s.size + 1) l)
          rw [← hS.out, show s.size + 1 - k = 0 by omega]; exact hP.out.2.2.2.1, hP.out.2.2.2.2⟩
        go_wp2_with fail
        go_meet
        case rel => exact ⟨rfl, hfin⟩
  case rest =>
    obtain ⟨rfl, hfin⟩ := hcut
    go_wp2_with fail
    go_ret
    exact ⟨go, rfl, hfin.out.1, hfin.out.2, HGB.out.2⟩

theorem EndsR (s : ByteArray) (hs : s.size ≤ 1000000) : ∀ t, EndsC s t
  | .set f => ends_set s hs f
  | .empty => ends_empty s hs
  | .cat x y => ends_cat s hs x y (EndsR s hs x) (EndsR s hs y)
  | .or x y => ends_or s hs x y (EndsR s hs x) (EndsR s hs y)
  | .star x => ends_star s hs x (EndsR s hs x)

def matchF (s : ByteArray) (t : Rb) : Bool := endsF s t (fun j => if j = 0 then true else false) s.size

set_option maxRecDepth 100000 in
set_option maxHeartbeats 4000000 in
theorem MatchesR (s : ByteArray) (hs : s.size ≤ 1000000) (t : Rb) (C : Array Value) (N : Nat → Prop) (w : World) (hN : NV w N t C) :
    Calls Try.prog 12 #[.agg C, .string s] w fun e w' => e = .returned (.bool (matchF s t)) ∧ Kn w w' := by
  obtain ⟨i0, hi, hz0, hz1, hz2⟩ := info_parts bool_info
  have HI := Lib.hid (And.intro hi (And.intro hz0 (And.intro hz1 hz2)))
  clear hi hz0 hz1 hz2
  have HN := Lib.hid hN
  have hcs := hN.size
  have hiC : (Try.prog.info? TN).map (·.size) = some C.size := by rw [hcs]; exact zero_node.2
  have hb0 : (w.alloc (.cells C TN (0, 0))).heap[w.heap.size]? = some (.cells C TN (0, 0)) := blk_new w _
  clear hN
  go_enter Try.func12, Try.ntmps12
  go_upto_region 2 with (at_make; go_must (refine wpList_make_full _ rfl (.tmp 8) (.tmp 8) 62 rfl 0 TB i0 (.bool false) 1 Try.underlying62 HI.out.1 HI.out.2.1 HI.out.2.2.1 .i64 .i64 ((s.size : Int) + 1) ((s.size : Int) + 1) (s.size + 1) rfl rfl (by omega) (by omega) (by rw [HI.out.2.2.2]; omega) (by simp only [maxLen]; omega) (Nat.zero_le _) ?_); intro w2 q1 q2)
  have hk2 : Kn w w2 := ((Kp.refl (fun _ => False) w).alloc (.cells C TN (0, 0))).trans ((Kp.grown q2).mono (fun _ _ x => by cases x))
  have hO2 := bf_made q1
  have hsz2 : (w.alloc (.cells C TN (0, 0))).heap.size = w.heap.size + 1 := by simp
  have hB2 : w2.heap[w.heap.size]? = some (.cells C TN (0, 0)) := (Kp.grown q2).blk hb0 (fun x => by cases x)
  rw [hsz2] at hO2
  clear q1 q2 hb0 hsz2
  obtain ⟨go, hgo⟩ : ∃ g, g = w.heap.size + 1 := ⟨_, rfl⟩
  rw [← hgo] at hO2 ⊢
  obtain ⟨gb, hgb⟩ : ∃ g, g = w.heap.size := ⟨_, rfl⟩
  rw [← hgb] at hB2 hgo ⊢
  have HGB := Lib.hid (And.intro hgb (show w.heap.size ≤ go by omega))
  have hgbo : gb ≠ go := by omega
  clear hgb hgo
  obtain ⟨e2, e3⟩ := hO2.cell 0 (by omega)
  have hks : Kp (fun k => k = go) w2 (w2.setCell ⟨go, 0, none⟩ (.bool true)) := (Kp.refl (fun k => k = go) w2).setCell (p := ⟨go, 0, none⟩) (fun _ => rfl) _
  have hO3 := hO2.put 0 true
  have hB3 := hks.blk hB2 hgbo
  have hK3 := hk2.trans' hks (fun i hi x => by have := HGB.out.2; omega)
  have HCALL := Lib.hid (EndsR s hs t C (fun g => N g ∧ g < w.heap.size) _ go _ (((HN.out.mono (M := fun g => N g ∧ g < w.heap.size) (fun g a b => ⟨a, b⟩)).kn hk2).kp hks (fun k hk e => by have := HGB.out.2; have := hk.2; omega)) hO3)
  have h1s : (0 : Int) < s.size + 1 := by omega
  have hu : (s.size : Int) ≤ 1000000 := by omega
  clear hO2 hB2 hks hk2 hO3
  go_upto_region 3 with fail
  revert HCALL hB3 hK3
  generalize World.setCell _ _ _ = w3
  intro hB3 hK3 HCALL
  clear e2 e3
  go_wp2_with (refine wpList_load_row rfl TN (.tmp 2) rfl gb rfl TN C (0, 0) _ hB3 Try.underlying30 rfl hiC ?_)
  refine HCALL.out.mono ?_
  rintro e w4 ⟨g4, rfl, hb4, hk4, hg4⟩
  obtain ⟨e5, _⟩ := hb4.cell s.size (by omega)
  have hM : Hid (endsF s t (fun j => if j = 0 then true else (fun _ => false) j) s.size = matchF s t) := Lib.hid rfl
  rw [hM.out] at e5
  go_wp2_with fail
  go_ret
  exact ⟨rfl, hK3.trans hk4⟩

end Go.Proofs.Ytkhcnneflcbnpaa
