/-
  The document's reader of expressions, its smaller functions: the walks. Conditions: the reader stands in memory, within its text.
-/
import Derived.Test.YtkhcnneflcbnpaaPTree
namespace Go.Proofs.Ytkhcnneflcbnpaa
open Go.RowKit

abbrev txArr (s : ByteArray) (st : PS) : Array Value := #[.string s, .int .i64 st.at_, .int .i64 st.deep, .bool st.bad, .bool st.long]
/-- the document's reader in memory -/
def Tat (w : World) (p : Nat) (s : ByteArray) (st : PS) : Prop := w.heap[p]? = some (.cells (txArr s st) 56 (0, 0)) ∧ st.at_ ≤ s.size ∧ s.size ≤ 1000000

theorem Tat.cells {w : World} {p : Nat} {s : ByteArray} {st : PS} (h : Tat w p s st) :
    w.cell? ⟨p, 0, none⟩ = some (.string s) ∧ w.cell? ⟨p, 1, none⟩ = some (.int .i64 st.at_) ∧ w.cell? ⟨p, 2, none⟩ = some (.int .i64 st.deep) ∧ w.cell? ⟨p, 3, none⟩ = some (.bool st.bad) ∧ w.cell? ⟨p, 4, none⟩ = some (.bool st.long) ∧
    w.frozen? ⟨p, 1, none⟩ = false ∧ w.frozen? ⟨p, 2, none⟩ = false ∧ w.frozen? ⟨p, 3, none⟩ = false ∧ w.frozen? ⟨p, 4, none⟩ = false :=
  ⟨cell_blk h.1 0, cell_blk h.1 1, cell_blk h.1 2, cell_blk h.1 3, cell_blk h.1 4, frozen_blk h.1 1, frozen_blk h.1 2, frozen_blk h.1 3, frozen_blk h.1 4⟩
theorem Tat.kn {w w' : World} {p : Nat} {s : ByteArray} {st : PS} (h : Tat w p s st) (hk : Kn w w') : Tat w' p s st := ⟨hk.blk h.1 (fun x => x), h.2⟩
theorem Tat.drewN {w : World} {p : Nat} {s : ByteArray} {st : PS} (h : Tat w p s st) (n : Nat) : Tat (w.drewN n) p s st := h.kn ((Kp.refl _ _).drewN n)
theorem Tat.lt {w : World} {p : Nat} {s : ByteArray} {st : PS} (h : Tat w p s st) : p < w.heap.size := blk_lt h.1
theorem Tat.at {w : World} {p : Nat} {s : ByteArray} {st : PS} (h : Tat w p s st) (k : Nat) (hk : k ≤ s.size) : Tat (w.setCell ⟨p, 1, none⟩ (.int .i64 k)) p s { st with at_ := k } :=
  ⟨by rw [blk_set h.1]; rfl, hk, h.2.2⟩
theorem Tat.setDeep {w : World} {p : Nat} {s : ByteArray} {st : PS} (h : Tat w p s st) (d : Int) : Tat (w.setCell ⟨p, 2, none⟩ (.int .i64 d)) p s { st with deep := d } :=
  ⟨by rw [blk_set h.1]; rfl, h.2⟩
theorem Tat.setBad {w : World} {p : Nat} {s : ByteArray} {st : PS} (h : Tat w p s st) : Tat (w.setCell ⟨p, 3, none⟩ (.bool true)) p s st.fail :=
  ⟨by rw [blk_set h.1]; rfl, h.2⟩
theorem Tat.setLong {w : World} {p : Nat} {s : ByteArray} {st : PS} (h : Tat w p s st) (b : Bool) : Tat (w.setCell ⟨p, 4, none⟩ (.bool b)) p s { st with long := b } :=
  ⟨by rw [blk_set h.1]; rfl, h.2⟩
theorem K1.set' {w : World} {p o : Nat} (v : Value) : K1 p w (w.setCell ⟨p, o, none⟩ v) := (Kp.refl (fun k => k = p) w).setCell (p := ⟨p, o, none⟩) (fun _ => rfl) v

theorem beq_dec (n b : Nat) : (((n : Nat) : Int) == ((b : Nat) : Int)) = decide (n = b) := by
  rw [Bool.eq_iff_iff]; simp; omega

set_option maxHeartbeats 400000 in
theorem sees_c (b p : Nat) (s : ByteArray) (st : PS) (w : World) (h : Tat w p s st) :
    Calls Try.prog 31 #[ptr p, .int .u8 b] w fun e w' => e = .returned (.bool (isB s b st)) ∧ ∃ n, w' = w.drewN n := by
  obtain ⟨c0, c1, c2, c3, c4, f1, f2, f3, f4⟩ := h.cells
  have hb := h.2.2
  by_cases hlt : st.at_ < s.size
  · have hE := Lib.hid (bt_in hlt)
    have hB : Hid (isB s b st = decide (bt s st.at_ = b)) := Lib.hid (by simp [isB, hlt])
    have hlt' : (st.at_ : Int) < s.size := by omega
    go_enter Try.func31, Try.ntmps31
    go_wp2_with fail
    go_quiet (fail)
    go_wp2_with fail
    go_ret
    refine ⟨?_, _, rfl⟩
    rw [hB.out, hE.out]
    exact ret_val (congrArg Value.bool (beq_dec _ _))
  · have hB : Hid (isB s b st = false) := Lib.hid (by simp [isB, hlt])
    have hlt' : ¬ (st.at_ : Int) < s.size := by omega
    go_enter Try.func31, Try.ntmps31
    go_wp2_with fail
    go_quiet (fail)
    go_wp2_with fail
    go_ret
    exact ⟨by rw [hB.out]; rfl, _, rfl⟩

theorem index_any (l : List UInt8) (cc : UInt8) : decide (0 ≤ Lib.indexByte l cc) = l.any (fun x => x == cc) := by
  induction l with
  | nil => rfl
  | cons x l ih =>
    rw [List.any_cons, ← ih]
    have hg := Lib.indexByte_ge l cc
    have hu : Lib.indexByte (x :: l) cc = if x == cc then 0 else if Lib.indexByte l cc == -1 then -1 else Lib.indexByte l cc + 1 := rfl
    rw [hu]
    by_cases h : (x == cc) = true
    · rw [if_pos h, h]; simp
    · rw [if_neg h]
      have h' : (x == cc) = false := by simpa using h
      rw [h', Bool.false_or]
      by_cases h1 : (Lib.indexByte l cc == -1) = true
      · rw [if_pos h1]; simp at h1; simp [h1]
      · rw [if_neg h1]; simp at h1
        have e1 : (0 : Int) ≤ Lib.indexByte l cc := by omega
        have e2 : (0 : Int) ≤ Lib.indexByte l cc + 1 := by omega
        rw [decide_eq_true e1, decide_eq_true e2]
theorem inS_any (sp : ByteArray) (c : Nat) : inS sp c = sp.data.toList.any (fun x => x == ((c : Int).toNat.toUInt8)) := index_any _ _

theorem inS_iff (sp : ByteArray) (c : Nat) (hc : c < 256) : inS sp c = true ↔ ∃ k, k < sp.size ∧ bt sp k = c := by
  rw [inS_any, List.any_eq_true]
  constructor
  · rintro ⟨x, hx, he⟩
    obtain ⟨k, hk, rfl⟩ := List.getElem_of_mem hx
    have hk' : k < sp.size := by simpa using hk
    refine ⟨k, hk', ?_⟩
    rw [bt_in hk']
    have he' : sp.data.toList[k] = ((c : Int).toNat.toUInt8) := by simpa using he
    have e2 : sp[k] = sp.data.toList[k] := by simp [ByteArray.getElem_eq_getElem_data]
    rw [e2, he']
    simp; omega
  · rintro ⟨k, hk, he⟩
    refine ⟨sp[k], ?_, ?_⟩
    · have e2 : sp[k] = sp.data.toList[k]'(by simpa using hk) := by simp [ByteArray.getElem_eq_getElem_data]
      rw [e2]; exact List.getElem_mem _
    · rw [bt_in hk] at he
      subst he
      simp

set_option maxHeartbeats 400000 in
theorem inR_c (sp : ByteArray) (c : Nat) (hc : c < 256) (hs : sp.size ≤ 1000) (w : World) :
    Calls Try.prog 39 #[.string sp, .int .u8 c] w fun e w' => e = .returned (.bool (inS sp c)) ∧ w = w' := by
  have hI := Lib.hid (inS_iff sp c hc)
  go_enter Try.func39, Try.ntmps39
  go_wp2_with fail
  go_loopw [5] (fun i wr => w = wr ∧ ∃ k : Nat, k ≤ sp.size ∧ i = .int .i64 k ∧ (∀ j, j < k → bt sp j ≠ c)) (fun i _ => sp.size - (intOf i).toNat)
  case atStart => exact ⟨rfl, 0, Nat.zero_le _, rfl, fun j hj => by omega⟩
  case round =>
    obtain ⟨rfl, k, hk, rfl, hno⟩ := hrel
    by_cases hlt : k < sp.size
    · have hlt' : (k : Int) < sp.size := by omega
      have hE := bt_in hlt
      by_cases hq : bt sp k = c
      · have hR : Hid (inS sp c = true) := Lib.hid (hI.out.2 ⟨k, hlt, hq⟩)
        have hq' : (((sp[k].toNat : Nat) : Int) == c) = true := by rw [← hE]; simp [hq]
        clear hE
        go_wp2_with fail
        go_ret
        exact ⟨by rw [hR.out]; rfl, rfl⟩
      · have hq' : (((sp[k].toNat : Nat) : Int) == c) = false := by rw [← hE]; simp; omega
        clear hE
        go_wp2_with fail
        go_roundw
        case rel => exact ⟨by trivial, k + 1, by omega, by go_num, fun j hj => by
          rcases Nat.lt_succ_iff_lt_or_eq.1 hj with h | h
          · exact hno j h
          · subst h; exact hq⟩
        case measure => simp [intOf]; omega
    · have hlt' : ¬ (k : Int) < sp.size := by omega
      have hR : Hid (inS sp c = false) := Lib.hid (by
        cases h : inS sp c with
        | false => rfl
        | true =>
          obtain ⟨j, hj, he⟩ := hI.out.1 h
          exact (hno j (by omega) he).elim)
      go_wp2_with fail
      go_ret
      exact ⟨by rw [hR.out]; rfl, rfl⟩

/-- a hex digit's number, as the document's reader tells it -/
def hexI (c : Nat) : Int := if hexD c < 16 then (hexD c : Int) else -1

set_option maxHeartbeats 400000 in
theorem hexR_c (c : Nat) (hc : c < 256) (w : World) :
    Calls Try.prog 45 #[.int .u8 c] w fun e w' => e = .returned (.int .i64 (hexI c)) ∧ w = w' := by
  by_cases h1 : 48 ≤ c ∧ c ≤ 57
  · have hV : Hid (hexI c = (c : Int) - 48) := Lib.hid (by
        have : hexD c = c - 48 := by simp [hexD, h1]
        unfold hexI; rw [this, if_pos (by omega)]; omega)
    have e1 : (48 : Int) ≤ c := by omega
    have e2 : (c : Int) ≤ 57 := by omega
    go_enter Try.func45, Try.ntmps45
    go_wp2_with fail
    go_ret
    exact ⟨by rw [hV.out]; rfl, rfl⟩
  · by_cases h2 : 97 ≤ c ∧ c ≤ 102
    · have hV : Hid (hexI c = (c : Int) - 97 + 10) := Lib.hid (by
        have : hexD c = c - 87 := by simp [hexD, h1, h2]
        unfold hexI; rw [this, if_pos (by omega)]; omega)
      have e1 : (97 : Int) ≤ c := by omega
      have e2 : (c : Int) ≤ 102 := by omega
      have e3 : ¬ (c : Int) ≤ 57 := by omega
      have e4 : (48 : Int) ≤ c := by omega
      go_enter Try.func45, Try.ntmps45
      go_wp2_with fail
      go_ret
      exact ⟨by rw [hV.out]; rfl, rfl⟩
    · by_cases h3 : c < 48
      · have e1 : ¬ (48 : Int) ≤ c := by omega
        have e2 : ¬ (97 : Int) ≤ c := by omega
        have hV : Hid (hexI c = -1) := Lib.hid (by
        have : hexD c = 16 := by simp [hexD, h1, h2]
        unfold hexI; rw [this]; rfl)
        go_enter Try.func45, Try.ntmps45
        go_wp2_with fail
        go_ret
        exact ⟨by rw [hV.out]; rfl, rfl⟩
      · by_cases h4 : c < 97
        · have e1 : (48 : Int) ≤ c := by omega
          have e2 : ¬ (c : Int) ≤ 57 := by omega
          have e3 : ¬ (97 : Int) ≤ c := by omega
          have hV : Hid (hexI c = -1) := Lib.hid (by
        have : hexD c = 16 := by simp [hexD, h1, h2]
        unfold hexI; rw [this]; rfl)
          go_enter Try.func45, Try.ntmps45
          go_wp2_with fail
          go_ret
          exact ⟨by rw [hV.out]; rfl, rfl⟩
        · have e1 : (48 : Int) ≤ c := by omega
          have e2 : ¬ (c : Int) ≤ 57 := by omega
          have e3 : (97 : Int) ≤ c := by omega
          have e4 : ¬ (c : Int) ≤ 102 := by omega
          have hV : Hid (hexI c = -1) := Lib.hid (by
        have : hexD c = 16 := by simp [hexD, h1, h2]
        unfold hexI; rw [this]; rfl)
          go_enter Try.func45, Try.ntmps45
          go_wp2_with fail
          go_ret
          exact ⟨by rw [hV.out]; rfl, rfl⟩

end Go.Proofs.Ytkhcnneflcbnpaa
