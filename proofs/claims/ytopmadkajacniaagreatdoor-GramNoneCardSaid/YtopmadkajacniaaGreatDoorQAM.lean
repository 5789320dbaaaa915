/-
  Texts of this claim, laid together: GPr, GPrint, GRules, GClR, GRuls, GParse. Conditions: none.
-/
import Derived.Test.YtopmadkajacniaaGreatDoorQAK
import Derived.Test.YtopmadkajacniaaGreatDoorQAL
set_option linter.unusedVariables false
set_option linter.unusedSimpArgs false
namespace Go.Proofs.YtopmadkajacniaaGreatDoor
open Go.RowKit Go.Maps
abbrev TMii : TypeId := 122
def brGet (m : List (Nat × Nat)) (x : Nat) : Option (Nat × Nat) := m.find? (fun p => decide (p.1 = x))
def brZ (m : List (Nat × Nat)) (x : Nat) : Nat := match brGet m x with | some p => p.2 | none => 0
def brHas (m : List (Nat × Nat)) (x : Nat) : Bool := (brGet m x).isSome
theorem look_br {w : World} {kb : Nat} {m : List (Nat × Nat)} (x : Nat) (hx : x ≤ 1000000) (h : MapA w TI kb (brM m)) : (Instr.lookup TMii (.map (some kb)) (.int .i64 (x : Nat)) true).run Tryz.prog w = .ok (.tuple #[.int .i64 (brZ m x : Nat), .bool (brHas m x)]) w := by
 obtain ⟨l, hl⟩ := int_keyOf x hx
 unfold brZ brHas brGet
 cases hf : m.find? (fun p => decide (p.1 = x)) with
 | none =>
  refine h.look0 (int_keyed Tryz.underlying3) Tryz.underlying122 (zero_int w) hl (fun p hp e => ?_) true
  obtain ⟨q, hq, rfl⟩ := brM_mem.1 hp
  have h1 := List.find?_eq_none.1 hf q hq
  have e2 : ((q.1 : Nat) : Int) = (x : Nat) := by injection e
  simp at h1
  omega
 | some q =>
  have h1 := List.find?_some hf
  have h2 := List.mem_of_find?_eq_some hf
  have h3 : q.1 = x := of_decide_eq_true h1
  exact h.look1 (int_keyed Tryz.underlying3) Tryz.underlying122 hl (brM_mem.2 ⟨q, h2, by rw [h3]⟩) true
def partsS (R : RS) (acc : ByteArray) (ps : List GP) : ByteArray := ps.foldl (fun a q => a ++ ((⟨#[32]⟩ : ByteArray) ++ partS R q)) acc
def paD : GP := ⟨0, 0, 0, false⟩
def ruleHead (R : RS) (r : GR) : ByteArray :=
 (((((⟨#[114, 117, 108, 101, 32]⟩ : ByteArray) ++ R.sorts.getD r.sort ⟨#[]⟩) ++ ⟨#[32]⟩) ++ decS r.level) ++ ⟨#[32]⟩ ++ (if r.cons.size = 0 then ⟨#[45]⟩ else r.cons)) ++ ⟨#[32, 61]⟩
def isBr (br : List (Nat × Nat)) (r : GR) (i : Nat) : Bool := brHas br r.sort && decide (brZ br r.sort = i)
def ruleS (R : RS) (br : List (Nat × Nat)) (r : GR) (i : Nat) : ByteArray :=
 if isBr br r i = true then
  ((((⟨#[98, 114, 97, 99, 107, 101, 116, 32]⟩ : ByteArray) ++ R.sorts.getD r.sort ⟨#[]⟩) ++ ⟨#[32]⟩) ++ partS R (r.parts.getD 0 paD)) ++ ⟨#[32]⟩ ++ partS R (r.parts.getD 2 paD)
 else partsS R (ruleHead R r) r.parts
def RuOk (R : RS) (br : List (Nat × Nat)) (r : GR) (i : Nat) : Bool :=
 decide (r.sort < R.sorts.length) && decide (r.level ≤ 9) && decide (r.cons.size ≤ 20) && decide (r.parts.length ≤ 12) && r.parts.all (PaOk R) && (!isBr br r i || decide (r.parts.length = 3))
theorem partS_le {R : RS} {q : GP} (hsz : SzOk R = true) (hq : PaOk R q = true) : (partS R q).size ≤ 30 := by
 unfold SzOk at hsz
 simp only [Bool.and_eq_true, List.all_eq_true, decide_eq_true_eq] at hsz
 unfold PaOk at hq
 rw [Bool.and_eq_true, decide_eq_true_eq] at hq
 obtain ⟨hql, hq⟩ := hq
 unfold partS
 split
 ·rename_i hs
  rw [if_pos hs, decide_eq_true_eq] at hq
  have hn : q.sort.toNat < R.sorts.length := by omega
  rw [getD_at _ _ hn]
  have h1 := hsz.1.1 _ (List.getElem_mem hn)
  have h2 := decS_le q.level (by omega)
  simp only [ByteArray.size_append]
  have h3 : (⟨#[58]⟩ : ByteArray).size = 1 := rfl
  omega
 ·rename_i hs
  rw [if_neg hs] at hq
  split
  ·rename_i hf
   rw [if_pos hf, Bool.and_eq_true, decide_eq_true_eq, decide_eq_true_eq] at hq
   have hn : q.cls.toNat < R.lits.length := by omega
   rw [getD_at _ _ hn]
   have h1 := hsz.1.2 _ (List.getElem_mem hn)
   simp only [ByteArray.size_append]
   have h3 : (⟨#[39]⟩ : ByteArray).size = 1 := rfl
   omega
  ·rename_i hf
   rw [if_neg hf, Bool.and_eq_true, decide_eq_true_eq, decide_eq_true_eq] at hq
   have hn : q.cls.toNat - R.lits.length < R.cls.length := by omega
   rw [List.getElem?_eq_getElem hn]
   have h1 := (hsz.2 _ (List.getElem_mem hn)).1
   dsimp only; omega
theorem rules_cells {w : World} {B : Nat} {v : Value} {rs : List GR} {vps : List Value} (h : RuAt w B v rs vps) : ∃ a c, v = .slice a rs.length c ∧ ∀ i (hi : i < rs.length) (hv : i < vps.length), ∃ g, a = some ⟨g, 0, none⟩ ∧
  w.cell? ⟨g, i * 4, none⟩ = some (.int .i64 rs[i].sort) ∧ w.cell? ⟨g, i * 4 + 1, none⟩ = some (.string rs[i].cons) ∧ w.cell? ⟨g, i * 4 + 2, none⟩ = some (.int .i64 rs[i].level) ∧ w.cell? ⟨g, i * 4 + 3, none⟩ = some vps[i] := by
 have hl := h.len
 obtain ⟨a, c, hv, _, _, h1⟩ := h.row.row (fun C hC => by obtain ⟨i, hi, rfl⟩ := List.getElem_of_mem hC; simp [ruL])
 rw [List.length_zipWith, hl, Nat.min_self] at hv
 refine ⟨a, c, hv, fun i hi hv2 => ?_⟩
 obtain ⟨g, ha, _, _, h2⟩ := h1 (fun e => by have := congrArg List.length e; simp [hl] at this; subst this; simp at hi)
 have h3 := h2 i (by simp [hl]; omega)
 have key : ∀ j, j < 4 → w.cell? ⟨g, i * 4 + j, none⟩ = (ruL rs[i] vps[i])[j]? := fun j hj => by
  have := (h3 j hj).1
  rw [show 0 + 4 * i + j = i * 4 + j by omega] at this
  rw [this]; simp
 exact ⟨g, ha, (key 0 (by omega)).trans rfl, (key 1 (by omega)).trans rfl, (key 2 (by omega)).trans rfl, (key 3 (by omega)).trans rfl⟩
theorem parts_cells {w : World} {B : Nat} {v : Value} {ps : List GP} (h : OwnK w B TPa 4 v (ps.map paL)) : ∃ a c, v = .slice a ps.length c ∧ ∀ i (hi : i < ps.length), ∃ g, a = some ⟨g, 0, none⟩ ∧
  w.cell? ⟨g, i * 4, none⟩ = some (.int .i64 ps[i].cls) ∧ w.cell? ⟨g, i * 4 + 1, none⟩ = some (.int .i64 ps[i].sort) ∧ w.cell? ⟨g, i * 4 + 2, none⟩ = some (.int .i64 ps[i].level) ∧ w.cell? ⟨g, i * 4 + 3, none⟩ = some (.bool ps[i].fixed) := by
 obtain ⟨a, c, hv, _, _, h1⟩ := h.row (fun C hC => by obtain ⟨x, _, rfl⟩ := List.mem_map.1 hC; rfl)
 rw [List.length_map] at hv
 refine ⟨a, c, hv, fun i hi => ?_⟩
 obtain ⟨g, ha, _, _, h2⟩ := h1 (fun e => by rw [List.map_eq_nil_iff] at e; subst e; simp at hi)
 have h3 := h2 i (by simpa using hi)
 have key : ∀ j, j < 4 → w.cell? ⟨g, i * 4 + j, none⟩ = (paL ps[i])[j]? := fun j hj => by
  have := (h3 j hj).1
  rw [show 0 + 4 * i + j = i * 4 + j by omega] at this
  rw [this]; simp
 exact ⟨g, ha, (key 0 (by omega)).trans rfl, (key 1 (by omega)).trans rfl, (key 2 (by omega)).trans rfl, (key 3 (by omega)).trans rfl⟩
set_option maxRecDepth 100000 in
set_option maxHeartbeats 8000000 in
theorem prule_c {B p kb i : Nat} {R : RS} {A : RA} {rs : List GR} {vps : List Value} {br : List (Nat × Nat)} {w : World} (h : LkAt w B p R A kb rs vps br) (ok : RSok R) (hsz : SzOk R = true) (hi : i < rs.length) (hi2 : rs.length ≤ 120) (hr : RuOk R br rs[i] i = true) :
  Calls Tryz.prog 70 #[ptr p, .int .i64 i] w fun e w' => e = .returned (.string (ruleS R br rs[i] i)) ∧ Kn w w' := by
 have hvl := h.ru.len
 have hiv : i < vps.length := by omega
 obtain ⟨a3, c3, hv3, hc3⟩ := rules_cells h.ru
 obtain ⟨g, rfl, k0, k1, k2, k3⟩ := hc3 i hi hiv
 obtain ⟨ap, cp, hvp, hcp⟩ := parts_cells (h.ru.parts i hiv hi)
 rw [hvp] at k3
 have hko := h.rd.cells
 obtain ⟨q0, q1, q2, q3, q4, _⟩ := hko
 rw [hv3] at q3
 rw [h.bb] at q4
 obtain ⟨as_, cs, hvs, _, _, hgs⟩ := h.rd.sorts.look
 rw [hvs] at q2
 obtain ⟨r, hre⟩ : ∃ r, r = rs[i] := ⟨_, rfl⟩
 rw [← hre] at k0 k1 k2 k3 hr hcp ⊢
 unfold RuOk at hr
 simp only [Bool.and_eq_true, decide_eq_true_eq, List.all_eq_true] at hr
 obtain ⟨⟨⟨⟨⟨hrs, hrl⟩, hrc⟩, hrp⟩, hra⟩, hrb⟩ := hr
 have HRA := Lib.hid hra
 obtain ⟨gs, rfl, _, _, hss⟩ := hgs (fun e => by rw [e] at hrs; simp at hrs)
 have hsn := hss r.sort hrs
 have HSZ : Hid (∀ s ∈ R.sorts, s.size ≤ 20) := Lib.hid (by
  unfold SzOk at hsz
  simp only [Bool.and_eq_true, List.all_eq_true, decide_eq_true_eq] at hsz
  exact hsz.1.1)
 have hszs := HSZ.out _ (List.getElem_mem hrs)
 have HPL := Lib.hid (fun q hq => partS_le hsz (HRA.out q hq))
 have HPC := Lib.hid (fun W (hk : Kn w W) q hq => ppart_c q (h.rd.kn hk) ok.lits ok.cls hsz (HRA.out q hq))
 have HLB := Lib.hid (fun W (hm : MapA W TI kb (brM br)) => look_br (w := W) r.sort (by have := ok.sorts; omega) hm)
 have HS : Hid (ruleS R br r i = if isBr br r i = true then
  ((((⟨#[98, 114, 97, 99, 107, 101, 116, 32]⟩ : ByteArray) ++ R.sorts.getD r.sort ⟨#[]⟩) ++ ⟨#[32]⟩) ++ partS R (r.parts.getD 0 paD)) ++ ⟨#[32]⟩ ++ partS R (r.parts.getD 2 paD)
  else partsS R (ruleHead R r) r.parts) := Lib.hid rfl
 have HSG : Hid (R.sorts.getD r.sort ⟨#[]⟩ = R.sorts[r.sort]) := Lib.hid (getD_at _ _ hrs)
 obtain ⟨ss, hse⟩ : ∃ ss, ss = R.sorts[r.sort] := ⟨_, rfl⟩
 rw [← hse] at hsn hszs HSG
 obtain ⟨sn, hsne⟩ : ∃ sn, sn = r.sort := ⟨_, rfl⟩
 rw [← hsne] at k0 hsn HLB hrs
 have hsni : (sn : Int) < R.sorts.length := by omega
 have hsl := ok.sorts
 have hin : (i : Int) < rs.length := by omega
 have hwg := World.block_lt_of_cell? w _ k0
 have HBRK := Lib.hid h.brk
 obtain ⟨b5, hb5⟩ : ∃ z, z = w.heap.size := ⟨_, rfl⟩
 obtain ⟨w1, hw1⟩ : ∃ z, z = w.alloc (.cells #[.int .i64 sn, .string r.cons, .int .i64 r.level, .slice ap r.parts.length cp] TRu) := ⟨_, rfl⟩
 have hk1 : Kn w w1 := by rw [hw1]; exact (Kp.refl _ _).alloc _
 have hbb : w1.heap[b5]? = some (.cells #[.int .i64 sn, .string r.cons, .int .i64 r.level, .slice ap r.parts.length cp] TRu (0, 0)) := by rw [hw1, hb5]; exact blk_new _ _
 have HBB := Lib.hid hbb
 have HW := Lib.hid (And.intro hw1 hb5)
 have HK1 := Lib.hid hk1
 have HCP := Lib.hid hcp
 have HIB : Hid (isBr br r i = (brHas br sn && decide (brZ br sn = i))) := Lib.hid (by rw [hsne]; rfl)
 have HRB : Hid (isBr br r i = true → r.parts.length = 3) := Lib.hid (fun e => by rw [e] at hrb; simpa using hrb)
 have e0 : w1.cell? ⟨b5, 0, none⟩ = some (.int .i64 sn) := by rw [cell_blk hbb]; rfl
 have p4 := kn_cell hk1 q4
 obtain ⟨zz, hzz⟩ : ∃ z, z = brZ br sn := ⟨_, rfl⟩
 obtain ⟨hh, hhh⟩ : ∃ z, z = brHas br sn := ⟨_, rfl⟩
 rw [← hzz, ← hhh] at HIB HLB
 clear h ok hsz hi hi2 hvl hiv hv3 hc3 hvp q0 q1 hvs hre hra hrb hgs hss hse hsne hw1 hb5 hk1 hbb hcp hzz hhh
 go_enter Tryz.func70, Tryz.ntmps70
 go_upto_region 2 with fail
 rw [← HW.out.2, ← HW.out.1]
 refine wp_region_held_drew (S := fun w' => w'.cell? ⟨p, 4, none⟩ = some (.map (some kb)) ∧ w'.cell? ⟨b5, 0, none⟩ = some (.int .i64 sn) ∧ MapA w' TI kb (brM br)) (by kernel_rfl) ⟨kn_cell ((Kp.refl _ _).drew) p4, kn_cell ((Kp.refl _ _).drew) e0, (HBRK.out.kn HK1.out).kn ((Kp.refl _ _).drew)⟩ (fun hHeld => ?_)
 obtain ⟨wd, hwd⟩ : ∃ zz, zz = w1.drew := ⟨_, rfl⟩
 have hkd : Kn w1 wd := by rw [hwd]; exact (Kp.refl _ _).drew
 rw [← hwd] at hHeld ⊢
 clear hwd
 refine TK 0 20 (v := ?_) rfl (fun _ _ _ h => h) (Or.inl ⟨by rfl, ?_⟩) (by assumption) ?_
 rotate_left
 ·(intro w hSw; clear hSw; go_simp; try with_reducible rfl)
 try simp only [PP]
 refine TK 1 21 (v := ?_) rfl (fun _ _ _ h => h) (Or.inl ⟨by rfl, ?_⟩) (by assumption) ?_
 rotate_left
 ·(intro w hSw; clear hSw; go_simp; try with_reducible rfl)
 try simp only [PP]
 refine TK 2 22 (v := ?_) rfl (fun _ _ _ h => h) (Or.inl ⟨by rfl, ?_⟩) (by assumption) ?_
 rotate_left
 ·(intro w hSw; clear hSw; go_simp; try with_reducible rfl)
 try simp only [PP]
 refine TK 3 23 (v := ?_) rfl (fun _ _ _ h => h) (Or.inl ⟨by rfl, ?_⟩) (by assumption) ?_
 rotate_left
 ·(intro w hSw; obtain ⟨hs1, hs2, hs3⟩ := hSw; go_simp; try with_reducible rfl)
 try simp only [PP]
 refine TK 4 24 (v := ?_) rfl (fun _ _ _ h => h) (Or.inl ⟨by rfl, ?_⟩) (by assumption) ?_
 rotate_left
 ·(intro w hSw; clear hSw; go_simp; try with_reducible rfl)
 try simp only [PP]
 refine TK 5 25 (v := ?_) rfl (fun _ _ _ h => h) (Or.inl ⟨by rfl, ?_⟩) (by assumption) ?_
 rotate_left
 ·(intro w hSw; obtain ⟨hs1, hs2, hs3⟩ := hSw; go_simp; try with_reducible rfl)
 try simp only [PP]
 refine TK 6 26 (v := ?_) rfl (fun _ _ _ h => h) (Or.inl ⟨by rfl, ?_⟩) (by assumption) ?_
 rotate_left
 ·(intro w hSw; obtain ⟨hs1, hs2, hs3⟩ := hSw; have hlk := HLB.out w hs3; go_simp; try with_reducible rfl)
 try simp only [PP]
 refine TK 7 19 (v := ?_) rfl (fun _ _ _ h => h) (Or.inl ⟨by rfl, ?_⟩) (by assumption) ?_
 rotate_left
 ·(intro w hSw; clear hSw; go_simp; try with_reducible rfl)
 try simp only [PP]
 refine TK 8 27 (v := ?_) rfl (fun _ _ _ h => h) (Or.inl ⟨by rfl, ?_⟩) (by assumption) ?_
 rotate_left
 ·(intro w hSw; clear hSw; go_simp; try with_reducible rfl)
 try simp only [PP]
 refine TK 10 6 (v := ?_) rfl (fun _ _ _ h => h) (Or.inl ⟨by rfl, ?_⟩) (by assumption) ?_
 rotate_left
 ·(intro w hSw; clear hSw; go_simp; try with_reducible rfl)
 try simp only [PP]
 refine TK 9 28 (v := ?_) rfl (fun _ _ _ h => h) (Or.inl ⟨by rfl, ?_⟩) (by assumption) ?_
 rotate_left
 ·(intro w hSw; clear hSw; go_simp; try with_reducible rfl)
 try simp only [PP]
 refine TK 11 7 (v := ?_) rfl (fun _ _ _ h => h) (Or.inl ⟨by rfl, ?_⟩) (by assumption) ?_
 rotate_left
 ·(intro w hSw; clear hSw; go_simp; try with_reducible rfl)
 try simp only [PP]
 refine wpAnyH_done (by kernel_rfl) ?_ _
 clear hHeld
 have HK2 := Lib.hid (HK1.out.trans hkd)
 have HB2 := Lib.hid (hkd.blk HBB.out (fun x => x))
 have e1 : wd.cell? ⟨b5, 1, none⟩ = some (.string r.cons) := by rw [cell_blk HB2.out]; rfl
 have e0d : wd.cell? ⟨b5, 0, none⟩ = some (.int .i64 sn) := kn_cell hkd e0
 have e2 : wd.cell? ⟨b5, 2, none⟩ = some (.int .i64 r.level) := by rw [cell_blk HB2.out]; rfl
 have e3 : wd.cell? ⟨b5, 3, none⟩ = some (.slice ap r.parts.length cp) := by rw [cell_blk HB2.out]; rfl
 have s2 := kn_cell HK2.out q2
 have sn2 := kn_cell HK2.out hsn
 clear p4 e0 k0 k1 k2 k3 q2 q3 q4 hsn
 cases hbr : isBr br r i with
 | true =>
  have hb2 := HIB.out
  rw [hbr] at hb2
  have hb3 := hb2.symm
  rw [Bool.and_eq_true, decide_eq_true_eq] at hb3
  obtain ⟨rfl, hzi⟩ := hb3
  have i1 : ((zz : Int) == (i : Int)) = true := by rw [hzi]; simp
  have hp3 := HRB.out hbr
  have HS2 : Hid (ruleS R br r i = ((((⟨#[98, 114, 97, 99, 107, 101, 116, 32]⟩ : ByteArray) ++ ss) ++ ⟨#[32]⟩) ++ partS R (r.parts.getD 0 paD)) ++ ⟨#[32]⟩ ++ partS R (r.parts.getD 2 paD)) := Lib.hid (by rw [HS.out, hbr, if_pos rfl, HSG.out])
  obtain ⟨gp, hap, m0, m1, m2, m3⟩ := HCP.out 0 (by omega)
  subst hap
  obtain ⟨gp2, hap2, o0, o1, o2, o3⟩ := HCP.out 2 (by omega)
  injection hap2 with hap2
  injection hap2 with hap2
  subst hap2
  rw [getD_at _ _ (show 0 < r.parts.length by omega), getD_at _ _ (show 2 < r.parts.length by omega)] at HS2
  have HC0 := Lib.hid (fun W hk => HPC.out W hk r.parts[0] (List.getElem_mem (by omega)))
  have HC2 := Lib.hid (fun W hk => HPC.out W hk r.parts[2] (List.getElem_mem (by omega)))
  have hl0 := HPL.out r.parts[0] (List.getElem_mem (by omega))
  have hl2 := HPL.out r.parts[2] (List.getElem_mem (by omega))
  obtain ⟨x0, hx0⟩ : ∃ x, x = r.parts[0] := ⟨_, rfl⟩
  obtain ⟨x2, hx2⟩ : ∃ x, x = r.parts[2] := ⟨_, rfl⟩
  rw [← hx0] at m0 m1 m2 m3 HC0 hl0 HS2
  rw [← hx2] at o0 o1 o2 o3 HC2 hl2 HS2
  obtain ⟨t0, ht0⟩ : ∃ t, t = partS R x0 := ⟨_, rfl⟩
  obtain ⟨t2, ht2⟩ : ∃ t, t = partS R x2 := ⟨_, rfl⟩
  rw [← ht0] at HC0 hl0 HS2
  rw [← ht2] at HC2 hl2 HS2
  have n0 := kn_cell HK2.out m0
  have n1 := kn_cell HK2.out m1
  have n2 := kn_cell HK2.out m2
  have n3 := kn_cell HK2.out m3
  have n8 := kn_cell HK2.out o0
  have n9 := kn_cell HK2.out o1
  have n10 := kn_cell HK2.out o2
  have n11 := kn_cell HK2.out o3
  simp only [Nat.zero_mul, Nat.zero_add, Nat.reduceMul, Nat.reduceAdd] at n0 n1 n2 n3 n8 n9 n10 n11
  rw [hp3] at e3
  clear hbr hb2 hzi hp3 m0 m1 m2 m3 o0 o1 o2 o3 hx0 hx2 ht0 ht2
  go_upto_region 4 with fail
  refine wp_region_held_drew (S := fun w' => w'.cell? ⟨p, 2, none⟩ = some (.slice (some ⟨gs, 0, none⟩) R.sorts.length cs) ∧ w'.cell? ⟨b5, 0, none⟩ = some (.int .i64 sn) ∧ w'.cell? ⟨gs, sn, none⟩ = some (.string ss) ∧ w'.cell? ⟨b5, 3, none⟩ = some (.slice (some ⟨gp, 0, none⟩) 3 cp) ∧ w'.cell? ⟨gp, 0, none⟩ = some (.int .i64 x0.cls) ∧ w'.cell? ⟨gp, 1, none⟩ = some (.int .i64 x0.sort) ∧ w'.cell? ⟨gp, 2, none⟩ = some (.int .i64 x0.level) ∧ w'.cell? ⟨gp, 3, none⟩ = some (.bool x0.fixed) ∧ w'.cell? ⟨gp, 8, none⟩ = some (.int .i64 x2.cls) ∧ w'.cell? ⟨gp, 9, none⟩ = some (.int .i64 x2.sort) ∧ w'.cell? ⟨gp, 10, none⟩ = some (.int .i64 x2.level) ∧ w'.cell? ⟨gp, 11, none⟩ = some (.bool x2.fixed)) (by kernel_rfl) ⟨kn_cell ((Kp.refl _ _).drew) s2, kn_cell ((Kp.refl _ _).drew) e0d, kn_cell ((Kp.refl _ _).drew) sn2, kn_cell ((Kp.refl _ _).drew) e3, kn_cell ((Kp.refl _ _).drew) n0, kn_cell ((Kp.refl _ _).drew) n1, kn_cell ((Kp.refl _ _).drew) n2, kn_cell ((Kp.refl _ _).drew) n3, kn_cell ((Kp.refl _ _).drew) n8, kn_cell ((Kp.refl _ _).drew) n9, kn_cell ((Kp.refl _ _).drew) n10, kn_cell ((Kp.refl _ _).drew) n11⟩ (fun hHeld => ?_)
  obtain ⟨we, hwe⟩ : ∃ zz, zz = wd.drew := ⟨_, rfl⟩
  have KN0 : Kn wd we := by rw [hwe]; exact (Kp.refl _ _).drew
  rw [← hwe] at hHeld ⊢
  clear hwe
  refine TK 0 35 (v := ?_) rfl (fun _ _ _ h => h) (Or.inl ⟨by rfl, ?_⟩) (by assumption) ?_
  rotate_left
  ·(intro w hSw; clear hSw; go_simp; try with_reducible rfl)
  try simp only [PP]
  refine TK 1 36 (v := ?_) rfl (fun _ _ _ h => h) (Or.inl ⟨by rfl, ?_⟩) (by assumption) ?_
  rotate_left
  ·(intro w hSw; clear hSw; go_simp; try with_reducible rfl)
  try simp only [PP]
  refine TK 2 37 (v := ?_) rfl (fun _ _ _ h => h) (Or.inl ⟨by rfl, ?_⟩) (by assumption) ?_
  rotate_left
  ·(intro w hSw; clear hSw; go_simp; try with_reducible rfl)
  try simp only [PP]
  refine TK 3 38 (v := ?_) rfl (fun _ _ _ h => h) (Or.inl ⟨by rfl, ?_⟩) (by assumption) ?_
  rotate_left
  ·(intro w hSw; obtain ⟨hs1, hs2, hs3, hs4, hs5, hs6, hs7, hs8, hs9, hs10, hs11, hs12⟩ := hSw; go_simp; try with_reducible rfl)
  try simp only [PP]
  refine TK 4 39 (v := ?_) rfl (fun _ _ _ h => h) (Or.inl ⟨by rfl, ?_⟩) (by assumption) ?_
  rotate_left
  ·(intro w hSw; clear hSw; go_simp; try with_reducible rfl)
  try simp only [PP]
  refine TK 5 40 (v := ?_) rfl (fun _ _ _ h => h) (Or.inl ⟨by rfl, ?_⟩) (by assumption) ?_
  rotate_left
  ·(intro w hSw; obtain ⟨hs1, hs2, hs3, hs4, hs5, hs6, hs7, hs8, hs9, hs10, hs11, hs12⟩ := hSw; go_simp; try with_reducible rfl)
  try simp only [PP]
  refine TK 6 41 (v := ?_) rfl (fun _ _ _ h => h) (Or.inl ⟨by rfl, ?_⟩) (by assumption) ?_
  rotate_left
  ·(intro w hSw; clear hSw; go_simp; try with_reducible rfl)
  try simp only [PP]
  refine TK 7 42 (v := ?_) rfl (fun _ _ _ h => h) (Or.inl ⟨by rfl, ?_⟩) (by assumption) ?_
  rotate_left
  ·(intro w hSw; obtain ⟨hs1, hs2, hs3, hs4, hs5, hs6, hs7, hs8, hs9, hs10, hs11, hs12⟩ := hSw; go_simp; try with_reducible rfl)
  try simp only [PP]
  refine TK 8 43 (v := ?_) rfl (fun _ _ _ h => h) (Or.inl ⟨by rfl, ?_⟩) (by assumption) ?_
  rotate_left
  ·(intro w hSw; clear hSw; have ho : ¬ (9223372036854775807 : Nat) < 8 + ss.size := (by omega); go_simp; try with_reducible rfl)
  try simp only [PP]
  refine TK 9 44 (v := ?_) rfl (fun _ _ _ h => h) (Or.inl ⟨by rfl, ?_⟩) (by assumption) ?_
  rotate_left
  ·(intro w hSw; clear hSw; have ho : ¬ (9223372036854775807 : Nat) < 8 + ss.size + 1 := (by omega); go_simp; try with_reducible rfl)
  try simp only [PP]
  refine TK 10 45 (v := ?_) rfl (fun _ _ _ h => h) (Or.inl ⟨by rfl, ?_⟩) (by assumption) ?_
  rotate_left
  ·(intro w hSw; clear hSw; go_simp; try with_reducible rfl)
  try simp only [PP]
  refine TK 11 46 (v := ?_) rfl (fun _ _ _ h => h) (Or.inl ⟨by rfl, ?_⟩) (by assumption) ?_
  rotate_left
  ·(intro w hSw; clear hSw; go_simp; try with_reducible rfl)
  try simp only [PP]
  refine TK 12 47 (v := ?_) rfl (fun _ _ _ h => h) (Or.inl ⟨by rfl, ?_⟩) (by assumption) ?_
  rotate_left
  ·(intro w hSw; obtain ⟨hs1, hs2, hs3, hs4, hs5, hs6, hs7, hs8, hs9, hs10, hs11, hs12⟩ := hSw; go_simp; try with_reducible rfl)
  try simp only [PP]
  refine TK 13 48 (v := ?_) rfl (fun _ _ _ h => h) (Or.inl ⟨by rfl, ?_⟩) (by assumption) ?_
  rotate_left
  ·(intro w hSw; clear hSw; go_simp; try with_reducible rfl)
  try simp only [PP]
  refine TK 14 49 (v := ?_) rfl (fun _ _ _ h => h) (Or.inl ⟨by rfl, ?_⟩) (by assumption) ?_
  rotate_left
  ·(intro w hSw; obtain ⟨hs1, hs2, hs3, hs4, hs5, hs6, hs7, hs8, hs9, hs10, hs11, hs12⟩ := hSw; go_simp; try with_reducible rfl)
  try simp only [PP]
  refine TK 18 53 (v := ?_) rfl (fun _ _ _ h => h) (Or.inl ⟨by rfl, ?_⟩) (by assumption) ?_
  rotate_left
  ·(intro w hSw; clear hSw; go_simp; try with_reducible rfl)
  try simp only [PP]
  refine TK 19 54 (v := ?_) rfl (fun _ _ _ h => h) (Or.inl ⟨by rfl, ?_⟩) (by assumption) ?_
  rotate_left
  ·(intro w hSw; clear hSw; go_simp; try with_reducible rfl)
  try simp only [PP]
  refine TK 20 55 (v := ?_) rfl (fun _ _ _ h => h) (Or.inl ⟨by rfl, ?_⟩) (by assumption) ?_
  rotate_left
  ·(intro w hSw; obtain ⟨hs1, hs2, hs3, hs4, hs5, hs6, hs7, hs8, hs9, hs10, hs11, hs12⟩ := hSw; go_simp; try with_reducible rfl)
  try simp only [PP]
  refine TK 21 56 (v := ?_) rfl (fun _ _ _ h => h) (Or.inl ⟨by rfl, ?_⟩) (by assumption) ?_
  rotate_left
  ·(intro w hSw; clear hSw; go_simp; try with_reducible rfl)
  try simp only [PP]
  refine TK 22 57 (v := ?_) rfl (fun _ _ _ h => h) (Or.inl ⟨by rfl, ?_⟩) (by assumption) ?_
  rotate_left
  ·(intro w hSw; obtain ⟨hs1, hs2, hs3, hs4, hs5, hs6, hs7, hs8, hs9, hs10, hs11, hs12⟩ := hSw; go_simp; try with_reducible rfl)
  try simp only [PP]
  refine wpAnyH_ready (rs := [15]) (by kernel_rfl) (by simp) (AllReadyH.cons (o := Oper.mk (some 50) _ _ _ _ _) rfl (fun K hK => ?_) AllReadyH.nil)
  go_simp
  go_at_call 121
  refine (HC0.out we (HK2.out.trans KN0)).mono ?_
  rintro e9 z1 ⟨rfl, hk1⟩
  have KN1 := KN0.trans hk1
  dsimp only
  have hSS : (fun w' => w'.cell? ⟨p, 2, none⟩ = some (.slice (some ⟨gs, 0, none⟩) R.sorts.length cs) ∧ w'.cell? ⟨b5, 0, none⟩ = some (.int .i64 sn) ∧ w'.cell? ⟨gs, sn, none⟩ = some (.string ss) ∧ w'.cell? ⟨b5, 3, none⟩ = some (.slice (some ⟨gp, 0, none⟩) 3 cp) ∧ w'.cell? ⟨gp, 0, none⟩ = some (.int .i64 x0.cls) ∧ w'.cell? ⟨gp, 1, none⟩ = some (.int .i64 x0.sort) ∧ w'.cell? ⟨gp, 2, none⟩ = some (.int .i64 x0.level) ∧ w'.cell? ⟨gp, 3, none⟩ = some (.bool x0.fixed) ∧ w'.cell? ⟨gp, 8, none⟩ = some (.int .i64 x2.cls) ∧ w'.cell? ⟨gp, 9, none⟩ = some (.int .i64 x2.sort) ∧ w'.cell? ⟨gp, 10, none⟩ = some (.int .i64 x2.level) ∧ w'.cell? ⟨gp, 11, none⟩ = some (.bool x2.fixed)) z1 := ⟨kn_cell hk1 hHeld.1, kn_cell hk1 hHeld.2.1, kn_cell hk1 hHeld.2.2.1, kn_cell hk1 hHeld.2.2.2.1, kn_cell hk1 hHeld.2.2.2.2.1, kn_cell hk1 hHeld.2.2.2.2.2.1, kn_cell hk1 hHeld.2.2.2.2.2.2.1, kn_cell hk1 hHeld.2.2.2.2.2.2.2.1, kn_cell hk1 hHeld.2.2.2.2.2.2.2.2.1, kn_cell hk1 hHeld.2.2.2.2.2.2.2.2.2.1, kn_cell hk1 hHeld.2.2.2.2.2.2.2.2.2.2.1, kn_cell hk1 hHeld.2.2.2.2.2.2.2.2.2.2.2⟩
  refine hK.out _ _ hSS (fun hHeld => ?_)
  clear hK K hSS
  try simp only [PP]
  refine TK 16 51 (v := ?_) rfl (fun _ _ _ h => h) (Or.inl ⟨by rfl, ?_⟩) (by assumption) ?_
  rotate_left
  ·(intro w hSw; clear hSw; have ho : ¬ (9223372036854775807 : Nat) < 8 + ss.size + 1 + t0.size := (by omega); go_simp; try with_reducible rfl)
  try simp only [PP]
  refine TK 17 52 (v := ?_) rfl (fun _ _ _ h => h) (Or.inl ⟨by rfl, ?_⟩) (by assumption) ?_
  rotate_left
  ·(intro w hSw; clear hSw; have ho : ¬ (9223372036854775807 : Nat) < 8 + ss.size + 1 + t0.size + 1 := (by omega); go_simp; try with_reducible rfl)
  try simp only [PP]
  refine wpAnyH_ready (rs := [23]) (by kernel_rfl) (by simp) (AllReadyH.cons (o := Oper.mk (some 58) _ _ _ _ _) rfl (fun K hK => ?_) AllReadyH.nil)
  go_simp
  go_at_call 121
  refine (HC2.out z1 (HK2.out.trans KN1)).mono ?_
  rintro e9 z2 ⟨rfl, hk2⟩
  have KN2 := KN1.trans hk2
  dsimp only
  have hSS : (fun w' => w'.cell? ⟨p, 2, none⟩ = some (.slice (some ⟨gs, 0, none⟩) R.sorts.length cs) ∧ w'.cell? ⟨b5, 0, none⟩ = some (.int .i64 sn) ∧ w'.cell? ⟨gs, sn, none⟩ = some (.string ss) ∧ w'.cell? ⟨b5, 3, none⟩ = some (.slice (some ⟨gp, 0, none⟩) 3 cp) ∧ w'.cell? ⟨gp, 0, none⟩ = some (.int .i64 x0.cls) ∧ w'.cell? ⟨gp, 1, none⟩ = some (.int .i64 x0.sort) ∧ w'.cell? ⟨gp, 2, none⟩ = some (.int .i64 x0.level) ∧ w'.cell? ⟨gp, 3, none⟩ = some (.bool x0.fixed) ∧ w'.cell? ⟨gp, 8, none⟩ = some (.int .i64 x2.cls) ∧ w'.cell? ⟨gp, 9, none⟩ = some (.int .i64 x2.sort) ∧ w'.cell? ⟨gp, 10, none⟩ = some (.int .i64 x2.level) ∧ w'.cell? ⟨gp, 11, none⟩ = some (.bool x2.fixed)) z2 := ⟨kn_cell hk2 hHeld.1, kn_cell hk2 hHeld.2.1, kn_cell hk2 hHeld.2.2.1, kn_cell hk2 hHeld.2.2.2.1, kn_cell hk2 hHeld.2.2.2.2.1, kn_cell hk2 hHeld.2.2.2.2.2.1, kn_cell hk2 hHeld.2.2.2.2.2.2.1, kn_cell hk2 hHeld.2.2.2.2.2.2.2.1, kn_cell hk2 hHeld.2.2.2.2.2.2.2.2.1, kn_cell hk2 hHeld.2.2.2.2.2.2.2.2.2.1, kn_cell hk2 hHeld.2.2.2.2.2.2.2.2.2.2.1, kn_cell hk2 hHeld.2.2.2.2.2.2.2.2.2.2.2⟩
  refine hK.out _ _ hSS (fun hHeld => ?_)
  clear hK K hSS
  try simp only [PP]
  refine TK 24 59 (v := ?_) rfl (fun _ _ _ h => h) (Or.inl ⟨by rfl, ?_⟩) (by assumption) ?_
  rotate_left
  ·(intro w hSw; clear hSw; have ho : ¬ (9223372036854775807 : Nat) < 8 + ss.size + 1 + t0.size + 1 + t2.size := (by omega); go_simp; try with_reducible rfl)
  try simp only [PP]
  refine TK 25 4 (v := ?_) rfl (fun _ _ _ h => h) (Or.inl ⟨by rfl, ?_⟩) (by assumption) ?_
  rotate_left
  ·(intro w hSw; clear hSw; go_simp; try with_reducible rfl)
  try simp only [PP]
  refine wpAnyH_done (by kernel_rfl) ?_ _
  go_wp2_with fail
  go_ret
  exact ⟨by rw [HS2.out]; rfl, HK2.out.trans KN2⟩
 | false =>
  have HS2 : Hid (ruleS R br r i = partsS R (ruleHead R r) r.parts) := Lib.hid (by rw [HS.out, hbr, if_neg (by decide)])
  have hl1 : isBr br r i = false := hbr
  rw [HIB.out] at hl1
  clear hbr
  have hdl := decS_le r.level (by omega)
  have HIT : Hid (∀ W, Calls Tryz.prog 81 #[.int .i64 r.level] W fun e w' => e = .returned (.string (decS r.level)) ∧ w' = W) := Lib.hid (fun W => itoa_c r.level (by omega) W)
  have HRH : Hid (ruleHead R r = (((((⟨#[114, 117, 108, 101, 32]⟩ : ByteArray) ++ ss) ++ ⟨#[32]⟩) ++ decS r.level) ++ ⟨#[32]⟩ ++ (if r.cons.size = 0 then ⟨#[45]⟩ else r.cons)) ++ ⟨#[32, 61]⟩) := Lib.hid (by rw [← HSG.out]; rfl)
  obtain ⟨t, ht⟩ : ∃ t, t = decS r.level := ⟨_, rfl⟩
  rw [← ht] at hdl HIT HRH
  clear ht
  cases hh with
  | false =>
   clear hl1
   by_cases hc0 : r.cons.size = 0
   ·have iec := isE_true hc0
    have HRH2 : Hid (ruleHead R r = (((((⟨#[114, 117, 108, 101, 32]⟩ : ByteArray) ++ ss) ++ ⟨#[32]⟩) ++ t) ++ ⟨#[32]⟩ ++ ⟨#[45]⟩) ++ ⟨#[32, 61]⟩) := Lib.hid (by rw [HRH.out, if_pos hc0])
    clear hc0 HRH
    go_upto_region 8 with fail
    refine wp_region_held_drew (S := fun w' => w'.cell? ⟨p, 2, none⟩ = some (.slice (some ⟨gs, 0, none⟩) R.sorts.length cs) ∧ w'.cell? ⟨b5, 0, none⟩ = some (.int .i64 sn) ∧ w'.cell? ⟨gs, sn, none⟩ = some (.string ss) ∧ w'.cell? ⟨b5, 2, none⟩ = some (.int .i64 r.level)) (by kernel_rfl) ⟨kn_cell ((Kp.refl _ _).drew) s2, kn_cell ((Kp.refl _ _).drew) e0d, kn_cell ((Kp.refl _ _).drew) sn2, kn_cell ((Kp.refl _ _).drew) e2⟩ (fun hHeld => ?_)
    obtain ⟨we, hwe⟩ : ∃ zz, zz = wd.drew := ⟨_, rfl⟩
    have KN0 : Kn wd we := by rw [hwe]; exact (Kp.refl _ _).drew
    rw [← hwe] at hHeld ⊢
    clear hwe
    refine TK 0 64 (v := ?_) rfl (fun _ _ _ h => h) (Or.inl ⟨by rfl, ?_⟩) (by assumption) ?_
    rotate_left
    ·(intro w hSw; clear hSw; go_simp; try with_reducible rfl)
    try simp only [PP]
    refine TK 1 65 (v := ?_) rfl (fun _ _ _ h => h) (Or.inl ⟨by rfl, ?_⟩) (by assumption) ?_
    rotate_left
    ·(intro w hSw; clear hSw; go_simp; try with_reducible rfl)
    try simp only [PP]
    refine TK 2 66 (v := ?_) rfl (fun _ _ _ h => h) (Or.inl ⟨by rfl, ?_⟩) (by assumption) ?_
    rotate_left
    ·(intro w hSw; clear hSw; go_simp; try with_reducible rfl)
    try simp only [PP]
    refine TK 3 67 (v := ?_) rfl (fun _ _ _ h => h) (Or.inl ⟨by rfl, ?_⟩) (by assumption) ?_
    rotate_left
    ·(intro w hSw; obtain ⟨hs1, hs2, hs3, hs4⟩ := hSw; go_simp; try with_reducible rfl)
    try simp only [PP]
    refine TK 4 68 (v := ?_) rfl (fun _ _ _ h => h) (Or.inl ⟨by rfl, ?_⟩) (by assumption) ?_
    rotate_left
    ·(intro w hSw; clear hSw; go_simp; try with_reducible rfl)
    try simp only [PP]
    refine TK 5 69 (v := ?_) rfl (fun _ _ _ h => h) (Or.inl ⟨by rfl, ?_⟩) (by assumption) ?_
    rotate_left
    ·(intro w hSw; obtain ⟨hs1, hs2, hs3, hs4⟩ := hSw; go_simp; try with_reducible rfl)
    try simp only [PP]
    refine TK 6 70 (v := ?_) rfl (fun _ _ _ h => h) (Or.inl ⟨by rfl, ?_⟩) (by assumption) ?_
    rotate_left
    ·(intro w hSw; clear hSw; go_simp; try with_reducible rfl)
    try simp only [PP]
    refine TK 7 71 (v := ?_) rfl (fun _ _ _ h => h) (Or.inl ⟨by rfl, ?_⟩) (by assumption) ?_
    rotate_left
    ·(intro w hSw; obtain ⟨hs1, hs2, hs3, hs4⟩ := hSw; go_simp; try with_reducible rfl)
    try simp only [PP]
    refine TK 8 72 (v := ?_) rfl (fun _ _ _ h => h) (Or.inl ⟨by rfl, ?_⟩) (by assumption) ?_
    rotate_left
    ·(intro w hSw; clear hSw; have ho : ¬ (9223372036854775807 : Nat) < 5 + ss.size := (by omega); go_simp; try with_reducible rfl)
    try simp only [PP]
    refine TK 9 73 (v := ?_) rfl (fun _ _ _ h => h) (Or.inl ⟨by rfl, ?_⟩) (by assumption) ?_
    rotate_left
    ·(intro w hSw; clear hSw; have ho : ¬ (9223372036854775807 : Nat) < 5 + ss.size + 1 := (by omega); go_simp; try with_reducible rfl)
    try simp only [PP]
    refine TK 10 74 (v := ?_) rfl (fun _ _ _ h => h) (Or.inl ⟨by rfl, ?_⟩) (by assumption) ?_
    rotate_left
    ·(intro w hSw; clear hSw; go_simp; try with_reducible rfl)
    try simp only [PP]
    refine TK 11 75 (v := ?_) rfl (fun _ _ _ h => h) (Or.inl ⟨by rfl, ?_⟩) (by assumption) ?_
    rotate_left
    ·(intro w hSw; obtain ⟨hs1, hs2, hs3, hs4⟩ := hSw; go_simp; try with_reducible rfl)
    try simp only [PP]
    refine TK 15 79 (v := ?_) rfl (fun _ _ _ h => h) (Or.inl ⟨by rfl, ?_⟩) (by assumption) ?_
    rotate_left
    ·(intro w hSw; clear hSw; go_simp; try with_reducible rfl)
    try simp only [PP]
    refine wpAnyH_ready (rs := [12]) (by kernel_rfl) (by simp) (AllReadyH.cons (o := Oper.mk (some 76) _ _ _ _ _) rfl (fun K hK => ?_) AllReadyH.nil)
    go_simp
    go_at_call 81
    refine (HIT.out we).mono ?_
    rintro e9 w9 ⟨rfl, hw9⟩
    rw [hw9]
    clear hw9 w9
    dsimp only
    refine hK.out _ _ hHeld (fun hHeld => ?_)
    clear hK K
    try simp only [PP]
    refine TK 13 77 (v := ?_) rfl (fun _ _ _ h => h) (Or.inl ⟨by rfl, ?_⟩) (by assumption) ?_
    rotate_left
    ·(intro w hSw; clear hSw; have ho : ¬ (9223372036854775807 : Nat) < 5 + ss.size + 1 + t.size := (by omega); go_simp; try with_reducible rfl)
    try simp only [PP]
    refine TK 14 78 (v := ?_) rfl (fun _ _ _ h => h) (Or.inl ⟨by rfl, ?_⟩) (by assumption) ?_
    rotate_left
    ·(intro w hSw; clear hSw; have ho : ¬ (9223372036854775807 : Nat) < 5 + ss.size + 1 + t.size + 1 := (by omega); go_simp; try with_reducible rfl)
    try simp only [PP]
    refine TK 16 80 (v := ?_) rfl (fun _ _ _ h => h) (Or.inl ⟨by rfl, ?_⟩) (by assumption) ?_
    rotate_left
    ·(intro w hSw; clear hSw; have ho : ¬ (9223372036854775807 : Nat) < 5 + ss.size + 1 + t.size + 1 + 1 := (by omega); go_simp; try with_reducible rfl)
    try simp only [PP]
    refine TK 17 81 (v := ?_) rfl (fun _ _ _ h => h) (Or.inl ⟨by rfl, ?_⟩) (by assumption) ?_
    rotate_left
    ·(intro w hSw; clear hSw; have ho : ¬ (9223372036854775807 : Nat) < 5 + ss.size + 1 + t.size + 1 + 1 + 2 := (by omega); go_simp; try with_reducible rfl)
    try simp only [PP]
    refine TK 18 9 (v := ?_) rfl (fun _ _ _ h => h) (Or.inl ⟨by rfl, ?_⟩) (by assumption) ?_
    rotate_left
    ·(intro w hSw; clear hSw; go_simp; try with_reducible rfl)
    try simp only [PP]
    refine wpAnyH_done (by kernel_rfl) ?_ _
    have e3e := kn_cell KN0 e3
    have HK3 := Lib.hid (HK2.out.trans KN0)
    obtain ⟨hd, hhd⟩ : ∃ hd : ByteArray, hd = (((((⟨#[114, 117, 108, 101, 32]⟩ : ByteArray) ++ ss) ++ ⟨#[32]⟩) ++ t) ++ ⟨#[32]⟩ ++ ⟨#[45]⟩) ++ ⟨#[32, 61]⟩ := ⟨_, rfl⟩
    have HHD : Hid (ruleHead R r = hd) := Lib.hid (by rw [hhd]; exact HRH2.out)
    have hhs : hd.size ≤ 60 := by
     rw [hhd]
     simp only [ByteArray.size_append]
     have a1 : (⟨#[114, 117, 108, 101, 32]⟩ : ByteArray).size = 5 := rfl
     have a2 : (⟨#[32]⟩ : ByteArray).size = 1 := rfl
     have a3 : (⟨#[32, 61]⟩ : ByteArray).size = 2 := rfl
     have a4 : (⟨#[45]⟩ : ByteArray).size = 1 := rfl
     omega
    rw [← hhd]
    clear hHeld e0d e2 e3 s2 sn2 hhd KN0 hkd
    go_wp2_with fail
    go_loopw [9, 85] (fun s9 s85 wr => ∃ (k : Nat) (acc : ByteArray), s9 = .string acc ∧ s85 = .int .i64 k ∧ k ≤ r.parts.length ∧ Hid (acc = partsS R hd (r.parts.take k)) ∧ acc.size ≤ 60 + 31 * k ∧ Kn w wr) (fun _ s85 _ => r.parts.length - (intOf s85).toNat)
    case atStart => exact ⟨0, hd, rfl, rfl, Nat.zero_le _, Lib.hid (by rw [List.take_zero]; rfl), by omega, HK3.out⟩
    case round =>
     obtain ⟨k, acc, rfl, rfl, hk, hac, hsz, hkn⟩ := hrel
     by_cases hlt : k < r.parts.length
     ·obtain ⟨gp, hap, m0, m1, m2, m3⟩ := HCP.out k hlt
      subst hap
      have HC0 := Lib.hid (fun W hk => HPC.out W hk r.parts[k] (List.getElem_mem hlt))
      have hl0 := HPL.out r.parts[k] (List.getElem_mem hlt)
      obtain ⟨x0, hx0⟩ : ∃ x, x = r.parts[k] := ⟨_, rfl⟩
      have HX0 := Lib.hid hx0
      rw [← hx0] at m0 m1 m2 m3 HC0 hl0
      obtain ⟨t0, ht0⟩ : ∃ t, t = partS R x0 := ⟨_, rfl⟩
      have HT0 := Lib.hid ht0
      rw [← ht0] at HC0 hl0
      have n0 := kn_cell hkn m0
      have n1 := kn_cell hkn m1
      have n2 := kn_cell hkn m2
      have n3 := kn_cell hkn m3
      have hka : Kn w (wr.alloc (.cells #[.int .i64 x0.cls, .int .i64 x0.sort, .int .i64 x0.level, .bool x0.fixed] TPa)) := hkn.alloc _
      have HC1 := Lib.hid (HC0.out _ hka)
      have HA := Lib.hid hka
      have ho1 : ¬ (9223372036854775807 : Nat) < 1 + t0.size := by omega
      have ho2 : ¬ (9223372036854775807 : Nat) < acc.size + (1 + t0.size) := by omega
      have HSN : Hid (acc ++ ((⟨#[32]⟩ : ByteArray) ++ t0) = partsS R hd (r.parts.take (k + 1))) := Lib.hid (by
       rw [List.take_succ_eq_append_getElem hlt]
       unfold partsS
       rw [List.foldl_append, ← HX0.out]
       show _ = List.foldl _ hd (r.parts.take k) ++ ((⟨#[32]⟩ : ByteArray) ++ partS R x0)
       rw [← HT0.out, hac.out]; rfl)
      have hsn : (acc ++ ((⟨#[32]⟩ : ByteArray) ++ t0)).size ≤ 60 + 31 * (k + 1) := by
       simp only [ByteArray.size_append]
       have a2 : (⟨#[32]⟩ : ByteArray).size = 1 := rfl
       omega
      have HSZN := Lib.hid hsn
      clear m0 m1 m2 m3 hx0 ht0 HC0 hka hsn
      go_wp2_with fail
      refine HC1.out.mono ?_
      rintro e9 w6 ⟨rfl, hk6⟩
      have hkn6 := HA.out.trans hk6
      go_wp2_with fail
      go_roundw
      case rel => exact ⟨k + 1, _, rfl, by go_num, by omega, HSN, HSZN.out, hkn6⟩
      case measure => simp [intOf]; omega
     ·obtain rfl : k = r.parts.length := by omega
      have hfin := hac.out
      rw [List.take_length] at hfin
      have HFI : Hid (ruleS R br r i = acc) := Lib.hid (by rw [HS2.out, HHD.out]; exact hfin.symm)
      clear hfin
      go_wp2_with fail
      go_ret
      exact ⟨by rw [HFI.out]; rfl, hkn⟩
   ·have iec := isE_false hc0
    have HRH2 : Hid (ruleHead R r = (((((⟨#[114, 117, 108, 101, 32]⟩ : ByteArray) ++ ss) ++ ⟨#[32]⟩) ++ t) ++ ⟨#[32]⟩ ++ r.cons) ++ ⟨#[32, 61]⟩) := Lib.hid (by rw [HRH.out, if_neg hc0])
    clear hc0 HRH
    go_upto_region 8 with fail
    refine wp_region_held_drew (S := fun w' => w'.cell? ⟨p, 2, none⟩ = some (.slice (some ⟨gs, 0, none⟩) R.sorts.length cs) ∧ w'.cell? ⟨b5, 0, none⟩ = some (.int .i64 sn) ∧ w'.cell? ⟨gs, sn, none⟩ = some (.string ss) ∧ w'.cell? ⟨b5, 2, none⟩ = some (.int .i64 r.level)) (by kernel_rfl) ⟨kn_cell ((Kp.refl _ _).drew) s2, kn_cell ((Kp.refl _ _).drew) e0d, kn_cell ((Kp.refl _ _).drew) sn2, kn_cell ((Kp.refl _ _).drew) e2⟩ (fun hHeld => ?_)
    obtain ⟨we, hwe⟩ : ∃ zz, zz = wd.drew := ⟨_, rfl⟩
    have KN0 : Kn wd we := by rw [hwe]; exact (Kp.refl _ _).drew
    rw [← hwe] at hHeld ⊢
    clear hwe
    refine TK 0 64 (v := ?_) rfl (fun _ _ _ h => h) (Or.inl ⟨by rfl, ?_⟩) (by assumption) ?_
    rotate_left
    ·(intro w hSw; clear hSw; go_simp; try with_reducible rfl)
    try simp only [PP]
    refine TK 1 65 (v := ?_) rfl (fun _ _ _ h => h) (Or.inl ⟨by rfl, ?_⟩) (by assumption) ?_
    rotate_left
    ·(intro w hSw; clear hSw; go_simp; try with_reducible rfl)
    try simp only [PP]
    refine TK 2 66 (v := ?_) rfl (fun _ _ _ h => h) (Or.inl ⟨by rfl, ?_⟩) (by assumption) ?_
    rotate_left
    ·(intro w hSw; clear hSw; go_simp; try with_reducible rfl)
    try simp only [PP]
    refine TK 3 67 (v := ?_) rfl (fun _ _ _ h => h) (Or.inl ⟨by rfl, ?_⟩) (by assumption) ?_
    rotate_left
    ·(intro w hSw; obtain ⟨hs1, hs2, hs3, hs4⟩ := hSw; go_simp; try with_reducible rfl)
    try simp only [PP]
    refine TK 4 68 (v := ?_) rfl (fun _ _ _ h => h) (Or.inl ⟨by rfl, ?_⟩) (by assumption) ?_
    rotate_left
    ·(intro w hSw; clear hSw; go_simp; try with_reducible rfl)
    try simp only [PP]
    refine TK 5 69 (v := ?_) rfl (fun _ _ _ h => h) (Or.inl ⟨by rfl, ?_⟩) (by assumption) ?_
    rotate_left
    ·(intro w hSw; obtain ⟨hs1, hs2, hs3, hs4⟩ := hSw; go_simp; try with_reducible rfl)
    try simp only [PP]
    refine TK 6 70 (v := ?_) rfl (fun _ _ _ h => h) (Or.inl ⟨by rfl, ?_⟩) (by assumption) ?_
    rotate_left
    ·(intro w hSw; clear hSw; go_simp; try with_reducible rfl)
    try simp only [PP]
    refine TK 7 71 (v := ?_) rfl (fun _ _ _ h => h) (Or.inl ⟨by rfl, ?_⟩) (by assumption) ?_
    rotate_left
    ·(intro w hSw; obtain ⟨hs1, hs2, hs3, hs4⟩ := hSw; go_simp; try with_reducible rfl)
    try simp only [PP]
    refine TK 8 72 (v := ?_) rfl (fun _ _ _ h => h) (Or.inl ⟨by rfl, ?_⟩) (by assumption) ?_
    rotate_left
    ·(intro w hSw; clear hSw; have ho : ¬ (9223372036854775807 : Nat) < 5 + ss.size := (by omega); go_simp; try with_reducible rfl)
    try simp only [PP]
    refine TK 9 73 (v := ?_) rfl (fun _ _ _ h => h) (Or.inl ⟨by rfl, ?_⟩) (by assumption) ?_
    rotate_left
    ·(intro w hSw; clear hSw; have ho : ¬ (9223372036854775807 : Nat) < 5 + ss.size + 1 := (by omega); go_simp; try with_reducible rfl)
    try simp only [PP]
    refine TK 10 74 (v := ?_) rfl (fun _ _ _ h => h) (Or.inl ⟨by rfl, ?_⟩) (by assumption) ?_
    rotate_left
    ·(intro w hSw; clear hSw; go_simp; try with_reducible rfl)
    try simp only [PP]
    refine TK 11 75 (v := ?_) rfl (fun _ _ _ h => h) (Or.inl ⟨by rfl, ?_⟩) (by assumption) ?_
    rotate_left
    ·(intro w hSw; obtain ⟨hs1, hs2, hs3, hs4⟩ := hSw; go_simp; try with_reducible rfl)
    try simp only [PP]
    refine TK 15 79 (v := ?_) rfl (fun _ _ _ h => h) (Or.inl ⟨by rfl, ?_⟩) (by assumption) ?_
    rotate_left
    ·(intro w hSw; clear hSw; go_simp; try with_reducible rfl)
    try simp only [PP]
    refine wpAnyH_ready (rs := [12]) (by kernel_rfl) (by simp) (AllReadyH.cons (o := Oper.mk (some 76) _ _ _ _ _) rfl (fun K hK => ?_) AllReadyH.nil)
    go_simp
    go_at_call 81
    refine (HIT.out we).mono ?_
    rintro e9 w9 ⟨rfl, hw9⟩
    rw [hw9]
    clear hw9 w9
    dsimp only
    refine hK.out _ _ hHeld (fun hHeld => ?_)
    clear hK K
    try simp only [PP]
    refine TK 13 77 (v := ?_) rfl (fun _ _ _ h => h) (Or.inl ⟨by rfl, ?_⟩) (by assumption) ?_
    rotate_left
    ·(intro w hSw; clear hSw; have ho : ¬ (9223372036854775807 : Nat) < 5 + ss.size + 1 + t.size := (by omega); go_simp; try with_reducible rfl)
    try simp only [PP]
    refine TK 14 78 (v := ?_) rfl (fun _ _ _ h => h) (Or.inl ⟨by rfl, ?_⟩) (by assumption) ?_
    rotate_left
    ·(intro w hSw; clear hSw; have ho : ¬ (9223372036854775807 : Nat) < 5 + ss.size + 1 + t.size + 1 := (by omega); go_simp; try with_reducible rfl)
    try simp only [PP]
    refine TK 16 80 (v := ?_) rfl (fun _ _ _ h => h) (Or.inl ⟨by rfl, ?_⟩) (by assumption) ?_
    rotate_left
    ·(intro w hSw; clear hSw; have ho : ¬ (9223372036854775807 : Nat) < 5 + ss.size + 1 + t.size + 1 + r.cons.size := (by omega); go_simp; try with_reducible rfl)
    try simp only [PP]
    refine TK 17 81 (v := ?_) rfl (fun _ _ _ h => h) (Or.inl ⟨by rfl, ?_⟩) (by assumption) ?_
    rotate_left
    ·(intro w hSw; clear hSw; have ho : ¬ (9223372036854775807 : Nat) < 5 + ss.size + 1 + t.size + 1 + r.cons.size + 2 := (by omega); go_simp; try with_reducible rfl)
    try simp only [PP]
    refine TK 18 9 (v := ?_) rfl (fun _ _ _ h => h) (Or.inl ⟨by rfl, ?_⟩) (by assumption) ?_
    rotate_left
    ·(intro w hSw; clear hSw; go_simp; try with_reducible rfl)
    try simp only [PP]
    refine wpAnyH_done (by kernel_rfl) ?_ _
    have e3e := kn_cell KN0 e3
    have HK3 := Lib.hid (HK2.out.trans KN0)
    obtain ⟨hd, hhd⟩ : ∃ hd : ByteArray, hd = (((((⟨#[114, 117, 108, 101, 32]⟩ : ByteArray) ++ ss) ++ ⟨#[32]⟩) ++ t) ++ ⟨#[32]⟩ ++ r.cons) ++ ⟨#[32, 61]⟩ := ⟨_, rfl⟩
    have HHD : Hid (ruleHead R r = hd) := Lib.hid (by rw [hhd]; exact HRH2.out)
    have hhs : hd.size ≤ 60 := by
     rw [hhd]
     simp only [ByteArray.size_append]
     have a1 : (⟨#[114, 117, 108, 101, 32]⟩ : ByteArray).size = 5 := rfl
     have a2 : (⟨#[32]⟩ : ByteArray).size = 1 := rfl
     have a3 : (⟨#[32, 61]⟩ : ByteArray).size = 2 := rfl
     have a4 : (⟨#[45]⟩ : ByteArray).size = 1 := rfl
     omega
    rw [← hhd]
    clear hHeld e0d e2 e3 s2 sn2 hhd KN0 hkd
    go_wp2_with fail
    go_loopw [9, 85] (fun s9 s85 wr => ∃ (k : Nat) (acc : ByteArray), s9 = .string acc ∧ s85 = .int .i64 k ∧ k ≤ r.parts.length ∧ Hid (acc = partsS R hd (r.parts.take k)) ∧ acc.size ≤ 60 + 31 * k ∧ Kn w wr) (fun _ s85 _ => r.parts.length - (intOf s85).toNat)
    case atStart => exact ⟨0, hd, rfl, rfl, Nat.zero_le _, Lib.hid (by rw [List.take_zero]; rfl), by omega, HK3.out⟩
    case round =>
     obtain ⟨k, acc, rfl, rfl, hk, hac, hsz, hkn⟩ := hrel
     by_cases hlt : k < r.parts.length
     ·obtain ⟨gp, hap, m0, m1, m2, m3⟩ := HCP.out k hlt
      subst hap
      have HC0 := Lib.hid (fun W hk => HPC.out W hk r.parts[k] (List.getElem_mem hlt))
      have hl0 := HPL.out r.parts[k] (List.getElem_mem hlt)
      obtain ⟨x0, hx0⟩ : ∃ x, x = r.parts[k] := ⟨_, rfl⟩
      have HX0 := Lib.hid hx0
      rw [← hx0] at m0 m1 m2 m3 HC0 hl0
      obtain ⟨t0, ht0⟩ : ∃ t, t = partS R x0 := ⟨_, rfl⟩
      have HT0 := Lib.hid ht0
      rw [← ht0] at HC0 hl0
      have n0 := kn_cell hkn m0
      have n1 := kn_cell hkn m1
      have n2 := kn_cell hkn m2
      have n3 := kn_cell hkn m3
      have hka : Kn w (wr.alloc (.cells #[.int .i64 x0.cls, .int .i64 x0.sort, .int .i64 x0.level, .bool x0.fixed] TPa)) := hkn.alloc _
      have HC1 := Lib.hid (HC0.out _ hka)
      have HA := Lib.hid hka
      have ho1 : ¬ (9223372036854775807 : Nat) < 1 + t0.size := by omega
      have ho2 : ¬ (9223372036854775807 : Nat) < acc.size + (1 + t0.size) := by omega
      have HSN : Hid (acc ++ ((⟨#[32]⟩ : ByteArray) ++ t0) = partsS R hd (r.parts.take (k + 1))) := Lib.hid (by
       rw [List.take_succ_eq_append_getElem hlt]
       unfold partsS
       rw [List.foldl_append, ← HX0.out]
       show _ = List.foldl _ hd (r.parts.take k) ++ ((⟨#[32]⟩ : ByteArray) ++ partS R x0)
       rw [← HT0.out, hac.out]; rfl)
      have hsn : (acc ++ ((⟨#[32]⟩ : ByteArray) ++ t0)).size ≤ 60 + 31 * (k + 1) := by
       simp only [ByteArray.size_append]
       have a2 : (⟨#[32]⟩ : ByteArray).size = 1 := rfl
       omega
      have HSZN := Lib.hid hsn
      clear m0 m1 m2 m3 hx0 ht0 HC0 hka hsn
      go_wp2_with fail
      refine HC1.out.mono ?_
      rintro e9 w6 ⟨rfl, hk6⟩
      have hkn6 := HA.out.trans hk6
      go_wp2_with fail
      go_roundw
      case rel => exact ⟨k + 1, _, rfl, by go_num, by omega, HSN, HSZN.out, hkn6⟩
      case measure => simp [intOf]; omega
     ·obtain rfl : k = r.parts.length := by omega
      have hfin := hac.out
      rw [List.take_length] at hfin
      have HFI : Hid (ruleS R br r i = acc) := Lib.hid (by rw [HS2.out, HHD.out]; exact hfin.symm)
      clear hfin
      go_wp2_with fail
      go_ret
      exact ⟨by rw [HFI.out]; rfl, hkn⟩
  | true =>
   have hz0 : ¬ zz = i := by simpa using hl1
   have i1 : ((zz : Int) == (i : Int)) = false := by rw [beq_eq_false_iff_ne]; omega
   have i2 : ¬ (zz : Int) = (i : Int) := by omega
   clear hl1 hz0
   by_cases hc0 : r.cons.size = 0
   ·have iec := isE_true hc0
    have HRH2 : Hid (ruleHead R r = (((((⟨#[114, 117, 108, 101, 32]⟩ : ByteArray) ++ ss) ++ ⟨#[32]⟩) ++ t) ++ ⟨#[32]⟩ ++ ⟨#[45]⟩) ++ ⟨#[32, 61]⟩) := Lib.hid (by rw [HRH.out, if_pos hc0])
    clear hc0 HRH
    go_upto_region 8 with fail
    refine wp_region_held_drew (S := fun w' => w'.cell? ⟨p, 2, none⟩ = some (.slice (some ⟨gs, 0, none⟩) R.sorts.length cs) ∧ w'.cell? ⟨b5, 0, none⟩ = some (.int .i64 sn) ∧ w'.cell? ⟨gs, sn, none⟩ = some (.string ss) ∧ w'.cell? ⟨b5, 2, none⟩ = some (.int .i64 r.level)) (by kernel_rfl) ⟨kn_cell ((Kp.refl _ _).drew) s2, kn_cell ((Kp.refl _ _).drew) e0d, kn_cell ((Kp.refl _ _).drew) sn2, kn_cell ((Kp.refl _ _).drew) e2⟩ (fun hHeld => ?_)
    obtain ⟨we, hwe⟩ : ∃ zz, zz = wd.drew := ⟨_, rfl⟩
    have KN0 : Kn wd we := by rw [hwe]; exact (Kp.refl _ _).drew
    rw [← hwe] at hHeld ⊢
    clear hwe
    refine TK 0 64 (v := ?_) rfl (fun _ _ _ h => h) (Or.inl ⟨by rfl, ?_⟩) (by assumption) ?_
    rotate_left
    ·(intro w hSw; clear hSw; go_simp; try with_reducible rfl)
    try simp only [PP]
    refine TK 1 65 (v := ?_) rfl (fun _ _ _ h => h) (Or.inl ⟨by rfl, ?_⟩) (by assumption) ?_
    rotate_left
    ·(intro w hSw; clear hSw; go_simp; try with_reducible rfl)
    try simp only [PP]
    refine TK 2 66 (v := ?_) rfl (fun _ _ _ h => h) (Or.inl ⟨by rfl, ?_⟩) (by assumption) ?_
    rotate_left
    ·(intro w hSw; clear hSw; go_simp; try with_reducible rfl)
    try simp only [PP]
    refine TK 3 67 (v := ?_) rfl (fun _ _ _ h => h) (Or.inl ⟨by rfl, ?_⟩) (by assumption) ?_
    rotate_left
    ·(intro w hSw; obtain ⟨hs1, hs2, hs3, hs4⟩ := hSw; go_simp; try with_reducible rfl)
    try simp only [PP]
    refine TK 4 68 (v := ?_) rfl (fun _ _ _ h => h) (Or.inl ⟨by rfl, ?_⟩) (by assumption) ?_
    rotate_left
    ·(intro w hSw; clear hSw; go_simp; try with_reducible rfl)
    try simp only [PP]
    refine TK 5 69 (v := ?_) rfl (fun _ _ _ h => h) (Or.inl ⟨by rfl, ?_⟩) (by assumption) ?_
    rotate_left
    ·(intro w hSw; obtain ⟨hs1, hs2, hs3, hs4⟩ := hSw; go_simp; try with_reducible rfl)
    try simp only [PP]
    refine TK 6 70 (v := ?_) rfl (fun _ _ _ h => h) (Or.inl ⟨by rfl, ?_⟩) (by assumption) ?_
    rotate_left
    ·(intro w hSw; clear hSw; go_simp; try with_reducible rfl)
    try simp only [PP]
    refine TK 7 71 (v := ?_) rfl (fun _ _ _ h => h) (Or.inl ⟨by rfl, ?_⟩) (by assumption) ?_
    rotate_left
    ·(intro w hSw; obtain ⟨hs1, hs2, hs3, hs4⟩ := hSw; go_simp; try with_reducible rfl)
    try simp only [PP]
    refine TK 8 72 (v := ?_) rfl (fun _ _ _ h => h) (Or.inl ⟨by rfl, ?_⟩) (by assumption) ?_
    rotate_left
    ·(intro w hSw; clear hSw; have ho : ¬ (9223372036854775807 : Nat) < 5 + ss.size := (by omega); go_simp; try with_reducible rfl)
    try simp only [PP]
    refine TK 9 73 (v := ?_) rfl (fun _ _ _ h => h) (Or.inl ⟨by rfl, ?_⟩) (by assumption) ?_
    rotate_left
    ·(intro w hSw; clear hSw; have ho : ¬ (9223372036854775807 : Nat) < 5 + ss.size + 1 := (by omega); go_simp; try with_reducible rfl)
    try simp only [PP]
    refine TK 10 74 (v := ?_) rfl (fun _ _ _ h => h) (Or.inl ⟨by rfl, ?_⟩) (by assumption) ?_
    rotate_left
    ·(intro w hSw; clear hSw; go_simp; try with_reducible rfl)
    try simp only [PP]
    refine TK 11 75 (v := ?_) rfl (fun _ _ _ h => h) (Or.inl ⟨by rfl, ?_⟩) (by assumption) ?_
    rotate_left
    ·(intro w hSw; obtain ⟨hs1, hs2, hs3, hs4⟩ := hSw; go_simp; try with_reducible rfl)
    try simp only [PP]
    refine TK 15 79 (v := ?_) rfl (fun _ _ _ h => h) (Or.inl ⟨by rfl, ?_⟩) (by assumption) ?_
    rotate_left
    ·(intro w hSw; clear hSw; go_simp; try with_reducible rfl)
    try simp only [PP]
    refine wpAnyH_ready (rs := [12]) (by kernel_rfl) (by simp) (AllReadyH.cons (o := Oper.mk (some 76) _ _ _ _ _) rfl (fun K hK => ?_) AllReadyH.nil)
    go_simp
    go_at_call 81
    refine (HIT.out we).mono ?_
    rintro e9 w9 ⟨rfl, hw9⟩
    rw [hw9]
    clear hw9 w9
    dsimp only
    refine hK.out _ _ hHeld (fun hHeld => ?_)
    clear hK K
    try simp only [PP]
    refine TK 13 77 (v := ?_) rfl (fun _ _ _ h => h) (Or.inl ⟨by rfl, ?_⟩) (by assumption) ?_
    rotate_left
    ·(intro w hSw; clear hSw; have ho : ¬ (9223372036854775807 : Nat) < 5 + ss.size + 1 + t.size := (by omega); go_simp; try with_reducible rfl)
    try simp only [PP]
    refine TK 14 78 (v := ?_) rfl (fun _ _ _ h => h) (Or.inl ⟨by rfl, ?_⟩) (by assumption) ?_
    rotate_left
    ·(intro w hSw; clear hSw; have ho : ¬ (9223372036854775807 : Nat) < 5 + ss.size + 1 + t.size + 1 := (by omega); go_simp; try with_reducible rfl)
    try simp only [PP]
    refine TK 16 80 (v := ?_) rfl (fun _ _ _ h => h) (Or.inl ⟨by rfl, ?_⟩) (by assumption) ?_
    rotate_left
    ·(intro w hSw; clear hSw; have ho : ¬ (9223372036854775807 : Nat) < 5 + ss.size + 1 + t.size + 1 + 1 := (by omega); go_simp; try with_reducible rfl)
    try simp only [PP]
    refine TK 17 81 (v := ?_) rfl (fun _ _ _ h => h) (Or.inl ⟨by rfl, ?_⟩) (by assumption) ?_
    rotate_left
    ·(intro w hSw; clear hSw; have ho : ¬ (9223372036854775807 : Nat) < 5 + ss.size + 1 + t.size + 1 + 1 + 2 := (by omega); go_simp; try with_reducible rfl)
    try simp only [PP]
    refine TK 18 9 (v := ?_) rfl (fun _ _ _ h => h) (Or.inl ⟨by rfl, ?_⟩) (by assumption) ?_
    rotate_left
    ·(intro w hSw; clear hSw; go_simp; try with_reducible rfl)
    try simp only [PP]
    refine wpAnyH_done (by kernel_rfl) ?_ _
    have e3e := kn_cell KN0 e3
    have HK3 := Lib.hid (HK2.out.trans KN0)
    obtain ⟨hd, hhd⟩ : ∃ hd : ByteArray, hd = (((((⟨#[114, 117, 108, 101, 32]⟩ : ByteArray) ++ ss) ++ ⟨#[32]⟩) ++ t) ++ ⟨#[32]⟩ ++ ⟨#[45]⟩) ++ ⟨#[32, 61]⟩ := ⟨_, rfl⟩
    have HHD : Hid (ruleHead R r = hd) := Lib.hid (by rw [hhd]; exact HRH2.out)
    have hhs : hd.size ≤ 60 := by
     rw [hhd]
     simp only [ByteArray.size_append]
     have a1 : (⟨#[114, 117, 108, 101, 32]⟩ : ByteArray).size = 5 := rfl
     have a2 : (⟨#[32]⟩ : ByteArray).size = 1 := rfl
     have a3 : (⟨#[32, 61]⟩ : ByteArray).size = 2 := rfl
     have a4 : (⟨#[45]⟩ : ByteArray).size = 1 := rfl
     omega
    rw [← hhd]
    clear hHeld e0d e2 e3 s2 sn2 hhd KN0 hkd
    go_wp2_with fail
    go_loopw [9, 85] (fun s9 s85 wr => ∃ (k : Nat) (acc : ByteArray), s9 = .string acc ∧ s85 = .int .i64 k ∧ k ≤ r.parts.length ∧ Hid (acc = partsS R hd (r.parts.take k)) ∧ acc.size ≤ 60 + 31 * k ∧ Kn w wr) (fun _ s85 _ => r.parts.length - (intOf s85).toNat)
    case atStart => exact ⟨0, hd, rfl, rfl, Nat.zero_le _, Lib.hid (by rw [List.take_zero]; rfl), by omega, HK3.out⟩
    case round =>
     obtain ⟨k, acc, rfl, rfl, hk, hac, hsz, hkn⟩ := hrel
     by_cases hlt : k < r.parts.length
     ·obtain ⟨gp, hap, m0, m1, m2, m3⟩ := HCP.out k hlt
      subst hap
      have HC0 := Lib.hid (fun W hk => HPC.out W hk r.parts[k] (List.getElem_mem hlt))
      have hl0 := HPL.out r.parts[k] (List.getElem_mem hlt)
      obtain ⟨x0, hx0⟩ : ∃ x, x = r.parts[k] := ⟨_, rfl⟩
      have HX0 := Lib.hid hx0
      rw [← hx0] at m0 m1 m2 m3 HC0 hl0
      obtain ⟨t0, ht0⟩ : ∃ t, t = partS R x0 := ⟨_, rfl⟩
      have HT0 := Lib.hid ht0
      rw [← ht0] at HC0 hl0
      have n0 := kn_cell hkn m0
      have n1 := kn_cell hkn m1
      have n2 := kn_cell hkn m2
      have n3 := kn_cell hkn m3
      have hka : Kn w (wr.alloc (.cells #[.int .i64 x0.cls, .int .i64 x0.sort, .int .i64 x0.level, .bool x0.fixed] TPa)) := hkn.alloc _
      have HC1 := Lib.hid (HC0.out _ hka)
      have HA := Lib.hid hka
      have ho1 : ¬ (9223372036854775807 : Nat) < 1 + t0.size := by omega
      have ho2 : ¬ (9223372036854775807 : Nat) < acc.size + (1 + t0.size) := by omega
      have HSN : Hid (acc ++ ((⟨#[32]⟩ : ByteArray) ++ t0) = partsS R hd (r.parts.take (k + 1))) := Lib.hid (by
       rw [List.take_succ_eq_append_getElem hlt]
       unfold partsS
       rw [List.foldl_append, ← HX0.out]
       show _ = List.foldl _ hd (r.parts.take k) ++ ((⟨#[32]⟩ : ByteArray) ++ partS R x0)
       rw [← HT0.out, hac.out]; rfl)
      have hsn : (acc ++ ((⟨#[32]⟩ : ByteArray) ++ t0)).size ≤ 60 + 31 * (k + 1) := by
       simp only [ByteArray.size_append]
       have a2 : (⟨#[32]⟩ : ByteArray).size = 1 := rfl
       omega
      have HSZN := Lib.hid hsn
      clear m0 m1 m2 m3 hx0 ht0 HC0 hka hsn
      go_wp2_with fail
      refine HC1.out.mono ?_
      rintro e9 w6 ⟨rfl, hk6⟩
      have hkn6 := HA.out.trans hk6
      go_wp2_with fail
      go_roundw
      case rel => exact ⟨k + 1, _, rfl, by go_num, by omega, HSN, HSZN.out, hkn6⟩
      case measure => simp [intOf]; omega
     ·obtain rfl : k = r.parts.length := by omega
      have hfin := hac.out
      rw [List.take_length] at hfin
      have HFI : Hid (ruleS R br r i = acc) := Lib.hid (by rw [HS2.out, HHD.out]; exact hfin.symm)
      clear hfin
      go_wp2_with fail
      go_ret
      exact ⟨by rw [HFI.out]; rfl, hkn⟩
   ·have iec := isE_false hc0
    have HRH2 : Hid (ruleHead R r = (((((⟨#[114, 117, 108, 101, 32]⟩ : ByteArray) ++ ss) ++ ⟨#[32]⟩) ++ t) ++ ⟨#[32]⟩ ++ r.cons) ++ ⟨#[32, 61]⟩) := Lib.hid (by rw [HRH.out, if_neg hc0])
    clear hc0 HRH
    go_upto_region 8 with fail
    refine wp_region_held_drew (S := fun w' => w'.cell? ⟨p, 2, none⟩ = some (.slice (some ⟨gs, 0, none⟩) R.sorts.length cs) ∧ w'.cell? ⟨b5, 0, none⟩ = some (.int .i64 sn) ∧ w'.cell? ⟨gs, sn, none⟩ = some (.string ss) ∧ w'.cell? ⟨b5, 2, none⟩ = some (.int .i64 r.level)) (by kernel_rfl) ⟨kn_cell ((Kp.refl _ _).drew) s2, kn_cell ((Kp.refl _ _).drew) e0d, kn_cell ((Kp.refl _ _).drew) sn2, kn_cell ((Kp.refl _ _).drew) e2⟩ (fun hHeld => ?_)
    obtain ⟨we, hwe⟩ : ∃ zz, zz = wd.drew := ⟨_, rfl⟩
    have KN0 : Kn wd we := by rw [hwe]; exact (Kp.refl _ _).drew
    rw [← hwe] at hHeld ⊢
    clear hwe
    refine TK 0 64 (v := ?_) rfl (fun _ _ _ h => h) (Or.inl ⟨by rfl, ?_⟩) (by assumption) ?_
    rotate_left
    ·(intro w hSw; clear hSw; go_simp; try with_reducible rfl)
    try simp only [PP]
    refine TK 1 65 (v := ?_) rfl (fun _ _ _ h => h) (Or.inl ⟨by rfl, ?_⟩) (by assumption) ?_
    rotate_left
    ·(intro w hSw; clear hSw; go_simp; try with_reducible rfl)
    try simp only [PP]
    refine TK 2 66 (v := ?_) rfl (fun _ _ _ h => h) (Or.inl ⟨by rfl, ?_⟩) (by assumption) ?_
    rotate_left
    ·(intro w hSw; clear hSw; go_simp; try with_reducible rfl)
    try simp only [PP]
    refine TK 3 67 (v := ?_) rfl (fun _ _ _ h => h) (Or.inl ⟨by rfl, ?_⟩) (by assumption) ?_
    rotate_left
    ·(intro w hSw; obtain ⟨hs1, hs2, hs3, hs4⟩ := hSw; go_simp; try with_reducible rfl)
    try simp only [PP]
    refine TK 4 68 (v := ?_) rfl (fun _ _ _ h => h) (Or.inl ⟨by rfl, ?_⟩) (by assumption) ?_
    rotate_left
    ·(intro w hSw; clear hSw; go_simp; try with_reducible rfl)
    try simp only [PP]
    refine TK 5 69 (v := ?_) rfl (fun _ _ _ h => h) (Or.inl ⟨by rfl, ?_⟩) (by assumption) ?_
    rotate_left
    ·(intro w hSw; obtain ⟨hs1, hs2, hs3, hs4⟩ := hSw; go_simp; try with_reducible rfl)
    try simp only [PP]
    refine TK 6 70 (v := ?_) rfl (fun _ _ _ h => h) (Or.inl ⟨by rfl, ?_⟩) (by assumption) ?_
    rotate_left
    ·(intro w hSw; clear hSw; go_simp; try with_reducible rfl)
    try simp only [PP]
    refine TK 7 71 (v := ?_) rfl (fun _ _ _ h => h) (Or.inl ⟨by rfl, ?_⟩) (by assumption) ?_
    rotate_left
    ·(intro w hSw; obtain ⟨hs1, hs2, hs3, hs4⟩ := hSw; go_simp; try with_reducible rfl)
    try simp only [PP]
    refine TK 8 72 (v := ?_) rfl (fun _ _ _ h => h) (Or.inl ⟨by rfl, ?_⟩) (by assumption) ?_
    rotate_left
    ·(intro w hSw; clear hSw; have ho : ¬ (9223372036854775807 : Nat) < 5 + ss.size := (by omega); go_simp; try with_reducible rfl)
    try simp only [PP]
    refine TK 9 73 (v := ?_) rfl (fun _ _ _ h => h) (Or.inl ⟨by rfl, ?_⟩) (by assumption) ?_
    rotate_left
    ·(intro w hSw; clear hSw; have ho : ¬ (9223372036854775807 : Nat) < 5 + ss.size + 1 := (by omega); go_simp; try with_reducible rfl)
    try simp only [PP]
    refine TK 10 74 (v := ?_) rfl (fun _ _ _ h => h) (Or.inl ⟨by rfl, ?_⟩) (by assumption) ?_
    rotate_left
    ·(intro w hSw; clear hSw; go_simp; try with_reducible rfl)
    try simp only [PP]
    refine TK 11 75 (v := ?_) rfl (fun _ _ _ h => h) (Or.inl ⟨by rfl, ?_⟩) (by assumption) ?_
    rotate_left
    ·(intro w hSw; obtain ⟨hs1, hs2, hs3, hs4⟩ := hSw; go_simp; try with_reducible rfl)
    try simp only [PP]
    refine TK 15 79 (v := ?_) rfl (fun _ _ _ h => h) (Or.inl ⟨by rfl, ?_⟩) (by assumption) ?_
    rotate_left
    ·(intro w hSw; clear hSw; go_simp; try with_reducible rfl)
    try simp only [PP]
    refine wpAnyH_ready (rs := [12]) (by kernel_rfl) (by simp) (AllReadyH.cons (o := Oper.mk (some 76) _ _ _ _ _) rfl (fun K hK => ?_) AllReadyH.nil)
    go_simp
    go_at_call 81
    refine (HIT.out we).mono ?_
    rintro e9 w9 ⟨rfl, hw9⟩
    rw [hw9]
    clear hw9 w9
    dsimp only
    refine hK.out _ _ hHeld (fun hHeld => ?_)
    clear hK K
    try simp only [PP]
    refine TK 13 77 (v := ?_) rfl (fun _ _ _ h => h) (Or.inl ⟨by rfl, ?_⟩) (by assumption) ?_
    rotate_left
    ·(intro w hSw; clear hSw; have ho : ¬ (9223372036854775807 : Nat) < 5 + ss.size + 1 + t.size := (by omega); go_simp; try with_reducible rfl)
    try simp only [PP]
    refine TK 14 78 (v := ?_) rfl (fun _ _ _ h => h) (Or.inl ⟨by rfl, ?_⟩) (by assumption) ?_
    rotate_left
    ·(intro w hSw; clear hSw; have ho : ¬ (9223372036854775807 : Nat) < 5 + ss.size + 1 + t.size + 1 := (by omega); go_simp; try with_reducible rfl)
    try simp only [PP]
    refine TK 16 80 (v := ?_) rfl (fun _ _ _ h => h) (Or.inl ⟨by rfl, ?_⟩) (by assumption) ?_
    rotate_left
    ·(intro w hSw; clear hSw; have ho : ¬ (9223372036854775807 : Nat) < 5 + ss.size + 1 + t.size + 1 + r.cons.size := (by omega); go_simp; try with_reducible rfl)
    try simp only [PP]
    refine TK 17 81 (v := ?_) rfl (fun _ _ _ h => h) (Or.inl ⟨by rfl, ?_⟩) (by assumption) ?_
    rotate_left
    ·(intro w hSw; clear hSw; have ho : ¬ (9223372036854775807 : Nat) < 5 + ss.size + 1 + t.size + 1 + r.cons.size + 2 := (by omega); go_simp; try with_reducible rfl)
    try simp only [PP]
    refine TK 18 9 (v := ?_) rfl (fun _ _ _ h => h) (Or.inl ⟨by rfl, ?_⟩) (by assumption) ?_
    rotate_left
    ·(intro w hSw; clear hSw; go_simp; try with_reducible rfl)
    try simp only [PP]
    refine wpAnyH_done (by kernel_rfl) ?_ _
    have e3e := kn_cell KN0 e3
    have HK3 := Lib.hid (HK2.out.trans KN0)
    obtain ⟨hd, hhd⟩ : ∃ hd : ByteArray, hd = (((((⟨#[114, 117, 108, 101, 32]⟩ : ByteArray) ++ ss) ++ ⟨#[32]⟩) ++ t) ++ ⟨#[32]⟩ ++ r.cons) ++ ⟨#[32, 61]⟩ := ⟨_, rfl⟩
    have HHD : Hid (ruleHead R r = hd) := Lib.hid (by rw [hhd]; exact HRH2.out)
    have hhs : hd.size ≤ 60 := by
     rw [hhd]
     simp only [ByteArray.size_append]
     have a1 : (⟨#[114, 117, 108, 101, 32]⟩ : ByteArray).size = 5 := rfl
     have a2 : (⟨#[32]⟩ : ByteArray).size = 1 := rfl
     have a3 : (⟨#[32, 61]⟩ : ByteArray).size = 2 := rfl
     have a4 : (⟨#[45]⟩ : ByteArray).size = 1 := rfl
     omega
    rw [← hhd]
    clear hHeld e0d e2 e3 s2 sn2 hhd KN0 hkd
    go_wp2_with fail
    go_loopw [9, 85] (fun s9 s85 wr => ∃ (k : Nat) (acc : ByteArray), s9 = .string acc ∧ s85 = .int .i64 k ∧ k ≤ r.parts.length ∧ Hid (acc = partsS R hd (r.parts.take k)) ∧ acc.size ≤ 60 + 31 * k ∧ Kn w wr) (fun _ s85 _ => r.parts.length - (intOf s85).toNat)
    case atStart => exact ⟨0, hd, rfl, rfl, Nat.zero_le _, Lib.hid (by rw [List.take_zero]; rfl), by omega, HK3.out⟩
    case round =>
     obtain ⟨k, acc, rfl, rfl, hk, hac, hsz, hkn⟩ := hrel
     by_cases hlt : k < r.parts.length
     ·obtain ⟨gp, hap, m0, m1, m2, m3⟩ := HCP.out k hlt
      subst hap
      have HC0 := Lib.hid (fun W hk => HPC.out W hk r.parts[k] (List.getElem_mem hlt))
      have hl0 := HPL.out r.parts[k] (List.getElem_mem hlt)
      obtain ⟨x0, hx0⟩ : ∃ x, x = r.parts[k] := ⟨_, rfl⟩
      have HX0 := Lib.hid hx0
      rw [← hx0] at m0 m1 m2 m3 HC0 hl0
      obtain ⟨t0, ht0⟩ : ∃ t, t = partS R x0 := ⟨_, rfl⟩
      have HT0 := Lib.hid ht0
      rw [← ht0] at HC0 hl0
      have n0 := kn_cell hkn m0
      have n1 := kn_cell hkn m1
      have n2 := kn_cell hkn m2
      have n3 := kn_cell hkn m3
      have hka : Kn w (wr.alloc (.cells #[.int .i64 x0.cls, .int .i64 x0.sort, .int .i64 x0.level, .bool x0.fixed] TPa)) := hkn.alloc _
      have HC1 := Lib.hid (HC0.out _ hka)
      have HA := Lib.hid hka
      have ho1 : ¬ (9223372036854775807 : Nat) < 1 + t0.size := by omega
      have ho2 : ¬ (9223372036854775807 : Nat) < acc.size + (1 + t0.size) := by omega
      have HSN : Hid (acc ++ ((⟨#[32]⟩ : ByteArray) ++ t0) = partsS R hd (r.parts.take (k + 1))) := Lib.hid (by
       rw [List.take_succ_eq_append_getElem hlt]
       unfold partsS
       rw [List.foldl_append, ← HX0.out]
       show _ = List.foldl _ hd (r.parts.take k) ++ ((⟨#[32]⟩ : ByteArray) ++ partS R x0)
       rw [← HT0.out, hac.out]; rfl)
      have hsn : (acc ++ ((⟨#[32]⟩ : ByteArray) ++ t0)).size ≤ 60 + 31 * (k + 1) := by
       simp only [ByteArray.size_append]
       have a2 : (⟨#[32]⟩ : ByteArray).size = 1 := rfl
       omega
      have HSZN := Lib.hid hsn
      clear m0 m1 m2 m3 hx0 ht0 HC0 hka hsn
      go_wp2_with fail
      refine HC1.out.mono ?_
      rintro e9 w6 ⟨rfl, hk6⟩
      have hkn6 := HA.out.trans hk6
      go_wp2_with fail
      go_roundw
      case rel => exact ⟨k + 1, _, rfl, by go_num, by omega, HSN, HSZN.out, hkn6⟩
      case measure => simp [intOf]; omega
     ·obtain rfl : k = r.parts.length := by omega
      have hfin := hac.out
      rw [List.take_length] at hfin
      have HFI : Hid (ruleS R br r i = acc) := Lib.hid (by rw [HS2.out, HHD.out]; exact hfin.symm)
      clear hfin
      go_wp2_with fail
      go_ret
      exact ⟨by rw [HFI.out]; rfl, hkn⟩
end Go.Proofs.YtopmadkajacniaaGreatDoor
namespace Go.Proofs.YtopmadkajacniaaGreatDoor
open Go.Shelf Go.RowKit Go.Maps
def clsLine (c : GC) : ByteArray := ((((if c.layout = true then ⟨#[108, 97, 121, 111, 117, 116, 32]⟩ else ⟨#[116, 111, 107, 101, 110, 32]⟩ : ByteArray) ++ c.name) ++ ⟨#[32]⟩) ++ c.regex) ++ ⟨#[10]⟩
def sortLine (s : ByteArray) : ByteArray := ((⟨#[115, 111, 114, 116, 32]⟩ : ByteArray) ++ s) ++ ⟨#[10]⟩
def ruleLine (R : RS) (br : List (Nat × Nat)) (r : GR) (i : Nat) : ByteArray := ruleS R br r i ++ ⟨#[10]⟩
def bl (s : ByteArray) : List UInt8 := s.data.toList
def prCls (R : RS) (k : Nat) : List UInt8 := (R.cls.take k).flatMap (fun c => bl (clsLine c))
def prSort (R : RS) (k : Nat) : List UInt8 := (R.sorts.take k).flatMap (fun s => bl (sortLine s))
def prRule (R : RS) (br : List (Nat × Nat)) (rs : List GR) (k : Nat) : List UInt8 := (rs.zipIdx.take k).flatMap (fun p => bl (ruleLine R br p.1 p.2))
def printL (R : RS) (br : List (Nat × Nat)) (rs : List GR) : List UInt8 := prCls R R.cls.length ++ prSort R R.sorts.length ++ prRule R br rs rs.length
theorem prCls_succ {R : RS} {k : Nat} (h : k < R.cls.length) : prCls R (k + 1) = prCls R k ++ bl (clsLine R.cls[k]) := by
 unfold prCls; rw [List.take_succ_eq_append_getElem h, List.flatMap_append]; simp
theorem prSort_succ {R : RS} {k : Nat} (h : k < R.sorts.length) : prSort R (k + 1) = prSort R k ++ bl (sortLine R.sorts[k]) := by
 unfold prSort; rw [List.take_succ_eq_append_getElem h, List.flatMap_append]; simp
theorem prRule_succ {R : RS} {br : List (Nat × Nat)} {rs : List GR} {k : Nat} (h : k < rs.length) : prRule R br rs (k + 1) = prRule R br rs k ++ bl (ruleLine R br rs[k] k) := by
 unfold prRule; rw [List.take_succ_eq_append_getElem (by simpa using h), List.flatMap_append]; simp
theorem strCells_bl (s : ByteArray) : Lib.strCells s = Lib.byteCells (bl s) := rfl
theorem bc_app (a b : List UInt8) : Lib.byteCells (a ++ b) = Lib.byteCells a ++ Lib.byteCells b := by simp [Lib.byteCells]
theorem ruleS_le {R : RS} {br : List (Nat × Nat)} {r : GR} {i : Nat} (hsz : SzOk R = true) (hr : RuOk R br r i = true) : (ruleS R br r i).size ≤ 1000 := by
 unfold RuOk at hr
 simp only [Bool.and_eq_true, decide_eq_true_eq, List.all_eq_true] at hr
 obtain ⟨⟨⟨⟨⟨hrs, hrl⟩, hrc⟩, hrp⟩, hra⟩, hrb⟩ := hr
 have hs : (R.sorts.getD r.sort ⟨#[]⟩).size ≤ 20 := by
  rw [getD_at _ _ hrs]
  unfold SzOk at hsz
  simp only [Bool.and_eq_true, List.all_eq_true, decide_eq_true_eq] at hsz
  exact hsz.1.1 _ (List.getElem_mem hrs)
 have a1 : (⟨#[114, 117, 108, 101, 32]⟩ : ByteArray).size = 5 := rfl
 have a2 : (⟨#[32]⟩ : ByteArray).size = 1 := rfl
 have a3 : (⟨#[32, 61]⟩ : ByteArray).size = 2 := rfl
 have a4 : (⟨#[45]⟩ : ByteArray).size = 1 := rfl
 have a5 : (⟨#[98, 114, 97, 99, 107, 101, 116, 32]⟩ : ByteArray).size = 8 := rfl
 unfold ruleS
 split
 ·rename_i hb
  have hp3 : r.parts.length = 3 := by rw [hb] at hrb; simpa using hrb
  rw [getD_at _ _ (show 0 < r.parts.length by omega), getD_at _ _ (show 2 < r.parts.length by omega)]
  have h0 := partS_le hsz (hra _ (List.getElem_mem (show 0 < r.parts.length by omega)))
  have h2 := partS_le hsz (hra _ (List.getElem_mem (show 2 < r.parts.length by omega)))
  simp only [ByteArray.size_append]; omega
 ·have hh : (ruleHead R r).size ≤ 60 := by
   unfold ruleHead
   have hd := decS_le r.level (by omega)
   split <;> (simp only [ByteArray.size_append]; omega)
  have key : ∀ (ps : List GP) (acc : ByteArray), (∀ q ∈ ps, PaOk R q = true) → (partsS R acc ps).size ≤ acc.size + 31 * ps.length := by
   intro ps
   induction ps with
   | nil => intro acc _; simp [partsS]
   | cons q ps ih =>
    intro acc hq
    have h1 := ih (acc ++ ((⟨#[32]⟩ : ByteArray) ++ partS R q)) (fun x hx => hq x (List.mem_cons_of_mem _ hx))
    have h2 := partS_le hsz (hq q List.mem_cons_self)
    show (partsS R (acc ++ ((⟨#[32]⟩ : ByteArray) ++ partS R q)) ps).size ≤ _
    simp only [ByteArray.size_append] at h1
    rw [List.length_cons]; omega
  have := key r.parts (ruleHead R r) hra
  omega
def PrOk (R : RS) (br : List (Nat × Nat)) (rs : List GR) : Bool := SzOk R && (rs.zipIdx.all (fun p => RuOk R br p.1 p.2))
set_option maxRecDepth 100000 in
set_option maxHeartbeats 8000000 in
theorem print_c {B p kb : Nat} {R : RS} {A : RA} {rs : List GR} {vps : List Value} {br : List (Nat × Nat)} {w : World} (h : LkAt w B p R A kb rs vps br) (ok : RSok R) (hi2 : rs.length ≤ 120) (hpr : PrOk R br rs = true) :
  Calls Tryz.prog 18 #[ptr p] w fun e w' => e = .returned (.string ⟨(printL R br rs).toArray⟩) ∧ Kn w w' := by
 unfold PrOk at hpr
 rw [Bool.and_eq_true, List.all_eq_true] at hpr
 obtain ⟨hsz, hru⟩ := hpr
 have HRU : Hid (∀ i (hi : i < rs.length), RuOk R br rs[i] i = true) := Lib.hid (fun i hi => hru (rs[i], i) (List.mem_iff_getElem.2 ⟨i, by simpa using hi, by simp⟩))
 have HSZ := Lib.hid hsz
 have HS2 : Hid ((∀ s ∈ R.sorts, s.size ≤ 20) ∧ ∀ c ∈ R.cls, c.name.size ≤ 20 ∧ c.regex.size ≤ 3000) := Lib.hid (by
  have hsz2 := hsz
  unfold SzOk at hsz2
  simp only [Bool.and_eq_true, List.all_eq_true, decide_eq_true_eq] at hsz2
  exact ⟨hsz2.1.1, fun c hc => hsz2.2 c hc⟩)
 have hl2 := ok.cls
 have hl3 := ok.sorts
 obtain ⟨a1, c1, hv1, _, _, hg1⟩ := h.rd.cls.row (fun C hC => by obtain ⟨x, _, rfl⟩ := List.mem_map.1 hC; rfl)
 rw [List.length_map] at hv1
 obtain ⟨a2, c2, hv2, _, _, hg2⟩ := h.rd.sorts.look
 obtain ⟨a3, c3, hv3, _⟩ := rules_cells h.ru
 obtain ⟨_, q1, q2, q3, _⟩ := h.rd.cells
 rw [hv1] at q1
 rw [hv2] at q2
 rw [hv3] at q3
 have HG1 := Lib.hid hg1
 have HG2 := Lib.hid hg2
 have H := Lib.hid h
 have HOK := Lib.hid ok
 have hpl := h.rd.lt
 clear h ok hsz hru hv1 hv2 hv3 hg1 hg2
 go_enter Tryz.func18, Tryz.ntmps18
 go_upto_region 4 with fail
 obtain ⟨w1, hw1⟩ : ∃ z, z = w.alloc (.cells #[.pointer none, .slice none 0 0] TB) := ⟨_, rfl⟩
 obtain ⟨b, hb⟩ : ∃ z, z = w.heap.size := ⟨_, rfl⟩
 have hb0 : w1.heap[b]? = some (.cells #[.pointer none, .slice none 0 0] TB (0, 0)) := by rw [hw1, hb]; exact blk_new _ _
 have hB0 : Lib.IsBuilderF TB TU8 b b (Lib.byteCells []) w1 := .inl ⟨Nat.le_refl _, _, hb0, ⟨by simp [Lib.byteCells], .inl ⟨rfl, rfl⟩⟩, by simp [Value.ownBlock]⟩
 have hkn1 : Kn w w1 := by rw [hw1]; exact (Kp.refl _ _).alloc _
 rw [← hw1, ← hb]
 have HB0 := Lib.hid hB0
 have hbs : b ≤ w.heap.size := by omega
 have hFIN : Hid (∀ wa wb, Kn w wa → Below b wa wb → Kn w wb) := Lib.hid (fun wa wb h1 h2 => by
  rw [hb] at h2
  exact ⟨h2.os.trans h1.os, h2.tape.trans h1.tape, h2.output.trans h1.output, Nat.le_trans h1.size h2.size, fun k hk hs => (h2.block k hk).trans (h1.block k hk hs)⟩)
 clear hw1 hb hb0 hB0
 have p1 := kn_cell hkn1 q1
 go_wp2_with fail
 go_loopw [17] (fun s17 wr => ∃ (k : Nat) (L : List UInt8), s17 = .int .i64 k ∧ k ≤ R.cls.length ∧ Hid (L = prCls R k) ∧ L.length ≤ 4000 * k ∧ Hid (Lib.IsBuilderF TB TU8 b b (Lib.byteCells L) wr) ∧ Kn w wr) (fun s17 _ => R.cls.length - (intOf s17).toNat)
 case atStart => exact ⟨0, [], rfl, Nat.zero_le _, Lib.hid (by simp [prCls]), by simp, HB0, hkn1⟩
 case round =>
  clear HB0 hkn1 p1
  obtain ⟨k, L, rfl, hk, hL, hLl, hbi, hkn⟩ := hrel
  by_cases hlt : k < R.cls.length
  ·obtain ⟨g, rfl, _, _, hc⟩ := HG1.out (fun e => by rw [List.map_eq_nil_iff.1 e] at hlt; simp at hlt)
   have c0 : wr.cell? ⟨g, k * 3, none⟩ = some (.string R.cls[k].name) := by
    have := (hc k (by simpa using hlt) 0 (by omega)).1; rw [show 0 + 3 * k + 0 = k * 3 by omega] at this; refine kn_cell hkn ?_; rw [this]; simp [clL]
   have c1' : wr.cell? ⟨g, k * 3 + 1, none⟩ = some (.string R.cls[k].regex) := by
    have := (hc k (by simpa using hlt) 1 (by omega)).1; rw [show 0 + 3 * k + 1 = k * 3 + 1 by omega] at this; refine kn_cell hkn ?_; rw [this]; simp [clL]
   have c2' : wr.cell? ⟨g, k * 3 + 2, none⟩ = some (.bool R.cls[k].layout) := by
    have := (hc k (by simpa using hlt) 2 (by omega)).1; rw [show 0 + 3 * k + 2 = k * 3 + 2 by omega] at this; refine kn_cell hkn ?_; rw [this]; simp [clL]
   have hs12 := HS2.out.2 _ (List.getElem_mem hlt)
   have HPS := Lib.hid (prCls_succ hlt)
   obtain ⟨x, hx⟩ : ∃ x, x = R.cls[k] := ⟨_, rfl⟩
   rw [← hx] at c0 c1' c2' hs12 HPS
   obtain ⟨nm, hnm⟩ : ∃ n, n = x.name := ⟨_, rfl⟩
   obtain ⟨rg, hrg⟩ : ∃ n, n = x.regex := ⟨_, rfl⟩
   have hs1 := hs12.1
   have hs2 := hs12.2
   have HCL : Hid (clsLine x = ((((if x.layout = true then ⟨#[108, 97, 121, 111, 117, 116, 32]⟩ else ⟨#[116, 111, 107, 101, 110, 32]⟩ : ByteArray) ++ nm) ++ ⟨#[32]⟩) ++ rg) ++ ⟨#[10]⟩) := Lib.hid (by rw [hnm, hrg]; rfl)
   rw [← hnm] at c0 hs1
   rw [← hrg] at c1' hs2
   have HXX : Hid (x.name = nm ∧ x.regex = rg) := Lib.hid ⟨hnm.symm, hrg.symm⟩
   clear hc hx hnm hrg hs12
   have hka : Kn wr (wr.alloc (.cells #[.string nm, .string rg, .bool x.layout] TCl)) := (Kp.refl _ _).alloc _
   have HBA := Lib.hid (isB_kn hbi.out hka)
   have HKA := Lib.hid (hkn.trans hka)
   have hw1 := hkn.size
   clear hka
   cases hla : x.layout with
   | false =>
    rw [hla] at c2' HBA HKA
    have HC2 : Hid (clsLine x = ((((⟨#[116, 111, 107, 101, 110, 32]⟩ : ByteArray) ++ nm) ++ ⟨#[32]⟩) ++ rg) ++ ⟨#[10]⟩) := Lib.hid (by rw [HCL.out, hla]; rfl)
    have ho1 : ¬ (9223372036854775807 : Nat) < 6 + nm.size := by omega
    have ho2 : ¬ (9223372036854775807 : Nat) < 6 + nm.size + 1 := by omega
    have ho3 : ¬ (9223372036854775807 : Nat) < 6 + nm.size + 1 + rg.size := by omega
    have ho4 : ¬ (9223372036854775807 : Nat) < 6 + nm.size + 1 + rg.size + 1 := by omega
    have hcs : (clsLine x).size ≤ 3100 := by
     rw [HC2.out]
     simp only [ByteArray.size_append]
     have a1 : (⟨#[116, 111, 107, 101, 110, 32]⟩ : ByteArray).size = 6 := rfl
     have a2 : (⟨#[32]⟩ : ByteArray).size = 1 := rfl
     have a3 : (⟨#[10]⟩ : ByteArray).size = 1 := rfl
     omega
    have HWS := Lib.hid (WriteString_k b b _ (clsLine x) _ HBA.out (by rw [byteCells_len]; omega) (by rw [size_alloc']; omega))
    rw [HC2.out] at HWS
    have HCS := Lib.hid hcs
    clear hla hcs HCL
    go_wp2_with fail
    refine HWS.out.mono ?_
    rintro e w5 ⟨rfl, hb5, he5⟩
    have HB5 : Hid (Lib.IsBuilderF TB TU8 b b (Lib.byteCells (L ++ bl (clsLine x))) w5) := Lib.hid (.inr (by rw [bc_app, ← strCells_bl, HC2.out]; exact hb5))
    have hkn5 := hFIN.out _ _ HKA.out he5
    have hll : (L ++ bl (clsLine x)).length ≤ 4000 * (k + 1) := by
     have := HCS.out
     rw [List.length_append]
     have e9 : (bl (clsLine x)).length = (clsLine x).size := by unfold bl; simp
     omega
    have HLL := Lib.hid hll
    clear hb5 he5 hll
    go_wp2_with fail
    go_roundw
    case rel => exact ⟨k + 1, _, by go_num, by omega, Lib.hid (by rw [HPS.out, hL.out]), HLL.out, HB5, hkn5⟩
    case measure => simp [intOf]; omega
   | true =>
    rw [hla] at c2' HBA HKA
    have HC2 : Hid (clsLine x = ((((⟨#[108, 97, 121, 111, 117, 116, 32]⟩ : ByteArray) ++ nm) ++ ⟨#[32]⟩) ++ rg) ++ ⟨#[10]⟩) := Lib.hid (by rw [HCL.out, hla]; rfl)
    have ho1 : ¬ (9223372036854775807 : Nat) < 7 + nm.size := by omega
    have ho2 : ¬ (9223372036854775807 : Nat) < 7 + nm.size + 1 := by omega
    have ho3 : ¬ (9223372036854775807 : Nat) < 7 + nm.size + 1 + rg.size := by omega
    have ho4 : ¬ (9223372036854775807 : Nat) < 7 + nm.size + 1 + rg.size + 1 := by omega
    have hcs : (clsLine x).size ≤ 3100 := by
     rw [HC2.out]
     simp only [ByteArray.size_append]
     have a1 : (⟨#[108, 97, 121, 111, 117, 116, 32]⟩ : ByteArray).size = 7 := rfl
     have a2 : (⟨#[32]⟩ : ByteArray).size = 1 := rfl
     have a3 : (⟨#[10]⟩ : ByteArray).size = 1 := rfl
     omega
    have HWS := Lib.hid (WriteString_k b b _ (clsLine x) _ HBA.out (by rw [byteCells_len]; omega) (by rw [size_alloc']; omega))
    rw [HC2.out] at HWS
    have HCS := Lib.hid hcs
    clear hla hcs HCL
    go_wp2_with fail
    refine HWS.out.mono ?_
    rintro e w5 ⟨rfl, hb5, he5⟩
    have HB5 : Hid (Lib.IsBuilderF TB TU8 b b (Lib.byteCells (L ++ bl (clsLine x))) w5) := Lib.hid (.inr (by rw [bc_app, ← strCells_bl, HC2.out]; exact hb5))
    have hkn5 := hFIN.out _ _ HKA.out he5
    have hll : (L ++ bl (clsLine x)).length ≤ 4000 * (k + 1) := by
     have := HCS.out
     rw [List.length_append]
     have e9 : (bl (clsLine x)).length = (clsLine x).size := by unfold bl; simp
     omega
    have HLL := Lib.hid hll
    clear hb5 he5 hll
    go_wp2_with fail
    go_roundw
    case rel => exact ⟨k + 1, _, by go_num, by omega, Lib.hid (by rw [HPS.out, hL.out]), HLL.out, HB5, hkn5⟩
    case measure => simp [intOf]; omega
  ·obtain rfl : k = R.cls.length := by omega
   have HL0 : Hid (L = prCls R R.cls.length) := hL
   have hL40 : L.length ≤ 160000 := by omega
   obtain ⟨w2, hw2⟩ : ∃ z, z = wr := ⟨_, rfl⟩
   subst hw2
   have p2 := kn_cell hkn q2
   clear hL
   go_wp2_with fail
   go_loopw [39] (fun s39 wr => ∃ (k : Nat) (M : List UInt8), s39 = .int .i64 k ∧ k ≤ R.sorts.length ∧ Hid (M = L ++ prSort R k) ∧ M.length ≤ 160000 + 30 * k ∧ Hid (Lib.IsBuilderF TB TU8 b b (Lib.byteCells M) wr) ∧ Kn w wr) (fun s39 _ => R.sorts.length - (intOf s39).toNat)
   case atStart => exact ⟨0, L, rfl, Nat.zero_le _, Lib.hid (by simp [prSort]), by omega, hbi, hkn⟩
   case round =>
    clear hbi hkn p2
    obtain ⟨k, M, rfl, hk2, hM, hMl, hbi, hkn⟩ := hrel
    by_cases hlt2 : k < R.sorts.length
    ·obtain ⟨g, rfl, _, _, hc⟩ := HG2.out (fun e => by rw [e] at hlt2; simp at hlt2)
     have c0 := kn_cell hkn (hc k hlt2)
     have hs1 := HS2.out.1 _ (List.getElem_mem hlt2)
     have HPS := Lib.hid (prSort_succ hlt2)
     obtain ⟨s, hs⟩ : ∃ s, s = R.sorts[k] := ⟨_, rfl⟩
     rw [← hs] at c0 hs1 HPS
     have ho1 : ¬ (9223372036854775807 : Nat) < 5 + s.size := by omega
     have ho2 : ¬ (9223372036854775807 : Nat) < 5 + s.size + 1 := by omega
     have hcs : (sortLine s).size ≤ 26 := by
      unfold sortLine
      simp only [ByteArray.size_append]
      have a1 : (⟨#[115, 111, 114, 116, 32]⟩ : ByteArray).size = 5 := rfl
      have a3 : (⟨#[10]⟩ : ByteArray).size = 1 := rfl
      omega
     have hw1 := hkn.size
     have HWS := Lib.hid (WriteString_k b b _ (sortLine s) _ hbi.out (by rw [byteCells_len]; omega) (by omega))
     have HCS := Lib.hid hcs
     have HSL : Hid (sortLine s = ((⟨#[115, 111, 114, 116, 32]⟩ : ByteArray) ++ s) ++ ⟨#[10]⟩) := Lib.hid rfl
     rw [HSL.out] at HWS
     clear hc hs hcs
     go_wp2_with fail
     refine HWS.out.mono ?_
     rintro e w5 ⟨rfl, hb5, he5⟩
     have HB5 : Hid (Lib.IsBuilderF TB TU8 b b (Lib.byteCells (M ++ bl (sortLine s))) w5) := Lib.hid (.inr (by rw [bc_app, ← strCells_bl, HSL.out]; exact hb5))
     have hkn5 := hFIN.out _ _ hkn he5
     have hll : (M ++ bl (sortLine s)).length ≤ 160000 + 30 * (k + 1) := by
      have := HCS.out
      rw [List.length_append]
      have e9 : (bl (sortLine s)).length = (sortLine s).size := by unfold bl; simp
      omega
     have HLL := Lib.hid hll
     clear hb5 he5 hll
     go_wp2_with fail
     go_roundw
     case rel => exact ⟨k + 1, _, by go_num, by omega, Lib.hid (by rw [HPS.out, hM.out, List.append_assoc]), HLL.out, HB5, hkn5⟩
     case measure => simp [intOf]; omega
    ·obtain rfl : k = R.sorts.length := by omega
     have HM0 : Hid (M = L ++ prSort R R.sorts.length) := hM
     have hM2 : M.length ≤ 170000 := by omega
     obtain ⟨w3, hw3⟩ : ∃ z, z = wr := ⟨_, rfl⟩
     subst hw3
     have p3 := kn_cell hkn q3
     clear hM
     go_wp2_with fail
     go_loopw [53] (fun s53 wr => ∃ (k : Nat) (T : List UInt8), s53 = .int .i64 k ∧ k ≤ rs.length ∧ Hid (T = M ++ prRule R br rs k) ∧ T.length ≤ 170000 + 1010 * k ∧ Hid (Lib.IsBuilderF TB TU8 b b (Lib.byteCells T) wr) ∧ Kn w wr) (fun s53 _ => rs.length - (intOf s53).toNat)
     case atStart => exact ⟨0, M, rfl, Nat.zero_le _, Lib.hid (by simp [prRule]), by omega, hbi, hkn⟩
     case round =>
      clear hbi hkn p3
      obtain ⟨k, T, rfl, hk3, hT, hTl, hbi, hkn⟩ := hrel
      by_cases hlt3 : k < rs.length
      ·have HRC := Lib.hid (prule_c (H.out.kn hkn) HOK.out HSZ.out hlt3 hi2 (HRU.out k hlt3))
       have hs1 := ruleS_le HSZ.out (HRU.out k hlt3)
       have HPS := Lib.hid (prRule_succ (R := R) (br := br) hlt3)
       obtain ⟨s, hs⟩ : ∃ s, s = ruleS R br rs[k] k := ⟨_, rfl⟩
       have HSE : Hid (ruleLine R br rs[k] k = s ++ ⟨#[10]⟩) := Lib.hid (by rw [hs]; rfl)
       rw [← hs] at HRC hs1
       have ho1 : ¬ (9223372036854775807 : Nat) < s.size + 1 := by omega
       have hcs : (s ++ ⟨#[10]⟩ : ByteArray).size ≤ 1001 := by
        simp only [ByteArray.size_append]
        have a3 : (⟨#[10]⟩ : ByteArray).size = 1 := rfl
        omega
       have HCS := Lib.hid hcs
       have hw1 := hkn.size
       clear hs hcs
       go_wp2_with fail
       refine HRC.out.mono ?_
       rintro e w4 ⟨rfl, hk4⟩
       have hkn4 := hkn.trans hk4
       have HB4 := Lib.hid (isB_kn hbi.out hk4)
       have hw4 := hkn4.size
       have HWS := Lib.hid (WriteString_k b b _ (s ++ ⟨#[10]⟩) _ HB4.out (by rw [byteCells_len]; have := HCS.out; omega) (by omega))
       clear hk4
       go_wp2_with fail
       refine HWS.out.mono ?_
       rintro e w5 ⟨rfl, hb5, he5⟩
       have HB5 : Hid (Lib.IsBuilderF TB TU8 b b (Lib.byteCells (T ++ bl (s ++ ⟨#[10]⟩))) w5) := Lib.hid (.inr (by rw [bc_app, ← strCells_bl]; exact hb5))
       have hkn5 := hFIN.out _ _ hkn4 he5
       have hll : (T ++ bl (s ++ ⟨#[10]⟩)).length ≤ 170000 + 1010 * (k + 1) := by
        have := HCS.out
        rw [List.length_append]
        have e9 : (bl (s ++ ⟨#[10]⟩)).length = (s ++ ⟨#[10]⟩ : ByteArray).size := by unfold bl; rw [Array.length_toList]; rfl
        omega
       have HLL := Lib.hid hll
       clear hb5 he5 hll
       go_wp2_with fail
       go_roundw
       case rel => exact ⟨k + 1, _, by go_num, by omega, Lib.hid (by rw [HPS.out, HSE.out, hT.out, List.append_assoc]), HLL.out, HB5, hkn5⟩
       case measure => simp [intOf]; omega
      ·obtain rfl : k = rs.length := by omega
       have HTT : Hid (T = printL R br rs) := Lib.hid (by rw [hT.out, HM0.out, HL0.out]; rfl)
       have hws := hkn.size
       have hST := Tryz.Builder_String_any_k b b T wr hbi.out (by omega)
       have HST := Lib.hid hST
       clear hST hT
       go_wp2_with fail
       refine HST.out.mono ?_
       rintro e w5 ⟨rfl, _, he2, _⟩
       have he3 := hFIN.out _ _ hkn he2
       go_wp2_with fail
       go_ret
       exact ⟨by rw [← HTT.out]; rfl, he3⟩
end Go.Proofs.YtopmadkajacniaaGreatDoor
namespace Go.Proofs.YtopmadkajacniaaGreatDoor
open Go.Shelf Go.RowKit Go.Maps
set_option maxHeartbeats 2000000 in
theorem literal0_c {B p kb : Nat} {R : RS} {A : RA} {rs : List GR} {vps : List Value} {br : List (Nat × Nat)} {w : World} (h : LkAt w B p R A kb rs vps br) (ok : RSok R) (h0 : 0 < R.lits.length) :
  Calls Tryz.prog 21 #[ptr p, .int .i64 0] w fun e w' => e = .returned (.tuple #[.string R.lits[0], .bool true]) ∧ w = w' := by
 have hl := ok.lits
 obtain ⟨a2, c2, hv2, _, _, hg2⟩ := h.rd.lits.look
 obtain ⟨q1, _⟩ := h.rd.cells
 rw [hv2] at q1
 obtain ⟨g, rfl, _, _, hc⟩ := hg2 (fun e => by rw [e] at h0; simp at h0)
 have c0 := hc 0 h0
 have hpl := h.rd.lt
 obtain ⟨s, hs⟩ : ∃ s, s = R.lits[0] := ⟨_, rfl⟩
 rw [← hs] at c0 ⊢
 obtain ⟨n, hn⟩ : ∃ n, n = R.lits.length := ⟨_, rfl⟩
 rw [← hn] at h0 q1 hl
 clear h ok hv2 hg2 hc hs hn
 go_enter Tryz.func21, Tryz.ntmps21
 go_wp2_with fail
 go_ret2
 exact ⟨rfl, rfl⟩
theorem literal_nil (n : Int) (w : World) : Calls Tryz.prog 21 #[.pointer none, .int .i64 n] w fun e w' => e = .returned (.tuple #[.string ByteArray.empty, .bool false]) ∧ w = w' := by
 go_enter Tryz.func21, Tryz.ntmps21
 go_wp2_with fail
 go_ret2
 exact ⟨rfl, rfl⟩
theorem gsort_nil (s : ByteArray) (w : World) : Calls Tryz.prog 22 #[.pointer none, .string s] w fun e w' => e = .returned (.tuple #[.int .i64 0, .bool false]) ∧ w = w' := by
 go_enter Tryz.func22, Tryz.ntmps22
 go_wp2_with fail
 go_ret2
 exact ⟨rfl, rfl⟩
theorem gbracket_nil (n : Int) (w : World) : Calls Tryz.prog 23 #[.pointer none, .int .i64 n] w fun e w' => e = .returned (.tuple #[.int .i64 0, .bool false]) ∧ w = w' := by
 go_enter Tryz.func23, Tryz.ntmps23
 go_wp2_with fail
 go_ret2
 exact ⟨rfl, rfl⟩
theorem classes_nil (w : World) : Calls Tryz.prog 24 #[.pointer none] w fun e w' => e = .returned (.slice none 0 0) ∧ w = w' := by
 go_enter Tryz.func24, Tryz.ntmps24
 go_wp2_with fail
 go_ret
 exact ⟨rfl, rfl⟩
theorem sorts_nil (w : World) : Calls Tryz.prog 25 #[.pointer none] w fun e w' => e = .returned (.slice none 0 0) ∧ w = w' := by
 go_enter Tryz.func25, Tryz.ntmps25
 go_wp2_with fail
 go_ret
 exact ⟨rfl, rfl⟩
theorem rules_nil (w : World) : Calls Tryz.prog 26 #[.pointer none] w fun e w' => e = .returned (.slice none 0 0) ∧ w = w' := by
 go_enter Tryz.func26, Tryz.ntmps26
 go_wp2_with fail
 go_ret
 exact ⟨rfl, rfl⟩
theorem scanner_nil (w : World) : Calls Tryz.prog 27 #[.pointer none] w fun e w' => e = .returned (.pointer none) ∧ w = w' := by
 go_enter Tryz.func27, Tryz.ntmps27
 go_wp2_with fail
 go_ret
 exact ⟨rfl, rfl⟩
theorem print_nil (w : World) : Calls Tryz.prog 18 #[.pointer none] w fun e w' => e = .returned (.string ByteArray.empty) ∧ w = w' := by
 go_enter Tryz.func18, Tryz.ntmps18
 go_wp2_with fail
 go_ret
 exact ⟨rfl, rfl⟩
end Go.Proofs.YtopmadkajacniaaGreatDoor
namespace Go.Proofs.YtopmadkajacniaaGreatDoor
open Go.RowKit Go.Maps
set_option maxHeartbeats 4000000 in
set_option maxRecDepth 100000 in
theorem CloneP_c {B : Nat} {v : Value} {Cs : List (List Value)} (w : World) (hbig : Cs.length ≤ 1000000) (h3 : ∀ C ∈ Cs, C.length = 4) (h1 : ∀ u ∈ Cs.flatten, u.oneCell' = true) (h : OwnK w B TPa 4 v Cs) :
  Calls Tryz.prog 85 #[v] w fun e w' => ∃ v', e = .returned v' ∧ OwnK w' w.heap.size TPa 4 v' Cs ∧ Kn w w' := by
 obtain ⟨i0, hi, hz0, hz1, hz2⟩ := info_parts info_pa
 have HI := Lib.hid (And.intro hi (And.intro hz0 (And.intro hz1 hz2)))
 have q24 : ∀ (w : World) (a : Option Addr) (n c n' c' : Nat), (binOp .eql 159 (.slice a n c) (.slice none n' c')).run Tryz.prog w = .ok (.bool a.isNone) w := fun w a n c n' c' => Lib.run_eql_slice_nil w _ _ a n c n' c' Tryz.underlying159
 have HC := Lib.hid h
 have H1 := Lib.hid h1
 have hfl := flat_len h3
 rcases h.2 with ⟨hv, hcs⟩ | ⟨g, cap, cur, hv, hg, _, hc1, hc2, _⟩
 ·have hn : Cs = [] := by simpa using hcs
  subst hv hn
  clear hi hz0 hz1 hz2 h h1
  go_enter Tryz.func85, Tryz.ntmps85
  go_wp2_with fail
  go_ret
  exact ⟨_, rfl, OwnK.nil, Kp.refl _ _⟩
 ·subst hv
  obtain ⟨n, hn⟩ : ∃ n, n = Cs.length := ⟨_, rfl⟩
  have HN := Lib.hid hn
  rw [← hn] at HC hc1 hbig hfl ⊢
  have HF := Lib.hid hfl
  clear hi hz0 hz1 hz2 h h1 hn hfl h3
  go_enter Tryz.func85, Tryz.ntmps85
  go_wp2_with (at_builtin; refine wpList_append_own _ rfl _ _ 159 rfl w.heap.size TPa i0 _ 4 32 Tryz.underlying159 HI.out.1 HI.out.2.1 HI.out.2.2.1 HI.out.2.2.2 rfl (by decide) _ _ _ rfl (World.ownsRow_made w #[] 0 (Nat.le_refl _) (Nat.zero_le _) rfl) ⟨g, 0, none⟩ n cap Cs.flatten rfl ?qc1 ?qc2 ?qc3 ?qc4 ?qc5 ?qc6 ?_)
  case qc1 => exact HF.out
  case qc2 =>
   intro j u hj
   exact Lib.cell?_alloc_some _ (HC.out.cells rfl j u hj)
  case qc3 => exact H1.out
  case qc4 => unfold maxLen; omega
  case qc5 => omega
  case qc6 => simp
  intro v' w1 hown hgrow hnil
  go_wp2_with fail
  go_ret
  refine ⟨v', rfl, by unfold OwnK; rw [← HN.out]; simpa using hown, ?_⟩
  exact Kp.of_below (((Below.refl _ w).alloc (Nat.le_refl _) _).grown hgrow (by simp) (by intro k hk; simp [Value.ownBlock] at hk; omega))
set_option maxHeartbeats 4000000 in
set_option maxRecDepth 100000 in
theorem CloneR_c {B : Nat} {v : Value} {Cs : List (List Value)} (w : World) (hbig : Cs.length ≤ 1000000) (h3 : ∀ C ∈ Cs, C.length = 4) (h1 : ∀ u ∈ Cs.flatten, u.oneCell' = true) (h : OwnK w B TRu 4 v Cs) :
  Calls Tryz.prog 84 #[v] w fun e w' => ∃ v', e = .returned v' ∧ OwnK w' w.heap.size TRu 4 v' Cs ∧ Kn w w' := by
 obtain ⟨i0, hi, hz0, hz1, hz2⟩ := info_parts info_ru
 have HI := Lib.hid (And.intro hi (And.intro hz0 (And.intro hz1 hz2)))
 have q24 : ∀ (w : World) (a : Option Addr) (n c n' c' : Nat), (binOp .eql 46 (.slice a n c) (.slice none n' c')).run Tryz.prog w = .ok (.bool a.isNone) w := fun w a n c n' c' => Lib.run_eql_slice_nil w _ _ a n c n' c' Tryz.underlying46
 have HC := Lib.hid h
 have H1 := Lib.hid h1
 have hfl := flat_len h3
 rcases h.2 with ⟨hv, hcs⟩ | ⟨g, cap, cur, hv, hg, _, hc1, hc2, _⟩
 ·have hn : Cs = [] := by simpa using hcs
  subst hv hn
  clear hi hz0 hz1 hz2 h h1
  go_enter Tryz.func84, Tryz.ntmps84
  go_wp2_with fail
  go_ret
  exact ⟨_, rfl, OwnK.nil, Kp.refl _ _⟩
 ·subst hv
  obtain ⟨n, hn⟩ : ∃ n, n = Cs.length := ⟨_, rfl⟩
  have HN := Lib.hid hn
  rw [← hn] at HC hc1 hbig hfl ⊢
  have HF := Lib.hid hfl
  clear hi hz0 hz1 hz2 h h1 hn hfl h3
  go_enter Tryz.func84, Tryz.ntmps84
  go_wp2_with (at_builtin; refine wpList_append_own _ rfl _ _ 46 rfl w.heap.size TRu i0 _ 4 56 Tryz.underlying46 HI.out.1 HI.out.2.1 HI.out.2.2.1 HI.out.2.2.2 rfl (by decide) _ _ _ rfl (World.ownsRow_made w #[] 0 (Nat.le_refl _) (Nat.zero_le _) rfl) ⟨g, 0, none⟩ n cap Cs.flatten rfl ?qc1 ?qc2 ?qc3 ?qc4 ?qc5 ?qc6 ?_)
  case qc1 => exact HF.out
  case qc2 =>
   intro j u hj
   exact Lib.cell?_alloc_some _ (HC.out.cells rfl j u hj)
  case qc3 => exact H1.out
  case qc4 => unfold maxLen; omega
  case qc5 => omega
  case qc6 => simp
  intro v' w1 hown hgrow hnil
  go_wp2_with fail
  go_ret
  refine ⟨v', rfl, by unfold OwnK; rw [← HN.out]; simpa using hown, ?_⟩
  exact Kp.of_below (((Below.refl _ w).alloc (Nat.le_refl _) _).grown hgrow (by simp) (by intro k hk; simp [Value.ownBlock] at hk; omega))
end Go.Proofs.YtopmadkajacniaaGreatDoor
namespace Go.Proofs.YtopmadkajacniaaGreatDoor
open Go.RowKit Go.Maps
theorem zip_ru_set (rs : List GR) (vk : List Value) (k : Nat) (v : Value) (hk : k < (List.zipWith ruL rs vk).length) :
  (List.zipWith ruL rs vk).set k ((List.zipWith ruL rs vk)[k].set 3 v) = List.zipWith ruL rs (vk.set k v) := by
 apply List.ext_getElem
 ·simp
 ·intro i h1 h2
  rw [List.getElem_set]
  split
  ·subst_vars; simp [ruL]
  ·rename_i hne
   simp only [List.getElem_zipWith]
   rw [List.getElem_set_ne hne]
def RulesPost (w : World) (rs : List GR) (e : Ending) (w' : World) : Prop := ∃ v vps, e = .returned v ∧ RuAt w' w.heap.size v rs vps ∧ Kn w w'
set_option maxHeartbeats 8000000 in
set_option maxRecDepth 100000 in
theorem rules_c {B p kb : Nat} {R : RS} {A : RA} {rs : List GR} {vps : List Value} {br : List (Nat × Nat)} {w : World} (h : LkAt w B p R A kb rs vps br) (hrl : rs.length ≤ 120) (hpz : ∀ r ∈ rs, r.parts.length ≤ 1000000) :
  Calls Tryz.prog 26 #[ptr p] w (RulesPost w rs) := by
 have h4 : ∀ vk : List Value, ∀ C ∈ List.zipWith ruL rs vk, C.length = 4 := fun vk C hC => by obtain ⟨i, hi, rfl⟩ := List.getElem_of_mem hC; simp [ruL]
 have hlen := h.ru.len
 have hon1 : ∀ u ∈ (List.zipWith ruL rs vps).flatten, u.oneCell' = true := by
  intro u hu
  obtain ⟨C, hC, hu⟩ := List.mem_flatten.1 hu
  obtain ⟨i, hi, rfl⟩ := List.getElem_of_mem hC
  have hi2 : i < rs.length ∧ i < vps.length := by rw [List.length_zipWith] at hi; omega
  have hp := h.ru.parts i hi2.2 hi2.1
  obtain ⟨a, c, hv, _⟩ := hp.row (k := 4) (fun C hC => by obtain ⟨x, _, rfl⟩ := List.mem_map.1 hC; rfl)
  simp only [List.getElem_zipWith, ruL, hv] at hu
  simp at hu
  rcases hu with rfl | rfl | rfl | rfl <;> rfl
 have HCL := Lib.hid (CloneR_c w (by rw [List.length_zipWith]; omega) (h4 vps) hon1 h.ru.row)
 have HP := Lib.hid (fun (wr : World) (hk : Kn w wr) (i : Nat) (h1 : i < rs.length) (h2 : i < vps.length) =>
  CloneP_c wr (by rw [List.length_map]; exact hpz _ (List.getElem_mem h1)) (fun C hC => by obtain ⟨x, _, rfl⟩ := List.mem_map.1 hC; rfl) (fun u hu => by
   obtain ⟨C, hC, hu⟩ := List.mem_flatten.1 hu
   obtain ⟨x, _, rfl⟩ := List.mem_map.1 hC
   simp [paL] at hu
   rcases hu with rfl | rfl | rfl | rfl <;> rfl) ((h.ru.parts i h2 h1).kn hk))
 obtain ⟨_, _, _, q3, _⟩ := h.rd.cells
 have hpl := h.rd.lt
 clear h hon1
 go_enter Tryz.func26, Tryz.ntmps26
 go_wp2_with fail
 refine HCL.out.mono ?_
 rintro e w1 ⟨v, rfl, hown, hk1⟩
 obtain ⟨a, c, rfl, hc1, hc2, hg⟩ := hown.row (h4 vps)
 have HX := Lib.hid hg
 have hzl : (List.zipWith ruL rs vps).length = rs.length := by rw [List.length_zipWith, hlen, Nat.min_self]
 rw [hzl] at hown hc1 ⊢
 have HOW := Lib.hid hown
 have HLN := Lib.hid hlen
 clear hg hown HCL q3 hzl hlen
 go_wp2_with fail
 go_loopw [14] (fun s14 wr => ∃ (k : Nat) (vk : List Value), s14 = .int .i64 k ∧ k ≤ rs.length ∧ Hid (OwnK wr w.heap.size TRu 4 (.slice a rs.length c) (List.zipWith ruL rs vk)) ∧ Hid (vk.length = rs.length) ∧ Hid (∀ i (h1 : i < vk.length) (h2 : i < rs.length), i < k → OwnK wr w.heap.size TPa 4 vk[i] (rs[i].parts.map paL)) ∧ Hid (∀ i, k ≤ i → vk[i]? = vps[i]?) ∧ Kn w wr) (fun s14 _ => rs.length - (intOf s14).toNat)
 case atStart => exact ⟨0, vps, rfl, Nat.zero_le _, HOW, HLN, Lib.hid (fun i _ _ h => absurd h (Nat.not_lt_zero _)), Lib.hid (fun _ _ => rfl), hk1⟩
 case round =>
  clear HOW hk1
  obtain ⟨k, vk, rfl, hk, HO, HV, HPA, HR, hkn⟩ := hrel
  by_cases hlt : k < rs.length
  ·have hvk := HV.out
   obtain ⟨a', c', hv, _, _, hg⟩ := HO.out.row (h4 vk)
   have hzl : (List.zipWith ruL rs vk).length = rs.length := by rw [List.length_zipWith, hvk, Nat.min_self]
   obtain ⟨g, rfl, hgH, _, hc⟩ := hg (fun e => by rw [e] at hzl; simp at hzl; omega)
   obtain rfl : a = some ⟨g, 0, none⟩ := by injection hv
   have c3 : wr.cell? ⟨g, k * 4 + 3, none⟩ = some (vk[k]'(by omega)) := by
    have := (hc k (by omega) 3 (by omega)).1
    rw [show 0 + 4 * k + 3 = k * 4 + 3 by omega] at this
    rw [this]; simp [ruL]
   have f3 : wr.frozen? ⟨g, k * 4 + 3, none⟩ = false := by
    have := (hc k (by omega) 3 (by omega)).2
    rwa [show 0 + 4 * k + 3 = k * 4 + 3 by omega] at this
   have hlv : k < vps.length := by have := HLN.out; omega
   have hvv : vk[k]'(by omega) = vps[k] := by
    have := HR.out k (Nat.le_refl _)
    rw [List.getElem?_eq_getElem (by omega), List.getElem?_eq_getElem hlv] at this
    exact Option.some.inj this
   rw [hvv] at c3
   have HPC := Lib.hid (HP.out wr hkn k hlt hlv)
   obtain ⟨vp, hvp⟩ : ∃ x, x = vps[k] := ⟨_, rfl⟩
   rw [← hvp] at HPC c3
   have HZL := Lib.hid hzl
   have HGH := Lib.hid hgH
   obtain ⟨cur, hgb⟩ := OwnK.blkT HO.out (g := g) rfl
   have hgl : g < wr.heap.size := by
    rcases Nat.lt_or_ge g wr.heap.size with h | h
    ·exact h
    ·rw [Array.getElem?_eq_none h] at hgb; cases hgb
   clear hv hg hc hvv hvp hzl hvk hgb hgH
   go_wp2_with fail
   refine HPC.out.mono ?_
   rintro e w2 ⟨v', rfl, hov, hk2⟩
   have f32 : w2.frozen? ⟨g, k * 4 + 3, none⟩ = false := by
    obtain ⟨cur, hgb⟩ := OwnK.blkT (HO.out.kn hk2) (g := g) rfl
    exact frozen_blk hgb _
   obtain ⟨a2, c2, rfl, _⟩ := hov.row (k := 4) (fun C hC => by obtain ⟨x, _, rfl⟩ := List.mem_map.1 hC; rfl)
   have hml : (List.map paL rs[k].parts).length = rs[k].parts.length := List.length_map ..
   rw [hml] at hov ⊢
   clear hml
   have HOV := Lib.hid hov
   have HK2 := Lib.hid hk2
   have c32 := kn_cell hk2 c3
   clear f3 c3 hov hk2
   go_wp2_with fail
   go_roundw
   case rel =>
    have hkn2 := hkn.trans HK2.out
    have hvk := HV.out
    have hkz : k < (List.zipWith ruL rs vk).length := by have := HZL.out; omega
    have hkv : k < vk.length := by omega
    have hk3 : K1 g w2 (w2.setCell ⟨g, k * 4 + 3, none⟩ (.slice a2 rs[k].parts.length c2)) := Kp.set1 _ _
    have hset := OwnK.set (HO.out.kn HK2.out) (h4 vk) (g := g) rfl k 3 hkz (by omega) (.slice a2 rs[k].parts.length c2)
    rw [zip_ru_set, show 0 + 4 * k + 3 = k * 4 + 3 by omega] at hset
    obtain ⟨cur, hgb⟩ := OwnK.blkT (HO.out.kn HK2.out) (g := g) rfl
    have hS := ty_one hgb
    refine ⟨k + 1, vk.set k (.slice a2 rs[k].parts.length c2), by go_num, by omega, Lib.hid hset, Lib.hid (by rw [List.length_set]; exact HV.out), Lib.hid ?_, Lib.hid ?_, ?_⟩
    ·intro i h1 h2 hi
     rw [List.length_set] at h1
     by_cases e : k = i
     ·subst e
      rw [List.getElem_set_self]
      exact row_ty (OwnK.base HOV.out (by have := hkn.size; omega)) hk3 hS (by decide)
     ·rw [List.getElem_set_ne e]
      exact row_ty ((HPA.out i h1 h2 (by omega)).kn HK2.out) hk3 hS (by decide)
    ·intro i hi
     rw [List.getElem?_set_ne (by omega)]
     exact HR.out i (by omega)
    ·exact hkn2.trans' hk3 (fun i hi e => by have := HGH.out; omega)
   case measure => simp [intOf]; omega
  ·obtain rfl : k = rs.length := by omega
   go_wp2_with fail
   go_ret
   exact ⟨_, vk, rfl, ⟨HO.out, HV.out, fun i h1 h2 => HPA.out i h1 h2 h2⟩, hkn⟩
end Go.Proofs.YtopmadkajacniaaGreatDoor
namespace Go.Proofs.YtopmadkajacniaaGreatDoor
open Go.RowKit Go.Maps
def parseF (text : ByteArray) : Option (RS × List GR × List (Nat × Nat)) :=
 match RS.gather (text.size + 1) 1 RS.none_ text with
 | none => none
 | some R => match finF R with | none => none | some r => some (R, r.1, r.2)
def ParsePost (text : ByteArray) (w : World) (e : Ending) (w' : World) : Prop :=
 Kn w w' ∧ match parseF text with
 | some r => ∃ p : Nat, e = .returned (.tuple #[ptr p, .int .i64 0, .int .i64 0]) ∧ GrAt w' p r.1 r.2.1 r.2.2
 | none => ∃ k n : Int, n ≠ 0 ∧ e = .returned (.tuple #[.pointer none, .int .i64 k, .int .i64 n])
def strSz : Value → Nat
 | .string s => s.size
 | _ => 0
theorem cutZ_lt {s sep : ByteArray} (h : cutT s sep = true) (h1 : 1 ≤ sep.size) (h0 : ¬ s.size = 0) : (cutZ s sep).size < s.size := by
 show (Lib.cut s.data.toList sep.data.toList).2.1.toArray.size < s.data.size
 have h0' : ¬ s.data.size = 0 := h0
 have h1' : 1 ≤ sep.data.size := h1
 unfold cutT Lib.cut at h
 unfold Lib.cut
 split
 ·simp; omega
 ·rename_i hx; rw [if_neg hx] at h; cases h
theorem gather_end (f n : Nat) (R : RS) (s : ByteArray) (h : s.size = 0) : RS.gather (f + 1) n R s = some R := by
 unfold RS.gather; rw [if_pos h]
theorem gather_step (f n : Nat) (R : RS) (s : ByteArray) (h : ¬ s.size = 0) : RS.gather (f + 1) n R s = if cutT s nlB = true then (match R.take n (cutA s nlB) with | some R1 => RS.gather f (n + 1) R1 (cutZ s nlB) | none => none) else none := by
 rw [RS.gather, if_neg h]; rfl
set_option maxHeartbeats 1000000 in
theorem parse_long (text : ByteArray) (w : World) (h : 1048576 < text.size) (h2 : text.size ≤ 1099511627776) :
  Calls Tryz.prog 17 #[.string text] w fun e w' => e = .returned (.tuple #[.pointer none, .int .i64 0, .int .i64 3]) ∧ w' = w := by
 have h1 : (1048576 : Int) < text.size := by omega
 go_enter Tryz.func17, Tryz.ntmps17
 go_wp2_with fail
 go_ret3
 exact ⟨rfl, rfl⟩
set_option maxRecDepth 100000 in
set_option maxHeartbeats 8000000 in
theorem gparse_c (text : ByteArray) (w : World) (hm : MaxLenAt w) (hs : text.size ≤ 1000000) :
  Calls Tryz.prog 17 #[.string text] w (ParsePost text w) := by
 have hmm := @run_makeMap Tryz.prog
 have hno : ¬ (1048576 : Int) < text.size := by omega
 have hno' : ¬ 1048576 < text.size := by omega
 have HP : Hid (parseF text = match RS.gather (text.size + 1) 1 RS.none_ text with
  | none => none
  | some R => match finF R with | none => none | some r => some (R, r.1, r.2)) := Lib.hid rfl
 obtain ⟨bn, hbn⟩ : ∃ z, z = w.heap.size := ⟨_, rfl⟩
 obtain ⟨bc, hbc⟩ : ∃ z, z = w.heap.size + 1 := ⟨_, rfl⟩
 obtain ⟨br, hbr⟩ : ∃ z, z = w.heap.size + 1 + 1 := ⟨_, rfl⟩
 obtain ⟨p, hp⟩ : ∃ z, z = w.heap.size + 1 + 1 + 1 := ⟨_, rfl⟩
 obtain ⟨W, hW⟩ : ∃ z, z = (((w.alloc (.map #[] 0)).alloc (.map #[] 0)).alloc (.map #[] 0)).alloc (.cells #[.slice none 0 0, .slice none 0 0, .slice none 0 0, .slice none 0 0, .map none, .pointer none, .map (some bn), .map (some bc), .map (some br), .slice none 0 0] TGr) := ⟨_, rfl⟩
 have hkW : Kn w W := by rw [hW]; exact ((((Kp.refl _ _).alloc _).alloc _).alloc _).alloc _
 have e1 : (w.alloc (.map #[] 0)).heap.size = bc := by rw [size_alloc', hbc]
 have e2 : ((w.alloc (.map #[] 0)).alloc (.map #[] 0)).heap.size = br := by rw [size_alloc', e1, hbr, hbc]
 have e3 : (((w.alloc (.map #[] 0)).alloc (.map #[] 0)).alloc (.map #[] 0)).heap.size = p := by rw [size_alloc', e2, hp, hbr]
 have hrd : RdAt W w.heap.size p RS.none_ ⟨.slice none 0 0, .slice none 0 0, .slice none 0 0, .slice none 0 0, .map none, .pointer none, bn, bc, br, .slice none 0 0, []⟩ := by
  refine ⟨?_, OwnK.nil (k := 1), OwnK.nil, OwnK.nil (k := 1), ?_, ?_, ?_, OwnK.nil, rfl, (fun i a b => by simp at a), ⟨by show bn ≠ bc; omega, by show bn ≠ br; omega, by show bc ≠ br; omega⟩, (fun g hg => by cases hg), ⟨by omega, by show _ ≤ bn; omega, by show _ ≤ bc; omega, by show _ ≤ br; omega⟩⟩
  ·have := blk_new (((w.alloc (.map #[] 0)).alloc (.map #[] 0)).alloc (.map #[] 0)) (.cells #[.slice none 0 0, .slice none 0 0, .slice none 0 0, .slice none 0 0, .map none, .pointer none, .map (some bn), .map (some bc), .map (some br), .slice none 0 0] TGr)
   rw [e3, ← hW] at this; exact this
  ·have := (((MapA.new w TS).kn ((Kp.refl _ _).alloc (.map #[] 0))).kn ((Kp.refl _ _).alloc (.map #[] 0))).kn ((Kp.refl _ _).alloc (.cells #[.slice none 0 0, .slice none 0 0, .slice none 0 0, .slice none 0 0, .map none, .pointer none, .map (some bn), .map (some bc), .map (some br), .slice none 0 0] TGr))
   rw [← hW, ← hbn] at this; exact this
  ·have := (((MapA.new (w.alloc (.map #[] 0)) TS)).kn ((Kp.refl _ _).alloc (.map #[] 0))).kn ((Kp.refl _ _).alloc (.cells #[.slice none 0 0, .slice none 0 0, .slice none 0 0, .slice none 0 0, .map none, .pointer none, .map (some bn), .map (some bc), .map (some br), .slice none 0 0] TGr))
   rw [← hW, e1] at this; exact this
  ·have := (MapA.new ((w.alloc (.map #[] 0)).alloc (.map #[] 0)) TS).kn ((Kp.refl _ _).alloc (.cells #[.slice none 0 0, .slice none 0 0, .slice none 0 0, .slice none 0 0, .map none, .pointer none, .map (some bn), .map (some bc), .map (some br), .slice none 0 0] TGr))
   rw [← hW, e2] at this; exact this
 have HRD := Lib.hid hrd
 have HOK : Hid (RSok RS.none_) := Lib.hid ⟨by simp [RS.none_], by simp [RS.none_], by simp [RS.none_], by simp [RS.none_], fun s h => by simp [RS.none_] at h, fun s h => by simp [RS.none_] at h, fun s h => by simp [RS.none_] at h⟩
 have HW := Lib.hid hW
 have HB := Lib.hid (And.intro hbn (And.intro hbc (And.intro hbr hp)))
 have HM := Lib.hid (fun w' (hk : Kn w w') => hm.kn hk)
 clear hrd hW e1 e2 e3 hbn hbc hbr hp hm
 go_enter Tryz.func17, Tryz.ntmps17
 go_upto_region 4 with fail
 rw [← HB.out.2.2.2, ← HB.out.2.2.1, ← HB.out.2.1, ← HB.out.1, ← HW.out]
 go_wp2_with fail
 go_loopw [0, 6] (fun s0 s6 wr => ∃ (f n : Nat) (R : RS) (A : RA) (s : ByteArray), s0 = .string s ∧ s6 = .int .i64 n ∧ Hid (RS.gather f n R s = RS.gather (text.size + 1) 1 RS.none_ text) ∧ s.size < f ∧ n + s.size ≤ text.size + 1 ∧ 1 ≤ n ∧ Hid (RdAt wr w.heap.size p R A) ∧ Hid (RSok R) ∧ Hid (A.vr = .slice none 0 0 ∧ A.sc = .pointer none) ∧ Kn w wr) (fun s0 _ _ => strSz s0)
 case atStart => exact ⟨text.size + 1, 1, RS.none_, _, text, rfl, rfl, Lib.hid rfl, by omega, by omega, Nat.le_refl _, HRD, HOK, Lib.hid ⟨rfl, rfl⟩, hkW⟩
 case round =>
  clear HRD HOK
  obtain ⟨f, n, R, A, s, rfl, rfl, hga, hf, hn, hn1, hrd, hok, hnl, hkn⟩ := hrel
  by_cases h0 : s.size = 0
  ·have he := isE_true h0
   obtain ⟨f2, rfl⟩ : ∃ f2, f = f2 + 1 := ⟨f - 1, by omega⟩
   have HG : Hid (RS.gather (text.size + 1) 1 RS.none_ text = some R) := Lib.hid (by rw [← hga.out]; exact gather_end _ _ _ _ h0)
   have HFI := Lib.hid (finish_c hrd.out hok.out hnl.out.1 hnl.out.2)
   clear h0 hga
   go_wp2_with fail
   refine HFI.out.mono ?_
   rintro e w2 ⟨k, n2, rfl, hk2, hmt⟩
   have hkn2 := hkn.trans' hk2 (fun i hi e => by omega)
   cases hfi : finF R with
   | none =>
    rw [hfi] at hmt
    dsimp only at hmt
    have hn2 : (n2 == 0) = false := by rw [beq_eq_false_iff_ne]; exact hmt
    have hF : Hid (parseF text = none) := Lib.hid (by rw [HP.out, HG.out]; dsimp only; rw [hfi])
    have HN := Lib.hid hmt
    clear hfi hmt HP
    go_wp2_with fail
    go_ret3
    refine ⟨hkn2, ?_⟩
    rw [hF.out]; exact ⟨k, n2, HN.out, rfl⟩
   | some r =>
    rw [hfi] at hmt
    dsimp only at hmt
    obtain ⟨rfl, rfl, hgr⟩ := hmt
    have hF : Hid (parseF text = some (R, r.1, r.2)) := Lib.hid (by rw [HP.out, HG.out]; dsimp only; rw [hfi])
    have HGR := Lib.hid hgr
    clear hfi hgr HP
    go_wp2_with fail
    go_ret3
    refine ⟨hkn2, ?_⟩
    rw [hF.out]; exact ⟨p, rfl, HGR.out⟩
  ·have he := isE_false h0
   obtain ⟨f2, rfl⟩ : ∃ f2, f = f2 + 1 := ⟨f - 1, by omega⟩
   have hst := gather_step f2 n R s h0
   rw [hga.out] at hst
   have HC := Lib.hid (cut_c s ⟨#[10]⟩ wr (HM.out wr hkn) (by omega))
   change _ = if cutT s ⟨#[10]⟩ = true then (match R.take n (cutA s ⟨#[10]⟩) with | some R1 => RS.gather f2 (n + 1) R1 (cutZ s ⟨#[10]⟩) | none => none) else none at hst
   have hca := cutA_le s ⟨#[10]⟩
   cases ht : cutT s ⟨#[10]⟩ with
   | false =>
    rw [ht] at hst HC
    have hF : Hid (parseF text = none) := Lib.hid (by rw [HP.out, hst]; rfl)
    clear hst ht h0 hga HP
    go_wp2_with fail
    refine HC.out.mono ?_
    rintro e w2 ⟨rfl, hk2⟩
    have hkn2 := hkn.trans hk2
    go_wp2_with fail
    go_ret3
    refine ⟨hkn2, ?_⟩
    rw [hF.out]; exact ⟨n, 4, by decide, rfl⟩
   | true =>
    rw [ht] at hst HC
    have hlt := cutZ_lt ht (by decide) h0
    obtain ⟨la, hla⟩ : ∃ la, la = cutA s ⟨#[10]⟩ := ⟨_, rfl⟩
    obtain ⟨lz, hlz⟩ : ∃ lz, lz = cutZ s ⟨#[10]⟩ := ⟨_, rfl⟩
    rw [← hla, ← hlz] at hst HC
    rw [← hla] at hca
    rw [← hlz] at hlt
    have HST := Lib.hid hst
    clear hst ht h0 hga hla hlz
    go_wp2_with fail
    refine HC.out.mono ?_
    rintro e w2 ⟨rfl, hk2⟩
    have hkn2 := hkn.trans hk2
    have HTK := Lib.hid (take_c (num := n) la (hrd.out.kn hk2) hok.out (HM.out w2 hkn2) (by omega) (by omega))
    clear hrd
    go_wp2_with fail
    refine HTK.out.mono ?_
    rintro e w3 ⟨n3, rfl, hk3, hmt⟩
    have hkn3 := hkn2.trans' hk3 (fun i hi e => by omega)
    cases htk : R.take n la with
    | none =>
     rw [htk] at hmt
     dsimp only at hmt
     have hn2 : (n3 == 0) = false := by rw [beq_eq_false_iff_ne]; exact hmt
     have hF : Hid (parseF text = none) := Lib.hid (by rw [HP.out, HST.out, htk]; rfl)
     have HN := Lib.hid hmt
     clear htk hmt HP
     go_wp2_with fail
     go_ret3
     refine ⟨hkn3, ?_⟩
     rw [hF.out]; exact ⟨n, n3, HN.out, rfl⟩
    | some R2 =>
     rw [htk] at hmt
     dsimp only at hmt
     obtain ⟨rfl, hok2, A2, hrd2, hv2, hs2⟩ := hmt
     have HGA : Hid (RS.gather f2 (n + 1) R2 lz = RS.gather (text.size + 1) 1 RS.none_ text) := Lib.hid (by rw [HST.out, htk]; rfl)
     have HRD2 := Lib.hid hrd2
     have HOK2 := Lib.hid hok2
     have HNL2 := Lib.hid (And.intro (hv2.trans hnl.out.1) (hs2.trans hnl.out.2))
     clear htk hrd2 hok2 hv2 hs2
     go_wp2_with fail
     go_roundw
     case rel => exact ⟨f2, n + 1, R2, A2, lz, rfl, by go_num, HGA, by omega, by omega, by omega, HRD2, HOK2, HNL2, hkn3⟩
     case measure => simp [strSz]; omega
end Go.Proofs.YtopmadkajacniaaGreatDoor
