/-
  Texts of this claim, laid together: GEval, GNone0, GAwake, GNone. Conditions: none.
-/
import Derived.Test.YtopmadkajacniaaGreatDoorQAM
set_option linter.unusedVariables false
set_option linter.unusedSimpArgs false
namespace Go.Proofs.YtopmadkajacniaaGreatDoor
def exB : ByteArray := ⟨#[116,111,107,101,110,32,110,117,109,32,91,48,45,57,93,43,10,115,111,114,116,32,101,10,114,117,108,101,32,101,32,49,32,65,100,100,32,61,32,101,58,49,32,39,43,32,101,58,50,10,114,117,108,101,32,101,32,57,32,78,117,109,32,61,32,110,117,109,10,98,114,97,99,107,101,116,32,101,32,39,40,32,39,41,10]⟩
def exC : GC := ⟨⟨#[110, 117, 109]⟩, ⟨#[91, 48, 45, 57, 93, 43]⟩, false⟩
instance : DecidableEq GC := fun a b => if h : a.name = b.name ∧ a.regex = b.regex ∧ a.layout = b.layout then isTrue (by cases a; cases b; obtain ⟨h0, h1, h2⟩ := h; simp only at *; subst_vars; rfl) else isFalse (fun e => h (by subst e; exact ⟨rfl, rfl, rfl⟩))
instance : DecidableEq GW := fun a b => if h : a.lit = b.lit ∧ a.name = b.name ∧ a.level = b.level ∧ a.sort = b.sort then isTrue (by cases a; cases b; obtain ⟨h0, h1, h2, h3⟩ := h; simp only at *; subst_vars; rfl) else isFalse (fun e => h (by subst e; exact ⟨rfl, rfl, rfl, rfl⟩))
instance : DecidableEq GL := fun a b => if h : a.number = b.number ∧ a.sort = b.sort ∧ a.cons = b.cons ∧ a.level = b.level ∧ a.words = b.words ∧ a.round = b.round then isTrue (by cases a; cases b; obtain ⟨h0, h1, h2, h3, h4, h5⟩ := h; simp only at *; subst_vars; rfl) else isFalse (fun e => h (by subst e; exact ⟨rfl, rfl, rfl, rfl, rfl, rfl⟩))
instance : DecidableEq RS := fun a b => if h : a.lits = b.lits ∧ a.cls = b.cls ∧ a.sorts = b.sorts ∧ a.names = b.names ∧ a.cons = b.cons ∧ a.rounds = b.rounds ∧ a.lines = b.lines then isTrue (by cases a; cases b; obtain ⟨h0, h1, h2, h3, h4, h5, h6⟩ := h; simp only at *; subst_vars; rfl) else isFalse (fun e => h (by subst e; exact ⟨rfl, rfl, rfl, rfl, rfl, rfl, rfl⟩))
instance : DecidableEq GP := fun a b => if h : a.cls = b.cls ∧ a.sort = b.sort ∧ a.level = b.level ∧ a.fixed = b.fixed then isTrue (by cases a; cases b; obtain ⟨h0, h1, h2, h3⟩ := h; simp only at *; subst_vars; rfl) else isFalse (fun e => h (by subst e; exact ⟨rfl, rfl, rfl, rfl⟩))
instance : DecidableEq GR := fun a b => if h : a.sort = b.sort ∧ a.cons = b.cons ∧ a.level = b.level ∧ a.parts = b.parts then isTrue (by cases a; cases b; obtain ⟨h0, h1, h2, h3⟩ := h; simp only at *; subst_vars; rfl) else isFalse (fun e => h (by subst e; exact ⟨rfl, rfl, rfl, rfl⟩))
def exE : ByteArray := ⟨#[101]⟩
def exR : RS := ⟨[⟨#[43]⟩, ⟨#[40]⟩, ⟨#[41]⟩], [exC], [exE], [exC.name, exE], [⟨#[65, 100, 100]⟩, ⟨#[78, 117, 109]⟩], [exE], [
 ⟨3, exE, ⟨#[65, 100, 100]⟩, 1, [⟨emptyB, exE, 1, true⟩, ⟨⟨#[43]⟩, emptyB, 0, false⟩, ⟨emptyB, exE, 2, true⟩], false⟩,
 ⟨4, exE, ⟨#[78, 117, 109]⟩, 9, [⟨emptyB, exC.name, 0, false⟩], false⟩,
 ⟨5, exE, emptyB, 9, [⟨⟨#[40]⟩, emptyB, 0, false⟩, ⟨emptyB, exE, 0, true⟩, ⟨⟨#[41]⟩, emptyB, 0, false⟩], true⟩]⟩
theorem ex_rest : RS.linkGo exR exR.lines [] [] = some ([⟨0, ⟨#[65, 100, 100]⟩, 1, [⟨-1, 0, 1, false⟩, ⟨0, -1, 0, true⟩, ⟨-1, 0, 2, false⟩]⟩, ⟨0, ⟨#[78, 117, 109]⟩, 9, [⟨3, -1, 0, false⟩]⟩, ⟨0, emptyB, 9, [⟨1, -1, 0, true⟩, ⟨-1, 0, 0, false⟩, ⟨2, -1, 0, true⟩]⟩], [(0, 2)]) := by decide +kernel
theorem ex_gather : RS.gather 81 1 RS.none_ exB = some exR := by decide +kernel
def decX (i : Nat) : ByteArray := if i < 10 then ⟨#[UInt8.ofNat (48 + i)]⟩ else if i < 100 then ⟨#[UInt8.ofNat (48 + i / 10), UInt8.ofNat (48 + i % 10)]⟩ else ⟨(Lib.decDigits i).toArray⟩
theorem decB_X : decB = decX := by
 funext i
 unfold decB decX
 split
 ·rename_i h; rw [Lib.decDigits_one h]
 ·split
  ·rename_i h1 h2; rw [Lib.decDigits_two h1 h2]
  ·rfl
theorem decS_X : decS = decX := decB_X
def litG (dec : Nat → ByteArray) (R : RS) : List GC := R.lits.zipIdx.map (fun p => ⟨(⟨#[108, 105, 116]⟩ : ByteArray) ++ dec p.2, escF p.1, false⟩)
theorem clsOf_G (R : RS) : clsOf R = litG decX R ++ R.cls := by rw [← decB_X]; rfl
def partG (dec : Nat → ByteArray) (R : RS) (q : GP) : ByteArray :=
 if 0 ≤ q.sort then (R.sorts.getD q.sort.toNat ⟨#[]⟩ ++ ⟨#[58]⟩) ++ dec q.level
 else if q.fixed = true then (⟨#[39]⟩ : ByteArray) ++ R.lits.getD q.cls.toNat ⟨#[]⟩
 else match R.cls[q.cls.toNat - R.lits.length]? with | some c => c.name | none => ⟨#[]⟩
def partsG (dec : Nat → ByteArray) (R : RS) (acc : ByteArray) (ps : List GP) : ByteArray := ps.foldl (fun a q => a ++ ((⟨#[32]⟩ : ByteArray) ++ partG dec R q)) acc
def ruleHeadG (dec : Nat → ByteArray) (R : RS) (r : GR) : ByteArray :=
 (((((⟨#[114, 117, 108, 101, 32]⟩ : ByteArray) ++ R.sorts.getD r.sort ⟨#[]⟩) ++ ⟨#[32]⟩) ++ dec r.level) ++ ⟨#[32]⟩ ++ (if r.cons.size = 0 then ⟨#[45]⟩ else r.cons)) ++ ⟨#[32, 61]⟩
def ruleG (dec : Nat → ByteArray) (R : RS) (br : List (Nat × Nat)) (r : GR) (i : Nat) : ByteArray :=
 if isBr br r i = true then
  ((((⟨#[98, 114, 97, 99, 107, 101, 116, 32]⟩ : ByteArray) ++ R.sorts.getD r.sort ⟨#[]⟩) ++ ⟨#[32]⟩) ++ partG dec R (r.parts.getD 0 paD)) ++ ⟨#[32]⟩ ++ partG dec R (r.parts.getD 2 paD)
 else partsG dec R (ruleHeadG dec R r) r.parts
def printG (dec : Nat → ByteArray) (R : RS) (br : List (Nat × Nat)) (rs : List GR) : List UInt8 := prCls R R.cls.length ++ prSort R R.sorts.length ++ (rs.zipIdx.take rs.length).flatMap (fun p => bl (ruleG dec R br p.1 p.2 ++ ⟨#[10]⟩))
theorem printL_G (R : RS) (br : List (Nat × Nat)) (rs : List GR) : printL R br rs = printG decX R br rs := by rw [← decS_X]; rfl
def exRs : List GR := [⟨0, ⟨#[65, 100, 100]⟩, 1, [⟨-1, 0, 1, false⟩, ⟨0, -1, 0, true⟩, ⟨-1, 0, 2, false⟩]⟩, ⟨0, ⟨#[78, 117, 109]⟩, 9, [⟨3, -1, 0, false⟩]⟩, ⟨0, emptyB, 9, [⟨1, -1, 0, true⟩, ⟨-1, 0, 0, false⟩, ⟨2, -1, 0, true⟩]⟩]
theorem ex_cls : (scanF (clsOf exR)).isSome = true := by rw [clsOf_G]; decide +kernel
theorem ex_print : printL exR [(0, 2)] exRs = exB.data.toList := by rw [printL_G]; decide +kernel
theorem ex_ok : PrOk exR [(0, 2)] exRs = true := by decide +kernel
set_option maxRecDepth 10000 in
theorem ex_parse : parseF exB = some (exR, exRs, [(0, 2)]) := by
 have h1 : RS.gather (exB.size + 1) 1 RS.none_ exB = some exR := ex_gather
 unfold parseF
 rw [h1]
 dsimp only
 have h2 : finF exR = some (exRs, [(0, 2)]) := by
  unfold finF
  rw [ex_rest]
  dsimp only
  rw [if_neg (by decide), if_neg (by rw [clsOf_G]; decide), if_pos ex_cls]
  rfl
 rw [h2]
end Go.Proofs.YtopmadkajacniaaGreatDoor
namespace Go.Proofs.YtopmadkajacniaaGreatDoor
open Go.Shelf Go.RowKit Go.Maps
set_option maxRecDepth 100000 in
set_option maxHeartbeats 8000000 in
theorem finish_none {B p : Nat} {A0 : RA} {w : World} (h : RdAt w B p RS.none_ A0) (ok : RSok RS.none_) (hvr : A0.vr = .slice none 0 0) :
  Calls Tryz.prog 68 #[ptr p] w fun e w' => e = .returned (.tuple #[.int .i64 0, .int .i64 12]) ∧ Kp (fun i => B ≤ i) w w' := by
 have HLN := Lib.hid (glink_c h ok hvr)
 clear h ok hvr
 go_enter Tryz.func68, Tryz.ntmps68
 go_wp2_with fail
 refine HLN.out.mono ?_
 rintro e w1 ⟨k, n, rfl, hk1, hm⟩
 change n = 0 ∧ ∃ A kb vps, LkAt w1 B p RS.none_ A kb [] vps [] ∧ (([] : List GR).length ≤ 120) ∧ A.sc = A0.sc at hm
 obtain ⟨rfl, A, kb, vps, hlk, h120, hsc⟩ := hm
 have HK1 := Lib.hid hk1
 obtain ⟨os, oc, hv2, _⟩ := hlk.rd.sorts.look
 obtain ⟨_, _, q2, q3, _⟩ := hlk.rd.cells
 rw [hv2] at q2
 change w1.cell? ⟨p, 2, none⟩ = some (.slice os 0 oc) at q2
 clear hlk hsc hk1 hv2 HLN h120
 go_wp2_with fail
 go_ret2
 exact ⟨rfl, HK1.out⟩
set_option maxRecDepth 100000 in
set_option maxHeartbeats 8000000 in
theorem parse_none (w : World) :
  Calls Tryz.prog 17 #[.string ByteArray.empty] w fun e w' => e = .returned (.tuple #[.pointer none, .int .i64 0, .int .i64 12]) ∧ Kn w w' := by
 have hmm := @run_makeMap Tryz.prog
 obtain ⟨bn, hbn⟩ : ∃ z, z = w.heap.size := ⟨_, rfl⟩
 obtain ⟨bc, hbc⟩ : ∃ z, z = w.heap.size + 1 := ⟨_, rfl⟩
 obtain ⟨br, hbr⟩ : ∃ z, z = w.heap.size + 1 + 1 := ⟨_, rfl⟩
 obtain ⟨p, hp⟩ : ∃ z, z = w.heap.size + 1 + 1 + 1 := ⟨_, rfl⟩
 obtain ⟨W, hW⟩ : ∃ z, z = (((w.alloc (.map #[] 0)).alloc (.map #[] 0)).alloc (.map #[] 0)).alloc (.cells #[.slice none 0 0, .slice none 0 0, .slice none 0 0, .slice none 0 0, .map none, .pointer none, .map (some bn), .map (some bc), .map (some br), .slice none 0 0] TGr) := ⟨_, rfl⟩
 have hkW : Kn w W := by rw [hW]; exact ((((Kp.refl _ _).alloc _).alloc _).alloc _).alloc _
 have e1 : (w.alloc (.map #[] 0)).heap.size = bc := by rw [size_alloc', hbc]
 have e2 : ((w.alloc (.map #[] 0)).alloc (.map #[] 0)).heap.size = br := by rw [size_alloc', e1, hbr, hbc]
 have e3 : (((w.alloc (.map #[] 0)).alloc (.map #[] 0)).alloc (.map #[] 0)).heap.size = p := by rw [size_alloc', e2, hp, hbr]
 have hrd : RdAt W w.heap.size p RS.none_ ⟨.slice none 0 0, .slice none 0 0, .slice none 0 0, .slice none 0 0, .map none, .pointer none, bn, bc, br, .slice none 0 0, []⟩ := by
  refine ⟨?_, OwnK.nil (k := 1), OwnK.nil, OwnK.nil (k := 1), ?_, ?_, ?_, OwnK.nil, rfl, (fun i a b => by simp at a), ⟨by show bn ≠ bc; omega, by show bn ≠ br; omega, by show bc ≠ br; omega⟩, (fun g hg => by cases hg), ⟨by omega, by show _ ≤ bn; omega, by show _ ≤ bc; omega, by show _ ≤ br; omega⟩⟩
  ·have := blk_new (((w.alloc (.map #[] 0)).alloc (.map #[] 0)).alloc (.map #[] 0)) (.cells #[.slice none 0 0, .slice none 0 0, .slice none 0 0, .slice none 0 0, .map none, .pointer none, .map (some bn), .map (some bc), .map (some br), .slice none 0 0] TGr)
   rw [e3, ← hW] at this; exact this
  ·have := (((MapA.new w TS).kn ((Kp.refl _ _).alloc (.map #[] 0))).kn ((Kp.refl _ _).alloc (.map #[] 0))).kn ((Kp.refl _ _).alloc (.cells #[.slice none 0 0, .slice none 0 0, .slice none 0 0, .slice none 0 0, .map none, .pointer none, .map (some bn), .map (some bc), .map (some br), .slice none 0 0] TGr))
   rw [← hW, ← hbn] at this; exact this
  ·have := (((MapA.new (w.alloc (.map #[] 0)) TS)).kn ((Kp.refl _ _).alloc (.map #[] 0))).kn ((Kp.refl _ _).alloc (.cells #[.slice none 0 0, .slice none 0 0, .slice none 0 0, .slice none 0 0, .map none, .pointer none, .map (some bn), .map (some bc), .map (some br), .slice none 0 0] TGr))
   rw [← hW, e1] at this; exact this
  ·have := (MapA.new ((w.alloc (.map #[] 0)).alloc (.map #[] 0)) TS).kn ((Kp.refl _ _).alloc (.cells #[.slice none 0 0, .slice none 0 0, .slice none 0 0, .slice none 0 0, .map none, .pointer none, .map (some bn), .map (some bc), .map (some br), .slice none 0 0] TGr))
   rw [← hW, e2] at this; exact this
 have HRD := Lib.hid hrd
 have HOK : Hid (RSok RS.none_) := Lib.hid ⟨by simp [RS.none_], by simp [RS.none_], by simp [RS.none_], by simp [RS.none_], fun s h => by simp [RS.none_] at h, fun s h => by simp [RS.none_] at h, fun s h => by simp [RS.none_] at h⟩
 have HW := Lib.hid hW
 have HB := Lib.hid (And.intro hbn (And.intro hbc (And.intro hbr hp)))
 clear hrd hW e1 e2 e3 hbn hbc hbr hp
 have HFI := Lib.hid (finish_none HRD.out HOK.out rfl)
 clear HRD HOK
 go_enter Tryz.func17, Tryz.ntmps17
 go_upto_region 4 with fail
 rw [← HB.out.2.2.2, ← HB.out.2.2.1, ← HB.out.2.1, ← HB.out.1, ← HW.out]
 go_wp2_with fail
 go_loopw [0, 6] (fun s0 s6 wr => s0 = .string ByteArray.empty ∧ s6 = .int .i64 1 ∧ wr = W) (fun _ _ _ => 0)
 case atStart => exact ⟨rfl, rfl, rfl⟩
 case round =>
  obtain ⟨rfl, rfl, rfl⟩ := hrel
  go_wp2_with fail
  refine HFI.out.mono ?_
  rintro e w2 ⟨rfl, hk2⟩
  have hkn2 := hkW.trans' hk2 (fun i hi e => by omega)
  go_wp2_with fail
  go_ret3
  exact ⟨rfl, hkn2⟩
end Go.Proofs.YtopmadkajacniaaGreatDoor
namespace Go.Proofs.YtopmadkajacniaaGreatDoor
open Go.RowKit Go.Maps
theorem example_c (w : World) : Calls Tryz.prog 65 #[] w fun e w' => e = .returned (.string exB) ∧ w = w' := by
 go_enter Tryz.func65, Tryz.ntmps65
 go_wp2_with fail
 go_ret
 exact ⟨rfl, rfl⟩
theorem ex_size : exB.size ≤ 1000000 := by decide
theorem ex_parts : ∀ r ∈ exRs, r.parts.length ≤ 1000000 := by decide
set_option maxRecDepth 100000 in
set_option maxHeartbeats 8000000 in
theorem awake_c (w : World) (hm : MaxLenAt w) : Calls Tryz.prog 16 #[] w fun e w' => e = .returned (.bool true) ∧ Kn w w' := by
 have HE := Lib.hid (example_c w)
 have HE2 := Lib.hid example_c
 have HPC := Lib.hid (gparse_c exB w hm ex_size)
 have HXP : Hid (exB.data.toList = printL exR [(0, 2)] exRs) := Lib.hid ex_print.symm
 obtain ⟨xb, hxb⟩ : ∃ x, x = exB := ⟨_, rfl⟩
 have HXB := Lib.hid hxb
 rw [← hxb] at HE HE2 HPC
 clear hxb
 go_enter Tryz.func16, Tryz.ntmps16
 go_wp2_with fail
 refine HE.out.mono ?_
 rintro e w1 ⟨rfl, rfl⟩
 clear HE
 go_wp2_with fail
 refine HPC.out.mono ?_
 rintro e w1 ⟨hk1, hpp⟩
 rw [HXB.out, ex_parse] at hpp
 obtain ⟨p, rfl, ⟨⟨B, A, kb, vps, hlk, _, _⟩, hok, hrl⟩⟩ := hpp
 have HK1 := Lib.hid hk1
 have HLK := Lib.hid hlk
 have HOK := Lib.hid hok
 have HL0 : Hid (Calls Tryz.prog 21 #[ptr p, .int .i64 0] w1 fun e w' => e = .returned (.tuple #[.string ⟨#[43]⟩, .bool true]) ∧ w1 = w') := Lib.hid (literal0_c hlk hok (by decide))
 clear HPC hk1 hlk hok
 go_wp2_with fail
 refine HL0.out.mono ?_
 rintro e w2 ⟨rfl, rfl⟩
 clear HL0
 have HRU := Lib.hid (rules_c HLK.out hrl ex_parts)
 go_wp2_with fail
 refine HRU.out.mono ?_
 rintro e w2 ⟨v, vps2, rfl, hru, hk2⟩
 obtain ⟨a, c, rfl, _⟩ := hru.row.row (fun C hC => by obtain ⟨i, hi, rfl⟩ := List.getElem_of_mem hC; simp [ruL])
 have hl3 : (List.zipWith ruL exRs vps2).length = 3 := by rw [List.length_zipWith, hru.len]; rfl
 rw [hl3]
 have HK2 := Lib.hid hk2
 have HPR := Lib.hid (print_c (HLK.out.kn hk2) HOK.out hrl ex_ok)
 have HS : Hid ((⟨(printL exR [(0, 2)] exRs).toArray⟩ : ByteArray) = xb) := Lib.hid (by rw [← HXP.out, HXB.out])
 rw [HS.out] at HPR
 clear HRU hru hl3 hk2 HLK
 go_wp2_with fail
 refine HPR.out.mono ?_
 rintro e w3 ⟨rfl, hk3⟩
 have HK3 := Lib.hid hk3
 clear hk3 HPR
 go_wp2_with fail
 refine (HE2.out w3).mono ?_
 rintro e w4 ⟨rfl, rfl⟩
 go_wp2_with fail
 go_ret
 exact ⟨rfl, (HK1.out.trans HK2.out).trans HK3.out⟩
end Go.Proofs.YtopmadkajacniaaGreatDoor
namespace Go.Proofs.YtopmadkajacniaaGreatDoor
open Go.RowKit Go.Maps
theorem zeros_c (n : Nat) (hn : n ≤ 2000000) (w : World) : ∃ w' z, (Instr.makeSlice 42 (.int .i64 (n : Int)) (.int .i64 (n : Int))).run Tryz.prog w = .ok (.slice (some ⟨w.heap.size, 0, none⟩) n n) w' ∧
  (convert 42 9 (.slice (some ⟨w.heap.size, 0, none⟩) n n)).run Tryz.prog w' = .ok (.string z) w' ∧ z.size = n ∧ Kn w w' := by
 obtain ⟨i0, hi, hz0, hz1, hz2⟩ := info_parts info_u8
 obtain ⟨w', h1, h2, h3⟩ := run_make_full (P := Tryz.prog) w 0 42 TU8 i0 _ 1 Tryz.underlying42 hi hz0 hz1 .i64 .i64 n (by rw [hz2]; omega) (by unfold maxLen; omega) (Nat.zero_le _)
 have hv := RowV.of_made h2
 refine ⟨w', strOfNums (List.replicate n 0), h1, ?_, by rw [strOfNums_size, List.length_replicate], Kp.of_grown (S := fun _ => False) h3 (fun k e _ => by cases e)⟩
 refine run_convert_bytes_arg w' 42 TU8 Tryz.underlying42 Tryz.underlying5 w.heap.size 0 n n (List.replicate n 0) (List.length_replicate ..) (fun i hi => ?_) 9 Tryz.underlying9
 have := hv.cell (i := i) (by rw [List.length_replicate]; exact hi)
 rw [Nat.zero_add, this, List.getElem_replicate, List.getD_eq_getElem?_getD, List.getElem?_replicate, if_pos hi]
 rfl
set_option maxRecDepth 100000 in
set_option maxHeartbeats 8000000 in
theorem gnone_c (n : Int) (s : ByteArray) (w : World) (hm : MaxLenAt w) : Calls Tryz.prog 4 #[.int .i64 n, .string s] w fun e w' => e = .returned (.bool true) ∧ Kn w w' := by
 have HA := Lib.hid (fun W hW => awake_c W hW)
 have HM := Lib.hid hm
 clear hm
 by_cases h60 : 60 < s.size
 ·have h60' : (60 : Int) < s.size := by omega
  have HAW := Lib.hid (HA.out w HM.out)
  clear HA h60
  go_enter Tryz.func4, Tryz.ntmps4
  go_wp2_with fail
  refine HAW.out.mono ?_
  rintro e w1 ⟨rfl, hk1⟩
  have HK := Lib.hid hk1
  clear hk1
  go_wp2_with fail
  go_ret
  exact ⟨rfl, HK.out⟩
 ·have h60' : ¬ (60 : Int) < s.size := by omega
  have HAW := Lib.hid (HA.out w HM.out)
  clear HA h60
  go_enter Tryz.func4, Tryz.ntmps4
  go_wp2_with fail
  refine HAW.out.mono ?_
  rintro e w1 ⟨rfl, hk1⟩
  have HK := Lib.hid hk1
  have HL := Lib.hid (literal_nil n w1)
  have HS := Lib.hid (gsort_nil s w1)
  have HB := Lib.hid (gbracket_nil n w1)
  clear hk1
  go_wp2_with fail
  refine HL.out.mono ?_
  rintro e w2 ⟨rfl, rfl⟩
  go_wp2_with fail
  refine HS.out.mono ?_
  rintro e w2 ⟨rfl, rfl⟩
  go_wp2_with fail
  refine HB.out.mono ?_
  rintro e w2 ⟨rfl, rfl⟩
  clear HL HS HB
  go_upto_region 8 with fail
  obtain ⟨w2, z, hmk, hcv, hz, hk2⟩ := zeros_c 1048577 (by omega) w1
  have HPL := Lib.hid (parse_long z w2 (by omega) (by omega))
  have HK2 := Lib.hid (HK.out.trans hk2)
  have HCV := Lib.hid hcv
  rw [show ((1048577 : Int)) = ((1048577 : Nat) : Int) from rfl, hmk]
  clear hmk hz hk2 hcv HK
  simp only [Result.andThen]
  rw [Oper.upon_value]
  go_wp2_with fail
  rw [HCV.out]
  simp only [Result.andThen]
  rw [Oper.upon_value]
  clear HCV
  go_wp2_with fail
  refine HPL.out.mono ?_
  rintro e w3 ⟨rfl, rfl⟩
  clear HPL
  have HPN := Lib.hid (parse_none w3)
  go_wp2_with fail
  refine HPN.out.mono ?_
  rintro e w4 ⟨rfl, hk4⟩
  have HK4 := Lib.hid (HK2.out.trans hk4)
  have HC := Lib.hid (classes_nil w4)
  have HS := Lib.hid (sorts_nil w4)
  have HR := Lib.hid (rules_nil w4)
  have HN := Lib.hid (scanner_nil w4)
  have HP := Lib.hid (print_nil w4)
  clear HPN hk4 HK2
  go_wp2_with fail
  refine HC.out.mono ?_
  rintro e w5 ⟨rfl, rfl⟩
  go_wp2_with fail
  refine HS.out.mono ?_
  rintro e w5 ⟨rfl, rfl⟩
  go_wp2_with fail
  refine HR.out.mono ?_
  rintro e w5 ⟨rfl, rfl⟩
  go_wp2_with fail
  refine HN.out.mono ?_
  rintro e w5 ⟨rfl, rfl⟩
  go_wp2_with fail
  refine HP.out.mono ?_
  rintro e w5 ⟨rfl, rfl⟩
  go_wp2_with fail
  go_ret
  exact ⟨rfl, HK4.out⟩
end Go.Proofs.YtopmadkajacniaaGreatDoor
