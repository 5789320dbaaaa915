/-
  Texts of this claim, laid together: GLink, GBuild, GEsc, GItoa, GClasses, GFin, GRules, GClR, GRuls. Conditions: none.
-/
import Derived.Test.YtopmadkajacniaaGreatDoorQAL
import Derived.Test.YtopmadkajacniaaGreatDoorQAA
import Derived.Shelf.Strings.BuilderK
import Derived.Laws.BytesArg
import Derived.Laws.AppendOwnNone
set_option linter.unusedVariables false
set_option linter.unusedSimpArgs false
namespace Go.Proofs.YtopmadkajacniaaGreatDoor
open Go.RowKit Go.Maps
theorem info_pa : (Tryz.prog.info? TPa).map (fun i => (i.zero, i.size, i.bytes)) = some (some (.agg #[.int .i64 0, .int .i64 0, .int .i64 0, .bool false]), 4, 32) := by kernel_rfl
theorem info_ru : (Tryz.prog.info? TRu).map (fun i => (i.zero, i.size, i.bytes)) = some (some (.agg #[.int .i64 0, .string ByteArray.empty, .int .i64 0, .slice none 0 0]), 4, 56) := by kernel_rfl
theorem parts_step {R : RS} {ws : List GW} {ps : List GP} {k : Nat} (h : R.parts ws = match R.parts (ws.drop k) with | some r => some (ps ++ r) | none => none) (hk : k < ws.length) :
  R.parts ws = match R.part ws[k] with | some x => (match R.parts (ws.drop (k + 1)) with | some r => some ((ps ++ [x]) ++ r) | none => none) | none => none := by
 rw [h, List.drop_eq_getElem_cons hk, RS.parts]
 cases R.part ws[k] with
 | none => rfl
 | some x =>
  dsimp only
  cases R.parts (ws.drop (k + 1)) with
  | none => rfl
  | some r => simp
theorem parts_end {R : RS} {ws : List GW} {ps : List GP} (h : R.parts ws = match R.parts (ws.drop ws.length) with | some r => some (ps ++ r) | none => none) : R.parts ws = some ps := by
 rw [h, List.drop_length]; simp [RS.parts]
theorem linkGo_step {R : RS} {xs : List GL} {k : Nat} {rs : List GR} {br : List (Nat × Nat)} {Z : Option (List GR × List (Nat × Nat))} (h : R.linkGo (xs.drop k) rs br = Z) (hk : k < xs.length) :
  Z = match R.ruleOf xs[k] with | some r => R.linkGo (xs.drop (k + 1)) (rs ++ [r]) (if xs[k].round = true then brPut br r.sort rs.length else br) | none => none := by
 rw [← h, List.drop_eq_getElem_cons hk]; rfl
theorem linkGo_end {R : RS} {xs : List GL} {rs : List GR} {br : List (Nat × Nat)} {Z : Option (List GR × List (Nat × Nat))} (h : R.linkGo (xs.drop xs.length) rs br = Z) : Z = some (rs, br) := by
 rw [← h, List.drop_length]; rfl
theorem idxS_lt (ss : List ByteArray) (x : ByteArray) : -1 ≤ Lib.idxOfS ss x ∧ Lib.idxOfS ss x < ss.length := by
 have gen : ∀ (zs : List ByteArray) (i : Nat), -1 ≤ Lib.idxFromS zs x i ∧ Lib.idxFromS zs x i < (i + zs.length : Nat) := by
  intro zs
  induction zs with
  | nil => intro i; simp [Lib.idxFromS]; omega
  | cons z zs ih =>
   intro i
   unfold Lib.idxFromS
   split
   ·simp; omega
   ·have := ih (i + 1); simp at this ⊢; omega
 have := gen ss 0
 unfold Lib.idxOfS; simpa using this
def LinkPost (B p : Nat) (R : RS) (A0 : RA) (w : World) (e : Ending) (w' : World) : Prop :=
 ∃ k n : Int, e = .returned (.tuple #[.int .i64 k, .int .i64 n]) ∧ Kp (fun i => B ≤ i) w w' ∧ match R.linkGo R.lines [] [] with
 | some (rs, br) => n = 0 ∧ ∃ A kb vps, LkAt w' B p R A kb rs vps br ∧ rs.length ≤ 120 ∧ A.sc = A0.sc
 | none => n ≠ 0
set_option maxRecDepth 100000 in
set_option maxHeartbeats 16000000 in
theorem glink_c {B p : Nat} {R : RS} {A0 : RA} {w : World} (h : RdAt w B p R A0) (ok : RSok R) (hvr : A0.vr = .slice none 0 0) :
  Calls Tryz.prog 118 #[ptr p] w (LinkPost B p R A0 w) := by
 have hmm := @run_makeMap Tryz.prog
 have hpl := h.lt
 have hpB := h.pB.1
 obtain ⟨_, _, _, _, q4, _⟩ := h.cells
 have f4 := h.fr 4
 obtain ⟨kb, hkb⟩ : ∃ z, z = w.heap.size := ⟨_, rfl⟩
 obtain ⟨w1, hw1⟩ : ∃ z, z = w.alloc (.map #[] 0) := ⟨_, rfl⟩
 have hk1 : Kn w w1 := by rw [hw1]; exact (Kp.refl _ _).alloc _
 have hm1 : MapA w1 TI kb (brM []) := by rw [hw1, hkb]; exact MapA.new w _
 obtain ⟨A, hA⟩ : ∃ A : RA, A = { A0 with bb := .map (some kb) } := ⟨_, rfl⟩
 have HAS : Hid (A.sc = A0.sc) := Qh (by rw [hA])
 obtain ⟨w2, hw2⟩ : ∃ z, z = w1.setCell ⟨p, 4, none⟩ (.map (some kb)) := ⟨_, rfl⟩
 have hk2 : K1 p w1 w2 := by rw [hw2]; exact Kp.set1 _ _
 have hr1 := h.kn hk1
 have hlk : LkAt w2 B p R A kb [] [] [] := by
  refine ⟨by rw [hw2, hA]; exact hr1.setBb _, by rw [hA], hm1.kp hk2 (by omega), ⟨?_, rfl, fun i a b => by simp at a⟩, ?_⟩
  ·rw [hA]; show OwnK w2 B TRu 4 A0.vr _; rw [hvr]; exact OwnK.nil
  ·rw [hA]; refine ⟨by omega, ?_, ?_, ?_⟩
   ·have := h.names.lt; show kb ≠ A0.bn; omega
   ·have := h.cons.lt; show kb ≠ A0.bc; omega
   ·have := h.rounds.lt; show kb ≠ A0.br; omega
 have hkw2 : Kp (fun i => B ≤ i) w w2 := (kn_b hk1).trans (hk2.mono (fun i hi e => by omega))
 have HLK := Qh hlk
 have HOK := Qh ok
 have HKW := Qh hkw2
 have HW := Qh (And.intro hw2 (And.intro hw1 hkb))
 obtain ⟨al, cl, hvl, _⟩ := lines_cells hlk.rd.lines hlk.rd.wl
 have hll := ok.lines
 have HVL := Qh hvl
 obtain ⟨_, _, _, _, _, _, _, _, _, q9⟩ := hlk.rd.cells
 rw [hvl] at q9
 obtain ⟨ip, hi, hz0, hz1, hz2⟩ := info_parts info_pa
 have HIP := Qh (And.intro hi (And.intro hz0 (And.intro hz1 hz2)))
 obtain ⟨ir, hi, hz0, hz1, hz2⟩ := info_parts info_ru
 have HIR := Qh (And.intro hi (And.intro hz0 (And.intro hz1 hz2)))
 clear h ok hvr hA hw1 hm1 hw2 hk2 hr1 hlk hkw2 hvl hi hz0 hz1 hz2 hk1 hkb
 go_enter Tryz.func118, Tryz.ntmps118
 go_upto_region 2 with fail
 rw [← HW.out.2.2, ← World.setCell_alloc_past _ _ _ _ hpl, ← HW.out.2.1, ← HW.out.1]
 clear q4 f4
 go_wp2_with fail
 go_loopw [22] (fun s22 wr => ∃ (k : Nat) (v : Value) (rs : List GR) (vps : List Value) (br : List (Nat × Nat)), s22 = .int .i64 k ∧ k ≤ R.lines.length ∧ Hid (R.linkGo (R.lines.drop k) rs br = R.linkGo R.lines [] []) ∧ Hid (rs.length = k) ∧ Hid (LkAt wr B p R { A with vr := v } kb rs vps br) ∧ Hid (Kp (fun i => B ≤ i) w wr)) (fun s22 _ => R.lines.length - (intOf s22).toNat)
 case atStart => exact ⟨0, A.vr, [], [], [], rfl, Nat.zero_le _, Qh rfl, Qh rfl, HLK, HKW⟩
 case round =>
  clear HLK HKW q9 hpl
  obtain ⟨k, v, rs, vps, br, rfl, hk, hgo, hrl, hlk, hkw⟩ := hrel
  by_cases hlt : k < R.lines.length
  ·have hst := linkGo_step hgo.out hlt
   have hwl := hlk.out.rd.wl
   obtain ⟨a2, c2, hve, hcs⟩ := lines_cells hlk.out.rd.lines hwl
   change A.vn = _ at hve
   rw [HVL.out] at hve
   injection hve with e1 e2 e3
   subst e1
   subst e3
   clear e2
   have hkv : k < A.vws.length := by have : A.vws.length = R.lines.length := hwl; omega
   obtain ⟨g, rfl, c0, c1, c2', c3, c4, c5⟩ := hcs k hlt hkv
   have hwrd := hlk.out.rd.words k hkv hlt
   have hwb := HOK.out.words _ (List.getElem_mem hlt)
   obtain ⟨aw, cw, hvw, _⟩ := words_cells hwrd
   obtain ⟨x, hx⟩ : ∃ x, x = R.lines[k] := ⟨_, rfl⟩
   change OwnK wr B TWd 4 (A.vws[k]'hkv) _ at hwrd
   change (A.vws[k]'hkv) = _ at hvw
   change wr.cell? _ = some (A.vws[k]'hkv) at c4
   rw [hvw] at c4 hwrd
   rw [← hx] at c0 c1 c2' c3 c4 c5 hwrd hst hwb
   have HST := Qh hst
   have HWR := Qh hwrd
   have HX := Qh hx
   have hxw := hwb.1
   have hx2 := hwb.2.1
   have hx3 := hwb.2.2
   obtain ⟨os, oc, hv2, _⟩ := hlk.out.rd.sorts.look
   obtain ⟨_, _, q2, _⟩ := hlk.out.rd.cells
   change A.vs = _ at hv2
   change wr.cell? _ = some A.vs at q2
   rw [hv2] at q2
   have hos := hlk.out.rd.sorts
   change OwnT wr B A.vs R.sorts at hos
   rw [hv2] at hos
   obtain ⟨b5, hb5⟩ : ∃ z, z = wr.heap.size := ⟨_, rfl⟩
   obtain ⟨w3, hw3⟩ : ∃ z, z = wr.alloc (.cells #[.int .i64 x.number, .string x.sort, .string x.cons, .int .i64 x.level, .slice aw x.words.length cw, .bool x.round] TLn) := ⟨_, rfl⟩
   have hk3 : Kn wr w3 := by rw [hw3]; exact (Kp.refl _ _).alloc _
   have hbb : w3.heap[b5]? = some (.cells #[.int .i64 x.number, .string x.sort, .string x.cons, .int .i64 x.level, .slice aw x.words.length cw, .bool x.round] TLn (0, 0)) := by rw [hw3, hb5]; exact blk_new _ _
   have HW3 := Qh (And.intro hw3 hb5)
   have r2 := kn_cell hk3 q2
   have d1 : w3.cell? ⟨b5, 1, none⟩ = some (.string x.sort) := by rw [cell_blk hbb]; rfl
   have HIS := Qh (fun W (hk : Kn w3 W) => index_c (w := W) (row_kp (row_kp hos hk3 (fun _ _ x => x)) hk (fun _ _ x => x)) x.sort (by have := HOK.out.sorts; omega))
   have hix2 := idxS_lt R.sorts x.sort
   have hsl := HOK.out.sorts
   have hRO : Hid (R.ruleOf x = if Lib.idxOfS R.sorts x.sort < 0 then none else match R.parts x.words with | some ps => some ⟨(Lib.idxOfS R.sorts x.sort).toNat, x.cons, x.level, ps⟩ | none => none) := Qh rfl
   obtain ⟨ix, hix⟩ : ∃ z, z = Lib.idxOfS R.sorts x.sort := ⟨_, rfl⟩
   rw [← hix] at HIS hix2 hRO
   have HBB := Qh hbb
   have HK3 := Qh hk3
   have hb5l := blk_lt hbb
   clear hst hwrd hx hvw hcs hwl hwb hos hw3 hb5 hk3 hbb hix q2 hv2
   go_upto_region 5 with fail
   rw [← HW3.out.2, ← HW3.out.1]
   clear c0 c1 c2' c3 c4 c5
   refine wp_region_held_drew (S := fun w' => w'.cell? ⟨p, 2, none⟩ = some (.slice os R.sorts.length oc) ∧ w'.cell? ⟨b5, 1, none⟩ = some (.string x.sort)) (by kernel_rfl) ⟨kn_cell ((Kp.refl _ _).drew) r2, kn_cell ((Kp.refl _ _).drew) d1⟩ (fun hHeld => ?_)
   obtain ⟨wd, hwd⟩ : ∃ zz, zz = w3.drew := ⟨_, rfl⟩
   have hkd : Kn w3 wd := by rw [hwd]; exact (Kp.refl _ _).drew
   rw [← hwd] at hHeld ⊢
   clear hwd
   refine TW 0 26 ?_
   refine TW 1 27 ?_
   refine TW 2 28 ?_
   refine TW 3 29 ?_
   refine TH 4 30 ?_
   refine TW 5 31 ?_
   refine TH 6 32 ?_
   refine RH 7 (fun K hK => ?_)
   go_simp
   go_at_call 80
   refine (HIS.out wd hkd).mono ?_
   rintro e9 w9 ⟨rfl, hw9⟩
   rw [hw9]
   clear hw9 w9
   dsimp only
   refine hK.out _ _ hHeld (fun hHeld => ?_)
   clear hK K
   try simp only [PP]
   refine TW 8 6 ?_
   refine RD ?_
   clear hHeld
   have hkd1 := HK3.out.trans hkd
   have HBd := Qh (hkd.blk HBB.out (fun x => x))
   have HLd := Qh (hlk.out.kn hkd1)
   have HKd := Qh (hkw.out.trans (kn_b hkd1))
   have HWd := Qh (HWR.out.kn hkd1)
   have e0 : wd.cell? ⟨b5, 0, none⟩ = some (.int .i64 x.number) := by rw [cell_blk HBd.out]; rfl
   have e2 : wd.cell? ⟨b5, 2, none⟩ = some (.string x.cons) := by rw [cell_blk HBd.out]; rfl
   have e3 : wd.cell? ⟨b5, 3, none⟩ = some (.int .i64 x.level) := by rw [cell_blk HBd.out]; rfl
   have e4 : wd.cell? ⟨b5, 4, none⟩ = some (.slice aw x.words.length cw) := by rw [cell_blk HBd.out]; rfl
   have e5 : wd.cell? ⟨b5, 5, none⟩ = some (.bool x.round) := by rw [cell_blk HBd.out]; rfl
   have hb5d := blk_lt HBd.out
   clear r2 d1 hkd HK3 HBB hlk HWR
   by_cases hneg : ix < 0
   ·have hF : Hid (R.linkGo R.lines [] [] = none) := Qh (by rw [HST.out, hRO.out, if_pos hneg])
    go_wp2_with fail
    go_ret2
    refine ⟨_, 9, rfl, HKd.out, ?_⟩
    rw [hF.out]; exact (by decide : (9 : Int) ≠ 0)
   ·have HRO : Hid (R.ruleOf x = match R.parts x.words with | some ps => some ⟨ix.toNat, x.cons, x.level, ps⟩ | none => none) := Qh (by rw [hRO.out, if_neg hneg])
    obtain ⟨sn, hsn⟩ : ∃ sn : Nat, (sn : Int) = ix := ⟨ix.toNat, by omega⟩
    have hsn2 : ix.toNat = sn := by omega
    rw [hsn2] at HRO
    clear hsn2
    subst hsn
    have hsn40 : sn < R.sorts.length := by omega
    clear hneg hix2 hRO
    obtain ⟨b7, hb7⟩ : ∃ z, z = wd.heap.size := ⟨_, rfl⟩
    obtain ⟨w4, hw4⟩ : ∃ z, z = wd.alloc (.cells #[.int .i64 (sn : Nat), .string x.cons, .int .i64 x.level, .slice none 0 0] TRu) := ⟨_, rfl⟩
    have hk4 : Kn wd w4 := by rw [hw4]; exact (Kp.refl _ _).alloc _
    have HB7 : Hid (w4.heap[b7]? = some (.cells #[.int .i64 (sn : Nat), .string x.cons, .int .i64 x.level, .slice none 0 0] TRu (0, 0))) := Qh (by rw [hw4, hb7]; exact blk_new _ _)
    have HW4 := Qh (And.intro hw4 hb7)
    have g4 := kn_cell hk4 e4
    have HK4 := Qh hk4
    have hb57 : b5 < b7 := by omega
    have HSZ4 : Hid (wd.heap.size ≤ w4.heap.size ∧ w4.heap.size = b7 + 1) := Qh ⟨hk4.size, by rw [HW4.out.1, size_alloc', HW4.out.2]⟩
    have hwdl : wd.heap.size ≤ b7 := by omega
    clear hw4 hb7 e0 hk4
    go_upto_region 9 with fail
    rw [← HW4.out.1, ← HW4.out.2]
    clear e2 e3 e4 e5
    go_wp2_with fail
    obtain ⟨wo, hwo⟩ : ∃ z, z = wr := ⟨_, rfl⟩
    subst hwo
    go_loopw [47] (fun s47 wi => ∃ (j : Nat) (ps : List GP) (vp : Value), s47 = .int .i64 j ∧ j ≤ x.words.length ∧ Hid (R.parts x.words = match R.parts (x.words.drop j) with | some r => some (ps ++ r) | none => none) ∧ Hid (ps.length = j) ∧ Hid (OwnK wi w4.heap.size TPa 4 vp (ps.map paL)) ∧ Hid (wi.heap[b7]? = some (.cells #[.int .i64 (sn : Nat), .string x.cons, .int .i64 x.level, vp] TRu (0, 0))) ∧ Kn wd wi) (fun s47 _ => x.words.length - (intOf s47).toNat)
    case atStart => exact ⟨0, [], _, rfl, Nat.zero_le _, Qh (by rw [List.drop_zero]; cases R.parts x.words <;> rfl), Qh rfl, Qh OwnK.nil, HB7, HK4.out⟩
    case round =>
     clear HB7 g4
     obtain ⟨j, ps, vp, rfl, hj, hpa, hpl, hvp, hb7, hkn⟩ := hrel
     have HKi := Qh (HKd.out.trans (kn_b hkn))
     have HB5i := Qh (hkn.blk HBd.out (fun x => x))
     have hb7l := blk_lt hb7.out
     have hwi := hkn.size
     by_cases hlj : j < x.words.length
     ·obtain ⟨a3, c3, hve3, hcs3⟩ := words_cells (HWd.out.kn hkn)
      injection hve3 with e1 e2 e3
      subst e1
      subst e3
      clear e2
      obtain ⟨gw, rfl, k0, k1, k2, k3⟩ := hcs3 j hlj
      have hps := parts_step hpa.out hlj
      obtain ⟨y, hy⟩ : ∃ y, y = x.words[j] := ⟨_, rfl⟩
      rw [← hy] at k0 k1 k2 k3 hps
      have HPST := Qh hps
      obtain ⟨w6, hw6⟩ : ∃ z, z = wr.alloc (.cells #[.string y.lit, .string y.name, .int .i64 y.level, .bool y.sort] TWd) := ⟨_, rfl⟩
      have hk6 : Kn wr w6 := by rw [hw6]; exact (Kp.refl _ _).alloc _
      obtain ⟨b9, hb9⟩ : ∃ z, z = wr.heap.size := ⟨_, rfl⟩
      have hb9b : w6.heap[b9]? = some (.cells #[.string y.lit, .string y.name, .int .i64 y.level, .bool y.sort] TWd (0, 0)) := by rw [hw6, hb9]; exact blk_new _ _
      have m0 : w6.cell? ⟨b9, 0, none⟩ = some (.string y.lit) := by rw [cell_blk hb9b]; rfl
      have m1 : w6.cell? ⟨b9, 1, none⟩ = some (.string y.name) := by rw [cell_blk hb9b]; rfl
      have m2 : w6.cell? ⟨b9, 2, none⟩ = some (.int .i64 y.level) := by rw [cell_blk hb9b]; rfl
      have m3 : w6.cell? ⟨b9, 3, none⟩ = some (.bool y.sort) := by rw [cell_blk hb9b]; rfl
      have HW6 := Qh (And.intro hw6 hb9)
      have hkn6 := hkn.trans hk6
      have HPA := Qh (part2_c y (HLd.out.rd.kn hkn6) HOK.out)
      obtain ⟨av, cv, hvp2, _⟩ := hvp.out.row (fun C hC => by obtain ⟨z, _, rfl⟩ := List.mem_map.1 hC; rfl)
      rw [List.length_map] at hvp2
      subst hvp2
      have HB76 := Qh (hk6.blk hb7.out (fun x => x))
      have HVP6 := Qh (hvp.out.kn hk6)
      have hb96 := blk_lt hb9b
      clear hps hy hcs3 hw6 hb9 hb9b
      go_upto_region 12 with fail
      rw [← HW6.out.2, ← HW6.out.1]
      clear k0 k1 k2 k3
      go_wp2_with fail
      refine HPA.out.mono ?_
      rintro e9 w7 ⟨hk7, q, okk, rfl, hmt⟩
      have hkn7 := hkn6.trans hk7
      obtain ⟨w8, hw8⟩ : ∃ z, z = w7.alloc (.cells #[.int .i64 q.cls, .int .i64 q.sort, .int .i64 q.level, .bool q.fixed] TPa) := ⟨_, rfl⟩
      have hk8 : Kn w7 w8 := by rw [hw8]; exact (Kp.refl _ _).alloc _
      obtain ⟨b10, hb10⟩ : ∃ z, z = w7.heap.size := ⟨_, rfl⟩
      have hbw : w8.heap[b10]? = some (.cells #[.int .i64 q.cls, .int .i64 q.sort, .int .i64 q.level, .bool q.fixed] TPa (0, 0)) := by rw [hw8, hb10]; exact blk_new _ _
      have HW8 := Qh (And.intro hw8 hb10)
      have hkn8 := hkn7.trans hk8
      have v0 : w8.cell? ⟨b10, 0, none⟩ = some (.int .i64 q.cls) := by rw [cell_blk hbw]; rfl
      have v1 : w8.cell? ⟨b10, 1, none⟩ = some (.int .i64 q.sort) := by rw [cell_blk hbw]; rfl
      have v2 : w8.cell? ⟨b10, 2, none⟩ = some (.int .i64 q.level) := by rw [cell_blk hbw]; rfl
      have v3 : w8.cell? ⟨b10, 3, none⟩ = some (.bool q.fixed) := by rw [cell_blk hbw]; rfl
      have hbl8 := blk_lt hbw
      have HB78 := Qh ((hk7.trans hk8).blk HB76.out (fun x => x))
      have HV8 := Qh ((HVP6.out.kn hk7).kn hk8)
      have HB58 := Qh (((hk6.trans hk7).trans hk8).blk HB5i.out (fun x => x))
      have r3 : w8.cell? ⟨b7, 3, none⟩ = some (.slice av ps.length cv) := by rw [cell_blk HB78.out]; rfl
      have o0 : w8.cell? ⟨b5, 0, none⟩ = some (.int .i64 x.number) := by rw [cell_blk HB58.out]; rfl
      have hb78 := blk_lt HB78.out
      have HK8 := Qh (HKd.out.trans (kn_b hkn8))
      clear hw8 hb10 hk8 hbw m0 m1 m2 m3 hk6
      cases hpf2 : R.part y with
      | none =>
       rw [hpf2] at hmt
       dsimp only at hmt
       subst hmt
       have hF5 : Hid (R.linkGo R.lines [] [] = none) := Qh (by rw [HST.out, HRO.out, HPST.out, hpf2])
       clear hpf2
       go_upto_region 13 with fail
       rw [← HW8.out.1, ← HW8.out.2]
       go_wp2_with fail
       go_ret2
       refine ⟨_, 9, rfl, HK8.out, ?_⟩
       rw [hF5.out]; exact (by decide : (9 : Int) ≠ 0)
      | some q' =>
       rw [hpf2] at hmt
       dsimp only at hmt
       obtain ⟨rfl, rfl⟩ := hmt
       have HPF6 : Hid (R.parts x.words = match R.parts (x.words.drop (j + 1)) with | some r => some ((ps ++ [q]) ++ r) | none => none) := Qh (by rw [HPST.out, hpf2])
       have HKL : Hid (Kn w8 (w8.alloc (.cells #[.int .i64 q.cls, .int .i64 q.sort, .int .i64 q.level, .bool q.fixed] TPa))) := Qh ((Kp.refl _ _).alloc _)
       have HV9 := Qh (HV8.out.kn HKL.out)
       have HBL : Hid ((w8.alloc (.cells #[.int .i64 q.cls, .int .i64 q.sort, .int .i64 q.level, .bool q.fixed] TPa)).heap[w8.heap.size]? = some (.cells #[.int .i64 q.cls, .int .i64 q.sort, .int .i64 q.level, .bool q.fixed] TPa (0, 0))) := Qh (blk_new _ _)
       have HB79 := Qh (HKL.out.blk HB78.out (fun x => x))
       have hpsl := hpl.out
       have HSZ8 : Hid (w4.heap.size ≤ w8.heap.size) := Qh (by have h2 := HSZ4.out.2; have h4 := hb78; omega)
       have HPSL := Qh hpsl
       clear hpf2 hpsl
       go_upto_region 13 with fail
       rw [← HW8.out.1, ← HW8.out.2]
       go_upto_region 16 with (first | (at_builtin; go_must (refine wpList_append_k _ rfl (.tmp 62) (.tmp 64) 159 rfl w4.heap.size TPa ip (.agg #[.int .i64 0, .int .i64 0, .int .i64 0, .bool false]) 4 32 Tryz.underlying159 HIP.out.1 HIP.out.2.1 HIP.out.2.2.1 HIP.out.2.2.2 (by rfl) (by decide) (.slice av ps.length cv) (ps.map paL) rfl HV9.out w8.heap.size 1 rfl #[.int .i64 q.cls, .int .i64 q.sort, .int .i64 q.level, .bool q.fixed] TPa (0, 0) HBL.out rfl (by simp [Value.oneCell']) (by rw [List.length_map, HPSL.out]; simp only [maxLen]; omega) (by rw [List.length_map, HPSL.out]; omega) (by have h1 := HSZ8.out; rw [size_alloc']; omega) ?_; intro v1 w9 hown hka hat; obtain ⟨av1, cv1, hv1, _⟩ := hown.row (k := 4) (fun D hD => by simp only [List.mem_append, List.mem_map, List.mem_singleton] at hD; rcases hD with ⟨y, _, rfl⟩ | rfl <;> rfl); obtain ⟨nl1, hv1⟩ : ∃ n, v1 = .slice av1 n cv1 := ⟨_, hv1⟩; subst hv1; have HKA := Qh (hka.mono (T := fun i => w4.heap.size ≤ i) (fun i hi e => (HV9.out.lt i e.symm).1)); have HOW := Qh hown; have hb79 := blk_ty HB79.out hka (ty_row HV9.out) (by decide); have r49 : w9.cell? ⟨b7, 3, none⟩ = some (.slice av ps.length cv) := (by rw [cell_blk hb79]; rfl); have f49 := frozen_blk hb79 3; have HBX := Qh hb79; clear hb79 hown hka hat)))
       obtain ⟨vN, hvN⟩ : ∃ z, z = Value.slice av1 (ps.length + 1) cv1 := ⟨_, rfl⟩
       obtain ⟨w10, hw10⟩ : ∃ z, z = w9.setCell ⟨b7, 3, none⟩ vN := ⟨_, rfl⟩
       rw [← hvN, ← hw10]
       have HO2 : Hid (OwnK w9 w4.heap.size TPa 4 vN ((ps ++ [q]).map paL)) := Qh (by
        have h1 := HOW.out
        rw [List.length_append, List.length_map, List.length_singleton, ← hvN] at h1
        rw [List.map_append]
        exact h1)
       have hk9 : K1 b7 w9 w10 := by rw [hw10]; exact Kp.set1 _ _
       have hkn10 : Kn wd w10 := ((hkn8.trans HKL.out).trans' HKA.out (fun i hi e => by have h2 := HSZ4.out.1; omega)).trans' hk9 (fun i hi e => by omega)
       have HB10 := Qh (blk_set HBX.out 3 vN)
       rw [← hw10] at HB10
       have HO10 := Qh (HO2.out.kp hk9 (fun g hg e => by subst e; obtain ⟨cur, h1⟩ := row_blk HO2.out hg; exact blk_type HBX.out h1 (by decide)))
       clear hvN hw10 HOW HKA
       go_wp2_with fail
       go_roundw
       case rel => exact ⟨j + 1, ps ++ [q], vN, by go_num, by omega, HPF6, Qh (by simp [hpl.out]), HO10, HB10, hkn10⟩
       case measure => simp [intOf]; omega
     ·obtain rfl : j = x.words.length := by omega
      have hpe := parts_end hpa.out
      obtain ⟨ap, cp, hvp2, _⟩ := hvp.out.row (fun C hC => by obtain ⟨z, _, rfl⟩ := List.mem_map.1 hC; rfl)
      rw [List.length_map] at hvp2
      subst hvp2
      have HROS : Hid (R.ruleOf x = some ⟨sn, x.cons, x.level, ps⟩) := Qh (by rw [HRO.out, hpe])
      have HLi := Qh (HLd.out.kn hkn)
      have o5 : wr.cell? ⟨b5, 5, none⟩ = some (.bool x.round) := by rw [cell_blk HB5i.out]; rfl
      have HPB := Qh (OwnK.base (B' := B) hvp.out (by have h1 := HLd.out.rd.pB.1; have h2 := HLd.out.rd.lt; have h3 := HSZ4.out.1; omega))
      obtain ⟨og, ocg, hvg, _⟩ := HLi.out.ru.row.row (fun C hC => by obtain ⟨i, hi, rfl⟩ := List.getElem_of_mem hC; simp [ruL])
      rw [List.length_zipWith, HLi.out.ru.len, Nat.min_self] at hvg
      change v = _ at hvg
      have HVG := Qh hvg
      have hrk := hrl.out
      have HNB7 : Hid (∀ g, v.ownBlock = some g → g ≠ b7) := Qh (fun g hg => by have h1 := (HLd.out.ru.row.lt g hg).2; omega)
      have HNP7 : Hid (b7 ≠ p) := Qh (fun e => by have h1 := HLd.out.rd.lt; omega)
      have HRSL := Qh hrk
      clear hpe hvg hrk
      cases hro : x.round with
      | true =>
       rw [hro] at o5
       have hF : Hid (R.linkGo (R.lines.drop (k + 1)) (rs ++ [⟨sn, x.cons, x.level, ps⟩]) (brPut br sn rs.length) = R.linkGo R.lines [] []) := Qh (by rw [HST.out, HROS.out]; simp only [hro]; rfl)
       obtain ⟨_, _, _, q3, q4, _⟩ := HLi.out.rd.cells
       change wr.cell? _ = some v at q3
       rw [HVG.out] at q3
       have hbbk := HLi.out.bb
       rw [hbbk] at q4
       clear hro hbbk
       go_upto_region 18 with fail
       refine wp_region_held_drew (S := fun w' => w'.cell? ⟨p, 4, none⟩ = some (.map (some kb)) ∧ w'.cell? ⟨p, 3, none⟩ = some (.slice og rs.length ocg)) (by kernel_rfl) ⟨kn_cell ((Kp.refl _ _).drew) q4, kn_cell ((Kp.refl _ _).drew) q3⟩ (fun hHeld => ?_)
       obtain ⟨wp, hwp⟩ : ∃ zz, zz = wr.drew := ⟨_, rfl⟩
       have hkp : Kn wr wp := by rw [hwp]; exact (Kp.refl _ _).drew
       rw [← hwp] at hHeld ⊢
       clear hwp
       refine TW 0 70 ?_
       refine TW 1 71 ?_
       refine TW 2 72 ?_
       refine TW 3 73 ?_
       refine TH 4 74 ?_
       refine TW 5 75 ?_
       refine TW 6 76 ?_
       refine TW 7 77 ?_
       refine TW 8 78 ?_
       refine TW 9 79 ?_
       refine TH 10 80 ?_
       refine TW 11 81 ?_
       refine RH 12 (fun K hK => ?_)
       refine step_putbr (by rfl) (.tmp 74) (.tmp 75) (.tmp 81) (by rfl) (by rfl) (HLi.out.brk.kn hkp) sn rs.length (by omega) (by rfl) (by rfl) ?_
       intro w11 hm11 hk11
       have HL11 := Qh ((HLi.out.kn hkp).putBr hm11 hk11)
       have hSm := tym_one (HLi.out.brk.kn hkp)
       have HB11 := Qh (blk_tym (hkp.blk hb7.out (fun x => x)) hk11 hSm)
       have HP11 := Qh (row_tym (HPB.out.kn hkp) hk11 hSm)
       have KW11 := (HKi.out.trans (kn_b hkp)).trans (hk11.mono (fun i hi e => by have h1 := HLi.out.ne.1; omega))
       have hX1 : w11.cell? ⟨p, 4, none⟩ = some (.map (some kb)) := by obtain ⟨_, _, _, _, q, _⟩ := HL11.out.rd.cells; rw [HL11.out.bb] at q; exact q
       have hX2 : w11.cell? ⟨p, 3, none⟩ = some (.slice og rs.length ocg) := by obtain ⟨_, _, _, q, _⟩ := HL11.out.rd.cells; change w11.cell? _ = some v at q; rw [HVG.out] at q; exact q
       clear hm11 hk11 hSm
       dsimp only
       refine hK.out _ _ ⟨hX1, hX2⟩ (fun hHeld => ?_)
       clear hK K hX1 hX2
       refine RD ?_
       clear hHeld q3 q4
       have n0 : w11.cell? ⟨b7, 0, none⟩ = some (.int .i64 (sn : Nat)) := by rw [cell_blk HB11.out]; rfl
       have n1 : w11.cell? ⟨b7, 1, none⟩ = some (.string x.cons) := by rw [cell_blk HB11.out]; rfl
       have n2 : w11.cell? ⟨b7, 2, none⟩ = some (.int .i64 x.level) := by rw [cell_blk HB11.out]; rfl
       have n3 : w11.cell? ⟨b7, 3, none⟩ = some (.slice ap ps.length cp) := by rw [cell_blk HB11.out]; rfl
       go_upto_region 19 with fail
       refine rgn (fun w' => w'.cell? ⟨p, 3, none⟩ = some (.slice og rs.length ocg) ∧ w'.cell? ⟨b7, 0, none⟩ = some (.int .i64 (sn : Nat)) ∧ w'.cell? ⟨b7, 1, none⟩ = some (.string x.cons) ∧ w'.cell? ⟨b7, 2, none⟩ = some (.int .i64 x.level) ∧ w'.cell? ⟨b7, 3, none⟩ = some (.slice ap ps.length cp)) (X := []) ⟨kn_cell ((Kp.refl _ _).drew) ((cell_blk HL11.out.blk 3).trans (congrArg some HVG.out)), kn_cell ((Kp.refl _ _).drew) n0, kn_cell ((Kp.refl _ _).drew) n1, kn_cell ((Kp.refl _ _).drew) n2, kn_cell ((Kp.refl _ _).drew) n3⟩ (fun hX hHeld => ?_)
       refine tw 0 82 ?_
       refine tw 1 83 ?_
       refine tw 2 84 ?_
       refine tw 3 85 ?_
       refine tw 4 86 ?_
       refine tk 5 87 ?_
       refine tk 6 88 ?_
       refine ro 7 (fun K hK => ?_)
       obtain ⟨wd, hwd⟩ : ∃ zz, zz = w11.drew := ⟨_, rfl⟩
       have KN0 : Kn w11 wd := by rw [hwd]; exact (Kp.refl _ _).drew
       have KW0 := KW11.trans (Kp.weak (S := fun k => B ≤ k) KN0)
       have RH0 := Qh (HL11.out.kn KN0)
       rw [← hwd] at hHeld ⊢
       clear hwd
       go_simp
       obtain ⟨y1, hw1⟩ : ∃ zz, zz = wd.alloc (.cells #[.int .i64 (sn : Nat), .string x.cons, .int .i64 x.level, .slice ap ps.length cp] TRu) := ⟨_, rfl⟩
       have hk1 : Kn wd y1 := by rw [hw1]; exact (Kp.refl _ _).alloc _
       obtain ⟨ge, hge⟩ : ∃ zz, zz = wd.heap.size := ⟨_, rfl⟩
       have GE : y1.heap[ge]? = some (.cells #[.int .i64 (sn : Nat), .string x.cons, .int .i64 x.level, .slice ap ps.length cp] TRu (0, 0)) := by rw [hw1, hge]; exact blk_new _ _
       have RH1 := Qh (RH0.out.kn hk1)
       have KW1 := KW0.trans (Kp.weak hk1)
       have KN1 := KN0.trans hk1
       rw [← hw1, ← hge]
       refine hK.out _ _ (⟨kn_cell hk1 hHeld.1, kn_cell hk1 hHeld.2.1, kn_cell hk1 hHeld.2.2.1, kn_cell hk1 hHeld.2.2.2.1, kn_cell hk1 hHeld.2.2.2.2⟩) (fun hHeld => ?_)
       clear hw1 hge hk1
       clear hK K
       try simp only [PP]
       refine ro 8 (fun K hK => ?_)
       have hownO : OwnK y1 B TRu 4 (.slice og rs.length ocg) (List.zipWith ruL rs vps) := by have h1 := RH1.out.ru.row; rw [HVG.out] at h1; exact h1
       refine step_append_k y1 (by rfl) _ _ 46 (by rfl) B TRu ir (.agg #[.int .i64 0, .string ByteArray.empty, .int .i64 0, .slice none 0 0]) 4 56 Tryz.underlying46 HIR.out.1 HIR.out.2.1 HIR.out.2.2.1 HIR.out.2.2.2 (by rfl) (by decide) (.slice og rs.length ocg) (List.zipWith ruL rs vps) (by rfl) hownO ge 1 (by rfl) #[.int .i64 (sn : Nat), .string x.cons, .int .i64 x.level, .slice ap ps.length cp] TRu (0, 0) GE (by rfl) (by simp [Value.oneCell']) (by rw [List.length_zipWith, RH1.out.ru.len, Nat.min_self, HRSL.out]; simp only [maxLen]; omega) (by rw [List.length_zipWith, RH1.out.ru.len, Nat.min_self, HRSL.out]; omega) (by have := RH1.out.pB.1; have := RH1.out.lt; omega) ?_
       intro v1 y2 hown hka hat
       have hke : Kp (fun k => B ≤ k) y1 y2 := hka.mono (fun i hi e => (hownO.lt i e.symm).1)
       have KX := KW1.trans hke
       obtain ⟨av1, cv1, hv1, _⟩ := hown.row (k := 4) (fun D hD => by simp only [List.mem_append, List.mem_map, List.mem_singleton] at hD; (first | (rcases hD with ⟨y, _, rfl⟩ | rfl <;> rfl) | (exact (by rcases hD with hD | rfl; obtain ⟨i, hi, rfl⟩ := List.getElem_of_mem hD; simp [ruL]; rfl))))
       obtain ⟨nl1, hv1⟩ : ∃ n, v1 = .slice av1 n cv1 := ⟨_, hv1⟩
       have HV1 := Qh hv1
       have HWD := row_kp HP11.out KN1 (fun _ _ x => x)
       have RHP := Qh (LkAt.putRule (r := ⟨sn, x.cons, x.level, ps⟩) (vp := .slice ap ps.length cp) RH1.out HWD hown (by show Kp (fun k => some k = v.ownBlock) _ _; rw [HVG.out]; exact hka))
       have hpb : y2.heap[p]? = some (.cells (rdC { A with vr := v }) TGr (0, 0)) := blk_ty RH1.out.blk hka (ty_row hownO) (by decide)
       have xp1 := frozen_blk hpb 3
       have xq1 : y2.cell? ⟨p, 3, none⟩ = some (.slice og rs.length ocg) := by rw [cell_blk hpb]; exact congrArg some HVG.out
       refine hK.out _ _ (⟨xq1, kp_cell hka hHeld.2.1 (fun e => HNB7.out b7 (by rw [HVG.out]; exact e.symm) rfl), kp_cell hka hHeld.2.2.1 (fun e => HNB7.out b7 (by rw [HVG.out]; exact e.symm) rfl), kp_cell hka hHeld.2.2.2.1 (fun e => HNB7.out b7 (by rw [HVG.out]; exact e.symm) rfl), kp_cell hka hHeld.2.2.2.2 (fun e => HNB7.out b7 (by rw [HVG.out]; exact e.symm) rfl)⟩) (fun hHeld => ?_)
       clear hown hka hat hv1 hke hownO
       clear hK K
       try simp only [PP]
       refine tw 9 91 ?_
       refine tw 10 92 ?_
       refine tw 11 93 ?_
       refine re 12 (fun K hK => ?_)
       rw [HV1.out]
       go_simp
       rw [← HV1.out]
       obtain ⟨w9, hw9⟩ : ∃ zz, zz = y2.setCell ⟨p, 3, none⟩ v1 := ⟨_, rfl⟩
       have hk9 : K1 p y2 w9 := by rw [hw9]; exact Kp.set1 _ _
       rw [← hw9] at RHP ⊢
       have KX9 := KX.trans (hk9.mono (fun i hi e => by have := RHP.out.pB.1; omega))
       clear xp1 xq1 hpb hw9 hk9 KX hHeld
       refine hK.out _ _ ?_
       clear hK K
       go_wp2_with fail
       go_roundw
       case rel => exact ⟨k + 1, v1, rs ++ [⟨sn, x.cons, x.level, ps⟩], vps ++ [.slice ap ps.length cp], brPut br sn rs.length, by go_num, by omega, hF, Qh (by rw [List.length_append, HRSL.out]; rfl), RHP, Qh KX9⟩
       case measure => simp [intOf]; omega
      | false =>
       rw [hro] at o5
       have hF : Hid (R.linkGo (R.lines.drop (k + 1)) (rs ++ [⟨sn, x.cons, x.level, ps⟩]) br = R.linkGo R.lines [] []) := Qh (by rw [HST.out, HROS.out]; simp only [hro]; rfl)
       have n0 : wr.cell? ⟨b7, 0, none⟩ = some (.int .i64 (sn : Nat)) := by rw [cell_blk hb7.out]; rfl
       have n1 : wr.cell? ⟨b7, 1, none⟩ = some (.string x.cons) := by rw [cell_blk hb7.out]; rfl
       have n2 : wr.cell? ⟨b7, 2, none⟩ = some (.int .i64 x.level) := by rw [cell_blk hb7.out]; rfl
       have n3 : wr.cell? ⟨b7, 3, none⟩ = some (.slice ap ps.length cp) := by rw [cell_blk hb7.out]; rfl
       have KWi := HKi.out
       clear hro
       go_upto_region 19 with fail
       refine rgn (fun w' => w'.cell? ⟨p, 3, none⟩ = some (.slice og rs.length ocg) ∧ w'.cell? ⟨b7, 0, none⟩ = some (.int .i64 (sn : Nat)) ∧ w'.cell? ⟨b7, 1, none⟩ = some (.string x.cons) ∧ w'.cell? ⟨b7, 2, none⟩ = some (.int .i64 x.level) ∧ w'.cell? ⟨b7, 3, none⟩ = some (.slice ap ps.length cp)) (X := []) ⟨kn_cell ((Kp.refl _ _).drew) ((cell_blk HLi.out.blk 3).trans (congrArg some HVG.out)), kn_cell ((Kp.refl _ _).drew) n0, kn_cell ((Kp.refl _ _).drew) n1, kn_cell ((Kp.refl _ _).drew) n2, kn_cell ((Kp.refl _ _).drew) n3⟩ (fun hX hHeld => ?_)
       refine tw 0 82 ?_
       refine tw 1 83 ?_
       refine tw 2 84 ?_
       refine tw 3 85 ?_
       refine tw 4 86 ?_
       refine tk 5 87 ?_
       refine tk 6 88 ?_
       refine ro 7 (fun K hK => ?_)
       obtain ⟨wd, hwd⟩ : ∃ zz, zz = wr.drew := ⟨_, rfl⟩
       have KN0 : Kn wr wd := by rw [hwd]; exact (Kp.refl _ _).drew
       have KW0 := KWi.trans (Kp.weak (S := fun k => B ≤ k) KN0)
       have RH0 := Qh (HLi.out.kn KN0)
       rw [← hwd] at hHeld ⊢
       clear hwd
       go_simp
       obtain ⟨y1, hw1⟩ : ∃ zz, zz = wd.alloc (.cells #[.int .i64 (sn : Nat), .string x.cons, .int .i64 x.level, .slice ap ps.length cp] TRu) := ⟨_, rfl⟩
       have hk1 : Kn wd y1 := by rw [hw1]; exact (Kp.refl _ _).alloc _
       obtain ⟨ge, hge⟩ : ∃ zz, zz = wd.heap.size := ⟨_, rfl⟩
       have GE : y1.heap[ge]? = some (.cells #[.int .i64 (sn : Nat), .string x.cons, .int .i64 x.level, .slice ap ps.length cp] TRu (0, 0)) := by rw [hw1, hge]; exact blk_new _ _
       have RH1 := Qh (RH0.out.kn hk1)
       have KW1 := KW0.trans (Kp.weak hk1)
       have KN1 := KN0.trans hk1
       rw [← hw1, ← hge]
       refine hK.out _ _ (⟨kn_cell hk1 hHeld.1, kn_cell hk1 hHeld.2.1, kn_cell hk1 hHeld.2.2.1, kn_cell hk1 hHeld.2.2.2.1, kn_cell hk1 hHeld.2.2.2.2⟩) (fun hHeld => ?_)
       clear hw1 hge hk1
       clear hK K
       try simp only [PP]
       refine ro 8 (fun K hK => ?_)
       have hownO : OwnK y1 B TRu 4 (.slice og rs.length ocg) (List.zipWith ruL rs vps) := by have h1 := RH1.out.ru.row; rw [HVG.out] at h1; exact h1
       refine step_append_k y1 (by rfl) _ _ 46 (by rfl) B TRu ir (.agg #[.int .i64 0, .string ByteArray.empty, .int .i64 0, .slice none 0 0]) 4 56 Tryz.underlying46 HIR.out.1 HIR.out.2.1 HIR.out.2.2.1 HIR.out.2.2.2 (by rfl) (by decide) (.slice og rs.length ocg) (List.zipWith ruL rs vps) (by rfl) hownO ge 1 (by rfl) #[.int .i64 (sn : Nat), .string x.cons, .int .i64 x.level, .slice ap ps.length cp] TRu (0, 0) GE (by rfl) (by simp [Value.oneCell']) (by rw [List.length_zipWith, RH1.out.ru.len, Nat.min_self, HRSL.out]; simp only [maxLen]; omega) (by rw [List.length_zipWith, RH1.out.ru.len, Nat.min_self, HRSL.out]; omega) (by have := RH1.out.pB.1; have := RH1.out.lt; omega) ?_
       intro v1 y2 hown hka hat
       have hke : Kp (fun k => B ≤ k) y1 y2 := hka.mono (fun i hi e => (hownO.lt i e.symm).1)
       have KX := KW1.trans hke
       obtain ⟨av1, cv1, hv1, _⟩ := hown.row (k := 4) (fun D hD => by simp only [List.mem_append, List.mem_map, List.mem_singleton] at hD; (first | (rcases hD with ⟨y, _, rfl⟩ | rfl <;> rfl) | (exact (by rcases hD with hD | rfl; obtain ⟨i, hi, rfl⟩ := List.getElem_of_mem hD; simp [ruL]; rfl))))
       obtain ⟨nl1, hv1⟩ : ∃ n, v1 = .slice av1 n cv1 := ⟨_, hv1⟩
       have HV1 := Qh hv1
       have HWD := row_kp HPB.out KN1 (fun _ _ x => x)
       have RHP := Qh (LkAt.putRule (r := ⟨sn, x.cons, x.level, ps⟩) (vp := .slice ap ps.length cp) RH1.out HWD hown (by show Kp (fun k => some k = v.ownBlock) _ _; rw [HVG.out]; exact hka))
       have hpb : y2.heap[p]? = some (.cells (rdC { A with vr := v }) TGr (0, 0)) := blk_ty RH1.out.blk hka (ty_row hownO) (by decide)
       have xp1 := frozen_blk hpb 3
       have xq1 : y2.cell? ⟨p, 3, none⟩ = some (.slice og rs.length ocg) := by rw [cell_blk hpb]; exact congrArg some HVG.out
       refine hK.out _ _ (⟨xq1, kp_cell hka hHeld.2.1 (fun e => HNB7.out b7 (by rw [HVG.out]; exact e.symm) rfl), kp_cell hka hHeld.2.2.1 (fun e => HNB7.out b7 (by rw [HVG.out]; exact e.symm) rfl), kp_cell hka hHeld.2.2.2.1 (fun e => HNB7.out b7 (by rw [HVG.out]; exact e.symm) rfl), kp_cell hka hHeld.2.2.2.2 (fun e => HNB7.out b7 (by rw [HVG.out]; exact e.symm) rfl)⟩) (fun hHeld => ?_)
       clear hown hka hat hv1 hke hownO
       clear hK K
       try simp only [PP]
       refine tw 9 91 ?_
       refine tw 10 92 ?_
       refine tw 11 93 ?_
       refine re 12 (fun K hK => ?_)
       rw [HV1.out]
       go_simp
       rw [← HV1.out]
       obtain ⟨w9, hw9⟩ : ∃ zz, zz = y2.setCell ⟨p, 3, none⟩ v1 := ⟨_, rfl⟩
       have hk9 : K1 p y2 w9 := by rw [hw9]; exact Kp.set1 _ _
       rw [← hw9] at RHP ⊢
       have KX9 := KX.trans (hk9.mono (fun i hi e => by have := RHP.out.pB.1; omega))
       clear xp1 xq1 hpb hw9 hk9 KX hHeld
       refine hK.out _ _ ?_
       clear hK K
       go_wp2_with fail
       go_roundw
       case rel => exact ⟨k + 1, v1, rs ++ [⟨sn, x.cons, x.level, ps⟩], vps ++ [.slice ap ps.length cp], br, by go_num, by omega, hF, Qh (by rw [List.length_append, HRSL.out]; rfl), RHP, Qh KX9⟩
       case measure => simp [intOf]; omega
  ·obtain rfl : k = R.lines.length := by omega
   have he := linkGo_end hgo.out
   have HE := Qh he
   have h120 : rs.length ≤ 120 := by have := hrl.out; omega
   clear he
   go_wp2_with fail
   go_ret2
   refine ⟨0, 0, rfl, hkw.out, ?_⟩
   rw [HE.out]
   exact ⟨rfl, _, kb, vps, hlk.out, h120, HAS.out⟩
end Go.Proofs.YtopmadkajacniaaGreatDoor
namespace Go.Proofs.YtopmadkajacniaaGreatDoor
open Go.Shelf Go.RowKit
abbrev TB : TypeId := 134
abbrev TU8 : TypeId := 5
theorem xB : (Tryz.prog.info? TB).map (·.size) = some 2 := by kernel_rfl
theorem info_u8 : (Tryz.prog.info? TU8).map (fun i => (i.zero, i.size, i.bytes)) = some (some (.int .u8 0), 1, 1) := by kernel_rfl
set_option maxHeartbeats 1000000 in
set_option maxRecDepth 100000 in
theorem copyCheck_used (b : Nat) (w : World) (h0 : w.cell? ⟨b, 0, none⟩ = some (.pointer (some ⟨b, 0, none⟩))) :
  Calls Tryz.prog 120 #[.pointer (some ⟨b, 0, none⟩)] w fun e w' => e = .returned (.tuple #[]) ∧ w' = w := by
 obtain ⟨j, hj, _⟩ := Option.map_eq_some_iff.1 xB
 go_enter Tryz.func120, Tryz.ntmps120
 go_wp2_with fail
 try rw [Lib.run_neq_ptr_same w _ Tryz.underlying132 hj]
 go_wp2_with fail
 go_end0
 exact ⟨rfl, rfl⟩
set_option maxHeartbeats 1000000 in
set_option maxRecDepth 100000 in
theorem copyCheck_fresh (b : Nat) (w : World) (h0 : w.cell? ⟨b, 0, none⟩ = some (.pointer none)) (hsh : w.shape? b = some (TB, 2)) (hfz : w.frozen? ⟨b, 0, none⟩ = false) :
  Calls Tryz.prog 120 #[.pointer (some ⟨b, 0, none⟩)] w fun e w' => e = .returned (.tuple #[]) ∧ w' = w.setCell ⟨b, 0, none⟩ (.pointer (some ⟨b, 0, none⟩)) := by
 obtain ⟨j, hj, hjs⟩ := Option.map_eq_some_iff.1 xB
 go_enter Tryz.func120, Tryz.ntmps120
 go_wp2_with fail
 rw [Lib.run_to_unsafe w ⟨b, 0, none⟩ Tryz.underlying132 Tryz.underlying257 hj (by rw [hjs]; decide) hsh (Nat.zero_lt_succ 1)]
 simp only [Result.andThen]
 rw [Oper.upon_value]
 go_wp2_with fail
 rw [run_callFunc_extern Tryz.func158 (by kernel_rfl) (by kernel_rfl) (by kernel_rfl) (e := Extern.AbiNoEscape.same) (by kernel_rfl)]
 rw [Lib.run_noEscape]
 simp only [Result.andThen]
 rw [Oper.upon_value]
 go_wp2_with fail
 rw [Lib.run_from_unsafe w ⟨b, 0, none⟩ Tryz.underlying257 Tryz.underlying132 hj hsh Tryz.Builder_Extra_169.liesBuilder]
 simp only [Result.andThen]
 rw [Oper.upon_value]
 go_wp2_with fail
 go_end0
 exact ⟨rfl, rfl⟩
theorem copyCheck_k (B b : Nat) (bs : List Value) (w : World) (h : Lib.IsBuilderF TB TU8 B b bs w) :
  Calls Tryz.prog 120 #[.pointer (some ⟨b, 0, none⟩)] w fun e w' => e = .returned (.tuple #[]) ∧ (Lib.BuilderAtF TB TU8 B b (.pointer (some ⟨b, 0, none⟩)) bs w' ∧ Below B w w') := by
 rcases h with h | h
 ·refine (copyCheck_fresh b w h.cell0 h.shape h.frozen0).mono ?_
  rintro e w' ⟨rfl, rfl⟩
  exact ⟨rfl, h.used _, (Below.refl B w).setCell (p := ⟨b, 0, none⟩) h.1 _⟩
 ·refine (copyCheck_used b w h.cell0).mono ?_
  rintro e w' ⟨rfl, rfl⟩
  exact ⟨rfl, h, Below.refl B _⟩
set_option maxHeartbeats 2000000 in
set_option maxRecDepth 100000 in
theorem WriteByte_k (B b : Nat) (bs : List Value) (c : Int) (w : World) (h : Lib.IsBuilderF TB TU8 B b bs w) (hlen : bs.length + 1 ≤ 140737488355328) (hBw : B ≤ w.heap.size) :
  Calls Tryz.prog 131 #[.pointer (some ⟨b, 0, none⟩), .int .u8 c] w fun e w' => e = .returned .nilIface ∧ (Lib.BuilderAtF TB TU8 B b (.pointer (some ⟨b, 0, none⟩)) (bs ++ [.int .u8 c]) w' ∧ Below B w w') := by
 obtain ⟨i0, hi, hz0, hz1, hz2⟩ := info_parts info_u8
 have HCC := Qh (copyCheck_k B b bs w h)
 go_enter Tryz.func131, Tryz.ntmps131
 go_wp2_with fail
 refine HCC.out.mono ?_
 rintro e w1 ⟨rfl, h1, hb1⟩
 obtain ⟨hB, v, hbk, hown, hne⟩ := h1
 have c0 : w1.cell? ⟨b, 0, none⟩ = some (.pointer (some ⟨b, 0, none⟩)) := by rw [Lib.cell_of_heap hbk]; rfl
 have c1 : w1.cell? ⟨b, 1, none⟩ = some v := by rw [Lib.cell_of_heap hbk]; rfl
 go_wp2_with (at_builtin; refine wpList_append_ownF _ rfl _ _ 42 rfl B TU8 i0 (.int .u8 0) 1 1 Tryz.underlying42 hi hz0 hz1 hz2 rfl (by decide) _ _ _ rfl (hown.alloc _) ⟨w1.heap.size, 0, none⟩ 1 1 [.int .u8 c] rfl rfl ?c1 ?c2 ?c3 ?c4 ?c5 ?_)
 case c1 =>
  intro j u hj
  match j, hj with
  | 0, hj => simp at hj; subst hj; simp [Addr.add]
 case c2 => intro u hu; simp at hu; subst hu; rfl
 case c3 => unfold maxLen; omega
 case c4 => omega
 case c5 => have := hb1.size; simp; omega
 intro v' w2 hown' hgrow _
 have hlt : b < w1.heap.size := blk_lt hbk
 have hb2 : w2.heap[b]? = some (.cells #[.pointer (some ⟨b, 0, none⟩), v] TB (0, 0)) := by
  rw [hgrow.block b (by simp; omega) (fun e => hne e.symm), Lib.alloc_old w1 _ b hlt]
  exact hbk
 have d0 : w2.cell? ⟨b, 0, none⟩ = some (.pointer (some ⟨b, 0, none⟩)) := by rw [Lib.cell_of_heap hb2]; rfl
 have d1 : w2.cell? ⟨b, 1, none⟩ = some v := by rw [Lib.cell_of_heap hb2]; rfl
 have f1 : w2.frozen? ⟨b, 1, none⟩ = false := Lib.frozen_of_heap hb2 1
 obtain ⟨g, cap, rfl⟩ : ∃ g cap, v' = .slice (some ⟨g, 0, none⟩) (bs.length + 1) cap := by
  rcases hown'.2 with ⟨_, h0⟩ | ⟨g, cap, cur, fz, hv, _⟩
  ·omega
  ·exact ⟨g, cap, hv⟩
 go_wp2_with fail
 go_ret
 refine ⟨rfl, ?_, ?_⟩
 ·exact Lib.BuilderAtF.put (T := TB) (e := TU8) hB hb2 (bs' := bs ++ [.int .u8 c]) (by simpa using hown') (by decide)
 ·exact ((hb1.alloc (by have := hb1.size; omega) _).grown hgrow (by have := hb1.size; simp; omega) (fun k hk => (hown.lt k hk).1)).setCell (p := ⟨b, 1, none⟩) hB _
set_option maxHeartbeats 2000000 in
set_option maxRecDepth 100000 in
theorem WriteString_k (B b : Nat) (bs : List Value) (s : ByteArray) (w : World) (h : Lib.IsBuilderF TB TU8 B b bs w) (hlen : bs.length + s.size ≤ 140737488355328) (hBw : B ≤ w.heap.size) :
  Calls Tryz.prog 69 #[.pointer (some ⟨b, 0, none⟩), .string s] w fun e w' => e = .returned (.tuple #[.int .i64 s.size, .nilIface]) ∧ (Lib.BuilderAtF TB TU8 B b (.pointer (some ⟨b, 0, none⟩)) (bs ++ Lib.strCells s) w' ∧ Below B w w') := by
 obtain ⟨i0, hi, hz0, hz1, hz2⟩ := info_parts info_u8
 have HCC := Qh (copyCheck_k B b bs w h)
 go_enter Tryz.func69, Tryz.ntmps69
 go_wp2_with fail
 refine HCC.out.mono ?_
 rintro e w1 ⟨rfl, h1, hb1⟩
 obtain ⟨hB, v, hbk, hown, hne⟩ := h1
 have c0 : w1.cell? ⟨b, 0, none⟩ = some (.pointer (some ⟨b, 0, none⟩)) := by rw [Lib.cell_of_heap hbk]; rfl
 have c1 : w1.cell? ⟨b, 1, none⟩ = some v := by rw [Lib.cell_of_heap hbk]; rfl
 go_wp2_with (at_builtin; refine Lib.wpList_append_own_stringF _ rfl _ _ 42 9 rfl B TU8 i0 Tryz.underlying42 Tryz.underlying9 hi hz0 hz1 hz2 _ _ _ rfl hown s rfl ?c3 ?c4 ?c5 ?_)
 case c3 => unfold maxLen; omega
 case c4 => omega
 case c5 => have := hb1.size; omega
 intro v' w2 hown' hgrow _
 have hlt : b < w1.heap.size := blk_lt hbk
 have hb2 : w2.heap[b]? = some (.cells #[.pointer (some ⟨b, 0, none⟩), v] TB (0, 0)) := by
  rw [hgrow.block b hlt (fun e => hne e.symm)]
  exact hbk
 have d0 : w2.cell? ⟨b, 0, none⟩ = some (.pointer (some ⟨b, 0, none⟩)) := by rw [Lib.cell_of_heap hb2]; rfl
 have d1 : w2.cell? ⟨b, 1, none⟩ = some v := by rw [Lib.cell_of_heap hb2]; rfl
 have f1 : w2.frozen? ⟨b, 1, none⟩ = false := Lib.frozen_of_heap hb2 1
 obtain ⟨ao, n', cap, rfl⟩ : ∃ ao n' cap, v' = .slice ao n' cap := by
  rcases hown'.2 with ⟨hv, _⟩ | ⟨g, cap, cur, fz, hv, _⟩
  ·exact ⟨_, _, _, hv⟩
  ·exact ⟨_, _, _, hv⟩
 go_wp2_with fail
 go_ret2
 refine ⟨rfl, ?_, ?_⟩
 ·exact Lib.BuilderAtF.put (T := TB) (e := TU8) hB hb2 (bs' := bs ++ Lib.strCells s) (by simpa [Lib.strCells_length] using hown') (by decide)
 ·exact (hb1.grown hgrow (by have := hb1.size; omega) (fun k hk => (hown.lt k hk).1)).setCell (p := ⟨b, 1, none⟩) hB _
def hx (d : Nat) : UInt8 := hexs.data.toList.getD d 0
def escL (c : Nat) : List UInt8 := if inS specialOut c = true then [92, c.toUInt8] else if 32 < c ∧ c < 127 then [c.toUInt8] else [92, 120, hx (c / 16), hx (c % 16)]
def escTo (s : ByteArray) (k : Nat) : List UInt8 := (List.range k).flatMap (fun i => escL (bt s i))
def escF (s : ByteArray) : ByteArray := ⟨(escTo s s.size).toArray⟩
theorem escTo_succ (s : ByteArray) (k : Nat) : escTo s (k + 1) = escTo s k ++ escL (bt s k) := by
 unfold escTo; rw [List.range_succ, List.flatMap_append]; simp
theorem escL_len (c : Nat) : (escL c).length ≤ 4 := by
 unfold escL; split
 ·simp
 ·split <;> simp
theorem escTo_len (s : ByteArray) : ∀ k, (escTo s k).length ≤ 4 * k
 | 0 => by simp [escTo]
 | k + 1 => by have := escTo_len s k; have := escL_len (bt s k); rw [escTo_succ, List.length_append]; omega
theorem byteCells_app (a b : List UInt8) : Lib.byteCells (a ++ b) = Lib.byteCells a ++ Lib.byteCells b := by simp [Lib.byteCells]
theorem byteCells_len (l : List UInt8) : (Lib.byteCells l).length = l.length := by simp [Lib.byteCells]
theorem and15 (c : Nat) (h : c < 256) : bits BinOp.and IntKind.u8 (c : Int) 15 = ((c % 16 : Nat) : Int) := by
 have key : ∀ c : _root_.Fin 256, bits BinOp.and IntKind.u8 ((c.val : Nat) : Int) 15 = ((c.val % 16 : Nat) : Int) := by decide +kernel
 exact key ⟨c, h⟩
theorem hx_get (d : Nat) (h : d < 16) : hx d = (⟨#[48, 49, 50, 51, 52, 53, 54, 55, 56, 57, 97, 98, 99, 100, 101, 102]⟩ : ByteArray)[d]'h := by
 have key : ∀ d : _root_.Fin 16, hx d.val = (⟨#[48, 49, 50, 51, 52, 53, 54, 55, 56, 57, 97, 98, 99, 100, 101, 102]⟩ : ByteArray)[d.val]'d.isLt := by decide +kernel
 exact key ⟨d, h⟩
theorem hxi (d : Nat) (h : d < 16) {i : Nat} (hi : i < 16) (hp : i < (⟨#[48, 49, 50, 51, 52, 53, 54, 55, 56, 57, 97, 98, 99, 100, 101, 102]⟩ : ByteArray).size) (e : i = d) : (((⟨#[48, 49, 50, 51, 52, 53, 54, 55, 56, 57, 97, 98, 99, 100, 101, 102]⟩ : ByteArray)[i]'hp).toNat : Int) = ((hx d).toNat : Nat) := by
 subst e
 rw [hx_get i h]
theorem Kp.below' {w w' : World} {B : Nat} (hk : Kn w w') (hB : B ≤ w.heap.size) : Below B w w' := ⟨hk.os, hk.tape, hk.output, hk.size, fun k hk2 => hk.block k (Nat.lt_of_lt_of_le hk2 hB) (fun x => x)⟩
theorem isB_kn {w w' : World} {B b : Nat} {bs : List Value} (h : Lib.IsBuilderF TB TU8 B b bs w) (hk : Kn w w') : Lib.IsBuilderF TB TU8 B b bs w' := by
 have key : ∀ p, Lib.BuilderAtF TB TU8 B b p bs w → Lib.BuilderAtF TB TU8 B b p bs w' := fun p h => by
  obtain ⟨h1, v, h2, h3, h4⟩ := h
  refine ⟨h1, v, hk.blk h2 (fun x => x), ⟨h3.1, ?_⟩, h4⟩
  rcases h3.2 with h5 | ⟨g, cap, cur, fz, h5, h6, h7, h8⟩
  ·exact .inl h5
  ·exact .inr ⟨g, cap, cur, fz, h5, h6, hk.blk h7 (fun x => x), h8⟩
 exact h.imp (key _) (key _)
theorem strOf4_le (a b : Int) : ((⟨#[92, 120]⟩ : ByteArray) ++ strOfNums [a, b]).size = 4 := by
 show ((⟨#[92, 120]⟩ : ByteArray) ++ strOfNums [a, b]).data.size = 4
 rw [ByteArray.data_append]; simp [strOfNums]
theorem esc4 {a b : Int} {x y : UInt8} (ha : a = (x.toNat : Nat)) (hb : b = (y.toNat : Nat)) : Lib.strCells ((⟨#[92, 120]⟩ : ByteArray) ++ strOfNums [a, b]) = Lib.byteCells [92, 120, x, y] := by
 subst ha; subst hb
 unfold Lib.strCells
 rw [ByteArray.data_append]; simp [strOfNums, Lib.byteCells]
theorem strOf2_le (c : Nat) : ((⟨#[92]⟩ : ByteArray) ++ strOfNums [(c : Int)]).size = 2 := by
 show ((⟨#[92]⟩ : ByteArray) ++ strOfNums [(c : Int)]).data.size = 2
 rw [ByteArray.data_append]; simp [strOfNums]
theorem esc2 (c : Nat) (h : c < 256) : Lib.strCells ((⟨#[92]⟩ : ByteArray) ++ strOfNums [(c : Int)]) = Lib.byteCells [92, c.toUInt8] := by
 unfold Lib.strCells
 rw [ByteArray.data_append]; simp [strOfNums, Lib.byteCells]
theorem esc1 (c : Nat) (h : c < 256) : Lib.byteCells [c.toUInt8] = [.int .u8 (c : Int)] := by
 simp [Lib.byteCells]; omega
set_option maxHeartbeats 4000000 in
set_option maxRecDepth 100000 in
theorem escape_c (s : ByteArray) (w : World) (hs : s.size ≤ 1000000) :
  Calls Tryz.prog 82 #[.string s] w fun e w' => e = .returned (.string (escF s)) ∧ Kn w w' := by
 have HI := Qh (fun c W => Tryz.strings_IndexByte ⟨#[124, 42, 43, 63, 40, 41, 91, 93, 46, 92]⟩ c W)
 have HEF : Hid (escF s = ⟨(escTo s s.size).toArray⟩) := Qh rfl
 go_enter Tryz.func82, Tryz.ntmps82
 go_wp2_with fail
 obtain ⟨w1, hw1⟩ : ∃ z, z = w.alloc (.cells #[.pointer none, .slice none 0 0] TB) := ⟨_, rfl⟩
 obtain ⟨b, hb⟩ : ∃ z, z = w.heap.size := ⟨_, rfl⟩
 have hb0 : w1.heap[b]? = some (.cells #[.pointer none, .slice none 0 0] TB (0, 0)) := by rw [hw1, hb]; exact blk_new _ _
 have hB0 : Lib.IsBuilderF TB TU8 b b (Lib.byteCells (escTo s 0)) w1 := .inl ⟨Nat.le_refl _, _, hb0, ⟨by simp [escTo, Lib.byteCells], .inl ⟨rfl, rfl⟩⟩, by simp [Value.ownBlock]⟩
 have hbel : Below b w w1 := by rw [hw1, hb]; exact (Below.refl _ w).alloc (Nat.le_refl _) _
 rw [← hw1, ← hb]
 have HB0 := Qh hB0
 have HBE := Qh hbel
 have hbs : b ≤ w.heap.size := by omega
 have hFIN : Hid (∀ w', Below b w w' → Kn w w') := Qh (fun w' h => by rw [hb] at h; exact Kp.of_below h)
 clear hw1 hb hb0 hB0 hbel
 go_loopw [8] (fun i wr => ∃ k : Nat, k ≤ s.size ∧ i = .int .i64 k ∧ Hid (Lib.IsBuilderF TB TU8 b b (Lib.byteCells (escTo s k)) wr) ∧ Hid (Below b w wr)) (fun i _ => s.size - (intOf i).toNat)
 case atStart => exact ⟨0, Nat.zero_le _, rfl, HB0, HBE⟩
 case round =>
  clear HB0 HBE
  obtain ⟨k, hk, rfl, hbi, hbe⟩ := hrel
  by_cases hlt : k < s.size
  ·have hlt' : (k : Int) < s.size := by omega
   have hE := bt_in hlt
   have hc := bt_lt s k
   have HES := Qh (escTo_succ s k)
   have hel := escTo_len s k
   by_cases h1 : inS specialOut (bt s k) = true
   ·have hIx : 0 ≤ Lib.indexByte (⟨#[124, 42, 43, 63, 40, 41, 91, 93, 46, 92]⟩ : ByteArray).data.toList (((s[k].toNat : Nat) : Int).toNat.toUInt8) := by
     rw [hE] at h1; simpa [inS, specialOut] using h1
    have HL : Hid (escL (bt s k) = [92, (bt s k).toUInt8]) := Qh (by unfold escL; rw [if_pos h1])
    have HE := Qh hE
    obtain ⟨ix, hix⟩ : ∃ ix, ix = Lib.indexByte (⟨#[124, 42, 43, 63, 40, 41, 91, 93, 46, 92]⟩ : ByteArray).data.toList (((s[k].toNat : Nat) : Int).toNat.toUInt8) := ⟨_, rfl⟩
    have HIX := Qh hix
    rw [← hix] at hIx
    clear hE h1 hix
    go_wp2_with fail
    refine (HI.out _ _).mono ?_
    rintro e w' ⟨rfl, rfl⟩
    rw [← HIX.out]
    go_wp2_with fail
    rw [run_convert_bytes_arg _ 42 TU8 Tryz.underlying42 Tryz.underlying5 w'.heap.size 0 1 1 [((s[k].toNat : Nat) : Int)] rfl (fun i hi => by
     have e : i = 0 := by omega
     subst e
     rw [cell_blk (blk_new w' _)]; rfl) 9 Tryz.underlying9]
    simp only [Result.andThen]
    rw [Oper.upon_value]
    go_wp2_with fail
    refine (WriteString_k b b _ _ _ (hbi.out.alloc _) (by have := byteCells_len (escTo s k); have := strOf2_le s[k].toNat; omega) (by have := hbe.out.size; simp; omega)).mono ?_
    rintro e w2 ⟨rfl, hb2, he2⟩
    have HB2 : Hid (Lib.IsBuilderF TB TU8 b b (Lib.byteCells (escTo s (k + 1))) w2) := Qh (.inr (by
     rw [HES.out, HL.out, byteCells_app, ← esc2 _ hc, HE.out]; exact hb2))
    have HE2 := Qh ((hbe.out.alloc (by have := hbe.out.size; omega) _).trans he2)
    clear hb2 he2
    go_wp2_with fail
    go_roundw
    case rel => exact ⟨k + 1, by omega, by go_num, HB2, HE2⟩
    case measure => simp [intOf]; omega
   ·have hIx : ¬ 0 ≤ Lib.indexByte (⟨#[124, 42, 43, 63, 40, 41, 91, 93, 46, 92]⟩ : ByteArray).data.toList (((s[k].toNat : Nat) : Int).toNat.toUInt8) := by
     rw [hE] at h1; simpa [inS, specialOut] using h1
    obtain ⟨ix, hix⟩ : ∃ ix, ix = Lib.indexByte (⟨#[124, 42, 43, 63, 40, 41, 91, 93, 46, 92]⟩ : ByteArray).data.toList (((s[k].toNat : Nat) : Int).toNat.toUInt8) := ⟨_, rfl⟩
    have HIX := Qh hix
    rw [← hix] at hIx
    clear hix
    by_cases h2 : 32 < bt s k ∧ bt s k < 127
    ·have i1 : (32 : Int) < ((s[k].toNat : Nat) : Int) := by have := h2.1; omega
     have i2 : ((s[k].toNat : Nat) : Int) < 127 := by have := h2.2; omega
     have HL : Hid (escL (bt s k) = [(bt s k).toUInt8]) := Qh (by unfold escL; rw [if_neg h1, if_pos h2])
     have HE := Qh hE
     clear hE h1 h2
     go_wp2_with fail
     refine (HI.out _ _).mono ?_
     rintro e w' ⟨rfl, rfl⟩
     rw [← HIX.out]
     go_wp2_with fail
     refine (WriteByte_k b b _ _ _ hbi.out (by have := byteCells_len (escTo s k); omega) (by have := hbe.out.size; omega)).mono ?_
     rintro e w2 ⟨rfl, hb2, he2⟩
     have HB2 : Hid (Lib.IsBuilderF TB TU8 b b (Lib.byteCells (escTo s (k + 1))) w2) := Qh (.inr (by
      rw [HES.out, HL.out, byteCells_app, esc1 _ hc, HE.out]; exact hb2))
     have HE2 := Qh (hbe.out.trans he2)
     clear hb2 he2
     go_wp2_with fail
     go_roundw
     case rel => exact ⟨k + 1, by omega, by go_num, HB2, HE2⟩
     case measure => simp [intOf]; omega
    ·have i1 : (32 : Int) < ((s[k].toNat : Nat) : Int) → ¬ ((s[k].toNat : Nat) : Int) < 127 := by intro h; omega
     have HL : Hid (escL (bt s k) = [92, 120, hx (bt s k / 16), hx (bt s k % 16)]) := Qh (by unfold escL; rw [if_neg h1, if_neg h2])
     have HE := Qh hE
     clear h1 i1
     have hx1 : 0 ≤ ((s[k].toNat : Nat) : Int) / 16 ∧ ((s[k].toNat : Nat) : Int) / 16 < 16 := by omega
     have hx2 : 0 ≤ bits BinOp.and IntKind.u8 ((s[k].toNat : Nat) : Int) 15 ∧ bits BinOp.and IntKind.u8 ((s[k].toNat : Nat) : Int) 15 < 16 := by rw [and15 _ (by omega)]; omega
     obtain ⟨a1, ha1⟩ : ∃ a : Int, a = (((⟨#[48, 49, 50, 51, 52, 53, 54, 55, 56, 57, 97, 98, 99, 100, 101, 102]⟩ : ByteArray)[(((s[k].toNat : Nat) : Int) / 16).toNat]'(by show _ < 16; omega)).toNat : Nat) := ⟨_, rfl⟩
     obtain ⟨a2, ha2⟩ : ∃ a : Int, a = (((⟨#[48, 49, 50, 51, 52, 53, 54, 55, 56, 57, 97, 98, 99, 100, 101, 102]⟩ : ByteArray)[(bits BinOp.and IntKind.u8 ((s[k].toNat : Nat) : Int) 15).toNat]'(by show _ < 16; omega)).toNat : Nat) := ⟨_, rfl⟩
     have HA1v := Qh ha1
     have HA2v := Qh ha2
     have HX1 := Qh hx1
     have HX2 := Qh hx2
     have HA1 : Hid (a1 = ((hx (bt s k / 16)).toNat : Nat)) := Qh (by rw [ha1]; exact hxi (bt s k / 16) (by omega) (by omega) _ (by rw [hE]; omega))
     have HA2 : Hid (a2 = ((hx (bt s k % 16)).toNat : Nat)) := Qh (by rw [ha2]; exact hxi (bt s k % 16) (by omega) (by omega) _ (by rw [and15 _ (by omega), hE]; omega))
     clear ha1 ha2
     have hso : (strOfNums [a1, a2]).size = 2 := by show (strOfNums [a1, a2]).data.size = 2; simp [strOfNums]
     by_cases h3 : 32 < bt s k
     ·have i1 : (32 : Int) < ((s[k].toNat : Nat) : Int) := by omega
      have i2 : ¬ ((s[k].toNat : Nat) : Int) < 127 := by omega
      clear hE h2 h3
      go_upto_region 6 with (first | (go_at_call 130; refine (HI.out _ _).mono ?_; rintro e w' ⟨rfl, rfl⟩; rw [← HIX.out]))
      refine wp_region_held_drew (S := fun w' => True) (by kernel_rfl) trivial (fun hHeld => ?_)
      obtain ⟨wd, hwd⟩ : ∃ zz, zz = w'.drew := ⟨_, rfl⟩
      have hkd : Kn w' wd := by rw [hwd]; exact (Kp.refl _ _).drew
      rw [← hwd]
      clear hwd
      refine TW 0 14 ?_
      refine TW 1 15 ?_
      refine TH 2 16 ?_ (hy := by (intro w hs1; go_simp; exact congrArg (Value.int IntKind.u8) HA1v.out.symm; try with_reducible rfl))
      refine TW 3 17 ?_
      refine TW 4 18 ?_
      refine TH 5 19 ?_ (hy := by (intro w hs1; go_simp; exact congrArg (Value.int IntKind.u8) HA2v.out.symm; try with_reducible rfl))
      refine RH 6 (fun K hK => ?_)
      go_simp
      refine hK.out _ _ trivial (fun hHeld => ?_)
      clear hK K
      try simp only [PP]
      refine RH 7 (fun K hK => ?_)
      go_simp
      rw [run_convert_bytes_arg _ 42 TU8 Tryz.underlying42 Tryz.underlying5 wd.heap.size 0 2 2 [a1, a2] rfl (fun i hi => by
       rw [cell_blk (blk_new wd _), Nat.zero_add]
       rcases i with _ | _ | i
       ·rfl
       ·rfl
       ·omega) 9 Tryz.underlying9]
      simp only [Result.andThen]
      rw [Oper.upon_value]
      refine hK.out _ _ trivial (fun hHeld => ?_)
      clear hK K
      try simp only [PP]
      refine TW 8 22 ?_
      refine RH 9 (fun K hK => ?_)
      go_simp
      go_at_call 69
      refine (WriteString_k b b _ _ _ ((isB_kn hbi.out hkd).alloc _) (by have := byteCells_len (escTo s k); have := strOf4_le a1 a2; omega) (by have := hbe.out.size; have := hkd.size; simp; omega)).mono ?_
      rintro e w2 ⟨rfl, hb2, he2⟩
      have HB2 : Hid (Lib.IsBuilderF TB TU8 b b (Lib.byteCells (escTo s (k + 1))) w2) := Qh (.inr (by rw [HES.out, HL.out, byteCells_app, ← esc4 HA1.out HA2.out]; exact hb2))
      have HE2 := Qh (((hbe.out.trans (Kp.below' hkd (by have := hbe.out.size; omega))).alloc (by have := hbe.out.size; have := hkd.size; omega) _).trans he2)
      clear hb2 he2
      dsimp only
      refine hK.out _ _ trivial (fun hHeld => ?_)
      clear hK K
      refine RD ?_
      go_wp2_with fail
      go_roundw
      case rel => exact ⟨k + 1, by omega, by go_num, HB2, HE2⟩
      case measure => simp [intOf]; omega
     ·have i1 : ¬ (32 : Int) < ((s[k].toNat : Nat) : Int) := by omega
      clear hE h2 h3
      go_upto_region 6 with (first | (go_at_call 130; refine (HI.out _ _).mono ?_; rintro e w' ⟨rfl, rfl⟩; rw [← HIX.out]))
      refine wp_region_held_drew (S := fun w' => True) (by kernel_rfl) trivial (fun hHeld => ?_)
      obtain ⟨wd, hwd⟩ : ∃ zz, zz = w'.drew := ⟨_, rfl⟩
      have hkd : Kn w' wd := by rw [hwd]; exact (Kp.refl _ _).drew
      rw [← hwd]
      clear hwd
      refine TW 0 14 ?_
      refine TW 1 15 ?_
      refine TH 2 16 ?_ (hy := by (intro w hs1; go_simp; exact congrArg (Value.int IntKind.u8) HA1v.out.symm; try with_reducible rfl))
      refine TW 3 17 ?_
      refine TW 4 18 ?_
      refine TH 5 19 ?_ (hy := by (intro w hs1; go_simp; exact congrArg (Value.int IntKind.u8) HA2v.out.symm; try with_reducible rfl))
      refine RH 6 (fun K hK => ?_)
      go_simp
      refine hK.out _ _ trivial (fun hHeld => ?_)
      clear hK K
      try simp only [PP]
      refine RH 7 (fun K hK => ?_)
      go_simp
      rw [run_convert_bytes_arg _ 42 TU8 Tryz.underlying42 Tryz.underlying5 wd.heap.size 0 2 2 [a1, a2] rfl (fun i hi => by
       rw [cell_blk (blk_new wd _), Nat.zero_add]
       rcases i with _ | _ | i
       ·rfl
       ·rfl
       ·omega) 9 Tryz.underlying9]
      simp only [Result.andThen]
      rw [Oper.upon_value]
      refine hK.out _ _ trivial (fun hHeld => ?_)
      clear hK K
      try simp only [PP]
      refine TW 8 22 ?_
      refine RH 9 (fun K hK => ?_)
      go_simp
      go_at_call 69
      refine (WriteString_k b b _ _ _ ((isB_kn hbi.out hkd).alloc _) (by have := byteCells_len (escTo s k); have := strOf4_le a1 a2; omega) (by have := hbe.out.size; have := hkd.size; simp; omega)).mono ?_
      rintro e w2 ⟨rfl, hb2, he2⟩
      have HB2 : Hid (Lib.IsBuilderF TB TU8 b b (Lib.byteCells (escTo s (k + 1))) w2) := Qh (.inr (by rw [HES.out, HL.out, byteCells_app, ← esc4 HA1.out HA2.out]; exact hb2))
      have HE2 := Qh (((hbe.out.trans (Kp.below' hkd (by have := hbe.out.size; omega))).alloc (by have := hbe.out.size; have := hkd.size; omega) _).trans he2)
      clear hb2 he2
      dsimp only
      refine hK.out _ _ trivial (fun hHeld => ?_)
      clear hK K
      refine RD ?_
      go_wp2_with fail
      go_roundw
      case rel => exact ⟨k + 1, by omega, by go_num, HB2, HE2⟩
      case measure => simp [intOf]; omega
  ·obtain rfl : k = s.size := by omega
   have hST := Tryz.Builder_String_any_k b b (escTo s s.size) wr hbi.out (by have := hbe.out.size; omega)
   have HST := Qh hST
   clear hST
   go_wp2_with fail
   refine HST.out.mono ?_
   rintro e w2 ⟨rfl, _, he2, _⟩
   have he3 := hFIN.out _ (hbe.out.trans he2)
   go_wp2_with fail
   go_ret
   exact ⟨by rw [HEF.out]; rfl, he3⟩
set_option maxHeartbeats 1000000 in
theorem formatInt_c (i : Nat) (hi : i < 100) (w : World) :
  Calls Tryz.prog 163 #[.int .i64 i, .int .i64 10] w fun e w' => e = .returned (.string ⟨(Lib.decDigits i).toArray⟩) ∧ w' = w := by
 have HS := Qh (fun W => Tryz.internal_strconv_small i hi W)
 have h1 : (i : Int) < 100 := by omega
 have h0 : (0 : Int) ≤ i := by omega
 go_enter Tryz.func163, Tryz.ntmps163
 go_wp2_with fail
 refine (HS.out _).mono ?_
 rintro e w' ⟨rfl, rfl⟩
 go_wp2_with fail
 go_ret
 exact ⟨rfl, rfl⟩
set_option maxHeartbeats 1000000 in
theorem itoa1_c (i : Nat) (hi : i < 100) (w : World) :
  Calls Tryz.prog 129 #[.int .i64 i] w fun e w' => e = .returned (.string ⟨(Lib.decDigits i).toArray⟩) ∧ w' = w := by
 have HS := Qh (formatInt_c i hi w)
 go_enter Tryz.func129, Tryz.ntmps129
 go_wp2_with fail
 refine HS.out.mono ?_
 rintro e w' ⟨rfl, rfl⟩
 go_wp2_with fail
 go_ret
 exact ⟨rfl, rfl⟩
set_option maxHeartbeats 1000000 in
theorem itoa_c (i : Nat) (hi : i < 100) (w : World) :
  Calls Tryz.prog 81 #[.int .i64 i] w fun e w' => e = .returned (.string ⟨(Lib.decDigits i).toArray⟩) ∧ w' = w := by
 have HS := Qh (itoa1_c i hi w)
 go_enter Tryz.func81, Tryz.ntmps81
 go_wp2_with fail
 refine HS.out.mono ?_
 rintro e w' ⟨rfl, rfl⟩
 go_wp2_with fail
 go_ret
 exact ⟨rfl, rfl⟩
end Go.Proofs.YtopmadkajacniaaGreatDoor
namespace Go.Proofs.YtopmadkajacniaaGreatDoor
open Go.RowKit Go.Maps
def decB (i : Nat) : ByteArray := ⟨(Lib.decDigits i).toArray⟩
def litC (R : RS) : List GC := R.lits.zipIdx.map (fun p => ⟨(⟨#[108, 105, 116]⟩ : ByteArray) ++ decB p.2, escF p.1, false⟩)
def clsOf (R : RS) : List GC := litC R ++ R.cls
theorem litC_len (R : RS) : (litC R).length = R.lits.length := by simp [litC]
theorem litC_get (R : RS) (i : Nat) (h : i < R.lits.length) : (litC R)[i]'(by rw [litC_len]; exact h) = ⟨(⟨#[108, 105, 116]⟩ : ByteArray) ++ decB i, escF R.lits[i], false⟩ := by simp [litC]
theorem decB_le (i : Nat) (h : i < 100) : (decB i).size ≤ 2 := by
 show (Lib.decDigits i).toArray.size ≤ 2
 rw [List.size_toArray]
 unfold Lib.decDigits
 split
 ·simp
 ·rw [List.length_append]
  unfold Lib.decDigits
  rw [dif_pos (by omega)]
  simp
theorem escF_le (s : ByteArray) : (escF s).size ≤ 4 * s.size := by
 show (escTo s s.size).toArray.size ≤ _
 rw [List.size_toArray]; exact escTo_len s s.size
set_option maxRecDepth 100000 in
set_option maxHeartbeats 8000000 in
theorem classes_c {B p : Nat} {R : RS} {A : RA} {w : World} (h : RdAt w B p R A) (ok : RSok R) :
  Calls Tryz.prog 24 #[ptr p] w fun e w' => ∃ v, e = .returned v ∧ OwnK w' w.heap.size TCl 3 v ((clsOf R).map clL) ∧ Kn w w' := by
 obtain ⟨oa, oc, hv0, _, _, hg⟩ := h.lits.look
 obtain ⟨a1, c1, hv1, _, _, hg1⟩ := h.cls.row (fun C hC => by obtain ⟨x, _, rfl⟩ := List.mem_map.1 hC; rfl)
 rw [List.length_map] at hv1
 obtain ⟨q0, q1, _⟩ := h.cells
 rw [hv0] at q0
 rw [hv1] at q1
 have hl40 := ok.lits
 have hc40 := ok.cls
 obtain ⟨ie, hi, hz0, hz1, hz2⟩ := info_parts info_cl
 have HIE := Qh (And.intro hi (And.intro hz0 (And.intro hz1 hz2)))
 have HZ := Qh ok.litz
 have HC := Qh h.cls
 have HV1 := Qh hv1
 have HG1 := Qh hg1
 have HG := Qh hg
 clear h ok hv0 hv1 hi hz0 hz1 hz2 hg hg1
 go_enter Tryz.func24, Tryz.ntmps24
 go_wp2_with fail
 go_loopw [3, 13] (fun s3 s13 wr => ∃ (k : Nat) (v : Value), v = s3 ∧ s13 = .int .i64 k ∧ k ≤ R.lits.length ∧ Hid (OwnK wr w.heap.size TCl 3 v (((litC R).take k).map clL)) ∧ Kn w wr) (fun _ s13 _ => R.lits.length - (intOf s13).toNat)
 case atStart => exact ⟨0, _, rfl, rfl, Nat.zero_le _, Qh OwnK.nil, Kp.refl _ _⟩
 case round =>
  obtain ⟨k, v, rfl, rfl, hk, hov, hkn⟩ := hrel
  by_cases hlt : k < R.lits.length
  ·obtain ⟨g, rfl, _, _, hc⟩ := HG.out (fun e => by rw [e] at hlt; simp at hlt)
   have hck := kn_cell hkn (hc k hlt)
   have hsz := HZ.out _ (List.getElem_mem hlt)
   have hlg := litC_get R k hlt
   obtain ⟨s, hs⟩ : ∃ s, s = R.lits[k] := ⟨_, rfl⟩
   rw [← hs] at hck hsz hlg
   have HLG := Qh hlg
   have HIT := Qh (itoa_c k (by omega) wr)
   have hdl := decB_le k (by omega)
   change Hid (Calls Tryz.prog 81 #[.int .i64 k] wr fun e w' => e = .returned (.string (decB k)) ∧ w' = wr) at HIT
   obtain ⟨t, ht⟩ : ∃ t, t = decB k := ⟨_, rfl⟩
   rw [← ht] at HIT hdl HLG
   have HES := Qh (escape_c s wr (by omega))
   obtain ⟨es, hes⟩ : ∃ es, es = escF s := ⟨_, rfl⟩
   rw [← hes] at HES HLG
   have hno : ¬ (9223372036854775807 : Nat) < 3 + t.size := by omega
   clear hlg hs hc ht hes
   go_wp2_with fail
   refine HIT.out.mono ?_
   rintro e w3 ⟨rfl, hw3⟩
   rw [hw3]
   clear hw3 w3
   go_wp2_with fail
   refine HES.out.mono ?_
   rintro e w4 ⟨rfl, hk4⟩
   have hkn4 := hkn.trans hk4
   obtain ⟨nm, hnm⟩ : ∃ nm, nm = (⟨#[108, 105, 116]⟩ : ByteArray) ++ t := ⟨_, rfl⟩
   rw [← hnm] at HLG ⊢
   have hka : Kn w4 (w4.alloc (.cells #[.string nm, .string es, .bool false] TCl)) := (Kp.refl _ _).alloc _
   have HO4 := Qh ((hov.out.kn hk4).kn hka)
   have HBL : Hid ((w4.alloc (.cells #[.string nm, .string es, .bool false] TCl)).heap[w4.heap.size]? = some (.cells #[.string nm, .string es, .bool false] TCl (0, 0))) := Qh (blk_new _ _)
   have HKA := Qh hka
   have hw4 := hkn4.size
   clear hnm hov hka
   go_wp2_with (first | (at_builtin; go_must (refine wpList_append_k _ rfl (.tmp 18) (.tmp 25) 43 rfl w.heap.size TCl ie (.agg #[.string ByteArray.empty, .string ByteArray.empty, .bool false]) 3 40 Tryz.underlying43 HIE.out.1 HIE.out.2.1 HIE.out.2.2.1 HIE.out.2.2.2 (by rfl) (by decide) v (((litC R).take k).map clL) rfl HO4.out w4.heap.size 1 rfl #[.string nm, .string es, .bool false] TCl (0, 0) HBL.out rfl (by simp [Value.oneCell']) (by rw [List.length_map, List.length_take, litC_len]; simp only [maxLen]; omega) (by rw [List.length_map, List.length_take, litC_len]; omega) (by rw [size_alloc']; omega) ?_; intro v1 w5 hown hkap hat; have HOW := Qh hown; have HKP := Qh (hkap.mono (T := fun i => w.heap.size ≤ i) (fun i hi e => (HO4.out.lt i e.symm).1)); clear hown hkap hat)))
   have hkn5 : Kn w _ := (hkn4.trans HKA.out).trans' HKP.out (fun i hi e => by omega)
   have HO5 : Hid (OwnK w5 w.heap.size TCl 3 v1 (((litC R).take (k + 1)).map clL)) := Qh (by
    rw [List.take_succ_eq_append_getElem (by rw [litC_len]; exact hlt), List.map_append, HLG.out]
    exact HOW.out)
   go_roundw
   case rel => exact ⟨k + 1, v1, rfl, by go_num, by omega, HO5, hkn5⟩
   case measure => simp [intOf]; omega
  ·obtain rfl : k = R.lits.length := by omega
   have ho := hov.out
   rw [List.take_of_length_le (by rw [litC_len]; exact Nat.le_refl _)] at ho
   have HO := Qh ho
   have q1r := kn_cell hkn q1
   have hcr := HC.out.kn hkn
   rw [HV1.out] at hcr
   have HCR := Qh hcr
   have hws := hkn.size
   clear hov ho q1 hcr
   by_cases hc0 : R.cls = []
   ·have hE : Hid (clsOf R = litC R) := Qh (by unfold clsOf; rw [hc0, List.append_nil])
    have ha1 : (Value.slice a1 R.cls.length c1) = .slice none 0 0 ∨ ∃ g, a1 = some ⟨g, 0, none⟩ := by
     rcases HCR.out.2 with ⟨h1, _⟩ | ⟨g, cap, cur, h1, _⟩
     ·exact .inl h1
     ·injection h1 with h1; exact .inr ⟨g, h1⟩
    rcases ha1 with ha1 | ⟨g, rfl⟩
    ·rw [ha1] at q1r
     clear hc0
     go_wp2_with (first | (at_builtin; go_must (refine wpList_append_own_none rfl (.tmp 28) (.tmp 32) 43 rfl w.heap.size TCl ie 3 Tryz.underlying43 HIE.out.1 v _ _ rfl HO.out rfl ?_)))
     go_ret
     exact ⟨v, rfl, by rw [hE.out]; exact HO.out, hkn⟩
    ·have hcl0 : R.cls.length = 0 := by rw [hc0]; rfl
     clear hc0
     go_wp2_with (first | (at_builtin; go_must (refine wpList_append_own _ rfl (.tmp 28) (.tmp 32) 43 rfl w.heap.size TCl ie (.agg #[.string ByteArray.empty, .string ByteArray.empty, .bool false]) 3 40 Tryz.underlying43 HIE.out.1 HIE.out.2.1 HIE.out.2.2.1 HIE.out.2.2.2 (by rfl) (by decide) v _ _ rfl HO.out ⟨g, 0, none⟩ 0 c1 [] rfl rfl (fun j u hj => by simp at hj) (fun u hu => by cases hu) (by rw [List.length_map, litC_len]; simp only [maxLen]; omega) (by rw [List.length_map, litC_len]; omega) hws ?_; intro v1 w5 hown hgr hnn; have HOW := Qh hown; have HGR := Qh hgr; clear hown hgr hnn)))
     go_ret
     refine ⟨v1, rfl, ?_, hkn.trans' (Kp.grownK HGR.out) (fun i hi e => by have := (HO.out.lt i e.symm).1; omega)⟩
     rw [hE.out]
     have := HOW.out
     rw [List.append_nil] at this
     exact this
   ·obtain ⟨g, rfl, _, _, hcc⟩ := HG1.out (fun e => hc0 (List.map_eq_nil_iff.1 e))
    have HNW : Hid (∀ j u, (clC R.cls)[j]? = some u → wr.cell? ((⟨g, 0, none⟩ : Addr).add j) = some u) := Qh (fun j u hj => HCR.out.cells rfl j u hj)
    clear hc0 hcc
    go_wp2_with (first | (at_builtin; go_must (refine wpList_append_own _ rfl (.tmp 28) (.tmp 32) 43 rfl w.heap.size TCl ie (.agg #[.string ByteArray.empty, .string ByteArray.empty, .bool false]) 3 40 Tryz.underlying43 HIE.out.1 HIE.out.2.1 HIE.out.2.2.1 HIE.out.2.2.2 (by rfl) (by decide) v _ _ rfl HO.out ⟨g, 0, none⟩ R.cls.length c1 (clC R.cls) rfl (clC_len _) HNW.out (clC_one _) (by rw [List.length_map, litC_len]; simp only [maxLen]; omega) (by rw [List.length_map, litC_len]; omega) hws ?_; intro v1 w5 hown hgr hnn; have HOW := Qh hown; have HGR := Qh hgr; clear hown hgr hnn)))
    go_ret
    refine ⟨v1, rfl, ?_, hkn.trans' (Kp.grownK HGR.out) (fun i hi e => by have := (HO.out.lt i e.symm).1; omega)⟩
    have h1 := HOW.out
    unfold OwnK clsOf
    have e9 : (R.cls.map clL).length = R.cls.length := List.length_map _
    rw [List.map_append, List.flatten_append, List.length_append, e9]
    exact h1
def finF (R : RS) : Option (List GR × List (Nat × Nat)) :=
 match R.linkGo R.lines [] [] with
 | none => none
 | some r => if R.sorts.length = 0 ∨ r.1.length = 0 then none else if (clsOf R).length = 0 then some r else if (scanF (clsOf R)).isSome = true then some r else none
structure GrAt (w : World) (p : Nat) (R : RS) (rs : List GR) (br : List (Nat × Nat)) : Prop where
 lk : ∃ B A kb vps, LkAt w B p R A kb rs vps br ∧ ((clsOf R).length = 0 → A.sc = .pointer none) ∧ ∀ r, scanF (clsOf R) = some r → ∃ ps : Nat, A.sc = ptr ps ∧ ScanAt w ps (clsOf R) r.2
 ok : RSok R
 rlen : rs.length ≤ 120
theorem GrAt.kn {w w' : World} {p : Nat} {R : RS} {rs : List GR} {br : List (Nat × Nat)} (h : GrAt w p R rs br) (hk : Kn w w') : GrAt w' p R rs br := by
 obtain ⟨⟨B, A, kb, vps, h1, h2, h3⟩, h4, h5⟩ := h
 exact ⟨⟨B, A, kb, vps, h1.kn hk, h2, fun r hr => by obtain ⟨ps, a, b⟩ := h3 r hr; exact ⟨ps, a, b.kn hk⟩⟩, h4, h5⟩
theorem ScanAt.k1g {w w' : World} {p ps : Nat} {cs : List GC} {l : List DS} {C : Array Value} (h : ScanAt w ps cs l) (hb : w.heap[p]? = some (.cells C TGr (0, 0))) (hk : K1 p w w') : ScanAt w' ps cs l := by
 have hS := ty_one hb
 obtain ⟨pl, bn, vcl, B, h1, gof, n, vout, zs, h2, h3⟩ := h
 refine ⟨pl, bn, vcl, B, ⟨blk_ty h1.blk hk hS (by decide), row_ty h1.row hk hS (by decide), map_ty h1.nms hk hS⟩, gof, n, vout, zs, h2.kp hk (fun e => ?_) (fun e => ?_) (fun g hg e => ?_), h3⟩
 ·subst e; exact blk_type hb h2.blk (by decide)
 ·subst e; have := h2.of_; exact blk_type hb this (by decide)
 ·subst e; obtain ⟨cur, h4⟩ := h2.row.blkT hg; exact blk_type hb h4 (by decide)
theorem LkAt.setSc {w : World} {B p : Nat} {R : RS} {A : RA} {kb : Nat} {rs : List GR} {vps : List Value} {br : List (Nat × Nat)} (h : LkAt w B p R A kb rs vps br) (v : Value) : LkAt (w.setCell ⟨p, 5, none⟩ v) B p R { A with sc := v } kb rs vps br := by
 have hk1 : K1 p w (w.setCell ⟨p, 5, none⟩ v) := Kp.set1 _ _
 have hS1 := ty_one h.rd.blk
 exact ⟨h.rd.setSc v, h.bb, map_ty h.brk hk1 hS1, h.ru.ty hk1 hS1 (by decide) (by decide), h.ne⟩
theorem clsOf_ok {R : RS} (ok : RSok R) : ∀ x ∈ clsOf R, x.name.size ≤ 1000000 ∧ x.regex.size ≤ 1099511627776 := by
 intro x hx
 unfold clsOf at hx
 rcases List.mem_append.1 hx with h | h
 ·obtain ⟨i, hi, rfl⟩ := List.getElem_of_mem h
  rw [litC_len] at hi
  have h1 := decB_le i (by have := ok.lits; omega)
  have h2 := escF_le R.lits[i]
  have h3 := ok.litz _ (List.getElem_mem hi)
  rw [litC_get R i hi]
  refine ⟨?_, ?_⟩
  ·show ((⟨#[108, 105, 116]⟩ : ByteArray) ++ decB i).size ≤ _
   rw [ByteArray.size_append]
   have : (⟨#[108, 105, 116]⟩ : ByteArray).size = 3 := rfl
   omega
  ·show (escF R.lits[i]).size ≤ _; omega
 ·have := ok.clz x h; omega
theorem clsR_own {w : World} {B g n c : Nat} {cs : List GC} (h : OwnK w B TCl 3 (.slice (some ⟨g, 0, none⟩) n c) (cs.map clL)) : ClsR w g cs := by
 intro j u hj
 have := h.cells rfl j u hj
 have hadd : (⟨g, 0, none⟩ : Addr).add j = ⟨g, j, none⟩ := by unfold Addr.add; split <;> simp_all
 rwa [hadd] at this
def FinPost (B p : Nat) (R : RS) (w : World) (e : Ending) (w' : World) : Prop :=
 ∃ k n : Int, e = .returned (.tuple #[.int .i64 k, .int .i64 n]) ∧ Kp (fun i => B ≤ i) w w' ∧ match finF R with | some r => k = 0 ∧ n = 0 ∧ GrAt w' p R r.1 r.2 | none => n ≠ 0
set_option maxRecDepth 100000 in
set_option maxHeartbeats 8000000 in
theorem finish_c {B p : Nat} {R : RS} {A0 : RA} {w : World} (h : RdAt w B p R A0) (ok : RSok R) (hvr : A0.vr = .slice none 0 0) (hsc : A0.sc = .pointer none) :
  Calls Tryz.prog 68 #[ptr p] w (FinPost B p R w) := by
 have HLN := Qh (glink_c h ok hvr)
 have HF : Hid (finF R = match R.linkGo R.lines [] [] with
  | none => none
  | some r => if R.sorts.length = 0 ∨ r.1.length = 0 then none else if (clsOf R).length = 0 then some r else if (scanF (clsOf R)).isSome = true then some r else none) := Qh rfl
 have HOK := Qh ok
 have HSC := Qh hsc
 clear h ok hvr hsc
 go_enter Tryz.func68, Tryz.ntmps68
 go_wp2_with fail
 refine HLN.out.mono ?_
 rintro e w1 ⟨k, n, rfl, hk1, hm⟩
 cases hl : R.linkGo R.lines [] [] with
 | none =>
  rw [hl] at hm
  dsimp only at hm
  have hn2 : (n == 0) = false := by rw [beq_eq_false_iff_ne]; exact hm
  have hF2 : Hid (finF R = none) := Qh (by rw [HF.out, hl])
  have HN0 := Qh hm
  have HK1 := Qh hk1
  clear hl hm hk1
  go_wp2_with fail
  go_ret2
  refine ⟨k, n, rfl, HK1.out, ?_⟩
  rw [hF2.out]; exact HN0.out
 | some r =>
  rw [hl] at hm
  obtain ⟨rs, br⟩ := r
  dsimp only at hm
  obtain ⟨rfl, A, kb, vps, hlk, h120, hsc⟩ := hm
  have HF2 : Hid (finF R = if R.sorts.length = 0 ∨ rs.length = 0 then none else if (clsOf R).length = 0 then some (rs, br) else if (scanF (clsOf R)).isSome = true then some (rs, br) else none) := Qh (by rw [HF.out, hl])
  have HL := Qh hlk
  have HA := Qh (hsc.trans HSC.out)
  have HK1 := Qh hk1
  obtain ⟨os, oc, hv2, _⟩ := hlk.rd.sorts.look
  obtain ⟨og, ocg, hvg, _⟩ := hlk.ru.row.row (fun C hC => by obtain ⟨i, hi, rfl⟩ := List.getElem_of_mem hC; simp [ruL])
  rw [List.length_zipWith, hlk.ru.len, Nat.min_self] at hvg
  obtain ⟨_, _, q2, q3, _⟩ := hlk.rd.cells
  rw [hv2] at q2
  rw [hvg] at q3
  clear hl hlk hsc hk1 hv2 hvg HF HLN
  by_cases h0 : R.sorts.length = 0
  ·have i0 : ((R.sorts.length : Int) == 0) = true := by simp [h0]
   have i0' : (R.sorts.length : Int) = 0 := by omega
   have hF3 : Hid (finF R = none) := Qh (by rw [HF2.out, if_pos (.inl h0)])
   clear h0 HF2
   go_wp2_with fail
   go_ret2
   refine ⟨0, 12, rfl, HK1.out, ?_⟩
   rw [hF3.out]; exact (by decide : (12 : Int) ≠ 0)
  ·have i0 : ((R.sorts.length : Int) == 0) = false := by rw [beq_eq_false_iff_ne]; omega
   have i0' : ¬ (R.sorts.length : Int) = 0 := by omega
   by_cases h1 : rs.length = 0
   ·have j0 : ((rs.length : Int) == 0) = true := by simp [h1]
    have hF3 : Hid (finF R = none) := Qh (by rw [HF2.out, if_pos (.inr h1)])
    clear h0 h1 HF2
    go_wp2_with fail
    go_ret2
    refine ⟨0, 12, rfl, HK1.out, ?_⟩
    rw [hF3.out]; exact (by decide : (12 : Int) ≠ 0)
   ·have j0 : ((rs.length : Int) == 0) = false := by rw [beq_eq_false_iff_ne]; omega
    have HF3 : Hid (finF R = if (clsOf R).length = 0 then some (rs, br) else if (scanF (clsOf R)).isSome = true then some (rs, br) else none) := Qh (by rw [HF2.out, if_neg (by rintro (h | h); exact h0 h; exact h1 h)])
    have HC1 := Qh (classes_c HL.out.rd HOK.out)
    have hcl : (clsOf R).length ≤ 80 := by
     unfold clsOf; rw [List.length_append, litC_len]
     have := HOK.out.lits; have := HOK.out.cls; omega
    clear h0 h1 HF2
    go_wp2_with fail
    refine HC1.out.mono ?_
    rintro e w2 ⟨v, rfl, hov, hk2⟩
    obtain ⟨a, c, rfl, _⟩ := hov.row (fun C hC => by obtain ⟨x, _, rfl⟩ := List.mem_map.1 hC; rfl)
    rw [List.length_map]
    have HK2 := Qh (HK1.out.trans (kn_b hk2))
    have HL2 := Qh (HL.out.kn hk2)
    clear hov hk2
    by_cases h9 : (clsOf R).length = 0
    ·have k9 : ¬ (0 : Int) < (clsOf R).length := by omega
     have k9' : ¬ 0 < (clsOf R).length := by omega
     have hF4 : Hid (finF R = some (rs, br)) := Qh (by rw [HF3.out, if_pos h9])
     have hS : Hid (scanF (clsOf R) = none) := Qh (by unfold scanF; rw [if_pos h9])
     clear h9 HF3
     go_wp2_with fail
     go_ret2
     refine ⟨0, 0, rfl, HK2.out, ?_⟩
     rw [hF4.out]
     exact ⟨rfl, rfl, ⟨B, A, kb, vps, HL2.out, fun _ => HA.out, fun r hr => by rw [hS.out] at hr; cases hr⟩, HOK.out, h120⟩
    ·have k9 : (0 : Int) < (clsOf R).length := by omega
     have k9' : 0 < (clsOf R).length := by omega
     have HF4 : Hid (finF R = if (scanF (clsOf R)).isSome = true then some (rs, br) else none) := Qh (by rw [HF3.out, if_neg h9])
     have HN9 := Qh h9
     have HC2 := Qh (classes_c HL2.out.rd HOK.out)
     clear h9 HF3
     go_wp2_with fail
     refine HC2.out.mono ?_
     rintro e w3 ⟨v, rfl, hov, hk3⟩
     obtain ⟨a3, c3, rfl, _, _, hg3⟩ := hov.row (fun C hC => by obtain ⟨x, _, rfl⟩ := List.mem_map.1 hC; rfl)
     obtain ⟨g, rfl, _⟩ := hg3 (fun e => HN9.out (by rw [List.map_eq_nil_iff.1 e]; rfl))
     have hcr := clsR_own hov
     have HSN := Qh (scanNew_c g c3 (clsOf R) w3 hcr (by omega) (clsOf_ok HOK.out))
     rw [List.length_map]
     have HK3 := Qh (HK2.out.trans (kn_b hk3))
     have HL3 := Qh (HL2.out.kn hk3)
     clear hov hk3 hg3 hcr
     go_wp2_with fail
     refine HSN.out.mono ?_
     rintro e w4 ⟨hk4, hp⟩
     have HK4 := Qh (HK3.out.trans (kn_b hk4))
     have HL4 := Qh (HL3.out.kn hk4)
     cases hsf : scanF (clsOf R) with
     | none =>
      rw [hsf] at hp
      dsimp only at hp
      obtain ⟨k, n, hn, rfl⟩ := hp
      have hn2 : (n == 0) = false := by rw [beq_eq_false_iff_ne]; exact hn
      have hF5 : Hid (finF R = none) := Qh (by rw [HF4.out, hsf]; rfl)
      clear hsf hn HF4
      go_wp2_with fail
      go_ret2
      refine ⟨0, 3, rfl, HK4.out, ?_⟩
      rw [hF5.out]; exact (by decide : (3 : Int) ≠ 0)
     | some r =>
      rw [hsf] at hp
      dsimp only at hp
      obtain ⟨ps, rfl, _, hsa⟩ := hp
      have hF5 : Hid (finF R = some (rs, br)) := Qh (by rw [HF4.out, hsf]; rfl)
      have HSF := Qh hsf
      have HSA := Qh hsa
      have q5 : w4.cell? ⟨p, 5, none⟩ = some (.pointer none) := by obtain ⟨_, _, _, _, _, q, _⟩ := HL4.out.rd.cells; rw [HA.out] at q; exact q
      have f5 := HL4.out.rd.fr 5
      clear hsf hsa HF4 q2 q3
      go_wp2_with fail
      go_ret2
      obtain ⟨w5, hw5⟩ : ∃ z, z = w4.setCell ⟨p, 5, none⟩ (ptr ps) := ⟨_, rfl⟩
      have hk5 : K1 p w4 w5 := by rw [hw5]; exact Kp.set1 _ _
      have hL5 := HL4.out.setSc (ptr ps)
      rw [← hw5] at hL5 ⊢
      refine ⟨0, 0, rfl, HK4.out.trans (hk5.mono (fun i hi e => by have := HL4.out.rd.pB.1; omega)), ?_⟩
      rw [hF5.out]
      refine ⟨rfl, rfl, ⟨B, _, kb, vps, hL5, fun h => absurd h HN9.out, fun r2 hr2 => ⟨ps, rfl, ?_⟩⟩, HOK.out, h120⟩
      rw [HSF.out] at hr2
      injection hr2 with hr2
      subst hr2
      exact HSA.out.k1g HL4.out.rd.blk hk5
open Go.Shelf Go.RowKit Go.Maps
end Go.Proofs.YtopmadkajacniaaGreatDoor
namespace Go.Proofs.YtopmadkajacniaaGreatDoor
open Go.RowKit Go.Maps
set_option maxHeartbeats 4000000 in
set_option maxRecDepth 100000 in
theorem CloneP_c {B : Nat} {v : Value} {Cs : List (List Value)} (w : World) (hbig : Cs.length ≤ 1000000) (h3 : ∀ C ∈ Cs, C.length = 4) (h1 : ∀ u ∈ Cs.flatten, u.oneCell' = true) (h : OwnK w B TPa 4 v Cs) :
  Calls Tryz.prog 85 #[v] w fun e w' => ∃ v', e = .returned v' ∧ OwnK w' w.heap.size TPa 4 v' Cs ∧ Kn w w' := by
 obtain ⟨i0, hi, hz0, hz1, hz2⟩ := info_parts info_pa
 have HI := Qh (And.intro hi (And.intro hz0 (And.intro hz1 hz2)))
 have q24 : ∀ (w : World) (a : Option Addr) (n c n' c' : Nat), (binOp .eql 159 (.slice a n c) (.slice none n' c')).run Tryz.prog w = .ok (.bool a.isNone) w := fun w a n c n' c' => Lib.run_eql_slice_nil w _ _ a n c n' c' Tryz.underlying159
 have HC := Qh h
 have H1 := Qh h1
 have hfl := flat_len h3
 rcases h.2 with ⟨hv, hcs⟩ | ⟨g, cap, cur, hv, hg, _, hc1, hc2, _⟩
 ·have hn : Cs = [] := by simpa using hcs
  subst hv hn
  clear hi hz0 hz1 hz2 h h1
  go_enter Tryz.func85, Tryz.ntmps85
  go_wp2_with fail
  go_ret
  exact ⟨_, rfl, OwnK.nil, Kp.refl _ _⟩
 ·subst hv
  obtain ⟨n, hn⟩ : ∃ n, n = Cs.length := ⟨_, rfl⟩
  have HN := Qh hn
  rw [← hn] at HC hc1 hbig hfl ⊢
  have HF := Qh hfl
  clear hi hz0 hz1 hz2 h h1 hn hfl h3
  go_enter Tryz.func85, Tryz.ntmps85
  go_wp2_with (at_builtin; refine wpList_append_own _ rfl _ _ 159 rfl w.heap.size TPa i0 _ 4 32 Tryz.underlying159 HI.out.1 HI.out.2.1 HI.out.2.2.1 HI.out.2.2.2 rfl (by decide) _ _ _ rfl (World.ownsRow_made w #[] 0 (Nat.le_refl _) (Nat.zero_le _) rfl) ⟨g, 0, none⟩ n cap Cs.flatten rfl ?qc1 ?qc2 ?qc3 ?qc4 ?qc5 ?qc6 ?_)
  case qc1 => exact HF.out
  case qc2 =>
   intro j u hj
   exact Lib.cell?_alloc_some _ (HC.out.cells rfl j u hj)
  case qc3 => exact H1.out
  case qc4 => unfold maxLen; omega
  case qc5 => omega
  case qc6 => simp
  intro v' w1 hown hgrow hnil
  go_wp2_with fail
  go_ret
  refine ⟨v', rfl, by unfold OwnK; rw [← HN.out]; simpa using hown, ?_⟩
  exact Kp.of_below (((Below.refl _ w).alloc (Nat.le_refl _) _).grown hgrow (by simp) (by intro k hk; simp [Value.ownBlock] at hk; omega))
set_option maxHeartbeats 4000000 in
set_option maxRecDepth 100000 in
theorem CloneR_c {B : Nat} {v : Value} {Cs : List (List Value)} (w : World) (hbig : Cs.length ≤ 1000000) (h3 : ∀ C ∈ Cs, C.length = 4) (h1 : ∀ u ∈ Cs.flatten, u.oneCell' = true) (h : OwnK w B TRu 4 v Cs) :
  Calls Tryz.prog 84 #[v] w fun e w' => ∃ v', e = .returned v' ∧ OwnK w' w.heap.size TRu 4 v' Cs ∧ Kn w w' := by
 obtain ⟨i0, hi, hz0, hz1, hz2⟩ := info_parts info_ru
 have HI := Qh (And.intro hi (And.intro hz0 (And.intro hz1 hz2)))
 have q24 : ∀ (w : World) (a : Option Addr) (n c n' c' : Nat), (binOp .eql 46 (.slice a n c) (.slice none n' c')).run Tryz.prog w = .ok (.bool a.isNone) w := fun w a n c n' c' => Lib.run_eql_slice_nil w _ _ a n c n' c' Tryz.underlying46
 have HC := Qh h
 have H1 := Qh h1
 have hfl := flat_len h3
 rcases h.2 with ⟨hv, hcs⟩ | ⟨g, cap, cur, hv, hg, _, hc1, hc2, _⟩
 ·have hn : Cs = [] := by simpa using hcs
  subst hv hn
  clear hi hz0 hz1 hz2 h h1
  go_enter Tryz.func84, Tryz.ntmps84
  go_wp2_with fail
  go_ret
  exact ⟨_, rfl, OwnK.nil, Kp.refl _ _⟩
 ·subst hv
  obtain ⟨n, hn⟩ : ∃ n, n = Cs.length := ⟨_, rfl⟩
  have HN := Qh hn
  rw [← hn] at HC hc1 hbig hfl ⊢
  have HF := Qh hfl
  clear hi hz0 hz1 hz2 h h1 hn hfl h3
  go_enter Tryz.func84, Tryz.ntmps84
  go_wp2_with (at_builtin; refine wpList_append_own _ rfl _ _ 46 rfl w.heap.size TRu i0 _ 4 56 Tryz.underlying46 HI.out.1 HI.out.2.1 HI.out.2.2.1 HI.out.2.2.2 rfl (by decide) _ _ _ rfl (World.ownsRow_made w #[] 0 (Nat.le_refl _) (Nat.zero_le _) rfl) ⟨g, 0, none⟩ n cap Cs.flatten rfl ?qc1 ?qc2 ?qc3 ?qc4 ?qc5 ?qc6 ?_)
  case qc1 => exact HF.out
  case qc2 =>
   intro j u hj
   exact Lib.cell?_alloc_some _ (HC.out.cells rfl j u hj)
  case qc3 => exact H1.out
  case qc4 => unfold maxLen; omega
  case qc5 => omega
  case qc6 => simp
  intro v' w1 hown hgrow hnil
  go_wp2_with fail
  go_ret
  refine ⟨v', rfl, by unfold OwnK; rw [← HN.out]; simpa using hown, ?_⟩
  exact Kp.of_below (((Below.refl _ w).alloc (Nat.le_refl _) _).grown hgrow (by simp) (by intro k hk; simp [Value.ownBlock] at hk; omega))
theorem zip_ru_set (rs : List GR) (vk : List Value) (k : Nat) (v : Value) (hk : k < (List.zipWith ruL rs vk).length) :
  (List.zipWith ruL rs vk).set k ((List.zipWith ruL rs vk)[k].set 3 v) = List.zipWith ruL rs (vk.set k v) := by
 apply List.ext_getElem
 ·simp
 ·intro i h1 h2
  rw [List.getElem_set]
  split
  ·subst_vars; simp [ruL]
  ·rename_i hne
   simp only [List.getElem_zipWith]
   rw [List.getElem_set_ne hne]
def RulesPost (w : World) (rs : List GR) (e : Ending) (w' : World) : Prop := ∃ v vps, e = .returned v ∧ RuAt w' w.heap.size v rs vps ∧ Kn w w'
set_option maxHeartbeats 8000000 in
set_option maxRecDepth 100000 in
theorem rules_c {B p kb : Nat} {R : RS} {A : RA} {rs : List GR} {vps : List Value} {br : List (Nat × Nat)} {w : World} (h : LkAt w B p R A kb rs vps br) (hrl : rs.length ≤ 120) (hpz : ∀ r ∈ rs, r.parts.length ≤ 1000000) :
  Calls Tryz.prog 26 #[ptr p] w (RulesPost w rs) := by
 have h4 : ∀ vk : List Value, ∀ C ∈ List.zipWith ruL rs vk, C.length = 4 := fun vk C hC => by obtain ⟨i, hi, rfl⟩ := List.getElem_of_mem hC; simp [ruL]
 have hlen := h.ru.len
 have hon1 : ∀ u ∈ (List.zipWith ruL rs vps).flatten, u.oneCell' = true := by
  intro u hu
  obtain ⟨C, hC, hu⟩ := List.mem_flatten.1 hu
  obtain ⟨i, hi, rfl⟩ := List.getElem_of_mem hC
  have hi2 : i < rs.length ∧ i < vps.length := by rw [List.length_zipWith] at hi; omega
  have hp := h.ru.parts i hi2.2 hi2.1
  obtain ⟨a, c, hv, _⟩ := hp.row (k := 4) (fun C hC => by obtain ⟨x, _, rfl⟩ := List.mem_map.1 hC; rfl)
  simp only [List.getElem_zipWith, ruL, hv] at hu
  simp at hu
  rcases hu with rfl | rfl | rfl | rfl <;> rfl
 have HCL := Qh (CloneR_c w (by rw [List.length_zipWith]; omega) (h4 vps) hon1 h.ru.row)
 have HP := Qh (fun (wr : World) (hk : Kn w wr) (i : Nat) (h1 : i < rs.length) (h2 : i < vps.length) =>
  CloneP_c wr (by rw [List.length_map]; exact hpz _ (List.getElem_mem h1)) (fun C hC => by obtain ⟨x, _, rfl⟩ := List.mem_map.1 hC; rfl) (fun u hu => by
   obtain ⟨C, hC, hu⟩ := List.mem_flatten.1 hu
   obtain ⟨x, _, rfl⟩ := List.mem_map.1 hC
   simp [paL] at hu
   rcases hu with rfl | rfl | rfl | rfl <;> rfl) ((h.ru.parts i h2 h1).kn hk))
 obtain ⟨_, _, _, q3, _⟩ := h.rd.cells
 have hpl := h.rd.lt
 clear h hon1
 go_enter Tryz.func26, Tryz.ntmps26
 go_wp2_with fail
 refine HCL.out.mono ?_
 rintro e w1 ⟨v, rfl, hown, hk1⟩
 obtain ⟨a, c, rfl, hc1, hc2, hg⟩ := hown.row (h4 vps)
 have HX := Qh hg
 have hzl : (List.zipWith ruL rs vps).length = rs.length := by rw [List.length_zipWith, hlen, Nat.min_self]
 rw [hzl] at hown hc1 ⊢
 have HOW := Qh hown
 have HLN := Qh hlen
 clear hg hown HCL q3 hzl hlen
 go_wp2_with fail
 go_loopw [14] (fun s14 wr => ∃ (k : Nat) (vk : List Value), s14 = .int .i64 k ∧ k ≤ rs.length ∧ Hid (OwnK wr w.heap.size TRu 4 (.slice a rs.length c) (List.zipWith ruL rs vk)) ∧ Hid (vk.length = rs.length) ∧ Hid (∀ i (h1 : i < vk.length) (h2 : i < rs.length), i < k → OwnK wr w.heap.size TPa 4 vk[i] (rs[i].parts.map paL)) ∧ Hid (∀ i, k ≤ i → vk[i]? = vps[i]?) ∧ Kn w wr) (fun s14 _ => rs.length - (intOf s14).toNat)
 case atStart => exact ⟨0, vps, rfl, Nat.zero_le _, HOW, HLN, Qh (fun i _ _ h => absurd h (Nat.not_lt_zero _)), Qh (fun _ _ => rfl), hk1⟩
 case round =>
  clear HOW hk1
  obtain ⟨k, vk, rfl, hk, HO, HV, HPA, HR, hkn⟩ := hrel
  by_cases hlt : k < rs.length
  ·have hvk := HV.out
   obtain ⟨a', c', hv, _, _, hg⟩ := HO.out.row (h4 vk)
   have hzl : (List.zipWith ruL rs vk).length = rs.length := by rw [List.length_zipWith, hvk, Nat.min_self]
   obtain ⟨g, rfl, hgH, _, hc⟩ := hg (fun e => by rw [e] at hzl; simp at hzl; omega)
   obtain rfl : a = some ⟨g, 0, none⟩ := by injection hv
   have c3 : wr.cell? ⟨g, k * 4 + 3, none⟩ = some (vk[k]'(by omega)) := by
    have := (hc k (by omega) 3 (by omega)).1
    rw [show 0 + 4 * k + 3 = k * 4 + 3 by omega] at this
    rw [this]; simp [ruL]
   have f3 : wr.frozen? ⟨g, k * 4 + 3, none⟩ = false := by
    have := (hc k (by omega) 3 (by omega)).2
    rwa [show 0 + 4 * k + 3 = k * 4 + 3 by omega] at this
   have hlv : k < vps.length := by have := HLN.out; omega
   have hvv : vk[k]'(by omega) = vps[k] := by
    have := HR.out k (Nat.le_refl _)
    rw [List.getElem?_eq_getElem (by omega), List.getElem?_eq_getElem hlv] at this
    exact Option.some.inj this
   rw [hvv] at c3
   have HPC := Qh (HP.out wr hkn k hlt hlv)
   obtain ⟨vp, hvp⟩ : ∃ x, x = vps[k] := ⟨_, rfl⟩
   rw [← hvp] at HPC c3
   have HZL := Qh hzl
   have HGH := Qh hgH
   obtain ⟨cur, hgb⟩ := OwnK.blkT HO.out (g := g) rfl
   have hgl : g < wr.heap.size := by
    rcases Nat.lt_or_ge g wr.heap.size with h | h
    ·exact h
    ·rw [Array.getElem?_eq_none h] at hgb; cases hgb
   clear hv hg hc hvv hvp hzl hvk hgb hgH
   go_wp2_with fail
   refine HPC.out.mono ?_
   rintro e w2 ⟨v', rfl, hov, hk2⟩
   have f32 : w2.frozen? ⟨g, k * 4 + 3, none⟩ = false := by
    obtain ⟨cur, hgb⟩ := OwnK.blkT (HO.out.kn hk2) (g := g) rfl
    exact frozen_blk hgb _
   obtain ⟨a2, c2, rfl, _⟩ := hov.row (k := 4) (fun C hC => by obtain ⟨x, _, rfl⟩ := List.mem_map.1 hC; rfl)
   have hml : (List.map paL rs[k].parts).length = rs[k].parts.length := List.length_map ..
   rw [hml] at hov ⊢
   clear hml
   have HOV := Qh hov
   have HK2 := Qh hk2
   have c32 := kn_cell hk2 c3
   clear f3 c3 hov hk2
   go_wp2_with fail
   go_roundw
   case rel =>
    have hkn2 := hkn.trans HK2.out
    have hvk := HV.out
    have hkz : k < (List.zipWith ruL rs vk).length := by have := HZL.out; omega
    have hkv : k < vk.length := by omega
    have hk3 : K1 g w2 (w2.setCell ⟨g, k * 4 + 3, none⟩ (.slice a2 rs[k].parts.length c2)) := Kp.set1 _ _
    have hset := OwnK.set (HO.out.kn HK2.out) (h4 vk) (g := g) rfl k 3 hkz (by omega) (.slice a2 rs[k].parts.length c2)
    rw [zip_ru_set, show 0 + 4 * k + 3 = k * 4 + 3 by omega] at hset
    obtain ⟨cur, hgb⟩ := OwnK.blkT (HO.out.kn HK2.out) (g := g) rfl
    have hS := ty_one hgb
    refine ⟨k + 1, vk.set k (.slice a2 rs[k].parts.length c2), by go_num, by omega, Qh hset, Qh (by rw [List.length_set]; exact HV.out), Qh ?_, Qh ?_, ?_⟩
    ·intro i h1 h2 hi
     rw [List.length_set] at h1
     by_cases e : k = i
     ·subst e
      rw [List.getElem_set_self]
      exact row_ty (OwnK.base HOV.out (by have := hkn.size; omega)) hk3 hS (by decide)
     ·rw [List.getElem_set_ne e]
      exact row_ty ((HPA.out i h1 h2 (by omega)).kn HK2.out) hk3 hS (by decide)
    ·intro i hi
     rw [List.getElem?_set_ne (by omega)]
     exact HR.out i (by omega)
    ·exact hkn2.trans' hk3 (fun i hi e => by have := HGH.out; omega)
   case measure => simp [intOf]; omega
  ·obtain rfl : k = rs.length := by omega
   go_wp2_with fail
   go_ret
   exact ⟨_, vk, rfl, ⟨HO.out, HV.out, fun i h1 h2 => HPA.out i h1 h2 h2⟩, hkn⟩
end Go.Proofs.YtopmadkajacniaaGreatDoor
