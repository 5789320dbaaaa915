/-
  Texts of this claim, laid together: NAdd. Conditions: none.
-/
import Derived.Test.YtopmadkajacniaaGreatDoorQAD
import Derived.Deep.DeepCutAuto
set_option linter.unusedVariables false
set_option linter.unusedSimpArgs false
namespace Go.Proofs.YtopmadkajacniaaGreatDoor
open Go.RowKit Go.Maps
theorem info_pos : (Tryz.prog.info? TPos).map (fun i => (i.zero, i.size, i.bytes)) = some (some (.agg #[.int .u64 0, .int .u64 0, .int .u64 0, .int .u64 0, .int .i64 0, .map none]), 6, 48) := by kernel_rfl
theorem Bytes_set (b : W4) (n : Nat) (w : World) (h : NodeAt w (.set b) n) : Calls Tryz.prog 214 #[ptr n] w fun e w' => e = .returned (w4V b) ∧ Kn w w' := Bytes_c (.set b) n w h
theorem Kp.back {S : Nat → Prop} {w W W' : World} {B : Nat} (h : Kp S w W) (hk : K1 B W W') (hB : w.heap.size ≤ B) : Kp S w W' := h.trans' hk (fun i hi e => by omega)
set_option maxRecDepth 100000 in
set_option maxHeartbeats 4000000 in
theorem add_empty : AddC .empty := by
 intro r ps fs v vr pm n w hM hN hG hc hr
 have HM := Qh hM
 have HN := Qh hN
 have HG := Qh hG
 have hkB : Kn w (w.alloc zeroK) := (Kp.refl _ w).alloc _
 have hbB := blk_new w zeroK
 have hPc := Qh (Parts_c _ n _ (hN.kn hkB))
 clear hM hN hG
 go_enter Tryz.func182, Tryz.ntmps182
 go_wp2_with fail
 refine hPc.out.mono ?_
 rintro e w1 ⟨v7, qs, rfl, hP, hk1, hfr⟩
 have hK1 : Kn w w1 := hkB.trans hk1
 have hB1 := hk1.blk hbB (fun x => x)
 have hN1 := Qh (HN.out.kn hK1)
 have HO := Qh ((Ow.refl HM.out).kn hK1)
 have hBl := blk_lt hB1
 have HFR : Hid (∀ k, v7.ownBlock = some k → w.heap.size < k) := Qh (fun k e => by have := hfr k e; simp at this; omega)
 clear hbB hkB hk1 hPc hfr
 go_wp2_with fail
 refine (Kind_c _ n w1 hN1.out).mono ?_
 rintro e w' ⟨rfl, rfl⟩
 simp only [Re.kind]
 have hmm := @run_makeMap Tryz.prog
 have xB0 := cell_blk hB1 0; have xB1 := cell_blk hB1 1; have xB2 := cell_blk hB1 2
 have yB0 := frozen_blk hB1 0; have yB1 := frozen_blk hB1 1; have yB2 := frozen_blk hB1 2
 simp only [PE] at xB0 xB1 xB2
 go_wp2_with fail
 refine bodyPost_ret (v := knV w1.heap.size (w1.heap.size + 1) true) (res3 (b := w.heap.size) (T := TKno) (fr := (0, 0)) Tryz.results182 (by rfl) ?_) rfl ?_
 ·exact blk_alloc (blk_alloc (blk_set (blk_set (blk_set hB1 0 _) 1 _) 2 _) _) _
 obtain ⟨T, hTe⟩ : ∃ T, T = ((w1.setCell ⟨w.heap.size, 0, none⟩ (.map (some w1.heap.size))).setCell ⟨w.heap.size, 1, none⟩ (.map (some (w1.heap.size + 1)))).setCell ⟨w.heap.size, 2, none⟩ (.bool true) := ⟨_, rfl⟩
 have hT : K1 w.heap.size w1 T := by rw [hTe]; exact ((Kp.set1 _ _).trans (Kp.set1 _ _)).trans (Kp.set1 _ _)
 have hTz : T.heap.size = w1.heap.size := by rw [hTe]; simp [World.setCell]
 rw [← hTe]
 have hW : Kn T ((T.alloc (.map #[] 0)).alloc (.map #[] 0)) := ((Kp.refl _ T).alloc _).alloc _
 have hO := (HO.out.k1 hT (Nat.le_refl _) (by simpa using HO.out.mach.other hB1 (by decide) (by decide)))
 have s1 := SetN.empty T
 rw [hTz] at s1
 have s2 := SetN.empty (T.alloc (.map #[] 0))
 rw [size_alloc', hTz] at s2
 exact ⟨_, _, v, [], rfl, hO.kn hW, Fr.made hO (s1.kn ((Kp.refl _ _).alloc _)) (by omega) hO.mach, Fr.made hO s2 (by omega) hO.mach⟩
set_option maxRecDepth 100000 in
set_option maxHeartbeats 4000000 in
theorem add_star (x : Rw) (ih : AddC x) : AddC (.star x) := by
 intro r ps fs v vr pm n w hM hN hG hc hr
 have HM := Qh hM
 have IH := Qh ih
 have hF1 : Hid ((nAdd r (.star x) ps).1 = nlink (nAdd r x ps).1 (nAdd r x ps).2.last (nAdd r x ps).2.first) := Qh rfl
 have hF2 : Hid ((nAdd r (.star x) ps).2 = ⟨(nAdd r x ps).2.first, (nAdd r x ps).2.last, true⟩) := Qh rfl
 clear ih
 have HN := Qh hN
 have HG := Qh hG
 have hkB : Kn w (w.alloc zeroK) := (Kp.refl _ w).alloc _
 have hbB := blk_new w zeroK
 have hPc := Qh (Parts_c _ n _ (hN.kn hkB))
 clear hM hN hG
 go_enter Tryz.func182, Tryz.ntmps182
 go_wp2_with fail
 refine hPc.out.mono ?_
 rintro e w1 ⟨v7, qs, rfl, hP, hk1, hfr⟩
 have hK1 : Kn w w1 := hkB.trans hk1
 have hB1 := hk1.blk hbB (fun x => x)
 have hN1 := Qh (HN.out.kn hK1)
 have HO := Qh ((Ow.refl HM.out).kn hK1)
 have hBl := blk_lt hB1
 have HFR : Hid (∀ k, v7.ownBlock = some k → w.heap.size < k) := Qh (fun k e => by have := hfr k e; simp at this; omega)
 clear hbB hkB hk1 hPc hfr
 go_wp2_with fail
 refine (Kind_c _ n w1 hN1.out).mono ?_
 rintro e w' ⟨rfl, rfl⟩
 simp only [Re.kind]
 obtain ⟨a, c, rfl, hpt, hrow⟩ := hP
 cases hrow with
 | cons hx hr2 =>
 cases hr2
 rename_i i
 obtain ⟨g7, rfl, hc7⟩ := hpt 0 (by simp)
 simp only [List.getElem_cons_zero] at hc7
 have hGd := Qh (nAdd_good r x ps HG.out)
 have hM1 := HM.out.kn hK1
 have hadd := Qh (IH.out r ps fs v vr pm i w1 hM1 hx HG.out (by simpa [ncount] using hc) hr)
 have HM1 := Qh hM1
 clear hpt hM1 hx
 go_wp2_with fail
 refine hadd.out.mono ?_
 rintro e w2 ⟨f, l, v1, fs2, rfl, hO2, hFf, hFl⟩
 obtain ⟨k1, k2, k3⟩ := hGd.out
 have hOw := Qh (hO2.pre hK1)
 have hB2 := hO2.blk HM1.out hB1 (by decide) (by decide)
 have hz2 : w.heap.size < w2.heap.size := blk_lt hB2
 have hk3 : Kn w2 (w2.alloc (knB f l (nAdd r x ps).2.empty)) := (Kp.refl _ w2).alloc _
 have hM3 := hO2.mach.kn hk3
 have hlk := Qh (link_c pm l f v1 vr (nAdd r x ps).1 (fs ++ fs2) (nAdd r x ps).2.last (nAdd r x ps).2.first (w2.alloc (knB f l (nAdd r x ps).2.empty)) hM3 (by simp only [ncount] at hc; omega) k2 k3.l k3.f (hFl.set.kn hk3) (hFf.set.kn hk3) (hFl.apart HM1.out) (hFf.apart HM1.out))
 have HX := Qh (And.intro (hFf.pre hK1) (And.intro (hFl.pre hK1) hM3))
 clear hFf hFl hO2 hM3 k1 k2 k3 hc7
 go_wp2_with fail
 refine hlk.out.mono ?_
 rintro e w4 ⟨rfl, hM4, hk4⟩
 obtain ⟨hFf, hFl, hM3⟩ := HX.out
 have hB4 := hk4.blk (hk3.blk hB2 (fun x => x)) (fun e => hM3.other (hk3.blk hB2 (fun x => x)) (by decide) (by decide) (.inr (.inr e)))
 have hC4 := hk4.blk (blk_new w2 (knB f l (nAdd r x ps).2.empty)) (fun e => hM3.other (blk_new w2 (knB f l (nAdd r x ps).2.empty)) (by decide) (by decide) (.inr (.inr e)))
 have hO4 := (hOw.out.kn hk3).linked hM4 hk4
 have hF4 := (hFf.kn hk3).linked HM.out hk4
 have hL4 := (hFl.kn hk3).linked HM.out hk4
 have hz4 : w2.heap.size < w4.heap.size := blk_lt hC4
 have HX4 := Qh (And.intro hO4 (And.intro hF4 hL4))
 clear hFf hFl hM3 hOw hlk hM4 hO4 hF4 hL4 HX
 have xB0 := cell_blk hB4 0; have xB1 := cell_blk hB4 1; have xB2 := cell_blk hB4 2
 have yB0 := frozen_blk hB4 0; have yB1 := frozen_blk hB4 1; have yB2 := frozen_blk hB4 2
 simp only [PE] at xB0 xB1 xB2
 have xC0 := cell_blk hC4 0; have xC1 := cell_blk hC4 1; have xC2 := cell_blk hC4 2
 simp only [PE] at xC0 xC1 xC2
 go_wp2_with fail
 refine bodyPost_ret (v := knV f l true) (res3 (b := w.heap.size) (T := TKno) (fr := (0, 0)) Tryz.results182 (by rfl) ?_) rfl ?_
 ·exact blk_set (blk_set (blk_set hB4 0 _) 1 _) 2 _
 have hT : K1 w.heap.size w4 (((w4.setCell ⟨w.heap.size, 0, none⟩ (.map (some f))).setCell ⟨w.heap.size, 1, none⟩ (.map (some l))).setCell ⟨w.heap.size, 2, none⟩ (.bool true)) := ((Kp.set1 _ _).trans (Kp.set1 _ _)).trans (Kp.set1 _ _)
 obtain ⟨hO4, hF4, hL4⟩ := HX4.out
 refine ⟨f, l, v1, fs2, by rw [hF2.out], ?_, ?_, ?_⟩
 ·rw [hF1.out]; exact hO4.k1 hT (Nat.le_refl _) (hO4.mach.other hB4 (by decide) (by decide))
 ·rw [hF2.out]; exact hF4.k1 hT hB4
 ·rw [hF2.out]; exact hL4.k1 hT hB4
set_option maxRecDepth 100000 in
set_option maxHeartbeats 4000000 in
theorem add_cat (x y : Rw) (ihx : AddC x) (ihy : AddC y) : AddC (.cat x y) := by
 intro r ps fs v vr pm n w hM hN hG hc hr
 have HM := Qh hM
 have IHX := Qh ihx
 have IHY := Qh ihy
 clear ihx ihy
 have HN := Qh hN
 have HG := Qh hG
 have hkB : Kn w (w.alloc zeroK) := (Kp.refl _ w).alloc _
 have hbB := blk_new w zeroK
 have hPc := Qh (Parts_c _ n _ (hN.kn hkB))
 clear hM hN hG
 go_enter Tryz.func182, Tryz.ntmps182
 go_wp2_with fail
 refine hPc.out.mono ?_
 rintro e w1 ⟨v7, qs, rfl, hP, hk1, hfr⟩
 have hK1 : Kn w w1 := hkB.trans hk1
 have hB1 := hk1.blk hbB (fun x => x)
 have hN1 := Qh (HN.out.kn hK1)
 have HO := Qh ((Ow.refl HM.out).kn hK1)
 have hBl := blk_lt hB1
 have HFR : Hid (∀ k, v7.ownBlock = some k → w.heap.size < k) := Qh (fun k e => by have := hfr k e; simp at this; omega)
 clear hbB hkB hk1 hPc hfr
 go_wp2_with fail
 refine (Kind_c _ n w1 hN1.out).mono ?_
 rintro e w' ⟨rfl, rfl⟩
 simp only [Re.kind]
 obtain ⟨a, c, rfl, hpt, hrow⟩ := hP
 cases hrow with
 | cons hx hr2 =>
 cases hr2 with
 | cons hy hr3 =>
 cases hr3
 rename_i i j
 obtain ⟨g7, rfl, hc0⟩ := hpt 0 (by simp)
 obtain ⟨g7', hg7, hc1⟩ := hpt 1 (by simp)
 injection hg7 with hg7; injection hg7 with hg7; subst hg7
 simp only [List.getElem_cons_zero, List.getElem_cons_succ] at hc0 hc1
 have hg7 := HFR.out g7 rfl
 have hg7l : g7 < w1.heap.size := World.block_lt_of_cell? w1 _ hc0
 have hS7 : Hid (¬ MS pm v fs g7) := Qh (fun e => by have := (HM.out.ms_lt e).2; omega)
 have hGx := Qh (nAdd_good r x ps HG.out)
 have hGy := Qh (nAdd_good r y (nAdd r x ps).1 hGx.out.2.1)
 have hM1 := HM.out.kn hK1
 have hnx : ps.length + ncount x ≤ 2000 := by simp only [ncount] at hc; omega
 have hny : (nAdd r x ps).1.length + ncount y ≤ 2000 := by have := hGx.out.1; simp only [ncount] at hc; omega
 have HM1 := Qh hM1
 have HX := Qh hx
 have HY := Qh hy
 clear hpt hM1 hx hy
 go_upto_region 8 with fail
 have HK1 : Kn w1 w1.drew := (Kp.refl _ _).drew
 refine wp_region_held_drew (S := fun w' => w'.cell? ⟨g7, 0, none⟩ = some (ptr i) ∧ w'.cell? ⟨g7, 1, none⟩ = some (ptr j)) (by kernel_rfl) ⟨kn_cell HK1 hc0, kn_cell HK1 hc1⟩ (fun hHeld => ?_)
 refine TW 0 46 ?_
 refine TW 1 47 ?_
 refine TW 2 48 ?_
 refine TW 3 49 ?_
 refine TW 4 50 ?_
 refine TH 5 51 ?_
 refine TW 7 53 ?_
 refine TW 8 54 ?_
 refine TW 9 55 ?_
 refine TW 10 56 ?_
 refine TH 11 57 ?_
 refine RH 6 (fun K hK => ?_)
 go_simp
 go_at_call 182
 refine (IHX.out r ps fs v vr pm i w1.drew (HM1.out.kn HK1) (HX.out.kn HK1) HG.out hnx hr).mono ?_
 rintro e w2 ⟨f1, l1, v1, fs2, rfl, hO2, hFf1, hFl1⟩
 have hk2 := hO2.kp
 have hc0' := kp_cell hk2 (kn_cell HK1 hc0) hS7.out
 have hc1' := kp_cell hk2 (kn_cell HK1 hc1) hS7.out
 have hM2 := hO2.mach
 have hy2 := hO2.nodes (HM1.out.kn HK1) (HY.out.kn HK1)
 have hS2 : Hid (¬ MS pm v1 (fs ++ fs2) g7) := Qh (hO2.ms hg7l hS7.out)
 have O2 := Qh (And.intro hO2 (And.intro hFf1 hFl1))
 clear hO2 hFf1 hFl1 hk2
 dsimp only
 refine hK.out _ _ ⟨hc0', hc1'⟩ (fun hHeld => ?_)
 clear hK K
 try simp only [PP]
 refine RH 12 (fun K hK => ?_)
 go_simp
 go_at_call 182
 refine (IHY.out r (nAdd r x ps).1 (fs ++ fs2) v1 vr pm j w2 hM2 hy2 hGx.out.2.1 hny hr).mono ?_
 rintro e w3 ⟨f2, l2, v2, fs3, rfl, hO3, hFf2, hFl2⟩
 have hk3 := hO3.kp
 have hd0 := kp_cell hk3 hc0' hS2.out
 have hd1 := kp_cell hk3 hc1' hS2.out
 have hO13 := O2.out.1.trans hO3
 have hF1 := O2.out.2.1.ow (HM1.out.kn HK1) O2.out.1 hO3
 have hL1 := O2.out.2.2.ow (HM1.out.kn HK1) O2.out.1 hO3
 have hF2 := Fr.after O2.out.1 hO3 hFf2
 have hL2 := Fr.after O2.out.1 hO3 hFl2
 have hS3 : Hid (¬ MS pm v2 (fs ++ (fs2 ++ fs3)) g7) := Qh (hO13.ms hg7l hS7.out)
 have hM3 := hO13.mach
 have O3 := Qh (And.intro hO13 (And.intro hF1 (And.intro hL1 (And.intro hF2 hL2))))
 clear hO13 hO3 hF1 hL1 hF2 hL2 hFf2 hFl2 hk3 hM2 hy2
 dsimp only
 refine hK.out _ _ ⟨hd0, hd1⟩ (fun hHeld => ?_)
 clear hK K
 try simp only [PP]
 refine RH 13 (fun K hK => ?_)
 go_simp
 go_at_call 215
 refine (cat_c pm f1 l1 f2 l2 (nAdd r x ps).2 (nAdd r y (nAdd r x ps).1).2 v2 vr (nAdd r y (nAdd r x ps).1).1 (fs ++ (fs2 ++ fs3)) w3 hM3 (by have := hGy.out.1; omega) hGy.out.2.1 (hGx.out.2.2.mono (by have := hGy.out.1; omega)) hGy.out.2.2
  O3.out.2.1.set O3.out.2.2.1.set O3.out.2.2.2.1.set O3.out.2.2.2.2.set ⟨O3.out.2.1.apart (HM1.out.kn HK1), O3.out.2.2.1.apart (HM1.out.kn HK1), O3.out.2.2.2.1.apart (HM1.out.kn HK1), O3.out.2.2.2.2.apart (HM1.out.kn HK1)⟩).mono ?_
 rintro e w4 ⟨f, l, rfl, hM4, hs4, hl4, hf, hl, hk4⟩
 have he0 := kp_cell hk4 hd0 (fun e => hS3.out (.inr (.inr e)))
 have he1 := kp_cell hk4 hd1 (fun e => hS3.out (.inr (.inr e)))
 have hO4 := O3.out.1.linked hM4 hk4
 have hF4 : Fr w1.drew w4 v2 (fs2 ++ fs3) f (ncat (nAdd r x ps).2 (nAdd r y (nAdd r x ps).1).2).first := by
  rcases hf with rfl | hf
  ·exact ⟨hs4, O3.out.2.1.ge, O3.out.2.1.off, O3.out.2.1.row⟩
  ·exact Fr.made O3.out.1 hs4 hf hM3
 have hL4 : Fr w1.drew w4 v2 (fs2 ++ fs3) l (ncat (nAdd r x ps).2 (nAdd r y (nAdd r x ps).1).2).last := by
  rcases hl with rfl | hl
  ·exact ⟨hl4, O3.out.2.2.2.2.ge, O3.out.2.2.2.2.off, O3.out.2.2.2.2.row⟩
  ·exact Fr.made O3.out.1 hl4 hl hM3
 have hB4 := hO4.blk (HM1.out.kn HK1) (HK1.blk hB1 (fun x => x)) (by decide) (by decide)
 have hz4 : w.heap.size < w4.heap.size := blk_lt hB4
 have O4 := Qh (And.intro (hO4.pre (hK1.trans HK1)) (And.intro (hF4.pre (hK1.trans HK1)) (hL4.pre (hK1.trans HK1))))
 clear hO4 hF4 hL4 hs4 hl4 hM4 hf hl hM3 O3 hk4
 dsimp only
 refine hK.out _ _ ⟨he0, he1⟩ (fun hHeld => ?_)
 clear hK K
 try simp only [PP]
 refine RH 14 (fun K hK => ?_)
 have xB0 := cell_blk hB4 0; have xB1 := cell_blk hB4 1; have xB2 := cell_blk hB4 2
 have yB0 := frozen_blk hB4 0; have yB1 := frozen_blk hB4 1; have yB2 := frozen_blk hB4 2
 simp only [PE] at xB0 xB1 xB2
 have hT0 : K1 w.heap.size w4 (((w4.setCell ⟨w.heap.size, 0, none⟩ (.map (some f))).setCell ⟨w.heap.size, 1, none⟩ (.map (some l))).setCell ⟨w.heap.size, 2, none⟩ (.bool (ncat (nAdd r x ps).2 (nAdd r y (nAdd r x ps).1).2).empty)) := ((Kp.set1 _ _).trans (Kp.set1 _ _)).trans (Kp.set1 _ _)
 have hf0 := kp_cell hT0 he0 (show ¬ g7 = w.heap.size by omega)
 have hf1 := kp_cell hT0 he1 (show ¬ g7 = w.heap.size by omega)
 clear hT0
 go_simp
 refine hK.out _ _ ⟨hf0, hf1⟩ (fun hHeld => ?_)
 clear hK K
 try simp only [PP]
 refine RD ?_
 go_wp2_with fail
 refine bodyPost_ret (v := knV f l (ncat (nAdd r x ps).2 (nAdd r y (nAdd r x ps).1).2).empty) (res3 (b := w.heap.size) (T := TKno) (fr := (0, 0)) Tryz.results182 (by rfl) ?_) rfl ?_
 ·exact blk_set (blk_set (blk_set hB4 0 _) 1 _) 2 _
 have hT : K1 w.heap.size w4 (((w4.setCell ⟨w.heap.size, 0, none⟩ (.map (some f))).setCell ⟨w.heap.size, 1, none⟩ (.map (some l))).setCell ⟨w.heap.size, 2, none⟩ (.bool (ncat (nAdd r x ps).2 (nAdd r y (nAdd r x ps).1).2).empty)) := ((Kp.set1 _ _).trans (Kp.set1 _ _)).trans (Kp.set1 _ _)
 obtain ⟨q1, q2, q3⟩ := O4.out
 exact ⟨f, l, v2, fs2 ++ fs3, rfl, q1.k1 hT (Nat.le_refl _) (q1.mach.other hB4 (by decide) (by decide)), q2.k1 hT hB4, q3.k1 hT hB4⟩
set_option maxRecDepth 100000 in
set_option maxHeartbeats 4000000 in
theorem add_or (x y : Rw) (ihx : AddC x) (ihy : AddC y) : AddC (.or x y) := by
 intro r ps fs v vr pm n w hM hN hG hc hr
 have HM := Qh hM
 have IHX := Qh ihx
 have IHY := Qh ihy
 clear ihx ihy
 have HN := Qh hN
 have HG := Qh hG
 have hkB : Kn w (w.alloc zeroK) := (Kp.refl _ w).alloc _
 have hbB := blk_new w zeroK
 have hPc := Qh (Parts_c _ n _ (hN.kn hkB))
 clear hM hN hG
 go_enter Tryz.func182, Tryz.ntmps182
 go_wp2_with fail
 refine hPc.out.mono ?_
 rintro e w1 ⟨v7, qs, rfl, hP, hk1, hfr⟩
 have hK1 : Kn w w1 := hkB.trans hk1
 have hB1 := hk1.blk hbB (fun x => x)
 have hN1 := Qh (HN.out.kn hK1)
 have HO := Qh ((Ow.refl HM.out).kn hK1)
 have hBl := blk_lt hB1
 have HFR : Hid (∀ k, v7.ownBlock = some k → w.heap.size < k) := Qh (fun k e => by have := hfr k e; simp at this; omega)
 clear hbB hkB hk1 hPc hfr
 go_wp2_with fail
 refine (Kind_c _ n w1 hN1.out).mono ?_
 rintro e w' ⟨rfl, rfl⟩
 simp only [Re.kind]
 obtain ⟨a, c, rfl, hpt, hrow⟩ := hP
 cases hrow with
 | cons hx hr2 =>
 cases hr2 with
 | cons hy hr3 =>
 cases hr3
 rename_i i j
 obtain ⟨g7, rfl, hc0⟩ := hpt 0 (by simp)
 obtain ⟨g7', hg7, hc1⟩ := hpt 1 (by simp)
 injection hg7 with hg7; injection hg7 with hg7; subst hg7
 simp only [List.getElem_cons_zero, List.getElem_cons_succ] at hc0 hc1
 have hg7 := HFR.out g7 rfl
 have hg7l : g7 < w1.heap.size := World.block_lt_of_cell? w1 _ hc0
 have hS7 : Hid (¬ MS pm v fs g7) := Qh (fun e => by have := (HM.out.ms_lt e).2; omega)
 have hGx := Qh (nAdd_good r x ps HG.out)
 have hGy := Qh (nAdd_good r y (nAdd r x ps).1 hGx.out.2.1)
 have hM1 := HM.out.kn hK1
 have hnx : ps.length + ncount x ≤ 2000 := by simp only [ncount] at hc; omega
 have hny : (nAdd r x ps).1.length + ncount y ≤ 2000 := by have := hGx.out.1; simp only [ncount] at hc; omega
 have HM1 := Qh hM1
 have HX := Qh hx
 have HY := Qh hy
 clear hpt hM1 hx hy
 go_upto_region 10 with fail
 go_cut [9, 10] (fun s9 s10 wc => ∃ (g9 g10 f1 l1 f2 l2 : Nat) (v2 : Value) (fs4 : List Nat), s9 = ptr g9 ∧ s10 = ptr g10 ∧ Hid (OrIn w1 wc pm v vr fs (nAdd r y (nAdd r x ps).1).1 (nAdd r x ps).2 (nAdd r y (nAdd r x ps).1).2 g9 g10 f1 l1 f2 l2 v2 fs4))
 case first =>
  have HK1 : Kn w1 w1.drew := (Kp.refl _ _).drew
  refine wp_region_held_drew (S := fun w' => w'.cell? ⟨g7, 0, none⟩ = some (ptr i) ∧ w'.cell? ⟨g7, 1, none⟩ = some (ptr j)) (by kernel_rfl) ⟨kn_cell HK1 hc0, kn_cell HK1 hc1⟩ (fun hHeld => ?_)
  obtain ⟨wd, hwd⟩ : ∃ z, z = w1.drew := ⟨_, rfl⟩
  rw [← hwd] at HK1 hHeld ⊢
  have HMd := HM1.out.kn HK1
  have O_0 := Ow.refl HMd
  have C0_0 := kn_cell HK1 hc0
  have C1_0 := kn_cell HK1 hc1
  have NX_0 := HX.out.kn HK1
  have NY_0 := HY.out.kn HK1
  have hg7d : g7 < wd.heap.size := by rw [hwd]; exact hg7l
  clear hc0 hc1 hwd
  refine TW 0 62 ?_
  refine TW 1 63 ?_
  refine TW 2 64 ?_
  refine TW 3 65 ?_
  refine TH 4 66 ?_
  refine TW 6 68 ?_
  refine TW 7 69 ?_
  refine TW 8 70 ?_
  refine TW 9 71 ?_
  refine TH 10 72 ?_
  refine wpAnyH_ready (rs := [5, 12, 13]) (by kernel_rfl) (by simp) (AllReadyH.cons (o := Oper.mk (some 67) _ _ _ _ _) rfl (fun K hK => ?_) (AllReadyH.cons (o := Oper.mk (some 9) _ _ _ _ _) rfl (fun K hK => ?_) (AllReadyH.cons (o := Oper.mk (some 10) _ _ _ _ _) rfl (fun K hK => ?_) AllReadyH.nil)))
  ·go_simp
   go_at_call 182
   refine (IHX.out r ps (fs ++ []) v vr pm i wd O_0.mach NX_0 HG.out hnx hr).mono ?_
   rintro e u1 ⟨f1, l1, v1, fs2, rfl, hA1, hB1, hC1⟩
   have O_1 := O_0.trans hA1
   have C0_1 := kp_cell hA1.kp C0_0 (O_0.ms hg7d hS7.out)
   have C1_1 := kp_cell hA1.kp C1_0 (O_0.ms hg7d hS7.out)
   have NY_1 := hA1.nodes O_0.mach NY_0
   have F1_1 := Fr.after O_0 hA1 hB1
   have L1_1 := Fr.after O_0 hA1 hC1
   clear hA1 hB1 hC1 O_0 C0_0 C1_0 NX_0 NY_0
   dsimp only
   refine hK.out _ _ ⟨C0_1, C1_1⟩ (fun hHeld => ?_)
   clear hK K
   try simp only [PP]
   refine wpAnyH_ready (rs := [11, 12, 13]) (by kernel_rfl) (by simp) (AllReadyH.cons (o := Oper.mk (some 73) _ _ _ _ _) rfl (fun K hK => ?_) (AllReadyH.cons (o := Oper.mk (some 9) _ _ _ _ _) rfl (fun K hK => ?_) (AllReadyH.cons (o := Oper.mk (some 10) _ _ _ _ _) rfl (fun K hK => ?_) AllReadyH.nil)))
   ·go_simp
    go_at_call 182
    refine (IHY.out r (nAdd r x ps).1 (fs ++ ([] ++ fs2)) v1 vr pm j u1 O_1.mach NY_1 hGx.out.2.1 hny hr).mono ?_
    rintro e u2 ⟨f2, l2, v2, fs3, rfl, hA2, hB2, hC2⟩
    have O_2 := O_1.trans hA2
    have C0_2 := kp_cell hA2.kp C0_1 (O_1.ms hg7d hS7.out)
    have C1_2 := kp_cell hA2.kp C1_1 (O_1.ms hg7d hS7.out)
    have F1_2 := F1_1.ow HMd O_1 hA2
    have L1_2 := L1_1.ow HMd O_1 hA2
    have F2_2 := Fr.after O_1 hA2 hB2
    have L2_2 := Fr.after O_1 hA2 hC2
    clear hA2 hB2 hC2 O_1 C0_1 C1_1 NY_1 F1_1 L1_1
    dsimp only
    refine hK.out _ _ ⟨C0_2, C1_2⟩ (fun hHeld => ?_)
    clear hK K
    try simp only [PP]
    refine RH2 12 13 (fun K hK => ?_) (fun K hK => ?_)
    ·go_simp
     obtain ⟨u3, hw3⟩ : ∃ z, z = u2.alloc zeroK := ⟨_, rfl⟩
     have hk3 : Kn u2 u3 := by rw [hw3]; exact (Kp.refl _ _).alloc _
     obtain ⟨g9, hg9⟩ : ∃ z, z = u2.heap.size := ⟨_, rfl⟩
     have G9_3 : u3.heap[g9]? = some zeroK := by rw [hw3, hg9]; exact blk_new _ _
     have z9 : wd.heap.size ≤ g9 := by rw [hg9]; exact O_2.kp.size
     have O_3 := O_2.kn hk3
     have C0_3 := kn_cell hk3 C0_2
     have C1_3 := kn_cell hk3 C1_2
     have F1_3 := F1_2.kn hk3
     have L1_3 := L1_2.kn hk3
     have F2_3 := F2_2.kn hk3
     have L2_3 := L2_2.kn hk3
     rw [← hw3, ← hg9]
     clear hk3 hw3 hg9 O_2 C0_2 C1_2 F1_2 L1_2 F2_2 L2_2
     refine hK.out _ _ ⟨C0_3, C1_3⟩ (fun hHeld => ?_)
     clear hK K
     try simp only [PP]
     refine RH 13 (fun K hK => ?_)
     go_simp
     obtain ⟨u4, hw4⟩ : ∃ z, z = u3.alloc zeroK := ⟨_, rfl⟩
     have hk4 : Kn u3 u4 := by rw [hw4]; exact (Kp.refl _ _).alloc _
     obtain ⟨g10, hg10⟩ : ∃ z, z = u3.heap.size := ⟨_, rfl⟩
     have G10_4 : u4.heap[g10]? = some zeroK := by rw [hw4, hg10]; exact blk_new _ _
     have z10 : wd.heap.size ≤ g10 := by rw [hg10]; exact O_3.kp.size
     have hne : ¬ g9 = g10 := by have := blk_lt G9_3; omega
     have O_4 := O_3.kn hk4
     have C0_4 := kn_cell hk4 C0_3
     have C1_4 := kn_cell hk4 C1_3
     have F1_4 := F1_3.kn hk4
     have L1_4 := L1_3.kn hk4
     have F2_4 := F2_3.kn hk4
     have L2_4 := L2_3.kn hk4
     have G9_4 := hk4.blk G9_3 (fun x => x)
     rw [← hw4, ← hg10]
     clear hk4 hw4 hg10 O_3 C0_3 C1_3 F1_3 L1_3 F2_3 L2_3 G9_3
     refine hK.out _ _ ⟨C0_4, C1_4⟩ (fun hHeld => ?_)
     clear hK K
     try simp only [PP]
     refine RH 14 (fun K hK => ?_)
     have x90 := cell_blk G9_4 0; have x91 := cell_blk G9_4 1; have x92 := cell_blk G9_4 2
     have y90 := frozen_blk G9_4 0; have y91 := frozen_blk G9_4 1; have y92 := frozen_blk G9_4 2
     simp only [PE] at x90 x91 x92
     go_simp
     clear x90 x91 x92 y90 y91 y92
     obtain ⟨u5, hw5⟩ : ∃ z, z = ((u4.setCell ⟨g9, 0, none⟩ (.map (some f1))).setCell ⟨g9, 1, none⟩ (.map (some l1))).setCell ⟨g9, 2, none⟩ (.bool (nAdd r x ps).2.empty) := ⟨_, rfl⟩
     have hk5 : K1 g9 u4 u5 := by rw [hw5]; exact K1.tower _ _ _ _
     have O_5 := O_4.k1 hk5 z9 (O_4.mach.other G9_4 (by decide) (by decide))
     have C0_5 := kp_cell hk5 C0_4 (show ¬ g7 = g9 by omega)
     have C1_5 := kp_cell hk5 C1_4 (show ¬ g7 = g9 by omega)
     have F1_5 := F1_4.k1 hk5 G9_4
     have L1_5 := L1_4.k1 hk5 G9_4
     have F2_5 := F2_4.k1 hk5 G9_4
     have L2_5 := L2_4.k1 hk5 G9_4
     have G10_5 := hk5.blk G10_4 (by omega)
     have G9_5 : u5.heap[g9]? = some (knB f1 l1 (nAdd r x ps).2.empty) := by rw [hw5]; exact blk_tower G9_4 _ _ _
     rw [← hw5]
     clear hk5 hw5 O_4 C0_4 C1_4 F1_4 L1_4 F2_4 L2_4 G9_4 G10_4
     refine hK.out _ _ ⟨C0_5, C1_5⟩ (fun hHeld => ?_)
     clear hK K
     try simp only [PP]
     refine RH 15 (fun K hK => ?_)
     have x90 := cell_blk G10_5 0; have x91 := cell_blk G10_5 1; have x92 := cell_blk G10_5 2
     have y90 := frozen_blk G10_5 0; have y91 := frozen_blk G10_5 1; have y92 := frozen_blk G10_5 2
     simp only [PE] at x90 x91 x92
     go_simp
     clear x90 x91 x92 y90 y91 y92
     obtain ⟨u6, hw6⟩ : ∃ z, z = ((u5.setCell ⟨g10, 0, none⟩ (.map (some f2))).setCell ⟨g10, 1, none⟩ (.map (some l2))).setCell ⟨g10, 2, none⟩ (.bool (nAdd r y (nAdd r x ps).1).2.empty) := ⟨_, rfl⟩
     have hk6 : K1 g10 u5 u6 := by rw [hw6]; exact K1.tower _ _ _ _
     have O_6 := O_5.k1 hk6 z10 (O_5.mach.other G10_5 (by decide) (by decide))
     have C0_6 := kp_cell hk6 C0_5 (show ¬ g7 = g10 by omega)
     have C1_6 := kp_cell hk6 C1_5 (show ¬ g7 = g10 by omega)
     have F1_6 := F1_5.k1 hk6 G10_5
     have L1_6 := L1_5.k1 hk6 G10_5
     have F2_6 := F2_5.k1 hk6 G10_5
     have L2_6 := L2_5.k1 hk6 G10_5
     have G9_6 := hk6.blk G9_5 (by omega)
     have G10_6 : u6.heap[g10]? = some (knB f2 l2 (nAdd r y (nAdd r x ps).1).2.empty) := by rw [hw6]; exact blk_tower G10_5 _ _ _
     rw [← hw6]
     clear hk6 hw6 O_5 C0_5 C1_5 F1_5 L1_5 F2_5 L2_5 G9_5 G10_5
     refine hK.out _ _ ⟨C0_6, C1_6⟩ (fun hHeld => ?_)
     clear hK K
     try simp only [PP]
     refine RD ?_
     go_wp2_with fail
     go_meet
     case rel => exact ⟨g9, g10, f1, l1, f2, l2, v2, _, rfl, rfl, Qh ⟨O_6.pre HK1, F1_6.pre HK1, L1_6.pre HK1, F2_6.pre HK1, L2_6.pre HK1, G9_6, G10_6, Nat.le_trans HK1.size z9, Nat.le_trans HK1.size z10⟩⟩
    ·go_simp
     obtain ⟨u7, hw7⟩ : ∃ z, z = u2.alloc zeroK := ⟨_, rfl⟩
     have hk7 : Kn u2 u7 := by rw [hw7]; exact (Kp.refl _ _).alloc _
     obtain ⟨g10, hg10⟩ : ∃ z, z = u2.heap.size := ⟨_, rfl⟩
     have G10_7 : u7.heap[g10]? = some zeroK := by rw [hw7, hg10]; exact blk_new _ _
     have z10 : wd.heap.size ≤ g10 := by rw [hg10]; exact O_2.kp.size
     have O_7 := O_2.kn hk7
     have C0_7 := kn_cell hk7 C0_2
     have C1_7 := kn_cell hk7 C1_2
     have F1_7 := F1_2.kn hk7
     have L1_7 := L1_2.kn hk7
     have F2_7 := F2_2.kn hk7
     have L2_7 := L2_2.kn hk7
     rw [← hw7, ← hg10]
     clear hk7 hw7 hg10 O_2 C0_2 C1_2 F1_2 L1_2 F2_2 L2_2
     refine hK.out _ _ ⟨C0_7, C1_7⟩ (fun hHeld => ?_)
     clear hK K
     try simp only [PP]
     refine RH 12 (fun K hK => ?_)
     go_simp
     obtain ⟨u8, hw8⟩ : ∃ z, z = u7.alloc zeroK := ⟨_, rfl⟩
     have hk8 : Kn u7 u8 := by rw [hw8]; exact (Kp.refl _ _).alloc _
     obtain ⟨g9, hg9⟩ : ∃ z, z = u7.heap.size := ⟨_, rfl⟩
     have G9_8 : u8.heap[g9]? = some zeroK := by rw [hw8, hg9]; exact blk_new _ _
     have z9 : wd.heap.size ≤ g9 := by rw [hg9]; exact O_7.kp.size
     have hne : ¬ g9 = g10 := by have := blk_lt G10_7; omega
     have O_8 := O_7.kn hk8
     have C0_8 := kn_cell hk8 C0_7
     have C1_8 := kn_cell hk8 C1_7
     have F1_8 := F1_7.kn hk8
     have L1_8 := L1_7.kn hk8
     have F2_8 := F2_7.kn hk8
     have L2_8 := L2_7.kn hk8
     have G10_8 := hk8.blk G10_7 (fun x => x)
     rw [← hw8, ← hg9]
     clear hk8 hw8 hg9 O_7 C0_7 C1_7 F1_7 L1_7 F2_7 L2_7 G10_7
     refine hK.out _ _ ⟨C0_8, C1_8⟩ (fun hHeld => ?_)
     clear hK K
     try simp only [PP]
     refine RH 14 (fun K hK => ?_)
     have x90 := cell_blk G9_8 0; have x91 := cell_blk G9_8 1; have x92 := cell_blk G9_8 2
     have y90 := frozen_blk G9_8 0; have y91 := frozen_blk G9_8 1; have y92 := frozen_blk G9_8 2
     simp only [PE] at x90 x91 x92
     go_simp
     clear x90 x91 x92 y90 y91 y92
     obtain ⟨u9, hw9⟩ : ∃ z, z = ((u8.setCell ⟨g9, 0, none⟩ (.map (some f1))).setCell ⟨g9, 1, none⟩ (.map (some l1))).setCell ⟨g9, 2, none⟩ (.bool (nAdd r x ps).2.empty) := ⟨_, rfl⟩
     have hk9 : K1 g9 u8 u9 := by rw [hw9]; exact K1.tower _ _ _ _
     have O_9 := O_8.k1 hk9 z9 (O_8.mach.other G9_8 (by decide) (by decide))
     have C0_9 := kp_cell hk9 C0_8 (show ¬ g7 = g9 by omega)
     have C1_9 := kp_cell hk9 C1_8 (show ¬ g7 = g9 by omega)
     have F1_9 := F1_8.k1 hk9 G9_8
     have L1_9 := L1_8.k1 hk9 G9_8
     have F2_9 := F2_8.k1 hk9 G9_8
     have L2_9 := L2_8.k1 hk9 G9_8
     have G10_9 := hk9.blk G10_8 (by omega)
     have G9_9 : u9.heap[g9]? = some (knB f1 l1 (nAdd r x ps).2.empty) := by rw [hw9]; exact blk_tower G9_8 _ _ _
     rw [← hw9]
     clear hk9 hw9 O_8 C0_8 C1_8 F1_8 L1_8 F2_8 L2_8 G9_8 G10_8
     refine hK.out _ _ ⟨C0_9, C1_9⟩ (fun hHeld => ?_)
     clear hK K
     try simp only [PP]
     refine RH 15 (fun K hK => ?_)
     have x90 := cell_blk G10_9 0; have x91 := cell_blk G10_9 1; have x92 := cell_blk G10_9 2
     have y90 := frozen_blk G10_9 0; have y91 := frozen_blk G10_9 1; have y92 := frozen_blk G10_9 2
     simp only [PE] at x90 x91 x92
     go_simp
     clear x90 x91 x92 y90 y91 y92
     obtain ⟨u10, hw10⟩ : ∃ z, z = ((u9.setCell ⟨g10, 0, none⟩ (.map (some f2))).setCell ⟨g10, 1, none⟩ (.map (some l2))).setCell ⟨g10, 2, none⟩ (.bool (nAdd r y (nAdd r x ps).1).2.empty) := ⟨_, rfl⟩
     have hk10 : K1 g10 u9 u10 := by rw [hw10]; exact K1.tower _ _ _ _
     have O_10 := O_9.k1 hk10 z10 (O_9.mach.other G10_9 (by decide) (by decide))
     have C0_10 := kp_cell hk10 C0_9 (show ¬ g7 = g10 by omega)
     have C1_10 := kp_cell hk10 C1_9 (show ¬ g7 = g10 by omega)
     have F1_10 := F1_9.k1 hk10 G10_9
     have L1_10 := L1_9.k1 hk10 G10_9
     have F2_10 := F2_9.k1 hk10 G10_9
     have L2_10 := L2_9.k1 hk10 G10_9
     have G9_10 := hk10.blk G9_9 (by omega)
     have G10_10 : u10.heap[g10]? = some (knB f2 l2 (nAdd r y (nAdd r x ps).1).2.empty) := by rw [hw10]; exact blk_tower G10_9 _ _ _
     rw [← hw10]
     clear hk10 hw10 O_9 C0_9 C1_9 F1_9 L1_9 F2_9 L2_9 G9_9 G10_9
     refine hK.out _ _ ⟨C0_10, C1_10⟩ (fun hHeld => ?_)
     clear hK K
     try simp only [PP]
     refine RD ?_
     go_wp2_with fail
     go_meet
     case rel => exact ⟨g9, g10, f1, l1, f2, l2, v2, _, rfl, rfl, Qh ⟨O_10.pre HK1, F1_10.pre HK1, L1_10.pre HK1, F2_10.pre HK1, L2_10.pre HK1, G9_10, G10_10, Nat.le_trans HK1.size z9, Nat.le_trans HK1.size z10⟩⟩
   ·go_simp
    obtain ⟨u11, hw11⟩ : ∃ z, z = u1.alloc zeroK := ⟨_, rfl⟩
    have hk11 : Kn u1 u11 := by rw [hw11]; exact (Kp.refl _ _).alloc _
    obtain ⟨g9, hg9⟩ : ∃ z, z = u1.heap.size := ⟨_, rfl⟩
    have G9_11 : u11.heap[g9]? = some zeroK := by rw [hw11, hg9]; exact blk_new _ _
    have z9 : wd.heap.size ≤ g9 := by rw [hg9]; exact O_1.kp.size
    have O_11 := O_1.kn hk11
    have C0_11 := kn_cell hk11 C0_1
    have C1_11 := kn_cell hk11 C1_1
    have NY_11 := NY_1.kn hk11
    have F1_11 := F1_1.kn hk11
    have L1_11 := L1_1.kn hk11
    rw [← hw11, ← hg9]
    clear hk11 hw11 hg9 O_1 C0_1 C1_1 NY_1 F1_1 L1_1
    refine hK.out _ _ ⟨C0_11, C1_11⟩ (fun hHeld => ?_)
    clear hK K
    try simp only [PP]
    refine RH2 11 13 (fun K hK => ?_) (fun K hK => ?_)
    ·go_simp
     go_at_call 182
     refine (IHY.out r (nAdd r x ps).1 (fs ++ ([] ++ fs2)) v1 vr pm j u11 O_11.mach NY_11 hGx.out.2.1 hny hr).mono ?_
     rintro e u12 ⟨f2, l2, v2, fs3, rfl, hA12, hB12, hC12⟩
     have O_12 := O_11.trans hA12
     have C0_12 := kp_cell hA12.kp C0_11 (O_11.ms hg7d hS7.out)
     have C1_12 := kp_cell hA12.kp C1_11 (O_11.ms hg7d hS7.out)
     have F1_12 := F1_11.ow HMd O_11 hA12
     have L1_12 := L1_11.ow HMd O_11 hA12
     have G9_12 := hA12.blk O_11.mach G9_11 (by decide) (by decide)
     have F2_12 := Fr.after O_11 hA12 hB12
     have L2_12 := Fr.after O_11 hA12 hC12
     clear hA12 hB12 hC12 O_11 C0_11 C1_11 NY_11 F1_11 L1_11 G9_11
     dsimp only
     refine hK.out _ _ ⟨C0_12, C1_12⟩ (fun hHeld => ?_)
     clear hK K
     try simp only [PP]
     refine RH 13 (fun K hK => ?_)
     go_simp
     obtain ⟨u13, hw13⟩ : ∃ z, z = u12.alloc zeroK := ⟨_, rfl⟩
     have hk13 : Kn u12 u13 := by rw [hw13]; exact (Kp.refl _ _).alloc _
     obtain ⟨g10, hg10⟩ : ∃ z, z = u12.heap.size := ⟨_, rfl⟩
     have G10_13 : u13.heap[g10]? = some zeroK := by rw [hw13, hg10]; exact blk_new _ _
     have z10 : wd.heap.size ≤ g10 := by rw [hg10]; exact O_12.kp.size
     have hne : ¬ g9 = g10 := by have := blk_lt G9_12; omega
     have O_13 := O_12.kn hk13
     have C0_13 := kn_cell hk13 C0_12
     have C1_13 := kn_cell hk13 C1_12
     have F1_13 := F1_12.kn hk13
     have L1_13 := L1_12.kn hk13
     have F2_13 := F2_12.kn hk13
     have L2_13 := L2_12.kn hk13
     have G9_13 := hk13.blk G9_12 (fun x => x)
     rw [← hw13, ← hg10]
     clear hk13 hw13 hg10 O_12 C0_12 C1_12 F1_12 L1_12 F2_12 L2_12 G9_12
     refine hK.out _ _ ⟨C0_13, C1_13⟩ (fun hHeld => ?_)
     clear hK K
     try simp only [PP]
     refine RH 14 (fun K hK => ?_)
     have x90 := cell_blk G9_13 0; have x91 := cell_blk G9_13 1; have x92 := cell_blk G9_13 2
     have y90 := frozen_blk G9_13 0; have y91 := frozen_blk G9_13 1; have y92 := frozen_blk G9_13 2
     simp only [PE] at x90 x91 x92
     go_simp
     clear x90 x91 x92 y90 y91 y92
     obtain ⟨u14, hw14⟩ : ∃ z, z = ((u13.setCell ⟨g9, 0, none⟩ (.map (some f1))).setCell ⟨g9, 1, none⟩ (.map (some l1))).setCell ⟨g9, 2, none⟩ (.bool (nAdd r x ps).2.empty) := ⟨_, rfl⟩
     have hk14 : K1 g9 u13 u14 := by rw [hw14]; exact K1.tower _ _ _ _
     have O_14 := O_13.k1 hk14 z9 (O_13.mach.other G9_13 (by decide) (by decide))
     have C0_14 := kp_cell hk14 C0_13 (show ¬ g7 = g9 by omega)
     have C1_14 := kp_cell hk14 C1_13 (show ¬ g7 = g9 by omega)
     have F1_14 := F1_13.k1 hk14 G9_13
     have L1_14 := L1_13.k1 hk14 G9_13
     have F2_14 := F2_13.k1 hk14 G9_13
     have L2_14 := L2_13.k1 hk14 G9_13
     have G10_14 := hk14.blk G10_13 (by omega)
     have G9_14 : u14.heap[g9]? = some (knB f1 l1 (nAdd r x ps).2.empty) := by rw [hw14]; exact blk_tower G9_13 _ _ _
     rw [← hw14]
     clear hk14 hw14 O_13 C0_13 C1_13 F1_13 L1_13 F2_13 L2_13 G9_13 G10_13
     refine hK.out _ _ ⟨C0_14, C1_14⟩ (fun hHeld => ?_)
     clear hK K
     try simp only [PP]
     refine RH 15 (fun K hK => ?_)
     have x90 := cell_blk G10_14 0; have x91 := cell_blk G10_14 1; have x92 := cell_blk G10_14 2
     have y90 := frozen_blk G10_14 0; have y91 := frozen_blk G10_14 1; have y92 := frozen_blk G10_14 2
     simp only [PE] at x90 x91 x92
     go_simp
     clear x90 x91 x92 y90 y91 y92
     obtain ⟨u15, hw15⟩ : ∃ z, z = ((u14.setCell ⟨g10, 0, none⟩ (.map (some f2))).setCell ⟨g10, 1, none⟩ (.map (some l2))).setCell ⟨g10, 2, none⟩ (.bool (nAdd r y (nAdd r x ps).1).2.empty) := ⟨_, rfl⟩
     have hk15 : K1 g10 u14 u15 := by rw [hw15]; exact K1.tower _ _ _ _
     have O_15 := O_14.k1 hk15 z10 (O_14.mach.other G10_14 (by decide) (by decide))
     have C0_15 := kp_cell hk15 C0_14 (show ¬ g7 = g10 by omega)
     have C1_15 := kp_cell hk15 C1_14 (show ¬ g7 = g10 by omega)
     have F1_15 := F1_14.k1 hk15 G10_14
     have L1_15 := L1_14.k1 hk15 G10_14
     have F2_15 := F2_14.k1 hk15 G10_14
     have L2_15 := L2_14.k1 hk15 G10_14
     have G9_15 := hk15.blk G9_14 (by omega)
     have G10_15 : u15.heap[g10]? = some (knB f2 l2 (nAdd r y (nAdd r x ps).1).2.empty) := by rw [hw15]; exact blk_tower G10_14 _ _ _
     rw [← hw15]
     clear hk15 hw15 O_14 C0_14 C1_14 F1_14 L1_14 F2_14 L2_14 G9_14 G10_14
     refine hK.out _ _ ⟨C0_15, C1_15⟩ (fun hHeld => ?_)
     clear hK K
     try simp only [PP]
     refine RD ?_
     go_wp2_with fail
     go_meet
     case rel => exact ⟨g9, g10, f1, l1, f2, l2, v2, _, rfl, rfl, Qh ⟨O_15.pre HK1, F1_15.pre HK1, L1_15.pre HK1, F2_15.pre HK1, L2_15.pre HK1, G9_15, G10_15, Nat.le_trans HK1.size z9, Nat.le_trans HK1.size z10⟩⟩
    ·go_simp
     obtain ⟨u16, hw16⟩ : ∃ z, z = u11.alloc zeroK := ⟨_, rfl⟩
     have hk16 : Kn u11 u16 := by rw [hw16]; exact (Kp.refl _ _).alloc _
     obtain ⟨g10, hg10⟩ : ∃ z, z = u11.heap.size := ⟨_, rfl⟩
     have G10_16 : u16.heap[g10]? = some zeroK := by rw [hw16, hg10]; exact blk_new _ _
     have z10 : wd.heap.size ≤ g10 := by rw [hg10]; exact O_11.kp.size
     have hne : ¬ g9 = g10 := by have := blk_lt G9_11; omega
     have O_16 := O_11.kn hk16
     have C0_16 := kn_cell hk16 C0_11
     have C1_16 := kn_cell hk16 C1_11
     have NY_16 := NY_11.kn hk16
     have F1_16 := F1_11.kn hk16
     have L1_16 := L1_11.kn hk16
     have G9_16 := hk16.blk G9_11 (fun x => x)
     rw [← hw16, ← hg10]
     clear hk16 hw16 hg10 O_11 C0_11 C1_11 NY_11 F1_11 L1_11 G9_11
     refine hK.out _ _ ⟨C0_16, C1_16⟩ (fun hHeld => ?_)
     clear hK K
     try simp only [PP]
     refine RH 11 (fun K hK => ?_)
     go_simp
     go_at_call 182
     refine (IHY.out r (nAdd r x ps).1 (fs ++ ([] ++ fs2)) v1 vr pm j u16 O_16.mach NY_16 hGx.out.2.1 hny hr).mono ?_
     rintro e u17 ⟨f2, l2, v2, fs3, rfl, hA17, hB17, hC17⟩
     have O_17 := O_16.trans hA17
     have C0_17 := kp_cell hA17.kp C0_16 (O_16.ms hg7d hS7.out)
     have C1_17 := kp_cell hA17.kp C1_16 (O_16.ms hg7d hS7.out)
     have F1_17 := F1_16.ow HMd O_16 hA17
     have L1_17 := L1_16.ow HMd O_16 hA17
     have G9_17 := hA17.blk O_16.mach G9_16 (by decide) (by decide)
     have G10_17 := hA17.blk O_16.mach G10_16 (by decide) (by decide)
     have F2_17 := Fr.after O_16 hA17 hB17
     have L2_17 := Fr.after O_16 hA17 hC17
     clear hA17 hB17 hC17 O_16 C0_16 C1_16 NY_16 F1_16 L1_16 G9_16 G10_16
     dsimp only
     refine hK.out _ _ ⟨C0_17, C1_17⟩ (fun hHeld => ?_)
     clear hK K
     try simp only [PP]
     refine RH 14 (fun K hK => ?_)
     have x90 := cell_blk G9_17 0; have x91 := cell_blk G9_17 1; have x92 := cell_blk G9_17 2
     have y90 := frozen_blk G9_17 0; have y91 := frozen_blk G9_17 1; have y92 := frozen_blk G9_17 2
     simp only [PE] at x90 x91 x92
     go_simp
     clear x90 x91 x92 y90 y91 y92
     obtain ⟨u18, hw18⟩ : ∃ z, z = ((u17.setCell ⟨g9, 0, none⟩ (.map (some f1))).setCell ⟨g9, 1, none⟩ (.map (some l1))).setCell ⟨g9, 2, none⟩ (.bool (nAdd r x ps).2.empty) := ⟨_, rfl⟩
     have hk18 : K1 g9 u17 u18 := by rw [hw18]; exact K1.tower _ _ _ _
     have O_18 := O_17.k1 hk18 z9 (O_17.mach.other G9_17 (by decide) (by decide))
     have C0_18 := kp_cell hk18 C0_17 (show ¬ g7 = g9 by omega)
     have C1_18 := kp_cell hk18 C1_17 (show ¬ g7 = g9 by omega)
     have F1_18 := F1_17.k1 hk18 G9_17
     have L1_18 := L1_17.k1 hk18 G9_17
     have F2_18 := F2_17.k1 hk18 G9_17
     have L2_18 := L2_17.k1 hk18 G9_17
     have G10_18 := hk18.blk G10_17 (by omega)
     have G9_18 : u18.heap[g9]? = some (knB f1 l1 (nAdd r x ps).2.empty) := by rw [hw18]; exact blk_tower G9_17 _ _ _
     rw [← hw18]
     clear hk18 hw18 O_17 C0_17 C1_17 F1_17 L1_17 F2_17 L2_17 G9_17 G10_17
     refine hK.out _ _ ⟨C0_18, C1_18⟩ (fun hHeld => ?_)
     clear hK K
     try simp only [PP]
     refine RH 15 (fun K hK => ?_)
     have x90 := cell_blk G10_18 0; have x91 := cell_blk G10_18 1; have x92 := cell_blk G10_18 2
     have y90 := frozen_blk G10_18 0; have y91 := frozen_blk G10_18 1; have y92 := frozen_blk G10_18 2
     simp only [PE] at x90 x91 x92
     go_simp
     clear x90 x91 x92 y90 y91 y92
     obtain ⟨u19, hw19⟩ : ∃ z, z = ((u18.setCell ⟨g10, 0, none⟩ (.map (some f2))).setCell ⟨g10, 1, none⟩ (.map (some l2))).setCell ⟨g10, 2, none⟩ (.bool (nAdd r y (nAdd r x ps).1).2.empty) := ⟨_, rfl⟩
     have hk19 : K1 g10 u18 u19 := by rw [hw19]; exact K1.tower _ _ _ _
     have O_19 := O_18.k1 hk19 z10 (O_18.mach.other G10_18 (by decide) (by decide))
     have C0_19 := kp_cell hk19 C0_18 (show ¬ g7 = g10 by omega)
     have C1_19 := kp_cell hk19 C1_18 (show ¬ g7 = g10 by omega)
     have F1_19 := F1_18.k1 hk19 G10_18
     have L1_19 := L1_18.k1 hk19 G10_18
     have F2_19 := F2_18.k1 hk19 G10_18
     have L2_19 := L2_18.k1 hk19 G10_18
     have G9_19 := hk19.blk G9_18 (by omega)
     have G10_19 : u19.heap[g10]? = some (knB f2 l2 (nAdd r y (nAdd r x ps).1).2.empty) := by rw [hw19]; exact blk_tower G10_18 _ _ _
     rw [← hw19]
     clear hk19 hw19 O_18 C0_18 C1_18 F1_18 L1_18 F2_18 L2_18 G9_18 G10_18
     refine hK.out _ _ ⟨C0_19, C1_19⟩ (fun hHeld => ?_)
     clear hK K
     try simp only [PP]
     refine RD ?_
     go_wp2_with fail
     go_meet
     case rel => exact ⟨g9, g10, f1, l1, f2, l2, v2, _, rfl, rfl, Qh ⟨O_19.pre HK1, F1_19.pre HK1, L1_19.pre HK1, F2_19.pre HK1, L2_19.pre HK1, G9_19, G10_19, Nat.le_trans HK1.size z9, Nat.le_trans HK1.size z10⟩⟩
   ·go_simp
    obtain ⟨u20, hw20⟩ : ∃ z, z = u1.alloc zeroK := ⟨_, rfl⟩
    have hk20 : Kn u1 u20 := by rw [hw20]; exact (Kp.refl _ _).alloc _
    obtain ⟨g10, hg10⟩ : ∃ z, z = u1.heap.size := ⟨_, rfl⟩
    have G10_20 : u20.heap[g10]? = some zeroK := by rw [hw20, hg10]; exact blk_new _ _
    have z10 : wd.heap.size ≤ g10 := by rw [hg10]; exact O_1.kp.size
    have O_20 := O_1.kn hk20
    have C0_20 := kn_cell hk20 C0_1
    have C1_20 := kn_cell hk20 C1_1
    have NY_20 := NY_1.kn hk20
    have F1_20 := F1_1.kn hk20
    have L1_20 := L1_1.kn hk20
    rw [← hw20, ← hg10]
    clear hk20 hw20 hg10 O_1 C0_1 C1_1 NY_1 F1_1 L1_1
    refine hK.out _ _ ⟨C0_20, C1_20⟩ (fun hHeld => ?_)
    clear hK K
    try simp only [PP]
    refine RH2 11 12 (fun K hK => ?_) (fun K hK => ?_)
    ·go_simp
     go_at_call 182
     refine (IHY.out r (nAdd r x ps).1 (fs ++ ([] ++ fs2)) v1 vr pm j u20 O_20.mach NY_20 hGx.out.2.1 hny hr).mono ?_
     rintro e u21 ⟨f2, l2, v2, fs3, rfl, hA21, hB21, hC21⟩
     have O_21 := O_20.trans hA21
     have C0_21 := kp_cell hA21.kp C0_20 (O_20.ms hg7d hS7.out)
     have C1_21 := kp_cell hA21.kp C1_20 (O_20.ms hg7d hS7.out)
     have F1_21 := F1_20.ow HMd O_20 hA21
     have L1_21 := L1_20.ow HMd O_20 hA21
     have G10_21 := hA21.blk O_20.mach G10_20 (by decide) (by decide)
     have F2_21 := Fr.after O_20 hA21 hB21
     have L2_21 := Fr.after O_20 hA21 hC21
     clear hA21 hB21 hC21 O_20 C0_20 C1_20 NY_20 F1_20 L1_20 G10_20
     dsimp only
     refine hK.out _ _ ⟨C0_21, C1_21⟩ (fun hHeld => ?_)
     clear hK K
     try simp only [PP]
     refine RH 12 (fun K hK => ?_)
     go_simp
     obtain ⟨u22, hw22⟩ : ∃ z, z = u21.alloc zeroK := ⟨_, rfl⟩
     have hk22 : Kn u21 u22 := by rw [hw22]; exact (Kp.refl _ _).alloc _
     obtain ⟨g9, hg9⟩ : ∃ z, z = u21.heap.size := ⟨_, rfl⟩
     have G9_22 : u22.heap[g9]? = some zeroK := by rw [hw22, hg9]; exact blk_new _ _
     have z9 : wd.heap.size ≤ g9 := by rw [hg9]; exact O_21.kp.size
     have hne : ¬ g9 = g10 := by have := blk_lt G10_21; omega
     have O_22 := O_21.kn hk22
     have C0_22 := kn_cell hk22 C0_21
     have C1_22 := kn_cell hk22 C1_21
     have F1_22 := F1_21.kn hk22
     have L1_22 := L1_21.kn hk22
     have F2_22 := F2_21.kn hk22
     have L2_22 := L2_21.kn hk22
     have G10_22 := hk22.blk G10_21 (fun x => x)
     rw [← hw22, ← hg9]
     clear hk22 hw22 hg9 O_21 C0_21 C1_21 F1_21 L1_21 F2_21 L2_21 G10_21
     refine hK.out _ _ ⟨C0_22, C1_22⟩ (fun hHeld => ?_)
     clear hK K
     try simp only [PP]
     refine RH 14 (fun K hK => ?_)
     have x90 := cell_blk G9_22 0; have x91 := cell_blk G9_22 1; have x92 := cell_blk G9_22 2
     have y90 := frozen_blk G9_22 0; have y91 := frozen_blk G9_22 1; have y92 := frozen_blk G9_22 2
     simp only [PE] at x90 x91 x92
     go_simp
     clear x90 x91 x92 y90 y91 y92
     obtain ⟨u23, hw23⟩ : ∃ z, z = ((u22.setCell ⟨g9, 0, none⟩ (.map (some f1))).setCell ⟨g9, 1, none⟩ (.map (some l1))).setCell ⟨g9, 2, none⟩ (.bool (nAdd r x ps).2.empty) := ⟨_, rfl⟩
     have hk23 : K1 g9 u22 u23 := by rw [hw23]; exact K1.tower _ _ _ _
     have O_23 := O_22.k1 hk23 z9 (O_22.mach.other G9_22 (by decide) (by decide))
     have C0_23 := kp_cell hk23 C0_22 (show ¬ g7 = g9 by omega)
     have C1_23 := kp_cell hk23 C1_22 (show ¬ g7 = g9 by omega)
     have F1_23 := F1_22.k1 hk23 G9_22
     have L1_23 := L1_22.k1 hk23 G9_22
     have F2_23 := F2_22.k1 hk23 G9_22
     have L2_23 := L2_22.k1 hk23 G9_22
     have G10_23 := hk23.blk G10_22 (by omega)
     have G9_23 : u23.heap[g9]? = some (knB f1 l1 (nAdd r x ps).2.empty) := by rw [hw23]; exact blk_tower G9_22 _ _ _
     rw [← hw23]
     clear hk23 hw23 O_22 C0_22 C1_22 F1_22 L1_22 F2_22 L2_22 G9_22 G10_22
     refine hK.out _ _ ⟨C0_23, C1_23⟩ (fun hHeld => ?_)
     clear hK K
     try simp only [PP]
     refine RH 15 (fun K hK => ?_)
     have x90 := cell_blk G10_23 0; have x91 := cell_blk G10_23 1; have x92 := cell_blk G10_23 2
     have y90 := frozen_blk G10_23 0; have y91 := frozen_blk G10_23 1; have y92 := frozen_blk G10_23 2
     simp only [PE] at x90 x91 x92
     go_simp
     clear x90 x91 x92 y90 y91 y92
     obtain ⟨u24, hw24⟩ : ∃ z, z = ((u23.setCell ⟨g10, 0, none⟩ (.map (some f2))).setCell ⟨g10, 1, none⟩ (.map (some l2))).setCell ⟨g10, 2, none⟩ (.bool (nAdd r y (nAdd r x ps).1).2.empty) := ⟨_, rfl⟩
     have hk24 : K1 g10 u23 u24 := by rw [hw24]; exact K1.tower _ _ _ _
     have O_24 := O_23.k1 hk24 z10 (O_23.mach.other G10_23 (by decide) (by decide))
     have C0_24 := kp_cell hk24 C0_23 (show ¬ g7 = g10 by omega)
     have C1_24 := kp_cell hk24 C1_23 (show ¬ g7 = g10 by omega)
     have F1_24 := F1_23.k1 hk24 G10_23
     have L1_24 := L1_23.k1 hk24 G10_23
     have F2_24 := F2_23.k1 hk24 G10_23
     have L2_24 := L2_23.k1 hk24 G10_23
     have G9_24 := hk24.blk G9_23 (by omega)
     have G10_24 : u24.heap[g10]? = some (knB f2 l2 (nAdd r y (nAdd r x ps).1).2.empty) := by rw [hw24]; exact blk_tower G10_23 _ _ _
     rw [← hw24]
     clear hk24 hw24 O_23 C0_23 C1_23 F1_23 L1_23 F2_23 L2_23 G9_23 G10_23
     refine hK.out _ _ ⟨C0_24, C1_24⟩ (fun hHeld => ?_)
     clear hK K
     try simp only [PP]
     refine RD ?_
     go_wp2_with fail
     go_meet
     case rel => exact ⟨g9, g10, f1, l1, f2, l2, v2, _, rfl, rfl, Qh ⟨O_24.pre HK1, F1_24.pre HK1, L1_24.pre HK1, F2_24.pre HK1, L2_24.pre HK1, G9_24, G10_24, Nat.le_trans HK1.size z9, Nat.le_trans HK1.size z10⟩⟩
    ·go_simp
     obtain ⟨u25, hw25⟩ : ∃ z, z = u20.alloc zeroK := ⟨_, rfl⟩
     have hk25 : Kn u20 u25 := by rw [hw25]; exact (Kp.refl _ _).alloc _
     obtain ⟨g9, hg9⟩ : ∃ z, z = u20.heap.size := ⟨_, rfl⟩
     have G9_25 : u25.heap[g9]? = some zeroK := by rw [hw25, hg9]; exact blk_new _ _
     have z9 : wd.heap.size ≤ g9 := by rw [hg9]; exact O_20.kp.size
     have hne : ¬ g9 = g10 := by have := blk_lt G10_20; omega
     have O_25 := O_20.kn hk25
     have C0_25 := kn_cell hk25 C0_20
     have C1_25 := kn_cell hk25 C1_20
     have NY_25 := NY_20.kn hk25
     have F1_25 := F1_20.kn hk25
     have L1_25 := L1_20.kn hk25
     have G10_25 := hk25.blk G10_20 (fun x => x)
     rw [← hw25, ← hg9]
     clear hk25 hw25 hg9 O_20 C0_20 C1_20 NY_20 F1_20 L1_20 G10_20
     refine hK.out _ _ ⟨C0_25, C1_25⟩ (fun hHeld => ?_)
     clear hK K
     try simp only [PP]
     refine RH 11 (fun K hK => ?_)
     go_simp
     go_at_call 182
     refine (IHY.out r (nAdd r x ps).1 (fs ++ ([] ++ fs2)) v1 vr pm j u25 O_25.mach NY_25 hGx.out.2.1 hny hr).mono ?_
     rintro e u26 ⟨f2, l2, v2, fs3, rfl, hA26, hB26, hC26⟩
     have O_26 := O_25.trans hA26
     have C0_26 := kp_cell hA26.kp C0_25 (O_25.ms hg7d hS7.out)
     have C1_26 := kp_cell hA26.kp C1_25 (O_25.ms hg7d hS7.out)
     have F1_26 := F1_25.ow HMd O_25 hA26
     have L1_26 := L1_25.ow HMd O_25 hA26
     have G9_26 := hA26.blk O_25.mach G9_25 (by decide) (by decide)
     have G10_26 := hA26.blk O_25.mach G10_25 (by decide) (by decide)
     have F2_26 := Fr.after O_25 hA26 hB26
     have L2_26 := Fr.after O_25 hA26 hC26
     clear hA26 hB26 hC26 O_25 C0_25 C1_25 NY_25 F1_25 L1_25 G9_25 G10_25
     dsimp only
     refine hK.out _ _ ⟨C0_26, C1_26⟩ (fun hHeld => ?_)
     clear hK K
     try simp only [PP]
     refine RH 14 (fun K hK => ?_)
     have x90 := cell_blk G9_26 0; have x91 := cell_blk G9_26 1; have x92 := cell_blk G9_26 2
     have y90 := frozen_blk G9_26 0; have y91 := frozen_blk G9_26 1; have y92 := frozen_blk G9_26 2
     simp only [PE] at x90 x91 x92
     go_simp
     clear x90 x91 x92 y90 y91 y92
     obtain ⟨u27, hw27⟩ : ∃ z, z = ((u26.setCell ⟨g9, 0, none⟩ (.map (some f1))).setCell ⟨g9, 1, none⟩ (.map (some l1))).setCell ⟨g9, 2, none⟩ (.bool (nAdd r x ps).2.empty) := ⟨_, rfl⟩
     have hk27 : K1 g9 u26 u27 := by rw [hw27]; exact K1.tower _ _ _ _
     have O_27 := O_26.k1 hk27 z9 (O_26.mach.other G9_26 (by decide) (by decide))
     have C0_27 := kp_cell hk27 C0_26 (show ¬ g7 = g9 by omega)
     have C1_27 := kp_cell hk27 C1_26 (show ¬ g7 = g9 by omega)
     have F1_27 := F1_26.k1 hk27 G9_26
     have L1_27 := L1_26.k1 hk27 G9_26
     have F2_27 := F2_26.k1 hk27 G9_26
     have L2_27 := L2_26.k1 hk27 G9_26
     have G10_27 := hk27.blk G10_26 (by omega)
     have G9_27 : u27.heap[g9]? = some (knB f1 l1 (nAdd r x ps).2.empty) := by rw [hw27]; exact blk_tower G9_26 _ _ _
     rw [← hw27]
     clear hk27 hw27 O_26 C0_26 C1_26 F1_26 L1_26 F2_26 L2_26 G9_26 G10_26
     refine hK.out _ _ ⟨C0_27, C1_27⟩ (fun hHeld => ?_)
     clear hK K
     try simp only [PP]
     refine RH 15 (fun K hK => ?_)
     have x90 := cell_blk G10_27 0; have x91 := cell_blk G10_27 1; have x92 := cell_blk G10_27 2
     have y90 := frozen_blk G10_27 0; have y91 := frozen_blk G10_27 1; have y92 := frozen_blk G10_27 2
     simp only [PE] at x90 x91 x92
     go_simp
     clear x90 x91 x92 y90 y91 y92
     obtain ⟨u28, hw28⟩ : ∃ z, z = ((u27.setCell ⟨g10, 0, none⟩ (.map (some f2))).setCell ⟨g10, 1, none⟩ (.map (some l2))).setCell ⟨g10, 2, none⟩ (.bool (nAdd r y (nAdd r x ps).1).2.empty) := ⟨_, rfl⟩
     have hk28 : K1 g10 u27 u28 := by rw [hw28]; exact K1.tower _ _ _ _
     have O_28 := O_27.k1 hk28 z10 (O_27.mach.other G10_27 (by decide) (by decide))
     have C0_28 := kp_cell hk28 C0_27 (show ¬ g7 = g10 by omega)
     have C1_28 := kp_cell hk28 C1_27 (show ¬ g7 = g10 by omega)
     have F1_28 := F1_27.k1 hk28 G10_27
     have L1_28 := L1_27.k1 hk28 G10_27
     have F2_28 := F2_27.k1 hk28 G10_27
     have L2_28 := L2_27.k1 hk28 G10_27
     have G9_28 := hk28.blk G9_27 (by omega)
     have G10_28 : u28.heap[g10]? = some (knB f2 l2 (nAdd r y (nAdd r x ps).1).2.empty) := by rw [hw28]; exact blk_tower G10_27 _ _ _
     rw [← hw28]
     clear hk28 hw28 O_27 C0_27 C1_27 F1_27 L1_27 F2_27 L2_27 G9_27 G10_27
     refine hK.out _ _ ⟨C0_28, C1_28⟩ (fun hHeld => ?_)
     clear hK K
     try simp only [PP]
     refine RD ?_
     go_wp2_with fail
     go_meet
     case rel => exact ⟨g9, g10, f1, l1, f2, l2, v2, _, rfl, rfl, Qh ⟨O_28.pre HK1, F1_28.pre HK1, L1_28.pre HK1, F2_28.pre HK1, L2_28.pre HK1, G9_28, G10_28, Nat.le_trans HK1.size z9, Nat.le_trans HK1.size z10⟩⟩
  ·go_simp
   obtain ⟨u29, hw29⟩ : ∃ z, z = wd.alloc zeroK := ⟨_, rfl⟩
   have hk29 : Kn wd u29 := by rw [hw29]; exact (Kp.refl _ _).alloc _
   obtain ⟨g9, hg9⟩ : ∃ z, z = wd.heap.size := ⟨_, rfl⟩
   have G9_29 : u29.heap[g9]? = some zeroK := by rw [hw29, hg9]; exact blk_new _ _
   have z9 : wd.heap.size ≤ g9 := by rw [hg9]; exact O_0.kp.size
   have O_29 := O_0.kn hk29
   have C0_29 := kn_cell hk29 C0_0
   have C1_29 := kn_cell hk29 C1_0
   have NX_29 := NX_0.kn hk29
   have NY_29 := NY_0.kn hk29
   rw [← hw29, ← hg9]
   clear hk29 hw29 hg9 O_0 C0_0 C1_0 NX_0 NY_0
   refine hK.out _ _ ⟨C0_29, C1_29⟩ (fun hHeld => ?_)
   clear hK K
   try simp only [PP]
   refine RH2 5 13 (fun K hK => ?_) (fun K hK => ?_)
   ·go_simp
    go_at_call 182
    refine (IHX.out r ps (fs ++ []) v vr pm i u29 O_29.mach NX_29 HG.out hnx hr).mono ?_
    rintro e u30 ⟨f1, l1, v1, fs2, rfl, hA30, hB30, hC30⟩
    have O_30 := O_29.trans hA30
    have C0_30 := kp_cell hA30.kp C0_29 (O_29.ms hg7d hS7.out)
    have C1_30 := kp_cell hA30.kp C1_29 (O_29.ms hg7d hS7.out)
    have NY_30 := hA30.nodes O_29.mach NY_29
    have G9_30 := hA30.blk O_29.mach G9_29 (by decide) (by decide)
    have F1_30 := Fr.after O_29 hA30 hB30
    have L1_30 := Fr.after O_29 hA30 hC30
    clear hA30 hB30 hC30 O_29 C0_29 C1_29 NX_29 NY_29 G9_29
    dsimp only
    refine hK.out _ _ ⟨C0_30, C1_30⟩ (fun hHeld => ?_)
    clear hK K
    try simp only [PP]
    refine RH2 11 13 (fun K hK => ?_) (fun K hK => ?_)
    ·go_simp
     go_at_call 182
     refine (IHY.out r (nAdd r x ps).1 (fs ++ ([] ++ fs2)) v1 vr pm j u30 O_30.mach NY_30 hGx.out.2.1 hny hr).mono ?_
     rintro e u31 ⟨f2, l2, v2, fs3, rfl, hA31, hB31, hC31⟩
     have O_31 := O_30.trans hA31
     have C0_31 := kp_cell hA31.kp C0_30 (O_30.ms hg7d hS7.out)
     have C1_31 := kp_cell hA31.kp C1_30 (O_30.ms hg7d hS7.out)
     have F1_31 := F1_30.ow HMd O_30 hA31
     have L1_31 := L1_30.ow HMd O_30 hA31
     have G9_31 := hA31.blk O_30.mach G9_30 (by decide) (by decide)
     have F2_31 := Fr.after O_30 hA31 hB31
     have L2_31 := Fr.after O_30 hA31 hC31
     clear hA31 hB31 hC31 O_30 C0_30 C1_30 NY_30 F1_30 L1_30 G9_30
     dsimp only
     refine hK.out _ _ ⟨C0_31, C1_31⟩ (fun hHeld => ?_)
     clear hK K
     try simp only [PP]
     refine RH 13 (fun K hK => ?_)
     go_simp
     obtain ⟨u32, hw32⟩ : ∃ z, z = u31.alloc zeroK := ⟨_, rfl⟩
     have hk32 : Kn u31 u32 := by rw [hw32]; exact (Kp.refl _ _).alloc _
     obtain ⟨g10, hg10⟩ : ∃ z, z = u31.heap.size := ⟨_, rfl⟩
     have G10_32 : u32.heap[g10]? = some zeroK := by rw [hw32, hg10]; exact blk_new _ _
     have z10 : wd.heap.size ≤ g10 := by rw [hg10]; exact O_31.kp.size
     have hne : ¬ g9 = g10 := by have := blk_lt G9_31; omega
     have O_32 := O_31.kn hk32
     have C0_32 := kn_cell hk32 C0_31
     have C1_32 := kn_cell hk32 C1_31
     have F1_32 := F1_31.kn hk32
     have L1_32 := L1_31.kn hk32
     have F2_32 := F2_31.kn hk32
     have L2_32 := L2_31.kn hk32
     have G9_32 := hk32.blk G9_31 (fun x => x)
     rw [← hw32, ← hg10]
     clear hk32 hw32 hg10 O_31 C0_31 C1_31 F1_31 L1_31 F2_31 L2_31 G9_31
     refine hK.out _ _ ⟨C0_32, C1_32⟩ (fun hHeld => ?_)
     clear hK K
     try simp only [PP]
     refine RH 14 (fun K hK => ?_)
     have x90 := cell_blk G9_32 0; have x91 := cell_blk G9_32 1; have x92 := cell_blk G9_32 2
     have y90 := frozen_blk G9_32 0; have y91 := frozen_blk G9_32 1; have y92 := frozen_blk G9_32 2
     simp only [PE] at x90 x91 x92
     go_simp
     clear x90 x91 x92 y90 y91 y92
     obtain ⟨u33, hw33⟩ : ∃ z, z = ((u32.setCell ⟨g9, 0, none⟩ (.map (some f1))).setCell ⟨g9, 1, none⟩ (.map (some l1))).setCell ⟨g9, 2, none⟩ (.bool (nAdd r x ps).2.empty) := ⟨_, rfl⟩
     have hk33 : K1 g9 u32 u33 := by rw [hw33]; exact K1.tower _ _ _ _
     have O_33 := O_32.k1 hk33 z9 (O_32.mach.other G9_32 (by decide) (by decide))
     have C0_33 := kp_cell hk33 C0_32 (show ¬ g7 = g9 by omega)
     have C1_33 := kp_cell hk33 C1_32 (show ¬ g7 = g9 by omega)
     have F1_33 := F1_32.k1 hk33 G9_32
     have L1_33 := L1_32.k1 hk33 G9_32
     have F2_33 := F2_32.k1 hk33 G9_32
     have L2_33 := L2_32.k1 hk33 G9_32
     have G10_33 := hk33.blk G10_32 (by omega)
     have G9_33 : u33.heap[g9]? = some (knB f1 l1 (nAdd r x ps).2.empty) := by rw [hw33]; exact blk_tower G9_32 _ _ _
     rw [← hw33]
     clear hk33 hw33 O_32 C0_32 C1_32 F1_32 L1_32 F2_32 L2_32 G9_32 G10_32
     refine hK.out _ _ ⟨C0_33, C1_33⟩ (fun hHeld => ?_)
     clear hK K
     try simp only [PP]
     refine RH 15 (fun K hK => ?_)
     have x90 := cell_blk G10_33 0; have x91 := cell_blk G10_33 1; have x92 := cell_blk G10_33 2
     have y90 := frozen_blk G10_33 0; have y91 := frozen_blk G10_33 1; have y92 := frozen_blk G10_33 2
     simp only [PE] at x90 x91 x92
     go_simp
     clear x90 x91 x92 y90 y91 y92
     obtain ⟨u34, hw34⟩ : ∃ z, z = ((u33.setCell ⟨g10, 0, none⟩ (.map (some f2))).setCell ⟨g10, 1, none⟩ (.map (some l2))).setCell ⟨g10, 2, none⟩ (.bool (nAdd r y (nAdd r x ps).1).2.empty) := ⟨_, rfl⟩
     have hk34 : K1 g10 u33 u34 := by rw [hw34]; exact K1.tower _ _ _ _
     have O_34 := O_33.k1 hk34 z10 (O_33.mach.other G10_33 (by decide) (by decide))
     have C0_34 := kp_cell hk34 C0_33 (show ¬ g7 = g10 by omega)
     have C1_34 := kp_cell hk34 C1_33 (show ¬ g7 = g10 by omega)
     have F1_34 := F1_33.k1 hk34 G10_33
     have L1_34 := L1_33.k1 hk34 G10_33
     have F2_34 := F2_33.k1 hk34 G10_33
     have L2_34 := L2_33.k1 hk34 G10_33
     have G9_34 := hk34.blk G9_33 (by omega)
     have G10_34 : u34.heap[g10]? = some (knB f2 l2 (nAdd r y (nAdd r x ps).1).2.empty) := by rw [hw34]; exact blk_tower G10_33 _ _ _
     rw [← hw34]
     clear hk34 hw34 O_33 C0_33 C1_33 F1_33 L1_33 F2_33 L2_33 G9_33 G10_33
     refine hK.out _ _ ⟨C0_34, C1_34⟩ (fun hHeld => ?_)
     clear hK K
     try simp only [PP]
     refine RD ?_
     go_wp2_with fail
     go_meet
     case rel => exact ⟨g9, g10, f1, l1, f2, l2, v2, _, rfl, rfl, Qh ⟨O_34.pre HK1, F1_34.pre HK1, L1_34.pre HK1, F2_34.pre HK1, L2_34.pre HK1, G9_34, G10_34, Nat.le_trans HK1.size z9, Nat.le_trans HK1.size z10⟩⟩
    ·go_simp
     obtain ⟨u35, hw35⟩ : ∃ z, z = u30.alloc zeroK := ⟨_, rfl⟩
     have hk35 : Kn u30 u35 := by rw [hw35]; exact (Kp.refl _ _).alloc _
     obtain ⟨g10, hg10⟩ : ∃ z, z = u30.heap.size := ⟨_, rfl⟩
     have G10_35 : u35.heap[g10]? = some zeroK := by rw [hw35, hg10]; exact blk_new _ _
     have z10 : wd.heap.size ≤ g10 := by rw [hg10]; exact O_30.kp.size
     have hne : ¬ g9 = g10 := by have := blk_lt G9_30; omega
     have O_35 := O_30.kn hk35
     have C0_35 := kn_cell hk35 C0_30
     have C1_35 := kn_cell hk35 C1_30
     have NY_35 := NY_30.kn hk35
     have F1_35 := F1_30.kn hk35
     have L1_35 := L1_30.kn hk35
     have G9_35 := hk35.blk G9_30 (fun x => x)
     rw [← hw35, ← hg10]
     clear hk35 hw35 hg10 O_30 C0_30 C1_30 NY_30 F1_30 L1_30 G9_30
     refine hK.out _ _ ⟨C0_35, C1_35⟩ (fun hHeld => ?_)
     clear hK K
     try simp only [PP]
     refine RH 11 (fun K hK => ?_)
     go_simp
     go_at_call 182
     refine (IHY.out r (nAdd r x ps).1 (fs ++ ([] ++ fs2)) v1 vr pm j u35 O_35.mach NY_35 hGx.out.2.1 hny hr).mono ?_
     rintro e u36 ⟨f2, l2, v2, fs3, rfl, hA36, hB36, hC36⟩
     have O_36 := O_35.trans hA36
     have C0_36 := kp_cell hA36.kp C0_35 (O_35.ms hg7d hS7.out)
     have C1_36 := kp_cell hA36.kp C1_35 (O_35.ms hg7d hS7.out)
     have F1_36 := F1_35.ow HMd O_35 hA36
     have L1_36 := L1_35.ow HMd O_35 hA36
     have G9_36 := hA36.blk O_35.mach G9_35 (by decide) (by decide)
     have G10_36 := hA36.blk O_35.mach G10_35 (by decide) (by decide)
     have F2_36 := Fr.after O_35 hA36 hB36
     have L2_36 := Fr.after O_35 hA36 hC36
     clear hA36 hB36 hC36 O_35 C0_35 C1_35 NY_35 F1_35 L1_35 G9_35 G10_35
     dsimp only
     refine hK.out _ _ ⟨C0_36, C1_36⟩ (fun hHeld => ?_)
     clear hK K
     try simp only [PP]
     refine RH 14 (fun K hK => ?_)
     have x90 := cell_blk G9_36 0; have x91 := cell_blk G9_36 1; have x92 := cell_blk G9_36 2
     have y90 := frozen_blk G9_36 0; have y91 := frozen_blk G9_36 1; have y92 := frozen_blk G9_36 2
     simp only [PE] at x90 x91 x92
     go_simp
     clear x90 x91 x92 y90 y91 y92
     obtain ⟨u37, hw37⟩ : ∃ z, z = ((u36.setCell ⟨g9, 0, none⟩ (.map (some f1))).setCell ⟨g9, 1, none⟩ (.map (some l1))).setCell ⟨g9, 2, none⟩ (.bool (nAdd r x ps).2.empty) := ⟨_, rfl⟩
     have hk37 : K1 g9 u36 u37 := by rw [hw37]; exact K1.tower _ _ _ _
     have O_37 := O_36.k1 hk37 z9 (O_36.mach.other G9_36 (by decide) (by decide))
     have C0_37 := kp_cell hk37 C0_36 (show ¬ g7 = g9 by omega)
     have C1_37 := kp_cell hk37 C1_36 (show ¬ g7 = g9 by omega)
     have F1_37 := F1_36.k1 hk37 G9_36
     have L1_37 := L1_36.k1 hk37 G9_36
     have F2_37 := F2_36.k1 hk37 G9_36
     have L2_37 := L2_36.k1 hk37 G9_36
     have G10_37 := hk37.blk G10_36 (by omega)
     have G9_37 : u37.heap[g9]? = some (knB f1 l1 (nAdd r x ps).2.empty) := by rw [hw37]; exact blk_tower G9_36 _ _ _
     rw [← hw37]
     clear hk37 hw37 O_36 C0_36 C1_36 F1_36 L1_36 F2_36 L2_36 G9_36 G10_36
     refine hK.out _ _ ⟨C0_37, C1_37⟩ (fun hHeld => ?_)
     clear hK K
     try simp only [PP]
     refine RH 15 (fun K hK => ?_)
     have x90 := cell_blk G10_37 0; have x91 := cell_blk G10_37 1; have x92 := cell_blk G10_37 2
     have y90 := frozen_blk G10_37 0; have y91 := frozen_blk G10_37 1; have y92 := frozen_blk G10_37 2
     simp only [PE] at x90 x91 x92
     go_simp
     clear x90 x91 x92 y90 y91 y92
     obtain ⟨u38, hw38⟩ : ∃ z, z = ((u37.setCell ⟨g10, 0, none⟩ (.map (some f2))).setCell ⟨g10, 1, none⟩ (.map (some l2))).setCell ⟨g10, 2, none⟩ (.bool (nAdd r y (nAdd r x ps).1).2.empty) := ⟨_, rfl⟩
     have hk38 : K1 g10 u37 u38 := by rw [hw38]; exact K1.tower _ _ _ _
     have O_38 := O_37.k1 hk38 z10 (O_37.mach.other G10_37 (by decide) (by decide))
     have C0_38 := kp_cell hk38 C0_37 (show ¬ g7 = g10 by omega)
     have C1_38 := kp_cell hk38 C1_37 (show ¬ g7 = g10 by omega)
     have F1_38 := F1_37.k1 hk38 G10_37
     have L1_38 := L1_37.k1 hk38 G10_37
     have F2_38 := F2_37.k1 hk38 G10_37
     have L2_38 := L2_37.k1 hk38 G10_37
     have G9_38 := hk38.blk G9_37 (by omega)
     have G10_38 : u38.heap[g10]? = some (knB f2 l2 (nAdd r y (nAdd r x ps).1).2.empty) := by rw [hw38]; exact blk_tower G10_37 _ _ _
     rw [← hw38]
     clear hk38 hw38 O_37 C0_37 C1_37 F1_37 L1_37 F2_37 L2_37 G9_37 G10_37
     refine hK.out _ _ ⟨C0_38, C1_38⟩ (fun hHeld => ?_)
     clear hK K
     try simp only [PP]
     refine RD ?_
     go_wp2_with fail
     go_meet
     case rel => exact ⟨g9, g10, f1, l1, f2, l2, v2, _, rfl, rfl, Qh ⟨O_38.pre HK1, F1_38.pre HK1, L1_38.pre HK1, F2_38.pre HK1, L2_38.pre HK1, G9_38, G10_38, Nat.le_trans HK1.size z9, Nat.le_trans HK1.size z10⟩⟩
   ·go_simp
    obtain ⟨u39, hw39⟩ : ∃ z, z = u29.alloc zeroK := ⟨_, rfl⟩
    have hk39 : Kn u29 u39 := by rw [hw39]; exact (Kp.refl _ _).alloc _
    obtain ⟨g10, hg10⟩ : ∃ z, z = u29.heap.size := ⟨_, rfl⟩
    have G10_39 : u39.heap[g10]? = some zeroK := by rw [hw39, hg10]; exact blk_new _ _
    have z10 : wd.heap.size ≤ g10 := by rw [hg10]; exact O_29.kp.size
    have hne : ¬ g9 = g10 := by have := blk_lt G9_29; omega
    have O_39 := O_29.kn hk39
    have C0_39 := kn_cell hk39 C0_29
    have C1_39 := kn_cell hk39 C1_29
    have NX_39 := NX_29.kn hk39
    have NY_39 := NY_29.kn hk39
    have G9_39 := hk39.blk G9_29 (fun x => x)
    rw [← hw39, ← hg10]
    clear hk39 hw39 hg10 O_29 C0_29 C1_29 NX_29 NY_29 G9_29
    refine hK.out _ _ ⟨C0_39, C1_39⟩ (fun hHeld => ?_)
    clear hK K
    try simp only [PP]
    refine RH 5 (fun K hK => ?_)
    go_simp
    go_at_call 182
    refine (IHX.out r ps (fs ++ []) v vr pm i u39 O_39.mach NX_39 HG.out hnx hr).mono ?_
    rintro e u40 ⟨f1, l1, v1, fs2, rfl, hA40, hB40, hC40⟩
    have O_40 := O_39.trans hA40
    have C0_40 := kp_cell hA40.kp C0_39 (O_39.ms hg7d hS7.out)
    have C1_40 := kp_cell hA40.kp C1_39 (O_39.ms hg7d hS7.out)
    have NY_40 := hA40.nodes O_39.mach NY_39
    have G9_40 := hA40.blk O_39.mach G9_39 (by decide) (by decide)
    have G10_40 := hA40.blk O_39.mach G10_39 (by decide) (by decide)
    have F1_40 := Fr.after O_39 hA40 hB40
    have L1_40 := Fr.after O_39 hA40 hC40
    clear hA40 hB40 hC40 O_39 C0_39 C1_39 NX_39 NY_39 G9_39 G10_39
    dsimp only
    refine hK.out _ _ ⟨C0_40, C1_40⟩ (fun hHeld => ?_)
    clear hK K
    try simp only [PP]
    refine RH 11 (fun K hK => ?_)
    go_simp
    go_at_call 182
    refine (IHY.out r (nAdd r x ps).1 (fs ++ ([] ++ fs2)) v1 vr pm j u40 O_40.mach NY_40 hGx.out.2.1 hny hr).mono ?_
    rintro e u41 ⟨f2, l2, v2, fs3, rfl, hA41, hB41, hC41⟩
    have O_41 := O_40.trans hA41
    have C0_41 := kp_cell hA41.kp C0_40 (O_40.ms hg7d hS7.out)
    have C1_41 := kp_cell hA41.kp C1_40 (O_40.ms hg7d hS7.out)
    have F1_41 := F1_40.ow HMd O_40 hA41
    have L1_41 := L1_40.ow HMd O_40 hA41
    have G9_41 := hA41.blk O_40.mach G9_40 (by decide) (by decide)
    have G10_41 := hA41.blk O_40.mach G10_40 (by decide) (by decide)
    have F2_41 := Fr.after O_40 hA41 hB41
    have L2_41 := Fr.after O_40 hA41 hC41
    clear hA41 hB41 hC41 O_40 C0_40 C1_40 NY_40 F1_40 L1_40 G9_40 G10_40
    dsimp only
    refine hK.out _ _ ⟨C0_41, C1_41⟩ (fun hHeld => ?_)
    clear hK K
    try simp only [PP]
    refine RH 14 (fun K hK => ?_)
    have x90 := cell_blk G9_41 0; have x91 := cell_blk G9_41 1; have x92 := cell_blk G9_41 2
    have y90 := frozen_blk G9_41 0; have y91 := frozen_blk G9_41 1; have y92 := frozen_blk G9_41 2
    simp only [PE] at x90 x91 x92
    go_simp
    clear x90 x91 x92 y90 y91 y92
    obtain ⟨u42, hw42⟩ : ∃ z, z = ((u41.setCell ⟨g9, 0, none⟩ (.map (some f1))).setCell ⟨g9, 1, none⟩ (.map (some l1))).setCell ⟨g9, 2, none⟩ (.bool (nAdd r x ps).2.empty) := ⟨_, rfl⟩
    have hk42 : K1 g9 u41 u42 := by rw [hw42]; exact K1.tower _ _ _ _
    have O_42 := O_41.k1 hk42 z9 (O_41.mach.other G9_41 (by decide) (by decide))
    have C0_42 := kp_cell hk42 C0_41 (show ¬ g7 = g9 by omega)
    have C1_42 := kp_cell hk42 C1_41 (show ¬ g7 = g9 by omega)
    have F1_42 := F1_41.k1 hk42 G9_41
    have L1_42 := L1_41.k1 hk42 G9_41
    have F2_42 := F2_41.k1 hk42 G9_41
    have L2_42 := L2_41.k1 hk42 G9_41
    have G10_42 := hk42.blk G10_41 (by omega)
    have G9_42 : u42.heap[g9]? = some (knB f1 l1 (nAdd r x ps).2.empty) := by rw [hw42]; exact blk_tower G9_41 _ _ _
    rw [← hw42]
    clear hk42 hw42 O_41 C0_41 C1_41 F1_41 L1_41 F2_41 L2_41 G9_41 G10_41
    refine hK.out _ _ ⟨C0_42, C1_42⟩ (fun hHeld => ?_)
    clear hK K
    try simp only [PP]
    refine RH 15 (fun K hK => ?_)
    have x90 := cell_blk G10_42 0; have x91 := cell_blk G10_42 1; have x92 := cell_blk G10_42 2
    have y90 := frozen_blk G10_42 0; have y91 := frozen_blk G10_42 1; have y92 := frozen_blk G10_42 2
    simp only [PE] at x90 x91 x92
    go_simp
    clear x90 x91 x92 y90 y91 y92
    obtain ⟨u43, hw43⟩ : ∃ z, z = ((u42.setCell ⟨g10, 0, none⟩ (.map (some f2))).setCell ⟨g10, 1, none⟩ (.map (some l2))).setCell ⟨g10, 2, none⟩ (.bool (nAdd r y (nAdd r x ps).1).2.empty) := ⟨_, rfl⟩
    have hk43 : K1 g10 u42 u43 := by rw [hw43]; exact K1.tower _ _ _ _
    have O_43 := O_42.k1 hk43 z10 (O_42.mach.other G10_42 (by decide) (by decide))
    have C0_43 := kp_cell hk43 C0_42 (show ¬ g7 = g10 by omega)
    have C1_43 := kp_cell hk43 C1_42 (show ¬ g7 = g10 by omega)
    have F1_43 := F1_42.k1 hk43 G10_42
    have L1_43 := L1_42.k1 hk43 G10_42
    have F2_43 := F2_42.k1 hk43 G10_42
    have L2_43 := L2_42.k1 hk43 G10_42
    have G9_43 := hk43.blk G9_42 (by omega)
    have G10_43 : u43.heap[g10]? = some (knB f2 l2 (nAdd r y (nAdd r x ps).1).2.empty) := by rw [hw43]; exact blk_tower G10_42 _ _ _
    rw [← hw43]
    clear hk43 hw43 O_42 C0_42 C1_42 F1_42 L1_42 F2_42 L2_42 G9_42 G10_42
    refine hK.out _ _ ⟨C0_43, C1_43⟩ (fun hHeld => ?_)
    clear hK K
    try simp only [PP]
    refine RD ?_
    go_wp2_with fail
    go_meet
    case rel => exact ⟨g9, g10, f1, l1, f2, l2, v2, _, rfl, rfl, Qh ⟨O_43.pre HK1, F1_43.pre HK1, L1_43.pre HK1, F2_43.pre HK1, L2_43.pre HK1, G9_43, G10_43, Nat.le_trans HK1.size z9, Nat.le_trans HK1.size z10⟩⟩
  ·go_simp
   obtain ⟨u44, hw44⟩ : ∃ z, z = wd.alloc zeroK := ⟨_, rfl⟩
   have hk44 : Kn wd u44 := by rw [hw44]; exact (Kp.refl _ _).alloc _
   obtain ⟨g10, hg10⟩ : ∃ z, z = wd.heap.size := ⟨_, rfl⟩
   have G10_44 : u44.heap[g10]? = some zeroK := by rw [hw44, hg10]; exact blk_new _ _
   have z10 : wd.heap.size ≤ g10 := by rw [hg10]; exact O_0.kp.size
   have O_44 := O_0.kn hk44
   have C0_44 := kn_cell hk44 C0_0
   have C1_44 := kn_cell hk44 C1_0
   have NX_44 := NX_0.kn hk44
   have NY_44 := NY_0.kn hk44
   rw [← hw44, ← hg10]
   clear hk44 hw44 hg10 O_0 C0_0 C1_0 NX_0 NY_0
   refine hK.out _ _ ⟨C0_44, C1_44⟩ (fun hHeld => ?_)
   clear hK K
   try simp only [PP]
   refine RH2 5 12 (fun K hK => ?_) (fun K hK => ?_)
   ·go_simp
    go_at_call 182
    refine (IHX.out r ps (fs ++ []) v vr pm i u44 O_44.mach NX_44 HG.out hnx hr).mono ?_
    rintro e u45 ⟨f1, l1, v1, fs2, rfl, hA45, hB45, hC45⟩
    have O_45 := O_44.trans hA45
    have C0_45 := kp_cell hA45.kp C0_44 (O_44.ms hg7d hS7.out)
    have C1_45 := kp_cell hA45.kp C1_44 (O_44.ms hg7d hS7.out)
    have NY_45 := hA45.nodes O_44.mach NY_44
    have G10_45 := hA45.blk O_44.mach G10_44 (by decide) (by decide)
    have F1_45 := Fr.after O_44 hA45 hB45
    have L1_45 := Fr.after O_44 hA45 hC45
    clear hA45 hB45 hC45 O_44 C0_44 C1_44 NX_44 NY_44 G10_44
    dsimp only
    refine hK.out _ _ ⟨C0_45, C1_45⟩ (fun hHeld => ?_)
    clear hK K
    try simp only [PP]
    refine RH2 11 12 (fun K hK => ?_) (fun K hK => ?_)
    ·go_simp
     go_at_call 182
     refine (IHY.out r (nAdd r x ps).1 (fs ++ ([] ++ fs2)) v1 vr pm j u45 O_45.mach NY_45 hGx.out.2.1 hny hr).mono ?_
     rintro e u46 ⟨f2, l2, v2, fs3, rfl, hA46, hB46, hC46⟩
     have O_46 := O_45.trans hA46
     have C0_46 := kp_cell hA46.kp C0_45 (O_45.ms hg7d hS7.out)
     have C1_46 := kp_cell hA46.kp C1_45 (O_45.ms hg7d hS7.out)
     have F1_46 := F1_45.ow HMd O_45 hA46
     have L1_46 := L1_45.ow HMd O_45 hA46
     have G10_46 := hA46.blk O_45.mach G10_45 (by decide) (by decide)
     have F2_46 := Fr.after O_45 hA46 hB46
     have L2_46 := Fr.after O_45 hA46 hC46
     clear hA46 hB46 hC46 O_45 C0_45 C1_45 NY_45 F1_45 L1_45 G10_45
     dsimp only
     refine hK.out _ _ ⟨C0_46, C1_46⟩ (fun hHeld => ?_)
     clear hK K
     try simp only [PP]
     refine RH 12 (fun K hK => ?_)
     go_simp
     obtain ⟨u47, hw47⟩ : ∃ z, z = u46.alloc zeroK := ⟨_, rfl⟩
     have hk47 : Kn u46 u47 := by rw [hw47]; exact (Kp.refl _ _).alloc _
     obtain ⟨g9, hg9⟩ : ∃ z, z = u46.heap.size := ⟨_, rfl⟩
     have G9_47 : u47.heap[g9]? = some zeroK := by rw [hw47, hg9]; exact blk_new _ _
     have z9 : wd.heap.size ≤ g9 := by rw [hg9]; exact O_46.kp.size
     have hne : ¬ g9 = g10 := by have := blk_lt G10_46; omega
     have O_47 := O_46.kn hk47
     have C0_47 := kn_cell hk47 C0_46
     have C1_47 := kn_cell hk47 C1_46
     have F1_47 := F1_46.kn hk47
     have L1_47 := L1_46.kn hk47
     have F2_47 := F2_46.kn hk47
     have L2_47 := L2_46.kn hk47
     have G10_47 := hk47.blk G10_46 (fun x => x)
     rw [← hw47, ← hg9]
     clear hk47 hw47 hg9 O_46 C0_46 C1_46 F1_46 L1_46 F2_46 L2_46 G10_46
     refine hK.out _ _ ⟨C0_47, C1_47⟩ (fun hHeld => ?_)
     clear hK K
     try simp only [PP]
     refine RH 14 (fun K hK => ?_)
     have x90 := cell_blk G9_47 0; have x91 := cell_blk G9_47 1; have x92 := cell_blk G9_47 2
     have y90 := frozen_blk G9_47 0; have y91 := frozen_blk G9_47 1; have y92 := frozen_blk G9_47 2
     simp only [PE] at x90 x91 x92
     go_simp
     clear x90 x91 x92 y90 y91 y92
     obtain ⟨u48, hw48⟩ : ∃ z, z = ((u47.setCell ⟨g9, 0, none⟩ (.map (some f1))).setCell ⟨g9, 1, none⟩ (.map (some l1))).setCell ⟨g9, 2, none⟩ (.bool (nAdd r x ps).2.empty) := ⟨_, rfl⟩
     have hk48 : K1 g9 u47 u48 := by rw [hw48]; exact K1.tower _ _ _ _
     have O_48 := O_47.k1 hk48 z9 (O_47.mach.other G9_47 (by decide) (by decide))
     have C0_48 := kp_cell hk48 C0_47 (show ¬ g7 = g9 by omega)
     have C1_48 := kp_cell hk48 C1_47 (show ¬ g7 = g9 by omega)
     have F1_48 := F1_47.k1 hk48 G9_47
     have L1_48 := L1_47.k1 hk48 G9_47
     have F2_48 := F2_47.k1 hk48 G9_47
     have L2_48 := L2_47.k1 hk48 G9_47
     have G10_48 := hk48.blk G10_47 (by omega)
     have G9_48 : u48.heap[g9]? = some (knB f1 l1 (nAdd r x ps).2.empty) := by rw [hw48]; exact blk_tower G9_47 _ _ _
     rw [← hw48]
     clear hk48 hw48 O_47 C0_47 C1_47 F1_47 L1_47 F2_47 L2_47 G9_47 G10_47
     refine hK.out _ _ ⟨C0_48, C1_48⟩ (fun hHeld => ?_)
     clear hK K
     try simp only [PP]
     refine RH 15 (fun K hK => ?_)
     have x90 := cell_blk G10_48 0; have x91 := cell_blk G10_48 1; have x92 := cell_blk G10_48 2
     have y90 := frozen_blk G10_48 0; have y91 := frozen_blk G10_48 1; have y92 := frozen_blk G10_48 2
     simp only [PE] at x90 x91 x92
     go_simp
     clear x90 x91 x92 y90 y91 y92
     obtain ⟨u49, hw49⟩ : ∃ z, z = ((u48.setCell ⟨g10, 0, none⟩ (.map (some f2))).setCell ⟨g10, 1, none⟩ (.map (some l2))).setCell ⟨g10, 2, none⟩ (.bool (nAdd r y (nAdd r x ps).1).2.empty) := ⟨_, rfl⟩
     have hk49 : K1 g10 u48 u49 := by rw [hw49]; exact K1.tower _ _ _ _
     have O_49 := O_48.k1 hk49 z10 (O_48.mach.other G10_48 (by decide) (by decide))
     have C0_49 := kp_cell hk49 C0_48 (show ¬ g7 = g10 by omega)
     have C1_49 := kp_cell hk49 C1_48 (show ¬ g7 = g10 by omega)
     have F1_49 := F1_48.k1 hk49 G10_48
     have L1_49 := L1_48.k1 hk49 G10_48
     have F2_49 := F2_48.k1 hk49 G10_48
     have L2_49 := L2_48.k1 hk49 G10_48
     have G9_49 := hk49.blk G9_48 (by omega)
     have G10_49 : u49.heap[g10]? = some (knB f2 l2 (nAdd r y (nAdd r x ps).1).2.empty) := by rw [hw49]; exact blk_tower G10_48 _ _ _
     rw [← hw49]
     clear hk49 hw49 O_48 C0_48 C1_48 F1_48 L1_48 F2_48 L2_48 G9_48 G10_48
     refine hK.out _ _ ⟨C0_49, C1_49⟩ (fun hHeld => ?_)
     clear hK K
     try simp only [PP]
     refine RD ?_
     go_wp2_with fail
     go_meet
     case rel => exact ⟨g9, g10, f1, l1, f2, l2, v2, _, rfl, rfl, Qh ⟨O_49.pre HK1, F1_49.pre HK1, L1_49.pre HK1, F2_49.pre HK1, L2_49.pre HK1, G9_49, G10_49, Nat.le_trans HK1.size z9, Nat.le_trans HK1.size z10⟩⟩
    ·go_simp
     obtain ⟨u50, hw50⟩ : ∃ z, z = u45.alloc zeroK := ⟨_, rfl⟩
     have hk50 : Kn u45 u50 := by rw [hw50]; exact (Kp.refl _ _).alloc _
     obtain ⟨g9, hg9⟩ : ∃ z, z = u45.heap.size := ⟨_, rfl⟩
     have G9_50 : u50.heap[g9]? = some zeroK := by rw [hw50, hg9]; exact blk_new _ _
     have z9 : wd.heap.size ≤ g9 := by rw [hg9]; exact O_45.kp.size
     have hne : ¬ g9 = g10 := by have := blk_lt G10_45; omega
     have O_50 := O_45.kn hk50
     have C0_50 := kn_cell hk50 C0_45
     have C1_50 := kn_cell hk50 C1_45
     have NY_50 := NY_45.kn hk50
     have F1_50 := F1_45.kn hk50
     have L1_50 := L1_45.kn hk50
     have G10_50 := hk50.blk G10_45 (fun x => x)
     rw [← hw50, ← hg9]
     clear hk50 hw50 hg9 O_45 C0_45 C1_45 NY_45 F1_45 L1_45 G10_45
     refine hK.out _ _ ⟨C0_50, C1_50⟩ (fun hHeld => ?_)
     clear hK K
     try simp only [PP]
     refine RH 11 (fun K hK => ?_)
     go_simp
     go_at_call 182
     refine (IHY.out r (nAdd r x ps).1 (fs ++ ([] ++ fs2)) v1 vr pm j u50 O_50.mach NY_50 hGx.out.2.1 hny hr).mono ?_
     rintro e u51 ⟨f2, l2, v2, fs3, rfl, hA51, hB51, hC51⟩
     have O_51 := O_50.trans hA51
     have C0_51 := kp_cell hA51.kp C0_50 (O_50.ms hg7d hS7.out)
     have C1_51 := kp_cell hA51.kp C1_50 (O_50.ms hg7d hS7.out)
     have F1_51 := F1_50.ow HMd O_50 hA51
     have L1_51 := L1_50.ow HMd O_50 hA51
     have G9_51 := hA51.blk O_50.mach G9_50 (by decide) (by decide)
     have G10_51 := hA51.blk O_50.mach G10_50 (by decide) (by decide)
     have F2_51 := Fr.after O_50 hA51 hB51
     have L2_51 := Fr.after O_50 hA51 hC51
     clear hA51 hB51 hC51 O_50 C0_50 C1_50 NY_50 F1_50 L1_50 G9_50 G10_50
     dsimp only
     refine hK.out _ _ ⟨C0_51, C1_51⟩ (fun hHeld => ?_)
     clear hK K
     try simp only [PP]
     refine RH 14 (fun K hK => ?_)
     have x90 := cell_blk G9_51 0; have x91 := cell_blk G9_51 1; have x92 := cell_blk G9_51 2
     have y90 := frozen_blk G9_51 0; have y91 := frozen_blk G9_51 1; have y92 := frozen_blk G9_51 2
     simp only [PE] at x90 x91 x92
     go_simp
     clear x90 x91 x92 y90 y91 y92
     obtain ⟨u52, hw52⟩ : ∃ z, z = ((u51.setCell ⟨g9, 0, none⟩ (.map (some f1))).setCell ⟨g9, 1, none⟩ (.map (some l1))).setCell ⟨g9, 2, none⟩ (.bool (nAdd r x ps).2.empty) := ⟨_, rfl⟩
     have hk52 : K1 g9 u51 u52 := by rw [hw52]; exact K1.tower _ _ _ _
     have O_52 := O_51.k1 hk52 z9 (O_51.mach.other G9_51 (by decide) (by decide))
     have C0_52 := kp_cell hk52 C0_51 (show ¬ g7 = g9 by omega)
     have C1_52 := kp_cell hk52 C1_51 (show ¬ g7 = g9 by omega)
     have F1_52 := F1_51.k1 hk52 G9_51
     have L1_52 := L1_51.k1 hk52 G9_51
     have F2_52 := F2_51.k1 hk52 G9_51
     have L2_52 := L2_51.k1 hk52 G9_51
     have G10_52 := hk52.blk G10_51 (by omega)
     have G9_52 : u52.heap[g9]? = some (knB f1 l1 (nAdd r x ps).2.empty) := by rw [hw52]; exact blk_tower G9_51 _ _ _
     rw [← hw52]
     clear hk52 hw52 O_51 C0_51 C1_51 F1_51 L1_51 F2_51 L2_51 G9_51 G10_51
     refine hK.out _ _ ⟨C0_52, C1_52⟩ (fun hHeld => ?_)
     clear hK K
     try simp only [PP]
     refine RH 15 (fun K hK => ?_)
     have x90 := cell_blk G10_52 0; have x91 := cell_blk G10_52 1; have x92 := cell_blk G10_52 2
     have y90 := frozen_blk G10_52 0; have y91 := frozen_blk G10_52 1; have y92 := frozen_blk G10_52 2
     simp only [PE] at x90 x91 x92
     go_simp
     clear x90 x91 x92 y90 y91 y92
     obtain ⟨u53, hw53⟩ : ∃ z, z = ((u52.setCell ⟨g10, 0, none⟩ (.map (some f2))).setCell ⟨g10, 1, none⟩ (.map (some l2))).setCell ⟨g10, 2, none⟩ (.bool (nAdd r y (nAdd r x ps).1).2.empty) := ⟨_, rfl⟩
     have hk53 : K1 g10 u52 u53 := by rw [hw53]; exact K1.tower _ _ _ _
     have O_53 := O_52.k1 hk53 z10 (O_52.mach.other G10_52 (by decide) (by decide))
     have C0_53 := kp_cell hk53 C0_52 (show ¬ g7 = g10 by omega)
     have C1_53 := kp_cell hk53 C1_52 (show ¬ g7 = g10 by omega)
     have F1_53 := F1_52.k1 hk53 G10_52
     have L1_53 := L1_52.k1 hk53 G10_52
     have F2_53 := F2_52.k1 hk53 G10_52
     have L2_53 := L2_52.k1 hk53 G10_52
     have G9_53 := hk53.blk G9_52 (by omega)
     have G10_53 : u53.heap[g10]? = some (knB f2 l2 (nAdd r y (nAdd r x ps).1).2.empty) := by rw [hw53]; exact blk_tower G10_52 _ _ _
     rw [← hw53]
     clear hk53 hw53 O_52 C0_52 C1_52 F1_52 L1_52 F2_52 L2_52 G9_52 G10_52
     refine hK.out _ _ ⟨C0_53, C1_53⟩ (fun hHeld => ?_)
     clear hK K
     try simp only [PP]
     refine RD ?_
     go_wp2_with fail
     go_meet
     case rel => exact ⟨g9, g10, f1, l1, f2, l2, v2, _, rfl, rfl, Qh ⟨O_53.pre HK1, F1_53.pre HK1, L1_53.pre HK1, F2_53.pre HK1, L2_53.pre HK1, G9_53, G10_53, Nat.le_trans HK1.size z9, Nat.le_trans HK1.size z10⟩⟩
   ·go_simp
    obtain ⟨u54, hw54⟩ : ∃ z, z = u44.alloc zeroK := ⟨_, rfl⟩
    have hk54 : Kn u44 u54 := by rw [hw54]; exact (Kp.refl _ _).alloc _
    obtain ⟨g9, hg9⟩ : ∃ z, z = u44.heap.size := ⟨_, rfl⟩
    have G9_54 : u54.heap[g9]? = some zeroK := by rw [hw54, hg9]; exact blk_new _ _
    have z9 : wd.heap.size ≤ g9 := by rw [hg9]; exact O_44.kp.size
    have hne : ¬ g9 = g10 := by have := blk_lt G10_44; omega
    have O_54 := O_44.kn hk54
    have C0_54 := kn_cell hk54 C0_44
    have C1_54 := kn_cell hk54 C1_44
    have NX_54 := NX_44.kn hk54
    have NY_54 := NY_44.kn hk54
    have G10_54 := hk54.blk G10_44 (fun x => x)
    rw [← hw54, ← hg9]
    clear hk54 hw54 hg9 O_44 C0_44 C1_44 NX_44 NY_44 G10_44
    refine hK.out _ _ ⟨C0_54, C1_54⟩ (fun hHeld => ?_)
    clear hK K
    try simp only [PP]
    refine RH 5 (fun K hK => ?_)
    go_simp
    go_at_call 182
    refine (IHX.out r ps (fs ++ []) v vr pm i u54 O_54.mach NX_54 HG.out hnx hr).mono ?_
    rintro e u55 ⟨f1, l1, v1, fs2, rfl, hA55, hB55, hC55⟩
    have O_55 := O_54.trans hA55
    have C0_55 := kp_cell hA55.kp C0_54 (O_54.ms hg7d hS7.out)
    have C1_55 := kp_cell hA55.kp C1_54 (O_54.ms hg7d hS7.out)
    have NY_55 := hA55.nodes O_54.mach NY_54
    have G9_55 := hA55.blk O_54.mach G9_54 (by decide) (by decide)
    have G10_55 := hA55.blk O_54.mach G10_54 (by decide) (by decide)
    have F1_55 := Fr.after O_54 hA55 hB55
    have L1_55 := Fr.after O_54 hA55 hC55
    clear hA55 hB55 hC55 O_54 C0_54 C1_54 NX_54 NY_54 G9_54 G10_54
    dsimp only
    refine hK.out _ _ ⟨C0_55, C1_55⟩ (fun hHeld => ?_)
    clear hK K
    try simp only [PP]
    refine RH 11 (fun K hK => ?_)
    go_simp
    go_at_call 182
    refine (IHY.out r (nAdd r x ps).1 (fs ++ ([] ++ fs2)) v1 vr pm j u55 O_55.mach NY_55 hGx.out.2.1 hny hr).mono ?_
    rintro e u56 ⟨f2, l2, v2, fs3, rfl, hA56, hB56, hC56⟩
    have O_56 := O_55.trans hA56
    have C0_56 := kp_cell hA56.kp C0_55 (O_55.ms hg7d hS7.out)
    have C1_56 := kp_cell hA56.kp C1_55 (O_55.ms hg7d hS7.out)
    have F1_56 := F1_55.ow HMd O_55 hA56
    have L1_56 := L1_55.ow HMd O_55 hA56
    have G9_56 := hA56.blk O_55.mach G9_55 (by decide) (by decide)
    have G10_56 := hA56.blk O_55.mach G10_55 (by decide) (by decide)
    have F2_56 := Fr.after O_55 hA56 hB56
    have L2_56 := Fr.after O_55 hA56 hC56
    clear hA56 hB56 hC56 O_55 C0_55 C1_55 NY_55 F1_55 L1_55 G9_55 G10_55
    dsimp only
    refine hK.out _ _ ⟨C0_56, C1_56⟩ (fun hHeld => ?_)
    clear hK K
    try simp only [PP]
    refine RH 14 (fun K hK => ?_)
    have x90 := cell_blk G9_56 0; have x91 := cell_blk G9_56 1; have x92 := cell_blk G9_56 2
    have y90 := frozen_blk G9_56 0; have y91 := frozen_blk G9_56 1; have y92 := frozen_blk G9_56 2
    simp only [PE] at x90 x91 x92
    go_simp
    clear x90 x91 x92 y90 y91 y92
    obtain ⟨u57, hw57⟩ : ∃ z, z = ((u56.setCell ⟨g9, 0, none⟩ (.map (some f1))).setCell ⟨g9, 1, none⟩ (.map (some l1))).setCell ⟨g9, 2, none⟩ (.bool (nAdd r x ps).2.empty) := ⟨_, rfl⟩
    have hk57 : K1 g9 u56 u57 := by rw [hw57]; exact K1.tower _ _ _ _
    have O_57 := O_56.k1 hk57 z9 (O_56.mach.other G9_56 (by decide) (by decide))
    have C0_57 := kp_cell hk57 C0_56 (show ¬ g7 = g9 by omega)
    have C1_57 := kp_cell hk57 C1_56 (show ¬ g7 = g9 by omega)
    have F1_57 := F1_56.k1 hk57 G9_56
    have L1_57 := L1_56.k1 hk57 G9_56
    have F2_57 := F2_56.k1 hk57 G9_56
    have L2_57 := L2_56.k1 hk57 G9_56
    have G10_57 := hk57.blk G10_56 (by omega)
    have G9_57 : u57.heap[g9]? = some (knB f1 l1 (nAdd r x ps).2.empty) := by rw [hw57]; exact blk_tower G9_56 _ _ _
    rw [← hw57]
    clear hk57 hw57 O_56 C0_56 C1_56 F1_56 L1_56 F2_56 L2_56 G9_56 G10_56
    refine hK.out _ _ ⟨C0_57, C1_57⟩ (fun hHeld => ?_)
    clear hK K
    try simp only [PP]
    refine RH 15 (fun K hK => ?_)
    have x90 := cell_blk G10_57 0; have x91 := cell_blk G10_57 1; have x92 := cell_blk G10_57 2
    have y90 := frozen_blk G10_57 0; have y91 := frozen_blk G10_57 1; have y92 := frozen_blk G10_57 2
    simp only [PE] at x90 x91 x92
    go_simp
    clear x90 x91 x92 y90 y91 y92
    obtain ⟨u58, hw58⟩ : ∃ z, z = ((u57.setCell ⟨g10, 0, none⟩ (.map (some f2))).setCell ⟨g10, 1, none⟩ (.map (some l2))).setCell ⟨g10, 2, none⟩ (.bool (nAdd r y (nAdd r x ps).1).2.empty) := ⟨_, rfl⟩
    have hk58 : K1 g10 u57 u58 := by rw [hw58]; exact K1.tower _ _ _ _
    have O_58 := O_57.k1 hk58 z10 (O_57.mach.other G10_57 (by decide) (by decide))
    have C0_58 := kp_cell hk58 C0_57 (show ¬ g7 = g10 by omega)
    have C1_58 := kp_cell hk58 C1_57 (show ¬ g7 = g10 by omega)
    have F1_58 := F1_57.k1 hk58 G10_57
    have L1_58 := L1_57.k1 hk58 G10_57
    have F2_58 := F2_57.k1 hk58 G10_57
    have L2_58 := L2_57.k1 hk58 G10_57
    have G9_58 := hk58.blk G9_57 (by omega)
    have G10_58 : u58.heap[g10]? = some (knB f2 l2 (nAdd r y (nAdd r x ps).1).2.empty) := by rw [hw58]; exact blk_tower G10_57 _ _ _
    rw [← hw58]
    clear hk58 hw58 O_57 C0_57 C1_57 F1_57 L1_57 F2_57 L2_57 G9_57 G10_57
    refine hK.out _ _ ⟨C0_58, C1_58⟩ (fun hHeld => ?_)
    clear hK K
    try simp only [PP]
    refine RD ?_
    go_wp2_with fail
    go_meet
    case rel => exact ⟨g9, g10, f1, l1, f2, l2, v2, _, rfl, rfl, Qh ⟨O_58.pre HK1, F1_58.pre HK1, L1_58.pre HK1, F2_58.pre HK1, L2_58.pre HK1, G9_58, G10_58, Nat.le_trans HK1.size z9, Nat.le_trans HK1.size z10⟩⟩
 case rest =>
  obtain ⟨g9, g10, f1, l1, f2, l2, v2, fs4, rfl, rfl, OI⟩ := hcut
  have hgx := hGx.out.2.2.mono (m := (nAdd r y (nAdd r x ps).1).1.length) (by have := hGy.out.1; omega)
  have hl2k : (nAdd r y (nAdd r x ps).1).1.length ≤ 2000 := by have := hGy.out.1; omega
  have c9 := OI.out.h9
  have c10 := OI.out.h10
  have HB9 : Hid (w1.heap.size ≤ g9) := Qh OI.out.ge9
  have HB10 : Hid (w1.heap.size ≤ g10) := Qh OI.out.ge10
  clear hc0 hc1
  cases hea : (nAdd r x ps).2.empty
  ·have hE : Hid ((nAdd r (.or x y) ps).2.empty = (nAdd r y (nAdd r x ps).1).2.empty) := Qh (by simp [nAdd, hea])
   rw [hea] at c9
   clear hea
   have x90 := cell_blk c9 0; have x91 := cell_blk c9 1; have x92 := cell_blk c9 2
   simp only [PE] at x90 x91 x92
   have x100 := cell_blk c10 0; have x101 := cell_blk c10 1; have x102 := cell_blk c10 2
   simp only [PE] at x100 x101 x102
   clear c9 c10
   go_wp2_with fail
   refine wp_region_held_drew (S := fun w' => w'.cell? ⟨g9, 0, none⟩ = some (.map (some f1)) ∧ w'.cell? ⟨g9, 1, none⟩ = some (.map (some l1)) ∧ w'.cell? ⟨g9, 2, none⟩ = some (.bool false) ∧ w'.cell? ⟨g10, 0, none⟩ = some (.map (some f2)) ∧ w'.cell? ⟨g10, 1, none⟩ = some (.map (some l2)) ∧ w'.cell? ⟨g10, 2, none⟩ = some (.bool (nAdd r y (nAdd r x ps).1).2.empty)) (by kernel_rfl) (have h := (Kp.refl (fun _ => False) wc).drew; ⟨kn_cell h x90, kn_cell h x91, kn_cell h x92, kn_cell h x100, kn_cell h x101, kn_cell h x102⟩) (fun hHeld => ?_)
   obtain ⟨wd, hwd⟩ : ∃ z, z = wc.drew := ⟨_, rfl⟩
   have HKd : Kn wc wd := by rw [hwd]; exact (Kp.refl _ _).drew
   rw [← hwd] at hHeld ⊢
   obtain ⟨d90, d91, d92, d100, d101, d102⟩ := id hHeld
   clear hwd x90 x91 x92 x100 x101 x102
   refine TW 0 74 ?_
   refine TH 1 75 ?_
   refine TW 2 76 ?_
   refine TH 3 77 ?_
   refine TW 5 79 ?_
   refine TH 6 80 ?_
   refine TW 7 81 ?_
   refine TH 8 82 ?_
   refine TW 10 84 ?_
   refine TH 11 85 ?_
   refine RH 4 (fun K hK => ?_)
   go_simp
   go_at_call 216
   refine (with_c f1 f2 _ _ wd (OI.out.a1.set.kn HKd) (OI.out.b1.set.kn HKd) (small_of hgx.f hl2k) (small_of hGy.out.2.2.f hl2k)).mono ?_
   rintro e w3 ⟨q1, rfl, hq1, hs1, hk3⟩
   have HK3 := HKd.trans hk3
   have hFq1 := Fr.made (OI.out.ow.kn HKd) hs1 hq1 (OI.out.ow.kn HKd).mach
   clear hs1 hq1
   dsimp only
   refine hK.out _ _ ⟨kn_cell hk3 d90, kn_cell hk3 d91, kn_cell hk3 d92, kn_cell hk3 d100, kn_cell hk3 d101, kn_cell hk3 d102⟩ (fun hHeld => ?_)
   clear hK K
   try simp only [PP]
   refine RH 9 (fun K hK => ?_)
   go_simp
   go_at_call 216
   refine (with_c l1 l2 _ _ w3 (OI.out.a2.set.kn HK3) (OI.out.b2.set.kn HK3) (small_of hgx.l hl2k) (small_of hGy.out.2.2.l hl2k)).mono ?_
   rintro e w4 ⟨q2, rfl, hq2, hs2, hk4⟩
   have HK4 := HK3.trans hk4
   have hFq2 := Fr.made (OI.out.ow.kn HK3) hs2 hq2 (OI.out.ow.kn HK3).mach
   have O4 := Qh (And.intro ((OI.out.ow.kn HK4).pre hK1) (And.intro ((hFq1.kn hk4).pre hK1) (hFq2.pre hK1)))
   have hB4 := HK4.blk (OI.out.ow.blk HM1.out hB1 (by decide) (by decide)) (fun x => x)
   have hz4 : w.heap.size < w4.heap.size := blk_lt hB4
   clear hs2 hq2 hFq1 hFq2
   dsimp only
   refine hK.out _ _ ⟨kn_cell (hk3.trans hk4) d90, kn_cell (hk3.trans hk4) d91, kn_cell (hk3.trans hk4) d92, kn_cell (hk3.trans hk4) d100, kn_cell (hk3.trans hk4) d101, kn_cell (hk3.trans hk4) d102⟩ (fun hHeld => ?_)
   clear hK K
   try simp only [PP]
   refine TW 12 86 ?_
   refine TW 13 87 ?_
   refine TH 14 88 ?_
   refine TW 15 89 ?_
   refine TW 16 90 ?_
   refine RH 17 (fun K hK => ?_)
   have xB0 := cell_blk hB4 0; have xB1 := cell_blk hB4 1; have xB2 := cell_blk hB4 2
   have yB0 := frozen_blk hB4 0; have yB1 := frozen_blk hB4 1; have yB2 := frozen_blk hB4 2
   simp only [PE] at xB0 xB1 xB2
   have hT0 : K1 w.heap.size w4 (((w4.setCell ⟨w.heap.size, 0, none⟩ (.map (some q1))).setCell ⟨w.heap.size, 1, none⟩ (.map (some q2))).setCell ⟨w.heap.size, 2, none⟩ (.bool (nAdd r y (nAdd r x ps).1).2.empty)) := K1.tower _ _ _ _
   have n9 : ¬ g9 = w.heap.size := fun e => by have h1 := HB9.out; rw [e] at h1; omega
   have n10 : ¬ g10 = w.heap.size := fun e => by have h1 := HB10.out; rw [e] at h1; omega
   have e90 := kp_cell hT0 (kn_cell (hk3.trans hk4) d90) n9; have e91 := kp_cell hT0 (kn_cell (hk3.trans hk4) d91) n9; have e92 := kp_cell hT0 (kn_cell (hk3.trans hk4) d92) n9
   have e100 := kp_cell hT0 (kn_cell (hk3.trans hk4) d100) n10; have e101 := kp_cell hT0 (kn_cell (hk3.trans hk4) d101) n10; have e102 := kp_cell hT0 (kn_cell (hk3.trans hk4) d102) n10
   clear hT0 n9 n10
   go_simp
   refine hK.out _ _ ⟨e90, e91, e92, e100, e101, e102⟩ (fun hHeld => ?_)
   clear hK K
   try simp only [PP]
   refine RD ?_
   go_wp2_with fail
   refine bodyPost_ret (v := knV q1 q2 (nAdd r y (nAdd r x ps).1).2.empty) (res3 (b := w.heap.size) (T := TKno) (fr := (0, 0)) Tryz.results182 (by rfl) ?_) rfl ?_
   ·exact blk_set (blk_set (blk_set hB4 0 _) 1 _) 2 _
   have hT : K1 w.heap.size w4 (((w4.setCell ⟨w.heap.size, 0, none⟩ (.map (some q1))).setCell ⟨w.heap.size, 1, none⟩ (.map (some q2))).setCell ⟨w.heap.size, 2, none⟩ (.bool (nAdd r y (nAdd r x ps).1).2.empty)) := ((Kp.set1 _ _).trans (Kp.set1 _ _)).trans (Kp.set1 _ _)
   obtain ⟨r1, r2, r3⟩ := O4.out
   refine ⟨q1, q2, v2, fs4, by rw [hE.out], r1.k1 hT (Nat.le_refl _) (r1.mach.other hB4 (by decide) (by decide)), r2.k1 hT hB4, r3.k1 hT hB4⟩
  ·have hE : Hid ((nAdd r (.or x y) ps).2.empty = true) := Qh (by simp [nAdd, hea])
   rw [hea] at c9
   clear hea
   have x90 := cell_blk c9 0; have x91 := cell_blk c9 1; have x92 := cell_blk c9 2
   simp only [PE] at x90 x91 x92
   have x100 := cell_blk c10 0; have x101 := cell_blk c10 1; have x102 := cell_blk c10 2
   simp only [PE] at x100 x101 x102
   clear c9 c10
   go_wp2_with fail
   refine wp_region_held_drew (S := fun w' => w'.cell? ⟨g9, 0, none⟩ = some (.map (some f1)) ∧ w'.cell? ⟨g9, 1, none⟩ = some (.map (some l1)) ∧ w'.cell? ⟨g9, 2, none⟩ = some (.bool true) ∧ w'.cell? ⟨g10, 0, none⟩ = some (.map (some f2)) ∧ w'.cell? ⟨g10, 1, none⟩ = some (.map (some l2)) ∧ w'.cell? ⟨g10, 2, none⟩ = some (.bool (nAdd r y (nAdd r x ps).1).2.empty)) (by kernel_rfl) (have h := (Kp.refl (fun _ => False) wc).drew; ⟨kn_cell h x90, kn_cell h x91, kn_cell h x92, kn_cell h x100, kn_cell h x101, kn_cell h x102⟩) (fun hHeld => ?_)
   obtain ⟨wd, hwd⟩ : ∃ z, z = wc.drew := ⟨_, rfl⟩
   have HKd : Kn wc wd := by rw [hwd]; exact (Kp.refl _ _).drew
   rw [← hwd] at hHeld ⊢
   obtain ⟨d90, d91, d92, d100, d101, d102⟩ := id hHeld
   clear hwd x90 x91 x92 x100 x101 x102
   refine TW 0 74 ?_
   refine TH 1 75 ?_
   refine TW 2 76 ?_
   refine TH 3 77 ?_
   refine TW 5 79 ?_
   refine TH 6 80 ?_
   refine TW 7 81 ?_
   refine TH 8 82 ?_
   refine TW 10 84 ?_
   refine TH 11 85 ?_
   refine RH 4 (fun K hK => ?_)
   go_simp
   go_at_call 216
   refine (with_c f1 f2 _ _ wd (OI.out.a1.set.kn HKd) (OI.out.b1.set.kn HKd) (small_of hgx.f hl2k) (small_of hGy.out.2.2.f hl2k)).mono ?_
   rintro e w3 ⟨q1, rfl, hq1, hs1, hk3⟩
   have HK3 := HKd.trans hk3
   have hFq1 := Fr.made (OI.out.ow.kn HKd) hs1 hq1 (OI.out.ow.kn HKd).mach
   clear hs1 hq1
   dsimp only
   refine hK.out _ _ ⟨kn_cell hk3 d90, kn_cell hk3 d91, kn_cell hk3 d92, kn_cell hk3 d100, kn_cell hk3 d101, kn_cell hk3 d102⟩ (fun hHeld => ?_)
   clear hK K
   try simp only [PP]
   refine RH 9 (fun K hK => ?_)
   go_simp
   go_at_call 216
   refine (with_c l1 l2 _ _ w3 (OI.out.a2.set.kn HK3) (OI.out.b2.set.kn HK3) (small_of hgx.l hl2k) (small_of hGy.out.2.2.l hl2k)).mono ?_
   rintro e w4 ⟨q2, rfl, hq2, hs2, hk4⟩
   have HK4 := HK3.trans hk4
   have hFq2 := Fr.made (OI.out.ow.kn HK3) hs2 hq2 (OI.out.ow.kn HK3).mach
   have O4 := Qh (And.intro ((OI.out.ow.kn HK4).pre hK1) (And.intro ((hFq1.kn hk4).pre hK1) (hFq2.pre hK1)))
   have hB4 := HK4.blk (OI.out.ow.blk HM1.out hB1 (by decide) (by decide)) (fun x => x)
   have hz4 : w.heap.size < w4.heap.size := blk_lt hB4
   clear hs2 hq2 hFq1 hFq2
   dsimp only
   refine hK.out _ _ ⟨kn_cell (hk3.trans hk4) d90, kn_cell (hk3.trans hk4) d91, kn_cell (hk3.trans hk4) d92, kn_cell (hk3.trans hk4) d100, kn_cell (hk3.trans hk4) d101, kn_cell (hk3.trans hk4) d102⟩ (fun hHeld => ?_)
   clear hK K
   try simp only [PP]
   refine TW 12 86 ?_
   refine TU 13 87 ?_
   refine TU 14 88 ?_
   refine TW 15 89 ?_
   refine TW 16 90 ?_
   refine RH 17 (fun K hK => ?_)
   have xB0 := cell_blk hB4 0; have xB1 := cell_blk hB4 1; have xB2 := cell_blk hB4 2
   have yB0 := frozen_blk hB4 0; have yB1 := frozen_blk hB4 1; have yB2 := frozen_blk hB4 2
   simp only [PE] at xB0 xB1 xB2
   have hT0 : K1 w.heap.size w4 (((w4.setCell ⟨w.heap.size, 0, none⟩ (.map (some q1))).setCell ⟨w.heap.size, 1, none⟩ (.map (some q2))).setCell ⟨w.heap.size, 2, none⟩ (.bool true)) := K1.tower _ _ _ _
   have n9 : ¬ g9 = w.heap.size := fun e => by have h1 := HB9.out; rw [e] at h1; omega
   have n10 : ¬ g10 = w.heap.size := fun e => by have h1 := HB10.out; rw [e] at h1; omega
   have e90 := kp_cell hT0 (kn_cell (hk3.trans hk4) d90) n9; have e91 := kp_cell hT0 (kn_cell (hk3.trans hk4) d91) n9; have e92 := kp_cell hT0 (kn_cell (hk3.trans hk4) d92) n9
   have e100 := kp_cell hT0 (kn_cell (hk3.trans hk4) d100) n10; have e101 := kp_cell hT0 (kn_cell (hk3.trans hk4) d101) n10; have e102 := kp_cell hT0 (kn_cell (hk3.trans hk4) d102) n10
   clear hT0 n9 n10
   go_simp
   refine hK.out _ _ ⟨e90, e91, e92, e100, e101, e102⟩ (fun hHeld => ?_)
   clear hK K
   try simp only [PP]
   refine RD ?_
   go_wp2_with fail
   refine bodyPost_ret (v := knV q1 q2 true) (res3 (b := w.heap.size) (T := TKno) (fr := (0, 0)) Tryz.results182 (by rfl) ?_) rfl ?_
   ·exact blk_set (blk_set (blk_set hB4 0 _) 1 _) 2 _
   have hT : K1 w.heap.size w4 (((w4.setCell ⟨w.heap.size, 0, none⟩ (.map (some q1))).setCell ⟨w.heap.size, 1, none⟩ (.map (some q2))).setCell ⟨w.heap.size, 2, none⟩ (.bool true)) := ((Kp.set1 _ _).trans (Kp.set1 _ _)).trans (Kp.set1 _ _)
   obtain ⟨r1, r2, r3⟩ := O4.out
   refine ⟨q1, q2, v2, fs4, by rw [hE.out], r1.k1 hT (Nat.le_refl _) (r1.mach.other hB4 (by decide) (by decide)), r2.k1 hT hB4, r3.k1 hT hB4⟩
set_option maxRecDepth 100000 in
set_option maxHeartbeats 4000000 in
theorem add_set (b : W4) : AddC (.set b) := by
 intro r ps fs v vr pm n w hM hN hG hc hr
 have HM := Qh hM
 have HN := Qh hN
 have HG := Qh hG
 have hkB : Kn w (w.alloc zeroK) := (Kp.refl _ w).alloc _
 have hbB := blk_new w zeroK
 have hPc := Qh (Parts_c _ n _ (hN.kn hkB))
 clear hM hN hG
 go_enter Tryz.func182, Tryz.ntmps182
 go_wp2_with fail
 refine hPc.out.mono ?_
 rintro e w1 ⟨v7, qs, rfl, hP, hk1, hfr⟩
 have hK1 : Kn w w1 := hkB.trans hk1
 have hB1 := hk1.blk hbB (fun x => x)
 have hN1 := Qh (HN.out.kn hK1)
 have HO := Qh ((Ow.refl HM.out).kn hK1)
 have hBl := blk_lt hB1
 have HFR : Hid (∀ k, v7.ownBlock = some k → w.heap.size < k) := Qh (fun k e => by have := hfr k e; simp at this; omega)
 clear hbB hkB hk1 hPc hfr
 go_wp2_with fail
 refine (Kind_c _ n w1 hN1.out).mono ?_
 rintro e w' ⟨rfl, rfl⟩
 simp only [Re.kind]
 have hmm := @run_makeMap Tryz.prog
 obtain ⟨i0, hi, hz0, hz1, hz2⟩ := info_parts info_pos
 have HI := Qh (And.intro hi (And.intro hz0 (And.intro hz1 hz2)))
 clear hi hz0 hz1 hz2
 have hbok : b.ok := HN.out.1
 have hM1 := HM.out.kn hK1
 have hnl : ps.length + 1 ≤ 2000 := by simpa [ncount] using hc
 have HM1 := Qh hM1
 have xp := cell_blk hM1.blk 0
 simp only [List.getElem?_toArray, List.getElem?_cons_zero] at xp
 have hvl : ∃ a c, v = .slice a ps.length c := by
  obtain ⟨a, c, h1, _⟩ := hM1.row.row (posC_six ps fs)
  rw [posC_len hM1.len] at h1
  exact ⟨a, c, h1⟩
 obtain ⟨av, cv, hv⟩ := hvl
 rw [hv] at xp
 clear hM1
 go_upto_region 5 with fail
 go_cut [8] (fun s8 wc => s8 = .int .i64 ps.length ∧ ∃ (v1 : Value) (f0 : Nat), Hid (Ow w1 wc pm v vr fs v1 (ps ++ [⟨b, r, []⟩]) [f0]))
 case first =>
  have HK1 : Kn w1 w1.drew := (Kp.refl _ _).drew
  have HV := Qh hv
  clear hv xp
  refine wp_region_any (by kernel_rfl) ?_
  change wpAny _ _ _ _ _ _ _ (World.drew _)
  obtain ⟨wd, hwd⟩ : ∃ z, z = w1.drew := ⟨_, rfl⟩
  rw [← hwd] at HK1 ⊢
  have HMd := HM1.out.kn HK1
  have O_0 := Ow.refl HMd
  have NX_0 := hN1.out.kn HK1
  clear hwd
  refine TA 0 23 ?_
  refine TA 1 24 ?_
  refine TA 2 25 ?_
  refine TA 3 26 ?_
  refine TA 5 28 ?_
  refine TA 7 30 ?_
  refine wpAny_ready (rs := [4, 6, 8]) (by kernel_rfl) (by simp) (AllReady.cons (o := Oper.mk (some 27) _ _ _ _ _) rfl (fun K hK => ?_) (AllReady.cons (o := Oper.mk (some 29) _ _ _ _ _) rfl (fun K hK => ?_) (AllReady.cons (o := Oper.mk (some 31) _ _ _ _ _) rfl (fun K hK => ?_) AllReady.nil)))
  ·have xq := cell_blk O_0.mach.blk 0
   simp only [List.getElem?_toArray, List.getElem?_cons_zero] at xq
   rw [HV.out] at xq
   go_simp
   rw [← HV.out]
   clear xq
   refine hK _ _ ?_
   clear hK K
   try simp only [PP]
   refine wpAny_ready (rs := [6, 8]) (by kernel_rfl) (by simp) (AllReady.cons (o := Oper.mk (some 29) _ _ _ _ _) rfl (fun K hK => ?_) (AllReady.cons (o := Oper.mk (some 31) _ _ _ _ _) rfl (fun K hK => ?_) AllReady.nil))
   ·go_simp
    go_at_call 214
    refine (Bytes_set b n wd NX_0).mono ?_
    rintro e u1 ⟨rfl, hk1⟩
    have O_1 := O_0.kn hk1
    have NX_1 := NX_0.kn hk1
    clear hk1 O_0 NX_0
    dsimp only
    refine hK _ _ ?_
    clear hK K
    try simp only [PP]
    refine wpAny_ready (rs := [8]) (by kernel_rfl) (by simp) (AllReady.cons (o := Oper.mk (some 31) _ _ _ _ _) rfl (fun K hK => ?_) AllReady.nil)
    go_simp
    obtain ⟨u2, hw2⟩ : ∃ z, z = u1.alloc (.map #[] 0) := ⟨_, rfl⟩
    have hk2 : Kn u1 u2 := by rw [hw2]; exact (Kp.refl _ _).alloc _
    obtain ⟨f0, hf0⟩ : ∃ z, z = u1.heap.size := ⟨_, rfl⟩
    have SF_2 : SetN u2 f0 [] := by rw [hw2, hf0]; exact SetN.empty _
    have zf : wd.heap.size ≤ f0 := by rw [hf0]; exact O_1.kp.size
    have O_2 := O_1.kn hk2
    have NX_2 := NX_1.kn hk2
    rw [← hw2, ← hf0]
    clear hk2 hw2 hf0 O_1 NX_1
    refine hK _ _ ?_
    clear hK K
    try simp only [PP]
    refine TA 9 32 ?_
    refine wpAny_ready (rs := [10]) (by kernel_rfl) (by simp) (AllReady.cons (o := Oper.mk (some 33) _ _ _ _ _) rfl (fun K hK => ?_) AllReady.nil)
    go_simp
    obtain ⟨u3, hw3⟩ : ∃ z, z = u2.alloc (.cells #[.int .u64 b.a, .int .u64 b.b, .int .u64 b.c, .int .u64 b.d, .int .i64 r, .map (some f0)] TPos) := ⟨_, rfl⟩
    have hk3 : Kn u2 u3 := by rw [hw3]; exact (Kp.refl _ _).alloc _
    obtain ⟨ge, hge⟩ : ∃ z, z = u2.heap.size := ⟨_, rfl⟩
    have GE_3 : u3.heap[ge]? = some (.cells #[.int .u64 b.a, .int .u64 b.b, .int .u64 b.c, .int .u64 b.d, .int .i64 r, .map (some f0)] TPos) := by rw [hw3, hge]; exact blk_new _ _
    have O_3 := O_2.kn hk3
    have NX_3 := NX_2.kn hk3
    have SF_3 := SF_2.kn hk3
    rw [← hw3, ← hge]
    clear hk3 hw3 hge O_2 NX_2 SF_2
    refine hK _ _ ?_
    clear hK K
    try simp only [PP]
    refine wpAny_ready (rs := [11]) (by kernel_rfl) (by simp) (AllReady.cons (o := Oper.mk (some 34) _ _ _ _ _) rfl (fun K hK => ?_) AllReady.nil)
    refine step_append_k u3 (by rfl) _ _ 271 (by rfl) (pm + 1) TPos i0 (.agg #[.int .u64 0, .int .u64 0, .int .u64 0, .int .u64 0, .int .i64 0, .map none]) 6 48 Tryz.underlying271 HI.out.1 HI.out.2.1 HI.out.2.2.1 HI.out.2.2.2 (by rfl) (by decide) v (posC ps (fs ++ [])) (by rfl) O_3.mach.row ge 1 (by rfl) _ TPos (0, 0) GE_3 (by rfl) (by simp [Value.oneCell']) (by rw [posC_len O_3.mach.len]; simp only [maxLen]; omega) (by rw [posC_len O_3.mach.len]; omega) (by have := O_3.mach.lt; omega) ?_
    intro v1 u4 hown hka hat
    have hsn := MachAt.snoc O_3.mach (x := ⟨b, r, []⟩) hbok rfl SF_3 (fun e => by have := HMd.fs_lt (by simpa using e); omega) (by have := HMd.lt; omega) (fun e => by have := (HMd.own_lt e.symm).2; omega) hown hka hat
    have HSN := Qh (And.intro O_3 hsn)
    obtain ⟨av1, cv1, hv1, _⟩ := hown.row (k := 6) (fun C hC => by rcases List.mem_append.1 hC with h | h; exact posC_six _ _ C h; simp at h; rw [h]; rfl)
    obtain ⟨nl1, hv1⟩ : ∃ n, v1 = .slice av1 n cv1 := ⟨_, hv1⟩
    have HV1 := Qh hv1
    clear hv1
    have hpb := hka.blk O_3.mach.blk (fun e => by have := HMd.own_lt e.symm; omega)
    have HAT : Hid (v1.ownBlock = v.ownBlock ∨ ∃ g, v1.ownBlock = some g ∧ wd.heap.size ≤ g) := Qh (by rcases hat with e | e; exact .inl e; exact .inr ⟨_, e, O_3.kp.size⟩)
    clear hsn hown hka hat O_3 NX_3 SF_3 GE_3
    refine hK _ _ ?_
    clear hK K
    try simp only [PP]
    refine TA 12 35 ?_
    refine TA 13 36 ?_
    refine wpAny_ready (rs := [14]) (by kernel_rfl) (by simp) (AllReady.cons (o := Oper.mk none _ _ _ _ _) rfl (fun K hK => ?_) AllReady.nil)
    have xp0 := cell_blk hpb 0
    have yp0 := frozen_blk hpb 0
    simp only [List.getElem?_toArray, List.getElem?_cons_zero] at xp0
    rw [HV1.out]
    go_simp
    rw [← HV1.out]
    obtain ⟨w9, hw9⟩ : ∃ z, z = u4.setCell ⟨pm, 0, none⟩ v1 := ⟨_, rfl⟩
    rw [← hw9] at HSN ⊢
    clear xp0 yp0 hpb hw9
    refine hK _ _ ?_
    clear hK K
    try simp only [PP]
    refine wpAny_done (by kernel_rfl) ?_ _
    go_wp2_with fail
    go_meet
    case rel => exact ⟨rfl, v1, f0, Qh (Ow.pre HK1 ⟨by simpa using HSN.out.2.1, HSN.out.1.kp.trans' HSN.out.2.2 (fun i hi e => by simpa using e), by simpa using zf, HAT.out⟩)⟩
   ·go_simp
    obtain ⟨u5, hw5⟩ : ∃ z, z = wd.alloc (.map #[] 0) := ⟨_, rfl⟩
    have hk5 : Kn wd u5 := by rw [hw5]; exact (Kp.refl _ _).alloc _
    obtain ⟨f0, hf0⟩ : ∃ z, z = wd.heap.size := ⟨_, rfl⟩
    have SF_5 : SetN u5 f0 [] := by rw [hw5, hf0]; exact SetN.empty _
    have zf : wd.heap.size ≤ f0 := by rw [hf0]; exact O_0.kp.size
    have O_5 := O_0.kn hk5
    have NX_5 := NX_0.kn hk5
    rw [← hw5, ← hf0]
    clear hk5 hw5 hf0 O_0 NX_0
    refine hK _ _ ?_
    clear hK K
    try simp only [PP]
    refine wpAny_ready (rs := [6]) (by kernel_rfl) (by simp) (AllReady.cons (o := Oper.mk (some 29) _ _ _ _ _) rfl (fun K hK => ?_) AllReady.nil)
    go_simp
    go_at_call 214
    refine (Bytes_set b n u5 NX_5).mono ?_
    rintro e u6 ⟨rfl, hk6⟩
    have O_6 := O_5.kn hk6
    have NX_6 := NX_5.kn hk6
    have SF_6 := SF_5.kn hk6
    clear hk6 O_5 NX_5 SF_5
    dsimp only
    refine hK _ _ ?_
    clear hK K
    try simp only [PP]
    refine TA 9 32 ?_
    refine wpAny_ready (rs := [10]) (by kernel_rfl) (by simp) (AllReady.cons (o := Oper.mk (some 33) _ _ _ _ _) rfl (fun K hK => ?_) AllReady.nil)
    go_simp
    obtain ⟨u7, hw7⟩ : ∃ z, z = u6.alloc (.cells #[.int .u64 b.a, .int .u64 b.b, .int .u64 b.c, .int .u64 b.d, .int .i64 r, .map (some f0)] TPos) := ⟨_, rfl⟩
    have hk7 : Kn u6 u7 := by rw [hw7]; exact (Kp.refl _ _).alloc _
    obtain ⟨ge, hge⟩ : ∃ z, z = u6.heap.size := ⟨_, rfl⟩
    have GE_7 : u7.heap[ge]? = some (.cells #[.int .u64 b.a, .int .u64 b.b, .int .u64 b.c, .int .u64 b.d, .int .i64 r, .map (some f0)] TPos) := by rw [hw7, hge]; exact blk_new _ _
    have O_7 := O_6.kn hk7
    have NX_7 := NX_6.kn hk7
    have SF_7 := SF_6.kn hk7
    rw [← hw7, ← hge]
    clear hk7 hw7 hge O_6 NX_6 SF_6
    refine hK _ _ ?_
    clear hK K
    try simp only [PP]
    refine wpAny_ready (rs := [11]) (by kernel_rfl) (by simp) (AllReady.cons (o := Oper.mk (some 34) _ _ _ _ _) rfl (fun K hK => ?_) AllReady.nil)
    refine step_append_k u7 (by rfl) _ _ 271 (by rfl) (pm + 1) TPos i0 (.agg #[.int .u64 0, .int .u64 0, .int .u64 0, .int .u64 0, .int .i64 0, .map none]) 6 48 Tryz.underlying271 HI.out.1 HI.out.2.1 HI.out.2.2.1 HI.out.2.2.2 (by rfl) (by decide) v (posC ps (fs ++ [])) (by rfl) O_7.mach.row ge 1 (by rfl) _ TPos (0, 0) GE_7 (by rfl) (by simp [Value.oneCell']) (by rw [posC_len O_7.mach.len]; simp only [maxLen]; omega) (by rw [posC_len O_7.mach.len]; omega) (by have := O_7.mach.lt; omega) ?_
    intro v1 u8 hown hka hat
    have hsn := MachAt.snoc O_7.mach (x := ⟨b, r, []⟩) hbok rfl SF_7 (fun e => by have := HMd.fs_lt (by simpa using e); omega) (by have := HMd.lt; omega) (fun e => by have := (HMd.own_lt e.symm).2; omega) hown hka hat
    have HSN := Qh (And.intro O_7 hsn)
    obtain ⟨av1, cv1, hv1, _⟩ := hown.row (k := 6) (fun C hC => by rcases List.mem_append.1 hC with h | h; exact posC_six _ _ C h; simp at h; rw [h]; rfl)
    obtain ⟨nl1, hv1⟩ : ∃ n, v1 = .slice av1 n cv1 := ⟨_, hv1⟩
    have HV1 := Qh hv1
    clear hv1
    have hpb := hka.blk O_7.mach.blk (fun e => by have := HMd.own_lt e.symm; omega)
    have HAT : Hid (v1.ownBlock = v.ownBlock ∨ ∃ g, v1.ownBlock = some g ∧ wd.heap.size ≤ g) := Qh (by rcases hat with e | e; exact .inl e; exact .inr ⟨_, e, O_7.kp.size⟩)
    clear hsn hown hka hat O_7 NX_7 SF_7 GE_7
    refine hK _ _ ?_
    clear hK K
    try simp only [PP]
    refine TA 12 35 ?_
    refine TA 13 36 ?_
    refine wpAny_ready (rs := [14]) (by kernel_rfl) (by simp) (AllReady.cons (o := Oper.mk none _ _ _ _ _) rfl (fun K hK => ?_) AllReady.nil)
    have xp0 := cell_blk hpb 0
    have yp0 := frozen_blk hpb 0
    simp only [List.getElem?_toArray, List.getElem?_cons_zero] at xp0
    rw [HV1.out]
    go_simp
    rw [← HV1.out]
    obtain ⟨w9, hw9⟩ : ∃ z, z = u8.setCell ⟨pm, 0, none⟩ v1 := ⟨_, rfl⟩
    rw [← hw9] at HSN ⊢
    clear xp0 yp0 hpb hw9
    refine hK _ _ ?_
    clear hK K
    try simp only [PP]
    refine wpAny_done (by kernel_rfl) ?_ _
    go_wp2_with fail
    go_meet
    case rel => exact ⟨rfl, v1, f0, Qh (Ow.pre HK1 ⟨by simpa using HSN.out.2.1, HSN.out.1.kp.trans' HSN.out.2.2 (fun i hi e => by simpa using e), by simpa using zf, HAT.out⟩)⟩
  ·go_simp
   go_at_call 214
   refine (Bytes_set b n wd NX_0).mono ?_
   rintro e u9 ⟨rfl, hk9⟩
   have O_9 := O_0.kn hk9
   have NX_9 := NX_0.kn hk9
   clear hk9 O_0 NX_0
   dsimp only
   refine hK _ _ ?_
   clear hK K
   try simp only [PP]
   refine wpAny_ready (rs := [4, 8]) (by kernel_rfl) (by simp) (AllReady.cons (o := Oper.mk (some 27) _ _ _ _ _) rfl (fun K hK => ?_) (AllReady.cons (o := Oper.mk (some 31) _ _ _ _ _) rfl (fun K hK => ?_) AllReady.nil))
   ·have xq := cell_blk O_9.mach.blk 0
    simp only [List.getElem?_toArray, List.getElem?_cons_zero] at xq
    rw [HV.out] at xq
    go_simp
    rw [← HV.out]
    clear xq
    refine hK _ _ ?_
    clear hK K
    try simp only [PP]
    refine wpAny_ready (rs := [8]) (by kernel_rfl) (by simp) (AllReady.cons (o := Oper.mk (some 31) _ _ _ _ _) rfl (fun K hK => ?_) AllReady.nil)
    go_simp
    obtain ⟨u10, hw10⟩ : ∃ z, z = u9.alloc (.map #[] 0) := ⟨_, rfl⟩
    have hk10 : Kn u9 u10 := by rw [hw10]; exact (Kp.refl _ _).alloc _
    obtain ⟨f0, hf0⟩ : ∃ z, z = u9.heap.size := ⟨_, rfl⟩
    have SF_10 : SetN u10 f0 [] := by rw [hw10, hf0]; exact SetN.empty _
    have zf : wd.heap.size ≤ f0 := by rw [hf0]; exact O_9.kp.size
    have O_10 := O_9.kn hk10
    have NX_10 := NX_9.kn hk10
    rw [← hw10, ← hf0]
    clear hk10 hw10 hf0 O_9 NX_9
    refine hK _ _ ?_
    clear hK K
    try simp only [PP]
    refine TA 9 32 ?_
    refine wpAny_ready (rs := [10]) (by kernel_rfl) (by simp) (AllReady.cons (o := Oper.mk (some 33) _ _ _ _ _) rfl (fun K hK => ?_) AllReady.nil)
    go_simp
    obtain ⟨u11, hw11⟩ : ∃ z, z = u10.alloc (.cells #[.int .u64 b.a, .int .u64 b.b, .int .u64 b.c, .int .u64 b.d, .int .i64 r, .map (some f0)] TPos) := ⟨_, rfl⟩
    have hk11 : Kn u10 u11 := by rw [hw11]; exact (Kp.refl _ _).alloc _
    obtain ⟨ge, hge⟩ : ∃ z, z = u10.heap.size := ⟨_, rfl⟩
    have GE_11 : u11.heap[ge]? = some (.cells #[.int .u64 b.a, .int .u64 b.b, .int .u64 b.c, .int .u64 b.d, .int .i64 r, .map (some f0)] TPos) := by rw [hw11, hge]; exact blk_new _ _
    have O_11 := O_10.kn hk11
    have NX_11 := NX_10.kn hk11
    have SF_11 := SF_10.kn hk11
    rw [← hw11, ← hge]
    clear hk11 hw11 hge O_10 NX_10 SF_10
    refine hK _ _ ?_
    clear hK K
    try simp only [PP]
    refine wpAny_ready (rs := [11]) (by kernel_rfl) (by simp) (AllReady.cons (o := Oper.mk (some 34) _ _ _ _ _) rfl (fun K hK => ?_) AllReady.nil)
    refine step_append_k u11 (by rfl) _ _ 271 (by rfl) (pm + 1) TPos i0 (.agg #[.int .u64 0, .int .u64 0, .int .u64 0, .int .u64 0, .int .i64 0, .map none]) 6 48 Tryz.underlying271 HI.out.1 HI.out.2.1 HI.out.2.2.1 HI.out.2.2.2 (by rfl) (by decide) v (posC ps (fs ++ [])) (by rfl) O_11.mach.row ge 1 (by rfl) _ TPos (0, 0) GE_11 (by rfl) (by simp [Value.oneCell']) (by rw [posC_len O_11.mach.len]; simp only [maxLen]; omega) (by rw [posC_len O_11.mach.len]; omega) (by have := O_11.mach.lt; omega) ?_
    intro v1 u12 hown hka hat
    have hsn := MachAt.snoc O_11.mach (x := ⟨b, r, []⟩) hbok rfl SF_11 (fun e => by have := HMd.fs_lt (by simpa using e); omega) (by have := HMd.lt; omega) (fun e => by have := (HMd.own_lt e.symm).2; omega) hown hka hat
    have HSN := Qh (And.intro O_11 hsn)
    obtain ⟨av1, cv1, hv1, _⟩ := hown.row (k := 6) (fun C hC => by rcases List.mem_append.1 hC with h | h; exact posC_six _ _ C h; simp at h; rw [h]; rfl)
    obtain ⟨nl1, hv1⟩ : ∃ n, v1 = .slice av1 n cv1 := ⟨_, hv1⟩
    have HV1 := Qh hv1
    clear hv1
    have hpb := hka.blk O_11.mach.blk (fun e => by have := HMd.own_lt e.symm; omega)
    have HAT : Hid (v1.ownBlock = v.ownBlock ∨ ∃ g, v1.ownBlock = some g ∧ wd.heap.size ≤ g) := Qh (by rcases hat with e | e; exact .inl e; exact .inr ⟨_, e, O_11.kp.size⟩)
    clear hsn hown hka hat O_11 NX_11 SF_11 GE_11
    refine hK _ _ ?_
    clear hK K
    try simp only [PP]
    refine TA 12 35 ?_
    refine TA 13 36 ?_
    refine wpAny_ready (rs := [14]) (by kernel_rfl) (by simp) (AllReady.cons (o := Oper.mk none _ _ _ _ _) rfl (fun K hK => ?_) AllReady.nil)
    have xp0 := cell_blk hpb 0
    have yp0 := frozen_blk hpb 0
    simp only [List.getElem?_toArray, List.getElem?_cons_zero] at xp0
    rw [HV1.out]
    go_simp
    rw [← HV1.out]
    obtain ⟨w9, hw9⟩ : ∃ z, z = u12.setCell ⟨pm, 0, none⟩ v1 := ⟨_, rfl⟩
    rw [← hw9] at HSN ⊢
    clear xp0 yp0 hpb hw9
    refine hK _ _ ?_
    clear hK K
    try simp only [PP]
    refine wpAny_done (by kernel_rfl) ?_ _
    go_wp2_with fail
    go_meet
    case rel => exact ⟨rfl, v1, f0, Qh (Ow.pre HK1 ⟨by simpa using HSN.out.2.1, HSN.out.1.kp.trans' HSN.out.2.2 (fun i hi e => by simpa using e), by simpa using zf, HAT.out⟩)⟩
   ·go_simp
    obtain ⟨u13, hw13⟩ : ∃ z, z = u9.alloc (.map #[] 0) := ⟨_, rfl⟩
    have hk13 : Kn u9 u13 := by rw [hw13]; exact (Kp.refl _ _).alloc _
    obtain ⟨f0, hf0⟩ : ∃ z, z = u9.heap.size := ⟨_, rfl⟩
    have SF_13 : SetN u13 f0 [] := by rw [hw13, hf0]; exact SetN.empty _
    have zf : wd.heap.size ≤ f0 := by rw [hf0]; exact O_9.kp.size
    have O_13 := O_9.kn hk13
    have NX_13 := NX_9.kn hk13
    rw [← hw13, ← hf0]
    clear hk13 hw13 hf0 O_9 NX_9
    refine hK _ _ ?_
    clear hK K
    try simp only [PP]
    refine TA 9 32 ?_
    refine wpAny_ready (rs := [4, 10]) (by kernel_rfl) (by simp) (AllReady.cons (o := Oper.mk (some 27) _ _ _ _ _) rfl (fun K hK => ?_) (AllReady.cons (o := Oper.mk (some 33) _ _ _ _ _) rfl (fun K hK => ?_) AllReady.nil))
    ·have xq := cell_blk O_13.mach.blk 0
     simp only [List.getElem?_toArray, List.getElem?_cons_zero] at xq
     rw [HV.out] at xq
     go_simp
     rw [← HV.out]
     clear xq
     refine hK _ _ ?_
     clear hK K
     try simp only [PP]
     refine wpAny_ready (rs := [10]) (by kernel_rfl) (by simp) (AllReady.cons (o := Oper.mk (some 33) _ _ _ _ _) rfl (fun K hK => ?_) AllReady.nil)
     go_simp
     obtain ⟨u14, hw14⟩ : ∃ z, z = u13.alloc (.cells #[.int .u64 b.a, .int .u64 b.b, .int .u64 b.c, .int .u64 b.d, .int .i64 r, .map (some f0)] TPos) := ⟨_, rfl⟩
     have hk14 : Kn u13 u14 := by rw [hw14]; exact (Kp.refl _ _).alloc _
     obtain ⟨ge, hge⟩ : ∃ z, z = u13.heap.size := ⟨_, rfl⟩
     have GE_14 : u14.heap[ge]? = some (.cells #[.int .u64 b.a, .int .u64 b.b, .int .u64 b.c, .int .u64 b.d, .int .i64 r, .map (some f0)] TPos) := by rw [hw14, hge]; exact blk_new _ _
     have O_14 := O_13.kn hk14
     have NX_14 := NX_13.kn hk14
     have SF_14 := SF_13.kn hk14
     rw [← hw14, ← hge]
     clear hk14 hw14 hge O_13 NX_13 SF_13
     refine hK _ _ ?_
     clear hK K
     try simp only [PP]
     refine wpAny_ready (rs := [11]) (by kernel_rfl) (by simp) (AllReady.cons (o := Oper.mk (some 34) _ _ _ _ _) rfl (fun K hK => ?_) AllReady.nil)
     refine step_append_k u14 (by rfl) _ _ 271 (by rfl) (pm + 1) TPos i0 (.agg #[.int .u64 0, .int .u64 0, .int .u64 0, .int .u64 0, .int .i64 0, .map none]) 6 48 Tryz.underlying271 HI.out.1 HI.out.2.1 HI.out.2.2.1 HI.out.2.2.2 (by rfl) (by decide) v (posC ps (fs ++ [])) (by rfl) O_14.mach.row ge 1 (by rfl) _ TPos (0, 0) GE_14 (by rfl) (by simp [Value.oneCell']) (by rw [posC_len O_14.mach.len]; simp only [maxLen]; omega) (by rw [posC_len O_14.mach.len]; omega) (by have := O_14.mach.lt; omega) ?_
     intro v1 u15 hown hka hat
     have hsn := MachAt.snoc O_14.mach (x := ⟨b, r, []⟩) hbok rfl SF_14 (fun e => by have := HMd.fs_lt (by simpa using e); omega) (by have := HMd.lt; omega) (fun e => by have := (HMd.own_lt e.symm).2; omega) hown hka hat
     have HSN := Qh (And.intro O_14 hsn)
     obtain ⟨av1, cv1, hv1, _⟩ := hown.row (k := 6) (fun C hC => by rcases List.mem_append.1 hC with h | h; exact posC_six _ _ C h; simp at h; rw [h]; rfl)
     obtain ⟨nl1, hv1⟩ : ∃ n, v1 = .slice av1 n cv1 := ⟨_, hv1⟩
     have HV1 := Qh hv1
     clear hv1
     have hpb := hka.blk O_14.mach.blk (fun e => by have := HMd.own_lt e.symm; omega)
     have HAT : Hid (v1.ownBlock = v.ownBlock ∨ ∃ g, v1.ownBlock = some g ∧ wd.heap.size ≤ g) := Qh (by rcases hat with e | e; exact .inl e; exact .inr ⟨_, e, O_14.kp.size⟩)
     clear hsn hown hka hat O_14 NX_14 SF_14 GE_14
     refine hK _ _ ?_
     clear hK K
     try simp only [PP]
     refine TA 12 35 ?_
     refine TA 13 36 ?_
     refine wpAny_ready (rs := [14]) (by kernel_rfl) (by simp) (AllReady.cons (o := Oper.mk none _ _ _ _ _) rfl (fun K hK => ?_) AllReady.nil)
     have xp0 := cell_blk hpb 0
     have yp0 := frozen_blk hpb 0
     simp only [List.getElem?_toArray, List.getElem?_cons_zero] at xp0
     rw [HV1.out]
     go_simp
     rw [← HV1.out]
     obtain ⟨w9, hw9⟩ : ∃ z, z = u15.setCell ⟨pm, 0, none⟩ v1 := ⟨_, rfl⟩
     rw [← hw9] at HSN ⊢
     clear xp0 yp0 hpb hw9
     refine hK _ _ ?_
     clear hK K
     try simp only [PP]
     refine wpAny_done (by kernel_rfl) ?_ _
     go_wp2_with fail
     go_meet
     case rel => exact ⟨rfl, v1, f0, Qh (Ow.pre HK1 ⟨by simpa using HSN.out.2.1, HSN.out.1.kp.trans' HSN.out.2.2 (fun i hi e => by simpa using e), by simpa using zf, HAT.out⟩)⟩
    ·go_simp
     obtain ⟨u16, hw16⟩ : ∃ z, z = u13.alloc (.cells #[.int .u64 b.a, .int .u64 b.b, .int .u64 b.c, .int .u64 b.d, .int .i64 r, .map (some f0)] TPos) := ⟨_, rfl⟩
     have hk16 : Kn u13 u16 := by rw [hw16]; exact (Kp.refl _ _).alloc _
     obtain ⟨ge, hge⟩ : ∃ z, z = u13.heap.size := ⟨_, rfl⟩
     have GE_16 : u16.heap[ge]? = some (.cells #[.int .u64 b.a, .int .u64 b.b, .int .u64 b.c, .int .u64 b.d, .int .i64 r, .map (some f0)] TPos) := by rw [hw16, hge]; exact blk_new _ _
     have O_16 := O_13.kn hk16
     have NX_16 := NX_13.kn hk16
     have SF_16 := SF_13.kn hk16
     rw [← hw16, ← hge]
     clear hk16 hw16 hge O_13 NX_13 SF_13
     refine hK _ _ ?_
     clear hK K
     try simp only [PP]
     refine wpAny_ready (rs := [4]) (by kernel_rfl) (by simp) (AllReady.cons (o := Oper.mk (some 27) _ _ _ _ _) rfl (fun K hK => ?_) AllReady.nil)
     have xq := cell_blk O_16.mach.blk 0
     simp only [List.getElem?_toArray, List.getElem?_cons_zero] at xq
     rw [HV.out] at xq
     go_simp
     rw [← HV.out]
     clear xq
     refine hK _ _ ?_
     clear hK K
     try simp only [PP]
     refine wpAny_ready (rs := [11]) (by kernel_rfl) (by simp) (AllReady.cons (o := Oper.mk (some 34) _ _ _ _ _) rfl (fun K hK => ?_) AllReady.nil)
     refine step_append_k u16 (by rfl) _ _ 271 (by rfl) (pm + 1) TPos i0 (.agg #[.int .u64 0, .int .u64 0, .int .u64 0, .int .u64 0, .int .i64 0, .map none]) 6 48 Tryz.underlying271 HI.out.1 HI.out.2.1 HI.out.2.2.1 HI.out.2.2.2 (by rfl) (by decide) v (posC ps (fs ++ [])) (by rfl) O_16.mach.row ge 1 (by rfl) _ TPos (0, 0) GE_16 (by rfl) (by simp [Value.oneCell']) (by rw [posC_len O_16.mach.len]; simp only [maxLen]; omega) (by rw [posC_len O_16.mach.len]; omega) (by have := O_16.mach.lt; omega) ?_
     intro v1 u17 hown hka hat
     have hsn := MachAt.snoc O_16.mach (x := ⟨b, r, []⟩) hbok rfl SF_16 (fun e => by have := HMd.fs_lt (by simpa using e); omega) (by have := HMd.lt; omega) (fun e => by have := (HMd.own_lt e.symm).2; omega) hown hka hat
     have HSN := Qh (And.intro O_16 hsn)
     obtain ⟨av1, cv1, hv1, _⟩ := hown.row (k := 6) (fun C hC => by rcases List.mem_append.1 hC with h | h; exact posC_six _ _ C h; simp at h; rw [h]; rfl)
     obtain ⟨nl1, hv1⟩ : ∃ n, v1 = .slice av1 n cv1 := ⟨_, hv1⟩
     have HV1 := Qh hv1
     clear hv1
     have hpb := hka.blk O_16.mach.blk (fun e => by have := HMd.own_lt e.symm; omega)
     have HAT : Hid (v1.ownBlock = v.ownBlock ∨ ∃ g, v1.ownBlock = some g ∧ wd.heap.size ≤ g) := Qh (by rcases hat with e | e; exact .inl e; exact .inr ⟨_, e, O_16.kp.size⟩)
     clear hsn hown hka hat O_16 NX_16 SF_16 GE_16
     refine hK _ _ ?_
     clear hK K
     try simp only [PP]
     refine TA 12 35 ?_
     refine TA 13 36 ?_
     refine wpAny_ready (rs := [14]) (by kernel_rfl) (by simp) (AllReady.cons (o := Oper.mk none _ _ _ _ _) rfl (fun K hK => ?_) AllReady.nil)
     have xp0 := cell_blk hpb 0
     have yp0 := frozen_blk hpb 0
     simp only [List.getElem?_toArray, List.getElem?_cons_zero] at xp0
     rw [HV1.out]
     go_simp
     rw [← HV1.out]
     obtain ⟨w9, hw9⟩ : ∃ z, z = u17.setCell ⟨pm, 0, none⟩ v1 := ⟨_, rfl⟩
     rw [← hw9] at HSN ⊢
     clear xp0 yp0 hpb hw9
     refine hK _ _ ?_
     clear hK K
     try simp only [PP]
     refine wpAny_done (by kernel_rfl) ?_ _
     go_wp2_with fail
     go_meet
     case rel => exact ⟨rfl, v1, f0, Qh (Ow.pre HK1 ⟨by simpa using HSN.out.2.1, HSN.out.1.kp.trans' HSN.out.2.2 (fun i hi e => by simpa using e), by simpa using zf, HAT.out⟩)⟩
  ·go_simp
   obtain ⟨u18, hw18⟩ : ∃ z, z = wd.alloc (.map #[] 0) := ⟨_, rfl⟩
   have hk18 : Kn wd u18 := by rw [hw18]; exact (Kp.refl _ _).alloc _
   obtain ⟨f0, hf0⟩ : ∃ z, z = wd.heap.size := ⟨_, rfl⟩
   have SF_18 : SetN u18 f0 [] := by rw [hw18, hf0]; exact SetN.empty _
   have zf : wd.heap.size ≤ f0 := by rw [hf0]; exact O_0.kp.size
   have O_18 := O_0.kn hk18
   have NX_18 := NX_0.kn hk18
   rw [← hw18, ← hf0]
   clear hk18 hw18 hf0 O_0 NX_0
   refine hK _ _ ?_
   clear hK K
   try simp only [PP]
   refine wpAny_ready (rs := [4, 6]) (by kernel_rfl) (by simp) (AllReady.cons (o := Oper.mk (some 27) _ _ _ _ _) rfl (fun K hK => ?_) (AllReady.cons (o := Oper.mk (some 29) _ _ _ _ _) rfl (fun K hK => ?_) AllReady.nil))
   ·have xq := cell_blk O_18.mach.blk 0
    simp only [List.getElem?_toArray, List.getElem?_cons_zero] at xq
    rw [HV.out] at xq
    go_simp
    rw [← HV.out]
    clear xq
    refine hK _ _ ?_
    clear hK K
    try simp only [PP]
    refine wpAny_ready (rs := [6]) (by kernel_rfl) (by simp) (AllReady.cons (o := Oper.mk (some 29) _ _ _ _ _) rfl (fun K hK => ?_) AllReady.nil)
    go_simp
    go_at_call 214
    refine (Bytes_set b n u18 NX_18).mono ?_
    rintro e u19 ⟨rfl, hk19⟩
    have O_19 := O_18.kn hk19
    have NX_19 := NX_18.kn hk19
    have SF_19 := SF_18.kn hk19
    clear hk19 O_18 NX_18 SF_18
    dsimp only
    refine hK _ _ ?_
    clear hK K
    try simp only [PP]
    refine TA 9 32 ?_
    refine wpAny_ready (rs := [10]) (by kernel_rfl) (by simp) (AllReady.cons (o := Oper.mk (some 33) _ _ _ _ _) rfl (fun K hK => ?_) AllReady.nil)
    go_simp
    obtain ⟨u20, hw20⟩ : ∃ z, z = u19.alloc (.cells #[.int .u64 b.a, .int .u64 b.b, .int .u64 b.c, .int .u64 b.d, .int .i64 r, .map (some f0)] TPos) := ⟨_, rfl⟩
    have hk20 : Kn u19 u20 := by rw [hw20]; exact (Kp.refl _ _).alloc _
    obtain ⟨ge, hge⟩ : ∃ z, z = u19.heap.size := ⟨_, rfl⟩
    have GE_20 : u20.heap[ge]? = some (.cells #[.int .u64 b.a, .int .u64 b.b, .int .u64 b.c, .int .u64 b.d, .int .i64 r, .map (some f0)] TPos) := by rw [hw20, hge]; exact blk_new _ _
    have O_20 := O_19.kn hk20
    have NX_20 := NX_19.kn hk20
    have SF_20 := SF_19.kn hk20
    rw [← hw20, ← hge]
    clear hk20 hw20 hge O_19 NX_19 SF_19
    refine hK _ _ ?_
    clear hK K
    try simp only [PP]
    refine wpAny_ready (rs := [11]) (by kernel_rfl) (by simp) (AllReady.cons (o := Oper.mk (some 34) _ _ _ _ _) rfl (fun K hK => ?_) AllReady.nil)
    refine step_append_k u20 (by rfl) _ _ 271 (by rfl) (pm + 1) TPos i0 (.agg #[.int .u64 0, .int .u64 0, .int .u64 0, .int .u64 0, .int .i64 0, .map none]) 6 48 Tryz.underlying271 HI.out.1 HI.out.2.1 HI.out.2.2.1 HI.out.2.2.2 (by rfl) (by decide) v (posC ps (fs ++ [])) (by rfl) O_20.mach.row ge 1 (by rfl) _ TPos (0, 0) GE_20 (by rfl) (by simp [Value.oneCell']) (by rw [posC_len O_20.mach.len]; simp only [maxLen]; omega) (by rw [posC_len O_20.mach.len]; omega) (by have := O_20.mach.lt; omega) ?_
    intro v1 u21 hown hka hat
    have hsn := MachAt.snoc O_20.mach (x := ⟨b, r, []⟩) hbok rfl SF_20 (fun e => by have := HMd.fs_lt (by simpa using e); omega) (by have := HMd.lt; omega) (fun e => by have := (HMd.own_lt e.symm).2; omega) hown hka hat
    have HSN := Qh (And.intro O_20 hsn)
    obtain ⟨av1, cv1, hv1, _⟩ := hown.row (k := 6) (fun C hC => by rcases List.mem_append.1 hC with h | h; exact posC_six _ _ C h; simp at h; rw [h]; rfl)
    obtain ⟨nl1, hv1⟩ : ∃ n, v1 = .slice av1 n cv1 := ⟨_, hv1⟩
    have HV1 := Qh hv1
    clear hv1
    have hpb := hka.blk O_20.mach.blk (fun e => by have := HMd.own_lt e.symm; omega)
    have HAT : Hid (v1.ownBlock = v.ownBlock ∨ ∃ g, v1.ownBlock = some g ∧ wd.heap.size ≤ g) := Qh (by rcases hat with e | e; exact .inl e; exact .inr ⟨_, e, O_20.kp.size⟩)
    clear hsn hown hka hat O_20 NX_20 SF_20 GE_20
    refine hK _ _ ?_
    clear hK K
    try simp only [PP]
    refine TA 12 35 ?_
    refine TA 13 36 ?_
    refine wpAny_ready (rs := [14]) (by kernel_rfl) (by simp) (AllReady.cons (o := Oper.mk none _ _ _ _ _) rfl (fun K hK => ?_) AllReady.nil)
    have xp0 := cell_blk hpb 0
    have yp0 := frozen_blk hpb 0
    simp only [List.getElem?_toArray, List.getElem?_cons_zero] at xp0
    rw [HV1.out]
    go_simp
    rw [← HV1.out]
    obtain ⟨w9, hw9⟩ : ∃ z, z = u21.setCell ⟨pm, 0, none⟩ v1 := ⟨_, rfl⟩
    rw [← hw9] at HSN ⊢
    clear xp0 yp0 hpb hw9
    refine hK _ _ ?_
    clear hK K
    try simp only [PP]
    refine wpAny_done (by kernel_rfl) ?_ _
    go_wp2_with fail
    go_meet
    case rel => exact ⟨rfl, v1, f0, Qh (Ow.pre HK1 ⟨by simpa using HSN.out.2.1, HSN.out.1.kp.trans' HSN.out.2.2 (fun i hi e => by simpa using e), by simpa using zf, HAT.out⟩)⟩
   ·go_simp
    go_at_call 214
    refine (Bytes_set b n u18 NX_18).mono ?_
    rintro e u22 ⟨rfl, hk22⟩
    have O_22 := O_18.kn hk22
    have NX_22 := NX_18.kn hk22
    have SF_22 := SF_18.kn hk22
    clear hk22 O_18 NX_18 SF_18
    dsimp only
    refine hK _ _ ?_
    clear hK K
    try simp only [PP]
    refine TA 9 32 ?_
    refine wpAny_ready (rs := [4, 10]) (by kernel_rfl) (by simp) (AllReady.cons (o := Oper.mk (some 27) _ _ _ _ _) rfl (fun K hK => ?_) (AllReady.cons (o := Oper.mk (some 33) _ _ _ _ _) rfl (fun K hK => ?_) AllReady.nil))
    ·have xq := cell_blk O_22.mach.blk 0
     simp only [List.getElem?_toArray, List.getElem?_cons_zero] at xq
     rw [HV.out] at xq
     go_simp
     rw [← HV.out]
     clear xq
     refine hK _ _ ?_
     clear hK K
     try simp only [PP]
     refine wpAny_ready (rs := [10]) (by kernel_rfl) (by simp) (AllReady.cons (o := Oper.mk (some 33) _ _ _ _ _) rfl (fun K hK => ?_) AllReady.nil)
     go_simp
     obtain ⟨u23, hw23⟩ : ∃ z, z = u22.alloc (.cells #[.int .u64 b.a, .int .u64 b.b, .int .u64 b.c, .int .u64 b.d, .int .i64 r, .map (some f0)] TPos) := ⟨_, rfl⟩
     have hk23 : Kn u22 u23 := by rw [hw23]; exact (Kp.refl _ _).alloc _
     obtain ⟨ge, hge⟩ : ∃ z, z = u22.heap.size := ⟨_, rfl⟩
     have GE_23 : u23.heap[ge]? = some (.cells #[.int .u64 b.a, .int .u64 b.b, .int .u64 b.c, .int .u64 b.d, .int .i64 r, .map (some f0)] TPos) := by rw [hw23, hge]; exact blk_new _ _
     have O_23 := O_22.kn hk23
     have NX_23 := NX_22.kn hk23
     have SF_23 := SF_22.kn hk23
     rw [← hw23, ← hge]
     clear hk23 hw23 hge O_22 NX_22 SF_22
     refine hK _ _ ?_
     clear hK K
     try simp only [PP]
     refine wpAny_ready (rs := [11]) (by kernel_rfl) (by simp) (AllReady.cons (o := Oper.mk (some 34) _ _ _ _ _) rfl (fun K hK => ?_) AllReady.nil)
     refine step_append_k u23 (by rfl) _ _ 271 (by rfl) (pm + 1) TPos i0 (.agg #[.int .u64 0, .int .u64 0, .int .u64 0, .int .u64 0, .int .i64 0, .map none]) 6 48 Tryz.underlying271 HI.out.1 HI.out.2.1 HI.out.2.2.1 HI.out.2.2.2 (by rfl) (by decide) v (posC ps (fs ++ [])) (by rfl) O_23.mach.row ge 1 (by rfl) _ TPos (0, 0) GE_23 (by rfl) (by simp [Value.oneCell']) (by rw [posC_len O_23.mach.len]; simp only [maxLen]; omega) (by rw [posC_len O_23.mach.len]; omega) (by have := O_23.mach.lt; omega) ?_
     intro v1 u24 hown hka hat
     have hsn := MachAt.snoc O_23.mach (x := ⟨b, r, []⟩) hbok rfl SF_23 (fun e => by have := HMd.fs_lt (by simpa using e); omega) (by have := HMd.lt; omega) (fun e => by have := (HMd.own_lt e.symm).2; omega) hown hka hat
     have HSN := Qh (And.intro O_23 hsn)
     obtain ⟨av1, cv1, hv1, _⟩ := hown.row (k := 6) (fun C hC => by rcases List.mem_append.1 hC with h | h; exact posC_six _ _ C h; simp at h; rw [h]; rfl)
     obtain ⟨nl1, hv1⟩ : ∃ n, v1 = .slice av1 n cv1 := ⟨_, hv1⟩
     have HV1 := Qh hv1
     clear hv1
     have hpb := hka.blk O_23.mach.blk (fun e => by have := HMd.own_lt e.symm; omega)
     have HAT : Hid (v1.ownBlock = v.ownBlock ∨ ∃ g, v1.ownBlock = some g ∧ wd.heap.size ≤ g) := Qh (by rcases hat with e | e; exact .inl e; exact .inr ⟨_, e, O_23.kp.size⟩)
     clear hsn hown hka hat O_23 NX_23 SF_23 GE_23
     refine hK _ _ ?_
     clear hK K
     try simp only [PP]
     refine TA 12 35 ?_
     refine TA 13 36 ?_
     refine wpAny_ready (rs := [14]) (by kernel_rfl) (by simp) (AllReady.cons (o := Oper.mk none _ _ _ _ _) rfl (fun K hK => ?_) AllReady.nil)
     have xp0 := cell_blk hpb 0
     have yp0 := frozen_blk hpb 0
     simp only [List.getElem?_toArray, List.getElem?_cons_zero] at xp0
     rw [HV1.out]
     go_simp
     rw [← HV1.out]
     obtain ⟨w9, hw9⟩ : ∃ z, z = u24.setCell ⟨pm, 0, none⟩ v1 := ⟨_, rfl⟩
     rw [← hw9] at HSN ⊢
     clear xp0 yp0 hpb hw9
     refine hK _ _ ?_
     clear hK K
     try simp only [PP]
     refine wpAny_done (by kernel_rfl) ?_ _
     go_wp2_with fail
     go_meet
     case rel => exact ⟨rfl, v1, f0, Qh (Ow.pre HK1 ⟨by simpa using HSN.out.2.1, HSN.out.1.kp.trans' HSN.out.2.2 (fun i hi e => by simpa using e), by simpa using zf, HAT.out⟩)⟩
    ·go_simp
     obtain ⟨u25, hw25⟩ : ∃ z, z = u22.alloc (.cells #[.int .u64 b.a, .int .u64 b.b, .int .u64 b.c, .int .u64 b.d, .int .i64 r, .map (some f0)] TPos) := ⟨_, rfl⟩
     have hk25 : Kn u22 u25 := by rw [hw25]; exact (Kp.refl _ _).alloc _
     obtain ⟨ge, hge⟩ : ∃ z, z = u22.heap.size := ⟨_, rfl⟩
     have GE_25 : u25.heap[ge]? = some (.cells #[.int .u64 b.a, .int .u64 b.b, .int .u64 b.c, .int .u64 b.d, .int .i64 r, .map (some f0)] TPos) := by rw [hw25, hge]; exact blk_new _ _
     have O_25 := O_22.kn hk25
     have NX_25 := NX_22.kn hk25
     have SF_25 := SF_22.kn hk25
     rw [← hw25, ← hge]
     clear hk25 hw25 hge O_22 NX_22 SF_22
     refine hK _ _ ?_
     clear hK K
     try simp only [PP]
     refine wpAny_ready (rs := [4]) (by kernel_rfl) (by simp) (AllReady.cons (o := Oper.mk (some 27) _ _ _ _ _) rfl (fun K hK => ?_) AllReady.nil)
     have xq := cell_blk O_25.mach.blk 0
     simp only [List.getElem?_toArray, List.getElem?_cons_zero] at xq
     rw [HV.out] at xq
     go_simp
     rw [← HV.out]
     clear xq
     refine hK _ _ ?_
     clear hK K
     try simp only [PP]
     refine wpAny_ready (rs := [11]) (by kernel_rfl) (by simp) (AllReady.cons (o := Oper.mk (some 34) _ _ _ _ _) rfl (fun K hK => ?_) AllReady.nil)
     refine step_append_k u25 (by rfl) _ _ 271 (by rfl) (pm + 1) TPos i0 (.agg #[.int .u64 0, .int .u64 0, .int .u64 0, .int .u64 0, .int .i64 0, .map none]) 6 48 Tryz.underlying271 HI.out.1 HI.out.2.1 HI.out.2.2.1 HI.out.2.2.2 (by rfl) (by decide) v (posC ps (fs ++ [])) (by rfl) O_25.mach.row ge 1 (by rfl) _ TPos (0, 0) GE_25 (by rfl) (by simp [Value.oneCell']) (by rw [posC_len O_25.mach.len]; simp only [maxLen]; omega) (by rw [posC_len O_25.mach.len]; omega) (by have := O_25.mach.lt; omega) ?_
     intro v1 u26 hown hka hat
     have hsn := MachAt.snoc O_25.mach (x := ⟨b, r, []⟩) hbok rfl SF_25 (fun e => by have := HMd.fs_lt (by simpa using e); omega) (by have := HMd.lt; omega) (fun e => by have := (HMd.own_lt e.symm).2; omega) hown hka hat
     have HSN := Qh (And.intro O_25 hsn)
     obtain ⟨av1, cv1, hv1, _⟩ := hown.row (k := 6) (fun C hC => by rcases List.mem_append.1 hC with h | h; exact posC_six _ _ C h; simp at h; rw [h]; rfl)
     obtain ⟨nl1, hv1⟩ : ∃ n, v1 = .slice av1 n cv1 := ⟨_, hv1⟩
     have HV1 := Qh hv1
     clear hv1
     have hpb := hka.blk O_25.mach.blk (fun e => by have := HMd.own_lt e.symm; omega)
     have HAT : Hid (v1.ownBlock = v.ownBlock ∨ ∃ g, v1.ownBlock = some g ∧ wd.heap.size ≤ g) := Qh (by rcases hat with e | e; exact .inl e; exact .inr ⟨_, e, O_25.kp.size⟩)
     clear hsn hown hka hat O_25 NX_25 SF_25 GE_25
     refine hK _ _ ?_
     clear hK K
     try simp only [PP]
     refine TA 12 35 ?_
     refine TA 13 36 ?_
     refine wpAny_ready (rs := [14]) (by kernel_rfl) (by simp) (AllReady.cons (o := Oper.mk none _ _ _ _ _) rfl (fun K hK => ?_) AllReady.nil)
     have xp0 := cell_blk hpb 0
     have yp0 := frozen_blk hpb 0
     simp only [List.getElem?_toArray, List.getElem?_cons_zero] at xp0
     rw [HV1.out]
     go_simp
     rw [← HV1.out]
     obtain ⟨w9, hw9⟩ : ∃ z, z = u26.setCell ⟨pm, 0, none⟩ v1 := ⟨_, rfl⟩
     rw [← hw9] at HSN ⊢
     clear xp0 yp0 hpb hw9
     refine hK _ _ ?_
     clear hK K
     try simp only [PP]
     refine wpAny_done (by kernel_rfl) ?_ _
     go_wp2_with fail
     go_meet
     case rel => exact ⟨rfl, v1, f0, Qh (Ow.pre HK1 ⟨by simpa using HSN.out.2.1, HSN.out.1.kp.trans' HSN.out.2.2 (fun i hi e => by simpa using e), by simpa using zf, HAT.out⟩)⟩
 case rest =>
  obtain ⟨rfl, v1, f0, hO⟩ := hcut
  have hBc := hO.out.blk HM1.out hB1 (by decide) (by decide)
  have hbc := blk_lt hBc
  have hnl2 : ps.length < 1000000 := by omega
  obtain ⟨w2, hr2, hs2, hk2⟩ := (SetN.empty wc).put (by simp) ps.length hnl2
  obtain ⟨w3, hr3, hs3, hk3⟩ := (SetN.empty w2).put (by simp) ps.length hnl2
  have HBC := Qh hBc
  have hz2 : wc.heap.size < w2.heap.size := by have := hk2.size; simp at this; omega
  clear hBc hv xp hB1
  have hka : Kn wc (wc.alloc (.map #[] 0)) := (Kp.refl _ wc).alloc _
  have hkb : Kn w2 (w2.alloc (.map #[] 0)) := (Kp.refl _ w2).alloc _
  have hk02 : Kn wc w2 := hka.trans' hk2 (fun i hi e => by omega)
  have hk23 : Kn w2 w3 := hkb.trans' hk3 (fun i hi e => by omega)
  have hk03 := hk02.trans hk23
  have hB3 := hk03.blk HBC.out (fun x => x)
  have hz3 : w2.heap.size < w3.heap.size := by have := hk3.size; simp at this; omega
  have hO3 := hO.out.kn hk03
  have hF3 := Fr.made hO.out (hs2.kn hk23) (Nat.le_refl _) hO.out.mach
  have hL3 := Fr.made (hO.out.kn hk02) hs3 (Nat.le_refl _) (hO.out.kn hk02).mach
  have O3 := Qh (And.intro (hO3.pre hK1) (And.intro (hF3.pre hK1) (hL3.pre hK1)))
  clear hO3 hF3 hL3 hs2 hk2 hs3 hk3 hka hkb hk02 hk23 hk03
  have xB0 := cell_blk hB3 0; have xB1 := cell_blk hB3 1; have xB2 := cell_blk hB3 2
  have yB0 := frozen_blk hB3 0; have yB1 := frozen_blk hB3 1; have yB2 := frozen_blk hB3 2
  simp only [PE] at xB0 xB1 xB2
  go_wp2_with fail
  refine bodyPost_ret (v := knV wc.heap.size w2.heap.size false) (res3 (b := w.heap.size) (T := TKno) (fr := (0, 0)) Tryz.results182 (by rfl) ?_) rfl ?_
  ·exact blk_set (blk_set (blk_set hB3 0 _) 1 _) 2 _
  have hT : K1 w.heap.size w3 (((w3.setCell ⟨w.heap.size, 0, none⟩ (.map (some wc.heap.size))).setCell ⟨w.heap.size, 1, none⟩ (.map (some w2.heap.size))).setCell ⟨w.heap.size, 2, none⟩ (.bool false)) := ((Kp.set1 _ _).trans (Kp.set1 _ _)).trans (Kp.set1 _ _)
  obtain ⟨r1, r2, r3⟩ := O3.out
  exact ⟨_, _, v1, [f0], rfl, r1.k1 hT (Nat.le_refl _) (r1.mach.other hB3 (by decide) (by decide)), r2.k1 hT hB3, r3.k1 hT hB3⟩
theorem add_c : ∀ t : Rw, AddC t
 | .set b => add_set b
 | .empty => add_empty
 | .cat x y => add_cat x y (add_c x) (add_c y)
 | .or x y => add_or x y (add_c x) (add_c y)
 | .star x => add_star x (add_c x)
end Go.Proofs.YtopmadkajacniaaGreatDoor
