/-
  Texts of this claim, laid together: NAdd, NCount, NNew, NAcc, DAcc, DText. Conditions: none.
-/
import Derived.Test.YtiehgcfckhepaaaGreatDoorQAC
import Derived.Deep.DeepCutAuto
import Derived.Test.YtiehgcfckhepaaaGreatDoorQAB
import Derived.Test.YtiehgcfckhepaaaGreatDoorQAA
import Derived.Laws.IdiomStrings
set_option linter.unusedVariables false
set_option linter.unusedSimpArgs false
set_option maxRecDepth 100000
set_option maxHeartbeats 16000000
namespace Go.Proofs.YtiehgcfckhepaaaGreatDoor
open Go.RowKit Go.Maps
theorem info_pos:(Tryz.prog.info? TPos).map (fun i=>(i.zero,i.size,i.bytes))=some (some (.agg #[.int .u64 0,.int .u64 0,.int .u64 0,.int .u64 0,.int .i64 0,.map none]),6,48):=by kernel_rfl
theorem Bytes_set(b:W4)(n:Nat)(w:World)(h:NodeAt w (.set b) n):Calls Tryz.prog 260 #[ptr n] w fun e w'=>e= .returned (w4V b)∧Kn w w':=Bytes_c (.set b) n w h
theorem Kp.back{S:Nat→Prop}{w W W':World}{B:Nat}(h:Kp S w W)(hk:K1 B W W')(hB:w.heap.size≤B):Kp S w W':=h.trans' hk (fun i hi e=>by omega)
theorem add_empty:AddC .empty:=by
 intro r ps fs v vr pm n w hM hN hG hc hr;have HM:=Qh hM;have HN:=Qh hN;have HG:=Qh hG;have hkB:Kn w (w.alloc QE):=(Qb _ w).alloc _;have hbB:=Qf w QE;have hPc:=Qh (Parts_c _ n _ (hN.kn hkB));clear hM hN hG;go_enter Tryz.func216,Tryz.ntmps216;go_wp2_with fail
 refine hPc.out.mono ?_;rintro e w1 ⟨v7,qs,rfl,hP,hk1,hfr⟩;have hK1:Kn w w1:=hkB.trans hk1;have hB1:=hk1.blk hbB (fun x=>x);have hN1:=Qh (HN.out.kn hK1);have HO:=Qh ((Ow.refl HM.out).kn hK1);have hBl:=Qj hB1;have HFR:Hid (∀k,v7.ownBlock=some k→w.heap.size<k):=Qh (fun k e=>by have:=hfr k e;simp at this;omega);clear hbB hkB hk1 hPc hfr;go_wp2_with fail
 refine(Kind_c _ n w1 hN1.out).mono ?_;rintro e w' ⟨rfl,rfl⟩;simp only[Re.kind];have hmm:= @run_makeMap Tryz.prog;have xB0:=Qa hB1 0;have xB1:=Qa hB1 1;have xB2:=Qa hB1 2;have yB0:=Qd hB1 0;have yB1:=Qd hB1 1;have yB2:=Qd hB1 2;simp only[PE] at xB0 xB1 xB2;go_wp2_with fail
 refine bodyPost_ret (v:=knV w1.heap.size (w1.heap.size+1) true) (res3 (b:=w.heap.size) (T:=YE) (fr:=(0,0)) Tryz.results216 (by rfl) ?_) rfl ?_
 ·exact Qm (Qm (Qk (Qk (Qk hB1 0 _) 1 _) 2 _) _) _
 obtain⟨T,hTe⟩:∃T,T=((w1.setCell ⟨w.heap.size,0,none⟩ (.map (some w1.heap.size))).setCell ⟨w.heap.size,1,none⟩ (.map (some (w1.heap.size+1)))).setCell ⟨w.heap.size,2,none⟩ (.bool true):=⟨_,rfl⟩;have hT:K1 w.heap.size w1 T:=by rw[hTe];exact((Qg _ _).trans (Qg _ _)).trans (Qg _ _)
 have hTz:T.heap.size=w1.heap.size:=by rw[hTe];simp[World.setCell]
 rw[←hTe];have hW:Kn T ((T.alloc (.map #[] 0)).alloc (.map #[] 0)):=((Qb _ T).alloc _).alloc _;have hO:=(HO.out.k1 hT (Nat.le_refl _) (by simpa using HO.out.mach.other hB1 (by decide) (by decide)));have s1:=SetN.empty T;rw[hTz] at s1;have s2:=SetN.empty (T.alloc (.map #[] 0));rw[size_alloc',hTz] at s2;exact⟨_,_,v,[],rfl,hO.kn hW,Fr.made hO (s1.kn ((Qb _ _).alloc _)) (by omega) hO.mach,Fr.made hO s2 (by omega) hO.mach⟩
theorem add_star(x:Rw)(ih:AddC x):AddC (.star x):=by
 intro r ps fs v vr pm n w hM hN hG hc hr;have HM:=Qh hM;have IH:=Qh ih;have hF1:Hid ((Qo r (.star x) ps).1=nlink (Qo r x ps).1 (Qo r x ps).2.last (Qo r x ps).2.first):=Qh rfl;have hF2:Hid ((Qo r (.star x) ps).2=⟨(Qo r x ps).2.first,(Qo r x ps).2.last,true⟩):=Qh rfl;clear ih;have HN:=Qh hN;have HG:=Qh hG;have hkB:Kn w (w.alloc QE):=(Qb _ w).alloc _;have hbB:=Qf w QE;have hPc:=Qh (Parts_c _ n _ (hN.kn hkB));clear hM hN hG;go_enter Tryz.func216,Tryz.ntmps216;go_wp2_with fail
 refine hPc.out.mono ?_;rintro e w1 ⟨v7,qs,rfl,hP,hk1,hfr⟩;have hK1:Kn w w1:=hkB.trans hk1;have hB1:=hk1.blk hbB (fun x=>x);have hN1:=Qh (HN.out.kn hK1);have HO:=Qh ((Ow.refl HM.out).kn hK1);have hBl:=Qj hB1;have HFR:Hid (∀k,v7.ownBlock=some k→w.heap.size<k):=Qh (fun k e=>by have:=hfr k e;simp at this;omega);clear hbB hkB hk1 hPc hfr;go_wp2_with fail
 refine(Kind_c _ n w1 hN1.out).mono ?_;rintro e w' ⟨rfl,rfl⟩;simp only[Re.kind];obtain⟨a,c,rfl,hpt,hrow⟩:=hP;cases hrow with
 |cons hx hr2=>
 cases hr2;rename_i i;obtain⟨g7,rfl,hc7⟩:=hpt 0 (by simp);simp only[List.getElem_cons_zero] at hc7;have hGd:=Qh (QU r x ps HG.out);have hM1:=HM.out.kn hK1;have hadd:=Qh (IH.out r ps fs v vr pm i w1 hM1 hx HG.out (by simpa[Qr] using hc) hr);have HM1:=Qh hM1;clear hpt hM1 hx;go_wp2_with fail
 refine hadd.out.mono ?_;rintro e w2 ⟨f,l,v1,fs2,rfl,hO2,hFf,hFl⟩;obtain⟨k1,k2,k3⟩:=hGd.out;have hOw:=Qh (hO2.pre hK1);have hB2:=hO2.blk HM1.out hB1 (by decide) (by decide);have hz2:w.heap.size<w2.heap.size:=Qj hB2;have hk3:Kn w2 (w2.alloc (knB f l (Qo r x ps).2.empty)):=(Qb _ w2).alloc _;have hM3:=hO2.mach.kn hk3;have hlk:=Qh (link_c pm l f v1 vr (Qo r x ps).1 (fs++fs2) (Qo r x ps).2.last (Qo r x ps).2.first (w2.alloc (knB f l (Qo r x ps).2.empty)) hM3 (by simp only[Qr] at hc;omega) k2 k3.l k3.f (hFl.set.kn hk3) (hFf.set.kn hk3) (hFl.apart HM1.out) (hFf.apart HM1.out));have HX:=Qh (And.intro (hFf.pre hK1) (And.intro (hFl.pre hK1) hM3));clear hFf hFl hO2 hM3 k1 k2 k3 hc7;go_wp2_with fail
 refine hlk.out.mono ?_;rintro e w4 ⟨rfl,hM4,hk4⟩;obtain⟨hFf,hFl,hM3⟩:=HX.out;have hB4:=hk4.blk (hk3.blk hB2 (fun x=>x)) (fun e=>hM3.other (hk3.blk hB2 (fun x=>x)) (by decide) (by decide) (.inr (.inr e)));have hC4:=hk4.blk (Qf w2 (knB f l (Qo r x ps).2.empty)) (fun e=>hM3.other (Qf w2 (knB f l (Qo r x ps).2.empty)) (by decide) (by decide) (.inr (.inr e)));have hO4:=(hOw.out.kn hk3).linked hM4 hk4;have hF4:=(hFf.kn hk3).linked HM.out hk4;have hL4:=(hFl.kn hk3).linked HM.out hk4;have hz4:w2.heap.size<w4.heap.size:=Qj hC4;have HX4:=Qh (And.intro hO4 (And.intro hF4 hL4));clear hFf hFl hM3 hOw hlk hM4 hO4 hF4 hL4 HX;have xB0:=Qa hB4 0;have xB1:=Qa hB4 1;have xB2:=Qa hB4 2;have yB0:=Qd hB4 0;have yB1:=Qd hB4 1;have yB2:=Qd hB4 2;simp only[PE] at xB0 xB1 xB2;have xC0:=Qa hC4 0;have xC1:=Qa hC4 1;have xC2:=Qa hC4 2;simp only[PE] at xC0 xC1 xC2;go_wp2_with fail
 refine bodyPost_ret (v:=knV f l true) (res3 (b:=w.heap.size) (T:=YE) (fr:=(0,0)) Tryz.results216 (by rfl) ?_) rfl ?_
 ·exact Qk (Qk (Qk hB4 0 _) 1 _) 2 _
 have hT:K1 w.heap.size w4 (((w4.setCell ⟨w.heap.size,0,none⟩ (.map (some f))).setCell ⟨w.heap.size,1,none⟩ (.map (some l))).setCell ⟨w.heap.size,2,none⟩ (.bool true)):=((Qg _ _).trans (Qg _ _)).trans (Qg _ _);obtain⟨hO4,hF4,hL4⟩:=HX4.out;refine⟨f,l,v1,fs2,by rw[hF2.out],?_,?_,?_⟩
 ·rw[hF1.out];exact hO4.k1 hT (Nat.le_refl _) (hO4.mach.other hB4 (by decide) (by decide))
 ·rw[hF2.out];exact hF4.k1 hT hB4
 ·rw[hF2.out];exact hL4.k1 hT hB4
theorem add_cat(x y:Rw)(ihx:AddC x)(ihy:AddC y):AddC (.cat x y):=by
 intro r ps fs v vr pm n w hM hN hG hc hr;have HM:=Qh hM;have IHX:=Qh ihx;have IHY:=Qh ihy;clear ihx ihy;have HN:=Qh hN;have HG:=Qh hG;have hkB:Kn w (w.alloc QE):=(Qb _ w).alloc _;have hbB:=Qf w QE;have hPc:=Qh (Parts_c _ n _ (hN.kn hkB));clear hM hN hG;go_enter Tryz.func216,Tryz.ntmps216;go_wp2_with fail
 refine hPc.out.mono ?_;rintro e w1 ⟨v7,qs,rfl,hP,hk1,hfr⟩;have hK1:Kn w w1:=hkB.trans hk1;have hB1:=hk1.blk hbB (fun x=>x);have hN1:=Qh (HN.out.kn hK1);have HO:=Qh ((Ow.refl HM.out).kn hK1);have hBl:=Qj hB1;have HFR:Hid (∀k,v7.ownBlock=some k→w.heap.size<k):=Qh (fun k e=>by have:=hfr k e;simp at this;omega);clear hbB hkB hk1 hPc hfr;go_wp2_with fail
 refine(Kind_c _ n w1 hN1.out).mono ?_;rintro e w' ⟨rfl,rfl⟩;simp only[Re.kind];obtain⟨a,c,rfl,hpt,hrow⟩:=hP;cases hrow with
 |cons hx hr2=>
 cases hr2 with
 |cons hy hr3=>
 cases hr3;rename_i i j;obtain⟨g7,rfl,hc0⟩:=hpt 0 (by simp);obtain⟨g7',hg7,hc1⟩:=hpt 1 (by simp);injection hg7 with hg7;injection hg7 with hg7;subst hg7;simp only[List.getElem_cons_zero,List.getElem_cons_succ] at hc0 hc1;have hg7:=HFR.out g7 rfl;have hg7l:g7<w1.heap.size:=World.block_lt_of_cell? w1 _ hc0;have hS7:Hid (¬MS pm v fs g7):=Qh (fun e=>by have:=(HM.out.ms_lt e).2;omega);have hGx:=Qh (QU r x ps HG.out);have hGy:=Qh (QU r y (Qo r x ps).1 hGx.out.2.1);have hM1:=HM.out.kn hK1;have hnx:ps.length+Qr x≤2000:=by simp only[Qr] at hc;omega
 have hny:(Qo r x ps).1.length+Qr y≤2000:=by have:=hGx.out.1;simp only[Qr] at hc;omega
 have HM1:=Qh hM1;have HX:=Qh hx;have HY:=Qh hy;clear hpt hM1 hx hy;go_upto_region 8 with fail
 have HK1:Kn w1 w1.drew:=(Qb _ _).drew;refine wp_region_held_drew (S:=fun w'=>w'.cell? ⟨g7,0,none⟩=some (ptr i)∧w'.cell? ⟨g7,1,none⟩=some (ptr j)) (by kernel_rfl) ⟨Qc HK1 hc0,Qc HK1 hc1⟩ (fun hHeld=> ?_);refine TW 0 46 ?_;refine TW 1 47 ?_;refine TW 2 48 ?_;refine TW 3 49 ?_;refine TW 4 50 ?_;refine TH 5 51 ?_;refine TW 7 53 ?_;refine TW 8 54 ?_;refine TW 9 55 ?_;refine TW 10 56 ?_;refine TH 11 57 ?_;refine RH 6 (fun K hK=> ?_);go_simp
 go_at_call 216
 refine(IHX.out r ps fs v vr pm i w1.drew (HM1.out.kn HK1) (HX.out.kn HK1) HG.out hnx hr).mono ?_;rintro e w2 ⟨f1,l1,v1,fs2,rfl,hO2,hFf1,hFl1⟩;have hk2:=hO2.kp;have hc0':=Qi hk2 (Qc HK1 hc0) hS7.out;have hc1':=Qi hk2 (Qc HK1 hc1) hS7.out;have hM2:=hO2.mach;have hy2:=hO2.nodes (HM1.out.kn HK1) (HY.out.kn HK1);have hS2:Hid (¬MS pm v1 (fs++fs2) g7):=Qh (hO2.ms hg7l hS7.out);have O2:=Qh (And.intro hO2 (And.intro hFf1 hFl1));clear hO2 hFf1 hFl1 hk2;dsimp only;refine hK.out _ _ ⟨hc0',hc1'⟩ (fun hHeld=> ?_);clear hK K
 try simp only[PP]
 refine RH 12 (fun K hK=> ?_);go_simp
 go_at_call 216
 refine(IHY.out r (Qo r x ps).1 (fs++fs2) v1 vr pm j w2 hM2 hy2 hGx.out.2.1 hny hr).mono ?_;rintro e w3 ⟨f2,l2,v2,fs3,rfl,hO3,hFf2,hFl2⟩;have hk3:=hO3.kp;have hd0:=Qi hk3 hc0' hS2.out;have hd1:=Qi hk3 hc1' hS2.out;have hO13:=O2.out.1.trans hO3;have hF1:=O2.out.2.1.ow (HM1.out.kn HK1) O2.out.1 hO3;have hL1:=O2.out.2.2.ow (HM1.out.kn HK1) O2.out.1 hO3;have hF2:=Fr.after O2.out.1 hO3 hFf2;have hL2:=Fr.after O2.out.1 hO3 hFl2;have hS3:Hid (¬MS pm v2 (fs++(fs2++fs3)) g7):=Qh (hO13.ms hg7l hS7.out);have hM3:=hO13.mach;have O3:=Qh (And.intro hO13 (And.intro hF1 (And.intro hL1 (And.intro hF2 hL2))));clear hO13 hO3 hF1 hL1 hF2 hL2 hFf2 hFl2 hk3 hM2 hy2;dsimp only;refine hK.out _ _ ⟨hd0,hd1⟩ (fun hHeld=> ?_);clear hK K
 try simp only[PP]
 refine RH 13 (fun K hK=> ?_);go_simp
 go_at_call 261
 refine(cat_c pm f1 l1 f2 l2 (Qo r x ps).2 (Qo r y (Qo r x ps).1).2 v2 vr (Qo r y (Qo r x ps).1).1 (fs++(fs2++fs3)) w3 hM3 (by have:=hGy.out.1;omega) hGy.out.2.1 (hGx.out.2.2.mono (by have:=hGy.out.1;omega)) hGy.out.2.2
  O3.out.2.1.set O3.out.2.2.1.set O3.out.2.2.2.1.set O3.out.2.2.2.2.set ⟨O3.out.2.1.apart (HM1.out.kn HK1),O3.out.2.2.1.apart (HM1.out.kn HK1),O3.out.2.2.2.1.apart (HM1.out.kn HK1),O3.out.2.2.2.2.apart (HM1.out.kn HK1)⟩).mono ?_
 rintro e w4⟨f,l,rfl,hM4,hs4,hl4,hf,hl,hk4⟩;have he0:=Qi hk4 hd0 (fun e=>hS3.out (.inr (.inr e)));have he1:=Qi hk4 hd1 (fun e=>hS3.out (.inr (.inr e)));have hO4:=O3.out.1.linked hM4 hk4;have hF4:Fr w1.drew w4 v2 (fs2++fs3) f (Yw (Qo r x ps).2 (Qo r y (Qo r x ps).1).2).first:=by
  rcases hf with rfl|hf
  ·exact⟨hs4,O3.out.2.1.ge,O3.out.2.1.off,O3.out.2.1.row⟩
  ·exact Fr.made O3.out.1 hs4 hf hM3
 have hL4:Fr w1.drew w4 v2 (fs2++fs3) l (Yw (Qo r x ps).2 (Qo r y (Qo r x ps).1).2).last:=by
  rcases hl with rfl|hl
  ·exact⟨hl4,O3.out.2.2.2.2.ge,O3.out.2.2.2.2.off,O3.out.2.2.2.2.row⟩
  ·exact Fr.made O3.out.1 hl4 hl hM3
 have hB4:=hO4.blk (HM1.out.kn HK1) (HK1.blk hB1 (fun x=>x)) (by decide) (by decide);have hz4:w.heap.size<w4.heap.size:=Qj hB4;have O4:=Qh (And.intro (hO4.pre (hK1.trans HK1)) (And.intro (hF4.pre (hK1.trans HK1)) (hL4.pre (hK1.trans HK1))));clear hO4 hF4 hL4 hs4 hl4 hM4 hf hl hM3 O3 hk4;dsimp only;refine hK.out _ _ ⟨he0,he1⟩ (fun hHeld=> ?_);clear hK K
 try simp only[PP]
 refine RH 14 (fun K hK=> ?_);have xB0:=Qa hB4 0;have xB1:=Qa hB4 1;have xB2:=Qa hB4 2;have yB0:=Qd hB4 0;have yB1:=Qd hB4 1;have yB2:=Qd hB4 2;simp only[PE] at xB0 xB1 xB2;have hT0:K1 w.heap.size w4 (((w4.setCell ⟨w.heap.size,0,none⟩ (.map (some f))).setCell ⟨w.heap.size,1,none⟩ (.map (some l))).setCell ⟨w.heap.size,2,none⟩ (.bool (Yw (Qo r x ps).2 (Qo r y (Qo r x ps).1).2).empty)):=((Qg _ _).trans (Qg _ _)).trans (Qg _ _);have hf0:=Qi hT0 he0 (show¬g7=w.heap.size by omega);have hf1:=Qi hT0 he1 (show¬g7=w.heap.size by omega);clear hT0;go_simp;refine hK.out _ _ ⟨hf0,hf1⟩ (fun hHeld=> ?_);clear hK K
 try simp only[PP]
 refine RD ?_;go_wp2_with fail
 refine bodyPost_ret (v:=knV f l (Yw (Qo r x ps).2 (Qo r y (Qo r x ps).1).2).empty) (res3 (b:=w.heap.size) (T:=YE) (fr:=(0,0)) Tryz.results216 (by rfl) ?_) rfl ?_
 ·exact Qk (Qk (Qk hB4 0 _) 1 _) 2 _
 have hT:K1 w.heap.size w4 (((w4.setCell ⟨w.heap.size,0,none⟩ (.map (some f))).setCell ⟨w.heap.size,1,none⟩ (.map (some l))).setCell ⟨w.heap.size,2,none⟩ (.bool (Yw (Qo r x ps).2 (Qo r y (Qo r x ps).1).2).empty)):=((Qg _ _).trans (Qg _ _)).trans (Qg _ _);obtain⟨q1,q2,q3⟩:=O4.out;exact⟨f,l,v2,fs2++fs3,rfl,q1.k1 hT (Nat.le_refl _) (q1.mach.other hB4 (by decide) (by decide)),q2.k1 hT hB4,q3.k1 hT hB4⟩
theorem add_or(x y:Rw)(ihx:AddC x)(ihy:AddC y):AddC (.or x y):=by
 intro r ps fs v vr pm n w hM hN hG hc hr;have HM:=Qh hM;have IHX:=Qh ihx;have IHY:=Qh ihy;clear ihx ihy;have HN:=Qh hN;have HG:=Qh hG;have hkB:Kn w (w.alloc QE):=(Qb _ w).alloc _;have hbB:=Qf w QE;have hPc:=Qh (Parts_c _ n _ (hN.kn hkB));clear hM hN hG;go_enter Tryz.func216,Tryz.ntmps216;go_wp2_with fail
 refine hPc.out.mono ?_;rintro e w1 ⟨v7,qs,rfl,hP,hk1,hfr⟩;have hK1:Kn w w1:=hkB.trans hk1;have hB1:=hk1.blk hbB (fun x=>x);have hN1:=Qh (HN.out.kn hK1);have HO:=Qh ((Ow.refl HM.out).kn hK1);have hBl:=Qj hB1;have HFR:Hid (∀k,v7.ownBlock=some k→w.heap.size<k):=Qh (fun k e=>by have:=hfr k e;simp at this;omega);clear hbB hkB hk1 hPc hfr;go_wp2_with fail
 refine(Kind_c _ n w1 hN1.out).mono ?_;rintro e w' ⟨rfl,rfl⟩;simp only[Re.kind];obtain⟨a,c,rfl,hpt,hrow⟩:=hP;cases hrow with
 |cons hx hr2=>
 cases hr2 with
 |cons hy hr3=>
 cases hr3;rename_i i j;obtain⟨g7,rfl,hc0⟩:=hpt 0 (by simp);obtain⟨g7',hg7,hc1⟩:=hpt 1 (by simp);injection hg7 with hg7;injection hg7 with hg7;subst hg7;simp only[List.getElem_cons_zero,List.getElem_cons_succ] at hc0 hc1;have hg7:=HFR.out g7 rfl;have hg7l:g7<w1.heap.size:=World.block_lt_of_cell? w1 _ hc0;have hS7:Hid (¬MS pm v fs g7):=Qh (fun e=>by have:=(HM.out.ms_lt e).2;omega);have hGx:=Qh (QU r x ps HG.out);have hGy:=Qh (QU r y (Qo r x ps).1 hGx.out.2.1);have hM1:=HM.out.kn hK1;have hnx:ps.length+Qr x≤2000:=by simp only[Qr] at hc;omega
 have hny:(Qo r x ps).1.length+Qr y≤2000:=by have:=hGx.out.1;simp only[Qr] at hc;omega
 have HM1:=Qh hM1;have HX:=Qh hx;have HY:=Qh hy;clear hpt hM1 hx hy;go_upto_region 10 with fail
 go_cut [9,10] (fun s9 s10 wc=>∃(g9 g10 f1 l1 f2 l2:Nat) (v2:Value) (fs4:List Nat),s9=ptr g9∧s10=ptr g10∧Hid (OrIn w1 wc pm v vr fs (Qo r y (Qo r x ps).1).1 (Qo r x ps).2 (Qo r y (Qo r x ps).1).2 g9 g10 f1 l1 f2 l2 v2 fs4))
 case first=>
  have HK1:Kn w1 w1.drew:=(Qb _ _).drew;refine rgn (fun w'=>w'.cell? ⟨g7,0,none⟩=some (ptr i)∧w'.cell? ⟨g7,1,none⟩=some (ptr j)) (X:=[]) ⟨Qc HK1 hc0,Qc HK1 hc1⟩ (fun hX hHeld=> ?_);obtain⟨wd,hwd⟩:∃z,z=w1.drew:=⟨_,rfl⟩;rw[←hwd] at HK1 hHeld⊢;have HMd:=HM1.out.kn HK1;have O:=Ow.refl HMd;have C0:=Qc HK1 hc0;have C1:=Qc HK1 hc1;have NX:=HX.out.kn HK1;have NY:=HY.out.kn HK1;have hg7d:g7<wd.heap.size:=by rw[hwd];exact hg7l
  clear hc0 hc1 hwd;obtain⟨u,hu⟩:∃z,z=wd:=⟨_,rfl⟩;rw(occs:= .pos [2]) [←hu] at O;rw[←hu] at hHeld C0 C1 NX NY⊢;clear hu;refine tw 0 62 ?_;refine tw 1 63 ?_;refine tw 2 64 ?_;refine tw 3 65 ?_;refine tk 4 66 ?_;refine tw 6 68 ?_;refine tw 7 69 ?_;refine tw 8 70 ?_;refine tw 9 71 ?_;refine tk 10 72 ?_
  repeat' (first
   |((with_reducible show RG _ _ _ _ _ _ (Array.setIfInBounds _ 10 true) _ _);refine ro3 5 12 13 (fun K hK=> ?_) (fun K hK=> ?_) (fun K hK=> ?_))
   |((with_reducible show RG _ _ _ _ _ _ (Array.setIfInBounds (Array.setIfInBounds _ 10 true) 13 true) _ _);refine ro2 5 12 (fun K hK=> ?_) (fun K hK=> ?_))
   |((with_reducible show RG _ _ _ _ _ _ (Array.setIfInBounds (Array.setIfInBounds (Array.setIfInBounds _ 10 true) 13 true) 12 true) _ _);refine ro 5 (fun K hK=> ?_))
   |((with_reducible show RG _ _ _ _ _ _ (Array.setIfInBounds (Array.setIfInBounds (Array.setIfInBounds _ 13 true) 12 true) 5 true) _ _);refine ro 11 (fun K hK=> ?_))
   |((with_reducible show RG _ _ _ _ _ _ (Array.setIfInBounds (Array.setIfInBounds (Array.setIfInBounds (Array.setIfInBounds _ 13 true) 12 true) 5 true) 11 true) _ _);refine ro 14 (fun K hK=> ?_))
   |((with_reducible show RG _ _ _ _ _ _ (Array.setIfInBounds _ 14 true) _ _);refine re 15 (fun K hK=> ?_))
   |((with_reducible show RG _ _ _ _ _ _ (Array.setIfInBounds (Array.setIfInBounds (Array.setIfInBounds _ 10 true) 13 true) 5 true) _ _);refine ro2 11 12 (fun K hK=> ?_) (fun K hK=> ?_))
   |((with_reducible show RG _ _ _ _ _ _ (Array.setIfInBounds (Array.setIfInBounds (Array.setIfInBounds _ 13 true) 5 true) 12 true) _ _);refine ro 11 (fun K hK=> ?_))
   |((with_reducible show RG _ _ _ _ _ _ (Array.setIfInBounds (Array.setIfInBounds (Array.setIfInBounds (Array.setIfInBounds _ 13 true) 5 true) 12 true) 11 true) _ _);refine ro 14 (fun K hK=> ?_))
   |((with_reducible show RG _ _ _ _ _ _ (Array.setIfInBounds (Array.setIfInBounds (Array.setIfInBounds (Array.setIfInBounds _ 10 true) 13 true) 5 true) 11 true) _ _);refine ro 12 (fun K hK=> ?_))
   |((with_reducible show RG _ _ _ _ _ _ (Array.setIfInBounds (Array.setIfInBounds (Array.setIfInBounds (Array.setIfInBounds _ 13 true) 5 true) 11 true) 12 true) _ _);refine ro 14 (fun K hK=> ?_))
   |((with_reducible show RG _ _ _ _ _ _ (Array.setIfInBounds (Array.setIfInBounds _ 10 true) 12 true) _ _);refine ro2 5 13 (fun K hK=> ?_) (fun K hK=> ?_))
   |((with_reducible show RG _ _ _ _ _ _ (Array.setIfInBounds (Array.setIfInBounds (Array.setIfInBounds _ 10 true) 12 true) 13 true) _ _);refine ro 5 (fun K hK=> ?_))
   |((with_reducible show RG _ _ _ _ _ _ (Array.setIfInBounds (Array.setIfInBounds (Array.setIfInBounds _ 12 true) 13 true) 5 true) _ _);refine ro 11 (fun K hK=> ?_))
   |((with_reducible show RG _ _ _ _ _ _ (Array.setIfInBounds (Array.setIfInBounds (Array.setIfInBounds (Array.setIfInBounds _ 12 true) 13 true) 5 true) 11 true) _ _);refine ro 14 (fun K hK=> ?_))
   |((with_reducible show RG _ _ _ _ _ _ (Array.setIfInBounds (Array.setIfInBounds (Array.setIfInBounds _ 10 true) 12 true) 5 true) _ _);refine ro2 11 13 (fun K hK=> ?_) (fun K hK=> ?_))
   |((with_reducible show RG _ _ _ _ _ _ (Array.setIfInBounds (Array.setIfInBounds (Array.setIfInBounds _ 12 true) 5 true) 13 true) _ _);refine ro 11 (fun K hK=> ?_))
   |((with_reducible show RG _ _ _ _ _ _ (Array.setIfInBounds (Array.setIfInBounds (Array.setIfInBounds (Array.setIfInBounds _ 12 true) 5 true) 13 true) 11 true) _ _);refine ro 14 (fun K hK=> ?_))
   |((with_reducible show RG _ _ _ _ _ _ (Array.setIfInBounds (Array.setIfInBounds (Array.setIfInBounds (Array.setIfInBounds _ 10 true) 12 true) 5 true) 11 true) _ _);refine ro 13 (fun K hK=> ?_))
   |((with_reducible show RG _ _ _ _ _ _ (Array.setIfInBounds (Array.setIfInBounds (Array.setIfInBounds (Array.setIfInBounds _ 12 true) 5 true) 11 true) 13 true) _ _);refine ro 14 (fun K hK=> ?_))
   |((with_reducible show RG _ _ _ _ _ _ (Array.setIfInBounds (Array.setIfInBounds _ 10 true) 5 true) _ _);refine ro3 11 12 13 (fun K hK=> ?_) (fun K hK=> ?_) (fun K hK=> ?_))
   |((with_reducible show RG _ _ _ _ _ _ (Array.setIfInBounds (Array.setIfInBounds (Array.setIfInBounds _ 10 true) 5 true) 13 true) _ _);refine ro2 11 12 (fun K hK=> ?_) (fun K hK=> ?_))
   |((with_reducible show RG _ _ _ _ _ _ (Array.setIfInBounds (Array.setIfInBounds (Array.setIfInBounds _ 5 true) 13 true) 12 true) _ _);refine ro 11 (fun K hK=> ?_))
   |((with_reducible show RG _ _ _ _ _ _ (Array.setIfInBounds (Array.setIfInBounds (Array.setIfInBounds _ 13 true) 12 true) 11 true) _ _);refine ro 14 (fun K hK=> ?_))
   |((with_reducible show RG _ _ _ _ _ _ (Array.setIfInBounds (Array.setIfInBounds (Array.setIfInBounds (Array.setIfInBounds _ 10 true) 5 true) 13 true) 11 true) _ _);refine ro 12 (fun K hK=> ?_))
   |((with_reducible show RG _ _ _ _ _ _ (Array.setIfInBounds (Array.setIfInBounds (Array.setIfInBounds _ 13 true) 11 true) 12 true) _ _);refine ro 14 (fun K hK=> ?_))
   |((with_reducible show RG _ _ _ _ _ _ (Array.setIfInBounds (Array.setIfInBounds (Array.setIfInBounds _ 10 true) 5 true) 12 true) _ _);refine ro2 11 13 (fun K hK=> ?_) (fun K hK=> ?_))
   |((with_reducible show RG _ _ _ _ _ _ (Array.setIfInBounds (Array.setIfInBounds (Array.setIfInBounds _ 5 true) 12 true) 13 true) _ _);refine ro 11 (fun K hK=> ?_))
   |((with_reducible show RG _ _ _ _ _ _ (Array.setIfInBounds (Array.setIfInBounds (Array.setIfInBounds _ 12 true) 13 true) 11 true) _ _);refine ro 14 (fun K hK=> ?_))
   |((with_reducible show RG _ _ _ _ _ _ (Array.setIfInBounds (Array.setIfInBounds (Array.setIfInBounds (Array.setIfInBounds _ 10 true) 5 true) 12 true) 11 true) _ _);refine ro 13 (fun K hK=> ?_))
   |((with_reducible show RG _ _ _ _ _ _ (Array.setIfInBounds (Array.setIfInBounds (Array.setIfInBounds _ 12 true) 11 true) 13 true) _ _);refine ro 14 (fun K hK=> ?_))
   |((with_reducible show RG _ _ _ _ _ _ (Array.setIfInBounds (Array.setIfInBounds (Array.setIfInBounds _ 10 true) 5 true) 11 true) _ _);refine ro2 12 13 (fun K hK=> ?_) (fun K hK=> ?_))
   |((with_reducible show RG _ _ _ _ _ _ (Array.setIfInBounds (Array.setIfInBounds (Array.setIfInBounds (Array.setIfInBounds _ 10 true) 5 true) 11 true) 13 true) _ _);refine ro 12 (fun K hK=> ?_))
   |((with_reducible show RG _ _ _ _ _ _ (Array.setIfInBounds (Array.setIfInBounds (Array.setIfInBounds _ 11 true) 13 true) 12 true) _ _);refine ro 14 (fun K hK=> ?_))
   |((with_reducible show RG _ _ _ _ _ _ (Array.setIfInBounds (Array.setIfInBounds (Array.setIfInBounds (Array.setIfInBounds _ 10 true) 5 true) 11 true) 12 true) _ _);refine ro 13 (fun K hK=> ?_))
   |((with_reducible show RG _ _ _ _ _ _ (Array.setIfInBounds (Array.setIfInBounds (Array.setIfInBounds _ 11 true) 12 true) 13 true) _ _);refine ro 14 (fun K hK=> ?_))
   |(with_reducible show if Region.wanted (Oper.mk (some 67) _ _ _ _ _) _=true then _ else _
     go_simp
     go_at_call 216
     refine(IHX.out r ps (fs++[]) v vr pm i _ O.mach NX HG.out hnx hr).mono ?_;rintro e u ⟨f1,l1,v1,fs2,rfl,hA,hB,hC⟩
     (try replace G9:=hA.blk O.mach G9 (by decide) (by decide))
     (try replace G10:=hA.blk O.mach G10 (by decide) (by decide))
     replace C0:=Qi hA.kp C0 (O.ms hg7d hS7.out)
     replace C1:=Qi hA.kp C1 (O.ms hg7d hS7.out)
     replace NY:=hA.nodes O.mach NY
     have F1:=Fr.after O hA hB;have L1:=Fr.after O hA hC
     replace O:=O.trans hA
     clear hA hB hC NX;dsimp only;refine hK.out _ _ (⟨C0,C1⟩) (fun hHeld=> ?_);clear hK K
     try simp only[PP])
   |(with_reducible show if Region.wanted (Oper.mk (some 73) _ _ _ _ _) _=true then _ else _
     go_simp
     go_at_call 216
     refine(IHY.out r (Qo r x ps).1 (fs++([]++fs2)) v1 vr pm j _ O.mach NY hGx.out.2.1 hny hr).mono ?_;rintro e u ⟨f2,l2,v2,fs3,rfl,hA,hB,hC⟩
     (try replace G9:=hA.blk O.mach G9 (by decide) (by decide))
     (try replace G10:=hA.blk O.mach G10 (by decide) (by decide))
     replace C0:=Qi hA.kp C0 (O.ms hg7d hS7.out)
     replace C1:=Qi hA.kp C1 (O.ms hg7d hS7.out)
     replace F1:=F1.ow HMd O hA
     replace L1:=L1.ow HMd O hA
     have F2:=Fr.after O hA hB;have L2:=Fr.after O hA hC
     replace O:=O.trans hA
     clear hA hB hC NY;dsimp only;refine hK.out _ _ (⟨C0,C1⟩) (fun hHeld=> ?_);clear hK K
     try simp only[PP])
   |(with_reducible show if Region.wanted (Oper.mk (some 9) _ _ _ _ _) _=true then _ else _
     go_simp;have hk0:=fun(z:World) (e:z=u.alloc QE)=>(show Kn u z by rw[e];exact(Qb _ _).alloc _)
     obtain⟨g9,hg⟩:∃z,z=u.heap.size:=⟨_,rfl⟩;have z9:wd.heap.size≤g9:=by rw[hg];exact O.kp.size
     (try have hne:¬g9=g10:=by have:=Qj G10;omega)
     have hn0:=Qf u QE;rw[←hg] at hn0⊢;obtain⟨u,hw⟩:∃z,z=u.alloc QE:=⟨_,rfl⟩;have hk:=hk0 _ hw;have G9:u.heap[g9]? =some QE:=by rw[hw];exact hn0
     rw[←hw];clear hk0 hw hn0 hg
     (try replace G10:=hk.blk G10 (fun x=>x))
     replace C0:=Qc hk C0
     replace C1:=Qc hk C1
     (try replace NX:=NX.kn hk)
     (try replace NY:=NY.kn hk)
     (try replace F1:=F1.kn hk)
     (try replace L1:=L1.kn hk)
     (try replace F2:=F2.kn hk)
     (try replace L2:=L2.kn hk)
     replace O:=O.kn hk
     clear hk;refine hK.out _ _ (⟨C0,C1⟩) (fun hHeld=> ?_);clear hK K
     try simp only[PP])
   |(with_reducible show if Region.wanted (Oper.mk (some 10) _ _ _ _ _) _=true then _ else _
     go_simp;have hk0:=fun(z:World) (e:z=u.alloc QE)=>(show Kn u z by rw[e];exact(Qb _ _).alloc _)
     obtain⟨g10,hg⟩:∃z,z=u.heap.size:=⟨_,rfl⟩;have z10:wd.heap.size≤g10:=by rw[hg];exact O.kp.size
     (try have hne:¬g9=g10:=by have:=Qj G9;omega)
     have hn0:=Qf u QE;rw[←hg] at hn0⊢;obtain⟨u,hw⟩:∃z,z=u.alloc QE:=⟨_,rfl⟩;have hk:=hk0 _ hw;have G10:u.heap[g10]? =some QE:=by rw[hw];exact hn0
     rw[←hw];clear hk0 hw hn0 hg
     (try replace G9:=hk.blk G9 (fun x=>x))
     replace C0:=Qc hk C0
     replace C1:=Qc hk C1
     (try replace NX:=NX.kn hk)
     (try replace NY:=NY.kn hk)
     (try replace F1:=F1.kn hk)
     (try replace L1:=L1.kn hk)
     (try replace F2:=F2.kn hk)
     (try replace L2:=L2.kn hk)
     replace O:=O.kn hk
     clear hk;refine hK.out _ _ (⟨C0,C1⟩) (fun hHeld=> ?_);clear hK K
     try simp only[PP])
   |(with_reducible show if Region.wanted (Oper.mk none (Op.store _ (Operand.tmp 9) _) _ _ _ _) _=true then _ else _
     have x90:=Qa G9 0;have x91:=Qa G9 1;have x92:=Qa G9 2;have y90:=Qd G9 0;have y91:=Qd G9 1;have y92:=Qd G9 2;simp only[PE] at x90 x91 x92;go_simp;clear x90 x91 x92 y90 y91 y92;have hk0:=fun(z:World) (e:z=((u.setCell ⟨g9,0,none⟩ (.map (some f1))).setCell ⟨g9,1,none⟩ (.map (some l1))).setCell ⟨g9,2,none⟩ (.bool (Qo r x ps).2.empty))=>(show K1 g9 u z by rw[e];exact K1.tower _ _ _ _)
     have hn0:=blk_tower G9 f1 l1 ((Qo r x ps).2.empty);obtain⟨u,hw⟩:∃z,z=((u.setCell ⟨g9,0,none⟩ (.map (some f1))).setCell ⟨g9,1,none⟩ (.map (some l1))).setCell ⟨g9,2,none⟩ (.bool (Qo r x ps).2.empty):=⟨_,rfl⟩;have hk:=hk0 _ hw;rw[←hw] at hn0⊢;clear hk0 hw
     (try replace G10:=hk.blk G10 (by omega))
     replace C0:=Qi hk C0 (show¬g7=g9 by omega)
     replace C1:=Qi hk C1 (show¬g7=g9 by omega)
     (try replace NX:=NX.mono61 (Kn61.k1 hk G9 (by decide) (by decide)))
     (try replace NY:=NY.mono61 (Kn61.k1 hk G9 (by decide) (by decide)))
     (try replace F1:=F1.k1 hk G9)
     (try replace L1:=L1.k1 hk G9)
     (try replace F2:=F2.k1 hk G9)
     (try replace L2:=L2.k1 hk G9)
     replace O:=O.k1 hk z9 (O.mach.other G9 (by decide) (by decide))
     replace G9:u.heap[g9]? =some (knB f1 l1 (Qo r x ps).2.empty):=hn0
     clear hk hn0;refine hK.out _ _ (⟨C0,C1⟩) (fun hHeld=> ?_);clear hK K
     try simp only[PP])
   |(with_reducible show if Region.wanted (Oper.mk none (Op.store _ (Operand.tmp 10) _) _ _ _ _) _=true then _ else _
     have x90:=Qa G10 0;have x91:=Qa G10 1;have x92:=Qa G10 2;have y90:=Qd G10 0;have y91:=Qd G10 1;have y92:=Qd G10 2;simp only[PE] at x90 x91 x92;go_simp;clear x90 x91 x92 y90 y91 y92;have hk0:=fun(z:World) (e:z=((u.setCell ⟨g10,0,none⟩ (.map (some f2))).setCell ⟨g10,1,none⟩ (.map (some l2))).setCell ⟨g10,2,none⟩ (.bool (Qo r y (Qo r x ps).1).2.empty))=>(show K1 g10 u z by rw[e];exact K1.tower _ _ _ _)
     have hn0:=blk_tower G10 f2 l2 ((Qo r y (Qo r x ps).1).2.empty);obtain⟨u,hw⟩:∃z,z=((u.setCell ⟨g10,0,none⟩ (.map (some f2))).setCell ⟨g10,1,none⟩ (.map (some l2))).setCell ⟨g10,2,none⟩ (.bool (Qo r y (Qo r x ps).1).2.empty):=⟨_,rfl⟩;have hk:=hk0 _ hw;rw[←hw] at hn0⊢;clear hk0 hw
     (try replace G9:=hk.blk G9 (by omega))
     replace C0:=Qi hk C0 (show¬g7=g10 by omega)
     replace C1:=Qi hk C1 (show¬g7=g10 by omega)
     (try replace NX:=NX.mono61 (Kn61.k1 hk G10 (by decide) (by decide)))
     (try replace NY:=NY.mono61 (Kn61.k1 hk G10 (by decide) (by decide)))
     (try replace F1:=F1.k1 hk G10)
     (try replace L1:=L1.k1 hk G10)
     (try replace F2:=F2.k1 hk G10)
     (try replace L2:=L2.k1 hk G10)
     replace O:=O.k1 hk z10 (O.mach.other G10 (by decide) (by decide))
     replace G10:u.heap[g10]? =some (knB f2 l2 (Qo r y (Qo r x ps).1).2.empty):=hn0
     clear hk hn0;refine hK.out _ _ ?_;clear hK K))
  all_goals (go_wp2_with fail)
  all_goals go_meet
  all_goals exact⟨g9,g10,f1,l1,f2,l2,v2,_,rfl,rfl,Qh ⟨O.pre HK1,F1.pre HK1,L1.pre HK1,F2.pre HK1,L2.pre HK1,G9,G10,Nat.le_trans HK1.size z9,Nat.le_trans HK1.size z10⟩⟩
 case rest=>
  obtain⟨g9,g10,f1,l1,f2,l2,v2,fs4,rfl,rfl,OI⟩:=hcut;have hgx:=hGx.out.2.2.mono (m:=(Qo r y (Qo r x ps).1).1.length) (by have:=hGy.out.1;omega);have hl2k:(Qo r y (Qo r x ps).1).1.length≤2000:=by have:=hGy.out.1;omega
  have c9:=OI.out.h9;have c10:=OI.out.h10;have HB9:Hid (w1.heap.size≤g9):=Qh OI.out.ge9;have HB10:Hid (w1.heap.size≤g10):=Qh OI.out.ge10;clear hc0 hc1;cases hea:(Qo r x ps).2.empty
  ·have hE:Hid ((Qo r (.or x y) ps).2.empty=(Qo r y (Qo r x ps).1).2.empty):=Qh (by simp[Qo,hea]);rw[hea] at c9;clear hea;have x90:=Qa c9 0;have x91:=Qa c9 1;have x92:=Qa c9 2;simp only[PE] at x90 x91 x92;have x100:=Qa c10 0;have x101:=Qa c10 1;have x102:=Qa c10 2;simp only[PE] at x100 x101 x102;clear c9 c10;go_wp2_with fail
   refine wp_region_held_drew (S:=fun w'=>w'.cell? ⟨g9,0,none⟩=some (.map (some f1))∧w'.cell? ⟨g9,1,none⟩=some (.map (some l1))∧w'.cell? ⟨g9,2,none⟩=some (.bool false)∧w'.cell? ⟨g10,0,none⟩=some (.map (some f2))∧w'.cell? ⟨g10,1,none⟩=some (.map (some l2))∧w'.cell? ⟨g10,2,none⟩=some (.bool (Qo r y (Qo r x ps).1).2.empty)) (by kernel_rfl) (have h:=(Qb (fun _=>False) wc).drew;⟨Qc h x90,Qc h x91,Qc h x92,Qc h x100,Qc h x101,Qc h x102⟩) (fun hHeld=> ?_);obtain⟨wd,hwd⟩:∃z,z=wc.drew:=⟨_,rfl⟩;have HKd:Kn wc wd:=by rw[hwd];exact(Qb _ _).drew
   rw[←hwd] at hHeld⊢;obtain⟨d90,d91,d92,d100,d101,d102⟩:=id hHeld;clear hwd x90 x91 x92 x100 x101 x102;refine TW 0 74 ?_;refine TH 1 75 ?_;refine TW 2 76 ?_;refine TH 3 77 ?_;refine TW 5 79 ?_;refine TH 6 80 ?_;refine TW 7 81 ?_;refine TH 8 82 ?_;refine TW 10 84 ?_;refine TH 11 85 ?_;refine RH 4 (fun K hK=> ?_);go_simp
   go_at_call 262
   refine(with_c f1 f2 _ _ wd (OI.out.a1.set.kn HKd) (OI.out.b1.set.kn HKd) (Qu hgx.f hl2k) (Qu hGy.out.2.2.f hl2k)).mono ?_;rintro e w3 ⟨q1,rfl,hq1,hs1,hk3⟩;have HK3:=HKd.trans hk3;have hFq1:=Fr.made (OI.out.ow.kn HKd) hs1 hq1 (OI.out.ow.kn HKd).mach;clear hs1 hq1;dsimp only;refine hK.out _ _ ⟨Qc hk3 d90,Qc hk3 d91,Qc hk3 d92,Qc hk3 d100,Qc hk3 d101,Qc hk3 d102⟩ (fun hHeld=> ?_);clear hK K
   try simp only[PP]
   refine RH 9 (fun K hK=> ?_);go_simp
   go_at_call 262
   refine(with_c l1 l2 _ _ w3 (OI.out.a2.set.kn HK3) (OI.out.b2.set.kn HK3) (Qu hgx.l hl2k) (Qu hGy.out.2.2.l hl2k)).mono ?_;rintro e w4 ⟨q2,rfl,hq2,hs2,hk4⟩;have HK4:=HK3.trans hk4;have hFq2:=Fr.made (OI.out.ow.kn HK3) hs2 hq2 (OI.out.ow.kn HK3).mach;have O4:=Qh (And.intro ((OI.out.ow.kn HK4).pre hK1) (And.intro ((hFq1.kn hk4).pre hK1) (hFq2.pre hK1)));have hB4:=HK4.blk (OI.out.ow.blk HM1.out hB1 (by decide) (by decide)) (fun x=>x);have hz4:w.heap.size<w4.heap.size:=Qj hB4;clear hs2 hq2 hFq1 hFq2;dsimp only;refine hK.out _ _ ⟨Qc (hk3.trans hk4) d90,Qc (hk3.trans hk4) d91,Qc (hk3.trans hk4) d92,Qc (hk3.trans hk4) d100,Qc (hk3.trans hk4) d101,Qc (hk3.trans hk4) d102⟩ (fun hHeld=> ?_);clear hK K
   try simp only[PP]
   refine TW 12 86 ?_;refine TW 13 87 ?_;refine TH 14 88 ?_;refine TW 15 89 ?_;refine TW 16 90 ?_;refine RH 17 (fun K hK=> ?_);have xB0:=Qa hB4 0;have xB1:=Qa hB4 1;have xB2:=Qa hB4 2;have yB0:=Qd hB4 0;have yB1:=Qd hB4 1;have yB2:=Qd hB4 2;simp only[PE] at xB0 xB1 xB2;have hT0:K1 w.heap.size w4 (((w4.setCell ⟨w.heap.size,0,none⟩ (.map (some q1))).setCell ⟨w.heap.size,1,none⟩ (.map (some q2))).setCell ⟨w.heap.size,2,none⟩ (.bool (Qo r y (Qo r x ps).1).2.empty)):=K1.tower _ _ _ _;have n9:¬g9=w.heap.size:=fun e=>by have h1:=HB9.out;rw[e] at h1;omega
   have n10:¬g10=w.heap.size:=fun e=>by have h1:=HB10.out;rw[e] at h1;omega
   have e90:=Qi hT0 (Qc (hk3.trans hk4) d90) n9;have e91:=Qi hT0 (Qc (hk3.trans hk4) d91) n9;have e92:=Qi hT0 (Qc (hk3.trans hk4) d92) n9;have e100:=Qi hT0 (Qc (hk3.trans hk4) d100) n10;have e101:=Qi hT0 (Qc (hk3.trans hk4) d101) n10;have e102:=Qi hT0 (Qc (hk3.trans hk4) d102) n10;clear hT0 n9 n10;go_simp;refine hK.out _ _ ⟨e90,e91,e92,e100,e101,e102⟩ (fun hHeld=> ?_);clear hK K
   try simp only[PP]
   refine RD ?_;go_wp2_with fail
   refine bodyPost_ret (v:=knV q1 q2 (Qo r y (Qo r x ps).1).2.empty) (res3 (b:=w.heap.size) (T:=YE) (fr:=(0,0)) Tryz.results216 (by rfl) ?_) rfl ?_
   ·exact Qk (Qk (Qk hB4 0 _) 1 _) 2 _
   have hT:K1 w.heap.size w4 (((w4.setCell ⟨w.heap.size,0,none⟩ (.map (some q1))).setCell ⟨w.heap.size,1,none⟩ (.map (some q2))).setCell ⟨w.heap.size,2,none⟩ (.bool (Qo r y (Qo r x ps).1).2.empty)):=((Qg _ _).trans (Qg _ _)).trans (Qg _ _);obtain⟨r1,r2,r3⟩:=O4.out;refine⟨q1,q2,v2,fs4,by rw[hE.out],r1.k1 hT (Nat.le_refl _) (r1.mach.other hB4 (by decide) (by decide)),r2.k1 hT hB4,r3.k1 hT hB4⟩
  ·have hE:Hid ((Qo r (.or x y) ps).2.empty=true):=Qh (by simp[Qo,hea]);rw[hea] at c9;clear hea;have x90:=Qa c9 0;have x91:=Qa c9 1;have x92:=Qa c9 2;simp only[PE] at x90 x91 x92;have x100:=Qa c10 0;have x101:=Qa c10 1;have x102:=Qa c10 2;simp only[PE] at x100 x101 x102;clear c9 c10;go_wp2_with fail
   refine wp_region_held_drew (S:=fun w'=>w'.cell? ⟨g9,0,none⟩=some (.map (some f1))∧w'.cell? ⟨g9,1,none⟩=some (.map (some l1))∧w'.cell? ⟨g9,2,none⟩=some (.bool true)∧w'.cell? ⟨g10,0,none⟩=some (.map (some f2))∧w'.cell? ⟨g10,1,none⟩=some (.map (some l2))∧w'.cell? ⟨g10,2,none⟩=some (.bool (Qo r y (Qo r x ps).1).2.empty)) (by kernel_rfl) (have h:=(Qb (fun _=>False) wc).drew;⟨Qc h x90,Qc h x91,Qc h x92,Qc h x100,Qc h x101,Qc h x102⟩) (fun hHeld=> ?_);obtain⟨wd,hwd⟩:∃z,z=wc.drew:=⟨_,rfl⟩;have HKd:Kn wc wd:=by rw[hwd];exact(Qb _ _).drew
   rw[←hwd] at hHeld⊢;obtain⟨d90,d91,d92,d100,d101,d102⟩:=id hHeld;clear hwd x90 x91 x92 x100 x101 x102;refine TW 0 74 ?_;refine TH 1 75 ?_;refine TW 2 76 ?_;refine TH 3 77 ?_;refine TW 5 79 ?_;refine TH 6 80 ?_;refine TW 7 81 ?_;refine TH 8 82 ?_;refine TW 10 84 ?_;refine TH 11 85 ?_;refine RH 4 (fun K hK=> ?_);go_simp
   go_at_call 262
   refine(with_c f1 f2 _ _ wd (OI.out.a1.set.kn HKd) (OI.out.b1.set.kn HKd) (Qu hgx.f hl2k) (Qu hGy.out.2.2.f hl2k)).mono ?_;rintro e w3 ⟨q1,rfl,hq1,hs1,hk3⟩;have HK3:=HKd.trans hk3;have hFq1:=Fr.made (OI.out.ow.kn HKd) hs1 hq1 (OI.out.ow.kn HKd).mach;clear hs1 hq1;dsimp only;refine hK.out _ _ ⟨Qc hk3 d90,Qc hk3 d91,Qc hk3 d92,Qc hk3 d100,Qc hk3 d101,Qc hk3 d102⟩ (fun hHeld=> ?_);clear hK K
   try simp only[PP]
   refine RH 9 (fun K hK=> ?_);go_simp
   go_at_call 262
   refine(with_c l1 l2 _ _ w3 (OI.out.a2.set.kn HK3) (OI.out.b2.set.kn HK3) (Qu hgx.l hl2k) (Qu hGy.out.2.2.l hl2k)).mono ?_;rintro e w4 ⟨q2,rfl,hq2,hs2,hk4⟩;have HK4:=HK3.trans hk4;have hFq2:=Fr.made (OI.out.ow.kn HK3) hs2 hq2 (OI.out.ow.kn HK3).mach;have O4:=Qh (And.intro ((OI.out.ow.kn HK4).pre hK1) (And.intro ((hFq1.kn hk4).pre hK1) (hFq2.pre hK1)));have hB4:=HK4.blk (OI.out.ow.blk HM1.out hB1 (by decide) (by decide)) (fun x=>x);have hz4:w.heap.size<w4.heap.size:=Qj hB4;clear hs2 hq2 hFq1 hFq2;dsimp only;refine hK.out _ _ ⟨Qc (hk3.trans hk4) d90,Qc (hk3.trans hk4) d91,Qc (hk3.trans hk4) d92,Qc (hk3.trans hk4) d100,Qc (hk3.trans hk4) d101,Qc (hk3.trans hk4) d102⟩ (fun hHeld=> ?_);clear hK K
   try simp only[PP]
   refine TW 12 86 ?_;refine TU 13 87 ?_;refine TU 14 88 ?_;refine TW 15 89 ?_;refine TW 16 90 ?_;refine RH 17 (fun K hK=> ?_);have xB0:=Qa hB4 0;have xB1:=Qa hB4 1;have xB2:=Qa hB4 2;have yB0:=Qd hB4 0;have yB1:=Qd hB4 1;have yB2:=Qd hB4 2;simp only[PE] at xB0 xB1 xB2;have hT0:K1 w.heap.size w4 (((w4.setCell ⟨w.heap.size,0,none⟩ (.map (some q1))).setCell ⟨w.heap.size,1,none⟩ (.map (some q2))).setCell ⟨w.heap.size,2,none⟩ (.bool true)):=K1.tower _ _ _ _;have n9:¬g9=w.heap.size:=fun e=>by have h1:=HB9.out;rw[e] at h1;omega
   have n10:¬g10=w.heap.size:=fun e=>by have h1:=HB10.out;rw[e] at h1;omega
   have e90:=Qi hT0 (Qc (hk3.trans hk4) d90) n9;have e91:=Qi hT0 (Qc (hk3.trans hk4) d91) n9;have e92:=Qi hT0 (Qc (hk3.trans hk4) d92) n9;have e100:=Qi hT0 (Qc (hk3.trans hk4) d100) n10;have e101:=Qi hT0 (Qc (hk3.trans hk4) d101) n10;have e102:=Qi hT0 (Qc (hk3.trans hk4) d102) n10;clear hT0 n9 n10;go_simp;refine hK.out _ _ ⟨e90,e91,e92,e100,e101,e102⟩ (fun hHeld=> ?_);clear hK K
   try simp only[PP]
   refine RD ?_;go_wp2_with fail
   refine bodyPost_ret (v:=knV q1 q2 true) (res3 (b:=w.heap.size) (T:=YE) (fr:=(0,0)) Tryz.results216 (by rfl) ?_) rfl ?_
   ·exact Qk (Qk (Qk hB4 0 _) 1 _) 2 _
   have hT:K1 w.heap.size w4 (((w4.setCell ⟨w.heap.size,0,none⟩ (.map (some q1))).setCell ⟨w.heap.size,1,none⟩ (.map (some q2))).setCell ⟨w.heap.size,2,none⟩ (.bool true)):=((Qg _ _).trans (Qg _ _)).trans (Qg _ _);obtain⟨r1,r2,r3⟩:=O4.out;refine⟨q1,q2,v2,fs4,by rw[hE.out],r1.k1 hT (Nat.le_refl _) (r1.mach.other hB4 (by decide) (by decide)),r2.k1 hT hB4,r3.k1 hT hB4⟩
theorem add_set(b:W4):AddC (.set b):=by
 intro r ps fs v vr pm n w hM hN hG hc hr;have HM:=Qh hM;have HN:=Qh hN;have HG:=Qh hG;have hkB:Kn w (w.alloc QE):=(Qb _ w).alloc _;have hbB:=Qf w QE;have hPc:=Qh (Parts_c _ n _ (hN.kn hkB));clear hM hN hG;go_enter Tryz.func216,Tryz.ntmps216;go_wp2_with fail
 refine hPc.out.mono ?_;rintro e w1 ⟨v7,qs,rfl,hP,hk1,hfr⟩;have hK1:Kn w w1:=hkB.trans hk1;have hB1:=hk1.blk hbB (fun x=>x);have hN1:=Qh (HN.out.kn hK1);have HO:=Qh ((Ow.refl HM.out).kn hK1);have hBl:=Qj hB1;have HFR:Hid (∀k,v7.ownBlock=some k→w.heap.size<k):=Qh (fun k e=>by have:=hfr k e;simp at this;omega);clear hbB hkB hk1 hPc hfr;go_wp2_with fail
 refine(Kind_c _ n w1 hN1.out).mono ?_;rintro e w' ⟨rfl,rfl⟩;simp only[Re.kind];have hmm:= @run_makeMap Tryz.prog;obtain⟨i0,hi,hz0,hz1,hz2⟩:=info_parts info_pos;have HI:=Qh (And.intro hi (And.intro hz0 (And.intro hz1 hz2)));clear hi hz0 hz1 hz2;have hbok:b.ok:=HN.out.1;have hM1:=HM.out.kn hK1;have hnl:ps.length+1≤2000:=by simpa[Qr] using hc
 have HM1:=Qh hM1;have xp:=Qa hM1.blk 0;simp only[List.getElem?_toArray,List.getElem?_cons_zero] at xp;have hvl:∃a c,v= .slice a ps.length c:=by
  obtain⟨a,c,h1,_⟩:=hM1.row.row (posC_six ps fs);rw[posC_len hM1.len] at h1;exact⟨a,c,h1⟩
 obtain⟨av,cv,hv⟩:=hvl;rw[hv] at xp;clear hM1;go_upto_region 5 with fail
 go_cut [8] (fun s8 wc=>s8= .int .i64 ps.length∧∃(v1:Value) (f0:Nat),Hid (Ow w1 wc pm v vr fs v1 (ps++[⟨b,r,[]⟩]) [f0]))
 case first=>
  have HK1:Kn w1 w1.drew:=(Qb _ _).drew;have HV:=Qh hv;clear hv xp;refine rgn (fun _=>True) (X:=[]) trivial (fun hX hHeld=> ?_);obtain⟨wd,hwd⟩:∃z,z=w1.drew:=⟨_,rfl⟩;rw[←hwd] at HK1⊢;have HMd:=HM1.out.kn HK1;have O:=Ow.refl HMd;have NX:=hN1.out.kn HK1;clear hwd;obtain⟨u,hu⟩:∃z,z=wd:=⟨_,rfl⟩;rw(occs:= .pos [2]) [←hu] at O;rw[←hu] at NX⊢;clear hu;refine tw 0 23 ?_;refine tw 1 24 ?_;refine tw 2 25 ?_;refine tw 3 26 ?_;refine tw 5 28 ?_;refine tw 7 30 ?_
  repeat' (first
   |((with_reducible show RG _ _ _ _ _ _ (Array.setIfInBounds _ 7 true) _ _);refine ro3 4 6 8 (fun K hK=> ?_) (fun K hK=> ?_) (fun K hK=> ?_))
   |((with_reducible show RG _ _ _ _ _ _ (Array.setIfInBounds (Array.setIfInBounds _ 7 true) 8 true) _ _);refine ro2 4 6 (fun K hK=> ?_) (fun K hK=> ?_))
   |((with_reducible show RG _ _ _ _ _ _ (Array.setIfInBounds (Array.setIfInBounds _ 8 true) 6 true) _ _);refine tw 9 32 ?_)
   |((with_reducible show RG _ _ _ _ _ _ (Array.setIfInBounds (Array.setIfInBounds (Array.setIfInBounds (Array.setIfInBounds _ 7 true) 8 true) 6 true) 9 true) _ _);refine ro2 4 10 (fun K hK=> ?_) (fun K hK=> ?_))
   |((with_reducible show RG _ _ _ _ _ _ (Array.setIfInBounds (Array.setIfInBounds (Array.setIfInBounds (Array.setIfInBounds (Array.setIfInBounds _ 7 true) 8 true) 6 true) 9 true) 10 true) _ _);refine ro 4 (fun K hK=> ?_))
   |((with_reducible show RG _ _ _ _ _ _ (Array.setIfInBounds (Array.setIfInBounds _ 10 true) 4 true) _ _);refine ro 11 (fun K hK=> ?_))
   |((with_reducible show RG _ _ _ _ _ _ (Array.setIfInBounds _ 11 true) _ _);refine tw 12 35 ?_)
   |((with_reducible show RG _ _ _ _ _ _ (Array.setIfInBounds _ 12 true) _ _);refine tw 13 36 ?_)
   |((with_reducible show RG _ _ _ _ _ _ (Array.setIfInBounds _ 13 true) _ _);refine re 14 (fun K hK=> ?_))
   |((with_reducible show RG _ _ _ _ _ _ (Array.setIfInBounds (Array.setIfInBounds _ 9 true) 4 true) _ _);refine ro 10 (fun K hK=> ?_))
   |((with_reducible show RG _ _ _ _ _ _ (Array.setIfInBounds (Array.setIfInBounds _ 4 true) 10 true) _ _);refine ro 11 (fun K hK=> ?_))
   |((with_reducible show RG _ _ _ _ _ _ (Array.setIfInBounds (Array.setIfInBounds _ 8 true) 4 true) _ _);refine ro 6 (fun K hK=> ?_))
   |((with_reducible show RG _ _ _ _ _ _ (Array.setIfInBounds (Array.setIfInBounds (Array.setIfInBounds _ 8 true) 4 true) 6 true) _ _);refine tw 9 32 ?_)
   |((with_reducible show RG _ _ _ _ _ _ (Array.setIfInBounds (Array.setIfInBounds (Array.setIfInBounds _ 4 true) 6 true) 9 true) _ _);refine ro 10 (fun K hK=> ?_))
   |((with_reducible show RG _ _ _ _ _ _ (Array.setIfInBounds (Array.setIfInBounds (Array.setIfInBounds (Array.setIfInBounds _ 4 true) 6 true) 9 true) 10 true) _ _);refine ro 11 (fun K hK=> ?_))
   |((with_reducible show RG _ _ _ _ _ _ (Array.setIfInBounds (Array.setIfInBounds _ 7 true) 6 true) _ _);refine ro2 4 8 (fun K hK=> ?_) (fun K hK=> ?_))
   |((with_reducible show RG _ _ _ _ _ _ (Array.setIfInBounds (Array.setIfInBounds _ 6 true) 8 true) _ _);refine tw 9 32 ?_)
   |((with_reducible show RG _ _ _ _ _ _ (Array.setIfInBounds (Array.setIfInBounds (Array.setIfInBounds (Array.setIfInBounds _ 7 true) 6 true) 8 true) 9 true) _ _);refine ro2 4 10 (fun K hK=> ?_) (fun K hK=> ?_))
   |((with_reducible show RG _ _ _ _ _ _ (Array.setIfInBounds (Array.setIfInBounds (Array.setIfInBounds (Array.setIfInBounds (Array.setIfInBounds _ 7 true) 6 true) 8 true) 9 true) 10 true) _ _);refine ro 4 (fun K hK=> ?_))
   |((with_reducible show RG _ _ _ _ _ _ (Array.setIfInBounds (Array.setIfInBounds _ 6 true) 4 true) _ _);refine ro 8 (fun K hK=> ?_))
   |((with_reducible show RG _ _ _ _ _ _ (Array.setIfInBounds (Array.setIfInBounds (Array.setIfInBounds _ 6 true) 4 true) 8 true) _ _);refine tw 9 32 ?_)
   |((with_reducible show RG _ _ _ _ _ _ (Array.setIfInBounds (Array.setIfInBounds (Array.setIfInBounds _ 4 true) 8 true) 9 true) _ _);refine ro 10 (fun K hK=> ?_))
   |((with_reducible show RG _ _ _ _ _ _ (Array.setIfInBounds (Array.setIfInBounds (Array.setIfInBounds (Array.setIfInBounds _ 4 true) 8 true) 9 true) 10 true) _ _);refine ro 11 (fun K hK=> ?_))
   |((with_reducible show RG _ _ _ _ _ _ (Array.setIfInBounds (Array.setIfInBounds _ 7 true) 4 true) _ _);refine ro2 6 8 (fun K hK=> ?_) (fun K hK=> ?_))
   |((with_reducible show RG _ _ _ _ _ _ (Array.setIfInBounds (Array.setIfInBounds (Array.setIfInBounds _ 7 true) 4 true) 8 true) _ _);refine ro 6 (fun K hK=> ?_))
   |((with_reducible show RG _ _ _ _ _ _ (Array.setIfInBounds (Array.setIfInBounds (Array.setIfInBounds (Array.setIfInBounds _ 4 true) 8 true) 6 true) 9 true) _ _);refine ro 10 (fun K hK=> ?_))
   |((with_reducible show RG _ _ _ _ _ _ (Array.setIfInBounds (Array.setIfInBounds (Array.setIfInBounds (Array.setIfInBounds (Array.setIfInBounds _ 4 true) 8 true) 6 true) 9 true) 10 true) _ _);refine ro 11 (fun K hK=> ?_))
   |((with_reducible show RG _ _ _ _ _ _ (Array.setIfInBounds (Array.setIfInBounds (Array.setIfInBounds _ 7 true) 4 true) 6 true) _ _);refine ro 8 (fun K hK=> ?_))
   |((with_reducible show RG _ _ _ _ _ _ (Array.setIfInBounds (Array.setIfInBounds (Array.setIfInBounds (Array.setIfInBounds _ 4 true) 6 true) 8 true) 9 true) _ _);refine ro 10 (fun K hK=> ?_))
   |((with_reducible show RG _ _ _ _ _ _ (Array.setIfInBounds (Array.setIfInBounds (Array.setIfInBounds (Array.setIfInBounds (Array.setIfInBounds _ 4 true) 6 true) 8 true) 9 true) 10 true) _ _);refine ro 11 (fun K hK=> ?_))
   |(with_reducible show if Region.wanted (Oper.mk (some 27) _ _ _ _ _) _=true then _ else _
     have xq:=Qa O.mach.blk 0;simp only[List.getElem?_toArray,List.getElem?_cons_zero] at xq;rw[HV.out] at xq;go_simp;rw[←HV.out];clear xq;refine hK.out _ _ hHeld (fun hHeld=> ?_);clear hK K
     try simp only[PP])
   |(with_reducible show if Region.wanted (Oper.mk (some 29) _ _ _ _ _) _=true then _ else _
     go_simp
     go_at_call 260
     refine(Bytes_set b n _ NX).mono ?_;rintro e u ⟨rfl,hk⟩;clear NX
     (try replace NX:=NX.kn hk)
     (try replace SF:=SF.kn hk)
     (try replace GE:=hk.blk GE (fun x=>x))
     replace O:=O.kn hk
     clear hk;dsimp only;refine hK.out _ _ hHeld (fun hHeld=> ?_);clear hK K
     try simp only[PP])
   |(with_reducible show if Region.wanted (Oper.mk (some 31) _ _ _ _ _) _=true then _ else _
     go_simp;have hk0:=fun(z:World) (e:z=u.alloc (.map #[] 0))=>(show Kn u z by rw[e];exact(Qb _ _).alloc _)
     obtain⟨f0,hg⟩:∃z,z=u.heap.size:=⟨_,rfl⟩;have zf:wd.heap.size≤f0:=by rw[hg];exact O.kp.size
     have hn0:SetN (u.alloc (.map #[] 0)) f0 []:=by rw[hg];exact SetN.empty _
     rw[←hg];obtain⟨u,hw⟩:∃z,z=u.alloc (.map #[] 0):=⟨_,rfl⟩;have hk:=hk0 _ hw;rw[←hw] at hn0⊢;clear hk0 hw hg
     (try replace NX:=NX.kn hk)
     (try replace SF:=SF.kn hk)
     (try replace GE:=hk.blk GE (fun x=>x))
     replace O:=O.kn hk
     have SF:=hn0;clear hk hn0;refine hK.out _ _ hHeld (fun hHeld=> ?_);clear hK K
     try simp only[PP])
   |(with_reducible show if Region.wanted (Oper.mk (some 33) _ _ _ _ _) _=true then _ else _
     go_simp;have hk0:=fun(z:World) (e:z=u.alloc (.cells #[.int .u64 b.a,.int .u64 b.b,.int .u64 b.c,.int .u64 b.d,.int .i64 r,.map (some f0)] TPos))=>(show Kn u z by rw[e];exact(Qb _ _).alloc _)
     obtain⟨ge,hg⟩:∃z,z=u.heap.size:=⟨_,rfl⟩;have hn0:(u.alloc (.cells #[.int .u64 b.a,.int .u64 b.b,.int .u64 b.c,.int .u64 b.d,.int .i64 r,.map (some f0)] TPos)).heap[ge]? =some (.cells #[.int .u64 b.a,.int .u64 b.b,.int .u64 b.c,.int .u64 b.d,.int .i64 r,.map (some f0)] TPos):=by rw[hg];exact Qf _ _
     rw[←hg];obtain⟨u,hw⟩:∃z,z=u.alloc (.cells #[.int .u64 b.a,.int .u64 b.b,.int .u64 b.c,.int .u64 b.d,.int .i64 r,.map (some f0)] TPos):=⟨_,rfl⟩;have hk:=hk0 _ hw;rw[←hw] at hn0⊢;clear hk0 hw hg
     (try replace NX:=NX.kn hk)
     (try replace SF:=SF.kn hk)
     (try replace GE:=hk.blk GE (fun x=>x))
     replace O:=O.kn hk
     have GE:=hn0;clear hk hn0;refine hK.out _ _ hHeld (fun hHeld=> ?_);clear hK K
     try simp only[PP])
   |(with_reducible show if Region.wanted (Oper.mk (some 34) _ _ _ _ _) _=true then _ else _
     refine Qq u (by rfl) _ _ 344 (by rfl) (pm+1) TPos i0 (.agg #[.int .u64 0,.int .u64 0,.int .u64 0,.int .u64 0,.int .i64 0,.map none]) 6 48 Tryz.underlying344 HI.out.1 HI.out.2.1 HI.out.2.2.1 HI.out.2.2.2 (by rfl) (by decide) v (posC ps (fs++[])) (by rfl) O.mach.row ge 1 (by rfl) _ TPos (0,0) GE (by rfl) (by simp[Value.oneCell']) (by rw[posC_len O.mach.len];simp only[maxLen];omega) (by rw[posC_len O.mach.len];omega) (by have:=O.mach.lt;omega) ?_;intro v1 u hown hka hat;have hsn:=MachAt.snoc O.mach (x:=⟨b,r,[]⟩) hbok rfl SF (fun e=>by have:=HMd.fs_lt (by simpa using e);omega) (by have:=HMd.lt;omega) (fun e=>by have:=(HMd.own_lt e.symm).2;omega) hown hka hat;have HSN:=Qh (And.intro O hsn);obtain⟨av1,cv1,hv1,_⟩:=hown.row (k:=6) (fun C hC=>by rcases List.mem_append.1 hC with h|h;exact posC_six _ _ C h;simp at h;rw[h];try rfl);obtain⟨nl1,hv1⟩:∃n,v1= .slice av1 n cv1:=⟨_,hv1⟩;have HV1:=Qh hv1;clear hv1;have hpb:=hka.blk O.mach.blk (fun e=>by have:=HMd.own_lt e.symm;omega);have HAT:Hid (v1.ownBlock=v.ownBlock∨∃g,v1.ownBlock=some g∧wd.heap.size≤g):=Qh (by rcases hat with e|e;exact .inl e;exact .inr ⟨_,e,O.kp.size⟩);clear hsn hown hka hat O SF GE;refine hK.out _ _ hHeld (fun hHeld=> ?_);clear hK K
     try simp only[PP])
   |(with_reducible show if Region.wanted (Oper.mk none (Op.store _ (Operand.tmp 36) _) _ _ _ _) _=true then _ else _
     have xp0:=Qa hpb 0;have yp0:=Qd hpb 0;simp only[List.getElem?_toArray,List.getElem?_cons_zero] at xp0;rw[HV1.out];go_simp;rw[←HV1.out];obtain⟨w9,hw9⟩:∃z,z=u.setCell ⟨pm,0,none⟩ v1:=⟨_,rfl⟩;rw[←hw9] at HSN⊢;clear xp0 yp0 hpb hw9;refine hK.out _ _ ?_;clear hK K))
  all_goals (go_wp2_with fail)
  all_goals go_meet
  all_goals exact⟨rfl,v1,f0,Qh (Ow.pre HK1 ⟨by simpa using HSN.out.2.1,HSN.out.1.kp.trans' HSN.out.2.2 (fun i hi e=>by simpa using e),by simpa using zf,HAT.out⟩)⟩
 case rest=>
  obtain⟨rfl,v1,f0,hO⟩:=hcut;have hBc:=hO.out.blk HM1.out hB1 (by decide) (by decide);have hbc:=Qj hBc;have hnl2:ps.length<1000000:=by omega
  obtain⟨w2,hr2,hs2,hk2⟩:=(SetN.empty wc).put (by simp) ps.length hnl2;obtain⟨w3,hr3,hs3,hk3⟩:=(SetN.empty w2).put (by simp) ps.length hnl2;have HBC:=Qh hBc;have hz2:wc.heap.size<w2.heap.size:=by have:=hk2.size;simp at this;omega
  clear hBc hv xp hB1;have hka:Kn wc (wc.alloc (.map #[] 0)):=(Qb _ wc).alloc _;have hkb:Kn w2 (w2.alloc (.map #[] 0)):=(Qb _ w2).alloc _;have hk02:Kn wc w2:=hka.trans' hk2 (fun i hi e=>by omega);have hk23:Kn w2 w3:=hkb.trans' hk3 (fun i hi e=>by omega);have hk03:=hk02.trans hk23;have hB3:=hk03.blk HBC.out (fun x=>x);have hz3:w2.heap.size<w3.heap.size:=by have:=hk3.size;simp at this;omega
  have hO3:=hO.out.kn hk03;have hF3:=Fr.made hO.out (hs2.kn hk23) (Nat.le_refl _) hO.out.mach;have hL3:=Fr.made (hO.out.kn hk02) hs3 (Nat.le_refl _) (hO.out.kn hk02).mach;have O3:=Qh (And.intro (hO3.pre hK1) (And.intro (hF3.pre hK1) (hL3.pre hK1)));clear hO3 hF3 hL3 hs2 hk2 hs3 hk3 hka hkb hk02 hk23 hk03;have xB0:=Qa hB3 0;have xB1:=Qa hB3 1;have xB2:=Qa hB3 2;have yB0:=Qd hB3 0;have yB1:=Qd hB3 1;have yB2:=Qd hB3 2;simp only[PE] at xB0 xB1 xB2;go_wp2_with fail
  refine bodyPost_ret (v:=knV wc.heap.size w2.heap.size false) (res3 (b:=w.heap.size) (T:=YE) (fr:=(0,0)) Tryz.results216 (by rfl) ?_) rfl ?_
  ·exact Qk (Qk (Qk hB3 0 _) 1 _) 2 _
  have hT:K1 w.heap.size w3 (((w3.setCell ⟨w.heap.size,0,none⟩ (.map (some wc.heap.size))).setCell ⟨w.heap.size,1,none⟩ (.map (some w2.heap.size))).setCell ⟨w.heap.size,2,none⟩ (.bool false)):=((Qg _ _).trans (Qg _ _)).trans (Qg _ _);obtain⟨r1,r2,r3⟩:=O3.out;exact⟨_,_,v1,[f0],rfl,r1.k1 hT (Nat.le_refl _) (r1.mach.other hB3 (by decide) (by decide)),r2.k1 hT hB3,r3.k1 hT hB3⟩
theorem add_c:∀t:Rw,AddC t
 | .set b=>add_set b
 | .empty=>add_empty
 | .cat x y=>add_cat x y (add_c x) (add_c y)
 | .or x y=>add_or x y (add_c x) (add_c y)
 | .star x=>add_star x (add_c x)
end Go.Proofs.YtiehgcfckhepaaaGreatDoor
namespace Go.Proofs.YtiehgcfckhepaaaGreatDoor
open Go.RowKit
theorem le_sum{l:List Nat}{x:Nat}(h:x∈l):x≤l.sum:=by
 induction l with
 |nil=>cases h
 |cons a l ih=>
  rw[List.sum_cons];rcases List.mem_cons.1 h with rfl|h
  ·omega
  ·have:=ih h;omega
def QY:Rw→Nat
 | .set _=>1
 | .empty=>0
 | .star x=>QY x
 | .cat x y=>if 2000<QY x then QY x else QY x+QY y
 | .or x y=>if 2000<QY x then QY x else QY x+QY y
theorem cntF_le:∀t:Rw,QY t≤t.size
 | .set _=>by simp[QY,Re.size]
 | .empty=>by simp[QY]
 | .star x=>by have:=cntF_le x;simp[QY,Re.size];omega
 | .cat x y=>by have:=cntF_le x;have:=cntF_le y;simp only[QY,Re.size];split<;>omega
 | .or x y=>by have:=cntF_le x;have:=cntF_le y;simp only[QY,Re.size];split<;>omega
theorem cntF_eq:∀t:Rw,(Qr t≤2000→QY t=Qr t)∧(2000<Qr t→2000<QY t)
 | .set _=>by simp[QY,Qr]
 | .empty=>by simp[QY,Qr]
 | .star x=>by simpa[QY,Qr] using cntF_eq x
 | .cat x y=>by
  obtain⟨h1,h2⟩:=cntF_eq x;obtain⟨h3,h4⟩:=cntF_eq y;simp only[QY,Qr];constructor
  ·intro h;rw[if_neg (by rw[h1 (by omega)];omega),h1 (by omega),h3 (by omega)]
  ·intro h;split
   ·assumption
   ·rename_i h5;by_cases h6:2000<Qr x
    ·have:=h2 h6;omega
    ·by_cases h7:2000<Qr y
     ·have:=h4 h7;omega
     ·rw[h1 (by omega),h3 (by omega)];exact h
 | .or x y=>by
  obtain⟨h1,h2⟩:=cntF_eq x;obtain⟨h3,h4⟩:=cntF_eq y;simp only[QY,Qr];constructor
  ·intro h;rw[if_neg (by rw[h1 (by omega)];omega),h1 (by omega),h3 (by omega)]
  ·intro h;split
   ·assumption
   ·rename_i h5;by_cases h6:2000<Qr x
    ·have:=h2 h6;omega
    ·by_cases h7:2000<Qr y
     ·have:=h4 h7;omega
     ·rw[h1 (by omega),h3 (by omega)];exact h
def csum(l:List Rw)(k:Nat):Nat:=(l.take k).foldl (fun s t=>if 2000<s then s else s+QY t) 0
theorem csum_succ(l:List Rw)(k:Nat)(h:k<l.length):csum l (k+1)=if 2000<csum l k then csum l k else csum l k+QY l[k]:=by
 unfold csum;rw[List.take_succ_eq_append_getElem h,List.foldl_append];try rfl
theorem csum_stop(l:List Rw)(k:Nat)(h:2000<csum l k):∀j,k≤j→j≤l.length→csum l j=csum l k:=by
 intro j hj hl;induction j with
 |zero=>
      obtain rfl:k=0:=by omega
      rfl
 |succ j ih=>
  by_cases e:k=j+1
  ·rw[e]
  ·rw[csum_succ l j (by omega),ih (by omega) (by omega),if_pos h]
theorem csum_parts(t:Rw)(h:t.kind≠0):csum t.parts t.parts.length=QY t:=by
 cases t with
 |set s=>exact absurd rfl h
 |empty=>rfl
 |star x=>simp[csum,Re.parts,QY]
 |cat x y=>simp[csum,Re.parts,QY]
 |or x y=>simp[csum,Re.parts,QY]
def CountC(t:Rw):Prop:=∀(n:Nat) (w:World),NodeAt w t n→Calls Tryz.prog 215 #[ptr n,.int .i64 2000] w fun e w'=>e= .returned (.int .i64 (QY t))∧Kn w w'
theorem count_set(s:W4):CountC (.set s):=by
 intro n w h;go_enter Tryz.func215,Tryz.ntmps215;go_wp2_with fail
 refine(Kind_c _ n w h).mono ?_;rintro e w' ⟨rfl,rfl⟩;simp only[Re.kind];go_wp2_with fail
 go_ret;exact⟨rfl,Qb _ _⟩
theorem count_rest(t:Rw)(hk:t.kind≠0)(hsz:t.size≤1000000)(ih:∀x∈t.parts,CountC x):CountC t:=by
 intro n w h;have hk0:((t.kind:Int)==0)=false:=by simpa using hk
 have HP:=Qh (Parts_c t n w h);have HF:=Qh (csum_parts t hk);have HS:=Qh (csum_stop t.parts);have HLE:Hid (∀i (hi:i<t.parts.length),QY t.parts[i]≤1000000):=Qh (fun i hi=>by
  have h1:=cntF_le (t.parts[i]);have h2:(t.parts[i]).size≤t.size:=by
   have h3:=size_parts t;have h4:(t.parts[i]).size≤(t.parts.map Re.size).sum:=le_sum (List.mem_map_of_mem (List.getElem_mem hi));omega
  omega)
 have IH:=Qh ih;have hcs:∀i,i≤t.parts.length→csum t.parts i≤2000+1000000:=by
  intro i;induction i with
  |zero=>intro _;simp[csum]
  |succ i ih2=>
   intro hi;rw[csum_succ _ _ (by omega)];have h1:=ih2 (by omega);have h2:=HLE.out i (by omega);split<;>omega
 have HCS:=Qh hcs;clear hk ih hcs;go_enter Tryz.func215,Tryz.ntmps215;go_wp2_with fail
 refine(Kind_c _ n w h).mono ?_;rintro e w' ⟨rfl,rfl⟩;go_wp2_with fail
 refine HP.out.mono ?_;rintro e w1 ⟨v7,qs,rfl,⟨a,c,rfl,hpt,hrow⟩,hk1,_⟩;have HPT:=Qh hpt;have HROW:=Qh hrow;have hlen:Hid (t.parts.length=qs.length):=Qh hrow.len;have hqb:qs.length≤2:=by have h1:=hlen.out;rw[←h1];cases t<;>simp[Re.parts]
 clear hpt hrow h HP;go_wp2_with fail
 go_loopw [5,7,14,15,16,17,18,19,20,21,22,23,24,25,26] (fun s _ i _ _ _ _ _ _ _ _ _ _ _ _ wr=>∃k:Nat,k≤qs.length∧i= .int .i64 k∧s= .int .i64 (csum t.parts k:Nat)∧Kn w1 wr) (fun _ _ i _ _ _ _ _ _ _ _ _ _ _ _ _=>qs.length-(intOf i).toNat)
 case atStart=>exact⟨0,Nat.zero_le _,rfl,rfl,Qb _ _⟩
 case round=>
  obtain⟨k,hk,rfl,rfl,hkn⟩:=hrel;have hb:=HCS.out k (by have:=hlen.out;omega);by_cases hlt:k<qs.length
  ·obtain⟨g,rfl,hc⟩:=(HPT.out.kn hkn) k hlt;by_cases hgt:2000<csum t.parts k
   ·have hgt':(2000:Int)<(csum t.parts k:Nat):=by omega
    have HE:Hid (csum t.parts k=QY t):=Qh (by rw[←HF.out];exact(HS.out k hgt _ (by have:=hlen.out;omega) (Nat.le_refl _)).symm);clear hgt;go_wp2_with fail
    go_ret;exact⟨by rw[HE.out];try rfl,hk1.trans hkn⟩
   ·have hgt':¬(2000:Int)<(csum t.parts k:Nat):=by omega
    have hkp:k<t.parts.length:=by have:=hlen.out;omega
    have hs:=Qh (csum_succ t.parts k hkp);have hx:=(HROW.out.get k hkp hlt).kn hkn;have hle:=HLE.out k hkp;have hih:=Qh (IH.out _ (List.getElem_mem hkp) _ _ hx);clear hx;go_wp2_with fail
    refine hih.out.mono ?_;rintro e w2 ⟨rfl,hk2⟩;go_wp2_with fail
    go_roundw
    case rel=>exact⟨k+1,by omega,by go_num,by rw[hs.out,if_neg (by omega)];go_num,hkn.trans hk2⟩
    case measure=>simp[intOf];omega
  ·have HE:Hid (csum t.parts k=QY t):=Qh (by rw[←HF.out];congr 1;have:=hlen.out;omega);go_wp2_with fail
   go_ret;exact⟨by rw[HE.out];try rfl,hk1.trans hkn⟩
theorem count_c(t:Rw):t.size≤1000000→CountC t:=by
 induction t with
 |set s=>intro _;exact count_set s
 |empty=>intro h;exact count_rest _ (by simp[Re.kind]) h (fun x hx=>by simp[Re.parts] at hx)
 |star x ih=>
  intro h;refine count_rest _ (by simp[Re.kind]) h (fun y hy=> ?_);simp only[Re.size] at h;simp only[Re.parts,List.mem_singleton] at hy;subst hy;exact ih (by omega)
 |cat x y ihx ihy=>
  intro h;refine count_rest _ (by simp[Re.kind]) h (fun z hz=> ?_);simp only[Re.size] at h;simp only[Re.parts,List.mem_cons,List.mem_nil_iff,or_false] at hz;rcases hz with rfl|rfl
  ·exact ihx (by omega)
  ·exact ihy (by omega)
 |or x y ihx ihy=>
  intro h;refine count_rest _ (by simp[Re.kind]) h (fun z hz=> ?_);simp only[Re.size] at h;simp only[Re.parts,List.mem_cons,List.mem_nil_iff,or_false] at hz;rcases hz with rfl|rfl
  ·exact ihx (by omega)
  ·exact ihy (by omega)
theorem eql_nil_ptr(q:Nat)(w:World):(binOp .eql 295 (.pointer none) (ptr q)).run Tryz.prog w= .ok (.bool false) w:=by
 have h:∀d:Nat,(Op.equalIn (d+1) 295 (.pointer none) (ptr q)).run Tryz.prog w= .ok false w:=fun d=>by
  simp[Op.equalIn,run_underlying Tryz.underlying295]
 simp only[binOp];simp[Op.equal,Op.maxDepth,h 9999]
theorem IndexNil_c(qs:List Nat)(a:Option Addr)(c:Nat)(w:World)(hp:PtrsAt w a qs)(hm:qs.length≤1000000):
  Calls Tryz.prog 257 #[.slice a qs.length c,.pointer none] w fun e w'=>e= .returned (.int .i64 (-1))∧w=w':=by
 have HP:=Qh hp;have hq:=eql_nil_ptr;clear hp;go_enter Tryz.func257,Tryz.ntmps257;go_wp2_with fail
 go_loop [5,8,9,10,11,12,13,14,15,16,17,18] (fun _ i _ _ _ _ _ _ _ _ _ _=>∃k:Nat,k≤qs.length∧i= .int .i64 k) (fun _ i _ _ _ _ _ _ _ _ _ _=>qs.length-(intOf i).toNat)
 case atStart=>exact⟨0,Nat.zero_le _,rfl⟩
 case round=>
  obtain⟨k,hk,rfl⟩:=hrel;by_cases hlt:k<qs.length
  ·obtain⟨g,rfl,hc⟩:=HP.out k hlt;go_wp2_with fail
   go_round
   case rel=>exact⟨k+1,by omega,by go_num⟩
   case measure=>simp[intOf];omega
  ·go_wp2_with fail
   go_ret;exact⟨rfl,rfl⟩
theorem ContainsNil_c(qs:List Nat)(a:Option Addr)(c:Nat)(w:World)(hp:PtrsAt w a qs)(hm:qs.length≤1000000):
  Calls Tryz.prog 214 #[.slice a qs.length c,.pointer none] w fun e w'=>e= .returned (.bool false)∧w=w':=by
 have HP:=Qh (IndexNil_c qs a c w hp hm);clear hp;go_enter Tryz.func214,Tryz.ntmps214;go_wp2_with fail
 refine HP.out.mono ?_;rintro e w' ⟨rfl,rfl⟩;go_wp2_with fail
 go_ret;exact⟨rfl,rfl⟩
open Go.RowKit Go.Maps
theorem info_kno:(Tryz.prog.info? YE).map (fun i=>(i.zero,i.size,i.bytes))=some (some (.agg #[.map none,.map none,.bool false]),3,24):=by kernel_rfl
abbrev knL(k:KN)(b:Nat×Nat):List Value:=[.map (some b.1),.map (some b.2),.bool k.empty]
def knC(ks:List KN)(bs:List (Nat×Nat)):List (List Value):=List.zipWith knL ks bs
theorem knC_len{ks:List KN}{bs:List (Nat×Nat)}(h:ks.length=bs.length):(knC ks bs).length=ks.length:=by simp[knC,h]
theorem knC_three(ks:List KN)(bs:List (Nat×Nat)):∀C∈knC ks bs,C.length=3:=by
 intro C hC;obtain⟨i,hi,rfl⟩:=List.getElem_of_mem hC;simp[knC]
theorem knC_snoc{ks:List KN}{bs:List (Nat×Nat)}(h:ks.length=bs.length)(x:KN)(b:Nat×Nat):knC (ks++[x]) (bs++[b])=knC ks bs++[knL x b]:=by
 unfold knC;rw[List.zipWith_append h];try rfl
structure NfaIn (w:World) (pm:Nat) (v vr:Value) (ps:List NP) (ks:List KN) (fs:List Nat) (bs:List (Nat×Nat)):Prop where
 mach:MachAt w pm v vr ps fs
 rules:OwnK w (pm+1) YE 3 vr (knC ks bs)
 len:ks.length=bs.length
 first:∀i (h:i<ks.length) (h':i<bs.length),SetN w bs[i].1 ks[i].first
 last:∀i (h:i<ks.length) (h':i<bs.length),SetN w bs[i].2 ks[i].last
 off:∀b∈bs,¬MS pm v fs b.1∧¬MS pm v fs b.2
 good:NGood ps
 kgood:∀k∈ks,KGood k ps.length
def NfaAt(w:World)(pm:Nat)(M:NM):Prop:=∃v vr fs bs,NfaIn w pm v vr M.pos M.rules fs bs∧M.pos.length≤2000
theorem OwnK.other{w:World}{B k:Nat}{v:Value}{Cs:List (List Value)}{pm:Nat}{vm vr:Value}{ps:List NP}{fs:List Nat}(h:OwnK w B YE k v Cs)(hM:MachAt w pm vm vr ps fs):∀g,v.ownBlock=some g→¬MS pm vm fs g:=fun g hg=>by
 rcases h.2 with⟨h1,_⟩|⟨g',cap,cur,h1,_,h3,_⟩
 ·rw[h1] at hg;cases hg
 ·have e:g'=g:=by rw[h1] at hg;simpa[Value.ownBlock] using hg
  subst e;exact hM.other h3 (by decide) (by decide)
section
variable {w W w':World} {pm:Nat} {v vr v1:Value} {ps ps1:List NP} {ks:List KN} {fs fs2:List Nat} {bs:List (Nat×Nat)}
theorem NfaIn.kn(h:NfaIn w pm v vr ps ks fs bs)(hk:Kn w w'):NfaIn w' pm v vr ps ks fs bs:=
 ⟨h.mach.kn hk,h.rules.kn hk,h.len,fun i a b=>(h.first i a b).kn hk,fun i a b=>(h.last i a b).kn hk,h.off,h.good,h.kgood⟩
theorem NfaIn.ow(h:NfaIn w pm v vr ps ks fs bs)(ho:Ow w W pm v vr fs v1 ps1 fs2)(hg:NGood ps1)(hl:ps.length≤ps1.length):NfaIn W pm v1 vr ps1 ks (fs++fs2) bs:=
 ⟨ho.mach,h.rules.kp ho.kp (h.rules.other h.mach),h.len,fun i a b=>(h.first i a b).kp ho.kp (h.off _ (List.getElem_mem b)).1,fun i a b=>(h.last i a b).kp ho.kp (h.off _ (List.getElem_mem b)).2,
  fun b hb=>by
   obtain⟨i,hi,rfl⟩:=List.getElem_of_mem hb;exact⟨ho.ms (h.first i (by rw[h.len];exact hi) hi).lt (h.off _ hb).1,ho.ms (h.last i (by rw[h.len];exact hi) hi).lt (h.off _ hb).2⟩,hg,fun k hk=>(h.kgood k hk).mono hl⟩
theorem NfaIn.snoc{w1:World}{vr1:Value}(h:NfaIn W pm v vr ps ks fs bs){x:KN}{f l:Nat}(hf:SetN W f x.first)(hl:SetN W l x.last)(nf:¬MS pm v fs f)(nl:¬MS pm v fs l)(hx:KGood x ps.length)
  (hown:OwnK w1 (pm+1) YE 3 vr1 (knC ks bs++[knL x (f,l)])) (hk:Kp (fun k=>some k=vr.ownBlock) W w1):
  NfaIn (w1.setCell ⟨pm,1,none⟩ vr1) pm v vr1 ps (ks++[x]) fs (bs++[(f,l)]):=by
 have hk1:K1 pm w1 (w1.setCell ⟨pm,1,none⟩ vr1):=Qg _ _;have hoff:=h.rules.other h.mach;have hS:∀q s,SetN W q s→¬MS pm v fs q→SetN (w1.setCell ⟨pm,1,none⟩ vr1) q s:=fun q s hs hq=>(hs.kp hk (fun e=>by
   rcases h.rules.2 with⟨h1,_⟩|⟨g',cap,cur,h1,_,h3,_⟩
   ·rw[h1] at e;cases e
   ·have e2:g'=q:=by rw[h1] at e;simpa[Value.ownBlock] using e.symm
    subst e2;obtain⟨D,⟨es,clock,hb,_⟩,_⟩:=hs;rw[h3] at hb;injection hb with hb;cases hb)).kp hk1 (fun e=>hq (.inl e))
 have hm1:MachAt w1 pm v vr ps fs:=h.mach.kp hk (fun k hS' e=>hoff k e.symm hS');refine⟨⟨?_,hm1.len,?_,fun i a b=> ?_,hm1.ok,hm1.nd,hm1.ap⟩,?_,by simp[h.len],fun i a b=> ?_,fun i a b=> ?_,fun b hb=> ?_,h.good,fun k hk=> ?_⟩
 ·exact Qk hm1.blk 1 vr1
 ·exact hm1.row.kp hk1 (fun g hg e=>by have:=(hm1.own_lt hg).1;omega)
 ·exact(hm1.sets i a b).kp hk1 (fun e=>by have:=(hm1.ap _ (List.getElem_mem b)).1;omega)
 ·rw[knC_snoc h.len];exact hown.kp hk1 (fun g hg e=>by have:=(hown.lt g hg).1;omega)
 ·have e1:=h.len;by_cases h3:i<ks.length
  ·rw[List.getElem_append_left h3,List.getElem_append_left (show i<bs.length by omega)];exact hS _ _ (h.first i h3 (by omega)) (h.off _ (List.getElem_mem _)).1
  ·simp only[List.length_append,List.length_singleton] at a;obtain rfl:i=ks.length:=by omega
   rw[List.getElem_append_right (Nat.le_refl _),List.getElem_append_right (by omega)];simp only[List.getElem_singleton];exact hS _ _ hf nf
 ·have e1:=h.len;by_cases h3:i<ks.length
  ·rw[List.getElem_append_left h3,List.getElem_append_left (show i<bs.length by omega)];exact hS _ _ (h.last i h3 (by omega)) (h.off _ (List.getElem_mem _)).2
  ·simp only[List.length_append,List.length_singleton] at a;obtain rfl:i=ks.length:=by omega
   rw[List.getElem_append_right (Nat.le_refl _),List.getElem_append_right (by omega)];simp only[List.getElem_singleton];exact hS _ _ hl nl
 ·rcases List.mem_append.1 hb with hb|hb
  ·exact h.off b hb
  ·simp at hb;subst hb;exact⟨nf,nl⟩
 ·rcases List.mem_append.1 hk with hk|hk
  ·exact h.kgood k hk
  ·simp at hk;subst hk;exact hx
end
theorem nRules_snoc:∀(ts:List Rw) (i:Nat) (m:List NP) (t:Rw),Yq i (ts++[t]) m=((Qo (i+ts.length) t (Yq i ts m).1).1,(Yq i ts m).2++[(Qo (i+ts.length) t (Yq i ts m).1).2])
 |[],i,m,t=>by simp[Yq]
 |x::ts,i,m,t=>by
  have ih:=nRules_snoc ts (i+1) (Qo i x m).1 t;simp only[List.cons_append,Yq,ih,List.length_cons];have e:i+1+ts.length=i+(ts.length+1):=by omega
  rw[e]
def Yy(ts:List Rw)(k:Nat):List NP×List KN:=Yq 0 (ts.take k) []
theorem nPre_succ(ts:List Rw)(k:Nat)(h:k<ts.length):Yy ts (k+1)=((Qo k ts[k] (Yy ts k).1).1,(Yy ts k).2++[(Qo k ts[k] (Yy ts k).1).2]):=by
 unfold Yy;rw[List.take_succ_eq_append_getElem h,nRules_snoc];have e:0+(ts.take k).length=k:=by simp;omega
 rw[e]
def nsum(ts:List Rw)(k:Nat):Nat:=((ts.take k).map Qr).sum
theorem nsum_succ(ts:List Rw)(k:Nat)(h:k<ts.length):nsum ts (k+1)=nsum ts k+Qr ts[k]:=by
 unfold nsum;rw[List.take_succ_eq_append_getElem h,List.map_append,List.sum_append];simp
theorem nsum_le(ts:List Rw)(k:Nat)(h:k≤ts.length):∀j,k≤j→j≤ts.length→nsum ts k≤nsum ts j:=by
 intro j hj hl;induction j with
 |zero=>
      obtain rfl:k=0:=by omega
      exact Nat.le_refl _
 |succ j ih=>
  by_cases e:k=j+1
  ·rw[e];exact Nat.le_refl _
  ·rw[nsum_succ ts j (by omega)];have:=ih (by omega) (by omega);omega
theorem nPre_good(ts:List Rw):∀k,k≤ts.length→(Yy ts k).1.length=nsum ts k∧NGood (Yy ts k).1∧(Yy ts k).2.length=k:=by
 intro k;induction k with
 |zero=>intro _;exact⟨rfl,(fun p hp=>by cases hp),rfl⟩
 |succ k ih=>
  intro hk;obtain⟨h1,h2,h5⟩:=ih (by omega);obtain⟨h3,h4,_⟩:=QU k ts[k] _ h2;rw[nPre_succ ts k (by omega),nsum_succ ts k (by omega)];exact⟨by rw[h3,h1],h4,by simp[h5]⟩
def psum2(ts:List Rw)(k:Nat):Nat:=((ts.take k).map QY).sum
theorem psum2_succ(ts:List Rw)(k:Nat)(h:k<ts.length):psum2 ts (k+1)=psum2 ts k+QY ts[k]:=by
 unfold psum2;rw[List.take_succ_eq_append_getElem h,List.map_append,List.sum_append];simp
theorem cntF_le_n:∀t:Rw,QY t≤Qr t
 | .set _=>by simp[QY,Qr]
 | .empty=>by simp[QY]
 | .star x=>by simpa[QY,Qr] using cntF_le_n x
 | .cat x y=>by have:=cntF_le_n x;have:=cntF_le_n y;simp only[QY,Qr];split<;>omega
 | .or x y=>by have:=cntF_le_n x;have:=cntF_le_n y;simp only[QY,Qr];split<;>omega
theorem psum2_n(ts:List Rw):∀k,k≤ts.length→psum2 ts k≤nsum ts k∧(psum2 ts k≤2000→nsum ts k=psum2 ts k):=by
 intro k;induction k with
 |zero=>intro _;exact⟨Nat.le_refl _,fun _=>rfl⟩
 |succ k ih=>
  intro hk;obtain⟨h1,h2⟩:=ih (by omega);have h3:=cntF_le_n ts[k];obtain⟨h4,h5⟩:=cntF_eq ts[k];rw[psum2_succ ts k (by omega),nsum_succ ts k (by omega)];refine⟨by omega,fun h=> ?_⟩;rw[h2 (by omega)];by_cases h6:2000<Qr ts[k]
  ·have:=h5 h6;omega
  ·rw[h4 (by omega)]
def NewPost(ts:List Rw)(w:World)(e:Ending)(w':World):Prop:=
 Kn w w'∧((2000<nsum ts ts.length∧e= .returned (.tuple #[.pointer none,.int .i64 3]))∨(nsum ts ts.length≤2000∧∃pm:Nat,e= .returned (.tuple #[ptr pm,.int .i64 0])∧NfaAt w' pm (nfaF ts)))
theorem New_c(ts:List Rw)(qs:List Nat)(a:Option Addr)(c:Nat)(w:World)(hrow:RowAt w ts qs)(hp:PtrsAt w a qs)(hne:ts≠[])(hlen:ts.length≤100)(hsz:∀t∈ts,t.size≤1000000):
  Calls Tryz.prog 163 #[.slice a qs.length c] w (NewPost ts w):=by
 have hl:=hrow.len;have hq0:((qs.length:Int)==0)=false:=by
  have:0<ts.length:=List.length_pos_iff.2 hne;rw[beq_eq_false_iff_ne];omega
 have HC:=Qh (fun w' (hk:Kn w w')=>ContainsNil_c qs a c w' (hp.kn hk) (by omega));have HP:=Qh hp;have HROW0:=Qh hrow;have HSZ:=Qh hsz;have HL:=Qh hl;have hql:qs.length≤100:=by omega
 have HCN:Hid (∀k (h:k<ts.length) (hq:k<qs.length) w',Kn w w'→Calls Tryz.prog 215 #[ptr qs[k],.int .i64 2000] w' fun e w''=>e= .returned (.int .i64 (QY ts[k]))∧Kn w' w''):=
  Qh (fun k h hq w' hk=>count_c ts[k] (hsz _ (List.getElem_mem h)) _ w' ((hrow.get k h hq).kn hk))
 have HCB:Hid (∀k (h:k<ts.length),QY ts[k]≤1000000):=Qh (fun k h=>Nat.le_trans (cntF_le _) (hsz _ (List.getElem_mem h)));have hmm:= @run_makeMap Tryz.prog;clear hp hrow hsz hl hne;go_enter Tryz.func163,Tryz.ntmps163;go_wp2_with fail
 refine(HC.out w (Qb _ _)).mono ?_;rintro e w' ⟨rfl,rfl⟩;clear HC;go_wp2_with fail
 go_loopw [4,6,19,20,21,22,23,24,25,26,27,28,29] (fun s _ i _ _ _ _ _ _ _ _ _ _ wr=>∃k:Nat,k≤qs.length∧i= .int .i64 k∧s= .int .i64 (psum2 ts k:Nat)∧psum2 ts k≤2000∧Kn w wr) (fun _ _ i _ _ _ _ _ _ _ _ _ _ _=>qs.length-(intOf i).toNat)
 case atStart=>exact⟨0,Nat.zero_le _,rfl,rfl,by simp[psum2],Qb _ _⟩
 case round=>
  obtain⟨k,hk,rfl,rfl,hps,hkn⟩:=hrel;by_cases hlt:k<qs.length
  ·obtain⟨g,rfl,hc⟩:=(HP.out.kn hkn) k hlt;have hkt:k<ts.length:=by have:=HL.out;omega
   have hcb:=HCB.out k hkt;have hs:=Qh (psum2_succ ts k hkt);by_cases hgt:2000<psum2 ts k+QY ts[k]
   ·have hgt':(2000:Int)<(psum2 ts k:Nat)+(QY ts[k]:Nat):=by omega
    have HBIG:Hid (2000<nsum ts ts.length):=Qh (by
     have h1:=(psum2_n ts (k+1) (by omega)).1;rw[hs.out] at h1;have h2:=nsum_le ts (k+1) (by omega) ts.length (by omega) (Nat.le_refl _);omega)
    go_wp2_with fail
    refine(HCN.out k hkt hlt wr hkn).mono ?_;rintro e w2 ⟨rfl,hk2⟩;go_wp2_with fail
    go_ret2
    exact⟨hkn.trans hk2,.inl ⟨HBIG.out,rfl⟩⟩
   ·have hgt':¬(2000:Int)<(psum2 ts k:Nat)+(QY ts[k]:Nat):=by omega
    go_wp2_with fail
    refine(HCN.out k hkt hlt wr hkn).mono ?_;rintro e w2 ⟨rfl,hk2⟩;go_wp2_with fail
    go_roundw
    case rel=>exact⟨k+1,by omega,by go_num,by rw[hs.out];go_num,by rw[hs.out];omega,hkn.trans hk2⟩
    case measure=>simp[intOf];omega
  ·have HSUM:Hid (nsum ts ts.length≤2000):=Qh (by
    have e:k=ts.length:=by have:=HL.out;omega
    subst e;rw[(psum2_n ts ts.length (Nat.le_refl _)).2 hps];exact hps)
   have HP2:=Qh (HP.out.kn hkn);have HROW:=Qh (HROW0.out.kn hkn);obtain⟨wo,hwo⟩:∃wo:World,wo=wr:=⟨_,rfl⟩;subst hwo;clear HP HROW0 HCN HCB hps;have hpb0:=Qf wo (.cells #[.slice none 0 0,.slice none 0 0] TM);have hN0:NfaIn (wo.alloc (.cells #[.slice none 0 0,.slice none 0 0] TM)) wo.heap.size (.slice none 0 0) (.slice none 0 0) [] [] [] []:=
    ⟨⟨hpb0,rfl,OwnK.nil,fun i h=>by simp at h,by simp,by simp,by simp⟩,OwnK.nil,rfl,fun i h=>by simp at h,fun i h=>by simp at h,by simp,(fun p hp=>by cases hp),by simp⟩
   have HN0:=Qh hN0;have hkw0:Kp (fun i=>wo.heap.size≤i) wo (wo.alloc (.cells #[.slice none 0 0,.slice none 0 0] TM)):=(Qb _ _).alloc _;obtain⟨pm,hpm⟩:∃p,p=wo.heap.size:=⟨_,rfl⟩;have hpmle:wo.heap.size≤pm:=by omega
   obtain⟨i0,hi,hz0,hz1,hz2⟩:=info_parts info_kno;have HI:=Qh (And.intro hi (And.intro hz0 (And.intro hz1 hz2)));clear hi hz0 hz1 hz2 hN0 hpb0;go_wp2_with fail
   rw[←hpm] at HN0⊢;clear hpm;go_loopw [8,9,34,36,37,38,39,40,41,42,43,44,45,46,47,48,49,50,51,52] (fun _ _ i _ _ _ _ _ _ _ _ _ _ _ _ _ _ _ _ _ wr=>∃(k:Nat) (v vr:Value) (fs:List Nat) (bs:List (Nat×Nat)),k≤qs.length∧i= .int .i64 k∧Hid (NfaIn wr pm v vr (Yy ts k).1 (Yy ts k).2 fs bs)∧Kp (fun i=>wo.heap.size≤i) wo wr) (fun _ _ i _ _ _ _ _ _ _ _ _ _ _ _ _ _ _ _ _ _=>qs.length-(intOf i).toNat)
   case atStart=>exact⟨0,_,_,_,_,Nat.zero_le _,rfl,Qh HN0.out,hkw0⟩
   case round=>
    clear hkw0 HN0;obtain⟨k,v,vr,fs,bs,hk,rfl,hN,hKW⟩:=hrel;by_cases hkq:k<qs.length
    ·have hc0:=HP2.out k hkq;obtain⟨g,rfl,hc1⟩:=hc0;have hkt:k<ts.length:=by have:=HL.out;omega
     have hk6:k<1000000:=by omega
     have hc2:wr.cell? ⟨g,k,none⟩=some (ptr qs[k]):=Qi hKW hc1 (fun h=>by have h1:g<wo.heap.size:=World.block_lt_of_cell? wo _ hc1;change wo.heap.size≤g at h;omega);have hAG:=Qh (QU k ts[k] (Yy ts k).1 hN.out.good);have hnk:(Yy ts k).1.length+Qr ts[k]≤2000:=by
      have h1:=(nPre_good ts k (by omega)).1;have h2:=nsum_succ ts k hkt;have h3:=nsum_le ts (k+1) (by omega) ts.length (by omega) (Nat.le_refl _);have h4:=HSUM.out;omega
     have HKL:Hid ((Yy ts k).2.length=k):=Qh (nPre_good ts k (by omega)).2.2;have hvr:∃a n c,vr= .slice a n c:=by
      obtain⟨a,c,h1,_⟩:=hN.out.rules.row (knC_three _ _);exact⟨a,_,c,h1⟩
     obtain⟨av,nv,cv,hvr⟩:=hvr;have HV:=Qh hvr;clear hvr hc1;go_wp2_with fail
     clear hc2;refine wp_region_any (by kernel_rfl) ?_;change wpAny _ _ _ _ _ _ _ (World.drew _);obtain⟨wd,hwd⟩:∃z,z=wr.drew:=⟨_,rfl⟩;have HKd:Kn wr wd:=by rw[hwd];exact(Qb _ _).drew
     rw[←hwd];have N0:=hN.out.kn HKd;have X0:=(HROW.out.get k hkt hkq).mono61 (Kn61.of (hKW.trans HKd.weak) (fun g o ho _ h=>by have:=Qj ho;omega));have HKW0:Kp (fun i=>wo.heap.size≤i) wo wd:=hKW.trans HKd.weak;clear hwd;refine TA 0 39 ?_;refine TA 1 40 ?_;refine TA 2 41 ?_;refine TA 3 42 ?_;refine TA 5 44 ?_;refine TA 6 45 ?_;refine TA 7 46 ?_;refine wpAny_ready (rs:=[4,8]) (by kernel_rfl) (by simp) (AllReady.cons (o:=Oper.mk (some 43) _ _ _ _ _) rfl (fun K hK=> ?_) (AllReady.cons (o:=Oper.mk (some 47) _ _ _ _ _) rfl (fun K hK=> ?_) AllReady.nil))
     ·have xq:=Qa N0.mach.blk 1;simp only[PE] at xq;rw[HV.out] at xq;go_simp;rw[←HV.out];clear xq;refine hK _ _ ?_;clear hK K
      try simp only[PP]
      refine wpAny_ready (rs:=[8]) (by kernel_rfl) (by simp) (AllReady.cons (o:=Oper.mk (some 47) _ _ _ _ _) rfl (fun K hK=> ?_) AllReady.nil);go_simp
      go_at_call 216
      refine(add_c ts[k] k (Yy ts k).1 fs v vr pm qs[k] wd N0.mach X0 N0.good hnk hk6).mono ?_;rintro e u1 ⟨f,l,v1,fs2,rfl,hO1,hFf1,hFl1⟩;have N1:=N0.ow hO1 hAG.out.2.1 (by rw[hAG.out.1];omega);have SF1:=hFf1.set;have SL1:=hFl1.set;have HNF:Hid (¬MS pm v1 (fs++fs2) f):=Qh (fun e=>by rcases e with e|e|e;have h1:=hFf1.ge;have h2:=N0.mach.lt;omega;exact hFf1.row e.symm;exact hFf1.apart N0.mach e);have HNL:Hid (¬MS pm v1 (fs++fs2) l):=Qh (fun e=>by rcases e with e|e|e;have h1:=hFl1.ge;have h2:=N0.mach.lt;omega;exact hFl1.row e.symm;exact hFl1.apart N0.mach e);have HKW1:Kp (fun i=>wo.heap.size≤i) wo u1:=HKW0.trans (hO1.kp.mono (fun i _ h=>by have:=(N0.mach.ms_lt h).1;omega));clear hO1 hFf1 hFl1 N0 X0 HKW0;dsimp only;refine hK _ _ ?_;clear hK K
      try simp only[PP]
      refine wpAny_ready (rs:=[9]) (by kernel_rfl) (by simp) (AllReady.cons (o:=Oper.mk (some 48) _ _ _ _ _) rfl (fun K hK=> ?_) AllReady.nil);go_simp;obtain⟨u2,hw2⟩:∃z,z=u1.alloc (.cells #[.map (some f),.map (some l),.bool (Qo k ts[k] (Yy ts k).1).2.empty] YE):=⟨_,rfl⟩;have hk2:Kn u1 u2:=by rw[hw2];exact(Qb _ _).alloc _
      obtain⟨ge,hge⟩:∃z,z=u1.heap.size:=⟨_,rfl⟩;have GE2:u2.heap[ge]? =some (.cells #[.map (some f),.map (some l),.bool (Qo k ts[k] (Yy ts k).1).2.empty] YE):=by rw[hw2,hge];exact Qf _ _
      have N2:=N1.kn hk2;have SF2:=SF1.kn hk2;have SL2:=SL1.kn hk2;have HKW2:=HKW1.trans hk2.weak;rw[←hw2,←hge];clear hk2 hw2 hge N1 SF1 SL1 HKW1;refine hK _ _ ?_;clear hK K
      try simp only[PP]
      refine wpAny_ready (rs:=[10]) (by kernel_rfl) (by simp) (AllReady.cons (o:=Oper.mk (some 49) _ _ _ _ _) rfl (fun K hK=> ?_) AllReady.nil);refine Qq u2 (by rfl) _ _ 345 (by rfl) (pm+1) YE i0 (.agg #[.map none,.map none,.bool false]) 3 24 Tryz.underlying345 HI.out.1 HI.out.2.1 HI.out.2.2.1 HI.out.2.2.2 (by rfl) (by decide) vr (knC (Yy ts k).2 bs) (by rfl) N2.rules ge 1 (by rfl) _ YE (0,0) GE2 (by rfl) (by simp[Value.oneCell']) (by rw[knC_len N2.len,HKL.out];simp only[maxLen];omega) (by rw[knC_len N2.len,HKL.out];omega) (by have:=N2.mach.lt;omega) ?_;intro vr1 u3 hown hka _;have hsn:=N2.snoc SF2 SL2 HNF.out HNL.out hAG.out.2.2 hown hka;have HSN:=Qh hsn;have HKW3:Kp (fun i=>wo.heap.size≤i) wo u3:=HKW2.trans (hka.mono (fun i _ h=>by have:=(N2.rules.lt i h.symm).1;omega));obtain⟨av1,cv1,hv1,_⟩:=hown.row (k:=3) (fun C hC=>by rcases List.mem_append.1 hC with h|h;exact knC_three _ _ C h;simp at h;rw[h];try rfl);obtain⟨nl1,hv1⟩:∃n,vr1= .slice av1 n cv1:=⟨_,hv1⟩;have HV1:=Qh hv1;clear hv1;have hpb:=hka.blk N2.mach.blk (fun e=>N2.rules.other N2.mach _ e.symm (.inl rfl));clear hsn hown hka N2 SF2 SL2 GE2 HKW2;refine hK _ _ ?_;clear hK K
      try simp only[PP]
      refine TA 11 50 ?_;refine TA 12 51 ?_;refine wpAny_ready (rs:=[13]) (by kernel_rfl) (by simp) (AllReady.cons (o:=Oper.mk none _ _ _ _ _) rfl (fun K hK=> ?_) AllReady.nil);have xp1:=Qa hpb 1;have yp1:=Qd hpb 1;simp only[PE] at xp1;rw[HV1.out];go_simp;rw[←HV1.out];obtain⟨w9,hw9⟩:∃z,z=u3.setCell ⟨pm,1,none⟩ vr1:=⟨_,rfl⟩;have HKW9:Kp (fun i=>wo.heap.size≤i) wo w9:=HKW3.trans (by rw[hw9];exact(Qg _ _).mono (fun i _ h=>by omega));rw[←hw9] at HSN⊢;clear xp1 yp1 hpb hw9 HKW3;refine hK _ _ ?_;clear hK K
      try simp only[PP]
      refine wpAny_done (by kernel_rfl) ?_ _;go_wp2_with fail
      go_roundw
      case rel=>exact⟨k+1,v1,vr1,_,_,by omega,by go_num,Qh (by rw[nPre_succ ts k hkt];exact HSN.out),HKW9⟩
      case measure=>simp[intOf];omega
     ·go_simp
      go_at_call 216
      refine(add_c ts[k] k (Yy ts k).1 fs v vr pm qs[k] wd N0.mach X0 N0.good hnk hk6).mono ?_;rintro e u4 ⟨f,l,v1,fs2,rfl,hO4,hFf4,hFl4⟩;have N4:=N0.ow hO4 hAG.out.2.1 (by rw[hAG.out.1];omega);have SF4:=hFf4.set;have SL4:=hFl4.set;have HNF:Hid (¬MS pm v1 (fs++fs2) f):=Qh (fun e=>by rcases e with e|e|e;have h1:=hFf4.ge;have h2:=N0.mach.lt;omega;exact hFf4.row e.symm;exact hFf4.apart N0.mach e);have HNL:Hid (¬MS pm v1 (fs++fs2) l):=Qh (fun e=>by rcases e with e|e|e;have h1:=hFl4.ge;have h2:=N0.mach.lt;omega;exact hFl4.row e.symm;exact hFl4.apart N0.mach e);have HKW4:Kp (fun i=>wo.heap.size≤i) wo u4:=HKW0.trans (hO4.kp.mono (fun i _ h=>by have:=(N0.mach.ms_lt h).1;omega));clear hO4 hFf4 hFl4 N0 X0 HKW0;dsimp only;refine hK _ _ ?_;clear hK K
      try simp only[PP]
      refine wpAny_ready (rs:=[4,9]) (by kernel_rfl) (by simp) (AllReady.cons (o:=Oper.mk (some 43) _ _ _ _ _) rfl (fun K hK=> ?_) (AllReady.cons (o:=Oper.mk (some 48) _ _ _ _ _) rfl (fun K hK=> ?_) AllReady.nil))
      ·have xq:=Qa N4.mach.blk 1;simp only[PE] at xq;rw[HV.out] at xq;go_simp;rw[←HV.out];clear xq;refine hK _ _ ?_;clear hK K
       try simp only[PP]
       refine wpAny_ready (rs:=[9]) (by kernel_rfl) (by simp) (AllReady.cons (o:=Oper.mk (some 48) _ _ _ _ _) rfl (fun K hK=> ?_) AllReady.nil);go_simp;obtain⟨u5,hw5⟩:∃z,z=u4.alloc (.cells #[.map (some f),.map (some l),.bool (Qo k ts[k] (Yy ts k).1).2.empty] YE):=⟨_,rfl⟩;have hk5:Kn u4 u5:=by rw[hw5];exact(Qb _ _).alloc _
       obtain⟨ge,hge⟩:∃z,z=u4.heap.size:=⟨_,rfl⟩;have GE5:u5.heap[ge]? =some (.cells #[.map (some f),.map (some l),.bool (Qo k ts[k] (Yy ts k).1).2.empty] YE):=by rw[hw5,hge];exact Qf _ _
       have N5:=N4.kn hk5;have SF5:=SF4.kn hk5;have SL5:=SL4.kn hk5;have HKW5:=HKW4.trans hk5.weak;rw[←hw5,←hge];clear hk5 hw5 hge N4 SF4 SL4 HKW4;refine hK _ _ ?_;clear hK K
       try simp only[PP]
       refine wpAny_ready (rs:=[10]) (by kernel_rfl) (by simp) (AllReady.cons (o:=Oper.mk (some 49) _ _ _ _ _) rfl (fun K hK=> ?_) AllReady.nil);refine Qq u5 (by rfl) _ _ 345 (by rfl) (pm+1) YE i0 (.agg #[.map none,.map none,.bool false]) 3 24 Tryz.underlying345 HI.out.1 HI.out.2.1 HI.out.2.2.1 HI.out.2.2.2 (by rfl) (by decide) vr (knC (Yy ts k).2 bs) (by rfl) N5.rules ge 1 (by rfl) _ YE (0,0) GE5 (by rfl) (by simp[Value.oneCell']) (by rw[knC_len N5.len,HKL.out];simp only[maxLen];omega) (by rw[knC_len N5.len,HKL.out];omega) (by have:=N5.mach.lt;omega) ?_;intro vr1 u6 hown hka _;have hsn:=N5.snoc SF5 SL5 HNF.out HNL.out hAG.out.2.2 hown hka;have HSN:=Qh hsn;have HKW6:Kp (fun i=>wo.heap.size≤i) wo u6:=HKW5.trans (hka.mono (fun i _ h=>by have:=(N5.rules.lt i h.symm).1;omega));obtain⟨av1,cv1,hv1,_⟩:=hown.row (k:=3) (fun C hC=>by rcases List.mem_append.1 hC with h|h;exact knC_three _ _ C h;simp at h;rw[h];try rfl);obtain⟨nl1,hv1⟩:∃n,vr1= .slice av1 n cv1:=⟨_,hv1⟩;have HV1:=Qh hv1;clear hv1;have hpb:=hka.blk N5.mach.blk (fun e=>N5.rules.other N5.mach _ e.symm (.inl rfl));clear hsn hown hka N5 SF5 SL5 GE5 HKW5;refine hK _ _ ?_;clear hK K
       try simp only[PP]
       refine TA 11 50 ?_;refine TA 12 51 ?_;refine wpAny_ready (rs:=[13]) (by kernel_rfl) (by simp) (AllReady.cons (o:=Oper.mk none _ _ _ _ _) rfl (fun K hK=> ?_) AllReady.nil);have xp1:=Qa hpb 1;have yp1:=Qd hpb 1;simp only[PE] at xp1;rw[HV1.out];go_simp;rw[←HV1.out];obtain⟨w9,hw9⟩:∃z,z=u6.setCell ⟨pm,1,none⟩ vr1:=⟨_,rfl⟩;have HKW9:Kp (fun i=>wo.heap.size≤i) wo w9:=HKW6.trans (by rw[hw9];exact(Qg _ _).mono (fun i _ h=>by omega));rw[←hw9] at HSN⊢;clear xp1 yp1 hpb hw9 HKW6;refine hK _ _ ?_;clear hK K
       try simp only[PP]
       refine wpAny_done (by kernel_rfl) ?_ _;go_wp2_with fail
       go_roundw
       case rel=>exact⟨k+1,v1,vr1,_,_,by omega,by go_num,Qh (by rw[nPre_succ ts k hkt];exact HSN.out),HKW9⟩
       case measure=>simp[intOf];omega
      ·go_simp;obtain⟨u7,hw7⟩:∃z,z=u4.alloc (.cells #[.map (some f),.map (some l),.bool (Qo k ts[k] (Yy ts k).1).2.empty] YE):=⟨_,rfl⟩;have hk7:Kn u4 u7:=by rw[hw7];exact(Qb _ _).alloc _
       obtain⟨ge,hge⟩:∃z,z=u4.heap.size:=⟨_,rfl⟩;have GE7:u7.heap[ge]? =some (.cells #[.map (some f),.map (some l),.bool (Qo k ts[k] (Yy ts k).1).2.empty] YE):=by rw[hw7,hge];exact Qf _ _
       have N7:=N4.kn hk7;have SF7:=SF4.kn hk7;have SL7:=SL4.kn hk7;have HKW7:=HKW4.trans hk7.weak;rw[←hw7,←hge];clear hk7 hw7 hge N4 SF4 SL4 HKW4;refine hK _ _ ?_;clear hK K
       try simp only[PP]
       refine wpAny_ready (rs:=[4]) (by kernel_rfl) (by simp) (AllReady.cons (o:=Oper.mk (some 43) _ _ _ _ _) rfl (fun K hK=> ?_) AllReady.nil);have xq:=Qa N7.mach.blk 1;simp only[PE] at xq;rw[HV.out] at xq;go_simp;rw[←HV.out];clear xq;refine hK _ _ ?_;clear hK K
       try simp only[PP]
       refine wpAny_ready (rs:=[10]) (by kernel_rfl) (by simp) (AllReady.cons (o:=Oper.mk (some 49) _ _ _ _ _) rfl (fun K hK=> ?_) AllReady.nil);refine Qq u7 (by rfl) _ _ 345 (by rfl) (pm+1) YE i0 (.agg #[.map none,.map none,.bool false]) 3 24 Tryz.underlying345 HI.out.1 HI.out.2.1 HI.out.2.2.1 HI.out.2.2.2 (by rfl) (by decide) vr (knC (Yy ts k).2 bs) (by rfl) N7.rules ge 1 (by rfl) _ YE (0,0) GE7 (by rfl) (by simp[Value.oneCell']) (by rw[knC_len N7.len,HKL.out];simp only[maxLen];omega) (by rw[knC_len N7.len,HKL.out];omega) (by have:=N7.mach.lt;omega) ?_;intro vr1 u8 hown hka _;have hsn:=N7.snoc SF7 SL7 HNF.out HNL.out hAG.out.2.2 hown hka;have HSN:=Qh hsn;have HKW8:Kp (fun i=>wo.heap.size≤i) wo u8:=HKW7.trans (hka.mono (fun i _ h=>by have:=(N7.rules.lt i h.symm).1;omega));obtain⟨av1,cv1,hv1,_⟩:=hown.row (k:=3) (fun C hC=>by rcases List.mem_append.1 hC with h|h;exact knC_three _ _ C h;simp at h;rw[h];try rfl);obtain⟨nl1,hv1⟩:∃n,vr1= .slice av1 n cv1:=⟨_,hv1⟩;have HV1:=Qh hv1;clear hv1;have hpb:=hka.blk N7.mach.blk (fun e=>N7.rules.other N7.mach _ e.symm (.inl rfl));clear hsn hown hka N7 SF7 SL7 GE7 HKW7;refine hK _ _ ?_;clear hK K
       try simp only[PP]
       refine TA 11 50 ?_;refine TA 12 51 ?_;refine wpAny_ready (rs:=[13]) (by kernel_rfl) (by simp) (AllReady.cons (o:=Oper.mk none _ _ _ _ _) rfl (fun K hK=> ?_) AllReady.nil);have xp1:=Qa hpb 1;have yp1:=Qd hpb 1;simp only[PE] at xp1;rw[HV1.out];go_simp;rw[←HV1.out];obtain⟨w9,hw9⟩:∃z,z=u8.setCell ⟨pm,1,none⟩ vr1:=⟨_,rfl⟩;have HKW9:Kp (fun i=>wo.heap.size≤i) wo w9:=HKW8.trans (by rw[hw9];exact(Qg _ _).mono (fun i _ h=>by omega));rw[←hw9] at HSN⊢;clear xp1 yp1 hpb hw9 HKW8;refine hK _ _ ?_;clear hK K
       try simp only[PP]
       refine wpAny_done (by kernel_rfl) ?_ _;go_wp2_with fail
       go_roundw
       case rel=>exact⟨k+1,v1,vr1,_,_,by omega,by go_num,Qh (by rw[nPre_succ ts k hkt];exact HSN.out),HKW9⟩
       case measure=>simp[intOf];omega
    ·have e:k=ts.length:=by have:=HL.out;omega
     have HFIN:Hid (NfaAt wr pm (nfaF ts)):=Qh ⟨v,vr,fs,bs,by
      have h1:=hN.out;rw[e] at h1;have h2:Yy ts ts.length=Yq 0 ts []:=by unfold Yy;rw[List.take_length]
      rw[h2] at h1;exact h1,by
      have h1:=(nPre_good ts ts.length (Nat.le_refl _)).1;have h2:Yy ts ts.length=Yq 0 ts []:=by unfold Yy;rw[List.take_length]
      rw[h2] at h1;show(Yq 0 ts []).1.length≤2000;rw[h1];exact HSUM.out⟩
     clear e;go_wp2_with fail
     go_ret2
     exact⟨hkn.trans (hKW.mono (fun i hi h=>by omega)),.inr ⟨HSUM.out,pm,rfl,HFIN.out⟩⟩
structure NMok (M:NM):Prop where
 good:NGood M.pos
 ris:∀p∈M.pos,Ris p.follow
 kgood:∀k∈M.rules,KGood k M.pos.length
 rule:∀p∈M.pos,p.rule<M.rules.length
 len:M.pos.length≤2000
 rlen:M.rules.length≤100
theorem nlink_ris{m:List NP}{a b:List Nat}(h:∀p∈m,Ris p.follow):∀p∈nlink m a b,Ris p.follow:=by
 intro p hp;obtain⟨i,hi,rfl⟩:=List.getElem_of_mem hp;have hi':i<m.length:=by rwa[Yz] at hi
 rw[nlink_get m a b i hi hi'];split
 ·exact ris_uni _ _ (h _ (List.getElem_mem hi'))
 ·exact h _ (List.getElem_mem hi')
theorem nlink_rule{m:List NP}{a b:List Nat}{R:Nat}(h:∀p∈m,p.rule<R):∀p∈nlink m a b,p.rule<R:=by
 intro p hp;obtain⟨i,hi,rfl⟩:=List.getElem_of_mem hp;have hi':i<m.length:=by rwa[Yz] at hi
 rw[nlink_get m a b i hi hi'];have h1:=h m[i] (List.getElem_mem hi');split<;>exact h1
theorem nAdd_ris(r:Nat):∀(t:Rw) (m:List NP),(∀p∈m,Ris p.follow)→∀p∈(Qo r t m).1,Ris p.follow
 | .set b,m,h=>fun p hp=>by
  simp only[Qo,List.mem_append,List.mem_singleton] at hp;rcases hp with hp|rfl
  ·exact h p hp
  ·simp[Ris]
 | .empty,m,h=>h
 | .cat x y,m,h=>nlink_ris (nAdd_ris r y _ (nAdd_ris r x m h))
 | .or x y,m,h=>nAdd_ris r y _ (nAdd_ris r x m h)
 | .star x,m,h=>nlink_ris (nAdd_ris r x m h)
theorem nAdd_rule(r R:Nat)(hr:r<R):∀(t:Rw) (m:List NP),(∀p∈m,p.rule<R)→∀p∈(Qo r t m).1,p.rule<R
 | .set b,m,h=>fun p hp=>by
  simp only[Qo,List.mem_append,List.mem_singleton] at hp;rcases hp with hp|rfl
  ·exact h p hp
  ·exact hr
 | .empty,m,h=>h
 | .cat x y,m,h=>nlink_rule (nAdd_rule r R hr y _ (nAdd_rule r R hr x m h))
 | .or x y,m,h=>nAdd_rule r R hr y _ (nAdd_rule r R hr x m h)
 | .star x,m,h=>nlink_rule (nAdd_rule r R hr x m h)
theorem nPre_ok(ts:List Rw):∀k,k≤ts.length→(∀p∈(Yy ts k).1,Ris p.follow)∧(∀p∈(Yy ts k).1,p.rule<ts.length)∧∀x∈(Yy ts k).2,KGood x (Yy ts k).1.length:=by
 intro k;induction k with
 |zero=>intro _;exact⟨(fun p hp=>by cases hp),(fun p hp=>by cases hp),(fun p hp=>by cases hp)⟩
 |succ k ih=>
  intro hk;obtain⟨h1,h2,h3⟩:=ih (by omega);obtain⟨h4,h5,h6⟩:=QU k ts[k] _ (nPre_good ts k (by omega)).2.1;rw[nPre_succ ts k (by omega)];refine⟨nAdd_ris _ _ _ h1,nAdd_rule _ _ (by omega) _ _ h2,fun x hx=> ?_⟩;simp only[List.mem_append,List.mem_singleton] at hx;rcases hx with hx|rfl
  ·exact(h3 x hx).mono (by rw[h4];omega)
  ·exact h6
theorem nfaF_ok(ts:List Rw)(h1:nsum ts ts.length≤2000)(h2:ts.length≤100):NMok (nfaF ts):=by
 have e:Yy ts ts.length=Yq 0 ts []:=by unfold Yy;rw[List.take_length]
 obtain⟨a1,a2,a3⟩:=nPre_good ts ts.length (Nat.le_refl _);obtain⟨b1,b2,b3⟩:=nPre_ok ts ts.length (Nat.le_refl _);rw[e] at a1 a2 a3 b1 b2 b3;exact⟨a2,b1,b3,fun p hp=>by show p.rule<(Yq 0 ts []).2.length;rw[a3];exact b2 p hp,by show(Yq 0 ts []).1.length≤2000;rw[a1];exact h1,by show(Yq 0 ts []).2.length≤100;rw[a3];exact h2⟩
theorem NfaAt.kn{w w':World}{pm:Nat}{M:NM}(h:NfaAt w pm M)(hk:Kn w w'):NfaAt w' pm M:=by
 obtain⟨v,vr,fs,bs,h1,h2⟩:=h;exact⟨v,vr,fs,bs,h1.kn hk,h2⟩
theorem NfaAt.lt{w:World}{pm:Nat}{M:NM}(h:NfaAt w pm M):pm<w.heap.size:=by obtain⟨v,vr,fs,bs,h1,h2⟩:=h;exact h1.mach.lt
theorem NfaIn.kno{w:World}{pm:Nat}{v vr:Value}{ps:List NP}{ks:List KN}{fs:List Nat}{bs:List (Nat×Nat)}(h:NfaIn w pm v vr ps ks fs bs){i:Nat}(hi:i<ks.length):
  ∃(g c f l:Nat),vr= .slice (some ⟨g,0,none⟩) ks.length c∧SetN w f ks[i].first∧SetN w l ks[i].last∧
  w.cell? ⟨g,i*3,none⟩=some (.map (some f))∧w.cell? ⟨g,i*3+1,none⟩=some (.map (some l))∧w.cell? ⟨g,i*3+2,none⟩=some (.bool ks[i].empty):=by
 have hib:i<bs.length:=by rw[←h.len];exact hi
 have hic:i<(knC ks bs).length:=by rw[knC_len h.len];exact hi
 obtain⟨a,c,h1,h2,h3,h4⟩:=h.rules.row (knC_three ks bs);obtain⟨g,rfl,_,_,h5⟩:=h4 (fun e=>by rw[e] at hic;simp at hic);rw[knC_len h.len] at h1;have h6:=fun j hj=>(h5 i hic j hj).1
 have e0:(knC ks bs)[i]=knL ks[i] bs[i]:=by simp[knC]
 rw[e0] at h6;have e:∀j,0+3*i+j=i*3+j:=fun j=>by omega
 simp only[e] at h6;exact⟨g,c,bs[i].1,bs[i].2,h1,h.first i hi hib,h.last i hi hib,h6 0 (by omega),h6 1 (by omega),h6 2 (by omega)⟩
theorem Rules_c(pm:Nat)(M:NM)(w:World)(h:NfaAt w pm M):
  Calls Tryz.prog 306 #[ptr pm] w fun e w'=>e= .returned (.int .i64 M.rules.length)∧w=w':=by
 obtain⟨v,vr,fs,bs,h1,_⟩:=h;have c1:=Qa h1.mach.blk 1;obtain⟨a,c,hv,_⟩:=h1.rules.row (knC_three _ _);rw[knC_len h1.len] at hv;simp only[PE] at c1;rw[hv] at c1;clear h1 hv;go_enter Tryz.func306,Tryz.ntmps306;go_wp2_with fail
 go_ret;exact⟨rfl,rfl⟩
theorem Len_c(pm:Nat)(M:NM)(w:World)(h:NfaAt w pm M):
  Calls Tryz.prog 334 #[ptr pm] w fun e w'=>e= .returned (.int .i64 M.pos.length)∧w=w':=by
 obtain⟨v,vr,fs,bs,h1,_⟩:=h;have c0:=Qa h1.mach.blk 0;obtain⟨a,c,hv,_⟩:=h1.mach.row.row (posC_six _ _);rw[posC_len h1.mach.len] at hv;simp only[PE] at c0;rw[hv] at c0;clear h1 hv;go_enter Tryz.func334,Tryz.ntmps334;go_wp2_with fail
 go_ret;exact⟨rfl,rfl⟩
theorem rule_c(pm i:Nat)(M:NM)(w:World)(h:NfaAt w pm M)(hi:i<M.rules.length)(hi2:M.rules.length≤100):
  Calls Tryz.prog 331 #[ptr pm,.int .i64 i] w fun e w'=>∃f l:Nat,e= .returned (knV f l M.rules[i].empty)∧SetN w' f M.rules[i].first∧SetN w' l M.rules[i].last∧Kn w w':=by
 have hk:Kn w (w.alloc QE):=(Qb _ w).alloc _;have HR:=Qh (Rules_c pm M _ (h.kn hk));obtain⟨v,vr,fs,bs,h1,_⟩:=h;obtain⟨g,c,f,l,hv,hf,hl,x0,x1,x2⟩:=h1.kno hi;have c1:=Qa h1.mach.blk 1;simp only[PE] at c1;rw[hv] at c1;have hpl:=h1.mach.lt;have hgl:g<w.heap.size:=World.block_lt_of_cell? w _ x0;have HS:=Qh (And.intro hf hl);have hi0:¬(i:Int)<0:=by omega
 have hi1:(i:Int)<M.rules.length:=by omega
 clear h1 hv hf hl hk;go_enter Tryz.func331,Tryz.ntmps331;go_wp2_with fail
 refine HR.out.mono ?_;rintro e w' ⟨rfl,rfl⟩;go_wp2_with fail
 obtain⟨hf,hl⟩:=HS.out;have hk:Kn w (w.alloc (knB f l M.rules[i].empty)):=(Qb _ w).alloc _;exact bodyPost_ret (v:=knV f l M.rules[i].empty) (res3 (b:=w.heap.size) Tryz.results331 (by rfl) (Qf _ _)) rfl ⟨f,l,rfl,hf.kn hk,hl.kn hk,hk⟩
theorem field_first(f l:Nat)(e:Bool)(w:World):(Instr.field YE (knV f l e) 0).run Tryz.prog w= .ok (.map (some f)) w:=by kernel_rfl
theorem field_last(f l:Nat)(e:Bool)(w:World):(Instr.field YE (knV f l e) 1).run Tryz.prog w= .ok (.map (some l)) w:=by kernel_rfl
theorem OwnI.kn{w w':World}{B:Nat}{v:Value}{l:List Nat}(h:OwnI w B v l)(hk:Kn w w'):OwnI w' B v l:=by
 refine⟨h.1,?_⟩;rcases h.2 with h1|⟨g,cap,cur,h1,h2,h3,h4⟩
 ·exact .inl h1
 ·exact .inr ⟨g,cap,cur,h1,h2,hk.blk h3 (fun x=>x),h4⟩
theorem First_c(pm i:Nat)(M:NM)(w:World)(h:NfaAt w pm M)(ok:NMok M)(hi:i<M.rules.length):
  Calls Tryz.prog 307 #[ptr pm,.int .i64 i] w fun e w'=>∃v B,e= .returned v∧w.heap.size≤B∧OwnI w' B v M.rules[i].first∧Kn w w':=by
 have HR:=Qh (rule_c pm i M w h hi ok.rlen);have hg:=ok.kgood _ (List.getElem_mem hi);have hle:=ok.len;go_enter Tryz.func307,Tryz.ntmps307;go_wp2_with fail
 refine HR.out.mono ?_;rintro e w1 ⟨f,l,rfl,hf,hl,hk⟩;have hfd:=field_first f l M.rules[i].empty;have HS:=Qh (sorted_c f _ w1 hf hg.rf (Qu hg.f hle));clear hf hl;go_wp2_with fail
 refine HS.out.mono ?_;rintro e w2 ⟨v,rfl,ho,hk2⟩;go_wp2_with fail
 go_ret;exact⟨v,_,rfl,hk.size,ho,hk.trans hk2⟩
theorem Last_c(pm i:Nat)(M:NM)(w:World)(h:NfaAt w pm M)(ok:NMok M)(hi:i<M.rules.length):
  Calls Tryz.prog 337 #[ptr pm,.int .i64 i] w fun e w'=>∃v B,e= .returned v∧w.heap.size≤B∧OwnI w' B v M.rules[i].last∧Kn w w':=by
 have HR:=Qh (rule_c pm i M w h hi ok.rlen);have hg:=ok.kgood _ (List.getElem_mem hi);have hle:=ok.len;go_enter Tryz.func337,Tryz.ntmps337;go_wp2_with fail
 refine HR.out.mono ?_;rintro e w1 ⟨f,l,rfl,hf,hl,hk⟩;have hfd:=field_last f l M.rules[i].empty;have HS:=Qh (sorted_c l _ w1 hl hg.rl (Qu hg.l hle));clear hf hl;go_wp2_with fail
 refine HS.out.mono ?_;rintro e w2 ⟨v,rfl,ho,hk2⟩;go_wp2_with fail
 go_ret;exact⟨v,_,rfl,hk.size,ho,hk.trans hk2⟩
abbrev posV(x:NP)(f:Nat):Value:= .agg #[.int .u64 x.bytes.a,.int .u64 x.bytes.b,.int .u64 x.bytes.c,.int .u64 x.bytes.d,.int .i64 x.rule,.map (some f)]
abbrev posB(x:NP)(f:Nat):Obj:= .cells #[.int .u64 x.bytes.a,.int .u64 x.bytes.b,.int .u64 x.bytes.c,.int .u64 x.bytes.d,.int .i64 x.rule,.map (some f)] TPos
theorem resPos{fn:Func}{t u:Tmp}{tmps:Array Value}{W:World}{b:Nat}{c0 c1 c2 c3 c4 c5:Value}{T:TypeId}{fr:Nat×Nat}(h:fn.results= #[.cell t TPos,.tmp u])(ht:tmps[t]?.getD undef=ptr b)(hb:W.heap[b]? =some (.cells #[c0,c1,c2,c3,c4,c5] T fr)):
  (results fn tmps).run Tryz.prog W= .ok (.tuple #[.agg #[c0,c1,c2,c3,c4,c5],tmps[u]?.getD undef]) W:=by
 have e0:=Qa hb 0;have e1:=Qa hb 1;have e2:=Qa hb 2;have e3:=Qa hb 3;have e4:=Qa hb 4;have e5:=Qa hb 5;simp only[PE] at e0 e1 e2 e3 e4 e5;simp[results,h,ht,go_sem,e0,e1,e2,e3,e4,e5]
theorem at_c(pm i:Nat)(M:NM)(w:World)(h:NfaAt w pm M)(hi:i<M.pos.length):
  Calls Tryz.prog 311 #[ptr pm,.int .i64 i] w fun e w'=>∃f:Nat,e= .returned (.tuple #[posV M.pos[i] f,.bool true])∧SetN w' f M.pos[i].follow∧Kn w w':=by
 have hk:Kn w (w.alloc (.cells #[.int .u64 0,.int .u64 0,.int .u64 0,.int .u64 0,.int .i64 0,.map none] TPos)):=(Qb _ w).alloc _;have HR:=Qh (Len_c pm M _ (h.kn hk));obtain⟨v,vr,fs,bs,h1,hle⟩:=h;obtain⟨g,c,f,hv,_,hf,x0,x1,x2,x3,x4,x5⟩:=h1.mach.pos hi;have c0:=Qa h1.mach.blk 0;simp only[PE] at c0;rw[hv] at c0;have hpl:=h1.mach.lt;have hgl:g<w.heap.size:=World.block_lt_of_cell? w _ x0;have HS:=Qh hf;have hi0:¬(i:Int)<0:=by omega
 have hi1:(i:Int)<M.pos.length:=by omega
 clear h1 hv hf hk;go_enter Tryz.func311,Tryz.ntmps311;go_wp2_with fail
 refine HR.out.mono ?_;rintro e w' ⟨rfl,rfl⟩;go_wp2_with fail
 have hk:Kn w (w.alloc (posB M.pos[i] f)):=(Qb _ w).alloc _;refine bodyPost_ret (resPos (b:=w.heap.size) Tryz.results311 (by rfl) (Qf w (posB M.pos[i] f))) rfl ⟨f,rfl,HS.out.kn hk,hk⟩
theorem Follow_c(pm i:Nat)(M:NM)(w:World)(h:NfaAt w pm M)(ok:NMok M)(hi:i<M.pos.length):
  Calls Tryz.prog 308 #[ptr pm,.int .i64 i] w fun e w'=>∃v B,e= .returned v∧w.heap.size≤B∧OwnI w' B v M.pos[i].follow∧Kn w w':=by
 have HR:=Qh (at_c pm i M w h hi);have hle:=ok.len;have hg:=ok.good _ (List.getElem_mem hi);have hr:=ok.ris _ (List.getElem_mem hi);have HG:=Qh (And.intro hr (Qu hg hle));clear hg hr;go_enter Tryz.func308,Tryz.ntmps308;go_wp2_with fail
 refine HR.out.mono ?_;rintro e w1 ⟨f,rfl,hf,hk⟩;have hk2:Kn w1 (w1.alloc (posB M.pos[i] f)):=(Qb _ _).alloc _;have HS:=Qh (sorted_c f _ _ (hf.kn hk2) HG.out.1 HG.out.2);clear hf;go_wp2_with fail
 refine HS.out.mono ?_;rintro e w2 ⟨v,rfl,ho,hk3⟩;go_wp2_with fail
 go_ret;exact⟨v,_,rfl,Nat.le_trans hk.size hk2.size,ho,(hk.trans hk2).trans hk3⟩
theorem Rule_c(pm i:Nat)(M:NM)(w:World)(h:NfaAt w pm M)(hi:i<M.pos.length):
  Calls Tryz.prog 335 #[ptr pm,.int .i64 i] w fun e w'=>e= .returned (.int .i64 M.pos[i].rule)∧Kn w w':=by
 have HR:=Qh (at_c pm i M w h hi);go_enter Tryz.func335,Tryz.ntmps335;go_wp2_with fail
 refine HR.out.mono ?_;rintro e w1 ⟨f,rfl,hf,hk⟩;clear hf;go_wp2_with fail
 go_ret;exact⟨rfl,hk.alloc _⟩
theorem getN(x:NP)(f:Nat)(w:World)(i:Nat)(hi:i<4):(w.alloc (posB x f)).cell? ⟨w.heap.size,i,none⟩=some (.int .u64 (x.bytes.get i)):=by
 rw[Qa (Qf w (posB x f))]
 match i,hi with
 |0,_=>rfl
 |1,_=>rfl
 |2,_=>rfl
 |3,_=>rfl
theorem Has_c(pm i b:Nat)(M:NM)(w:World)(h:NfaAt w pm M)(hi:i<M.pos.length)(hb:b<256):
  Calls Tryz.prog 265 #[ptr pm,.int .i64 i,.int .u8 b] w fun e w'=>e= .returned (.bool (M.has i b))∧Kn w w':=by
 have HR:=Qh (at_c pm i M w h hi);have hok:M.pos[i].bytes.ok:=by obtain⟨v,vr,fs,bs,h1,hle⟩:=h;exact h1.mach.ok _ (List.getElem_mem hi)
 have HT:=Qh (bit_test hok b);have HH:Hid (M.has i b=M.pos[i].bytes.bit b):=Qh (by simp[NM.has,hi]);have hb2:(b:Int)<256:=by omega
 have hq:(b:Int)/64<4:=by omega
 have hq0:(0:Int)≤(b:Int)/64:=by omega
 clear hok h;go_enter Tryz.func265,Tryz.ntmps265;go_wp2_with fail
 refine HR.out.mono ?_;rintro e w1 ⟨f,rfl,hf,hk⟩;clear hf;have cg:=getN M.pos[i] f w1 (b/64) (by omega);go_wp2_with fail
 go_ret;exact⟨by rw[HH.out,←HT.out];try rfl,hk.alloc _⟩
theorem OwnI.look{w:World}{B:Nat}{v:Value}{l:List Nat}(h:OwnI w B v l):∃a c,v= .slice a l.length c∧l.length≤c∧c≤maxLen∧(l≠[]→∃b:Nat,a=some ⟨b,0,none⟩∧B≤b∧v.ownBlock=some b∧
  ∀j (hj:j<l.length),w.cell? ⟨b,j,none⟩=some (.int .i64 (l[j]:Nat))∧w.frozen? ⟨b,j,none⟩=false):=by
 rcases h.2 with⟨h1,h2⟩|⟨g,cap,cur,h1,h2,h3,h4,h5,h6,h7⟩
 ·exact⟨none,0,by rw[h1,h2],by omega,by simp[maxLen],fun hne=>(hne (by simpa using h2)).elim⟩
 ·refine⟨_,cap,h1,h4,h5,fun _=>⟨g,rfl,h2,by rw[h1];try rfl,fun j hj=>⟨?_,Qd h3 _⟩⟩⟩;have hc:=World.ownsRow.cells h (g:=g) (by rw[h1];try rfl) j (.int .i64 (l[j]:Nat)) (by simp[hj]);have hadd:(⟨g,0,none⟩:Addr).add j=⟨g,j,none⟩:=by unfold Addr.add;split<;>simp_all
  rw[hadd] at hc;exact hc
theorem toInts_getD(l:List Nat)(j:Nat)(hj:j<l.length):(l.map (fun x:Nat=>(x:Int))).getD j 0=(l[j]:Nat):=by
 rw[List.getD_eq_getElem?_getD,List.getElem?_map,List.getElem?_eq_getElem hj];try rfl
theorem Contains_c(x B:Nat)(v:Value)(l:List Nat)(w:World)(h:OwnI w B v l):
  Calls Tryz.prog 336 #[v,.int .i64 x] w fun e w'=>e= .returned (.bool (l.contains x))∧w=w':=by
 obtain⟨a,c,rfl,h1,h2,h3⟩:=h.look;by_cases hl:l=[]
 ·subst hl;exact(Tryz.slices_Contains_int_empty a c x w).mono fun e w' ⟨q1,q2⟩=>⟨by rw[q1];try rfl,q2.symm⟩
 ·obtain⟨b,rfl,_,_,h4⟩:=h3 hl;have hm:l.length≤9223372036854775807:=by simp only[maxLen] at h2;omega
  refine(Tryz.slices_Contains_int b 0 l.length c (l.map (fun x:Nat=>(x:Int))) x w (by simp) hm (fun j hj=> ?_)).mono fun e w' ⟨q1,q2⟩=>⟨?_,q2.symm⟩
  ·simp only[List.length_map] at hj;rw[Nat.zero_add,toInts_getD l j hj];exact(h4 j hj).1
  ·rw[q1,List.take_of_length_le (by simp)];congr 2;rw[Bool.eq_iff_iff];simp only[List.contains_eq_mem,List.mem_map,decide_eq_true_eq];constructor
   ·rintro⟨y,hy,e⟩;have:y=x:=by omega
    subst this;exact hy
   ·intro h;exact⟨x,h,rfl⟩
def accK(M:NM)(l:List Nat)(k:Nat):Int:=(l.take k).foldl M.acc (-1)
theorem accK_succ(M:NM)(l:List Nat)(k:Nat)(h:k<l.length):accK M l (k+1)=M.acc (accK M l k) l[k]:=by
 unfold accK;rw[List.take_succ_eq_append_getElem h,List.foldl_append];try rfl
theorem acc_ge(M:NM)(b:Int)(p:Nat)(hb: -1≤b∧b<1000000)(hp:p<M.pos.length)(ok:NMok M): -1≤M.acc b p∧M.acc b p<1000000:=by
 unfold NM.acc;split
 ·have h1:=ok.rule _ (List.getElem_mem hp);have h2:=ok.rlen;simp only[NM.rule,List.getElem?_eq_getElem hp];omega
 ·exact hb
theorem accK_ge(M:NM)(l:List Nat)(hl:∀p∈l,p<M.pos.length)(ok:NMok M):∀k,k≤l.length→-1≤accK M l k∧accK M l k<1000000:=by
 intro k;induction k with
 |zero=>intro _;simp[accK]
 |succ k ih=>
  intro h;rw[accK_succ M l k (by omega)];exact acc_ge M _ _ (ih (by omega)) (hl _ (List.getElem_mem _)) ok
theorem accept_c(pm B:Nat)(M:NM)(v:Value)(l:List Nat)(w:World)(h:NfaAt w pm M)(ok:NMok M)(hv:OwnI w B v l)(hl:∀p∈l,p<M.pos.length):
  Calls Tryz.prog 312 #[ptr pm,v] w fun e w'=>e= .returned (.int .i64 (M.accept l))∧Kn w w':=by
 obtain⟨a,c,rfl,h1,h2,h3⟩:=hv.look;have hm:l.length≤9223372036854775807:=by simp only[maxLen] at h2;omega
 have HC:Hid (∀j (hj:j<l.length),∃b:Nat,a=some ⟨b,0,none⟩∧w.cell? ⟨b,j,none⟩=some (.int .i64 (l[j]:Nat))):=Qh (fun j hj=>by
  obtain⟨b,e,_,_,h4⟩:=h3 (fun e=>by rw[e] at hj;simp at hj);exact⟨b,e,(h4 j hj).1⟩)
 have HN:=Qh h;have HL:=Qh hl;have HOK:=Qh ok;have HG:=Qh (accK_ge M l hl ok);have HE:Hid (accK M l l.length=M.accept l):=Qh (by unfold accK NM.accept;rw[List.take_length]);clear h hl ok hv h1 h2 h3;go_enter Tryz.func312,Tryz.ntmps312;go_wp2_with fail
 go_loopw [5,7,8,11,12,13,14,15,16,17,18,19,20,21,22,23,24,25,26,27,28,29,30,31,32,33] (fun s _ _ i _ _ _ _ _ _ _ _ _ _ _ _ _ _ _ _ _ _ _ _ _ _ wr=>∃k:Nat,k≤l.length∧i= .int .i64 k∧s= .int .i64 (accK M l k)∧Kn w wr) (fun _ _ _ i _ _ _ _ _ _ _ _ _ _ _ _ _ _ _ _ _ _ _ _ _ _ _=>l.length-(intOf i).toNat)
 case atStart=>exact⟨0,Nat.zero_le _,rfl,rfl,Qb _ _⟩
 case round=>
  obtain⟨k,hk,rfl,rfl,hkn⟩:=hrel;by_cases hlt:k<l.length
  ·obtain⟨b,rfl,hc0⟩:=HC.out k hlt;have hc:=Qc hkn hc0;have hp:=HL.out _ (List.getElem_mem hlt);have hs:=Qh (accK_succ M l k hlt);have hr:=(HOK.out).rule _ (List.getElem_mem hp);obtain⟨hg1,hg2⟩:=HG.out k hk;have HR:=Qh (Rule_c pm l[k] M wr (HN.out.kn hkn) hp);have HRU:Hid (M.rule l[k]=(M.pos[l[k]].rule:Int)):=Qh (by simp[NM.rule,hp]);have HLA:Hid (M.last (M.rule l[k])=M.rules[M.pos[l[k]].rule].last):=Qh (by rw[HRU.out];simp[NM.last,hr];intro h;omega);have HACC:Hid (M.acc (accK M l k) l[k]=if(accK M l k= -1∨M.rule l[k]<accK M l k)∧(M.last (M.rule l[k])).contains l[k]=true then M.rule l[k] else accK M l k):=Qh rfl;clear hc0;generalize hgen:accK M l k=bst at hg1 hg2;have HGEN:=Qh hgen;clear hgen;have hr0:M.pos[l[k]].rule<1000000:=by have:=HOK.out.rlen;omega
   have ways:Hid ((bst== -1)=true∨((bst== -1)=false∧(M.pos[l[k]].rule:Int)<bst)∨((bst== -1)=false∧¬(M.pos[l[k]].rule:Int)<bst)):=Qh (by
    by_cases e:bst= -1
    ·left;simp[e]
    ·right;have e1:(bst== -1)=false:=by simpa using e
     by_cases e2:(M.pos[l[k]].rule:Int)<bst
     ·exact .inl ⟨e1,e2⟩
     ·exact .inr ⟨e1,e2⟩)
   rcases ways.out with hw|⟨hw,hw2⟩|⟨hw,hw2⟩
   ·go_wp2_with fail
    refine HR.out.mono ?_;rintro e w2 ⟨rfl,hk2⟩;go_wp2_with fail
    refine(Last_c pm M.pos[l[k]].rule M w2 (HN.out.kn (hkn.trans hk2)) HOK.out hr).mono ?_;rintro e w3 ⟨vl,Bl,rfl,_,hol,hk3⟩;have HCO:=Qh (Contains_c l[k] Bl vl _ w3 hol);clear hol;go_wp2_with fail
    refine HCO.out.mono ?_;rintro e w' ⟨rfl,rfl⟩;cases hcon:M.rules[M.pos[l[k]].rule].last.contains l[k] with
    |true=>
     have HX:Hid (accK M l (k+1)=(M.pos[l[k]].rule:Int)):=Qh (by
      rw[hs.out,HACC.out,HGEN.out,HLA.out,HRU.out,if_pos ⟨(.inl (by simpa using hw)),hcon⟩])
     clear hcon;go_wp2_with fail
     go_roundw
     case rel=>exact⟨k+1,by omega,by go_num,by rw[HX.out],(hkn.trans hk2).trans hk3⟩
     case measure=>simp[intOf];omega
    |false=>
     have HX:Hid (accK M l (k+1)=bst):=Qh (by
      rw[hs.out,HACC.out,HGEN.out,HLA.out,if_neg (fun h=>by rw[hcon] at h;exact absurd h.2 (by simp))])
     clear hcon;go_wp2_with fail
     go_roundw
     case rel=>exact⟨k+1,by omega,by go_num,by rw[HX.out],(hkn.trans hk2).trans hk3⟩
     case measure=>simp[intOf];omega
   ·go_wp2_with fail
    refine HR.out.mono ?_;rintro e w2 ⟨rfl,hk2⟩;go_wp2_with fail
    refine(Last_c pm M.pos[l[k]].rule M w2 (HN.out.kn (hkn.trans hk2)) HOK.out hr).mono ?_;rintro e w3 ⟨vl,Bl,rfl,_,hol,hk3⟩;have HCO:=Qh (Contains_c l[k] Bl vl _ w3 hol);clear hol;go_wp2_with fail
    refine HCO.out.mono ?_;rintro e w' ⟨rfl,rfl⟩;cases hcon:M.rules[M.pos[l[k]].rule].last.contains l[k] with
    |true=>
     have HX:Hid (accK M l (k+1)=(M.pos[l[k]].rule:Int)):=Qh (by
      rw[hs.out,HACC.out,HGEN.out,HLA.out,HRU.out,if_pos ⟨(.inr hw2),hcon⟩])
     clear hcon;go_wp2_with fail
     go_roundw
     case rel=>exact⟨k+1,by omega,by go_num,by rw[HX.out],(hkn.trans hk2).trans hk3⟩
     case measure=>simp[intOf];omega
    |false=>
     have HX:Hid (accK M l (k+1)=bst):=Qh (by
      rw[hs.out,HACC.out,HGEN.out,HLA.out,if_neg (fun h=>by rw[hcon] at h;exact absurd h.2 (by simp))])
     clear hcon;go_wp2_with fail
     go_roundw
     case rel=>exact⟨k+1,by omega,by go_num,by rw[HX.out],(hkn.trans hk2).trans hk3⟩
     case measure=>simp[intOf];omega
   ·have HX:Hid (accK M l (k+1)=bst):=Qh (by
     rw[hs.out,HACC.out,HGEN.out,HRU.out,if_neg (fun h=>by rcases h.1 with h|h;simp[h] at hw;exact hw2 h)])
    go_wp2_with fail
    refine HR.out.mono ?_;rintro e w2 ⟨rfl,hk2⟩;go_wp2_with fail
    go_roundw
    case rel=>exact⟨k+1,by omega,by go_num,by rw[HX.out],hkn.trans hk2⟩
    case measure=>simp[intOf];omega
  ·have e:k=l.length:=by omega
   have HF:Hid (accK M l k=M.accept l):=Qh (by rw[e];exact HE.out);clear e;go_wp2_with fail
   go_ret;exact⟨by rw[HF.out];try rfl,hkn⟩
def txt2(n:Nat):List UInt8:=[UInt8.ofNat n,UInt8.ofNat (n/256)]
def textF(l:List Nat):List UInt8:=l.flatMap txt2
theorem textF_len:∀l:List Nat,(textF l).length=2*l.length
 |[]=>rfl
 |x::l=>by
  have:=textF_len l;simp only[textF,List.flatMap_cons,List.length_append,List.length_cons] at this⊢;rw[this];simp[txt2];omega
theorem txt2_inj{a b:Nat}(ha:a<65536)(hb:b<65536)(h:txt2 a=txt2 b):a=b:=by
 simp only[txt2,List.cons.injEq,and_true] at h;have h1:=congrArg UInt8.toNat h.1;have h2:=congrArg UInt8.toNat h.2;simp only[UInt8.toNat_ofNat'] at h1 h2;omega
theorem textF_inj:∀ {a b:List Nat},(∀x∈a,x<65536)→(∀x∈b,x<65536)→textF a=textF b→a=b
 |[],[],_,_,_=>rfl
 |[],y::b,_,_,h=>by simp[textF,txt2] at h
 |x::a,[],_,_,h=>by simp[textF,txt2] at h
 |x::a,y::b,ha,hb,h=>by
  have e:txt2 x++textF a=txt2 y++textF b:=h;have h1:=List.append_inj e (by simp[txt2]);rw[txt2_inj (ha x (by simp)) (hb y (by simp)) h1.1,textF_inj (fun z hz=>ha z (by simp[hz])) (fun z hz=>hb z (by simp[hz])) h1.2]
theorem info_byte:(Tryz.prog.info? 5).map (fun i=>(i.zero,i.size,i.bytes))=some (some (.int .u8 0),1,1):=by kernel_rfl
abbrev byC(l:List UInt8):List Value:=l.map (fun b=>Value.int .u8 (b.toNat:Int))
theorem text_c(B:Nat)(v:Value)(l:List Nat)(w:World)(hv:OwnI w B v l)(hl:∀p∈l,p<65536)(hlen:l.length≤1000000):
  Calls Tryz.prog 267 #[v] w fun e w'=>e= .returned (.string ⟨(textF l).toArray⟩)∧Kn w w':=by
 obtain⟨a,c,rfl,h1,h2,h3⟩:=hv.look;have HC:Hid (∀j (hj:j<l.length),∃b:Nat,a=some ⟨b,0,none⟩∧w.cell? ⟨b,j,none⟩=some (.int .i64 (l[j]:Nat))):=Qh (fun j hj=>by
  obtain⟨b,e,_,_,h4⟩:=h3 (fun e=>by rw[e] at hj;simp at hj);exact⟨b,e,(h4 j hj).1⟩)
 have HL:=Qh hl;obtain⟨i0,hi,hz0,hz1,hz2⟩:=info_parts info_byte;have HI:=Qh (And.intro hi (And.intro hz0 (And.intro hz1 hz2)));clear hl hv h1 h2 h3 hi hz0 hz1 hz2;go_enter Tryz.func267,Tryz.ntmps267;go_wp2_with (first|(at_make;go_must (refine wpList_make_own _ rfl (.const (.int .i64 0)) (.tmp 8) 242 rfl w.heap.size 5 i0 (.int .u8 0) 1 Tryz.underlying242 HI.out.1 HI.out.2.1 HI.out.2.2.1 .i64 .i64 (2*(l.length:Int)) (2*l.length) rfl rfl (by omega) (by rw[HI.out.2.2.2];omega) (by simp only[maxLen];omega) (Nat.le_refl _) ?_;intro w1 hown1 hg1)))
 obtain⟨gb,hgb⟩:∃g,g=w.heap.size:=⟨_,rfl⟩;rw[←hgb] at hown1⊢;have hg:w.heap.size≤gb:=by omega
 have hgl:gb<w1.heap.size:=(hown1.lt gb rfl).2;have hk1:Kn w w1:=QT hg1 (fun k e _=>by cases e);clear hgb;go_loopw [3,5,12,14,15,16,17,18,19,20,21,22,23,24] (fun s _ i _ _ _ _ _ _ _ _ _ _ _ wr=>∃k:Nat,k≤l.length∧i= .int .i64 k∧s= .slice (some ⟨gb,0,none⟩) (2*k) (2*l.length)∧Hid (wr.ownsRow gb 5 1 (.slice (some ⟨gb,0,none⟩) (2*k) (2*l.length)) (2*k) (byC (textF (l.take k))))∧Kn w wr) (fun _ _ i _ _ _ _ _ _ _ _ _ _ _ _=>l.length-(intOf i).toNat)
 case atStart=>exact⟨0,Nat.zero_le _,rfl,rfl,Qh hown1,hk1⟩
 case round=>
  obtain⟨k,hk,rfl,rfl,hown,hkn⟩:=hrel;by_cases hlt:k<l.length
  ·obtain⟨b,rfl,hc0⟩:=HC.out k hlt;have hc:=Qc hkn hc0;have hx:=HL.out _ (List.getElem_mem hlt);clear hc0;have e1:((UInt8.ofNat l[k]).toNat:Int)=(l[k]:Int)%256:=by rw[UInt8.toNat_ofNat'];omega
   have e2:((UInt8.ofNat (l[k]/256)).toNat:Int)=(l[k]:Int)/256:=by rw[UInt8.toNat_ofNat'];omega
   have HS:Hid (byC (textF (l.take (k+1)))=byC (textF (l.take k))++[.int .u8 ((l[k]:Int)%256),.int .u8 ((l[k]:Int)/256)]):=Qh (by
    rw[List.take_succ_eq_append_getElem hlt];simp only[byC,textF,List.flatMap_append,List.map_append,List.flatMap_cons,List.flatMap_nil,List.append_nil,txt2,List.map_cons,List.map_nil,e1,e2])
   have hnews:=World.news_of_block (Qf wr (.cells #[.int .u8 ((l[k]:Int)%256),.int .u8 ((l[k]:Int)/256)] 5));have HN:=Qh (And.intro hown hnews);have hfit:2*k+2≤2*l.length:=by omega
   have HI1:=Qh HI.out.1;clear e1 e2 hnews;go_wp2_with (at_builtin;refine wpList_append_fits _ rfl (.tmp 16) (.tmp 22) 242 rfl gb 5 i0 1 Tryz.underlying242 HI.out.1 HI.out.2.2.1 gb (2*k) (2*l.length) _ rfl (HN.out.1.out.alloc _) ⟨wr.heap.size,0,none⟩ 2 2 _ rfl rfl HN.out.2 (by simp[Value.oneCell']) hfit ?_;intro w3 hown3 hg3)
   have hk3:Kn w w3:=(hkn.alloc _).trans' (QT (S:=fun k=>k=gb) hg3 (fun k e _=>by cases e;rfl)) (fun i hi e=>by omega);have HO3:=Qh hown3;clear hown3 hg3 hc;go_wp2_with fail
   go_roundw
   case rel=>exact⟨k+1,by omega,by go_num,rfl,Qh (by rw[HS.out];exact HO3.out),hk3⟩
   case measure=>simp[intOf];omega
  ·have e:k=l.length:=by omega
   have hrow:=hown.out;rw[e,List.take_length] at hrow;have hbl:=hrow.lt gb rfl;have hconv:=run_convert_bytes_back (P:=Tryz.prog) wr 242 9 5 ⟨gb,0,none⟩ (2*l.length) (textF l) Tryz.underlying242 Tryz.underlying5 Tryz.underlying9 (fun j hj=>by
    exact World.ownsRow.cells hrow (g:=gb) rfl j _ (by simp[hj]))
   rw[textF_len] at hconv;subst e;clear hrow;go_wp2_with fail
   go_ret;exact⟨rfl,hkn⟩
end Go.Proofs.YtiehgcfckhepaaaGreatDoor
