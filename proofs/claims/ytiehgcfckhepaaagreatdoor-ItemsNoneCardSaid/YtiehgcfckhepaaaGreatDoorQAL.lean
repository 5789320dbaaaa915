/-
  Texts of this claim, laid together: IMem, IRight, IOf, IMore, IAdd, IAddC, IIter, IApp, ICmp, ISwo, KSort, ISort, IClos, IStart. Conditions: none.
-/
import Derived.Test.YtiehgcfckhepaaaGreatDoorQAG
import Derived.Test.YtiehgcfckhepaaaGreatDoorQAK
import Derived.Test.YtiehgcfckhepaaaGreatDoorQAA
import Derived.RangeFuncSeq
import Derived.RangeFuncGives
import Derived.RangeFuncLeaves
import Derived.Sort.MapsRangeIn
import Derived.WalkKit
import Derived.OwnWalkIn
import Derived.TacticsInMore
import Derived.RegionIn
import Derived.LoopNIn
import Derived.LoopIn
import Derived.Sort.LoopGhostIn
import Derived.Shelf.SlIter.Collect
import Derived.Shelf.SlSortCmp.InsertionK
import Derived.Test.YtiehgcfckhepaaaGreatDoorQAC
import Derived.Shelf.GgSortFunc.InsertionK
import Derived.Shelf.SlSortCmp.WholeK
set_option linter.unusedVariables false
set_option linter.unusedSimpArgs false
set_option maxRecDepth 100000
set_option maxHeartbeats 16000000
namespace Go.Proofs.YtiehgcfckhepaaaGreatDoor
open Go.RowKit Go.Maps
abbrev QM:TypeId:=71
abbrev TMk:TypeId:=162
def itL(i:IT):List Value:=[.int .i64 i.1,.int .i64 i.2.1,.int .i64 i.2.2]
def itV(i:IT):Value:= .agg #[.int .i64 i.1,.int .i64 i.2.1,.int .i64 i.2.2]
theorem itV_inj{p q:IT}(h:itV p=itV q):p=q:=by
 unfold itV at h;injection h with h;have h2:=congrArg Array.toList h;simp at h2;exact Prod.ext h2.1 (Prod.ext h2.2.1 h2.2.2)
structure MkAt (w:World) (pm ps:Nat) (X:SX) (vl:Value) (vls:List Value) (B:Nat):Prop where
 blk:w.heap[pm]? =some (.cells #[ptr ps,vl] TMk (0,0))
 pr:PrAt w B vl X.b.l vls
 st:SetsIn w ps X
theorem MkAt.kn{w w':World}{pm ps:Nat}{X:SX}{vl:Value}{vls:List Value}{B:Nat}(h:MkAt w pm ps X vl vls B)(hk:Kn w w'):MkAt w' pm ps X vl vls B:=⟨hk.blk h.blk (fun x=>x),h.pr.kn hk,h.st.kn hk⟩
theorem MkAt.ok{w:World}{pm ps:Nat}{X:SX}{vl:Value}{vls:List Value}{B:Nat}(h:MkAt w pm ps X vl vls B):SBok X.b:=by obtain⟨_,_,_,_,_,_,h,_⟩:=h.st;exact h
def SymPost(l:List PR)(prod:Int)(w:World)(e:Ending)(w':World):Prop:=Kn w w'∧match Yt l prod with
 |some s=>∃a c,e= .returned (.tuple #[.slice a s.length c,.bool true])∧SyS w' a s∧s.length≤c∧c≤maxLen
 |none=>e= .returned (.tuple #[.slice none 0 0,.bool false])
theorem isymbols_c{w:World}{pm ps B:Nat}{X:SX}{vl:Value}{vls:List Value}(h:MkAt w pm ps X vl vls B)(prod:Int):
  Calls Tryz.prog 76 #[ptr pm,.int .i64 prod] w (SymPost X.b.l prod w):=by
 obtain⟨av,cv,hvl,hg⟩:=h.pr.prod;have hll:=h.ok.ll;have hpl:=Qj h.blk;have q1:w.cell? ⟨pm,1,none⟩=some vl:=by rw[Qa h.blk];try rfl
 rw[hvl] at q1;obtain⟨n,hn⟩:∃n,n=X.b.l.length:=⟨_,rfl⟩;rw[←hn] at q1 hll;have HN:=Qh hn;have HG:=Qh hg;clear h hvl hn hg;by_cases h1:prod= -1
 ·subst h1;have HF:Hid (Yt X.b.l (-1)=some [⟨true,0⟩]):=Qh rfl;have g1:decide ((-1:Int)< -1)=false:=by decide
  have g2:decide ((n:Int)≤-1)=false:=decide_eq_false (by omega);go_enter Tryz.func76,Tryz.ntmps76;go_wp2_with fail
  go_ret2
  refine⟨(Qb _ _).alloc _,?_⟩;rw[HF.out];exact⟨some ⟨w.heap.size,0,none⟩,1,rfl,fun _=>⟨_,0,rfl,fun i hi=>by
   obtain rfl:i=0:=by simp at hi;omega
   exact⟨by rw[Qa (Qf w _)];try rfl,by rw[Qa (Qf w _)];try rfl⟩⟩,by simp,by decide⟩
 ·by_cases h2:prod< -1
  ·have g1:decide (prod< -1)=true:=decide_eq_true h2;have HF:Hid (Yt X.b.l prod=none):=Qh (by unfold Yt;rw[if_neg h1,if_pos (by omega)]);clear h1 h2;go_enter Tryz.func76,Tryz.ntmps76;go_wp2_with fail
   go_ret2
   refine⟨Qb _ _,?_⟩;rw[HF.out];try rfl
  ·have g1:decide (prod< -1)=false:=decide_eq_false h2;obtain⟨k,rfl⟩:=Int.eq_ofNat_of_zero_le (show 0≤prod by omega);by_cases h3:k<n
   ·have g2:decide ((n:Int)≤(k:Int))=false:=decide_eq_false (by omega);have g3:((k:Int)== -1)=false:=by rw[beq_eq_false_iff_ne];omega
    obtain⟨g,rfl,hcs⟩:=HG.out (fun e=>by have:=HN.out;rw[e] at this;simp at this;omega);obtain⟨c0,c1,asy,cs,c2,hcs1,hcs2,hsy⟩:=hcs k (by have:=HN.out;omega);have hkl:k<X.b.l.length:=by have:=HN.out;omega
    have HF:Hid (Yt X.b.l (k:Int)=some X.b.l[k].syms):=Qh (by unfold Yt;rw[if_neg h1,if_neg (by omega),Int.toNat_natCast,List.getElem?_eq_getElem hkl];try rfl);have hki:(k:Int)<(n:Int):=by omega
    have HSY:=Qh (And.intro hcs1 (And.intro hcs2 hsy));obtain⟨m,hm⟩:∃m,m=X.b.l[k].syms.length:=⟨_,rfl⟩;rw[←hm] at c2;have HM:=Qh hm;clear h1 h2 hcs hm hcs1 hcs2 hsy c0 c1;go_enter Tryz.func76,Tryz.ntmps76;go_wp2_with fail
    go_ret2
    refine⟨Qb _ _,?_⟩;rw[HF.out];exact⟨asy,cs,by rw[HM.out];try rfl,fun hne=>by obtain⟨gs,h4,h5,_⟩:=HSY.out.2.2 hne;exact⟨gs,0,h4,h5⟩,HSY.out.1,HSY.out.2.1⟩
   ·have g2:decide ((n:Int)≤(k:Int))=true:=decide_eq_true (by omega);have HF:Hid (Yt X.b.l (k:Int)=none):=Qh (by unfold Yt;rw[if_neg h1,if_neg (by omega),Int.toNat_natCast,List.getElem?_eq_none (by have:=HN.out;omega)];try rfl);clear h1 h2;go_enter Tryz.func76,Tryz.ntmps76;go_wp2_with fail
    go_ret2
    refine⟨Qb _ _,?_⟩;rw[HF.out];try rfl
def slV(a:Option Addr)(c:Nat)(o:Option (List SY)):Value:=match o with|some s=> .tuple #[.slice a s.length c,.bool true]|none=> .tuple #[.slice none 0 0,.bool false]
theorem iend_c{w:World}{pm ps B:Nat}{X:SX}{vl:Value}{vls:List Value}(h:MkAt w pm ps X vl vls B):
  Calls Tryz.prog 78 #[ptr ps] w fun e w'=>e= .returned (.int .i64 (X.fin:Nat))∧w=w':=by
 obtain⟨B0,A,ge,gf,gw,hs,_,hf⟩:=h.st;rw[←hf];exact end_c hs
theorem isym_c{w:World}{pm ps B:Nat}{X:SX}{vl:Value}{vls:List Value}(h:MkAt w pm ps X vl vls B)(prod:Int){o:Option (List SY)}(ho:Yt X.b.l prod=o):
  Calls Tryz.prog 76 #[ptr pm,.int .i64 prod] w fun e w'=>∃a c,e= .returned (slV a c o)∧Kn w w'∧∀s,o=some s→SyS w' a s∧s.length≤c∧c≤maxLen:=by
 refine(isymbols_c h prod).mono ?_;rintro e w' ⟨hk,hs⟩;rw[ho] at hs;cases o with
 |none=>exact⟨none,0,hs,hk,fun s e=>by cases e⟩
 |some s=>
  obtain⟨a,c,he,h1,h2,h3⟩:=hs;exact⟨a,c,he,hk,fun s' e=>by cases e;exact⟨h1,h2,h3⟩⟩
theorem rightI_none{X:SX}{i:IT}(h:Yt X.b.l i.1=none):YC X i=false:=by unfold YC;rw[h]
theorem rightI_of{X:SX}{i:IT}{s:List SY}(h:Yt X.b.l i.1=some s):YC X i=(decide (0≤i.2.1)&&(decide (i.2.1≤s.length)&&(decide (0≤i.2.2)&&decide (i.2.2≤X.fin)))):=by unfold YC;rw[h]
theorem right_c{w:World}{pm ps B:Nat}{X:SX}{vl:Value}{vls:List Value}(h:MkAt w pm ps X vl vls B)(i:IT):
  Calls Tryz.prog 77 #[ptr pm,itV i] w fun e w'=>e= .returned (.bool (YC X i))∧Kn w w':=by
 obtain⟨p,b,t⟩:=i;show Calls _ _ #[ptr pm,.agg #[.int .i64 p,.int .i64 b,.int .i64 t]] w _;obtain⟨w1,hw1⟩:∃z,z=w.alloc (.cells #[.int .i64 p,.int .i64 b,.int .i64 t] QM):=⟨_,rfl⟩;obtain⟨b3,hb3⟩:∃z,z=w.heap.size:=⟨_,rfl⟩;have hk1:Kn w w1:=by rw[hw1];exact(Qb _ _).alloc _
 have hB3:w1.heap[b3]? =some (.cells #[.int .i64 p,.int .i64 b,.int .i64 t] QM (0,0)):=by rw[hw1,hb3];exact Qf _ _
 have y0:w1.cell? ⟨b3,0,none⟩=some (.int .i64 p):=by rw[Qa hB3];try rfl
 have HW:=Qh (And.intro hw1 hb3);have HB3:=Qh hB3;have HK1:=Qh hk1;have H1:=Qh (h.kn hk1);cases hsy:Yt X.b.l p with
 |none=>
  have HS:=Qh (isym_c H1.out p hsy);have HR:=Qh (rightI_none (X:=X) (i:=(p,b,t)) hsy);clear h hw1 hb3 hk1 hB3 hsy H1;go_enter Tryz.func77,Tryz.ntmps77;go_upto_region 1 with fail
  rw[←HW.out.1,←HW.out.2];clear HW;go_wp2_with (first|(go_at_call 76;go_must ((with_reducible refine HS.out.mono ?_);rintro e w2 ⟨a,c,rfl,hk2,_⟩;have HK2:Hid (Kn w w2):=Qh (HK1.out.trans hk2);dsimp only[slV])))
  go_quiet (fail)
  go_wp2_with fail
  go_ret;exact⟨by rw[HR.out];try rfl,HK2.out.drewN _⟩
 |some s=>
  have HS:=Qh (isym_c H1.out p hsy);have HR:=Qh (rightI_of (X:=X) (i:=(p,b,t)) hsy);obtain⟨n,hn⟩:∃n,n=s.length:=⟨_,rfl⟩;have HN:=Qh hn;clear h hw1 hb3 hk1 hB3 hsy hn;go_enter Tryz.func77,Tryz.ntmps77;go_upto_region 1 with fail
  rw[←HW.out.1,←HW.out.2];clear HW;go_upto_region 2 with(first|(go_at_call 76;go_must ((with_reducible refine HS.out.mono ?_);rintro e w2 ⟨a,c,rfl,hk2,_⟩;have HK2:Hid (Kn w w2):=Qh (HK1.out.trans hk2);have HK12:=Qh hk2;dsimp only[slV];rw[←HN.out])))
  have hB2:=HK12.out.blk HB3.out (fun x=>x);have H2:=Qh (H1.out.kn HK12.out);have z0:w2.cell? ⟨b3,0,none⟩=some (.int .i64 p):=by rw[Qa hB2];try rfl
  have z1:w2.cell? ⟨b3,1,none⟩=some (.int .i64 b):=by rw[Qa hB2];try rfl
  have z2:w2.cell? ⟨b3,2,none⟩=some (.int .i64 t):=by rw[Qa hB2];try rfl
  have hpm:w2.cell? ⟨pm,0,none⟩=some (ptr ps):=by rw[Qa H2.out.blk];try rfl
  have hpl:=Qj H2.out.blk;have hbl:=Qj hB2;have HE:=Qh (fun n=>iend_c (H2.out.kn ((Qb _ _).drewN n)));clear y0 hB2 HB3 H1 HS HK1 HK12;have hc:decide (0≤b)=false∨(decide (0≤b)=true∧decide (b≤(n:Int))=false)∨(decide (0≤b)=true∧decide (b≤(n:Int))=true∧decide (0≤t)=false)∨(decide (0≤b)=true∧decide (b≤(n:Int))=true∧decide (0≤t)=true):=by
   cases decide (0≤b)<;>cases decide (b≤(n:Int))<;>cases decide (0≤t)<;>simp
  rcases hc with g1|⟨g1,g2⟩|⟨g1,g2,g3⟩|⟨g1,g2,g3⟩
  ·go_quiet (fail)
   go_wp2_with fail
   go_ret;exact⟨by rw[HR.out,g1];try rfl,HK2.out.drewN _⟩
  ·go_quiet (fail)
   go_wp2_with fail
   go_ret;exact⟨by rw[HR.out,←HN.out,g1,g2];try rfl,HK2.out.drewN _⟩
  ·go_quiet (fail)
   go_wp2_with fail
   go_ret;exact⟨by rw[HR.out,←HN.out,g1,g2,g3];try rfl,HK2.out.drewN _⟩
  ·go_quiet ((go_at_call 78;first|exact quiet_left (HE.out _)|exact quiet_add_left (HE.out _)))
   go_wp2_with fail
   go_ret;exact⟨by rw[HR.out,←HN.out,g1,g2,g3];try rfl,HK2.out.drewN _⟩
def syV(y:SY):Value:= .agg #[.bool y.place,.int .i64 y.n]
def ahV(o:Option SY):Value:=match o with|some y=> .tuple #[syV y,.bool true]|none=> .tuple #[.agg #[.bool false,.int .i64 0],.bool false]
theorem resSy{fn:Func}{t u:Tmp}{tmps:Array Value}{W:World}{b:Nat}{x z y:Value}(h:fn.results= #[.cell t TSy,.tmp u])(ht:tmps[t]?.getD undef=ptr b)(hu:tmps[u]?.getD undef=y)(h0:W.cell? ⟨b,0,none⟩=some x)(h1:W.cell? ⟨b,1,none⟩=some z):(results fn tmps).run Tryz.prog W= .ok (.tuple #[.agg #[x,z],y]) W:=by
 simp[results,h,ht,hu,go_sem,h0,h1]
theorem aheadI_no{X:SX}{i:IT}(h:YC X i=false):Zb X i=none:=by unfold Zb;rw[h];try rfl
theorem aheadI_yes{X:SX}{i:IT}{s:List SY}(h:YC X i=true)(hs:Yt X.b.l i.1=some s):Zb X i=s[i.2.1.toNat]? :=by unfold Zb;rw[if_pos h,hs]
theorem sy_set{w:World}{b:Nat}{a c:Value}(x y:Value)(h:w.heap[b]? =some (.cells #[a,c] TSy (0,0))):((w.setCell ⟨b,0,none⟩ x).setCell ⟨b,1,none⟩ y).heap[b]? =some (.cells #[x,y] TSy (0,0)):=by
 have:=Qk (Qk h 0 x) 1 y;simpa using this
theorem sy_c0{w:World}{b:Nat}{a c:Value}(h:w.heap[b]? =some (.cells #[a,c] TSy (0,0))):w.cell? ⟨b,0,none⟩=some a:=by rw[Qa h];try rfl
theorem sy_c1{w:World}{b:Nat}{a c:Value}(h:w.heap[b]? =some (.cells #[a,c] TSy (0,0))):w.cell? ⟨b,1,none⟩=some c:=by rw[Qa h];try rfl
theorem it_c0{w:World}{b:Nat}{x y z:Value}(h:w.heap[b]? =some (.cells #[x,y,z] QM (0,0))):w.cell? ⟨b,0,none⟩=some x:=by rw[Qa h];try rfl
theorem it_c1{w:World}{b:Nat}{x y z:Value}(h:w.heap[b]? =some (.cells #[x,y,z] QM (0,0))):w.cell? ⟨b,1,none⟩=some y:=by rw[Qa h];try rfl
theorem it_c2{w:World}{b:Nat}{x y z:Value}(h:w.heap[b]? =some (.cells #[x,y,z] QM (0,0))):w.cell? ⟨b,2,none⟩=some z:=by rw[Qa h];try rfl
theorem kn_set2{w w2:World}{b:Nat}(h:Kn w w2)(hb:w.heap.size≤b)(x y:Value):Kn w ((w2.setCell ⟨b,0,none⟩ x).setCell ⟨b,1,none⟩ y):=
 (h.setCell (fun hp=>absurd hp (by show¬b<_;omega)) _).setCell (fun hp=>absurd hp (by show¬b<_;omega)) _
theorem ahead_c{w:World}{pm ps B:Nat}{X:SX}{vl:Value}{vls:List Value}(h:MkAt w pm ps X vl vls B)(i:IT):
  Calls Tryz.prog 31 #[ptr pm,itV i] w fun e w'=>e= .returned (ahV (Zb X i))∧Kn w w':=by
 have hrs:=rightI_some (X:=X) (i:=i);have hrt:=fun(w':World) (hk:Kn w w')=>right_c (h.kn hk) i
 obtain⟨p,b,t⟩:=i;dsimp only at hrs;unfold itV at hrt;dsimp only at hrt;show Calls _ _ #[ptr pm,.agg #[.int .i64 p,.int .i64 b,.int .i64 t]] w _;obtain⟨w1,hw1⟩:∃z,z=(w.alloc (.cells #[.int .i64 p,.int .i64 b,.int .i64 t] QM)).alloc (.cells #[.bool false,.int .i64 0] TSy):=⟨_,rfl⟩;obtain⟨b3,hb3⟩:∃z,z=w.heap.size:=⟨_,rfl⟩;obtain⟨b4,hb4⟩:∃z,z=w.heap.size+1:=⟨_,rfl⟩;have hk1:Kn w w1:=by rw[hw1];exact((Qb _ _).alloc _).alloc _
 have hB3:w1.heap[b3]? =some (.cells #[.int .i64 p,.int .i64 b,.int .i64 t] QM (0,0)):=by rw[hw1,hb3];exact Qm (Qf _ _) _
 have hB4:w1.heap[b4]? =some (.cells #[.bool false,.int .i64 0] TSy (0,0)):=by
  have:=Qf (w.alloc (.cells #[.int .i64 p,.int .i64 b,.int .i64 t] QM)) (.cells #[.bool false,.int .i64 0] TSy);rw[size_alloc',←hb4,←hw1] at this;exact this
 have y0:w1.cell? ⟨b3,0,none⟩=some (.int .i64 p):=by rw[Qa hB3];try rfl
 have HW:=Qh (And.intro hw1 (And.intro hb3 hb4));have HB3:=Qh hB3;have HB4:=Qh hB4;have HK1:=Qh hk1;have H1:=Qh (h.kn hk1);have HRT:=Qh hrt;have hb4w:w.heap.size≤b4:=by omega
 clear hw1 hb3 hb4 hB3 hB4 h hrt hk1;cases hsy:Yt X.b.l p with
 |none=>
  have HS:=Qh (isym_c H1.out p hsy);have HR:=Qh (aheadI_no (rightI_none (X:=X) (i:=(p,b,t)) hsy));clear hrs hsy;go_enter Tryz.func31,Tryz.ntmps31;go_upto_region 1 with fail
  rw[←HW.out.1,←HW.out.2.2,←HW.out.2.1];clear HW;go_wp2_with (first|(go_at_call 76;go_must ((with_reducible refine HS.out.mono ?_);rintro e w2 ⟨a,c,rfl,hk2,hsa⟩;have HK2:Hid (Kn w w2):=Qh (HK1.out.trans hk2);have HB42:=Qh (hk2.blk HB4.out (fun x=>x));have hb4l:=Qj HB42.out;have f4:=Qd HB42.out 0;have f5:=Qd HB42.out 1;have c40:=sy_c0 HB42.out;have c41:=sy_c1 HB42.out;dsimp only[slV])))
  refine bodyPost_ret (resSy rfl rfl rfl (sy_c0 (sy_set _ _ HB42.out)) (sy_c1 (sy_set _ _ HB42.out))) rfl ⟨by rw[HR.out];try rfl,kn_set2 HK2.out hb4w _ _⟩
 |some s=>
  have HS:=Qh (isym_c H1.out p hsy);obtain⟨n,hn⟩:∃n,n=s.length:=⟨_,rfl⟩;have HN:=Qh hn;cases hr:YC X (p,b,t) with
  |false=>
   have HR:=Qh (aheadI_no hr);rw[hr] at HRT;clear hrs hsy hn hr;go_enter Tryz.func31,Tryz.ntmps31;go_upto_region 1 with fail
   rw[←HW.out.1,←HW.out.2.2,←HW.out.2.1];clear HW;go_wp2_with (first|(go_at_call 76;go_must ((with_reducible refine HS.out.mono ?_);rintro e w2 ⟨a,c,rfl,hk2,hsa⟩;have HSA:=Qh (hsa s rfl).1;have HKK:=Qh (HK1.out.trans hk2);have HB41:=Qh (hk2.blk HB4.out (fun x=>x));have HB32:=Qh (hk2.blk HB3.out (fun x=>x));have hb3l:=Qj HB32.out;have q0:=it_c0 HB32.out;have q1:=it_c1 HB32.out;have q2:=it_c2 HB32.out;clear hk2 hsa;dsimp only[slV];rw[←HN.out]))|(go_at_call 77;go_must ((with_reducible refine(HRT.out _ HKK.out).mono ?_);rintro e w3 ⟨rfl,hk3⟩;have HK2:Hid (Kn w w3):=Qh (HKK.out.trans hk3);have HB42:=Qh (hk3.blk HB41.out (fun x=>x));have HB33:=Qh (hk3.blk HB32.out (fun x=>x));have hb3m:=Qj HB33.out;have r1:=it_c1 HB33.out;have hb4l:=Qj HB42.out;have f4:=Qd HB42.out 0;have f5:=Qd HB42.out 1;have c40:=sy_c0 HB42.out;have c41:=sy_c1 HB42.out;clear hk3 q0 q1 q2)))
   refine bodyPost_ret (resSy rfl rfl rfl (sy_c0 (sy_set _ _ HB42.out)) (sy_c1 (sy_set _ _ HB42.out))) rfl ⟨by rw[HR.out];try rfl,kn_set2 HK2.out hb4w _ _⟩
  |true=>
   have HR:=Qh (aheadI_yes hr hsy);obtain⟨s',hs',hb0,hbn,_⟩:=hrs hr;obtain rfl:s=s':=by rw[hsy] at hs';exact Option.some.inj hs'
   obtain⟨m,rfl⟩:=Int.eq_ofNat_of_zero_le hb0;rw[hr] at HRT;rw[←hn] at hbn;by_cases hmn:m=n
   ·have g1:((m:Int)==(n:Int))=true:=by rw[beq_iff_eq,hmn]
    have HR2:Hid (Zb X (p,(m:Int),t)=none):=Qh (by rw[HR.out];exact List.getElem?_eq_none (by rw[Int.toNat_natCast];omega));clear hsy hn hr hs' hrs hmn HR;have HR:=HR2;clear HR2;go_enter Tryz.func31,Tryz.ntmps31;go_upto_region 1 with fail
    rw[←HW.out.1,←HW.out.2.2,←HW.out.2.1];clear HW;go_wp2_with (first|(go_at_call 76;go_must ((with_reducible refine HS.out.mono ?_);rintro e w2 ⟨a,c,rfl,hk2,hsa⟩;have HSA:=Qh (hsa s rfl).1;have HKK:=Qh (HK1.out.trans hk2);have HB41:=Qh (hk2.blk HB4.out (fun x=>x));have HB32:=Qh (hk2.blk HB3.out (fun x=>x));have hb3l:=Qj HB32.out;have q0:=it_c0 HB32.out;have q1:=it_c1 HB32.out;have q2:=it_c2 HB32.out;clear hk2 hsa;dsimp only[slV];rw[←HN.out]))|(go_at_call 77;go_must ((with_reducible refine(HRT.out _ HKK.out).mono ?_);rintro e w3 ⟨rfl,hk3⟩;have HK2:Hid (Kn w w3):=Qh (HKK.out.trans hk3);have HB42:=Qh (hk3.blk HB41.out (fun x=>x));have HB33:=Qh (hk3.blk HB32.out (fun x=>x));have hb3m:=Qj HB33.out;have r1:=it_c1 HB33.out;have hb4l:=Qj HB42.out;have f4:=Qd HB42.out 0;have f5:=Qd HB42.out 1;have c40:=sy_c0 HB42.out;have c41:=sy_c1 HB42.out;clear hk3 q0 q1 q2)))
    refine bodyPost_ret (resSy rfl rfl rfl (sy_c0 (sy_set _ _ HB42.out)) (sy_c1 (sy_set _ _ HB42.out))) rfl ⟨by rw[HR.out];try rfl,kn_set2 HK2.out hb4w _ _⟩
   ·have g1:((m:Int)==(n:Int))=false:=by rw[beq_eq_false_iff_ne];omega
    have hml:m<s.length:=by omega
    have hmi:(m:Int)<(n:Int):=by omega
    have HR2:Hid (Zb X (p,(m:Int),t)=some s[m]):=Qh (by rw[HR.out];exact List.getElem?_eq_getElem hml);have HNE:Hid (s≠[]):=Qh (fun e=>by rw[e] at hml;simp at hml);clear hsy hn hr hs' hrs hmn HR;have HR:=HR2;clear HR2;go_enter Tryz.func31,Tryz.ntmps31;go_upto_region 1 with fail
    rw[←HW.out.1,←HW.out.2.2,←HW.out.2.1];clear HW;go_wp2_with (first|(go_at_call 76;go_must ((with_reducible refine HS.out.mono ?_);rintro e w2 ⟨a,c,rfl,hk2,hsa⟩;have HSA:=Qh (hsa s rfl).1;have HKK:=Qh (HK1.out.trans hk2);have HB41:=Qh (hk2.blk HB4.out (fun x=>x));have HB32:=Qh (hk2.blk HB3.out (fun x=>x));have hb3l:=Qj HB32.out;have q0:=it_c0 HB32.out;have q1:=it_c1 HB32.out;have q2:=it_c2 HB32.out;obtain⟨g,off,rfl,hgo⟩:=HSA.out HNE.out;have HG:=Qh (hgo m hml);clear hgo hk2 hsa;dsimp only[slV];rw[←HN.out]))|(go_at_call 77;go_must ((with_reducible refine(HRT.out _ HKK.out).mono ?_);rintro e w3 ⟨rfl,hk3⟩;have HK2:Hid (Kn w w3):=Qh (HKK.out.trans hk3);have HB42:=Qh (hk3.blk HB41.out (fun x=>x));have HB33:=Qh (hk3.blk HB32.out (fun x=>x));have hb3m:=Qj HB33.out;have r1:=it_c1 HB33.out;have hb4l:=Qj HB42.out;have f4:=Qd HB42.out 0;have f5:=Qd HB42.out 1;have c40:=sy_c0 HB42.out;have c41:=sy_c1 HB42.out;have s0:=Qc hk3 HG.out.1;have s1:=Qc hk3 HG.out.2;have hgl:=World.block_lt_of_cell? _ _ s0;clear hk3 q0 q1 q2)))
    refine bodyPost_ret (resSy rfl rfl rfl (sy_c0 (sy_set _ _ HB42.out)) (sy_c1 (sy_set _ _ HB42.out))) rfl ⟨by rw[HR.out];try rfl,kn_set2 HK2.out hb4w _ _⟩
theorem beginB_lt{X:SX}(hF:∀x∈X.first,x<M41)(l:List SY)(t:Int):beginB X l t<M41:=by
 unfold beginB;have h:=beginsF_lt (E:=X.empty) hF l 0 (by decide);dsimp only;split
 ·exact or_lt h (oneB_lt _)
 ·exact h
theorem iclone_c{w:World}{B:Nat}{v:Value}{l:List Nat}(h:OwnI w B v l)(hl:l.length≤1000000):
  Calls Tryz.prog 70 #[v] w fun e w'=>∃v',e= .returned v'∧OwnI w' w.heap.size v' l∧Kn w w':=by
 obtain⟨a,c,hv,_,_,hc⟩:=h.look;subst hv;by_cases hn:l=[]
 ·subst hn;cases a with
  |none=>
   refine(Tryz.slices_Clone_int_nil 0 c w).mono ?_;rintro e w' ⟨he,rfl⟩;exact⟨_,he,World.ownsRow_nil _ _ _ _,Qb _ _⟩
  |some a=>
   refine(Tryz.slices_Clone_int_zero a c w).mono ?_;rintro e w' ⟨v',he,ho,_,hb⟩;exact⟨v',he,ho,QB hb⟩
 ·obtain⟨b,rfl,_,_,hcs⟩:=hc hn;refine(Tryz.slices_Clone_int b 0 l.length c (l.map (fun x:Nat=>(x:Int))) w (by simp) (by omega) (fun j hj=> ?_)).mono ?_
  ·have hj':j<l.length:=by simpa using hj
   rw[Nat.zero_add,(hcs j hj').1];simp[List.getD_eq_getElem?_getD,hj']
  ·rintro e w' ⟨v',he,ho,_,hb⟩;refine⟨v',he,?_,QB hb⟩;rw[List.take_of_length_le (by simp),List.map_map] at ho;exact ho
theorem sbegin_c{w:World}{ps:Nat}{X:SX}(h:SetsIn w ps X){l:List SY}{a:Option Addr}{c:Nat}(hl:SyS w a l)(hll:l.length≤1000000)(t:Int):
  Calls Tryz.prog 121 #[ptr ps,.slice a l.length c,.int .i64 t] w fun e w'=>∃v B,e= .returned v∧OwnI w' B v (listB (beginB X l t))∧Kn w w':=by
 obtain⟨B0,A,ge,gf,gw,hs,hok,_⟩:=h;have HB:=Qh (begins_c (c:=c) l hs hok.le hl hll);have hlt:=beginB_lt (X:=X) hs.fz l t;have hr1:=beginsF_lt (E:=X.empty) hs.fz l 0 (by decide);have hpl:=hs.lt;have hbb:beginB X l t=if(Qx X.empty X.first 0 l).2=true then(Qx X.empty X.first 0 l).1|||YG t else(Qx X.empty X.first 0 l).1:=rfl;obtain⟨r,hr⟩:∃r,r=Qx X.empty X.first 0 l:=⟨_,rfl⟩;rw[←hr] at HB hr1 hbb;obtain⟨r1,r2⟩:=r;dsimp only at HB hr1 hbb;obtain⟨bb,hb⟩:∃bb,bb=beginB X l t:=⟨_,rfl⟩;rw[←hb] at hbb hlt⊢;obtain⟨n,hn⟩:∃n,n=l.length:=⟨_,rfl⟩;rw[←hn] at HB⊢;clear hs hok hr hb hl hn hll;go_enter Tryz.func121,Tryz.ntmps121;go_upto_region 4 with(first|(go_at_call 115;go_must ((with_reducible refine HB.out.mono ?_);rintro e w1 ⟨rfl,hk1⟩;have HK1:=Qh hk1;clear hk1)))
 obtain⟨w2,hw2⟩:∃z,z=w1.alloc (.cells #[.int .u64 (r1:Nat)] TBi):=⟨_,rfl⟩;obtain⟨b7,hb7⟩:∃z,z=w1.heap.size:=⟨_,rfl⟩;have HB2:Hid (w2.heap[b7]? =some (.cells #[.int .u64 (r1:Nat)] TBi (0,0))):=Qh (by rw[hw2,hb7];exact Qf _ _);have hk2:Kn w w2:=by rw[hw2];exact HK1.out.alloc _
 have HK2:=Qh hk2;have hb7w:w.heap.size≤b7:=by rw[hb7];exact HK1.out.size
 rw[←hw2,←hb7];have c7:w2.cell? ⟨b7,0,none⟩=some (.int .u64 (r1:Nat)):=by rw[Qa HB2.out];try rfl
 have hbl:=Qj HB2.out;clear hw2 hb7 hk2 HK1;cases r2 with
 |false=>
  rw[if_neg (by simp)] at hbb;subst hbb;have HL:=Qh (list_c bb hlt w2);go_wp2_with (first|(go_at_call 176;go_must ((with_reducible refine HL.out.mono ?_);rintro e w3 ⟨v,rfl,hv,hk3⟩;have HV:=Qh (And.intro hv (HK2.out.trans hk3));clear hv hk3)))
  go_ret;exact⟨v,_,rfl,HV.out.1,HV.out.2⟩
 |true=>
  rw[if_pos rfl] at hbb;subst hbb;have ho:=oneB_lt t;go_upto_region 5 with fail
  refine rgn (fun w'=>w'.cell? ⟨b7,0,none⟩=some (.int .u64 (r1:Nat))∧Kn w2 w') (X:=[]) ⟨Qc ((Qb _ _).drew) c7,(Qb _ _).drew⟩ (fun hX hHeld=> ?_);refine tk 0 18 ?_;refine tw 1 19 ?_;refine ro 2 (fun K hK=> ?_);go_simp
  go_at_call 68
  refine(sone_c t _).mono ?_;rintro e w4 ⟨rfl,hk4⟩;refine hK.out _ _ (⟨Qc hk4 hHeld.1,hHeld.2.trans hk4⟩) (fun hHeld=> ?_);clear hK K
  try simp only[PP]
  refine ro 3 (fun K hK=> ?_);go_simp
  go_at_call 116
  refine(with_kn r1 (YG t) hr1 ho _).mono ?_;rintro e w5 ⟨rfl,hk5⟩;refine hK.out _ _ (⟨Qc hk5 hHeld.1,hHeld.2.trans hk5⟩) (fun hHeld=> ?_);clear hK K
  try simp only[PP]
  refine re 4 (fun K hK=> ?_);have HB5:=Qh ((hHeld.2).blk HB2.out (fun x=>x));have f5:=Qd HB5.out 0;have c5:=hHeld.1;have HK5:=Qh (HK2.out.trans hHeld.2);go_simp;refine hK.out _ _ ?_;clear hK K;obtain⟨w6,hw6⟩:∃z,z=w5.setCell ⟨b7,0,none⟩ (.int .u64 ((r1|||YG t:Nat):Int)):=⟨_,rfl⟩;have HB6:Hid (w6.heap[b7]? =some (.cells #[.int .u64 ((r1|||YG t:Nat):Int)] TBi (0,0))):=Qh (by rw[hw6];exact Qk HB5.out 0 _);have HK6:Hid (Kn w w6):=Qh (by rw[hw6];exact HK5.out.setCell (fun hp=>absurd hp (by show¬b7<_;omega)) _);rw[←hw6];have c6:w6.cell? ⟨b7,0,none⟩=some (.int .u64 ((r1|||YG t:Nat):Int)):=by rw[Qa HB6.out];try rfl
  have hb6l:=Qj HB6.out;have HL:=Qh (list_c (r1|||YG t) hlt w6);clear hw6 c5 f5 hHeld hk4 hk5 hbl c7;go_wp2_with (first|(go_at_call 176;go_must ((with_reducible refine HL.out.mono ?_);rintro e w7 ⟨v,rfl,hv,hk7⟩;have HV:=Qh (And.intro hv (HK6.out.trans hk7));clear hv hk7)))
  go_ret;exact⟨v,_,rfl,HV.out.1,HV.out.2⟩
theorem sof_c{w:World}{ps:Nat}{X:SX}(h:SetsIn w ps X){n:Nat}(hn:n<X.b.places.length)(hl:(X.b.own.getD n []).length≤1000000):
  Calls Tryz.prog 122 #[ptr ps,.int .i64 (n:Nat)] w fun e w'=>∃v B,e= .returned v∧OwnI w' B v (X.b.own.getD n [])∧Kn w w':=by
 obtain⟨B0,A,ge,gf,gw,hs,hok,_⟩:=h;have H:=Qh (has_c n hs (by omega) (by omega));have hol:=hok.own;obtain⟨a,c,hv,_,_,hc⟩:=hs.of_.row.row (fun C hC=>by obtain⟨x,_,rfl⟩:=List.mem_map.1 hC;rfl);have hvl:=hs.of_.len;rw[List.length_map,hvl,hol] at hv;have hnv:n<A.vos.length:=by omega
 obtain⟨g,rfl,_,_,hcs⟩:=hc (fun e=>by have h2:=congrArg List.length e;rw[List.length_map,List.length_nil] at h2;omega);have c3:w.cell? ⟨ps,3,none⟩=some A.vo:=hs.cell 3;rw[hv] at c3;have e0:=(hcs n (by simpa using hnv) 0 (by omega)).1;rw[show 0+1*n+0=n by omega] at e0;have hov:=hs.of_.nums n hnv (by omega);have ev:w.cell? ⟨g,n,none⟩=some A.vos[n]:=by rw[e0];simp
 rw[show X.b.own[n]=X.b.own.getD n [] by rw[List.getD_eq_getElem?_getD,List.getElem?_eq_getElem (by omega)];try rfl] at hov;have HC:=Qh (iclone_c hov hl);have hn1:(n:Int)<X.b.places.length:=by omega
 have hgl:=World.block_lt_of_cell? _ _ ev;have hpl:=hs.lt;obtain⟨m,hm⟩:∃m,m=X.b.places.length:=⟨_,rfl⟩;rw[←hm] at c3 hn1;obtain⟨vn,hvn⟩:∃vn,vn=A.vos[n]:=⟨_,rfl⟩;rw[←hvn] at ev HC;clear hs hok hc hcs e0 hov hv hm hvn;go_enter Tryz.func122,Tryz.ntmps122;go_wp2_with (first|(go_at_call 177;go_must ((with_reducible refine H.out.mono ?_);rintro e w' ⟨rfl,rfl⟩))|(go_at_call 70;go_must ((with_reducible refine HC.out.mono ?_);rintro e w1 ⟨v,rfl,hv,hk1⟩;have HV:=Qh (And.intro hv hk1);clear hv hk1)))
 go_ret;exact⟨v,_,rfl,HV.out.1,HV.out.2⟩
theorem symsI_in{X:SX}(ok:SBok X.b){prod:Int}{s:List SY}(h:Yt X.b.l prod=some s):s.length≤20∧∀y∈s,y.place=true→0≤y.n∧y.n<X.b.places.length:=by
 unfold Yt at h;split at h
 ·cases h;refine⟨by simp,fun y hy _=> ?_⟩;simp at hy;subst hy;exact⟨Int.le_refl _,by have:=ok.pos;show(0:Int)<_;omega⟩
 ·split at h
  ·cases h
  ·obtain⟨q,hq,rfl⟩:=Option.map_eq_some_iff.1 h;have h1:=ok.pr q (List.mem_of_getElem? hq);exact⟨h1.2.2.1,fun y hy hp=>by have:=h1.2.2.2 y hy;rw[if_pos hp] at this;exact this⟩
theorem aheadI_some{X:SX}{i:IT}{y:SY}(h:Zb X i=some y):∃s,Yt X.b.l i.1=some s∧0≤i.2.1∧∃hb:i.2.1.toNat<s.length,s[i.2.1.toNat]=y:=by
 have hr:YC X i=true:=by
  cases hr:YC X i with
  |true=>rfl
  |false=>rw[aheadI_no hr] at h;cases h
 obtain⟨s,hs,h0,_⟩:=rightI_some hr;rw[aheadI_yes hr hs] at h;obtain⟨hb,h1⟩:=List.getElem?_eq_some_iff.1 h;exact⟨s,hs,h0,hb,h1⟩
def moreK(ts own:List Nat)(k:Nat):List IT:=(ts.take k).flatMap (fun t:Nat=>own.map (fun p:Nat=>((p:Int),0,(t:Int))))
def moreJ(L:List IT)(own:List Nat)(t j:Nat):List IT:=L++(own.take j).map (fun p:Nat=>((p:Int),0,(t:Int)))
theorem moreK_succ{ts own:List Nat}{k:Nat}(hk:k<ts.length):moreK ts own (k+1)=moreJ (moreK ts own k) own ts[k] own.length:=by
 unfold moreK moreJ;rw[List.take_succ_eq_append_getElem hk,List.flatMap_append,List.take_length];simp
theorem moreJ_succ{L:List IT}{own:List Nat}{t j:Nat}(hj:j<own.length):moreJ L own t (j+1)=moreJ L own t j++[(((own[j]:Nat):Int),(0:Int),(t:Int))]:=by
 unfold moreJ;rw[List.take_succ_eq_append_getElem hj,List.map_append,List.append_assoc];rfl
theorem moreK_len{ts own:List Nat}{m:Nat}(h:own.length≤m):∀ {k:Nat},k≤ts.length→(moreK ts own k).length≤k*m
 |0,_=>by simp[moreK]
 |k+1,hk=>by
  rw[moreK_succ hk];have:=moreK_len (ts:=ts) (own:=own) h (k:=k) (by omega);simp only[moreJ,List.length_append,List.length_map,List.take_length,Nat.add_mul];omega
theorem listB_len(x:Nat):(listB x).length≤41:=by unfold listB;exact Nat.le_trans (List.length_filter_le _ _) (by rw[List.length_range];exact Nat.le_refl _)
theorem info_it:(Tryz.prog.info? QM).map (fun i=>(i.zero,i.size,i.bytes))=some (some (.agg #[.int .i64 0,.int .i64 0,.int .i64 0]),3,24):=by kernel_rfl
theorem moreI_no{X:SX}{i:IT}(h:Zb X i=none):moreI X i=[]:=by unfold moreI;rw[h]
theorem moreI_cls{X:SX}{i:IT}{y:SY}(h:Zb X i=some y)(hp:y.place=false):moreI X i=[]:=by unfold moreI;rw[h];dsimp only;rw[if_neg (by rw[hp];simp)]
theorem moreI_yes{X:SX}{i:IT}{y:SY}{s:List SY}(h:Zb X i=some y)(hp:y.place=true)(hs:Yt X.b.l i.1=some s):moreI X i=moreK (listB (beginB X (s.drop (i.2.1.toNat+1)) i.2.2)) (X.b.own.getD y.n.toNat []) (listB (beginB X (s.drop (i.2.1.toNat+1)) i.2.2)).length:=by
 unfold moreI moreK;rw[h];dsimp only;rw[if_pos hp,hs,List.take_length];rfl
theorem syS_drop{w:World}{a:Option Addr}{s:List SY}{c k:Nat}(h:SyS w a s)(hk:k≤s.length)(hc:s.length≤c):SyS w (if c=k then a else Option.map (fun x=>x.add (k*2)) a) (s.drop k):=fun hne=>by
 have hl:(s.drop k).length≠0:=fun e=>hne (List.eq_nil_of_length_eq_zero e)
 rw[List.length_drop] at hl;obtain⟨g,off,ha,hg⟩:=h (fun e=>by rw[e] at hl;simp at hl);rw[if_neg (by omega),ha];refine⟨g,off+k*2,by simp[Addr.add],fun i hi=> ?_⟩;rw[List.length_drop] at hi;have h9:=hg (k+i) (by omega);rw[show off+(k+i)*2=off+k*2+i*2 by omega] at h9;rw[List.getElem_drop];exact h9
def MorePost(X:SX)(i:IT)(w:World)(e:Ending)(w':World):Prop:=∃v,e= .returned v∧OwnK w' w.heap.size QM 3 v ((moreI X i).map itL)∧Kn w w'
theorem more_c{w:World}{pm ps B:Nat}{X:SX}{vl:Value}{vls:List Value}(h:MkAt w pm ps X vl vls B)(hown:∀n,(X.b.own.getD n []).length≤1000)(i:IT):
  Calls Tryz.prog 80 #[ptr pm,itV i] w (MorePost X i w):=by
 have hrt:=fun(w':World) (hk:Kn w w')=>ahead_c (h.kn hk) i
 obtain⟨p,b,t⟩:=i;unfold itV at hrt⊢;dsimp only at hrt⊢;obtain⟨w1,hw1⟩:∃z,z=w.alloc (.cells #[.int .i64 p,.int .i64 b,.int .i64 t] QM):=⟨_,rfl⟩;obtain⟨b3,hb3⟩:∃z,z=w.heap.size:=⟨_,rfl⟩;have hk1:Kn w w1:=by rw[hw1];exact(Qb _ _).alloc _
 have HB3:Hid (w1.heap[b3]? =some (.cells #[.int .i64 p,.int .i64 b,.int .i64 t] QM (0,0))):=Qh (by rw[hw1,hb3];exact Qf _ _);have y0:=it_c0 HB3.out;have y1:=it_c1 HB3.out;have y2:=it_c2 HB3.out;have hb3l:=Qj HB3.out;have HW:=Qh (And.intro hw1 hb3);have HK1:=Qh hk1;have H1:=Qh (h.kn hk1);have hr1:=hrt w1 hk1;have hall:=H1.out.ok;clear hw1 hb3 h hrt hk1;cases hah:Zb X (p,b,t) with
 |none=>
  rw[hah] at hr1;have HR:=Qh hr1;have HM:=Qh (moreI_no hah);clear hr1 hah;go_enter Tryz.func80,Tryz.ntmps80;go_upto_region 1 with fail
  rw[←HW.out.1,←HW.out.2];clear HW;go_wp2_with (first|(go_at_call 31;go_must ((with_reducible refine HR.out.mono ?_);rintro e w2 ⟨rfl,hk2⟩;have HK2:=Qh (HK1.out.trans hk2);clear hk2;dsimp only[ahV])))
  go_ret;exact⟨.slice none 0 0,rfl,by rw[HM.out];exact OwnK.nil,HK2.out.alloc _⟩
 |some y=>
  rw[hah] at hr1;have HR:=Qh hr1;cases hyp:y.place with
  |false=>
   have HM:=Qh (moreI_cls hah hyp);dsimp only[ahV,syV] at HR;rw[hyp] at HR;clear hr1 hah hyp;go_enter Tryz.func80,Tryz.ntmps80;go_upto_region 1 with fail
   rw[←HW.out.1,←HW.out.2];clear HW;go_wp2_with (first|(go_at_call 31;go_must ((with_reducible refine HR.out.mono ?_);rintro e w2 ⟨rfl,hk2⟩;have HK2:=Qh (HK1.out.trans hk2);clear hk2)))
   go_ret;exact⟨.slice none 0 0,rfl,by rw[HM.out];exact OwnK.nil,HK2.out.alloc _⟩
  |true=>
   obtain⟨s,hsy,h0,hbl,hyy⟩:=aheadI_some hah;obtain⟨hs20,hsin⟩:=symsI_in hall hsy;have HM:=Qh (moreI_yes hah hyp hsy);have HS:=Qh (fun(W:World) (hk:Kn w1 W)=>isym_c (H1.out.kn hk) p hsy);dsimp only at h0 hbl hyy hsy HM;obtain⟨m,rfl⟩:=Int.eq_ofNat_of_zero_le h0;rw[Int.toNat_natCast] at hbl;simp only[Int.toNat_natCast] at hyy HM;obtain⟨hy0,hyn⟩:=hsin y (by rw[←hyy];exact List.getElem_mem hbl) hyp;obtain⟨yn,hyne⟩:=Int.eq_ofNat_of_zero_le hy0;rw[hyne] at hyn;dsimp only[ahV,syV] at HR;rw[hyp,hyne] at HR;rw[hyne,Int.toNat_natCast] at HM;clear hr1 hah hyp hsy h0 hyy hy0 hyne hsin;obtain⟨n,hn⟩:∃n,n=s.length:=⟨_,rfl⟩;have HN:=Qh hn;rw[←hn] at hbl hs20;clear hn;go_enter Tryz.func80,Tryz.ntmps80;go_upto_region 1 with fail
   rw[←HW.out.1,←HW.out.2];clear HW;go_upto_region 2 with(first|(go_at_call 31;go_must ((with_reducible refine HR.out.mono ?_);rintro e w2 ⟨rfl,hk2⟩;have HK2:=Qh hk2;clear hk2)))
   obtain⟨w3,hw3⟩:∃z,z=w2.alloc (.cells #[.bool true,.int .i64 (yn:Nat)] TSy):=⟨_,rfl⟩;obtain⟨b5,hb5⟩:∃z,z=w2.heap.size:=⟨_,rfl⟩;have HB5:Hid (w3.heap[b5]? =some (.cells #[.bool true,.int .i64 (yn:Nat)] TSy (0,0))):=Qh (by rw[hw3,hb5];exact Qf _ _);have hk3:Kn w1 w3:=by rw[hw3];exact HK2.out.alloc _
   have HK3:=Qh hk3;have HB33:=Qh (hk3.blk HB3.out (fun x=>x));rw[←hw3,←hb5];have z0:=it_c0 HB33.out;have hb3m:=Qj HB33.out;have e0:=sy_c0 HB5.out;have hb5l:=Qj HB5.out;clear hw3 hb5 HK2 y0 y1 y2 hb3l;have HS3:=Qh (HS.out w3 hk3);clear hk3;go_upto_region 6 with(first|(go_at_call 76;go_must ((with_reducible refine HS3.out.mono ?_);rintro e w4 ⟨a,c,rfl,hk4,hsa⟩;have HK4:=Qh hk4;have HSA:=Qh (hsa s rfl);clear hk4 hsa;dsimp only[slV];rw[←HN.out])))
   obtain⟨hsy4,hsc,hcm⟩:=HSA.out;rw[←HN.out] at hsc;have HSY:=Qh hsy4;have hk04:Kn w1 w4:=HK3.out.trans HK4.out;have H4:=Qh (H1.out.kn hk04);have HK04:=Qh (HK1.out.trans hk04);have HB34:=Qh (HK4.out.blk HB33.out (fun x=>x));have HB54:=Qh (HK4.out.blk HB5.out (fun x=>x));have hpm:w4.cell? ⟨pm,0,none⟩=some (ptr ps):=by rw[Qa H4.out.blk];try rfl
   have q1:=it_c1 HB34.out;have q2:=it_c2 HB34.out;obtain⟨k1,hk1⟩:∃k1,k1=m+1:=⟨_,rfl⟩;have hwr:IntKind.i64.wrap ((m:Int)+1)=(k1:Int):=by rw[hk1];exact IntWalk.i64_in _ (by omega)
   have hk1n:k1≤n:=by omega
   rw[←hk1] at HM;have hdl:(s.drop k1).length=n-k1:=by rw[List.length_drop,HN.out]
   have HBG:Hid (∀W,Kn w4 W→Calls Tryz.prog 121 #[ptr ps,.slice (if c=k1 then a else Option.map (fun x=>x.add (k1*2)) a) (n-k1) (c-k1),.int .i64 t] W fun e w'=>∃v B,e= .returned v∧OwnI w' B v (listB (beginB X (s.drop k1) t))∧Kn W w'):=Qh (fun W hk=>by
    have h9:=sbegin_c (c:=c-k1) ((H4.out.st).kn hk) (syS_drop (k:=k1) (HSY.out.kn hk) (by rw[←HN.out];exact hk1n) (by rw[←HN.out];exact hsc)) (by rw[hdl];omega) t;rw[hdl] at h9;exact h9)
   clear hk1 hdl;clear HSA HS3 HS hsy4 hk04 z0 e0 HB33 HB5 HB3 HK4 HK3 hb3m hb5l;refine rgm 11 (fun w'=>Kn w4 w'∧w'.cell? ⟨pm,0,none⟩=some (ptr ps)∧w'.cell? ⟨b3,1,none⟩=some (.int .i64 (m:Nat))∧w'.cell? ⟨b3,2,none⟩=some (.int .i64 t)) (X:=[]) ⟨(Qb _ _).drew,Qc ((Qb _ _).drew) hpm,Qc ((Qb _ _).drew) q1,Qc ((Qb _ _).drew) q2⟩ (fun hX hHeld=> ?_);refine twm 0 34 ?_;refine twm 1 35 ?_;refine twm 2 36 ?_;refine tkm 3 37 ?_;refine twm 4 38 ?_;refine twm 5 39 ?_;refine tkm 6 40 ?_;refine twm 7 41 ?_;refine twm 8 42 ?_;refine twm 9 43 ?_;refine tkm 10 44 ?_;refine twm 13 47 ?_;obtain⟨a2,ha2⟩:∃a2,a2=(if c=k1 then a else Option.map (fun x=>x.add (k1*2)) a):=⟨_,rfl⟩;rw[←ha2] at HBG⊢;clear ha2;refine rmm 11 (fun K hK=> ?_);go_simp
   go_at_call 121
   refine(HBG.out _ hHeld.1).mono ?_;rintro e w6 ⟨vt,Bt,rfl,hov,hk6⟩;have hk46:Kn w4 w6:=hHeld.1.trans hk6;obtain⟨at_,ct,hvt,_,_,hct⟩:=hov.look;have hL41:=listB_len (beginB X (s.drop k1) t);obtain⟨ts,hts⟩:∃ts,ts=listB (beginB X (s.drop k1) t):=⟨_,rfl⟩;rw[←hts] at hov hvt hct hL41 HM;subst hvt;obtain⟨nt,hnt⟩:∃nt,nt=ts.length:=⟨_,rfl⟩;have HNT:=Qh hnt;have HCT:=Qh hct;rw[←hnt] at hL41⊢;have HK6:=Qh (HK04.out.trans hk46);have H6:=Qh (H4.out.kn hk46);have HB36:=Qh (hk46.blk HB34.out (fun x=>x));have HB56:=Qh (hk46.blk HB54.out (fun x=>x));refine hK.out _ _ ?_;clear hK K hHeld hX hk46 hk6 hov hct hnt hts hwr HBG HSY HB34 HB54 H4 HK04 hpm q1 q2 H1 HK1
   try simp only[PP]
   refine rme 12 (fun K hK=> ?_);go_simp;refine hK.out _ _ ?_;clear hK K;obtain⟨own,howe⟩:∃own,own=X.b.own.getD yn []:=⟨_,rfl⟩;have hol:own.length≤1000:=by rw[howe];exact hown yn
   have HOF:Hid (∀W,Kn w6 W→Calls Tryz.prog 122 #[ptr ps,.int .i64 (yn:Nat)] W fun e w'=>∃v B,e= .returned v∧OwnI w' B v own∧Kn W w'):=Qh (fun W hk=>by
    have h9:=sof_c ((H6.out.st).kn hk) (n:=yn) (by omega) (by rw[←howe];omega);rw[←howe] at h9;exact h9)
   rw[←howe] at HM;have hpm:w6.cell? ⟨pm,0,none⟩=some (ptr ps):=by rw[Qa H6.out.blk];try rfl
   have f1:=sy_c1 HB56.out;obtain⟨ie,hi,hz0,hz1,hz2⟩:=info_parts info_it;have HIE:=Qh (And.intro hi (And.intro hz0 (And.intro hz1 hz2)));have HPM:=Qh (And.intro hpm f1);clear howe hi hz0 hz1 hz2 hown hpm f1;go_wp2_with fail
   go_loopw [9,47] (fun s9 s47 wr=>∃(k:Nat) (v:Value),v=s9∧s47= .int .i64 k∧k≤nt∧Hid (OwnK wr w6.heap.size QM 3 v ((moreK ts own k).map itL))∧Hid (Kn w6 wr)) (fun _ s47 _=>nt-(intOf s47).toNat)
   case atStart=>exact⟨0,_,rfl,rfl,Nat.zero_le _,Qh OwnK.nil,Qh (Qb _ _)⟩
   case round=>
    obtain⟨k,v,rfl,rfl,hk,hov,hkn⟩:=hrel;by_cases hlt:k<nt
    ·have hkt:k<ts.length:=by have:=HNT.out;omega
     obtain⟨gt,rfl,_,_,hcs⟩:=HCT.out (fun e=>by rw[e] at hkt;simp at hkt);have x0:=Qc hkn.out (hcs k hkt).1;have hgl:=World.block_lt_of_cell? _ _ x0;have HST:=Qh (moreK_succ (own:=own) hkt);have hML:=moreK_len (ts:=ts) hol (k:=k) (by omega);obtain⟨tk,htk⟩:∃z,z=ts[k]:=⟨_,rfl⟩;rw[←htk] at x0 HST;have p0:=Qc hkn.out HPM.out.1;have p1:=Qc hkn.out HPM.out.2;clear hcs htk;obtain⟨wo,hwo⟩:∃z,z=wr:=⟨_,rfl⟩;subst hwo;go_upto_region 9 with fail
     refine rgm 6 (fun w'=>Kn wo w'∧w'.cell? ⟨pm,0,none⟩=some (ptr ps)∧w'.cell? ⟨b5,1,none⟩=some (.int .i64 (yn:Nat))) (X:=[]) ⟨(Qb _ _).drew,Qc ((Qb _ _).drew) p0,Qc ((Qb _ _).drew) p1⟩ (fun hX hHeld=> ?_);refine twm 0 51 ?_;refine twm 1 52 ?_;refine twm 2 53 ?_;refine tkm 3 54 ?_;refine twm 4 55 ?_;refine tkm 5 56 ?_;refine twm 8 59 ?_;refine rmm 6 (fun K hK=> ?_);go_simp
     go_at_call 122
     refine(HOF.out _ (hkn.out.trans hHeld.1)).mono ?_;rintro e w7 ⟨vo,Bo,rfl,hoo,hk7⟩;have hk77:Kn wo w7:=hHeld.1.trans hk7;have HK7:=Qh (hkn.out.trans hk77);have HV7:=Qh (hov.out.kn hk77);obtain⟨ao,co,hvo,_,_,hco⟩:=hoo.look;obtain⟨no,hno⟩:∃no,no=own.length:=⟨_,rfl⟩;rw[←hno] at hvo hol;have HNO:=Qh hno;subst hvo;have HOO:=Qh hoo;refine hK.out _ _ ?_;clear hK K hHeld hX hk77 hk7 hoo hco hno p0 p1 x0 hgl hov
     try simp only[PP]
     refine rme 7 (fun K hK=> ?_);go_simp;refine hK.out _ _ ?_;clear hK K;go_wp2_with fail
     go_loopw [9,59] (fun s9 s59 wi=>∃(j:Nat) (v:Value),v=s9∧s59= .int .i64 j∧j≤no∧Hid (OwnK wi w6.heap.size QM 3 v ((moreJ (moreK ts own k) own tk j).map itL))∧Hid (Kn w6 wi)∧Hid (OwnI wi Bo (.slice ao no co) own)) (fun _ s59 _=>no-(intOf s59).toNat)
     case atStart=>exact⟨0,v,rfl,rfl,Nat.zero_le _,Qh (by unfold moreJ;rw[List.take_zero,List.map_nil,List.append_nil];exact HV7.out),HK7,HOO⟩
     case round=>
      clear HOO HV7 HK7;obtain⟨j,v,rfl,rfl,hj,hov,hkn,hoo⟩:=hrel;by_cases hjl:j<no
      ·have hjo:j<own.length:=by have:=HNO.out;omega
       obtain⟨ao',co',hvo,_,_,hco⟩:=hoo.out.look;rw[←HNO.out] at hvo;injection hvo with e1 _ e3;subst e1;subst e3;obtain⟨go,rfl,_,_,hcs⟩:=hco (fun e=>by rw[e] at hjo;simp at hjo);have x0:=(hcs j hjo).1;have hgl:=World.block_lt_of_cell? _ _ x0;have HJS:=Qh (moreJ_succ (L:=moreK ts own k) (t:=tk) hjo);obtain⟨oj,hoj⟩:∃z,z=own[j]:=⟨_,rfl⟩;rw[←hoj] at x0 HJS;obtain⟨L,hL⟩:∃L,L=moreJ (moreK ts own k) own tk j:=⟨_,rfl⟩;have hLL:L.length≤42000:=by
        rw[hL];simp only[moreJ,List.length_append,List.length_map,List.length_take];have:k*1000≤40*1000:=Nat.mul_le_mul_right _ (by omega);omega
       rw[←hL] at HJS hov;have hw6:=hkn.out.size;clear hcs hco hoj hL;obtain⟨wo,hwo⟩:∃z,z=wr:=⟨_,rfl⟩;subst hwo;go_wp2_with (at_builtin;go_must (refine QA _ rfl (.tmp 63) (.tmp 67) 62 rfl w6.heap.size QM ie (.agg #[.int .i64 0,.int .i64 0,.int .i64 0]) 3 24 Tryz.underlying62 HIE.out.1 HIE.out.2.1 HIE.out.2.2.1 HIE.out.2.2.2 (by rfl) (by decide) v (L.map itL) rfl (hov.out.kn ((Qb _ _).alloc (.cells #[.int .i64 (oj:Nat),.int .i64 0,.int .i64 (tk:Nat)] QM))) wo.heap.size 1 rfl #[.int .i64 (oj:Nat),.int .i64 0,.int .i64 (tk:Nat)] QM (0,0) (Qf _ _) rfl (by simp[Value.oneCell']) (by rw[List.length_map];simp only[maxLen];omega) (by rw[List.length_map];omega) (by rw[size_alloc'];omega) ?_;intro v1 w9 hown hka hat;have HX:=Qh (And.intro hown (And.intro hka hat));clear hown hka hat))
       have hkA:Kn wo (wo.alloc (.cells #[.int .i64 (oj:Nat),.int .i64 0,.int .i64 (tk:Nat)] QM)):=(Qb _ _).alloc _;have hov8:=hov.out.kn hkA;have HKN9:Hid (Kn w6 w9):=Qh ((hkn.out.trans hkA).trans' HX.out.2.1 (fun i hi e=>by have:=(hov8.lt i e.symm).1;omega));have HOO9:Hid (OwnI w9 Bo (.slice (some ⟨go,0,none⟩) no co) own):=Qh (row_off (QC hoo.out hkA (fun _ _ x=>x)) HX.out.2.1 (fun g c hg e=>by obtain⟨cur,h1⟩:=QH hov8 e.symm;exact Qn hg h1 (by decide)));go_roundw
       case rel=>exact⟨j+1,v1,rfl,by go_num,by omega,Qh (by rw[HJS.out,List.map_append];exact HX.out.1),HKN9,HOO9⟩
       case measure=>simp[intOf];omega
      ·obtain rfl:j=no:=by omega
       go_wp2_with fail
       go_roundw
       case rel=>exact⟨k+1,v,rfl,by go_num,by omega,Qh (by rw[HST.out,←HNO.out];exact hov.out),hkn⟩
       case measure=>simp[intOf];omega
    ·obtain rfl:k=nt:=by omega
     go_wp2_with fail
     go_ret;refine⟨v,rfl,?_,HK6.out.trans hkn.out⟩;rw[HM.out,←HNT.out];exact hov.out.base HK6.out.size
abbrev TMi:TypeId:=166
abbrev TSi:TypeId:=62
abbrev TPm:TypeId:=65
def Nt64(x:Int):Prop:= -9223372036854775808≤x∧x≤9223372036854775807
def ItOk(i:IT):Prop:=Nt64 i.1∧Nt64 i.2.1∧Nt64 i.2.2
theorem nt64_lits(d:Nat)(x:Int)(h:Nt64 x):∃ls,Tryz.prog.keyLits (d+1) 3 [.int .i64 x]=some ls:=by
 unfold Nt64 at h;have hw:(Lit.int .i64 x).wf=true:=by
  simp[Lit.wf,IntKind.min,IntKind.max,IntKind.signed,IntKind.bits];omega
 exact⟨[.int .i64 x],by simp[Program.keyLits,Tryz.underlying3,hw]⟩
theorem it_key:Keyed Tryz.prog QM:=Keyed.of_law (deep_law (m:=5) (by decide) (by kernel_rfl) (by kernel_rfl) (by kernel_rfl))
theorem it_fit(i:IT)(h:ItOk i):∃lx,keyOf Tryz.prog QM (itV i)=some lx:=by
 obtain⟨h1,h2,h3⟩:=h;have hkt:Tryz.prog.keyType QM=true:=by kernel_rfl
 have hc:Tryz.prog.cellsOf QM=3:=by kernel_rfl
 have hi:Tryz.prog.cellsOf 3=1:=by kernel_rfl
 have h2':decide (2≤Tryz.prog.types.size)=true:=by kernel_rfl
 have h3':=of_decide_eq_true h2';obtain⟨d,hd⟩:∃d,Tryz.prog.types.size=d+2:=⟨Tryz.prog.types.size-2,by omega⟩;obtain⟨la,hla⟩:=nt64_lits (d+1) i.1 (by assumption);obtain⟨lb,hlb⟩:=nt64_lits (d+1) i.2.1 (by assumption);obtain⟨lc,hlc⟩:=nt64_lits (d+1) i.2.2 (by assumption);have hfo:(itV i).formed Tryz.prog QM=true:=by
  unfold Value.formed itV;simp only[Tryz.underlying71,hc];rfl
 refine⟨.string (keyBytes [la,lb,lc].flatten),?_⟩;unfold keyOf;simp only[Tryz.underlying71,hkt,hfo,Bool.and_self,if_true,hd];unfold itV;simp only[Value.cells];unfold Program.keyLits;simp only[Tryz.underlying71,hc];simp[hi,hla,hlb,hlc]
def mtM(T:List IT):KV:=T.map (fun i=>(itV i,Value.bool true))
theorem mtM_snoc(T:List IT)(i:IT):mtM (T++[i])=mtM T++[(itV i,.bool true)]:=by simp[mtM]
theorem mtM_not{T:List IT}{i:IT}(h:i∉T):∀p∈mtM T,p.1≠itV i:=by
 intro p hp e;obtain⟨x,hx,rfl⟩:=List.mem_map.1 hp;exact h (itV_inj e▸hx)
theorem look_it1{w:World}{b:Nat}{T:List IT}{i:IT}(h:ItOk i)(hm:MapB w QM b (mtM T))(hi:i∈T):(Instr.lookup TMi (.map (some b)) (itV i) false).run Tryz.prog w= .ok (.bool true) w:=by
 obtain⟨l,hl⟩:=it_fit i h;exact hm.a.look1 it_key Tryz.underlying166 hl (List.mem_map.2 ⟨i,hi,rfl⟩) false
theorem look_it0{w:World}{b:Nat}{T:List IT}{i:IT}(h:ItOk i)(hm:MapB w QM b (mtM T))(hi:i∉T):(Instr.lookup TMi (.map (some b)) (itV i) false).run Tryz.prog w= .ok (.bool false) w:=by
 obtain⟨l,hl⟩:=it_fit i h;exact hm.a.look0 it_key Tryz.underlying166 (zero_bool w) hl (mtM_not hi) false
theorem put_it{w:World}{b:Nat}{T:List IT}{i:IT}(h:ItOk i)(hm:MapB w QM b (mtM T))(hi:i∉T):
  ∃w',(Instr.mapUpdate TMi (.map (some b)) (itV i) (.bool true)).run Tryz.prog w= .ok () w'∧MapB w' QM b (mtM (T++[i]))∧K1 b w w':=by
 obtain⟨l,hl⟩:=it_fit i h;rw[mtM_snoc];exact hm.put0 it_key Tryz.underlying166 hl (mtM_not hi) _
structure AdAt (w0 w:World) (pm b2 b5 b6 bm:Nat) (T:List IT) (v:Value):Prop where
 kn:Kn w0 w
 c2:w.heap[b2]? =some (.cells #[ptr pm] TPm (0,0))
 c5:w.heap[b5]? =some (.cells #[.map (some bm)] TMi (0,0))
 c6:w.heap[b6]? =some (.cells #[v] TSi (0,0))
 mp:MapB w QM bm (mtM T)
 row:OwnK w w0.heap.size QM 3 v (T.map itL)
 ge:w0.heap.size≤b6∧w0.heap.size≤bm
section
variable {w0 w w':World} {pm b2 b5 b6 bm:Nat} {T:List IT} {v:Value}
theorem AdAt.to(h:AdAt w0 w pm b2 b5 b6 bm T v)(hk:Kn w w'):AdAt w0 w' pm b2 b5 b6 bm T v:=⟨h.kn.trans hk,hk.blk h.c2 (fun x=>x),hk.blk h.c5 (fun x=>x),hk.blk h.c6 (fun x=>x),h.mp.kn hk,h.row.kn hk,h.ge⟩
theorem mp_tym{m:KV}(h:MapB w QM bm m):TyM (fun i=>i=bm) w:=Zc h.a
theorem AdAt.snoc{w1 w2 w3:World}{i:IT}{v1:Value}(h:AdAt w0 w pm b2 b5 b6 bm T v)(h1:MapB w1 QM bm (mtM (T++[i])))(k1:K1 bm w w1)(k2:Kn w1 w2)(h3:OwnK w3 w0.heap.size QM 3 v1 ((T++[i]).map itL))(k3:Kp (fun k=>some k=v.ownBlock) w2 w3):
  AdAt w0 (w3.setCell ⟨b6,0,none⟩ v1) pm b2 b5 b6 bm (T++[i]) v1:=by
 have hT:=mp_tym h.mp;have r2:OwnK w2 w0.heap.size QM 3 v (T.map itL):=OwnK.kn (Qy h.row k1 hT) k2;have hR:=QL r2;have c2':=Qw (k2.blk (Yv h.c2 k1 hT) (fun x=>x)) k3 hR (by decide);have c5':=Qw (k2.blk (Yv h.c5 k1 hT) (fun x=>x)) k3 hR (by decide);have c6':=Qw (k2.blk (Yv h.c6 k1 hT) (fun x=>x)) k3 hR (by decide);have hm3:MapB w3 QM bm (mtM (T++[i])):=(h1.kn k2).kp k3 (fun e=>by
  obtain⟨cur,hb⟩:=QH r2 e.symm;obtain⟨es,cl,hb2,_⟩:=h1.kn k2;rw[hb] at hb2;injection hb2 with hb2;cases hb2)
 have k4:K1 b6 w3 (w3.setCell ⟨b6,0,none⟩ v1):=Qg _ _;have hS:=QK c6';have hkk:Kn w0 w3:=by
  refine Kp.trans' (Kp.trans' (h.kn) (Kp.trans k1 (Kp.weak k2)) (fun j hj e=> ?_)) k3 (fun j hj e=> ?_)
  ·have:=h.ge.2;omega
  ·have:=(r2.lt j e.symm).1;omega
 refine⟨hkk.trans' k4 (fun j hj e=>by have:=h.ge.1;omega),Qw c2' k4 hS (by decide),Qw c5' k4 hS (by decide),?_,?_,Ql h3 k4 hS (by decide),h.ge⟩
 ·have:=Qk c6' 0 v1;simpa using this
 ·refine hm3.kp k4 (fun e=> ?_);obtain⟨es,cl,hb2,_⟩:=hm3;rw[e,c6'] at hb2;injection hb2 with hb2;cases hb2
end
def ItR(w:World)(g:Nat)(l:List IT):Prop:=∀k (h:k<l.length),w.cell? ⟨g,k*3,none⟩=some (.int .i64 l[k].1)∧w.cell? ⟨g,k*3+1,none⟩=some (.int .i64 l[k].2.1)∧w.cell? ⟨g,k*3+2,none⟩=some (.int .i64 l[k].2.2)
theorem ItR.of{w:World}{B:Nat}{v:Value}{l:List IT}(h:OwnK w B QM 3 v (l.map itL)):∃a c,v= .slice a l.length c∧l.length≤c∧c≤maxLen∧(l≠[]→∃g,a=some ⟨g,0,none⟩∧B≤g∧v.ownBlock=some g∧ItR w g l):=by
 obtain⟨a,c,hv,h1,h2,hc⟩:=h.row (fun C hC=>by obtain⟨x,_,rfl⟩:=List.mem_map.1 hC;rfl);rw[List.length_map] at hv h1;refine⟨a,c,hv,h1,h2,fun hne=> ?_⟩;obtain⟨g,ha,hB,ho,hcs⟩:=hc (by simpa using hne);refine⟨g,ha,hB,ho,fun k hk=> ?_⟩;have hk3:=hcs k (by simpa using hk);have e0:=(hk3 0 (by omega)).1;have e1:=(hk3 1 (by omega)).1;have e2:=(hk3 2 (by omega)).1;rw[show 0+3*k+0=k*3 by omega] at e0;rw[show 0+3*k+1=k*3+1 by omega] at e1;rw[show 0+3*k+2=k*3+2 by omega] at e2;exact⟨by rw[e0];simp[itL],by rw[e1];simp[itL],by rw[e2];simp[itL]⟩
theorem addsI_snoc(X:SX)(T l:List IT)(k:Nat)(hk:k<l.length):YL X T (l.take (k+1))=addI X (YL X T (l.take k)) l[k]:=by
 unfold YL;rw[List.take_succ_eq_append_getElem hk,List.foldl_append];try rfl
theorem addI_len(X:SX)(T:List IT)(i:IT):(addI X T i).length≤T.length+1:=by unfold addI;split<;>simp
theorem addsI_len(X:SX)(T:List IT):∀(l:List IT),(YL X T l).length≤T.length+l.length
 |[]=>Nat.le_refl _
 |i::l=>by have h1:=addsI_len X (addI X T i) l;have h2:=addI_len X T i;have e:YL X T (i::l)=YL X (addI X T i) l:=rfl;rw[e,List.length_cons];omega
theorem rightI_ok{X:SX}(ok:SBok X.b)(hf:X.fin≤1000000){i:IT}(h:YC X i=true):ItOk i:=by
 obtain⟨s,hs,h0,h1,h2,h3⟩:=rightI_some h;have h20:=(symsI_in ok hs).1;have hll:=ok.ll;unfold ItOk Nt64;refine⟨?_,by omega,by omega⟩;unfold Yt at hs;split at hs
 ·omega
 ·split at hs
  ·cases hs
  ·obtain⟨q,hq,_⟩:=Option.map_eq_some_iff.1 hs;have:=(List.getElem?_eq_some_iff.1 hq).1;omega
theorem ItR.same{w w':World}{g:Nat}{l:List IT}{cur:Array Value}{U:TypeId}{fr:Nat×Nat}(h:ItR w g l)(h1:w.heap[g]? =some (.cells cur U fr))(h2:w'.heap[g]? =some (.cells cur U fr)):ItR w' g l:=fun k hk=>by
 obtain⟨e0,e1,e2⟩:=h k hk;rw[Qa h1] at e0 e1 e2;exact⟨by rw[Qa h2];exact e0,by rw[Qa h2];exact e1,by rw[Qa h2];exact e2⟩
def IAddPost(X:SX)(w0:World)(pm b2 b5 b6 bm:Nat)(T l:List IT)(w:World)(e:Ending)(w':World):Prop:=∃v',e= .returned (.tuple #[])∧AdAt w0 w' pm b2 b5 b6 bm (YL X T l) v'∧w.heap.size≤w'.heap.size
theorem iadd_c{w0 w:World}{pm ps B:Nat}{X:SX}{vl:Value}{vls:List Value}(h:MkAt w0 pm ps X vl vls B)(hf:X.fin≤1000000){b2 b5 b6 bm:Nat}{T l:List IT}{v:Value}(ha:AdAt w0 w pm b2 b5 b6 bm T v)
  {a:Option Addr} {c:Nat} (hl:l≠[]→∃g,a=some ⟨g,0,none⟩∧ItR w g l∧(∃cur,w.heap[g]? =some (.cells cur QM (0,0)))∧v.ownBlock≠some g) (hll:T.length+l.length≤1000000):
  Calls Tryz.prog 79 #[.slice a l.length c,ptr b2,ptr b5,ptr b6] w (IAddPost X w0 pm b2 b5 b6 bm T l w):=by
 have H:=Qh h;have HA:=Qh ha;have HL:=Qh hl;have ok:=h.ok;obtain⟨n,hn⟩:∃n,n=l.length:=⟨_,rfl⟩;have HN:=Qh hn;rw[←hn] at hll⊢;have hp2:=Qj ha.c2;have hp5:=Qj ha.c5;have hp6:=Qj ha.c6;obtain⟨ie,hi,hz0,hz1,hz2⟩:=info_parts info_it;have HIE:=Qh (And.intro hi (And.intro hz0 (And.intro hz1 hz2)));clear h ha hl hn hi hz0 hz1 hz2;go_enter Tryz.func79,Tryz.ntmps79;go_wp2_with fail
 go_loopw [9] (fun s9 wr=>∃(k:Nat) (v':Value),s9= .int .i64 k∧k≤n∧Hid (AdAt w0 wr pm b2 b5 b6 bm (YL X T (l.take k)) v')∧w.heap.size≤wr.heap.size∧Hid (l≠[]→∃g,a=some ⟨g,0,none⟩∧ItR wr g l∧(∃cur,wr.heap[g]? =some (.cells cur QM (0,0)))∧v'.ownBlock≠some g)) (fun s9 _=>n-(intOf s9).toNat)
 case atStart=>exact⟨0,v,rfl,Nat.zero_le _,HA,Nat.le_refl _,HL⟩
 case round=>
  clear HA HL;obtain⟨k,v',rfl,hk,hA,hsz,hL⟩:=hrel;by_cases hlt:k<n
  ·have hkl:k<l.length:=by have:=HN.out;omega
   obtain⟨g,rfl,hit,hcur,hgv⟩:=hL.out (fun e=>by rw[e] at hkl;simp at hkl);obtain⟨x0,x1,x2⟩:=hit k hkl;have HST:=Qh (addsI_snoc X T l k hkl);have hlen:(YL X T (l.take k)).length≤1000000:=by
    have h1:=addsI_len X T (l.take k);rw[List.length_take] at h1;omega
   obtain⟨T',hT'⟩:∃z,z=YL X T (l.take k):=⟨_,rfl⟩;rw[←hT'] at hA HST hlen;obtain⟨i,hie⟩:∃z,z=l[k]:=⟨_,rfl⟩;rw[←hie] at x0 x1 x2 HST;have hgl:=World.block_lt_of_cell? _ _ x0;have HG:=Qh (And.intro hit (And.intro hcur hgv));obtain⟨w2,hw2⟩:∃z,z=wr.alloc (.cells #[.int .i64 i.1,.int .i64 i.2.1,.int .i64 i.2.2] QM):=⟨_,rfl⟩;have hk2:Kn wr w2:=by rw[hw2];exact(Qb _ _).alloc _
   obtain⟨b7,hb7⟩:∃z,z=wr.heap.size:=⟨_,rfl⟩;have HB7:Hid (w2.heap[b7]? =some (.cells #[.int .i64 i.1,.int .i64 i.2.1,.int .i64 i.2.2] QM (0,0))):=Qh (by rw[hw2,hb7];exact Qf _ _);have HA2:=Qh (hA.out.to hk2);have HK2:=Qh hk2;have HW2:=Qh (And.intro hw2 hb7);have hrc:=right_c (H.out.kn HA2.out.kn) i;have y0:=it_c0 HB7.out;have y1:=it_c1 HB7.out;have y2:=it_c2 HB7.out;have m2:w2.cell? ⟨b2,0,none⟩=some (ptr pm):=by rw[Qa HA2.out.c2];try rfl
   have hb7l:=Qj HB7.out;have hp2w:=Qj HA2.out.c2;clear hw2 hb7 hk2 hit hcur hgv hT' hie hL;go_upto_region 3 with fail
   rw[←HW2.out.1,←HW2.out.2];clear x0 x1 x2 HW2 hgl;cases hr:YC X i with
   |false=>
    rw[hr] at hrc;have HR:=Qh hrc;have HF:Hid (YL X T (l.take (k+1))=T'):=Qh (by rw[HST.out];unfold addI;rw[if_neg (by rw[hr];simp)]);clear hrc hr HST;unfold itV at HR;go_wp2_with (first|(go_at_call 77;go_must ((with_reducible refine HR.out.mono ?_);rintro e w3 ⟨rfl,hk3⟩;have HA3:=Qh (HA2.out.to hk3);have HK3:=Qh (HK2.out.trans hk3);clear hk3)))
    go_roundw
    case rel=>exact⟨k+1,v',by go_num,by omega,Qh (by rw[HF.out];exact HA3.out),Nat.le_trans hsz HK3.out.size,Qh (fun _=>⟨g,rfl,fun j hj=>⟨Qc HK3.out (HG.out.1 j hj).1,Qc HK3.out (HG.out.1 j hj).2.1,Qc HK3.out (HG.out.1 j hj).2.2⟩,by obtain⟨cur,hc⟩:=HG.out.2.1;exact⟨cur,HK3.out.blk hc (fun x=>x)⟩,HG.out.2.2⟩)⟩
    case measure=>simp[intOf];omega
   |true=>
    rw[hr] at hrc;have HR:=Qh hrc;have hok:=rightI_ok ok hf hr;by_cases hin:i∈T'
    ·have HF:Hid (YL X T (l.take (k+1))=T'):=Qh (by rw[HST.out];unfold addI;rw[if_neg (fun e=>e.2 hin)]);have HLK:Hid (∀W,Kn w2 W→(Instr.lookup TMi (.map (some bm)) (itV i) false).run Tryz.prog W= .ok (.bool true) W):=Qh (fun W hk=>look_it1 hok (HA2.out.to hk).mp hin);clear hrc hr HST hok hin;unfold itV at HR HLK;go_wp2_with (first|(go_at_call 77;go_must ((with_reducible refine HR.out.mono ?_);rintro e w3 ⟨rfl,hk3⟩;have hlk:=HLK.out w3 hk3;have HA3:=Qh (HA2.out.to hk3);have z0:=Qc hk3 y0;have z1:=Qc hk3 y1;have z2:=Qc hk3 y2;have m5:w3.cell? ⟨b5,0,none⟩=some (.map (some bm)):=by {rw[Qa HA3.out.c5];try rfl};have hb7m:=Nat.lt_of_lt_of_le hb7l hk3.size;have HK3:=Qh (HK2.out.trans hk3);clear hk3)))
     go_roundw
     case rel=>exact⟨k+1,v',by go_num,by omega,Qh (by rw[HF.out];exact HA3.out),Nat.le_trans hsz HK3.out.size,Qh (fun _=>⟨g,rfl,fun j hj=>⟨Qc HK3.out (HG.out.1 j hj).1,Qc HK3.out (HG.out.1 j hj).2.1,Qc HK3.out (HG.out.1 j hj).2.2⟩,by obtain⟨cur,hc⟩:=HG.out.2.1;exact⟨cur,HK3.out.blk hc (fun x=>x)⟩,HG.out.2.2⟩)⟩
     case measure=>simp[intOf];omega
    ·have HF:Hid (YL X T (l.take (k+1))=T'++[i]):=Qh (by rw[HST.out];unfold addI;rw[if_pos ⟨hr,hin⟩]);have HLK:Hid (∀W,Kn w2 W→(Instr.lookup TMi (.map (some bm)) (itV i) false).run Tryz.prog W= .ok (.bool false) W):=Qh (fun W hk=>look_it0 hok (HA2.out.to hk).mp hin);have HPT:Hid (∀W,Kn w2 W→∃w',(Instr.mapUpdate TMi (.map (some bm)) (itV i) (.bool true)).run Tryz.prog W= .ok () w'∧MapB w' QM bm (mtM (T'++[i]))∧K1 bm W w'):=Qh (fun W hk=>put_it hok (HA2.out.to hk).mp hin);obtain⟨av,cv,hv,_⟩:=ItR.of HA2.out.row;obtain⟨nT,hnT⟩:∃z,z=T'.length:=⟨_,rfl⟩;rw[←hnT] at hv hlen;have HNT:=Qh hnT;subst hv;clear hrc hr HST hok hin hnT;unfold itV at HR HLK HPT;go_wp2_with (first
      |(go_at_call 77;go_must ((with_reducible refine HR.out.mono ?_);rintro e w3 ⟨rfl,hk3⟩;have hlk:=HLK.out w3 hk3;obtain⟨w4,hrun,hm4,hk4⟩:=HPT.out w3 hk3;have HA3:=Qh (HA2.out.to hk3);have z0:=Qc hk3 y0;have z1:=Qc hk3 y1;have z2:=Qc hk3 y2;have m5:w3.cell? ⟨b5,0,none⟩=some (.map (some bm)):=by {rw[Qa HA3.out.c5];try rfl};have hb7m:=Nat.lt_of_lt_of_le hb7l hk3.size;have HB73:=Qh (hk3.blk HB7.out (fun x=>x));have hT4:=mp_tym HA3.out.mp;have HB74:=Qh (Yv HB73.out hk4 hT4);have u0:=it_c0 HB74.out;have u1:=it_c1 HB74.out;have u2:=it_c2 HB74.out;have hb7n:=Nat.lt_of_lt_of_le hb7m hk4.size;have HC6:=Qh (Yv HA3.out.c6 hk4 hT4);have m6:w4.cell? ⟨b6,0,none⟩=some (.slice av nT cv):=by {rw[Qa HC6.out];try rfl};have hb6n:=Qj HC6.out;have HR4:=Qh (Qy HA3.out.row hk4 hT4);have HM4:=Qh (And.intro hm4 hk4);have HK3:=Qh (HK2.out.trans hk3);have hw0:=Nat.le_trans HA3.out.kn.size hk4.size;clear hk3 hm4 hk4 hT4 HB73))
      |(at_builtin;go_must (refine QA _ rfl (.tmp 24) (.tmp 26) 62 rfl w0.heap.size QM ie (.agg #[.int .i64 0,.int .i64 0,.int .i64 0]) 3 24 Tryz.underlying62 HIE.out.1 HIE.out.2.1 HIE.out.2.2.1 HIE.out.2.2.2 (by rfl) (by decide) (.slice av nT cv) (T'.map itL) rfl (OwnK.kn HR4.out ((Qb _ _).alloc (.cells #[.int .i64 i.1,.int .i64 i.2.1,.int .i64 i.2.2] QM))) w4.heap.size 1 rfl #[.int .i64 i.1,.int .i64 i.2.1,.int .i64 i.2.2] QM (0,0) (Qf _ _) rfl (by simp[Value.oneCell']) (by rw[List.length_map,←HNT.out];simp only[maxLen];omega) (by rw[List.length_map,←HNT.out];omega) (by rw[size_alloc'];omega) ?_;intro v1 w6 hown hka hat;have hkA:Kn w4 (w4.alloc (.cells #[.int .i64 i.1,.int .i64 i.2.1,.int .i64 i.2.2] QM)):=(Qb _ _).alloc _;obtain⟨a1,c1,hv0,_⟩:=hown.row (k:=3) (fun D hD=>by {rcases List.mem_append.1 hD with h|h; {obtain⟨x,_,rfl⟩:=List.mem_map.1 h;rfl}; {simp at h;rw[h];try rfl} });obtain⟨n1,hv1⟩:∃n,v1= .slice a1 n c1:=⟨_,hv0⟩;clear hv0;subst hv1;have HC66:=Qh (Qw (hkA.blk HC6.out (fun x=>x)) hka (QL (OwnK.kn HR4.out hkA)) (by decide));have m66:w6.cell? ⟨b6,0,none⟩=some (.slice av nT cv):=by {rw[Qa HC66.out];try rfl};have f66:=Qd HC66.out 0;have hb66:=Qj HC66.out;have HX:=Qh (And.intro hown (And.intro hka hat));clear hown hka hat hkA)))
     have hkA:Kn w4 (w4.alloc (.cells #[.int .i64 i.1,.int .i64 i.2.1,.int .i64 i.2.2] QM)):=(Qb _ _).alloc _;have hAN:=AdAt.snoc (i:=i) (v1:= .slice a1 n1 c1) HA3.out HM4.out.1 HM4.out.2 hkA (by rw[List.map_append];exact HX.out.1) HX.out.2.1;have HAN:=Qh hAN;obtain⟨cur,hcg⟩:=HG.out.2.1;have hg4:=hkA.blk (Yv (HK3.out.blk hcg (fun x=>x)) HM4.out.2 (mp_tym HA3.out.mp)) (fun x=>x);have hg6:w6.heap[g]? =some (.cells cur QM (0,0)):=HX.out.2.1.blk hg4 (fun e=>HG.out.2.2 e.symm);have hg7:(w6.setCell ⟨b6,0,none⟩ (.slice a1 n1 c1)).heap[g]? =some (.cells cur QM (0,0)):=Qw hg6 (Qg _ _) (QK HC66.out) (by decide);have hsz7:w4.heap.size≤(w6.setCell ⟨b6,0,none⟩ (.slice a1 n1 c1)).heap.size:=Nat.le_trans (Nat.le_trans hkA.size HX.out.2.1.size) (Qg (p:=b6) (o:=0) w6 (.slice a1 n1 c1)).size;have hgl:=Qj hcg;have hs4:=HM4.out.2.size;have hs3:=HK3.out.size;have hne:(Value.slice a1 n1 c1).ownBlock≠some g:=fun e=>by
      rcases HX.out.2.2 with h1|h1
      ·exact HG.out.2.2 (h1.symm.trans e)
      ·rw[e] at h1;injection h1 with h1;rw[size_alloc'] at h1;omega
     have HITR:=Qh (ItR.same HG.out.1 hcg hg7);have HG7:=Qh hg7;clear hAN hcg hg4 hg6 hg7 hkA;go_roundw
     case rel=>exact⟨k+1,_,by go_num,by omega,Qh (by rw[HF.out];exact HAN.out),by omega,Qh (fun _=>⟨g,rfl,HITR.out,⟨cur,HG7.out⟩,hne⟩)⟩
     case measure=>simp[intOf];omega
  ·obtain rfl:k=n:=by omega
   go_wp2_with fail
   refine bodyPost_end (results_none rfl _ _ _) rfl ?_;refine⟨v',rfl,?_,hsz⟩;have:=hA.out;rwa[HN.out,List.take_length] at this
section
variable {F:Fence} {n:Nat} {w:World} {k e t:TypeId} {b r:Nat} {m L:KV} {ops:Array Oper} {rest:List Oper} {o:Oper} {a:Act} {Q:Exit→Act→World→Prop}
theorem wpListIn_rangeB(hg:o.guard=none)(mo:Operand)(hop:o.op=Op.range t mo)(ht:Tryz.prog.underlying t=some (.map k e))(hm:a.eval mo= .map (some b))(h:MapB w k b m)
  (hK:∀w',RangB w' k b w.heap.size m m→Kn w w'→w'.heap.size=w.heap.size+1→wpListIn F n Tryz.prog ops Q rest (a.put o.dst (.pointer (some ⟨w.heap.size,0,none⟩))) w'):wpListIn F n Tryz.prog ops Q (o::rest) a w:=by
 refine wpListIn_plain hg fun K' hK'=> ?_
 obtain⟨es,clock,hb,he,hs,hk⟩:=h;have hrun:=run_range_map w t k e b es clock ht hb;unfold Oper.wpIn;refine⟨by simp[Oper.about,hop],?_⟩;rw[Oper.semAt_plain F _ _ (by rw[hop];intro c hc';cases hc')];simp[execOp,hop,hm,hrun,Result.andThen];exact hK' _ _ (hK _ ⟨es,clock,clock,#[],clock,Qm hb _,he,hs,hk,Qf w _,hs.1,Nat.le_refl _,Nat.le_refl _,by rw[left_all];exact he⟩ ((Qb _ _).alloc _) (size_alloc' _ _))
theorem wpListIn_nextB(hg:o.guard=none)(it:Operand)(hop:o.op=Op.next it false)(hit:a.eval it= .pointer (some ⟨r,0,none⟩))(h:RangB w k b r m L)
  (hDone:L=[]→wpListIn F n Tryz.prog ops Q rest (a.put o.dst (.tuple #[.bool false])) w)
  (hMore:∀(p:Value×Value) (L1 L2:KV) (w':World),L=L1++p::L2→p∈m→RangB w' k b r m (L1++L2)→K1 r w w'→(Instr.entry (.pointer (some ⟨r,0,none⟩))).run Tryz.prog w'= .ok (.tuple #[p.1,p.2]) w'→
   wpListIn F n Tryz.prog ops Q rest (a.put o.dst (.tuple #[.bool true,p.1,p.2])) w'):wpListIn F n Tryz.prog ops Q (o::rest) a w:=by
 refine wpListIn_plain hg fun K' hK'=> ?_
 unfold Oper.wpIn;refine⟨by simp[Oper.about,hop],?_⟩;rw[Oper.semAt_plain F _ _ (by rw[hop];intro c hc';cases hc')];rcases h.next o.type with⟨h0,hrun⟩|⟨p,L1,L2,w',hL,hp,hrun,hr,hk,hen⟩
 ·simp[execOp,hop,hit,hrun,Result.andThen];exact hK' _ _ (hDone h0)
 ·simp[execOp,hop,hit,hrun,Result.andThen];exact hK' _ _ (hMore p L1 L2 w' hL hp hr hk hen)
theorem RangB.walks{w':World}(h:RangB w k b r m L)(hk:KeepsWalks w w'):RangB w' k b r m L:=by
 obtain⟨es,clock,since,seen,c0,hb,he,hs,hm,hr,rest⟩:=h;exact⟨es,clock,since,seen,c0,hk.same b _ hb rfl,he,hs,hm,hk.same r _ hr rfl,rest⟩
theorem RangB.walk(h:RangB w k b r m L):∃o:Obj,w.heap[r]? =some o∧o.isWalk=true:=by
 obtain⟨es,clock,since,seen,c0,hb,he,hs,hm,hr,rest⟩:=h;exact⟨_,hr,rfl⟩
end
theorem grown_kn{w w':World}(h:Kn w w'):w.grownBy w' none:=⟨h.os,h.tape,h.output,h.size,fun k hk _=>h.block k hk (fun x=>x)⟩
theorem grown_k1{w w':World}{r:Nat}(h:K1 r w w'):w.grownBy w' (some r):=⟨h.os,h.tape,h.output,h.size,fun k hk hn=>h.block k hk (fun e=>hn (by rw[e]))⟩
theorem mtM_cut{L1 L2:KV}{p:Value×Value}{L:List IT}(h:mtM L=L1++p::L2):∃La i Lb,L=La++i::Lb∧L1=mtM La∧p=(itV i,.bool true)∧L2=mtM Lb:=by
 obtain⟨La,L',rfl,rfl,h2⟩:=List.map_eq_append_iff.1 h;obtain⟨q,Lb,rfl,rfl,rfl⟩:=List.map_eq_cons_iff.1 h2;exact⟨La,q,Lb,rfl,rfl,rfl,rfl⟩
def RgI(w:World)(b r:Nat)(T L:List IT):Prop:=RangB w QM b r (mtM T) (mtM L)
theorem wpListIn_nextI{F:Fence}{n:Nat}{w:World}{b r:Nat}{T L:List IT}{ops:Array Oper}{rest:List Oper}{o:Oper}{a:Act}{Q:Exit→Act→World→Prop}(hg:o.guard=none)(it:Operand)(hop:o.op=Op.next it false)(hit:a.eval it= .pointer (some ⟨r,0,none⟩))(h:RgI w b r T L)
  (hDone:Hid (L=[])→wpListIn F n Tryz.prog ops Q rest (a.put o.dst (.tuple #[.bool false])) w)
  (hMore:∀(x y z:Int) (La Lb:List IT) (w':World),Hid (L=La++(x,y,z)::Lb)→Hid (RgI w' b r T (La++Lb))→Hid (K1 r w w')→
   (Instr.entry (.pointer (some ⟨r,0,none⟩))).run Tryz.prog w'= .ok (.tuple #[.agg #[.int .i64 x,.int .i64 y,.int .i64 z],.bool true]) w'→
   wpListIn F n Tryz.prog ops Q rest (a.put o.dst (.tuple #[.bool true,.agg #[.int .i64 x,.int .i64 y,.int .i64 z],.bool true])) w'):wpListIn F n Tryz.prog ops Q (o::rest) a w:=by
 refine wpListIn_nextB hg it hop hit h (fun e=>hDone (Qh (List.map_eq_nil_iff.1 e))) (fun p L1 L2 w' hL _ hr hk hen=> ?_);obtain⟨La,i,Lb,rfl,rfl,rfl,rfl⟩:=mtM_cut hL;obtain⟨x,y,z⟩:=i;exact hMore x y z La Lb w' (Qh rfl) (Qh (by unfold RgI;rw[show mtM (La++Lb)=mtM La++mtM Lb by simp[mtM]];exact hr)) (Qh hk) hen
theorem keysIt_gives{w:World}{Bm b:Nat}{T:List IT}(nn:Nat)(hn:1≤nn)(hm:w.cell? ⟨Bm,0,none⟩=some (.map (some b)))(hM:MapB w QM b (mtM T)):
  SeqGives Fence.wide nn Tryz.prog 180 #[.pointer (some ⟨Bm,0,none⟩)] itV (fun ss:List IT=>ss.Perm T) T.length w:=fun l J W hW hJ hY h0=>by
 have hK0:Kn w W:=QB hW;have hMW:=hM.kn hK0;have hmW:=Qc hK0 hm;clear hW hM hm hK0;refine callsIn_of_wp Tryz.func180 rfl trivial ?_ rfl;simp only[Tryz.ntmps180,List.size_toArray,List.length_cons,List.length_nil,Nat.reduceAdd,Nat.reduceSub,Array.replicate_succ,Array.replicate_zero,List.push_toArray,List.append_toArray,List.nil_append,List.cons_append]
 gi_wp2_with (first
  |(gi_at_range;refine wpListIn_rangeB rfl _ rfl Tryz.underlying166 rfl hMW ?_;intro w0 hrg0 hk0 hs0)
  |gi_in)
 go_frame
 gi_loopg [] (T.length+1) (fun f wr=>∃(L ss:List IT),Hid (RgI wr b W.heap.size T L)∧Hid ((ss++L).Perm T)∧L.length<f∧J ss wr)
 case atStart=>exact⟨T,[],Qh hrg0,Qh (List.Perm.refl _),by omega,hJ [] W w0 none h0 (grown_kn hk0) (fun r e=>by cases e)⟩
 case round=>
  obtain⟨L,ss,hrg,hpm,hLf,hJs⟩:=hrel;have hcs:=hpm.out.length_eq;rw[List.length_append] at hcs
  gi_wp2_with (first
   |(gi_at_next;refine wpListIn_nextI rfl _ rfl rfl hrg.out ?_ ?_)
   |gi_in)
  ·intro hL0
   gi_wp2
   go_end0
   refine⟨⟨_,rfl⟩,ss,?_,hJs⟩;have hp:=hpm.out;rw[hL0.out,List.append_nil] at hp;exact hp
  ·intro x y z La Lb w2 hL hrg2 hk2 hen;have hln:L.length=La.length+Lb.length+1:=by rw[hL.out];simp;omega
   have HPM:Hid (((ss++[(x,y,z)])++(La++Lb)).Perm T):=Qh (by
    have hp:=hpm.out;rw[hL.out] at hp;refine List.Perm.trans ?_ hp;rw[List.append_assoc];exact(List.perm_middle (a:=(x,y,z)) (l₁:=La) (l₂:=Lb)).symm.append_left ss)
   have hJ2:J ss w2:=hJ ss wr w2 (some W.heap.size) hJs (grown_k1 hk2.out) (fun r e=>by cases e;exact⟨Nat.le_refl _,RangB.walk hrg.out⟩);have hkA:Kn w2 (w2.alloc (.cells #[.int .i64 x,.int .i64 y,.int .i64 z] QM)):=(Qb _ _).alloc _;have hJA:J ss (w2.alloc (.cells #[.int .i64 x,.int .i64 y,.int .i64 z] QM)):=hJ ss w2 _ none hJ2 (grown_kn hkA) (fun r e=>by cases e);have HRG:=Qh (RangB.kp hrg2.out hkA (fun x=>x) (fun x=>x));obtain⟨fn,tmps,assign,body,hy,hR⟩:=hY ss (x,y,z) _ hJA (by omega);clear hkA hJ2 hJA;unfold itV at hy;dsimp only at hy
   gi_wp2
   refine hR.mono ?_;rintro e W3 ⟨rfl,hJ3,hk3⟩
   gi_wp2
   have hrg3:=Qh (RangB.walks HRG.out hk3)
   gi_roundg (gk-1)
   case rel=>exact⟨La++Lb,ss++[(x,y,z)],hrg3,HPM,by rw[List.length_append];omega,hJ3⟩
   case measure=>omega
open Go.RowKit Go.Maps Go.Sort Go.Shelf
def rfParts:Code→Option (Code×Code)
 | .seq a b=>(rfParts a).orElse (fun _=>rfParts b)
 | .block _ c=>rfParts c
 | .rangeFunc _ _ a b=>some (a,b)
 |_=>none
noncomputable def apCodes:Code×Code:=((Tryz.f229.body.bind rfParts).getD (.skip,.skip))
noncomputable def apRecI (fn:FuncId) (sv:Value) (Bs D:Nat) (st:LoopState) (pend:Option Code):Loop:=
 {state:=st,pending:=pend,fn,tmps:= #[.slice none 0 0,sv,.pointer (some ⟨Bs,0,none⟩),undef,.slice none 0 0,undef,sv,undef,undef,undef,undef,undef,undef],params:= #[7],assign:=apCodes.1,body:=apCodes.2,defers:=D}
structure ApI (w0:World) (fn:FuncId) (sv:Value) (Bs l D:Nat) (ss:List IT) (W:World):Prop where
 box:∃v,W.heap[Bs]? =some (.cells #[v] TSi (0,0))∧OwnK W w0.heap.size QM 3 v (ss.map itL)
 L:W.heap[l]? =some (.loop (apRecI fn sv Bs D .ready none))
 K:W.heap[D]? =some (.deferred (some []))
 below:Below w0.heap.size w0 W
theorem ApI.abides(w0:World)(fn:FuncId)(sv:Value)(Bs l D B:Nat)(hB:w0.heap.size≤B):AbidesFrom B (ApI w0 fn sv Bs l D):=fun s W W' row h hg hrow=>by
 have hrow':∀r,row=some r→∃o:Obj,W.heap[r]? =some o∧o.isWalk=true:=fun r e=>(hrow r e).2
 obtain⟨v,hv,hr⟩:=h.box;exact⟨⟨v,(grownBy_keeps hg hrow' hv rfl).trans hv,ownsRow_abides_a hr hg hrow'⟩,(grownBy_keeps hg hrow' h.L rfl).trans h.L,(grownBy_keeps hg hrow' h.K rfl).trans h.K,
  h.below.grown hg h.below.size (fun k e=>Nat.le_trans hB (hrow k e).1)⟩
theorem apYieldI(m:Nat)(w0:World)(fn:FuncId)(sv:Value)(Bs l D:Nat)(hBl:Bs≠l)(hDl:D≠l)(hDB:D≠Bs)(h0B:w0.heap.size≤Bs)(h0l:w0.heap.size≤l)
  (N:Nat) (hN:N≤1000000) (ss:List IT) (x:IT) (W:World) (h:ApI w0 fn sv Bs l D ss W) (hlen:ss.length<N):
  YieldAt Fence.wide m Tryz.prog l #[itV x] W fun e W'=>e= .returned (.bool true)∧ApI w0 fn sv Bs l D (ss++[x]) W'∧KeepsWalks W W':=by
 obtain⟨i0,hi,hz0,hz1,hz2⟩:=info_parts info_it;obtain⟨v,hv,hrow⟩:=h.box;refine⟨fn,#[.slice none 0 0,sv,.pointer (some ⟨Bs,0,none⟩),undef,.slice none 0 0,undef,sv,itV x,undef,undef,undef,undef,undef],apCodes.1,apCodes.2,by simpa[apRecI] using run_yield (P:=Tryz.prog) (args:= #[itV x]) h.L rfl,roundIn_of_wpIn trivial ?_⟩;obtain⟨px,bx,tx⟩:=x;have hl:l<W.heap.size:=Qj h.L;obtain⟨b5,hb5⟩:∃z,z=W.heap.size:=⟨_,rfl⟩;obtain⟨WA,hWA⟩:∃WA,WA=W.alloc (.cells #[.int .i64 px,.int .i64 bx,.int .i64 tx] QM):=⟨_,rfl⟩;have hkA:Kn W WA:=by rw[hWA];exact(Qb _ _).alloc _
 have hB5A:WA.heap[b5]? =some (.cells #[.int .i64 px,.int .i64 bx,.int .i64 tx] QM (0,0)):=by rw[hWA,hb5];exact Qf _ _
 have hLA:=hkA.blk h.L (fun x=>x);have hbr:=run_beginRound (P:=Tryz.prog) hLA rfl;obtain⟨W2,hW2⟩:∃W2,WA.putObj l (.loop {apRecI fn sv Bs D .ready none with state:= .busy})=W2:=⟨_,rfl⟩;rw[hW2] at hbr;have hg2:WA.grownBy W2 (some l):=by rw[←hW2];exact grownBy_putObj_a _ _ _
 have hk2:KeepsWalks W W2:=by rw[←hW2];exact(KeepsWalks.of_grownBy (grown_kn hkA) (fun j o e=>by cases e)).trans (KeepsWalks.putObj _ hLA rfl)
 have hv2:W2.heap[Bs]? =some (.cells #[v] TSi (0,0)):=by rw[←hW2];exact(World.putObj_heap_other hBl).trans (hkA.blk hv (fun x=>x))
 have hK2:W2.heap[D]? =some (.deferred (some [])):=by rw[←hW2];exact(World.putObj_heap_other hDl).trans (hkA.blk h.K (fun x=>x))
 have hL2:W2.heap[l]? =some (.loop {apRecI fn sv Bs D .ready none with state:= .busy}):=by rw[←hW2];exact World.putObj_heap_same (Qj hLA)
 have hB52:W2.heap[b5]? =some (.cells #[.int .i64 px,.int .i64 bx,.int .i64 tx] QM (0,0)):=by rw[←hW2];exact(World.putObj_heap_other (by omega)).trans hB5A
 have hrowA:OwnK WA w0.heap.size QM 3 v (ss.map itL):=hrow.kn hkA;have hrow2:OwnK W2 w0.heap.size QM 3 v (ss.map itL):=hrowA.kept hg2 (ownsRow_ne_a hrowA hLA (fun cur e=>by cases e));have hbA:Below w0.heap.size w0 WA:=h.below.grown (grown_kn hkA) h.below.size (fun k e=>by cases e);have hb2:Below w0.heap.size w0 W2:=hbA.grown hg2 hbA.size (fun k e=>by cases e;exact h0l);obtain⟨av,cv,hvv,_⟩:=ItR.of hrow2;obtain⟨ns,hns⟩:∃ns,ns=ss.length:=⟨_,rfl⟩;rw[←hns] at hvv hlen;subst hvv;obtain⟨hc2,hf2⟩:=cell_of_box_a hv2;have hBlt:=Qj hv2;have u0:=it_c0 hB52;have u1:=it_c1 hB52;have u2:=it_c2 hB52;have hb5l:=Qj hB52;have HNS:=Qh hns;have HI:=Qh (And.intro hi (And.intro hz0 (And.intro hz1 hz2)));have HW:=Qh (And.intro hWA hb5);have HX:=Qh (And.intro hv2 (And.intro hK2 (And.intro hL2 hrow2)));have HB:=Qh (And.intro hb2 hk2);have hsz:=hb2.size;clear hW2 hB52 hv2 hK2 hL2 hrow2 hrowA hbA hb2 hk2 hg2 hLA hB5A hkA hv hrow h hns hi hz0 hz1 hz2 hl hWA hb5;unfold itV;dsimp only;unfold apCodes;simp only[Tryz.f229,Option.bind_some,rfParts,Option.orElse,Option.getD_some]
 gi_wp2_with (rw[Oper.semAt_eq _ _ _ (fun c h=>by cases h)];go_simp;try go_bits)
 rw[←HW.out.1,←HW.out.2];refine⟨W2,hbr,?_⟩;clear hbr
 gi_wp2_with (first
  |(gi_at_builtin;go_must (refine wpListIn_append_own _ rfl _ _ TSi rfl w0.heap.size QM i0 (.agg #[.int .i64 0,.int .i64 0,.int .i64 0]) 3 24 Tryz.underlying62 HI.out.1 HI.out.2.1 HI.out.2.2.1 HI.out.2.2.2 rfl (by decide) (.slice av ns cv) _ _ rfl (OwnK.kn HX.out.2.2.2 ((Qb _ _).alloc (.cells #[.int .i64 px,.int .i64 bx,.int .i64 tx] QM))) ⟨W2.heap.size,0,none⟩ 1 1 [.int .i64 px,.int .i64 bx,.int .i64 tx] rfl rfl (World.news_of_block (Qf _ _)) (by simp[Value.oneCell']) (by rw[List.length_map,←HNS.out];simp only[maxLen];omega) (by rw[List.length_map,←HNS.out];omega) (by rw[size_alloc'];omega) ?_;intro v' w3 hown' hg3 hnil3;have hkB:Kn W2 (W2.alloc (.cells #[.int .i64 px,.int .i64 bx,.int .i64 tx] QM)):=(Qb _ _).alloc _;have hrB:=OwnK.kn HX.out.2.2.2 hkB;have hk3:Kp (fun k=>some k=(Value.slice av ns cv).ownBlock) (W2.alloc (.cells #[.int .i64 px,.int .i64 bx,.int .i64 tx] QM)) w3:=Kp.grownK hg3;have hv3:=Qw (hkB.blk HX.out.1 (fun x=>x)) hk3 (QL hrB) (by decide);have hn3:∀k,some k=(Value.slice av ns cv).ownBlock→∃cur,(W2.alloc (.cells #[.int .i64 px,.int .i64 bx,.int .i64 tx] QM)).heap[k]? =some (.cells cur QM (0,0)):=fun k e=>QH hrB e.symm;have hL3:w3.heap[l]? =some (.loop {apRecI fn sv Bs D .ready none with state:= .busy}):=hk3.blk (hkB.blk HX.out.2.2.1 (fun x=>x)) (fun e=>by {obtain⟨cur,h1⟩:=hn3 _ e;rw[hkB.blk HX.out.2.2.1 (fun x=>x)] at h1;cases h1});have hK3:w3.heap[D]? =some (.deferred (some [])):=hk3.blk (hkB.blk HX.out.2.1 (fun x=>x)) (fun e=>by {obtain⟨cur,h1⟩:=hn3 _ e;rw[hkB.blk HX.out.2.1 (fun x=>x)] at h1;cases h1});obtain⟨hc3,hf3⟩:=cell_of_box_a hv3;have hown2:OwnK w3 w0.heap.size QM 3 v' ((ss++[(px,bx,tx)]).map itL):=by {unfold OwnK;rw[List.map_append,List.length_append,List.flatten_append];simpa[itL] using hown'};obtain⟨a1,c1,hv1,_⟩:=ItR.of hown2;obtain⟨n1,hv2⟩:∃n,v'= .slice a1 n c1:=⟨_,hv1⟩;clear hv1;subst hv2;have HY:=Qh (And.intro hv3 (And.intro hL3 (And.intro hK3 (And.intro hown2 (And.intro hg3 hrB)))));have hBs3:=Qj hv3;clear hv3 hL3 hK3 hown2 hg3 hown' hnil3 hn3 hk3 hrB hkB))
  |(rw[Oper.semAt_eq _ _ _ (fun c h=>by cases h)];go_simp;try go_bits))
 obtain⟨hv3,hL3,hK3,hown2,hg3,hrB⟩:=HY.out;obtain⟨w4,hw4⟩:∃w4,w3.setCell ⟨Bs,0,none⟩ (.slice a1 n1 c1)=w4:=⟨_,rfl⟩;rw[hw4];have hg4:w3.grownBy w4 (some Bs):=by rw[←hw4];exact grownBy_setCell0_a _ _ _
 have hv4:w4.heap[Bs]? =some (.cells #[.slice a1 n1 c1] TSi (0,0)):=by rw[←hw4];exact heap_setCell_box_a _ hv3
 have hL4:w4.heap[l]? =some (.loop {apRecI fn sv Bs D .ready none with state:= .busy}):=(hg4.block l (Qj hL3) (fun e=>hBl (by cases e;rfl))).trans hL3;have hK4:w4.heap[D]? =some (.deferred (some [])):=(hg4.block D (Qj hK3) (fun e=>hDB (by cases e;rfl))).trans hK3;have hne:TSi≠QM:=by decide
 have hrow4:=hown2.kept hg4 (ownsRow_ne_a hown2 hv3 (fun cur e=>hne (Obj.cells.inj e).2.1));have hb3:Below w0.heap.size w0 w3:=(HB.out.1.alloc HB.out.1.size _).grown hg3 (by have:=HB.out.1.size;rw[size_alloc'];omega) (fun k e=>(hrB.lt k e).1);have hb4:Below w0.heap.size w0 w4:=hb3.grown hg4 hb3.size (fun k e=>by cases e;exact h0B);have hk4:KeepsWalks W w4:=((HB.out.2.trans (KeepsWalks.alloc _ _)).trans (KeepsWalks.of_grownBy hg3 (ownsRow_not_walk_a hrB))).trans (by rw[←hw4];exact KeepsWalks.setCell _ _ _);clear hw4;refine⟨_,_,run_endRound none hL4,rfl,⟨⟨_,(World.putObj_heap_other hBl).trans hv4,?_⟩,World.putObj_heap_same (Qj hL4),(World.putObj_heap_other hDl).trans hK4,hb4.grown (grownBy_putObj_a _ _ _) hb4.size (fun k e=>by cases e;exact h0l)⟩,hk4.trans (KeepsWalks.putObj _ hL4 rfl)⟩;exact hrow4.kept (grownBy_putObj_a w4 l (.loop { {apRecI fn sv Bs D .ready none with state:= .busy} with state:=if(none:Option Code).isNone then .ready else .done,pending:=none})) (ownsRow_ne_a hrow4 hL4 (fun cur e=>by cases e))
theorem appendSeqI(n g:Nat)(hn:2≤n)(lb:Array Value)(eg:∀args w,(callFunc g args).run Tryz.prog w= .ok (.enter g args) w)(S:List IT→Prop)(N:Nat)(hN:N≤1000000)(w:World)(hseq:SeqGives Fence.wide (n-1) Tryz.prog g lb itV S N w):
  CallsIn Fence.wide n Tryz.prog 229 #[.slice none 0 0,.func (.func g) #[] lb] w fun e w'=>∃(v:Value) (ss:List IT),e= .returned v∧S ss∧OwnK w' w.heap.size QM 3 v (ss.map itL)∧Below w.heap.size w w':=by
 have h1:1≤n:=by omega
 refine callsIn_of_wp_marks Tryz.func229 rfl trivial ?_ rfl;simp only[Tryz.ntmps229,List.size_toArray,List.length_cons,List.length_nil,Nat.reduceAdd,Nat.reduceSub,Array.replicate_succ,Array.replicate_zero,List.push_toArray,List.append_toArray,List.nil_append,List.cons_append]
 gi_wp2
 refine wpIn_rangeFunc ?_;intro fn hfn;have hro:Fence.wide.round=none:=rfl;rw[hro];obtain⟨W0,hW0⟩:∃W0,w.alloc (.cells #[.slice none 0 0] TSi)=W0:=⟨_,rfl⟩;have hs0:W0.heap.size=w.heap.size+1:=by rw[←hW0];simp
 have hv0:W0.heap[w.heap.size]? =some (.cells #[.slice none 0 0] TSi (0,0)):=by rw[←hW0];exact Qf w _
 have hb0:Below w.heap.size w W0:=by rw[←hW0];exact(Below.refl _ w).alloc (Nat.le_refl _) _
 rw[hW0];obtain⟨W1,hW1⟩:∃W1,(W0.alloc (.deferred (some []))).alloc (.loop (apRecI fn (.func (.func g) #[] lb) w.heap.size W0.heap.size .ready none))=W1:=⟨_,rfl⟩;have hold:∀k,k<W0.heap.size→W1.heap[k]? =W0.heap[k]? :=fun k hk=>by
  rw[←hW1];exact(Below.heap_alloc _ _ k (by simp;omega)).trans (Below.heap_alloc _ _ k hk)
 have hb1:Below w.heap.size w W1:=by rw[←hW1];exact(hb0.alloc hb0.size _).alloc (by have:=hb0.size;simp;omega) _
 have hs1:W1.heap.size=W0.heap.size+2:=by rw[←hW1];simp
 have hM:ApI w fn (.func (.func g) #[] lb) w.heap.size (W0.heap.size+1) W0.heap.size [] W1:=
  ⟨⟨_,(hold w.heap.size (by omega)).trans hv0,OwnK.nil⟩,
   by rw[←hW1];have:=Qf (W0.alloc (.deferred (some []))) (.loop (apRecI fn (.func (.func g) #[] lb) w.heap.size W0.heap.size .ready none));rwa[size_alloc'] at this,
   by rw[←hW1];exact(Below.heap_alloc _ _ _ (by simp)).trans (Qf W0 _),hb1⟩
 refine⟨W0.heap.size+1,[{target:= .collected W0.heap.size,args:= #[]}],W1, {target:= .fn (.func g) lb,args:= #[.func (.yield (W0.heap.size+1)) #[] #[]]},W1,g,
  #[.func (.yield (W0.heap.size+1)) #[] #[]]++lb,W1,?_,?_,?_,?_,fun _=>h1,?_⟩
 ·rw[←hW1];exact run_enterLoop_outer _ _ _ _ _
 ·simp[resolve,go_sem]
 ·intro f' _;trivial
 ·simp[invoke,go_sem,eg]
 ·refine(hseq (W0.heap.size+1) (ApI w fn (.func (.func g) #[] lb) w.heap.size (W0.heap.size+1) W0.heap.size) W1 hb1 (ApI.abides _ _ _ _ _ _ _ hb1.size)
   (fun pre x W hJ hl=>apYieldI (n-1-1) w fn _ w.heap.size (W0.heap.size+1) W0.heap.size (by omega) (by omega) (by omega) (Nat.le_refl _) (by omega) N hN pre x W hJ hl) hM).mono ?_
  rintro e W2⟨⟨v0,rfl⟩,ss,hS,h2⟩;obtain⟨v,hv,hrow⟩:=h2.box;have hend:=run_endLoop (P:=Tryz.prog) h2.L (by simp[apRecI]);obtain⟨W3,hW3⟩:∃W3,W2.putObj (W0.heap.size+1) (.loop {apRecI fn (.func (.func g) #[] lb) w.heap.size W0.heap.size .ready none with state:= .exhausted})=W3:=⟨_,rfl⟩;rw[hW3] at hend;have hg3:W2.grownBy W3 (some (W0.heap.size+1)):=by rw[←hW3];exact grownBy_putObj_a _ _ _
  have hv3:W3.heap[w.heap.size]? =some (.cells #[v] TSi (0,0)):=by rw[←hW3];exact(World.putObj_heap_other (by omega)).trans hv
  have hK3:W3.heap[W0.heap.size]? =some (.deferred (some [])):=by rw[←hW3];exact(World.putObj_heap_other (by omega)).trans h2.K
  have hrow3:=hrow.kept hg3 (ownsRow_ne_a hrow h2.L (fun cur e=>by cases e));have hb3:Below w.heap.size w W3:=h2.below.grown hg3 h2.below.size (fun k e=>by cases e;omega);obtain⟨hc3,hf3⟩:=cell_of_box_a hv3;clear hW3;refine⟨none,W3,hend,?_⟩
  gi_wp2
  rw[←hs0];refine⟨by simp,.inl ⟨_,_,rfl,run_takeDeferred hK3,?_⟩⟩;exact⟨_,results_tmp rfl _ _ _,v,ss,rfl,hS,hrow3.kept (grownBy_putObj_a _ _ _) (ownsRow_ne_a hrow3 hK3 (fun cur e=>by cases e)),hb3.grown (grownBy_putObj_a _ _ _) hb3.size (fun k e=>by cases e;omega)⟩
theorem collectI(g:Nat)(lb:Array Value)(eg:∀args w,(callFunc g args).run Tryz.prog w= .ok (.enter g args) w)(S:List IT→Prop)(N:Nat)(hN:N≤1000000)(w:World)(hseq:SeqGives Fence.wide 2 Tryz.prog g lb itV S N w):
  Calls Tryz.prog 178 #[.func (.func g) #[] lb] w fun e w'=>∃(v:Value) (ss:List IT),e= .returned v∧S ss∧OwnK w' w.heap.size QM 3 v (ss.map itL)∧Kn w w':=by
 have HA:=Qh (callsIn_wide.1 (appendSeqI 3 g (by omega) lb eg S N hN w hseq));go_enter Tryz.func178,Tryz.ntmps178;go_wp2_with (first|(go_at_call 229;go_must ((with_reducible refine HA.out.mono ?_);rintro e w1 ⟨v,ss,rfl,hS,hr,hb⟩;have HV:=Qh (And.intro hS (And.intro hr hb));clear hS hr hb)))
 go_ret;exact⟨v,ss,rfl,HV.out.1,HV.out.2.1,QB HV.out.2.2⟩
open Go.RowKit Go.Maps Go.Shelf Go.Lib Go.Sort
def fstNz:List Int→Int
 |[]=>0
 |x::l=>if x=0 then fstNz l else x
theorem fstNz_step(l:List Int)(k:Nat)(hk:k<l.length):fstNz (l.drop k)=if l[k]=0 then fstNz (l.drop (k+1)) else l[k]:=by
 rw[List.drop_eq_getElem_cons hk];try rfl
theorem ior_c(w:World)(g c:Nat)(l:List Int)(hl:l.length≤1000)(h:∀k (hk:k<l.length),w.cell? ⟨g,k,none⟩=some (.int .i64 l[k])):
  Calls Tryz.prog 74 #[.slice (some ⟨g,0,none⟩) l.length c] w fun e w'=>e= .returned (.int .i64 (fstNz l))∧w=w':=by
 obtain⟨n,hn⟩:∃n,n=l.length:=⟨_,rfl⟩;have H:=Qh h;have HN:=Qh hn;rw[←hn] at hl⊢;clear h hn;go_enter Tryz.func74,Tryz.ntmps74;go_wp2_with fail
 go_loopw [8] (fun s8 wr=>∃(k:Nat),s8= .int .i64 k∧k≤n∧Hid (fstNz (l.drop k)=fstNz l)∧wr=w) (fun s8 _=>n-(intOf s8).toNat)
 case atStart=>exact⟨0,rfl,Nat.zero_le _,Qh rfl,rfl⟩
 case round=>
  obtain⟨k,rfl,hk,ho,rfl⟩:=hrel;by_cases hlt:k<n
  ·have hkl:k<l.length:=by have:=HN.out;omega
   have x0:=H.out k hkl;have HS:=Qh (fstNz_step l k hkl);obtain⟨x,hx⟩:∃x,x=l[k]:=⟨_,rfl⟩;rw[←hx] at x0 HS;have hgl:=World.block_lt_of_cell? _ _ x0;clear hx;by_cases h0:x=0
   ·have g0:(x==0)=true:=by rw[beq_iff_eq];exact h0
    have HF:Hid (fstNz (l.drop (k+1))=fstNz l):=Qh (by rw[←ho.out,HS.out,if_pos h0]);subst h0;clear HS g0;go_wp2_with fail
    go_roundw
    case rel=>exact⟨k+1,by go_num,by omega,HF,by first|rfl|trivial⟩
    case measure=>simp[intOf];omega
   ·have g0:(x==0)=false:=by rw[beq_eq_false_iff_ne];exact h0
    have HF:Hid (fstNz l=x):=Qh (by rw[←ho.out,HS.out,if_neg h0]);clear HS;go_wp2_with fail
    go_ret;exact⟨by rw[HF.out];try rfl,rfl⟩
  ·obtain rfl:k=n:=by omega
   have HF:Hid (fstNz l=0):=Qh (by rw[←ho.out,HN.out,List.drop_length];try rfl);go_wp2_with fail
   go_ret;exact⟨by rw[HF.out];try rfl,rfl⟩
theorem grow3(W:World)(a b c:Obj):(((W.alloc a).alloc b).alloc c).drew=grow (W.drewN 1) #[a,b,c]:=by
 have h:(((W.alloc a).alloc b).alloc c).drew=(((W.drewN 1).alloc a).alloc b).alloc c:=rfl;rw[h,alloc_eq_grow,alloc_eq_grow,alloc_eq_grow,grow_grow,grow_grow];rfl
def cmpO(a b:IT):Int:=fstNz [Lib.compareInt a.1 b.1,Lib.compareInt a.2.1 b.2.1,Lib.compareInt a.2.2 b.2.2]
theorem icompare_c(x y:IT)(W:World):Calls Tryz.prog 82 #[itV x,itV y] W fun e w'=>e= .returned (.int .i64 (cmpO x y))∧∃q os',w'=grow (W.drewN q) os':=by
 obtain⟨x1,x2,x3⟩:=x;obtain⟨y1,y2,y3⟩:=y;unfold itV;dsimp only;obtain⟨w1,hw1⟩:∃z,z=(W.alloc (.cells #[.int .i64 x1,.int .i64 x2,.int .i64 x3] QM)).alloc (.cells #[.int .i64 y1,.int .i64 y2,.int .i64 y3] QM):=⟨_,rfl⟩;obtain⟨b2,hb2⟩:∃z,z=W.heap.size:=⟨_,rfl⟩;obtain⟨b3,hb3⟩:∃z,z=W.heap.size+1:=⟨_,rfl⟩;have hB2:w1.heap[b2]? =some (.cells #[.int .i64 x1,.int .i64 x2,.int .i64 x3] QM (0,0)):=by rw[hw1,hb2];exact Qm (Qf _ _) _
 have hB3:w1.heap[b3]? =some (.cells #[.int .i64 y1,.int .i64 y2,.int .i64 y3] QM (0,0)):=by
  have:=Qf (W.alloc (.cells #[.int .i64 x1,.int .i64 x2,.int .i64 x3] QM)) (.cells #[.int .i64 y1,.int .i64 y2,.int .i64 y3] QM);rw[size_alloc',←hb3,←hw1] at this;exact this
 have HW:=Qh (And.intro hw1 (And.intro hb2 hb3));obtain⟨r1,hr1⟩:∃r,r=Lib.compareInt x1 y1:=⟨_,rfl⟩;obtain⟨r2,hr2⟩:∃r,r=Lib.compareInt x2 y2:=⟨_,rfl⟩;obtain⟨r3,hr3⟩:∃r,r=Lib.compareInt x3 y3:=⟨_,rfl⟩;have HC1:Hid (∀w,Calls Tryz.prog 75 #[.int .i64 x1,.int .i64 y1] w fun e w'=>e= .returned (.int .i64 r1)∧w'=w):=Qh (fun w=>by rw[hr1];exact Tryz.cmp_Compare_int x1 y1 w);have HC2:Hid (∀w,Calls Tryz.prog 75 #[.int .i64 x2,.int .i64 y2] w fun e w'=>e= .returned (.int .i64 r2)∧w'=w):=Qh (fun w=>by rw[hr2];exact Tryz.cmp_Compare_int x2 y2 w);have HC3:Hid (∀w,Calls Tryz.prog 75 #[.int .i64 x3,.int .i64 y3] w fun e w'=>e= .returned (.int .i64 r3)∧w'=w):=Qh (fun w=>by rw[hr3];exact Tryz.cmp_Compare_int x3 y3 w);have hR_:cmpO (x1,x2,x3) (y1,y2,y3)=fstNz [r1,r2,r3]:=by unfold cmpO;rw[hr1,hr2,hr3]
 obtain⟨r0,hr0⟩:∃r,r=cmpO (x1,x2,x3) (y1,y2,y3):=⟨_,rfl⟩;rw[←hr0] at hR_⊢;have hx0:=it_c0 hB2;have hx1:=it_c1 hB2;have hx2:=it_c2 hB2;have hy0:=it_c0 hB3;have hy1:=it_c1 hB3;have hy2:=it_c2 hB3;clear hw1 hb2 hb3 hr0 hr1 hr2 hr3 hB2 hB3;have HRR:=Qh hR_;clear hR_;go_enter Tryz.func82,Tryz.ntmps82;go_upto_region 1 with fail
 rw[←HW.out.1,←HW.out.2.2,←HW.out.2.1];obtain⟨wd,hwd⟩:∃z,z=w1.drew:=⟨_,rfl⟩;have hkd:Kn w1 wd:=by rw[hwd];exact(Qb _ _).drew
 refine rgn (fun w'=>w'.cell? ⟨b2,0,none⟩=some (.int .i64 x1)∧w'.cell? ⟨b2,1,none⟩=some (.int .i64 x2)∧w'.cell? ⟨b2,2,none⟩=some (.int .i64 x3)∧w'.cell? ⟨b3,0,none⟩=some (.int .i64 y1)∧w'.cell? ⟨b3,1,none⟩=some (.int .i64 y2)∧w'.cell? ⟨b3,2,none⟩=some (.int .i64 y3)) (X:=[]) (by rw[←hwd];exact⟨Qc hkd hx0,Qc hkd hx1,Qc hkd hx2,Qc hkd hy0,Qc hkd hy1,Qc hkd hy2⟩) (fun hX hHeld=> ?_);refine tw 0 5 ?_;refine tk 1 6 ?_;refine tw 2 7 ?_;refine tk 3 8 ?_;refine tw 5 10 ?_;refine tk 6 11 ?_;refine tw 7 12 ?_;refine tk 8 13 ?_;refine tw 10 15 ?_;refine tk 11 16 ?_;refine tw 12 17 ?_;refine tk 13 18 ?_;refine ro 4 (fun K hK=> ?_);go_simp
 go_at_call 75
 refine(HC1.out _).mono ?_;rintro e w4 ⟨rfl,rfl⟩;refine hK.out _ _ hHeld (fun hHeld=> ?_);clear hK K
 try simp only[PP]
 refine ro 9 (fun K hK=> ?_);go_simp
 go_at_call 75
 refine(HC2.out _).mono ?_;rintro e w4 ⟨rfl,rfl⟩;refine hK.out _ _ hHeld (fun hHeld=> ?_);clear hK K
 try simp only[PP]
 refine ro 14 (fun K hK=> ?_);go_simp
 go_at_call 75
 refine(HC3.out _).mono ?_;rintro e w4 ⟨rfl,rfl⟩;refine hK.out _ _ hHeld (fun hHeld=> ?_);clear hK K
 try simp only[PP]
 refine ro 15 (fun K hK=> ?_);go_simp;obtain⟨w5,hw5⟩:∃z,z=(w1.alloc (.cells #[.int .i64 r1,.int .i64 r2,.int .i64 r3] 3)).drew:=⟨_,rfl⟩;have hk5:Kn w1 w5:=by rw[hw5];exact((Qb _ _).alloc _).drew
 obtain⟨g,hg⟩:∃z,z=w1.heap.size:=⟨_,rfl⟩;have hG:w5.heap[g]? =some (.cells #[.int .i64 r1,.int .i64 r2,.int .i64 r3] 3 (0,0)):=by rw[hw5,hg];exact Qf w1 _
 have HO:=ior_c w5 g 3 [r1,r2,r3] (by simp) (fun k hk=>by
  rw[Qa hG];simp only[List.length_cons,List.length_nil] at hk;obtain rfl|rfl|rfl:k=0∨k=1∨k=2:=by omega
  ·rfl
  ·rfl
  ·rfl)
 simp only[List.length_cons,List.length_nil,Nat.zero_add,Nat.reduceAdd] at HO;rw[←HRR.out] at HO;have HOO:=Qh HO;rw[←hw5,←hg];have HW5:=Qh hw5;refine hK.out _ _ ⟨Qc hk5 hx0,Qc hk5 hx1,Qc hk5 hx2,Qc hk5 hy0,Qc hk5 hy1,Qc hk5 hy2⟩ (fun hHeld=> ?_);clear hK K HO hw5 hG hg hk5
 try simp only[PP]
 refine ro 16 (fun K hK=> ?_);go_simp
 go_at_call 74
 (with_reducible refine HOO.out.mono ?_)
 rintro e w4⟨rfl,rfl⟩;refine hK.out _ _ hHeld (fun hHeld=> ?_);clear hK K
 try simp only[PP]
 refine re 17 (fun K hK=> ?_);go_simp;refine hK.out _ _ ?_;clear hK K hHeld;go_wp2_with fail
 go_ret;refine⟨rfl,1,#[.cells #[.int .i64 x1,.int .i64 x2,.int .i64 x3] QM,.cells #[.int .i64 y1,.int .i64 y2,.int .i64 y3] QM,.cells #[.int .i64 r1,.int .i64 r2,.int .i64 r3] 3],?_⟩;rw[HW5.out,HW.out.1];exact grow3 W _ _ _
def lexI(x y:IT):Prop:=x.1<y.1∨(x.1=y.1∧(x.2.1<y.2.1∨(x.2.1=y.2.1∧x.2.2<y.2.2)))
theorem cmpI_cases(a b:Int):(a<b∧Lib.compareInt a b= -1)∨(a=b∧Lib.compareInt a b=0)∨(b<a∧Lib.compareInt a b=1):=by
 unfold Lib.compareInt;by_cases h1:a<b
 ·exact .inl ⟨h1,by rw[if_pos h1]⟩
 ·by_cases h2:a>b
  ·exact .inr (.inr ⟨h2,by rw[if_neg h1,if_pos h2]⟩)
  ·exact .inr (.inl ⟨by omega,by rw[if_neg h1,if_neg h2]⟩)
theorem ltO(x y:IT):ltOf cmpO x y=true↔lexI x y:=by
 unfold ltOf cmpO lexI fstNz fstNz fstNz fstNz;rw[decide_eq_true_eq];rcases cmpI_cases x.1 y.1 with⟨h1,e1⟩|⟨h1,e1⟩|⟨h1,e1⟩<;>rw[e1]<;>
  rcases cmpI_cases x.2.1 y.2.1 with⟨h2,e2⟩|⟨h2,e2⟩|⟨h2,e2⟩<;>rw[e2]<;>
  rcases cmpI_cases x.2.2 y.2.2 with⟨h3,e3⟩|⟨h3,e3⟩|⟨h3,e3⟩<;>rw[e3]<;>simp<;>omega
theorem ltO_false(x y:IT):ltOf cmpO x y=false↔¬lexI x y:=by rw[←ltO,Bool.not_eq_true]
theorem swoI:SWO (ltOf cmpO) where
 irrefl x:=by rw[ltO_false];unfold lexI;omega
 trans x y z h1 h2:=by rw[ltO] at*;unfold lexI at*;omega
 ntrans x y z h1 h2:=by rw[ltO_false] at*;unfold lexI at*;omega
end Go.Proofs.YtiehgcfckhepaaaGreatDoor
namespace Go.Proofs.YtiehgcfckhepaaaGreatDoor
open Go.RowKit Go.Lib Go.Sort
section
variable {α:Type} {lt:α→α→Bool}
def insL(lt:α→α→Bool)(x:α):List α→List α
 |[]=>[x]
 |y::l=>if lt y x then y::insL lt x l else x::y::l
def srtL(lt:α→α→Bool):List α→List α
 |[]=>[]
 |x::l=>insL lt x (srtL lt l)
theorem insL_perm(x:α):∀l:List α,(insL lt x l).Perm (x::l)
 |[]=>List.Perm.refl _
 |y::l=>by
  unfold insL;split
  ·exact((insL_perm x l).cons y).trans (List.Perm.swap x y l)
  ·exact List.Perm.refl _
theorem srtL_perm:∀l:List α,(srtL lt l).Perm l
 |[]=>List.Perm.refl _
 |x::l=>(insL_perm x _).trans ((srtL_perm l).cons x)
theorem insL_sorted(hS:SWO lt)(x:α):∀l:List α,l.Pairwise (fun a b=>lt b a=false)→(insL lt x l).Pairwise (fun a b=>lt b a=false)
 |[],_=>by unfold insL;simp
 |y::l,h=>by
  rw[List.pairwise_cons] at h;unfold insL;split
  ·rename_i hlt;rw[List.pairwise_cons];refine⟨fun z hz=> ?_,insL_sorted hS x l h.2⟩;rcases List.mem_cons.1 ((insL_perm x l).subset hz) with e|hz
   ·rw[e];exact hS.asymmA hlt
   ·exact h.1 z hz
  ·rename_i hlt;rw[List.pairwise_cons,List.pairwise_cons];refine⟨fun z hz=> ?_,h⟩;have h0:lt y x=false:=by simpa using hlt
   rcases List.mem_cons.1 hz with e|hz
   ·rw[e];exact h0
   ·exact hS.ntrans _ _ _ (h.1 z hz) h0
theorem srtL_sorted(hS:SWO lt):∀l:List α,(srtL lt l).Pairwise (fun a b=>lt b a=false)
 |[]=>List.Pairwise.nil
 |x::l=>insL_sorted hS x _ (srtL_sorted hS l)
theorem srtL_unique(hS:SWO lt)(hT:∀x y,lt x y=false→lt y x=false→x=y){l l':List α}(hp:l'.Perm l)(hs:l'.Pairwise (fun a b=>lt b a=false)):l'=srtL lt l:=
 List.Perm.eq_of_pairwise (le:=fun a b=>lt b a=false) (fun a b _ _ h1 h2=>hT a b h2 h1) hs (srtL_sorted hS l) (hp.trans (srtL_perm l).symm)
theorem srtL_eq(hS:SWO lt)(hT:∀x y,lt x y=false→lt y x=false→x=y){l l':List α}(hp:l'.Perm l):srtL lt l'=srtL lt l:=
 srtL_unique hS hT ((srtL_perm l').trans hp) (srtL_sorted hS l')
theorem srtL_len(l:List α):(srtL lt l).length=l.length:=(srtL_perm l).length_eq
end
section
variable {α:Type} [Inhabited α] {lt:α→α→Bool}
theorem sorted_list{d':Array α}{n:Nat}(hn:d'.size=n)(h:SortedIn lt 0 n d'):d'.toList.Pairwise (fun a b=>lt b a=false):=by
 rw[List.pairwise_iff_getElem];intro i j hi hj hij;have hi':i<d'.size:=by simpa using hi
 have hj':j<d'.size:=by simpa using hj
 have:=h i j (Nat.zero_le _) hij (by omega);rw[getElem!_pos d' i hi',getElem!_pos d' j hj'] at this;simpa using this
theorem perm_list{d d':Array α}(h:PermIn 0 d.size d d'):d'.toList.Perm d.toList:=by
 obtain⟨h1,_,h3⟩:=h;rw[←h1] at h3;have e1:d'.extract 0 d'.size=d':=by simp
 have e2:d.extract 0 d'.size=d:=by rw[h1];simp
 rw[e1,e2] at h3;exact h3
variable {enc:α→List Value} {k:Nat}
theorem flatK_list(hk:∀x,(enc x).length=k)(hk0:0<k)(ss:List α):(flatK enc k ss.toArray).toList=(ss.map enc).flatten:=by
 have hfl:∀C∈ss.map enc,C.length=k:=fun C hC=>by obtain⟨x,_,rfl⟩:=List.mem_map.1 hC;exact hk x
 have hln:(ss.map enc).flatten.length=ss.length*k:=by rw[YD hfl,List.length_map]
 apply List.ext_getElem?;intro t;by_cases ht:t<ss.length*k
 ·have hi:t/k<ss.length:=Nat.div_lt_of_lt_mul (by rw[Nat.mul_comm];exact ht);have hm:t%k<k:=Nat.mod_lt _ hk0;have e:=flat_get hfl (t/k) (t%k) (by simpa using hi) hm;rw[Nat.div_add_mod] at e;have hsz:t<(flatK enc k ss.toArray).size:=by rw[size_flatK];simpa using ht
  have h1:=get_flatK enc k ss.toArray t (by simpa using ht);rw[getElem!_pos _ t hsz,getElem!_pos ss.toArray (t/k) (by simpa using hi)] at h1;rw[e,Array.getElem?_toList,Array.getElem?_eq_getElem hsz,h1];simp only[List.getElem_map,List.getElem_toArray];rw[getElem!_pos (enc ss[t/k]) (t%k) (by rw[hk];exact hm),List.getElem?_eq_getElem (by rw[hk];exact hm)]
 ·rw[List.getElem?_eq_none (by rw[Array.length_toList,size_flatK];simp;omega),List.getElem?_eq_none (by omega)]
theorem holds_row{w:World}{B g n c:Nat}{T:TypeId}(hk:∀x,(enc x).length=k)(hk0:0<k){ss:List α}(h:OwnK w B T k (.slice (some ⟨g,0,none⟩) n c) (ss.map enc)):HoldsK enc k w g 0 ss.toArray:=by
 obtain⟨a,c',hv,_,_,hc⟩:=h.row (fun C hC=>by obtain⟨x,_,rfl⟩:=List.mem_map.1 hC;exact hk x);intro t ht;rw[size_flatK] at ht;have ht':t<ss.length*k:=by simpa using ht
 have hi:t/k<ss.length:=Nat.div_lt_of_lt_mul (by rw[Nat.mul_comm];exact ht');have hm:t%k<k:=Nat.mod_lt _ hk0;obtain⟨g',ha,_,_,hcs⟩:=hc (fun e=>by have h0:=congrArg List.length e;rw[List.length_map,List.length_nil] at h0;rw[h0] at hi;exact Nat.not_lt_zero _ hi);injection hv with e1 _ _;rw[ha] at e1;injection e1 with e1;injection e1 with e1;subst e1;obtain⟨h1,h2⟩:=hcs (t/k) (by simpa using hi) (t%k) hm;rw[Nat.zero_add,Nat.div_add_mod] at h1 h2;rw[Nat.zero_add];refine⟨?_,h2⟩;rw[h1,get_flatK _ _ _ _ ht];simp only[List.getElem_map,id_eq];rw[getElem!_pos ss.toArray (t/k) (by simpa using hi)];simp only[List.getElem_toArray];rw[getElem!_pos (enc ss[t/k]) (t%k) (by rw[hk];exact hm),List.getElem?_eq_getElem (by rw[hk];exact hm)]
theorem put_take(F:Array Value)(c:Array Value)(h:F.size≤c.size):(putCells id 0 F c).toList.take F.size=F.toList:=by
 apply List.ext_getElem?;intro t;by_cases ht:t<F.size
 ·rw[List.getElem?_take_of_lt ht,Array.getElem?_toList,Array.getElem?_toList];simp only[putCells,Array.getElem?_mapIdx];rw[Array.getElem?_eq_getElem (show t<c.size by omega),Option.map_some,if_pos ⟨Nat.zero_le _,by omega⟩,Nat.sub_zero,id_eq,getElem!_pos F t ht,Array.getElem?_eq_getElem ht]
 ·rw[List.getElem?_eq_none (by rw[List.length_take];omega),List.getElem?_eq_none (by simp;omega)]
theorem OwnK.sortWorld{w:World}{B g c n:Nat}{T:TypeId}(hk:∀x,(enc x).length=k)(hk0:0<k){ss ss':List α}{os:Array Obj}
  (h:OwnK w B T k (.slice (some ⟨g,0,none⟩) ss.length c) (ss.map enc)) (hl:ss'.length=ss.length):
  OwnK (sortWorldK enc k w g 0 n ss'.toArray os) B T k (.slice (some ⟨g,0,none⟩) ss'.length c) (ss'.map enc)∧K1 g w (sortWorldK enc k w g 0 n ss'.toArray os):=by
 have hfl:∀C∈ss'.map enc,C.length=k:=fun C hC=>by obtain⟨x,_,rfl⟩:=List.mem_map.1 hC;exact hk x
 rcases h.2 with⟨h1,_⟩|⟨g',cap,cur,h1,h2,h3,h4,h5,h6,h7⟩
 ·cases h1
 ·injection h1 with e1 _ e3;injection e1 with e1;injection e1 with e1;subst e1 e3;have hg:=Qj h3;rw[List.length_map] at h4;have hFs:(flatK enc k ss'.toArray).size=ss'.length*k:=by rw[size_flatK];simp
  have hle:ss'.length*k≤cur.size:=by rw[h6,hl];exact Nat.mul_le_mul_right k h4
  have hheap:(sortWorldK enc k w g 0 n ss'.toArray os).heap=(w.heap.modify g (onCells (putCells id 0 (flatK enc k ss'.toArray))))++os:=rfl;have hbl:(sortWorldK enc k w g 0 n ss'.toArray os).heap[g]? =some (.cells (putCells id 0 (flatK enc k ss'.toArray) cur) T (0,0)):=by
   rw[hheap,Array.getElem?_append_left (by simpa using hg),Array.getElem?_modify,if_pos rfl,h3];try rfl
  refine⟨⟨?_,.inr ⟨g,c,_,?_,h2,hbl,?_,h5,?_,?_⟩⟩,⟨rfl,rfl,rfl,?_,fun j hj hne=> ?_⟩⟩
  ·rw[YD hfl,List.length_map]
  ·rw[List.length_map]
  ·rw[List.length_map];omega
  ·simpa[putCells] using h6
  ·rw[List.length_map,←hFs,put_take _ _ (by rw[hFs];exact hle),flatK_list hk hk0]
  ·rw[hheap];simp
  ·rw[hheap,Array.getElem?_append_left (by simpa using hj),Array.getElem?_modify,if_neg (fun e=>hne e.symm)]
end
open Go.RowKit Go.Maps Go.Shelf Go.Lib Go.Sort
theorem insSortN(p:Option Addr)(c:Nat)(fv:Value)(w:World):
  Calls Tryz.prog 271 #[.slice p 0 c,.int .i64 0,.int .i64 0,fv] w fun e w'=>e= .returned (.tuple #[])∧w'=w:=by
 go_enter Tryz.func271,Tryz.ntmps271;go_wp2_with fail
 refine wp_loop_rounds 1 ?_;rw[rounds_succ];go_wp2_with fail
 go_end0
 exact⟨rfl,rfl⟩
theorem pdqN(p:Option Addr)(c:Nat)(lim:Int)(fv:Value)(w:World):
  Calls Tryz.prog 230 #[.slice p 0 c,.int .i64 0,.int .i64 0,.int .i64 lim,fv] w fun e w'=>e= .returned (.tuple #[])∧w'=w:=by
 have hi:=fun W=>insSortN p c fv W
 go_enter Tryz.func230,Tryz.ntmps230;go_wp2_with fail
 refine wp_loop_rounds 1 ?_;rw[rounds_succ];go_wp2_with (first|(go_at_call 271;go_must (refine(hi _).mono ?_;rintro e w' ⟨rfl,rfl⟩)))
 (try simp only[Exit.inBlock,Exit.then]);refine bodyPost_ret (results_none rfl _ _ _) rfl ?_
 exact⟨rfl,rfl⟩
theorem sortFuncN(p:Option Addr)(c:Nat)(fv:Value)(w:World):
  Calls Tryz.prog 179 #[.slice p 0 c,fv] w fun e w'=>e= .returned (.tuple #[])∧w'=w:=by
 have hp:=fun lim W=>pdqN p c lim fv W
 go_enter Tryz.func179,Tryz.ntmps179;go_wp2_with (first
  |(go_at_call 119;go_must (refine(Tryz.bits_Len 0 _ (by omega) (by omega)).mono ?_;rintro e w' ⟨rfl,rfl⟩))
  |(go_at_call 230;go_must (refine(hp _ _).mono ?_;rintro e w' ⟨rfl,rfl⟩)))
 go_end0
 exact⟨rfl,rfl⟩
abbrev srtI(T:List IT):List IT:=srtL (ltOf cmpO) T
theorem totI:∀x y:IT,ltOf cmpO x y=false→ltOf cmpO y x=false→x=y:=by
 intro x y h1 h2;rw[ltO_false] at h1 h2;unfold lexI at h1 h2;exact Prod.ext (by omega) (Prod.ext (by omega) (by omega))
theorem itL_len(x:IT):(itL x).length=3:=rfl
theorem sortFuncI{w:World}{B:Nat}{v:Value}{ss:List IT}(h:OwnK w B QM 3 v (ss.map itL))(hl:ss.length≤1000000):
  Calls Tryz.prog 179 #[v,.func (.func 82) #[] #[]] w fun e w'=>e= .returned (.tuple #[])∧OwnK w' B QM 3 v ((srtI ss).map itL)∧Kp (fun k=>some k=v.ownBlock) w w':=by
 obtain⟨a,c,hv,_,_,hc⟩:=ItR.of h;by_cases hne:ss=[]
 ·subst hne;subst hv;refine(sortFuncN a c _ w).mono ?_;rintro e w' ⟨rfl,rfl⟩;exact⟨rfl,h,Qb _ _⟩
 ·obtain⟨g,ha,_,_,_⟩:=hc hne;subst ha;subst hv;have eg:∀args w,(callFunc 82 args).run Tryz.prog w= .ok (.enter 82 args) w:=enters_of Tryz.func82 (by kernel_rfl) rfl;obtain⟨cur,hg⟩:=QH h (g:=g) rfl;have hcmp:CmpLays Tryz.prog 82 #[] itL 3 cmpO g 0 ss.toArray.size w:=fun _ _ _ _ x y=>icompare_c x y _
  have h1:=AnyQ.slices_SortFunc Tryz.sortItems 3 Tryz.isAgg71 Tryz.sizeOf71 itL itL_len (fun x v hv=>by simp[itL] at hv;rcases hv with rfl|rfl|rfl<;>rfl) cmpO swoI 82 #[] g 0 c ss.toArray w eg hcmp (holds_row itL_len (by omega) h) (Qj hg) (by simp;omega)
  change Calls Tryz.prog 179 _ _ _ at h1;rw[List.size_toArray] at h1;refine h1.mono ?_;rintro e w' ⟨rfl,d',n,os,hp,hs,rfl⟩;have hp0:PermIn 0 ss.toArray.size ss.toArray d':=by rw[List.size_toArray];exact hp
  have hsz:d'.size=ss.length:=by have:=hp0.1;simpa using this
  have hpl:=perm_list hp0;have he:d'.toList=srtI ss:=srtL_unique swoI totI hpl (sorted_list hsz hs);have hd:d'=(srtI ss).toArray:=by rw[←he]
  have hln:(srtI ss).length=ss.length:=srtL_len ss;rw[hd];obtain⟨o1,o2⟩:=OwnK.sortWorld (n:=n) (os:=os) itL_len (by omega) h hln;rw[hln] at o1;exact⟨rfl,o1,o2.mono (fun i _ e=>by rw[e];try rfl)⟩
theorem keysI{w:World}(b:Nat):Calls Tryz.prog 124 #[.map (some b)] w fun e w'=>e= .returned (.func (.func 180) #[] #[.pointer (some ⟨w.heap.size,0,none⟩)])∧w'=w.alloc (.cells #[.map (some b)] TMi):=by
 go_enter Tryz.func124,Tryz.ntmps124;go_wp2_with fail
 go_ret;exact⟨rfl,rfl⟩
def SortPost(T:List IT)(w:World)(e:Ending)(w':World):Prop:=∃v,e= .returned v∧OwnK w' w.heap.size QM 3 v ((srtI T).map itL)∧Kn w w'
theorem sortedFuncI{w:World}{Bm b:Nat}{T:List IT}(hl:T.length≤1000000)(hm:w.cell? ⟨Bm,0,none⟩=some (.map (some b)))(hM:MapB w QM b (mtM T)):
  Calls Tryz.prog 123 #[.func (.func 180) #[] #[.pointer (some ⟨Bm,0,none⟩)],.func (.func 82) #[] #[]] w (SortPost T w):=by
 have eg:∀args w,(callFunc 180 args).run Tryz.prog w= .ok (.enter 180 args) w:=enters_of Tryz.func180 (by kernel_rfl) rfl;have HC:=Qh (collectI 180 #[.pointer (some ⟨Bm,0,none⟩)] eg _ T.length hl w (keysIt_gives 2 (by omega) hm hM));have HL:=Qh hl;clear hm hM eg hl;go_enter Tryz.func123,Tryz.ntmps123;go_wp2_with (first
  |(go_at_call 178;go_must ((with_reducible refine HC.out.mono ?_);rintro e w1 ⟨v,ss,rfl,hS,hr,hk⟩;have HS:=Qh (sortFuncI hr (by rw[List.Perm.length_eq hS];exact HL.out));have HX:=Qh (And.intro hS (And.intro hr hk));obtain⟨a,c,hv,_,_,_⟩:=ItR.of hr;obtain⟨n,hv2⟩:∃n,v= .slice a n c:=⟨_,hv⟩;clear hS hr hk hv;subst hv2))
  |(go_at_call 179;go_must ((with_reducible refine HS.out.mono ?_);rintro e w2 ⟨rfl,ho,hkp⟩;have HO:=Qh (And.intro ho hkp);clear ho hkp)))
 go_ret;refine⟨_,rfl,?_,HX.out.2.2.trans' HO.out.2 (fun i hi e=>by have:=(HX.out.2.1.lt i e.symm).1;omega)⟩;have e9:srtI ss=srtI T:=srtL_eq swoI totI HX.out.1;rw[←e9];exact HO.out.1
theorem sortedI{w:World}{b:Nat}{T:List IT}(hl:T.length≤1000000)(hM:MapB w QM b (mtM T)):
  Calls Tryz.prog 81 #[.map (some b),.func (.func 82) #[] #[]] w (SortPost T w):=by
 have HK:=Qh (keysI (w:=w) b);have hk:Kn w (w.alloc (.cells #[.map (some b)] TMi)):=(Qb _ _).alloc _;have HS:=Qh (sortedFuncI (w:=w.alloc (.cells #[.map (some b)] TMi)) (Bm:=w.heap.size) hl (new_cell _ _ _) (hM.kn hk));have HKK:=Qh hk;clear hM hk hl;go_enter Tryz.func81,Tryz.ntmps81;go_wp2_with (first
  |(go_at_call 124;go_must ((with_reducible refine HK.out.mono ?_);rintro e w1 ⟨rfl,rfl⟩))
  |(go_at_call 123;go_must ((with_reducible refine HS.out.mono ?_);rintro e w2 ⟨v,rfl,ho,hk2⟩;have HO:=Qh (And.intro (OwnK.base ho HKK.out.size) (HKK.out.trans hk2));clear ho hk2)))
 go_ret;exact⟨_,rfl,HO.out.1,HO.out.2⟩
end Go.Proofs.YtiehgcfckhepaaaGreatDoor
namespace Go.Proofs.YtiehgcfckhepaaaGreatDoor
open Go.RowKit Go.Maps
theorem addsI_ge(X:SX):∀(l T:List IT),T.length≤(YL X T l).length
 |[],T=>Nat.le_refl _
 |i::l,T=>by
  have h1:=addsI_ge X l (addI X T i);have h2:T.length≤(addI X T i).length:=by unfold addI;split<;>simp
  exact Nat.le_trans h2 h1
theorem closI_ge(X:SX):∀(f k:Nat) (T Z:List IT),closI X f k T=some Z→T.length≤Z.length
 |0,_,_,_,h=>by cases h
 |f+1,k,T,Z,h=>by
  unfold closI at h;cases hk:T[k]? with
  |none=>rw[hk] at h;cases h;exact Nat.le_refl _
  |some i=>rw[hk] at h;exact Nat.le_trans (addsI_ge X _ _) (closI_ge X f (k+1) _ Z h)
theorem closI_step{X:SX}{f k:Nat}{T Z:List IT}(h:closI X f k T=some Z)(hk:k<T.length):∃f',f=f'+1∧closI X f' (k+1) (YL X T (moreI X T[k]))=some Z:=by
 cases f with
 |zero=>cases h
 |succ f=>unfold closI at h;rw[List.getElem?_eq_getElem hk] at h;exact⟨f,rfl,h⟩
theorem closI_end{X:SX}{f k:Nat}{T Z:List IT}(h:closI X f k T=some Z)(hk:T.length≤k):T=Z:=by
 cases f with
 |zero=>cases h
 |succ f=>unfold closI at h;rw[List.getElem?_eq_none hk] at h;exact Option.some.inj h
theorem moreI_len{X:SX}(hown:∀n,(X.b.own.getD n []).length≤1000)(i:IT):(moreI X i).length≤41000:=by
 cases ha:Zb X i with
 |none=>rw[moreI_no ha];exact Nat.zero_le _
 |some y=>
  cases hp:y.place with
  |false=>rw[moreI_cls ha hp];exact Nat.zero_le _
  |true=>
   obtain⟨s,hs,_⟩:=aheadI_some ha;rw[moreI_yes ha hp hs];refine Nat.le_trans (moreK_len (hown _) (Nat.le_refl _)) ?_;have:=Nat.mul_le_mul_right 1000 (listB_len (beginB X (s.drop (i.2.1.toNat+1)) i.2.2));omega
theorem closure_c{w:World}{pm ps B:Nat}{X:SX}{vl:Value}{vls:List Value}(h:MkAt w pm ps X vl vls B)(hown:∀n,(X.b.own.getD n []).length≤1000)(hf:X.fin≤1000000){l Z:List IT}{a:Option Addr}{c fuel:Nat}
  (hl:l≠[]→∃g,a=some ⟨g,0,none⟩∧ItR w g l∧∃cur,w.heap[g]? =some (.cells cur QM (0,0))) (hz:closI X fuel 0 (YL X [] l)=some Z) (hZ:Z.length≤100000) (hll:l.length≤100000):
  Calls Tryz.prog 33 #[ptr pm,.slice a l.length c] w (SortPost Z w):=by
 have hmm:= @run_makeMap Tryz.prog;have hmf:∀(fn:Fn) (first cap:Array Value) (w:World),(Instr.makeFunc fn first cap).run Tryz.prog w= .ok (.func fn first cap) w:=fun _ _ _ _=>rfl
 obtain⟨w1,hw1⟩:∃z,z=(((w.alloc (.cells #[ptr pm] TPm)).alloc (.map #[] 0)).alloc (.cells #[.map (some (w.heap.size+1))] TMi)).alloc (.cells #[.slice none 0 0] TSi):=⟨_,rfl⟩;obtain⟨b2,hb2⟩:∃z,z=w.heap.size:=⟨_,rfl⟩;obtain⟨bm,hbm⟩:∃z,z=w.heap.size+1:=⟨_,rfl⟩;obtain⟨b5,hb5⟩:∃z,z=w.heap.size+1+1:=⟨_,rfl⟩;obtain⟨b6,hb6⟩:∃z,z=w.heap.size+1+1+1:=⟨_,rfl⟩;have hk1:Kn w w1:=by rw[hw1];exact((((Qb _ _).alloc _).alloc _).alloc _).alloc _
 have ha1:AdAt w w1 pm b2 b5 b6 bm [] (.slice none 0 0):=by
  refine⟨hk1,?_,?_,?_,?_,OwnK.nil,by omega,by omega⟩
  ·rw[hw1,hb2];exact Qm (Qm (Qm (Qf _ _) _) _) _
  ·have:=Qm (Qf ((w.alloc (.cells #[ptr pm] TPm)).alloc (.map #[] 0)) (.cells #[.map (some (w.heap.size+1))] TMi)) (.cells #[.slice none 0 0] TSi);rw[size_alloc',size_alloc',←hb5,←hw1,←hbm] at this;exact this
  ·have:=Qf (((w.alloc (.cells #[ptr pm] TPm)).alloc (.map #[] 0)).alloc (.cells #[.map (some (w.heap.size+1))] TMi)) (.cells #[.slice none 0 0] TSi);rw[size_alloc',size_alloc',size_alloc',←hb6,←hw1] at this;exact this
  ·have hm:=MapB.new (w.alloc (.cells #[ptr pm] TPm)) QM;rw[size_alloc',←hbm] at hm;rw[hw1];exact(hm.kn ((Qb _ _).alloc _)).kn ((Qb _ _).alloc _)
 have HAD:=Qh (iadd_c h hf ha1 (l:=l) (a:=a) (c:=c) (fun hne=>by
  obtain⟨g,hg,hi,cur,hc⟩:=hl hne;refine⟨g,hg,fun k hk=>⟨Qc hk1 (hi k hk).1,Qc hk1 (hi k hk).2.1,Qc hk1 (hi k hk).2.2⟩,⟨cur,hk1.blk hc (fun x=>x)⟩,by simp[Value.ownBlock]⟩) (by simp;omega))
 have HW:=Qh (And.intro hw1 (And.intro hb2 (And.intro hbm (And.intro hb5 hb6))));have H:=Qh h;have HOW:=Qh hown;have HZF:=Qh hz;have HK1:=Qh hk1;obtain⟨n,hn⟩:∃n,n=l.length:=⟨_,rfl⟩;rw[←hn] at HAD⊢;clear h hown hl hz hk1 ha1 hw1 hb2 hbm hb5 hb6 hn;go_enter Tryz.func33,Tryz.ntmps33;go_upto_region 4 with fail
 rw[←HW.out.1,←HW.out.2.2.2.2,←HW.out.2.2.2.1,←HW.out.2.2.1,←HW.out.2.1];clear HW hmm hmf;go_upto_region 5 with(first|(go_at_call 79;go_must ((with_reducible refine HAD.out.mono ?_);rintro e w2 ⟨v2,rfl,hA2,_⟩;have HA2:=Qh hA2;clear hA2)))
 clear HAD HK1;go_wp2_with fail
 go_loopg [8] fuel (fun f s8 wr=>∃(k:Nat) (T:List IT) (v:Value),s8= .int .i64 k∧k≤T.length∧Hid (closI X f k T=some Z)∧Hid (AdAt w wr pm b2 b5 b6 bm T v))
 case atStart=>exact⟨0,_,v2,rfl,Nat.zero_le _,HZF,HA2⟩
 case round=>
  clear HA2 HZF;obtain⟨k,T,v,rfl,hk,hz,hA⟩:=hrel;obtain⟨av,cv,hv,hc1,hc2,hcg⟩:=ItR.of hA.out.row;obtain⟨nT,hnT⟩:∃z,z=T.length:=⟨_,rfl⟩;rw[←hnT] at hv hk;subst hv;have HNT:=Qh hnT;have hTZ:=closI_ge X _ _ _ _ hz.out;rw[←hnT] at hTZ;have m6:wr.cell? ⟨b6,0,none⟩=some (.slice av nT cv):=by rw[Qa hA.out.c6];try rfl
  have m2:wr.cell? ⟨b2,0,none⟩=some (ptr pm):=by rw[Qa hA.out.c2];try rfl
  have m5:wr.cell? ⟨b5,0,none⟩=some (.map (some bm)):=by rw[Qa hA.out.c5];try rfl
  obtain⟨wo,hwo⟩:∃z,z=wr:=⟨_,rfl⟩;subst hwo;have hl6:=Qj hA.out.c6;have hl2:=Qj hA.out.c2;have hl5:=Qj hA.out.c5;have HCG:=Qh hcg;clear hnT hc1 hc2 hcg;by_cases hlt:k<nT
  ·have hkT:k<T.length:=by have:=HNT.out;omega
   obtain⟨f',hf',hz'⟩:=closI_step hz.out hkT;have HZ':=Qh hz';obtain⟨g,rfl,_,_,hit⟩:=HCG.out (fun e=>by rw[e] at hkT;simp at hkT);obtain⟨x0,x1,x2⟩:=hit k hkT;have hml:=moreI_len HOW.out T[k];obtain⟨i,hie⟩:∃i,i=T[k]:=⟨_,rfl⟩;rw[←hie] at x0 x1 x2 HZ' hml;have hgl:=World.block_lt_of_cell? _ _ x0;have HMO:Hid (∀W,Kn wo W→Calls Tryz.prog 80 #[ptr pm,.agg #[.int .i64 i.1,.int .i64 i.2.1,.int .i64 i.2.2]] W (MorePost X i W)):=Qh (fun W hk=>by
    have h9:=more_c (H.out.kn (hA.out.kn.trans hk)) HOW.out i;unfold itV at h9;exact h9)
   clear hit hie hz' hz;go_upto_region 8 with fail
   refine rgn (fun w'=>w'.cell? ⟨b2,0,none⟩=some (ptr pm)∧w'.cell? ⟨b6,0,none⟩=some (.slice (some ⟨g,0,none⟩) nT cv)∧w'.cell? ⟨g,k*3,none⟩=some (.int .i64 i.1)∧w'.cell? ⟨g,k*3+1,none⟩=some (.int .i64 i.2.1)∧w'.cell? ⟨g,k*3+2,none⟩=some (.int .i64 i.2.2)∧Kn wo w') (X:=[])
    ⟨Qc ((Qb _ _).drew) m2,Qc ((Qb _ _).drew) m6,Qc ((Qb _ _).drew) x0,Qc ((Qb _ _).drew) x1,Qc ((Qb _ _).drew) x2,(Qb _ _).drew⟩ (fun hX hHeld=> ?_)
   refine tw 0 20 ?_;refine tk 1 21 ?_;refine tk 2 22 ?_;refine tw 3 23 ?_;refine tw 4 24 ?_;refine tk 5 25 ?_;refine ro 6 (fun K hK=> ?_);go_simp
   go_at_call 80
   (with_reducible refine(HMO.out _ hHeld.2.2.2.2.2).mono ?_)
   rintro e w4⟨vm,rfl,hrm,hk4⟩;obtain⟨am,cm,hvm,_,_,hcm⟩:=ItR.of hrm;have hko:Kn wo w4:=hHeld.2.2.2.2.2.trans hk4;have hA4:=hA.out.to hko;have hAD:=iadd_c H.out hf hA4 (l:=moreI X i) (a:=am) (c:=cm) (fun hne=>by
    obtain⟨gm,hgm,hge,hob,hir⟩:=hcm hne;refine⟨gm,hgm,hir,?_,?_⟩
    ·have:=QH hrm hob;exact this
    ·intro e;have h1:=(hA.out.row.lt gm e).2;have h2:=hHeld.2.2.2.2.2.size;omega) (by have:=HNT.out;omega)
   have HAD2:=Qh hAD;obtain⟨nm,hnm⟩:∃z,z=(moreI X i).length:=⟨_,rfl⟩;rw[←hnm] at hvm HAD2;subst hvm;refine hK.out _ _ ⟨Qc hk4 hHeld.1,Qc hk4 hHeld.2.1,Qc hk4 hHeld.2.2.1,Qc hk4 hHeld.2.2.2.1,Qc hk4 hHeld.2.2.2.2.1,hko⟩ (fun hHeld=> ?_);clear hK K hrm hcm hk4 hko hA4 hAD hnm
   try simp only[PP]
   refine re 7 (fun K hK=> ?_);go_simp
   go_at_call 79
   (with_reducible refine HAD2.out.mono ?_)
   rintro e w5⟨v5,rfl,hA5,_⟩;have HA5:=Qh hA5;refine hK.out _ _ ?_;clear hK K hHeld hA5;go_wp2_with fail
   go_roundg f'
   case rel=>exact⟨k+1,_,v5,by go_num,by have:=addsI_ge X (moreI X i) T;have:=HNT.out;omega,HZ',HA5⟩
   case measure=>omega
  ·have hTe:=closI_end hz.out (by have:=HNT.out;omega);subst hTe;have HSO:=Qh (sortedI (w:=wo) (b:=bm) (by omega) hA.out.mp);clear hz;have hkn:k=nT:=by omega
   subst hkn;go_wp2_with (first|(go_at_call 81;go_must ((with_reducible refine HSO.out.mono ?_);rintro e w2 ⟨v2,rfl,ho,hk2⟩;have HO:=Qh (And.intro ho hk2);clear ho hk2)))
   go_ret;exact⟨_,rfl,OwnK.base HO.out.1 hA.out.kn.size,hA.out.kn.trans HO.out.2⟩
theorem start_c{w:World}{pm ps B:Nat}{X:SX}{vl:Value}{vls:List Value}(h:MkAt w pm ps X vl vls B)(hown:∀n,(X.b.own.getD n []).length≤1000)(hf:X.fin≤1000000){Z:List IT}{fuel:Nat}
  (hz:closI X fuel 0 (YL X [] [((-1:Int),(0:Int),(X.fin:Int))])=some Z) (hZ:Z.length≤100000):
  Calls Tryz.prog 32 #[ptr pm] w (SortPost Z w):=by
 have q0:w.cell? ⟨pm,0,none⟩=some (ptr ps):=by rw[Qa h.blk];try rfl
 have hpl:=Qj h.blk;have HE:=Qh (iend_c h);obtain⟨w1,hw1⟩:∃z,z=w.alloc (.cells #[.int .i64 (-1),.int .i64 0,.int .i64 (X.fin:Nat)] QM):=⟨_,rfl⟩;obtain⟨g,hg⟩:∃z,z=w.heap.size:=⟨_,rfl⟩;have hG:w1.heap[g]? =some (.cells #[.int .i64 (-1),.int .i64 0,.int .i64 (X.fin:Nat)] QM (0,0)):=by rw[hw1,hg];exact Qf _ _
 have hk:Kn w w1:=by rw[hw1];exact(Qb _ _).alloc _
 have HC:=closure_c (h.kn hk) hown hf (l:=[((-1:Int),(0:Int),(X.fin:Int))]) (a:=some ⟨g,0,none⟩) (c:=1) (fun _=>⟨g,rfl,fun k hk=>by
  have hk0:k=0:=by simp at hk;omega
  subst hk0;exact⟨it_c0 hG,it_c1 hG,it_c2 hG⟩,⟨_,hG⟩⟩) hz hZ (by simp)
 simp only[List.length_cons,List.length_nil,Nat.zero_add] at HC;have HCC:=Qh HC;have HKW:=Qh hk;have HW:=Qh (And.intro hw1 hg);clear h hown hz hk hG HC hw1 hg;obtain⟨fi,hfi⟩:∃fi,fi=X.fin:=⟨_,rfl⟩;rw[←hfi] at HE HW;clear hfi;clear hZ;go_enter Tryz.func32,Tryz.ntmps32;go_wp2_with (first
  |(go_at_call 78;go_must ((with_reducible refine HE.out.mono ?_);rintro e w2 ⟨rfl,rfl⟩))
  |(go_at_call 33;go_must (rw[←HW.out.1,←HW.out.2];(with_reducible refine HCC.out.mono ?_);rintro e w3 ⟨v3,rfl,ho,hk3⟩;have HO:=Qh (And.intro ho hk3);clear ho hk3)))
 go_ret;exact⟨_,rfl,OwnK.base HO.out.1 HKW.out.size,HKW.out.trans HO.out.2⟩
end Go.Proofs.YtiehgcfckhepaaaGreatDoor
