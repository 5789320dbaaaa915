/-
  Texts of this claim, laid together: DGroup, DGrp, DNew, DAsk, SMeans, SClone, SClass, LPure, LRow, LLive, LKey, LRw, LAgain, LKinds. Conditions: none.
-/
import Derived.Test.YtiehgcfckhepaaaGreatDoorQAE
import Derived.Deep.MidRow
import Derived.Test.YtiehgcfckhepaaaGreatDoorQAC
import Derived.Lib.SliceRun
import Derived.Laws.OwnMore
import Derived.Deep.LoopGhost
set_option linter.unusedVariables false
set_option linter.unusedSimpArgs false
set_option maxRecDepth 100000
set_option maxHeartbeats 16000000
namespace Go.Proofs.YtiehgcfckhepaaaGreatDoor
open Go.RowKit Go.Maps
def YS(l:List DS)(c:Nat):List Nat:=l.map (fun s=>(s.next.getD c 0+1).toNat)
theorem colF_len(l:List DS)(c:Nat):(YS l c).length=l.length:=by simp[YS]
def grpS(l:List DS)(r:List (List Nat)×List Int)(c:Nat):List (List Nat)×List Int:=
 match r.1.findIdx? (fun k=>decide (k=YS l c)) with|some n=>(r.1,r.2.set c (n:Nat))|none=>(r.1++[YS l c],r.2.set c (r.1.length:Nat))
def grpK(l:List DS)(cl:List Int)(c:Nat):List (List Nat)×List Int:=(List.range c).foldl (grpS l) ([],cl)
theorem grpK_succ(l:List DS)(cl:List Int)(c:Nat):grpK l cl (c+1)=grpS l (grpK l cl c) c:=by
 unfold grpK;rw[List.range_succ,List.foldl_append];try rfl
theorem grpK_some{l:List DS}{cl:List Int}{c n:Nat}(h:(grpK l cl c).1.findIdx? (fun k=>decide (k=YS l c))=some n):grpK l cl (c+1)=((grpK l cl c).1,(grpK l cl c).2.set c (n:Nat)):=by
 rw[grpK_succ];unfold grpS;rw[h]
theorem grpK_none{l:List DS}{cl:List Int}{c:Nat}(h:(grpK l cl c).1.findIdx? (fun k=>decide (k=YS l c))=none):grpK l cl (c+1)=((grpK l cl c).1++[YS l c],(grpK l cl c).2.set c ((grpK l cl c).1.length:Nat)):=by
 rw[grpK_succ];unfold grpS;rw[h]
theorem grpK_len(l:List DS)(cl:List Int):∀c,(grpK l cl c).2.length=cl.length∧(grpK l cl c).1.length≤c
 |0=>⟨rfl,Nat.le_refl _⟩
 |c+1=>by
  obtain⟨h1,h2⟩:=grpK_len l cl c;cases h:(grpK l cl c).1.findIdx? (fun k=>decide (k=YS l c)) with
  |some n=>rw[grpK_some h];exact⟨by simpa using h1,by dsimp only;omega⟩
  |none=>rw[grpK_none h];exact⟨by simpa using h1,by simp;omega⟩
def NxOk(l:List DS):Prop:=∀s∈l,∀x∈s.next,-1≤x∧x<10000
theorem NxOk.at{l:List DS}(h:NxOk l)(hx:∀s∈l,s.next.length=256){j c:Nat}(hj:j<l.length)(hc:c<256):∃x:Int,l[j].next[c]? =some x∧-1≤x∧x<10000∧((l[j].next.getD c 0+1).toNat:Int)=x+1:=by
 have hl:=hx _ (List.getElem_mem hj);have hc':c<l[j].next.length:=by omega
 have h1:=h _ (List.getElem_mem hj) _ (List.getElem_mem hc');refine⟨l[j].next[c],List.getElem?_eq_getElem hc',h1.1,h1.2,?_⟩;rw[List.getD_eq_getElem?_getD,List.getElem?_eq_getElem hc',Option.getD_some];omega
theorem colF_lt{l:List DS}(h:NxOk l)(hx:∀s∈l,s.next.length=256){c:Nat}(hc:c<256):∀p∈YS l c,p≤10000:=by
 intro p hp;unfold YS at hp;obtain⟨s,hs,rfl⟩:=List.mem_map.1 hp;obtain⟨j,hj,rfl⟩:=List.getElem_of_mem hs;obtain⟨x,_,_,h2,h3⟩:=h.at hx hj hc;omega
theorem NxOk.next{l:List DS}(h:NxOk l)(n c:Nat){x:Int}(h1: -1≤x)(h2:x<10000):NxOk (Ye l n c x):=by
 intro s hs y hy;obtain⟨i,hi,rfl⟩:=List.getElem_of_mem hs;have hi':i<l.length:=by rw[QO] at hi;exact hi
 rw[dsNext_get l n c x i hi hi'] at hy;split at hy
 ·rcases List.mem_or_eq_of_mem_set hy with h3|h3
  ·exact h _ (List.getElem_mem hi') y h3
  ·subst h3;exact⟨h1,h2⟩
 ·exact h _ (List.getElem_mem hi') y hy
def grpM(m:List (List Nat)):KV:=m.zipIdx.map (fun p=>(txtV p.1,Value.int .i64 (p.2:Nat)))
theorem grpM_len(m:List (List Nat)):(grpM m).length=m.length:=by simp[grpM]
theorem grpM_snoc(m:List (List Nat))(k:List Nat):grpM (m++[k])=grpM m++[(txtV k,.int .i64 (m.length:Nat))]:=by
 unfold grpM;rw[List.zipIdx_append,List.map_append];simp
theorem grpM_mem{m:List (List Nat)}{p:Value×Value} :p∈grpM m↔∃i,∃h:i<m.length,p=(txtV m[i],.int .i64 (i:Nat)):=by
 unfold grpM;rw[List.mem_map];constructor
 ·rintro⟨q,hq,rfl⟩;obtain⟨j,hj,rfl⟩:=List.getElem_of_mem hq;have hj':j<m.length:=by simpa using hj
  exact⟨j,hj',by simp⟩
 ·rintro⟨i,h,rfl⟩;refine⟨(m[i],i),?_,rfl⟩;exact List.mem_iff_getElem.2 ⟨i,by simp;omega,by simp⟩
theorem txtV_inj2{a b:List Nat}(ha:∀p∈a,p≤10000)(hb:∀p∈b,p≤10000)(h:txtV a=txtV b):a=b:=by
 refine textF_inj (fun p hp=>by have:=ha p hp;omega) (fun p hp=>by have:=hb p hp;omega) ?_;injection h with h;have:=congrArg (fun x:ByteArray=>x.data.toList) h;simpa using this
theorem grpK_lt{l:List DS}{cl:List Int}(h:NxOk l)(hx:∀s∈l,s.next.length=256):∀c,c≤256→∀k∈(grpK l cl c).1,∀p∈k,p≤10000
 |0,_=>fun k hk=>by cases hk
 |c+1,hc=>by
  have ih:=grpK_lt (cl:=cl) h hx c (by omega);cases hf:(grpK l cl c).1.findIdx? (fun k=>decide (k=YS l c)) with
  |some n=>rw[grpK_some hf];exact ih
  |none=>
   rw[grpK_none hf];intro k hk;rcases List.mem_append.1 hk with h1|h1
   ·exact ih k h1
   ·simp at h1;subst h1;exact colF_lt h hx (by omega)
theorem DfaIn.rng{w:World}{pd pm:Nat}{v:Value}{l:List DS}{vas:List Value}{cl:List Int}{nc:Int}(h:DfaIn w pd pm v l vas cl nc){g n c:Nat}(hv:v= .slice (some ⟨g,0,none⟩) n c){i:Nat}(hi:i<l.length):
  ∃va,w.rangeAt g (i*258) (stL l[i] va)∧∃a k c,va= .slice a k c:=by
 obtain⟨g',c',va,h1,h2,h3,_⟩:=h.st hi;have e:g'=g:=by rw[hv] at h1;simpa[Value.ownBlock] using(congrArg Value.ownBlock h1).symm
 subst e;have hiv:i<vas.length:=by rw[←h.len];exact hi
 have hva:vas[i]=va:=by rw[List.getElem?_eq_getElem hiv] at h2;injection h2
 have hic:i<(stC l vas).length:=by rw[YW h.len];exact hi
 obtain⟨a,c2,h4,_,_,h5⟩:=h.row.row (stC_all h.nx);obtain⟨g2,rfl,_,hg2,h6⟩:=h5 (fun e=>by rw[e] at hic;simp at hic);have e2:g2=g':=by rw[h1] at hg2;simpa[Value.ownBlock] using hg2.symm
 subst e2;refine⟨va,fun j u hj=> ?_,?_⟩
 ·have hjl:j<258:=by
   have:=(List.getElem?_eq_some_iff.1 hj).1;rw[stL_len (h.nx _ (List.getElem_mem hi))] at this;exact this
  have h7:=(h6 i hic j hjl).1;rw[stC_get hi hiv hic,hva,hj] at h7;have e3:0+258*i+j=i*258+j:=by omega
  rw[e3] at h7;exact h7
 ·obtain⟨a,c,h7⟩:=h3.slice;exact⟨a,_,c,h7⟩
theorem DfaIn.cls1{w:World}{pd pm:Nat}{v:Value}{l:List DS}{vas:List Value}{cl:List Int}{nc:Int}(h:DfaIn w pd pm v l vas cl nc){c:Nat}(hc:c<256)(x:Int):
  DfaIn (w.setCell ⟨pd,2+c,none⟩ (.int .i64 x)) pd pm v l vas (cl.set c x) nc:=by
 have hk:K1 pd w (w.setCell ⟨pd,2+c,none⟩ (.int .i64 x)):=Qg _ _;refine⟨?_,by rw[List.length_set];exact h.cls,h.len,h.row.kp hk (fun g hg e=>by have:=(h.own_lt hg).1;omega),h.nx,fun i a b=>(h.ats i a b).kp hk (fun g cs hb e=> ?_)⟩
 ·rw[Qj h.blk];congr 2;unfold dfL;rw[List.setIfInBounds_toArray,Nat.add_comm 2 c,List.set_cons_succ,List.set_cons_succ,List.set_append_left _ _ (by rw[List.length_map,h.cls];exact hc),List.map_set]
 ·subst e;exact h.other hb (by decide) (by decide) (.inl rfl)
theorem DfaIn.ncl{w:World}{pd pm:Nat}{v:Value}{l:List DS}{vas:List Value}{cl:List Int}{nc:Int}(h:DfaIn w pd pm v l vas cl nc)(x:Int):
  DfaIn (w.setCell ⟨pd,258,none⟩ (.int .i64 x)) pd pm v l vas cl x:=by
 have hk:K1 pd w (w.setCell ⟨pd,258,none⟩ (.int .i64 x)):=Qg _ _;refine⟨?_,h.cls,h.len,h.row.kp hk (fun g hg e=>by have:=(h.own_lt hg).1;omega),h.nx,fun i a b=>(h.ats i a b).kp hk (fun g cs hb e=> ?_)⟩
 ·rw[Qj h.blk];congr 2;unfold dfL;rw[List.setIfInBounds_toArray,show(258:Nat)=256+1+1 from rfl,List.set_cons_succ,List.set_cons_succ,List.set_append_right _ _ (by rw[List.length_map,h.cls];exact Nat.le_refl _),List.length_map,h.cls];rfl
 ·subst e;exact h.other hb (by decide) (by decide) (.inl rfl)
theorem DfaIn.clc{w:World}{pd pm:Nat}{v:Value}{l:List DS}{vas:List Value}{cl:List Int}{nc:Int}(h:DfaIn w pd pm v l vas cl nc){c:Nat}(hc:c<256):w.cell? ⟨pd,2+c,none⟩=some (.int .i64 (cl[c]'(by rw[h.cls];exact hc))):=by
 rw[Qa h.blk,List.getElem?_toArray,dfL,Nat.add_comm 2 c,List.getElem?_cons_succ,List.getElem?_cons_succ,List.getElem?_append_left (by rw[List.length_map,h.cls];exact hc),List.getElem?_map,List.getElem?_eq_getElem (by rw[h.cls];exact hc)];rfl
theorem DfaIn.ncc{w:World}{pd pm:Nat}{v:Value}{l:List DS}{vas:List Value}{cl:List Int}{nc:Int}(h:DfaIn w pd pm v l vas cl nc):w.cell? ⟨pd,258,none⟩=some (.int .i64 nc):=by
 rw[Qa h.blk,List.getElem?_toArray,dfL,show(258:Nat)=256+1+1 from rfl,List.getElem?_cons_succ,List.getElem?_cons_succ,List.getElem?_append_right (by rw[List.length_map,h.cls];exact Nat.le_refl _),List.length_map,h.cls];rfl
theorem DfaIn.map1{w w':World}{pd pm bm:Nat}{v:Value}{l:List DS}{vas:List Value}{cl:List Int}{nc:Int}{k:KV}(h:DfaIn w pd pm v l vas cl nc)(hm:MapA w TStr bm k)(hk:K1 bm w w'):DfaIn w' pd pm v l vas cl nc:=by
 have hnb:∀g (C:Array Value) T fr,w.heap[g]? =some (.cells C T fr)→¬g=bm:=fun g C T fr hb e=>by
  subst e;obtain⟨es,ck,h2,_⟩:=hm;rw[h2] at hb;injection hb with hb;cases hb
 refine⟨hk.blk h.blk (hnb _ _ _ _ h.blk),h.cls,h.len,h.row.kp hk (fun g hg=> ?_),h.nx,fun i a b=>(h.ats i a b).kp hk (fun g cs hg=>hnb _ _ _ _ hg)⟩;obtain⟨cur,hb⟩:=h.own_blk hg;exact hnb _ _ _ _ hb
def GroupPost(pd pm:Nat)(v:Value)(l:List DS)(vas:List Value)(cl:List Int)(w:World)(e:Ending)(w':World):Prop:=
 e= .returned (.tuple #[])∧DfaIn w' pd pm v l vas (grpK l cl 256).2 ((grpK l cl 256).1.length:Nat)∧K1 pd w w'
theorem group_c{pd pm:Nat}{v:Value}{l:List DS}{vas:List Value}{cl:List Int}{nc:Int}{w:World}(hd:DfaIn w pd pm v l vas cl nc)(hx:NxOk l)(hpos:0<l.length)(hll:l.length≤5000):
  Calls Tryz.prog 218 #[ptr pd] w (GroupPost pd pm v l vas cl w):=by
 obtain⟨g,cv,_,rfl,_⟩:=hd.st hpos;have HD:=Qh hd;have HX:=Qh hx;have HLT:=Qh (fun c (hc:c<256)=>colF_lt (c:=c) hx hd.nx hc);have HGL:=Qh (fun c=>grpK_len l cl c);have HGT:=Qh (grpK_lt (cl:=cl) hx hd.nx);have hpl:=hd.lt;have hgl:=(hd.own_lt (g:=g) rfl).2;obtain⟨i0,hi,hz0,hz1,hz2⟩:=info_parts info_int;have HI:=Qh (And.intro hi (And.intro hz0 (And.intro hz1 hz2)));have hst0:(Tryz.prog.info? TDs).map (fun i=>(i.zero,i.size))=some (some (.agg (newS (.slice none 0 0) 0)),258):=by
  obtain⟨ie,h1,h2,h3,_⟩:=state_info;rw[h1];simp[h2,h3]
 obtain⟨Z,hZ⟩:∃z,z=newS (.slice none 0 0) 0:=⟨_,rfl⟩;have hZs:Z.size=258:=by rw[hZ];exact Yb _ _
 rw[←hZ] at hst0;obtain⟨hzz,hzi⟩:=zero_of_info hst0;have HZI:=Qh (And.intro hzi hZs);have hzi0:∀w,(zeroValue 3).run Tryz.prog w= .ok (.int .i64 0) w:=Tryz.zeroValue3;have HZ:=Qh hzi0;have hmm:= @run_makeMap Tryz.prog;clear hd hx hi hz0 hz1 hz2 hZ hst0 hzi hZs hzi0;go_enter Tryz.func218,Tryz.ntmps218;go_wp2_with fail
 obtain⟨bm,hbm⟩:∃z,z=w.heap.size:=⟨_,rfl⟩;obtain⟨w1,hw1⟩:∃z,z=w.alloc (.map #[] 0):=⟨_,rfl⟩;have hk1:Kn w w1:=by rw[hw1];exact(Qb _ _).alloc _
 have hm1:MapA w1 TStr bm (grpM []):=by rw[hw1,hbm];exact MapA.new w TStr
 have hbg:w.heap.size≤bm:=by omega
 rw[←hw1,←hbm];have HM1:=Qh hm1;clear hw1 hbm hm1;go_loopw [11] (fun i wr=>∃c:Nat,c≤256∧i= .int .i64 c∧Hid (DfaIn wr pd pm (.slice (some ⟨g,0,none⟩) l.length cv) l vas (grpK l cl c).2 nc)∧Hid (MapA wr TStr bm (grpM (grpK l cl c).1))∧K1 pd w wr) (fun i _=>256-(intOf i).toNat)
 case atStart=>exact⟨0,by omega,rfl,Qh (HD.out.kn hk1),HM1,hk1.weak⟩
 case round=>
  obtain⟨c,hc256,rfl,hdo,hmo,hkn⟩:=hrel;obtain⟨wo,hwo⟩:∃z,z=wr:=⟨_,rfl⟩;subst hwo;have hgl0:=HGL.out c;have hsz:=hkn.size;obtain⟨r,hr⟩:∃z,z=grpK l cl c:=⟨_,rfl⟩;rw[←hr] at hgl0 hdo hmo;obtain⟨hc1,hc2,hc3⟩:=hdo.out.cells;by_cases hlt:c<256
  ·have hc9:(c:Int)<256:=by omega
   have HR:=Qh hr;clear hr;go_wp2_with (first|(at_make;go_must (refine wpList_make_own _ rfl (.const (.int .i64 0)) (.tmp 18) 28 rfl wo.heap.size 3 i0 (.int .i64 0) 1 Tryz.underlying28 HI.out.1 HI.out.2.1 HI.out.2.2.1 .i64 .i64 (l.length:Int) l.length rfl rfl rfl (by rw[HI.out.2.2.2];omega) (by simp only[maxLen];omega) (Nat.le_refl _) ?_;intro w2 hown2 hg2;have hk2:Kn wo w2:=QL (S:=fun _=>False) hg2 (fun k e _=>by cases e);have hc12:=Qc hk2 hc2)))
   have HOW2:=Qh hown2;clear hown2 hg2 hc12;go_loopw [4,25] (fun s i wi=>∃(vc:Value) (j:Nat),vc=s∧j≤l.length∧i= .int .i64 j∧Hid (OwnI wi wo.heap.size vc ((YS l c).take j))∧Kn wo wi) (fun _ i _=>l.length-(intOf i).toNat)
   case atStart=>exact⟨_,0,rfl,Nat.zero_le _,rfl,HOW2,hk2⟩
   case round=>
    obtain⟨vc,j,rfl,hj,rfl,hvc,hki⟩:=hrel;clear HOW2 hk2;have hcl:((YS l c).take j).length≤5000:=by rw[List.length_take,colF_len];omega
    by_cases hjl:j<l.length
    ·have hjc:j<(YS l c).length:=by rw[colF_len];exact hjl
     have hs:Hid ((YS l c).take (j+1)=(YS l c).take j++[(YS l c)[j]]):=Qh (List.take_succ_eq_append_getElem hjc);have hdi:=hdo.out.kn hki;obtain⟨va,hrg,av,ka,cva,rfl⟩:=hdi.rng (g:=g) rfl hjl;obtain⟨x,hx0,hx1,hx2,hx3⟩:=HX.out.at hdo.out.nx hjl hlt;have hcj:Hid ((((YS l c)[j]:Nat):Int)=x+1):=Qh (by rw[←hx3];simp[YS]);have hn256:=hdo.out.nx _ (List.getElem_mem hjl);obtain⟨C,hC⟩:∃z,z=(stL l[j] (.slice av ka cva)).toArray:=⟨_,rfl⟩;have hCs:C.size=258:=by rw[hC,List.size_toArray];exact stL_len hn256
     have hC1:C.all (·.oneCell')=true:=by
      rw[hC,Array.all_eq_true_iff_forall_mem];intro u hu;simp only[stL,List.mem_toArray,List.mem_cons,List.mem_append,List.mem_map,List.mem_nil_iff,or_false] at hu;rcases hu with h|⟨y,_,h⟩|h<;>subst h<;>rfl
     have hCc:C[1+c]? =some (.int .i64 x):=by
      rw[hC,List.getElem?_toArray,stL,Nat.add_comm 1 c,List.getElem?_cons_succ,List.getElem?_append_left (by rw[List.length_map];omega),List.getElem?_map,hx0];rfl
     have hrg2:wr.rangeAt g (j*258) C.toList:=by rw[hC];exact hrg
     have hi258:(Tryz.prog.info? TDs).map (·.size)=some C.toList.length:=by rw[Array.length_toList,hCs];exact HZI.out.1
     have hst:=run_storeCells_new (P:=Tryz.prog) wr TDs Z C (by rw[hCs];exact HZI.out.1) (by rw[HZI.out.2,hCs]) hC1;have HW:=Qh (And.intro hrg2 (And.intro hi258 (And.intro hC1 hCs)));clear hrg2 hi258 hC1 hrg hdi hC hx0 hx3;go_upto_region 8 with(refine wpList_load_mid rfl TDs _ rfl g (j*258) rfl C.toList _ HW.out.1 Tryz.underlying354 rfl HW.out.2.1 ?_;simp only[Array.toArray_toList])
     obtain⟨gn,hgn⟩:∃z,z=wr.heap.size:=⟨_,rfl⟩;obtain⟨w3,hw3⟩:∃z,z=wr.alloc (.cells C TDs):=⟨_,rfl⟩;have hk3:Kn wr w3:=by rw[hw3];exact(Qb _ _).alloc _
     have hb3:w3.heap[gn]? =some (.cells C TDs):=by rw[hw3,hgn];exact Qf _ _
     have hc3:w3.cell? ⟨gn,1+c,none⟩=some (.int .i64 x):=by rw[Qa hb3];exact hCc
     rw[←hw3,←hgn];have hvc3:=Qh (hvc.out.kn hk3);have hki3:=hki.trans hk3;have hsz3:=hki3.size;clear hst hw3 hgn hk3 hb3;go_wp2_with (at_builtin;refine Yc rfl (.tmp 29) (.tmp 35) rfl wo.heap.size w3.heap.size vc _ _ [(YS l c)[j]] rfl rfl (hvc3.out.kn ((Qb _ _).alloc _)) (by have:=OwnI.one w3 (YS l c)[j];rw[hcj.out] at this;exact this) (by simp;omega) (by rw[size_alloc'];omega) ?_;intro v4 w4 hro4 hk4)
     have HR4:=Qh hro4;have hkn4:Kn wo w4:=(hki3.alloc _).trans' hk4 (fun i hi e=>by have:=(hvc3.out.lt i e.symm).1;omega);clear hro4 hk4 hc3;go_wp2_with fail
     go_roundw
     case rel=>exact⟨v4,j+1,rfl,by omega,by go_num,Qh (by rw[hs.out];exact HR4.out),hkn4⟩
     case measure=>simp[intOf];omega
    ·have e:j=l.length:=by omega
     have hvl:=hvc.out;rw[e,List.take_of_length_le (by rw[colF_len];exact Nat.le_refl _)] at hvl;have HT:=Qh (text_c _ _ _ wr hvl (fun p hp=>by have:=HLT.out c hlt p hp;omega) (by rw[colF_len];omega));clear hvl hvc;go_wp2_with fail
     refine HT.out.mono ?_;rintro e w5 ⟨rfl,hk5⟩;have hki5:=hki.trans hk5;have HD5:=Qh (hdo.out.kn hki5);have HM5:=Qh (hmo.out.kn hki5);have hkn5:=hkn.trans' hki5 (fun i hi e=>by cases e);obtain⟨lx,hkey⟩:=txt_key (YS l c) (by rw[colF_len];omega);have HK:=Qh hkey;have hlen5:=HM5.out.len Tryz.underlying179 3;rw[grpM_len] at hlen5;have hq1:=HD5.out.clc hlt;have hq2:=Qd HD5.out.blk (2+c);clear hkey hki5 hki hk5;cases hf:r.1.findIdx? (fun k=>decide (k=YS l c)) with
     |some n=>
      obtain⟨hnl,hat,_⟩:=List.findIdx?_eq_some_iff_getElem.1 hf;have hat':r.1[n]=YS l c:=by simpa using hat
      have HX1:Hid ((txtV (YS l c),Value.int .i64 (n:Nat))∈grpM r.1):=Qh (grpM_mem.2 ⟨n,hnl,by rw[hat']⟩);have HRS:Hid (grpK l cl (c+1)=(r.1,r.2.set c (n:Nat))):=Qh (by rw[HR.out] at hf⊢;exact grpK_some hf);clear hf hat hat';go_wp2_with (at_lookup;refine Yr rfl (.tmp 41) (.tmp 42) true rfl str_key Tryz.underlying179 rfl HM5.out (txtV (YS l c)) lx rfl HK.out (.int .i64 (n:Nat)) HX1.out ?_)
      obtain⟨w6,hw6⟩:∃z,z=w5.setCell ⟨pd,2+c,none⟩ (.int .i64 (n:Nat)):=⟨_,rfl⟩;have hk6:K1 pd w5 w6:=by rw[hw6];exact Qg _ _
      have HD6:=Qh (HD5.out.cls1 hlt (n:Nat));rw[←hw6] at HD6⊢;clear hw6;go_roundw
      case rel=>exact⟨c+1,by omega,by go_num,Qh (by rw[HRS.out];exact HD6.out),Qh (by rw[HRS.out];exact HM5.out.kp hk6 (fun e=>by omega)),hkn5.trans hk6⟩
      case measure=>simp[intOf];omega
     |none=>
      have HX0:Hid (∀p∈grpM r.1,p.1≠txtV (YS l c)):=Qh (by
       intro p hp e;obtain⟨i,hi,rfl⟩:=grpM_mem.1 hp;have h2:=txtV_inj2 (HGT.out c hc256 r.1[i] (by rw[←HR.out];exact List.getElem_mem hi)) (HLT.out c hlt) e;have h3:=List.findIdx?_eq_none_iff.1 hf _ (List.getElem_mem hi);simp[h2] at h3)
      have HRS:Hid (grpK l cl (c+1)=(r.1++[YS l c],r.2.set c (r.1.length:Nat))):=Qh (by rw[HR.out] at hf⊢;exact grpK_none hf);clear hf;go_wp2_with (first
       |(at_lookup;refine Zb rfl (.tmp 41) (.tmp 42) true rfl str_key Tryz.underlying179 (.int .i64 0) HZ.out rfl HM5.out (txtV (YS l c)) lx rfl HK.out HX0.out ?_)
       |(at_mapUpdate;refine wpList_put0 rfl (.tmp 50) (.tmp 51) (.tmp 52) rfl str_key Tryz.underlying179 rfl HM5.out (txtV (YS l c)) (.int .i64 (r.1.length:Nat)) lx rfl rfl HK.out HX0.out ?_;intro w7 hm7 hk7;have HM7:=Qh hm7;have HD7:=Qh (HD5.out.map1 HM5.out hk7);have hs1:=HD7.out.clc hlt;have hs2:=Qd HD7.out.blk (2+c);clear hm7))
      obtain⟨w6,hw6⟩:∃z,z=w7.setCell ⟨pd,2+c,none⟩ (.int .i64 (r.1.length:Nat)):=⟨_,rfl⟩;have hk6:K1 pd w7 w6:=by rw[hw6];exact Qg _ _
      have HD6:=Qh (HD7.out.cls1 hlt (r.1.length:Nat));rw[←hw6] at HD6⊢;clear hw6;go_roundw
      case rel=>exact⟨c+1,by omega,by go_num,Qh (by rw[HRS.out];exact HD6.out),Qh (by rw[HRS.out,grpM_snoc];exact HM7.out.kp hk6 (fun e=>by omega)),(hkn5.trans' hk7 (fun i hi e=>by omega)).trans hk6⟩
      case measure=>simp[intOf];omega
  ·have e:c=256:=by omega
   subst e;have hlen5:=hmo.out.len Tryz.underlying179 3;rw[grpM_len] at hlen5;have hq1:=hdo.out.ncc;have hq2:=Qd hdo.out.blk 258;have HR:=Qh hr;clear hr;go_wp2_with fail
   go_end0
   refine⟨rfl,?_,hkn.trans (Qg _ _)⟩;rw[←HR.out];exact hdo.out.ncl _
def NxL(l:List DS)(B:Nat):Prop:=∀s∈l,∀x∈s.next,-1≤x∧x<B
theorem NxL.mono{l:List DS}{A B:Nat}(h:NxL l A)(hB:A≤B):NxL l B:=fun s hs x hx=>by have:=h s hs x hx;omega
theorem NxL.ok{l:List DS}{B:Nat}(h:NxL l B)(hB:B≤10000):NxOk l:=fun s hs x hx=>by have:=h s hs x hx;omega
theorem NxL.next{l:List DS}{B:Nat}(h:NxL l B)(n c:Nat){x:Int}(h1: -1≤x)(h2:x<B):NxL (Ye l n c x) B:=by
 intro s hs y hy;obtain⟨i,hi,rfl⟩:=List.getElem_of_mem hs;have hi':i<l.length:=by rw[QO] at hi;exact hi
 rw[dsNext_get l n c x i hi hi'] at hy;split at hy
 ·rcases List.mem_or_eq_of_mem_set hy with h3|h3
  ·exact h _ (List.getElem_mem hi') y h3
  ·subst h3;exact⟨h1,h2⟩
 ·exact h _ (List.getElem_mem hi') y hy
theorem place_nxl{M:NM}{l:List DS}{B:Nat}(hB:0<B)(h:NxL l B)(tl:List Nat):NxL (M.place l tl).1 B:=by
 unfold NM.place;split
 ·exact h
 ·split
  ·exact h
  ·intro s hs y hy;rcases List.mem_append.1 hs with h1|h1
   ·exact h s h1 y hy
   ·simp at h1;subst h1;have:=List.eq_of_mem_replicate hy;omega
theorem fillK_nxl{M:NM}{l:List DS}(ok:NMok M)(h:DGood M l)(hn:NxL l l.length){nx:List Nat}{n:Nat}(hnx:∀p∈nx,p<M.pos.length)(hl:nx.length≤2000):∀c,NxL (fillK M nx n l c) (fillK M nx n l c).length
 |0=>hn
 |c+1=>by
  have ih:=fillK_nxl ok h hn (n:=n) hnx hl c;obtain⟨h1,h2,h3⟩:=fillK_good ok h (n:=n) hnx hl c;obtain⟨h0,h5,h6,h7,h8⟩:=place_good ok h1 (hasF M nx c) (fun p hp=>hnx p (List.mem_filter.1 hp).1) (Nat.le_trans (List.length_filter_le _ _) hl);rw[fillK_succ,QO];exact(place_nxl h0.pos (ih.mono h5) _).next _ _ h7 h8
structure DL (l:List DS):Prop where
 pos:0<l.length
 len:l.length≤2000
 nx:NxL l l.length
 acc:∀s∈l,-1≤s.accept∧s.accept<1000000
def DfaAt(w:World)(pd:Nat)(l:List DS):Prop:=∃pm v vas,DfaIn w pd pm v l vas (grpK l (List.replicate 256 0) 256).2 ((grpK l (List.replicate 256 0) 256).1.length:Nat)∧DL l
theorem DfaAt.kn{w w':World}{pd:Nat}{l:List DS}(h:DfaAt w pd l)(hk:Kn w w'):DfaAt w' pd l:=by obtain⟨pm,v,vas,h1,h2⟩:=h;exact⟨pm,v,vas,h1.kn hk,h2⟩
def DNewPost(M:NM)(w:World)(e:Ending)(w':World):Prop:=
 Kn w w'∧match M.dfa with|none=>e= .returned (.tuple #[.pointer none,.int .i64 3])|some l=>∃pd,w.heap.size≤pd∧e= .returned (.tuple #[ptr pd,.int .i64 0])∧DfaAt w' pd l
theorem go_succ(M:NM)(f n:Nat)(l:List DS)(h:n<l.length):M.go (f+1) n l=if 2000<(M.fill n l).length then none else M.go f (n+1) (M.fill n l):=by
 rw[NM.go,if_pos h]
theorem go_end(M:NM)(f n:Nat)(l:List DS)(h:¬n<l.length):M.go (f+1) n l=some l:=by
 rw[NM.go,if_neg h]
theorem DNew_c{pm:Nat}{M:NM}{w:World}(hN:NfaAt w pm M)(ok:NMok M):
  Calls Tryz.prog 164 #[ptr pm] w (DNewPost M w):=by
 have HN:=Qh hN;have HOK:=Qh ok;have hmm:= @run_makeMap Tryz.prog;obtain⟨Z,hZ⟩:∃z,z=newS (.slice none 0 0) (-1):=⟨_,rfl⟩;have hZs:Z.size=258:=by rw[hZ];exact Yb _ _
 have HZ:=Qh hZ;have hzc:Tryz.zeroCells354.setIfInBounds 257 (.int .i64 (-1))=Z:=by rw[hZ];kernel_rfl
 clear hN ok hZ;go_enter Tryz.func164,Tryz.ntmps164;go_wp2_with fail
 refine wp_slice_state (.tmp 10) Z (by rfl) (by rfl) hZs ?_;go_wp2_with fail
 obtain⟨pb,hpb⟩:∃z,z=w.heap.size+1+1+1:=⟨_,rfl⟩;obtain⟨bm,hbm⟩:∃z,z=w.heap.size+1+1:=⟨_,rfl⟩;obtain⟨pd,hpd⟩:∃z,z=w.heap.size+1:=⟨_,rfl⟩;obtain⟨g,hg⟩:∃z,z=w.heap.size:=⟨_,rfl⟩;obtain⟨A,hA⟩:∃z,z=(Tryz.zeroCells357.setIfInBounds 0 (ptr pm)).setIfInBounds 1 (.slice (some ⟨g,0,none⟩) 1 1):=⟨_,rfl⟩;rw[←hpb,←hbm,←hpd,←hg,←hA];obtain⟨W,hW⟩:∃z,z=(((w.alloc (.cells Z TDs)).alloc (.cells A TD)).alloc (.map #[] 0)).alloc (.cells #[ptr pd,.map (some bm)] TDb):=⟨_,rfl⟩;have hkW:Kn w W:=by rw[hW];exact((((Qb _ _).alloc _).alloc _).alloc _).alloc _
 have hA2:A=(dfL pm (.slice (some ⟨g,0,none⟩) 1 1) (List.replicate 256 0) 0).toArray:=by rw[hA];kernel_rfl
 have e1:(w.alloc (.cells Z TDs)).heap.size=pd:=by rw[size_alloc',hpd]
 have e2:((w.alloc (.cells Z TDs)).alloc (.cells A TD)).heap.size=bm:=by rw[size_alloc',e1,hpd,hbm]
 have e3:(((w.alloc (.cells Z TDs)).alloc (.cells A TD)).alloc (.map #[] 0)).heap.size=pb:=by rw[size_alloc',e2,hpb,hbm]
 have b0:W.heap[g]? =some (.cells Z TDs (0,0)):=by rw[hW,hg];exact Qq (Qq (Qq (Qf _ _) _) _) _
 have b1:W.heap[pd]? =some (.cells A TD (0,0)):=by
  have:=Qq (Qq (Qf (w.alloc (.cells Z TDs)) (.cells A TD)) (.map #[] 0)) (.cells #[ptr pd,.map (some bm)] TDb);rw[e1] at this;rw[hW];exact this
 have b2:MapA W TStr bm []:=by
  have:=(MapA.new ((w.alloc (.cells Z TDs)).alloc (.cells A TD)) TStr).kn ((Qb _ _).alloc (.cells #[ptr pd,.map (some bm)] TDb));rw[e2] at this;rw[hW];exact this
 have b3:BuildIn W pb pd bm:=by
  have:=Qf (((w.alloc (.cells Z TDs)).alloc (.cells A TD)).alloc (.map #[] 0)) (.cells #[ptr pd,.map (some bm)] TDb);rw[e3] at this;rw[hW];exact this
 have hZl:Z.toList=stL ⟨[],NM.zeros,-1⟩ (.slice none 0 0):=by rw[HZ.out];exact newS_eq [] _ _
 have hd0:DfaIn W pd pm (.slice (some ⟨g,0,none⟩) 1 1) [⟨[],NM.zeros,-1⟩] [.slice none 0 0] (List.replicate 256 0) 0:=by
  refine⟨by rw[b1,hA2],List.length_replicate ..,rfl,⟨?_,.inr ⟨g,1,Z,rfl,by omega,b0,Nat.le_refl _,by simp[maxLen],by rw[hZs],?_⟩⟩,?_,?_⟩
  ·simp[stC,stL,NM.zeros]
  ·rw[hZl];simp[stC,stL,NM.zeros]
  ·intro s hs;simp at hs;subst hs;exact List.length_replicate ..
  ·intro i a b;have e:i=0:=by simp at a;omega
   subst e;exact .inl ⟨rfl,rfl⟩
 have hm0:metK [⟨[],NM.zeros,-1⟩]=[]:=rfl;have hg0:DGood M [⟨[],NM.zeros,-1⟩]:=⟨by simp,fun _=>rfl,(fun s hs=>by simp at hs;subst hs;intro p hp;cases hp),(fun s hs=>by simp at hs;subst hs;simp),(fun s hs=>by simp at hs;subst hs;simp)⟩;have hn0:NxL [⟨[],NM.zeros,-1⟩] 1:=fun s hs x hx=>by
  simp at hs;subst hs;have:=List.eq_of_mem_replicate hx;omega
 have HINI:=Qh (And.intro hd0 (And.intro b2 (And.intro b3 (And.intro hg0 hn0))));have HGO:Hid (M.go 2002 0 [⟨[],NM.zeros,-1⟩]=M.dfa):=Qh rfl;have hp0:w.heap.size+1≤pd:=by omega
 have hm0':w.heap.size≤bm:=by omega
 rw[←hW];clear hW hA2 hA e1 e2 e3 b0 b1 b2 b3 hZl hd0 hg0 hn0 hpb hbm hpd hm0 hzc hg;go_loopw [6] (fun i wr=>∃(k:Nat) (lk:List DS) (v:Value) (vas:List Value),i= .int .i64 k∧k≤lk.length∧lk.length≤2000∧Hid (M.go (2002-k) k lk=M.dfa)∧Hid (DfaIn wr pd pm v lk vas (List.replicate 256 0) 0)∧Hid (MapA wr TStr bm (metK lk))∧Hid (BuildIn wr pb pd bm)∧Hid (DGood M lk)∧Hid (NxL lk lk.length)∧Kn w wr) (fun i _=>2001-(intOf i).toNat)
 case atStart=>exact⟨0,_,_,_,rfl,Nat.zero_le _,by simp,HGO,Qh HINI.out.1,Qh HINI.out.2.1,Qh HINI.out.2.2.1,Qh HINI.out.2.2.2.1,Qh HINI.out.2.2.2.2,hkW⟩
 case round=>
  clear HINI HGO;obtain⟨k,lk,v,vas,rfl,hk,hlk,hgo,hdi,hmi,hbi,hgd,hnx,hkn⟩:=hrel;obtain⟨av,cv,rfl⟩:=hdi.out.slice;obtain⟨c0,c1,_⟩:=hdi.out.cells;by_cases hlt:k<lk.length
  ·have HF:=Qh (fill_c k HN.out HOK.out hkn hp0 hm0' hdi.out hmi.out hbi.out hgd.out hlt (by omega));have hgs:=go_succ M (2001-k) k lk hlt;rw[show 2001-k+1=2002-k by omega,hgo.out] at hgs;have hfe:=fill_eq M k lk hlt;have hbl:=behind_lt M HOK.out lk[k].at_ (hgd.out.lt _ (List.getElem_mem hlt));have hrs:=ris_small (behind_ris M lk[k].at_) hbl HOK.out.len;have hgk:=fillK_good (n:=k) HOK.out hgd.out hbl hrs 256;have hnk:=fillK_nxl (n:=k) HOK.out hgd.out hnx.out hbl hrs 256;rw[←hfe] at hgk hnk;obtain⟨lf,hlf⟩:∃z,z=M.fill k lk:=⟨_,rfl⟩;rw[←hlf] at HF hgs hgk hnk;have HGS:=Qh hgs;have HGK:=Qh hgk;have HNK:=Qh hnk;have hle1:=hgk.2.1;have hle2:=hgk.2.2;clear hgs hgk hnk hfe hlf hbl hrs;go_wp2_with fail
   refine HF.out.mono ?_;rintro e w2 ⟨v2,vas2,rfl,hpo⟩;obtain⟨a2,c2,rfl⟩:=hpo.d.slice;obtain⟨d0,d1,_⟩:=hpo.d.cells;have HPO:=Qh hpo;have hk2:=hpo.ghost hdi.out hkn hp0 hm0';clear hpo c0 c1;by_cases hgt:2000<lf.length
   ·have hgt':(2000:Int)<lf.length:=by omega
    go_wp2_with fail
    go_ret2
    have e:=HGS.out;rw[if_pos hgt] at e;refine⟨hk2,?_⟩;rw[e];try rfl
   ·have hgt':¬(2000:Int)<lf.length:=by omega
    go_wp2_with fail
    go_roundw
    case rel=>exact⟨k+1,lf,_,vas2,by go_num,by omega,by omega,Qh (by rw[HGS.out,if_neg hgt];congr 1;omega),Qh HPO.out.d,Qh HPO.out.m,Qh HPO.out.b,Qh HGK.out.1,HNK,hk2⟩
    case measure=>simp[intOf];omega
  ·have hgs:=go_end M (2001-k) k lk hlt;rw[show 2001-k+1=2002-k by omega,hgo.out] at hgs;have HGS:=Qh hgs;have HG:=Qh (group_c hdi.out (hnx.out.ok (by omega)) hgd.out.pos (by omega));have hlt':¬(k:Int)<lk.length:=by omega
   clear hgs;go_wp2_with fail
   refine HG.out.mono ?_;rintro e w2 ⟨rfl,hd2,hk2⟩;have HD2:=Qh hd2;clear hd2;go_wp2_with fail
   go_ret2
   refine⟨hkn.trans' hk2 (fun i hi e=>by omega),?_⟩;rw[HGS.out];exact⟨pd,by omega,rfl,pm,_,vas,HD2.out,hgd.out.pos,hlk,hnx.out,hgd.out.acc⟩
def dnx(l:List DS)(n b:Nat):Int:=match l[n]? with|some s=>s.next.getD b (-1)|none=> -1
def dac(l:List DS)(n:Nat):Int:=match l[n]? with|some s=>s.accept|none=> -1
theorem DL.dnx_lt{l:List DS}(h:DL l)(n b:Nat): -1≤dnx l n b∧dnx l n b<l.length:=by
 unfold dnx;have hp:=h.pos;cases hs:l[n]? with
 |none=>dsimp only;omega
 |some s=>
  dsimp only;rw[List.getD_eq_getElem?_getD];cases hx:s.next[b]? with
  |none=>simp only[Option.getD_none];omega
  |some x=>exact h.nx s (List.mem_of_getElem? hs) x (List.mem_of_getElem? hx)
theorem DL.dac_lt{l:List DS}(h:DL l)(n:Nat): -1≤dac l n∧dac l n<1000000:=by
 unfold dac;cases hs:l[n]? with
 |none=>dsimp only;omega
 |some s=>exact h.acc s (List.mem_of_getElem? hs)
theorem DfaAt.look{w:World}{pd:Nat}{l:List DS}(h:DfaAt w pd l):∃g c,w.cell? ⟨pd,1,none⟩=some (.slice (some ⟨g,0,none⟩) l.length c)∧
  (∀n b,n<l.length→b<256→w.cell? ⟨g,n*258+1+b,none⟩=some (.int .i64 (dnx l n b)))∧(∀n,n<l.length→w.cell? ⟨g,n*258+257,none⟩=some (.int .i64 (dac l n))):=by
 obtain⟨pm,v,vas,hd,hl⟩:=h;obtain⟨g,c,va,rfl,_⟩:=hd.st hl.pos;refine⟨g,c,hd.cells.2.1,fun n b hn hb=> ?_,fun n hn=> ?_⟩
 ·obtain⟨g',c',_,e,_,_,_,h1,_⟩:=hd.st hn;have e2:g=g':=by simpa[Value.ownBlock] using congrArg Value.ownBlock e
  subst e2;have h2:=hd.nx _ (List.getElem_mem hn);rw[h1 b hb,List.getElem?_map,List.getElem?_eq_getElem (by omega)];simp[dnx,hn,h2,hb]
 ·obtain⟨g',c',_,e,_,_,_,_,h1,_⟩:=hd.st hn;have e2:g=g':=by simpa[Value.ownBlock] using congrArg Value.ownBlock e
  subst e2;rw[h1];simp[dac,hn]
theorem DStates_c(pd:Nat)(l:List DS)(w:World)(h:DfaAt w pd l):
  Calls Tryz.prog 221 #[ptr pd] w fun e w'=>e= .returned (.int .i64 l.length)∧w'=w:=by
 obtain⟨g,c,h1,_⟩:=h.look;clear h;go_enter Tryz.func221,Tryz.ntmps221;go_wp2_with fail
 go_ret;exact⟨rfl,rfl⟩
theorem DHas_c(pd n:Nat)(l:List DS)(w:World)(h:DfaAt w pd l)(hn:n<l.length):
  Calls Tryz.prog 269 #[ptr pd,.int .i64 n] w fun e w'=>e= .returned (.bool true)∧w'=w:=by
 have H:=Qh (DStates_c pd l w h);clear h;go_enter Tryz.func269,Tryz.ntmps269;go_wp2_with fail
 refine H.out.mono ?_;rintro e w' ⟨rfl,rfl⟩;go_wp2_with fail
 go_ret;exact⟨rfl,rfl⟩
theorem DAccept_c(pd n:Nat)(l:List DS)(w:World)(h:DfaAt w pd l)(hn:n<l.length):
  Calls Tryz.prog 222 #[ptr pd,.int .i64 n] w fun e w'=>e= .returned (.int .i64 (dac l n))∧w'=w:=by
 have H:=Qh (DHas_c pd n l w h hn);obtain⟨g,c,h1,_,h2⟩:=h.look;have h3:=h2 n hn;clear h h2;go_enter Tryz.func222,Tryz.ntmps222;go_wp2_with fail
 refine H.out.mono ?_;rintro e w' ⟨rfl,rfl⟩;go_wp2_with fail
 go_ret;exact⟨rfl,rfl⟩
def nxV(x:Int):Value:=if x= -1 then .tuple #[.int .i64 0,.bool false] else .tuple #[.int .i64 x,.bool true]
theorem DNext_c(pd n b:Nat)(l:List DS)(w:World)(h:DfaAt w pd l)(hn:n<l.length)(hb:b<256):
  Calls Tryz.prog 223 #[ptr pd,.int .i64 n,.int .u8 b] w fun e w'=>e= .returned (nxV (dnx l n b))∧w'=w:=by
 have H:=Qh (DHas_c pd n l w h hn);obtain⟨g,c,h1,h2,_⟩:=h.look;have h3:=h2 n b hn hb;have hb2:(b:Int)<256:=by omega
 clear h h2;obtain⟨x,hx⟩:∃x,x=dnx l n b:=⟨_,rfl⟩;rw[←hx] at h3⊢;clear hx;by_cases e:x= -1
 ·subst e;go_enter Tryz.func223,Tryz.ntmps223;go_wp2_with fail
  refine H.out.mono ?_;rintro e w' ⟨rfl,rfl⟩;go_wp2_with fail
  go_ret2
  exact⟨rfl,rfl⟩
 ·have e2:(x== -1)=false:=by rw[beq_eq_false_iff_ne];exact e
  have HE:=Qh e;go_enter Tryz.func223,Tryz.ntmps223;go_wp2_with fail
  refine H.out.mono ?_;rintro e w' ⟨rfl,rfl⟩;go_wp2_with fail
  go_ret2
  exact⟨by rw[nxV,if_neg HE.out];try rfl,rfl⟩
end Go.Proofs.YtiehgcfckhepaaaGreatDoor
namespace Go.Proofs.YtiehgcfckhepaaaGreatDoor
open Go.RowKit
theorem ncount_le:∀t:Rw,Qr t≤t.size
 | .set _=>by simp[Qr,Re.size]
 | .empty=>by simp[Qr]
 | .cat x y=>by have:=ncount_le x;have:=ncount_le y;simp only[Qr,Re.size];omega
 | .or x y=>by have:=ncount_le x;have:=ncount_le y;simp only[Qr,Re.size];omega
 | .star x=>by have:=ncount_le x;simp only[Qr,Re.size];omega
theorem DfaAt.dl{w:World}{pd:Nat}{l:List DS}(h:DfaAt w pd l):DL l:=by obtain⟨_,_,_,_,h⟩:=h;exact h
theorem any_acc{l:List DS}{k:Nat}(hk:k<l.length)(h:dac l k≠-1):l.any (fun s=>decide (s.accept≠-1))=true:=by
 refine List.any_eq_true.2 ⟨l[k],List.getElem_mem hk,?_⟩;unfold dac at h;rw[List.getElem?_eq_getElem hk] at h;simpa using h
theorem none_acc{l:List DS}(h:∀k,k<l.length→dac l k= -1):l.any (fun s=>decide (s.accept≠-1))=false:=by
 cases hx:l.any (fun s=>decide (s.accept≠-1)) with
 |false=>rfl
 |true=>
  obtain⟨s,hs,h1⟩:=List.any_eq_true.1 hx;obtain⟨k,hk,rfl⟩:=List.getElem_of_mem hs;have:=h k hk;unfold dac at this;rw[List.getElem?_eq_getElem hk] at this;simp[this] at h1
theorem means_c(t:Rw)(q:Nat)(w:World)(h:NodeAt w t q)(hsz:t.size≤400):
  Calls Tryz.prog 213 #[ptr q] w fun e w'=>e= .returned (.bool (YZ t))∧Kn w w':=by
 have HN:=Qh (Nullable_c t q w h);cases hn:t.nullable with
 |true=>
  rw[hn] at HN;have hF:Hid (YZ t=false):=Qh (by simp[YZ,hn]);clear h hn;go_enter Tryz.func213,Tryz.ntmps213;go_wp2_with fail
  refine HN.out.mono ?_;rintro e w' ⟨rfl,rfl⟩;go_wp2_with fail
  go_ret;exact⟨by rw[hF.out];try rfl,Qb _ _⟩
 |false=>
  rw[hn] at HN;have hc:nsum [t] 1≤400:=by
   have:=ncount_le t;simp[nsum];omega
  have HOK:=Qh (nfaF_ok [t] (by simpa using Nat.le_trans hc (by omega)) (by simp));have hF:Hid (YZ t=(nfaF [t]).some_):=Qh (by simp[YZ,hn]);have HC:=Qh hc;have hk1:Kn w (w.alloc (.cells #[ptr q] 295)):=(Qb _ _).alloc _;have HNEW:Hid (Calls Tryz.prog 163 #[.slice (some ⟨w.heap.size,0,none⟩) 1 1] (w.alloc (.cells #[ptr q] 295)) (NewPost [t] (w.alloc (.cells #[ptr q] 295)))):=
   Qh (New_c [t] [q] (some ⟨w.heap.size,0,none⟩) 1 _ (.cons (h.kn hk1) .nil) (fun i hi=>⟨_,rfl,by
    have e:i=0:=by simp at hi;exact hi
    subst e;rw[Qa (Qf w _)];try rfl⟩) (by simp) (by simp) (fun x hx=>by simp at hx;subst hx;omega))
  have HK1:=Qh hk1;clear h hn hc hk1;go_enter Tryz.func213,Tryz.ntmps213;go_wp2_with fail
  refine HN.out.mono ?_;rintro e w' ⟨rfl,rfl⟩;go_wp2_with fail
  refine HNEW.out.mono ?_;rintro e w2 ⟨hk2,⟨h2,_⟩|⟨_,pm,rfl,hna⟩⟩
  ·exact absurd h2 (by have:=HC.out;simp at this⊢;omega)
  ·have HD:=Qh (DNew_c hna HOK.out);have hkn2:=HK1.out.trans hk2;clear hna hk2 HNEW HK1;go_wp2_with fail
   refine HD.out.mono ?_;rintro e w3 ⟨hk3,hm⟩;have hkn3:=hkn2.trans hk3;cases hd:(nfaF [t]).dfa with
   |none=>
    rw[hd] at hm;dsimp only at hm;subst hm;have hF2:Hid (YZ t=true):=Qh (by rw[hF.out];unfold NM.some_;rw[hd]);clear hd hF;go_wp2_with fail
    go_ret;exact⟨by rw[hF2.out];try rfl,hkn3⟩
   |some l=>
    rw[hd] at hm;dsimp only at hm;obtain⟨pd,hpd,rfl,hda⟩:=hm;have hF2:Hid (YZ t=l.any (fun s=>decide (s.accept≠-1))):=Qh (by rw[hF.out];unfold NM.some_;rw[hd]);have HDA:=Qh hda;have HS:=Qh (DStates_c pd l w3 hda);have hll:=hda.dl.len;clear hd hF hda hpd hk3;go_wp2_with fail
    refine HS.out.mono ?_;rintro e w4 ⟨rfl,rfl⟩;go_wp2_with fail
    go_loopw [28] (fun i wr=>w4=wr∧∃k:Nat,k≤l.length∧i= .int .i64 k∧Hid (∀j,j<k→dac l j= -1)) (fun i _=>l.length-(intOf i).toNat)
    case atStart=>exact⟨rfl,0,Nat.zero_le _,rfl,Qh (fun j hj=>by omega)⟩
    case round=>
     obtain⟨rfl,k,hk,rfl,hno⟩:=hrel;by_cases hlt:k<l.length
     ·have HA:=Qh (DAccept_c pd k l w4 HDA.out hlt);by_cases hx:dac l k= -1
      ·rw[hx] at HA;have HX:=Qh hx;clear hx;go_wp2_with fail
       refine HA.out.mono ?_;rintro e w5 ⟨rfl,rfl⟩;go_wp2_with fail
       go_roundw
       case rel=>exact⟨by trivial,k+1,by omega,by go_num,Qh (fun j hj=>by
        rcases Nat.lt_succ_iff_lt_or_eq.1 hj with h1|h1
        ·exact hno.out j h1
        ·subst h1;exact HX.out)⟩
       case measure=>simp[intOf];omega
      ·have HX:Hid (YZ t=true):=Qh (by rw[hF2.out];exact any_acc hlt hx);obtain⟨x,hxe⟩:∃x,x=dac l k:=⟨_,rfl⟩;rw[←hxe] at HA hx;have hx2:(x== -1)=false:=by rw[beq_eq_false_iff_ne];exact hx
       clear hxe;go_wp2_with fail
       refine HA.out.mono ?_;rintro e w5 ⟨rfl,rfl⟩;go_wp2_with fail
       go_ret;exact⟨by rw[HX.out];try rfl,hkn3⟩
     ·obtain rfl:k=l.length:=by omega
      have HX:Hid (YZ t=false):=Qh (by rw[hF2.out];exact none_acc hno.out);go_wp2_with fail
      go_ret;exact⟨by rw[HX.out];try rfl,hkn3⟩
structure GC where
 name:ByteArray
 regex:ByteArray
 layout:Bool
def clL(c:GC):List Value:=[.string c.name,.string c.regex,.bool c.layout]
def clC(cs:List GC):List Value:=(cs.map clL).flatten
abbrev TCl:TypeId:=113
theorem clC_len(cs:List GC):(clC cs).length=cs.length*3:=by
 unfold clC;rw[flat_len (k:=3) (fun C hC=>by obtain⟨c,_,rfl⟩:=List.mem_map.1 hC;rfl),List.length_map]
theorem clC_one(cs:List GC):∀u∈clC cs,u.oneCell'=true:=by
 intro u hu;obtain⟨C,hC,hu⟩:=List.mem_flatten.1 hu;obtain⟨c,_,rfl⟩:=List.mem_map.1 hC;simp[clL] at hu;rcases hu with rfl|rfl|rfl<;>rfl
def ClsR(w:World)(b:Nat)(cs:List GC):Prop:=∀j u,(clC cs)[j]? =some u→w.cell? ⟨b,j,none⟩=some u
theorem ClsR.kp{S:Nat→Prop}{w w':World}{b:Nat}{cs:List GC}(h:ClsR w b cs)(hk:Kp S w w')(hS:¬S b):ClsR w' b cs:=fun j u hj=>Qi hk (h j u hj) hS
theorem ClsR.kn{w w':World}{b:Nat}{cs:List GC}(h:ClsR w b cs)(hk:Kn w w'):ClsR w' b cs:=h.kp hk (fun x=>x)
theorem ClsR.get{w:World}{b:Nat}{cs:List GC}(h:ClsR w b cs){i:Nat}(hi:i<cs.length):
  w.cell? ⟨b,i*3,none⟩=some (.string cs[i].name)∧w.cell? ⟨b,i*3+1,none⟩=some (.string cs[i].regex)∧w.cell? ⟨b,i*3+2,none⟩=some (.bool cs[i].layout):=by
 have h3:∀C∈cs.map clL,C.length=3:=fun C hC=>by obtain⟨c,_,rfl⟩:=List.mem_map.1 hC;rfl
 have g:∀j,j<3→(clC cs)[3*i+j]? =(clL cs[i])[j]? :=fun j hj=>by
  have:=flat_get h3 i j (by simpa using hi) hj;simpa[clC] using this
 refine⟨?_,?_,?_⟩
 ·have:=h (3*i+0) _ ((g 0 (by omega)).trans rfl);rwa[show 3*i+0=i*3 by omega] at this
 ·have:=h (3*i+1) _ ((g 1 (by omega)).trans rfl);rwa[show 3*i+1=i*3+1 by omega] at this
 ·have:=h (3*i+2) _ ((g 2 (by omega)).trans rfl);rwa[show 3*i+2=i*3+2 by omega] at this
theorem info_cl:(Tryz.prog.info? TCl).map (fun i=>(i.zero,i.size,i.bytes))=some (some (.agg #[.string ByteArray.empty,.string ByteArray.empty,.bool false]),3,40):=by kernel_rfl
theorem CloneC_c(b c:Nat)(cs:List GC)(w:World)(hbig:cs.length≤1000000)(hc:ClsR w b cs):
  Calls Tryz.prog 161 #[.slice (some ⟨b,0,none⟩) cs.length c] w fun e w'=>∃v',e= .returned v'∧OwnK w' w.heap.size TCl 3 v' (cs.map clL)∧v'≠.slice none 0 0∧Kn w w':=by
 obtain⟨i0,hi,hz0,hz1,hz2⟩:=info_parts info_cl;have HI:=Qh (And.intro hi (And.intro hz0 (And.intro hz1 hz2)));have q24:∀(w:World) (a:Option Addr) (n c n' c':Nat),(binOp .eql 110 (.slice a n c) (.slice none n' c')).run Tryz.prog w= .ok (.bool a.isNone) w:=fun w a n c n' c'=>Lib.run_eql_slice_nil w _ _ a n c n' c' Tryz.underlying110
 have HC:=Qh hc;clear hc hi hz0 hz1 hz2;go_enter Tryz.func161,Tryz.ntmps161;go_wp2_with (at_builtin;refine wpList_append_own _ rfl _ _ 110 rfl w.heap.size TCl i0 _ 3 40 Tryz.underlying110 HI.out.1 HI.out.2.1 HI.out.2.2.1 HI.out.2.2.2 rfl (by decide) _ _ _ rfl (World.ownsRow_made w #[] 0 (Nat.le_refl _) (Nat.zero_le _) rfl) ⟨b,0,none⟩ cs.length c (clC cs) rfl ?qc1 ?qc2 ?qc3 ?qc4 ?qc5 ?qc6 ?_)
 case qc1=>rw[clC_len]
 case qc2=>
  intro j u hj;have:=HC.out j u hj;have hadd:(⟨b,0,none⟩:Addr).add j=⟨b,j,none⟩:=by unfold Addr.add;split<;>simp_all
  rw[hadd];exact Lib.cell?_alloc_some _ this
 case qc3=>exact clC_one cs
 case qc4=>unfold maxLen;omega
 case qc5=>omega
 case qc6=>simp
 intro v' w1 hown hgrow hnil;go_wp2_with fail
 go_ret;refine⟨v',rfl,by unfold OwnK;rw[List.length_map];unfold clC at hown;simpa using hown,hnil,?_⟩;exact Yd (((Below.refl _ w).alloc (Nat.le_refl _) _).grown hgrow (by simp) (by intro k hk;simp[Value.ownBlock] at hk;omega))
open Go.RowKit Go.Maps
def YB(ns:List ByteArray)(x:ByteArray):Bool:=ns.any (fun y=>decide (y=x))
theorem hasS_iff{ns:List ByteArray}{x:ByteArray} :YB ns x=true↔x∈ns:=by
 unfold YB;rw[List.any_eq_true];constructor
 ·rintro⟨y,hy,e⟩;have:=of_decide_eq_true e;subst this;exact hy
 ·intro h;exact⟨x,h,decide_eq_true rfl⟩
theorem hasS_not{ns:List ByteArray}{x:ByteArray} :YB ns x=false↔x∉ns:=by
 rw[←hasS_iff];simp
def nmM(ns:List ByteArray):KV:=ns.zipIdx.map (fun p=>(Value.string p.1,Value.int .i64 (p.2:Nat)))
theorem nmM_mem{ns:List ByteArray}{p:Value×Value} :p∈nmM ns↔∃i,∃h:i<ns.length,p=(.string ns[i],.int .i64 (i:Nat)):=by
 unfold nmM;rw[List.mem_map];constructor
 ·rintro⟨q,hq,rfl⟩;obtain⟨j,hj,rfl⟩:=List.getElem_of_mem hq;have hj':j<ns.length:=by simpa using hj
  exact⟨j,hj',by simp⟩
 ·rintro⟨i,h,rfl⟩;refine⟨(ns[i],i),?_,rfl⟩;exact List.mem_iff_getElem.2 ⟨i,by simp;omega,by simp⟩
theorem nmM_snoc(ns:List ByteArray)(x:ByteArray):nmM (ns++[x])=nmM ns++[(.string x,.int .i64 (ns.length:Nat))]:=by
 unfold nmM;rw[List.zipIdx_append,List.map_append];simp
theorem nmM_not{ns:List ByteArray}{x:ByteArray}(h:x∉ns):∀p∈nmM ns,p.1≠Value.string x:=by
 intro p hp e;obtain⟨i,hi,rfl⟩:=nmM_mem.1 hp;have:ns[i]=x:=by injection e
 exact h (this▸List.getElem_mem hi)
theorem str_keyOf(x:ByteArray)(h:x.size≤1000000):∃l,keyOf Tryz.prog 9 (.string x)=some l:=by
 refine⟨.string x.data.toList,?_⟩;have h1:x.size≤maxLen:=by simp only[maxLen];omega
 simp[keyOf,mapKey,Tryz.underlying9,h1]
abbrev TMsi:TypeId:=179
theorem zero_int(w:World):(zeroValue 3).run Tryz.prog w= .ok (.int .i64 0) w:=Tryz.zeroValue3 w
theorem look_nm(b:Nat)(ns:List ByteArray)(x:ByteArray)(hsz:x.size≤1000000):∃z:Int,∀w,MapA w 9 b (nmM ns)→(Instr.lookup TMsi (.map (some b)) (.string x) true).run Tryz.prog w= .ok (.tuple #[.int .i64 z,.bool (YB ns x)]) w:=by
 obtain⟨l,hl⟩:=str_keyOf x hsz;cases hx:YB ns x with
 |false=>
  exact⟨0,fun w hm=>hm.look0 (string_keyed Tryz.underlying9) Tryz.underlying179 (zero_int w) hl (nmM_not (hasS_not.1 hx)) true⟩
 |true=>
  obtain⟨i,hi,rfl⟩:=List.getElem_of_mem (hasS_iff.1 hx);exact⟨(i:Nat),fun w hm=>hm.look1 (string_keyed Tryz.underlying9) Tryz.underlying179 hl (nmM_mem.2 ⟨i,hi,rfl⟩) true⟩
theorem parseO_err{s:ByteArray}{at_:Nat}{no:Int}(h:YY s= .err at_ no):no≠0:=by
 unfold YY at h;split at h
 ·cases h;decide
 ·split at h
  ·cases h;decide
  ·split at h
   ·cases h;decide
   ·cases h
def clsF(ns:List ByteArray)(i:Nat)(c:GC):Option Rw:=
 if 40≤i then none else if !YT c.name||YB ns c.name then none
 else match YY c.regex with| .ok t=>if YZ t then some t else none| .err _ _=>none
def ClassPost(ns:List ByteArray)(i:Nat)(c:GC)(w:World)(e:Ending)(w':World):Prop:=
 Kn w w'∧match clsF ns i c with
 |some t=>∃q:Nat,e= .returned (.tuple #[ptr q,.int .i64 0])∧NodeAt w' t q∧t.size≤400
 |none=>∃n:Int,n≠0∧e= .returned (.tuple #[.pointer none,.int .i64 n])
abbrev TSc:TypeId:=269
theorem sclass_c(ps bn i:Nat)(ns:List ByteArray)(c:GC)(w:World)(h2:w.cell? ⟨ps,2,none⟩=some (.map (some bn)))(hm:MapA w 9 bn (nmM ns))(hi:i≤1000000)(hs1:c.name.size≤1000000)(hs2:c.regex.size≤1099511627776):
  Calls Tryz.prog 162 #[ptr ps,.int .i64 i,.agg #[.string c.name,.string c.regex,.bool c.layout]] w (ClassPost ns i c w):=by
 obtain⟨z,hz⟩:=look_nm bn ns c.name hs1;have HLK:=Qh hz;have HM:=Qh hm;have hbl:=hm.lt;have HNM:=Qh (fun W=>sNamed_c c.name W (by omega));have HPA:=Qh (fun W=>Parse_c c.regex W hs2);have HFE:Hid (clsF ns i c=if 40≤i then none else if !YT c.name||YB ns c.name then none else match YY c.regex with| .ok t=>if YZ t then some t else none| .err _ _=>none):=Qh rfl;obtain⟨nm,hnm⟩:∃x,x=YT c.name:=⟨_,rfl⟩;obtain⟨tw,htw⟩:∃x,x=YB ns c.name:=⟨_,rfl⟩;rw[←hnm,←htw] at HFE;rw[←hnm] at HNM;rw[←htw] at HLK;have hpl:=World.block_lt_of_cell? w _ h2;clear hz hm hnm htw hs1 hs2;go_enter Tryz.func162,Tryz.ntmps162;go_upto_region 1 with fail
 obtain⟨W,hW⟩:∃z,z=w.alloc (.cells #[.string c.name,.string c.regex,.bool c.layout] TCl):=⟨_,rfl⟩;have hkW:Kn w W:=by rw[hW];exact(Qb _ _).alloc _
 have hbx:W.heap[w.heap.size]? =some (.cells #[.string c.name,.string c.regex,.bool c.layout] TCl (0,0)):=by rw[hW];exact Qf _ _
 obtain⟨bx,hbxe⟩:∃z,z=w.heap.size:=⟨_,rfl⟩;rw[←hW,←hbxe];rw[←hbxe] at hbx;have c2:=Qc hkW h2;have cm:=HM.out.kn hkW;clear hW hbxe h2;refine wp_region_held_drew (S:=fun w'=>w'.cell? ⟨ps,2,none⟩=some (.map (some bn))∧w'.cell? ⟨bx,0,none⟩=some (.string c.name)∧MapA w' 9 bn (nmM ns)) (by kernel_rfl) ⟨Qc ((Qb _ _).drew) c2,by rw[Qa (((Qb (fun _=>False) W).drew).blk hbx (fun x=>x))];try rfl,cm.kn ((Qb _ _).drew)⟩ (fun hHeld=> ?_);refine TW 0 14 ?_;refine TW 1 15 ?_;refine TW 2 16 ?_;refine TH 3 17 ?_;refine TW 4 18 ?_;refine TH 5 19 ?_;refine TH 6 20 ?_ (hy:=by(intro w hSw;obtain⟨hs1,hs2,hs3⟩:=hSw;have hlk:=HLK.out w hs3;go_simp;try with_reducible rfl));refine TW 7 13 ?_;refine TW 8 21 ?_;refine TW 10 8 ?_;refine TW 9 22 ?_;refine TW 11 9 ?_;refine RD ?_;obtain⟨wd,hwd⟩:∃zz,zz=W.drew:=⟨_,rfl⟩;have hkd:Kn W wd:=by rw[hwd];exact(Qb _ _).drew
 have hkn:=hkW.trans hkd;have b0:wd.cell? ⟨bx,0,none⟩=some (.string c.name):=by rw[Qa (hkd.blk hbx (fun x=>x))];try rfl
 have b1:wd.cell? ⟨bx,1,none⟩=some (.string c.regex):=by rw[Qa (hkd.blk hbx (fun x=>x))];try rfl
 rw[←hwd];have HNM2:=Qh (HNM.out wd);have HPA2:=Qh (HPA.out wd);clear hwd hHeld hkd hbx c2 cm HLK HM HNM HPA;by_cases h40:40≤i
 ·have i40:(40:Int)≤i:=by omega
  have hF:Hid (clsF ns i c=none):=Qh (by rw[HFE.out,if_pos h40]);go_wp2_with fail
  go_ret2
  refine⟨hkn,?_⟩;rw[hF.out];exact⟨3,by decide,rfl⟩
 ·have i40:¬(40:Int)≤i:=by omega
  have h40':=Qh h40;clear h40;cases nm with
  |false=>
   have hF:Hid (clsF ns i c=none):=Qh (by rw[HFE.out,if_neg h40'.out];try rfl);go_wp2_with fail
   refine HNM2.out.mono ?_;rintro e w3 ⟨rfl,rfl⟩;go_wp2_with fail
   go_ret2
   refine⟨hkn,?_⟩;rw[hF.out];exact⟨9,by decide,rfl⟩
  |true=>
   cases tw with
   |true=>
    have hF:Hid (clsF ns i c=none):=Qh (by rw[HFE.out,if_neg h40'.out];try rfl);go_wp2_with fail
    refine HNM2.out.mono ?_;rintro e w3 ⟨rfl,rfl⟩;go_wp2_with fail
    go_ret2
    refine⟨hkn,?_⟩;rw[hF.out];exact⟨9,by decide,rfl⟩
   |false=>
    have hF:Hid (clsF ns i c=match YY c.regex with| .ok t=>if YZ t then some t else none| .err _ _=>none):=Qh (by rw[HFE.out,if_neg h40'.out];try rfl);go_wp2_with fail
    refine HNM2.out.mono ?_;rintro e w3 ⟨rfl,rfl⟩;go_wp2_with fail
    refine HPA2.out.mono ?_;rintro e w4 ⟨hk4,hp⟩;have hkn4:=hkn.trans hk4;cases hpo:YY c.regex with
    |err at_ no=>
     rw[hpo] at hp;dsimp only at hp;subst hp;have hno:=parseO_err hpo;have hno2:(no==0)=false:=by rw[beq_eq_false_iff_ne];exact hno
     have hF2:Hid (clsF ns i c=none):=Qh (by rw[hF.out,hpo]);have HNO:=Qh hno;clear hpo hF hno;go_wp2_with fail
     go_ret2
     refine⟨hkn4,?_⟩;rw[hF2.out];exact⟨no,HNO.out,rfl⟩
    |ok t=>
     rw[hpo] at hp;dsimp only at hp;obtain⟨q,rfl,hq,hsz⟩:=hp;have HQ:=Qh hq;have HME:=Qh (means_c t q w4 hq hsz);have hF2:Hid (clsF ns i c=if YZ t then some t else none):=Qh (by rw[hF.out,hpo]);obtain⟨me,hme⟩:∃x,x=YZ t:=⟨_,rfl⟩;rw[←hme] at hF2 HME;clear hpo hF hq hme;cases me with
     |true=>
      have hF3:Hid (clsF ns i c=some t):=Qh (by rw[hF2.out];try rfl);clear hF2;go_wp2_with fail
      refine HME.out.mono ?_;rintro e w5 ⟨rfl,hk5⟩;have hkn5:=hkn4.trans hk5;have HQ5:=Qh (HQ.out.kn hk5);go_wp2_with fail
      go_ret2
      refine⟨hkn5,?_⟩;rw[hF3.out];exact⟨q,rfl,HQ5.out,hsz⟩
     |false=>
      have hF3:Hid (clsF ns i c=none):=Qh (by rw[hF2.out];try rfl);clear hF2;go_wp2_with fail
      refine HME.out.mono ?_;rintro e w5 ⟨rfl,hk5⟩;have hkn5:=hkn4.trans hk5;go_wp2_with fail
      go_ret2
      refine⟨hkn5,?_⟩;rw[hF3.out];exact⟨11,by decide,rfl⟩
end Go.Proofs.YtiehgcfckhepaaaGreatDoor
namespace Go.Proofs.YtiehgcfckhepaaaGreatDoor
def hit(l:List DS)(L:List Bool)(n b:Nat):Bool:=decide (dnx l n b≠-1)&&L.getD (dnx l n b).toNat false
def QP(l:List DS)(r:List Bool×Bool)(n k:Nat):List Bool×Bool:=
 if r.1.getD n false=true then r else if(List.range k).any (hit l r.1 n)=true then(r.1.set n true,true) else r
def Yp(l:List DS)(L:List Bool)(k:Nat):List Bool×Bool:=(List.range k).foldl (fun r n=>QP l r n 256) (L,false)
def liveGo(l:List DS):Nat→List Bool→List Bool
 |0,L=>L
 |f+1,L=>if(Yp l L l.length).2=true then liveGo l f (Yp l L l.length).1 else(Yp l L l.length).1
def live0(l:List DS):List Bool:=(List.range l.length).map (fun n=>decide (dac l n≠-1))
def liveF(l:List DS):List Bool:=liveGo l (l.length+1) (live0 l)
theorem sweepK_succ(l:List DS)(L:List Bool)(k:Nat):Yp l L (k+1)=QP l (Yp l L k) k 256:=by
 unfold Yp;rw[List.range_succ,List.foldl_append];try rfl
theorem sweepB_len(l:List DS)(r:List Bool×Bool)(n k:Nat):(QP l r n k).1.length=r.1.length:=by
 unfold QP;split
 ·rfl
 ·split
  ·simp
  ·rfl
theorem sweepK_len(l:List DS)(L:List Bool):∀k,(Yp l L k).1.length=L.length
 |0=>rfl
 |k+1=>by rw[sweepK_succ,sweepB_len,sweepK_len l L k]
theorem liveGo_len(l:List DS):∀f L,(liveGo l f L).length=L.length
 |0,L=>rfl
 |f+1,L=>by
  rw[liveGo];split
  ·rw[liveGo_len l f,sweepK_len]
  ·rw[sweepK_len]
theorem liveF_len(l:List DS):(liveF l).length=l.length:=by unfold liveF;rw[liveGo_len];simp[live0]
def cf(L:List Bool):Nat:=L.countP (fun x=> !x)
theorem cf_set{L:List Bool}{n:Nat}(h:n<L.length)(hn:L.getD n false=false):cf (L.set n true)+1=cf L:=by
 induction L generalizing n with
 |nil=>simp at h
 |cons x L ih=>
  cases n with
  |zero=>
   have hx:x=false:=by simpa using hn
   subst hx;simp[cf]
  |succ n=>
   have:=ih (n:=n) (by simpa using h) (by simpa using hn);unfold cf at this⊢;rw[List.set_cons_succ,List.countP_cons,List.countP_cons];omega
theorem sweepB_cf(l:List DS)(r:List Bool×Bool)(n k:Nat)(h:n<r.1.length):cf (QP l r n k).1≤cf r.1∧((QP l r n k).2=true→r.2=true∨cf (QP l r n k).1<cf r.1):=by
 unfold QP;split
 ·exact⟨Nat.le_refl _,fun h=> .inl h⟩
 ·rename_i hn;split
  ·have:=cf_set h (by simpa using hn);exact⟨by dsimp only;omega,fun _=> .inr (by dsimp only;omega)⟩
  ·exact⟨Nat.le_refl _,fun h=> .inl h⟩
theorem sweepK_cf(l:List DS)(L:List Bool):∀k,k≤L.length→cf (Yp l L k).1≤cf L∧((Yp l L k).2=true→cf (Yp l L k).1<cf L)
 |0,_=>⟨Nat.le_refl _,fun h=>by cases h⟩
 |k+1,hk=>by
  obtain⟨h1,h2⟩:=sweepK_cf l L k (by omega);obtain⟨h3,h4⟩:=sweepB_cf l (Yp l L k) k 256 (by rw[sweepK_len];omega);rw[sweepK_succ];refine⟨by omega,fun h=> ?_⟩;rcases h4 h with h5|h5
  ·have:=h2 h5;omega
  ·omega
theorem cf_le(L:List Bool):cf L≤L.length:=List.countP_le_length
def addK{α:Type}[DecidableEq α](m:List α)(x:α):List α:=if x∈m then m else m++[x]
def dist{α:Type}[DecidableEq α](xs:List α):List α:=xs.foldl addK []
theorem addK_len{α:Type}[DecidableEq α](m:List α)(x:α):(addK m x).length≤m.length+1:=by unfold addK;split<;>simp
def Yh(l:List DS)(L:List Bool):List Int:=(List.range l.length).map (fun n=>if L.getD n false=true then dac l n+2 else 0)
def rowF(l:List DS)(L:List Bool)(K:List Int)(n:Nat):List Int×Int:=
 ((List.range 256).map (fun b=>if hit l L n b=true then K.getD (dnx l n b).toNat 0 else-1),K.getD n 0)
def agS(l:List DS)(L:List Bool)(K:List Int)(r:List (List Int×Int)×List Int)(n:Nat):List (List Int×Int)×List Int:=
 match r.1.findIdx? (fun x=>decide (x=rowF l L K n)) with|some k=>(r.1,r.2++[(k:Int)])|none=>(r.1++[rowF l L K n],r.2++[(r.1.length:Int)])
def agK(l:List DS)(L:List Bool)(K:List Int)(k:Nat):List (List Int×Int)×List Int:=(List.range k).foldl (agS l L K) ([],[])
theorem agK_succ(l:List DS)(L:List Bool)(K:List Int)(k:Nat):agK l L K (k+1)=agS l L K (agK l L K k) k:=by
 unfold agK;rw[List.range_succ,List.foldl_append];try rfl
theorem agK_some{l:List DS}{L:List Bool}{K:List Int}{c n:Nat}(h:(agK l L K c).1.findIdx? (fun x=>decide (x=rowF l L K c))=some n):agK l L K (c+1)=((agK l L K c).1,(agK l L K c).2++[(n:Int)]):=by
 rw[agK_succ];unfold agS;rw[h]
theorem agK_none{l:List DS}{L:List Bool}{K:List Int}{c:Nat}(h:(agK l L K c).1.findIdx? (fun x=>decide (x=rowF l L K c))=none):agK l L K (c+1)=((agK l L K c).1++[rowF l L K c],(agK l L K c).2++[((agK l L K c).1.length:Int)]):=by
 rw[agK_succ];unfold agS;rw[h]
theorem agK_len(l:List DS)(L:List Bool)(K:List Int):∀c,(agK l L K c).2.length=c∧(agK l L K c).1.length≤c∧∀x∈(agK l L K c).2,0≤x∧x<c
 |0=>⟨rfl,Nat.le_refl _,fun x hx=>by cases hx⟩
 |c+1=>by
  obtain⟨h1,h2,h3⟩:=agK_len l L K c;cases h:(agK l L K c).1.findIdx? (fun x=>decide (x=rowF l L K c)) with
  |some n=>
   obtain⟨hn,_⟩:=List.findIdx?_eq_some_iff_getElem.1 h;rw[agK_some h];refine⟨by simp[h1],by dsimp only;omega,fun x hx=> ?_⟩;rcases List.mem_append.1 hx with hx|hx
   ·have:=h3 x hx;omega
   ·simp at hx;subst hx;omega
  |none=>
   rw[agK_none h];refine⟨by simp[h1],by simp;omega,fun x hx=> ?_⟩;rcases List.mem_append.1 hx with hx|hx
   ·have:=h3 x hx;omega
   ·simp at hx;subst hx;omega
def kindGo(l:List DS)(L:List Bool):Nat→List Int→Nat→List Int
 |0,K,_=>K
 |f+1,K,c=>if c<(agK l L K l.length).1.length then kindGo l L f (agK l L K l.length).2 (agK l L K l.length).1.length else(agK l L K l.length).2
def kindF(l:List DS):List Int:=kindGo l (liveF l) (l.length+1) (Yh l (liveF l)) (dist (Yh l (liveF l))).length
open Go.RowKit
def RowV(w:World)(T:TypeId)(g:Nat)(xs:List Value):Prop:=w.heap[g]? =some (.cells xs.toArray T (0,0))
section
variable {w w':World} {T:TypeId} {g:Nat} {xs:List Value}
theorem RowV.lt(h:RowV w T g xs):g<w.heap.size:=Ql h
theorem RowV.kp{S:Nat→Prop}(h:RowV w T g xs)(hk:Kp S w w')(hS:¬S g):RowV w' T g xs:=hk.blk h hS
theorem RowV.kn(h:RowV w T g xs)(hk:Kn w w'):RowV w' T g xs:=hk.blk h (fun x=>x)
theorem RowV.cell(h:RowV w T g xs){i:Nat}(hi:i<xs.length):w.cell? ⟨g,i,none⟩=some xs[i]:=by
 rw[Qa h,List.getElem?_toArray,List.getElem?_eq_getElem hi]
theorem RowV.fr(h:RowV w T g xs)(i:Nat):w.frozen? ⟨g,i,none⟩=false:=Qd h i
theorem RowV.set(h:RowV w T g xs)(i:Nat)(u:Value):RowV (w.setCell ⟨g,i,none⟩ u) T g (xs.set i u):=by
 unfold RowV;rw[Qj h,List.setIfInBounds_toArray]
theorem RowV.of_made{w':World}{B g n:Nat}{e:TypeId}{z:Value}(h:w'.ownsRow B e 1 (.slice (some ⟨g,0,none⟩) n n) n (madeCells #[z] (n*1)).toList):RowV w' e g (List.replicate n z):=by
 rcases h.2 with⟨h1,_⟩|⟨g',cap,cur,h1,_,h3,h4,_,h6,h7⟩
 ·injection h1 with h1;cases h1
 ·have eg:g'=g:=by simpa[Value.ownBlock] using(congrArg Value.ownBlock h1).symm
  subst eg;have ec:cap=n:=by
   injection h1 with _ _ h1;exact h1.symm
  subst ec;rw[Nat.mul_one] at h7;rw[Nat.mul_one] at h6;have e:cur.toList=List.replicate cap z:=by
   rw[List.take_of_length_le (by rw[Array.length_toList];omega)] at h7;rw[h7];exact Go.toList_madeCells_one _ _
  unfold RowV;rw[h3,←e]
end
theorem wpList_make_v{P:Program}(w:World){ops:Array Oper}{rest:List Oper}{o:Oper}{a:Act}{Q:Exit→Act→World→Prop}
  (hg:o.guard=none) (l c:Operand) (t:TypeId) (hop:o.op=Op.makeSlice t l c) (e:TypeId) (i:TypeInfo) (z:Value) (h1:P.underlying t=some (.slice e)) (h2:P.info? e=some i) (h3:i.zero=some z) (h4:i.size=1) (hz:z.cells= #[z])
  (n:Nat) (hl:a.eval l= .int .i64 n) (hc:a.eval c= .int .i64 n) (b2:i.bytes*n≤281474976710656) (b3:n≤maxLen)
  (hK:∀w',RowV w' e w.heap.size (List.replicate n z)→Kn w w'→wpList P ops Q rest (a.put o.dst (.slice (some ⟨w.heap.size,0,none⟩) n n)) w'):
  wpList P ops Q (o::rest) a w:=by
 refine wpList_make_full w hg l c t hop 0 e i z 1 h1 h2 h3 h4 .i64 .i64 n n n hl hc rfl rfl b2 b3 (Nat.zero_le _) ?_;intro w' h5 h6;rw[hz] at h5;exact hK w' (RowV.of_made h5) (QL (S:=fun _=>False) h6 (fun k e _=>by cases e))
theorem fill_set{α:Type}(xs:List α)(d:α){k:Nat}(h:k<xs.length):(xs.take k++List.replicate (xs.length-k) d).set k xs[k]=xs.take (k+1)++List.replicate (xs.length-(k+1)) d:=by
 have e:xs.length-k=(xs.length-(k+1))+1:=by omega
 have hl:(xs.take k).length=k:=by rw[List.length_take];omega
 rw[List.set_append_right _ _ (by omega),hl,Nat.sub_self,e,List.replicate_succ,List.set_cons_zero,List.take_succ_eq_append_getElem h,List.append_assoc];rfl
theorem fill_len{α:Type}(xs:List α)(d:α){k:Nat}(h:k≤xs.length):(xs.take k++List.replicate (xs.length-k) d).length=xs.length:=by
 rw[List.length_append,List.length_take,List.length_replicate];omega
abbrev bV(L:List Bool):List Value:=L.map Value.bool
abbrev iV(L:List Int):List Value:=L.map (Value.int .i64)
theorem bV_get{L:List Bool}{i:Nat}(hi:i<L.length):(bV L)[i]'(by simpa using hi)= .bool (L.getD i false):=by
 rw[List.getElem_map,List.getD_eq_getElem?_getD,List.getElem?_eq_getElem hi];try rfl
theorem iV_get{L:List Int}{i:Nat}(hi:i<L.length):(iV L)[i]'(by simpa using hi)= .int .i64 (L.getD i 0):=by
 rw[List.getElem_map,List.getD_eq_getElem?_getD,List.getElem?_eq_getElem hi];try rfl
theorem RowV.bcell{w:World}{g:Nat}{L:List Bool}(h:RowV w 4 g (bV L)){i:Nat}(hi:i<L.length):w.cell? ⟨g,i,none⟩=some (.bool (L.getD i false)):=by
 rw[h.cell (by simpa using hi),bV_get hi]
theorem RowV.icell{w:World}{g:Nat}{L:List Int}(h:RowV w 3 g (iV L)){i:Nat}(hi:i<L.length):w.cell? ⟨g,i,none⟩=some (.int .i64 (L.getD i 0)):=by
 rw[h.cell (by simpa using hi),iV_get hi]
theorem RowV.bset{w:World}{g:Nat}{L:List Bool}(h:RowV w 4 g (bV L))(i:Nat)(x:Bool):RowV (w.setCell ⟨g,i,none⟩ (.bool x)) 4 g (bV (L.set i x)):=by
 have:=h.set i (.bool x);rwa[←List.map_set] at this
theorem RowV.iset{w:World}{g:Nat}{L:List Int}(h:RowV w 3 g (iV L))(i:Nat)(x:Int):RowV (w.setCell ⟨g,i,none⟩ (.int .i64 x)) 3 g (iV (L.set i x)):=by
 have:=h.set i (.int .i64 x);rwa[←List.map_set] at this
theorem info_bool:(Tryz.prog.info? 4).map (fun i=>(i.zero,i.size,i.bytes))=some (some (.bool false),1,1):=by kernel_rfl
theorem sweepB_stop{l:List DS}{r:List Bool×Bool}{j b:Nat}(hj:j<r.1.length)(hb:b≤256)(h:(QP l r j b).1.getD j false=true):QP l r j b=QP l r j 256:=by
 unfold QP at h⊢;by_cases h1:r.1.getD j false=true
 ·rw[if_pos h1,if_pos h1]
 ·rw[if_neg h1] at h;rw[if_neg h1,if_neg h1];by_cases h2:(List.range b).any (hit l r.1 j)=true
  ·have h3:(List.range 256).any (hit l r.1 j)=true:=by
    obtain⟨x,hx,hh⟩:=List.any_eq_true.1 h2;exact List.any_eq_true.2 ⟨x,List.mem_range.2 (by have:=List.mem_range.1 hx;omega),hh⟩
   rw[if_pos h2,if_pos h3]
  ·rw[if_neg h2] at h;exact absurd h h1
theorem sweepB_go{l:List DS}{r:List Bool×Bool}{j b:Nat}(hj:j<r.1.length)(h:(QP l r j b).1.getD j false=false):QP l r j b=r∧r.1.getD j false=false∧QP l r j (b+1)=if hit l r.1 j b=true then(r.1.set j true,true) else r:=by
 unfold QP at h⊢;by_cases h1:r.1.getD j false=true
 ·rw[if_pos h1] at h;rw[h1] at h;cases h
 ·rw[if_neg h1] at h;rw[if_neg h1,if_neg h1];by_cases h2:(List.range b).any (hit l r.1 j)=true
  ·rw[if_pos h2] at h;rw[List.getD_eq_getElem?_getD,List.getElem?_set_self hj] at h;cases h
  ·rw[if_neg h2];refine⟨rfl,by simpa using h1,?_⟩;rw[List.range_succ,List.any_append,Bool.not_eq_true] at*;rw[h2,Bool.false_or];simp
theorem sweepB_zero(l:List DS)(r:List Bool×Bool)(j:Nat):QP l r j 0=r:=by
 unfold QP;split
 ·rfl
 ·simp
theorem live_c(pd:Nat)(l:List DS)(w:World)(h:DfaAt w pd l)(hl:DL l):
  Calls Tryz.prog 219 #[ptr pd] w fun e w'=>∃g:Nat,w.heap.size≤g∧e= .returned (.slice (some ⟨g,0,none⟩) l.length l.length)∧RowV w' 4 g (bV (liveF l))∧Kn w w':=by
 have HS:=Qh (DStates_c pd l w h);have HD:=Qh h;have HL:=Qh hl;have hpos:=hl.pos;have hlen:=hl.len;obtain⟨i0,hi,hz0,hz1,hz2⟩:=info_parts info_bool;have HI:=Qh (And.intro hi (And.intro hz0 (And.intro hz1 hz2)));have HAC:=Qh (fun k=>hl.dac_lt k);clear h hl hi hz0 hz1 hz2;go_enter Tryz.func219,Tryz.ntmps219;go_wp2_with fail
 refine HS.out.mono ?_;rintro e w' ⟨rfl,rfl⟩;go_wp2_with (first|(at_make;go_must (refine wpList_make_v _ rfl (.tmp 11) (.tmp 11) 141 rfl 4 i0 (.bool false) Tryz.underlying141 HI.out.1 HI.out.2.1 HI.out.2.2.1 rfl l.length rfl rfl (by rw[HI.out.2.2.2];omega) (by simp only[maxLen];omega) ?_;intro w1 hrow1 hk1)))
 obtain⟨g,hg⟩:∃z,z=w'.heap.size:=⟨_,rfl⟩;have hgle:w'.heap.size≤g:=by omega
 rw[←hg] at hrow1⊢;have HR1:=Qh hrow1;clear hg hrow1;go_loopw [15] (fun i wr=>∃k:Nat,k≤l.length∧i= .int .i64 k∧Hid (RowV wr 4 g (bV ((live0 l).take k++List.replicate ((live0 l).length-k) false)))∧Kn w' wr) (fun i _=>l.length-(intOf i).toNat)
 case atStart=>exact⟨0,Nat.zero_le _,rfl,Qh (by simpa[live0] using HR1.out),hk1⟩
 case round=>
  obtain⟨k,hk,rfl,hrow,hkn⟩:=hrel;have hl0:(live0 l).length=l.length:=by simp[live0]
  have hfl:=fill_len (live0 l) false (k:=k) (by omega);by_cases hlt:k<l.length
  ·have HA:=Qh (DAccept_c pd k l wr (HD.out.kn hkn) hlt);have hc1:=hrow.out.bcell (i:=k) (by omega);have hf1:=hrow.out.fr k;have hx:(live0 l)[k]'(by omega)= !(dac l k== -1):=by
    simp only[live0,List.getElem_map,List.getElem_range];by_cases e:dac l k= -1<;>simp[e]
   have hs:=Qh (fill_set (live0 l) false (k:=k) (by omega));go_wp2_with fail
   refine HA.out.mono ?_;rintro e w2 ⟨rfl,rfl⟩;go_wp2_with fail
   have HW3:=Qh (hrow.out.bset k (dac l k != -1));have hkn3:Kn w' (w2.setCell ⟨g,k,none⟩ (.bool (dac l k != -1))):=hkn.setCell (fun hp=>by have:g<w'.heap.size:=hp;omega) _;go_roundw
   case rel=>exact⟨k+1,by omega,by go_num,Qh (by
    have h1:=HW3.out;have e:(dac l k != -1)=(live0 l)[k]'(by omega):=by rw[hx];try rfl
    refine(congrArg (fun X=>RowV (w2.setCell ⟨g,k,none⟩ (.bool (dac l k != -1))) 4 g (bV X)) ?_).mp h1;rw[e,hs.out]),hkn3⟩
   case measure=>simp[intOf];omega
  ·obtain rfl:k=l.length:=by omega
   have hr0:=hrow.out;rw[List.take_of_length_le (by omega),hl0,Nat.sub_self,List.replicate_zero,List.append_nil] at hr0;have HR:=Qh hr0;have HLL:Hid (liveGo l (l.length+1) (live0 l)=liveF l):=Qh rfl;have HCF:Hid (cf (live0 l)<l.length+1):=Qh (by have:=cf_le (live0 l);omega);obtain⟨wo,hwo⟩:∃z,z=wr:=⟨_,rfl⟩;subst hwo;clear hrow hr0;go_wp2_with fail
   go_loopg [5] (l.length+2) (fun f s5 wr=>∃(L:List Bool) (more:Bool),s5= .bool more∧L.length=l.length∧Hid ((more=true→f≠0∧liveGo l (f-1) L=liveF l∧cf L<f-1)∧(more=false→L=liveF l))∧Hid (RowV wr 4 g (bV L))∧Kn w' wr)
   case atStart=>exact⟨_,true,rfl,hl0,Qh ⟨fun _=>⟨by omega,HLL.out,HCF.out⟩,fun h=>by cases h⟩,HR,hkn⟩
   case round=>
    obtain⟨L,more,rfl,hLl,hgo,hrow,hkn2⟩:=hrel;cases more with
    |false=>
     go_wp2_with fail
     go_ret;refine⟨g,hgle,rfl,?_,hkn2⟩;rw[←hgo.out.2 (by trivial)];exact hrow.out
    |true=>
     have hgo1:=Qh (hgo.out.1 (by trivial));obtain⟨wp,hwp⟩:∃z,z=wr:=⟨_,rfl⟩;subst hwp;go_wp2_with fail
     go_loopw [5,29] (fun s5 i wr=>∃(j:Nat),j≤l.length∧i= .int .i64 j∧s5= .bool (Yp l L j).2∧Hid (RowV wr 4 g (bV (Yp l L j).1))∧Kn w' wr) (fun _ i _=>l.length-(intOf i).toNat)
     case atStart=>exact⟨0,Nat.zero_le _,rfl,rfl,hrow,hkn2⟩
     case round=>
      clear hrow;obtain⟨j,hj,rfl,rfl,hrj,hkj⟩:=hrel;have hsl:=sweepK_len l L j;by_cases hjl:j<l.length
      ·have HSS:=Qh (sweepK_succ l L j);obtain⟨r,hr⟩:∃r,r=Yp l L j:=⟨_,rfl⟩;rw[←hr] at hsl hrj HSS⊢;clear hr;go_wp2_with fail
       go_loopw [5,7] (fun s5 i wr=>∃(b:Nat),b≤256∧i= .int .i64 b∧s5= .bool (QP l r j b).2∧Hid (RowV wr 4 g (bV (QP l r j b).1))∧Kn w' wr) (fun _ i _=>256-(intOf i).toNat)
       case atStart=>exact⟨0,Nat.zero_le _,rfl,by rw[sweepB_zero],Qh (by rw[sweepB_zero];exact hrj.out),hkj⟩
       case round=>
        clear hrj;obtain⟨b,hb,rfl,rfl,hrb,hkb⟩:=hrel;have hbl:=sweepB_len l r j b;have hcb:=hrb.out.bcell (i:=j) (by omega);by_cases hbb:b<256
        ·have hbi:(b:Int)<256:=by omega
         cases hst:(QP l r j b).1.getD j false with
         |true=>
          have e:=sweepB_stop (by omega) hb hst;rw[hst] at hcb;have HE:=Qh e;clear hst e;go_wp2_with fail
          go_roundw
          case rel=>exact⟨j+1,by omega,by go_num,by rw[HSS.out,HE.out],Qh (by rw[HSS.out,←HE.out];exact hrb.out),hkb⟩
          case measure=>simp[intOf];omega
         |false=>
          rw[hst] at hcb;obtain⟨e1,e2,e3⟩:=sweepB_go (l:=l) (by omega) hst;have hrb0:=hrb.out;rw[e1] at hrb0⊢;have HRB:=Qh hrb0;have HE3:=Qh e3;have hdx:=HL.out.dnx_lt j b;have HN:=Qh (DNext_c pd j b l wr (HD.out.kn hkb) hjl hbb);clear hrb hrb0 e1 e2 e3 hst hbl;by_cases hx:dnx l j b= -1
          ·have hh:hit l r.1 j b=false:=by simp[hit,hx]
           rw[hh] at HE3;rw[hx] at HN;have HE4:Hid (QP l r j (b+1)=r):=Qh (by rw[HE3.out];try rfl);go_wp2_with fail
           refine HN.out.mono ?_;rintro e w4 ⟨rfl,rfl⟩;unfold nxV;go_wp2_with fail
           go_roundw
           case rel=>exact⟨b+1,by omega,by go_num,by rw[HE4.out],Qh (by rw[HE4.out];exact HRB.out),hkb⟩
           case measure=>simp[intOf];omega
          ·obtain⟨q,hq⟩:∃q:Nat,(q:Int)=dnx l j b:=⟨(dnx l j b).toNat,by omega⟩;have hql:q<l.length:=by omega
           have hq1:¬(q:Int)= -1:=by omega
           have hh:hit l r.1 j b=r.1.getD q false:=by
            have:(dnx l j b).toNat=q:=by omega
            simp[hit,this,hx]
           rw[hh] at HE3;rw[←hq] at HN hx hdx;have hcq:=HRB.out.bcell (i:=q) (by omega);have hfq:=HRB.out.fr j;have hcj:=HRB.out.bcell (i:=j) (by omega);clear hq hh;cases hv:r.1.getD q false with
           |false=>
            rw[hv] at hcq HE3;have HE4:Hid (QP l r j (b+1)=r):=Qh (by rw[HE3.out];try rfl);go_wp2_with fail
            refine HN.out.mono ?_;rintro e w4 ⟨rfl,rfl⟩;rw[nxV,if_neg hq1];go_wp2_with fail
            go_roundw
            case rel=>exact⟨b+1,by omega,by go_num,by rw[HE4.out],Qh (by rw[HE4.out];exact HRB.out),hkb⟩
            case measure=>simp[intOf];omega
           |true=>
            rw[hv] at hcq HE3;have HE4:Hid (QP l r j (b+1)=(r.1.set j true,true)):=Qh (by rw[HE3.out];try rfl);go_wp2_with fail
            refine HN.out.mono ?_;rintro e w4 ⟨rfl,rfl⟩;rw[nxV,if_neg hq1];go_wp2_with fail
            have hkb5:Kn w' (w4.setCell ⟨g,j,none⟩ (.bool true)):=hkb.setCell (fun hp=>by have:g<w'.heap.size:=hp;omega) _;have HR5:=Qh (HRB.out.bset j true);go_roundw
            case rel=>exact⟨b+1,by omega,by go_num,by rw[HE4.out],Qh (by rw[HE4.out];exact HR5.out),hkb5⟩
            case measure=>simp[intOf];omega
        ·have e:b=256:=by omega
         subst e;go_wp2_with fail
         go_roundw
         case rel=>exact⟨j+1,by omega,by go_num,by rw[HSS.out],Qh (by rw[HSS.out];exact hrb.out),hkb⟩
         case measure=>simp[intOf];omega
      ·have e:j=l.length:=by omega
       subst e;have hcf:=sweepK_cf l L l.length (by omega);have HG2:Hid (((Yp l L l.length).2=true→gk-1≠0∧liveGo l (gk-1-1) (Yp l L l.length).1=liveF l∧cf (Yp l L l.length).1<gk-1-1)∧((Yp l L l.length).2=false→(Yp l L l.length).1=liveF l)):=Qh (by
        obtain⟨h1,h2,h3⟩:=hgo1.out;obtain⟨f,hf⟩:∃f,gk-1=f+1:=⟨gk-2,by omega⟩;rw[hf,liveGo] at h2;refine⟨fun h=> ?_,fun h=> ?_⟩
        ·rw[if_pos h] at h2;have:=hcf.2 h;exact⟨by omega,by rw[hf];exact h2,by omega⟩
        ·rw[if_neg (by rw[h];simp)] at h2;exact h2)
       go_wp2_with fail
       go_roundg (gk-1)
       case measure=>have:=hgo1.out.1;omega
       case rel=>exact⟨_,_,rfl,by rw[hsl];exact hLl,HG2,hrj,hkj⟩
open Go.RowKit Go.Maps
abbrev Yy:TypeId:=453
abbrev TArr:TypeId:=352
def rowC(x:List Int×Int):Array Value:=(iV x.1++[Value.int .i64 x.2]).toArray
theorem Yv{x:List Int×Int}(h:x.1.length=256):(rowC x).size=257:=by simp[rowC,h]
theorem rowC_inj{x y:List Int×Int}(h:x.1.length=256)(h':y.1.length=256)(e:Value.agg (rowC x)= .agg (rowC y)):x=y:=by
 injection e with e;have e1:=congrArg Array.toList e;simp only[rowC] at e1;have e2:=List.append_inj e1 (by simp[h,h']);have e3:x.1=y.1:=by
  have:=congrArg (List.map intOf) e2.1;simpa[List.map_map,Function.comp_def,intOf] using this
 have e4:x.2=y.2:=by simpa using e2.2
 exact Prod.ext e3 e4
theorem row_key:Keyed Tryz.prog Yy:=Keyed.of_law (deep_law (m:=5) (by decide) (by kernel_rfl) (by kernel_rfl) (by kernel_rfl))
theorem mapM_some{α β:Type}{f:α→Option β} :∀ {l:List α},(∀a∈l,∃b,f a=some b)→∃bs,l.mapM f=some bs
 |[],_=>⟨[],rfl⟩
 |a::l,h=>by
  obtain⟨b,hb⟩:=h a List.mem_cons_self;obtain⟨bs,hbs⟩:=mapM_some (l:=l) (fun x hx=>h x (List.mem_cons_of_mem _ hx));exact⟨b::bs,by rw[List.mapM_cons,hb,hbs];try rfl⟩
theorem int_lits(d:Nat)(x:Int)(h: -9000000000000000000≤x∧x≤9000000000000000000):∃ls,Tryz.prog.keyLits (d+1) 3 [.int .i64 x]=some ls:=by
 have hw:(Lit.int .i64 x).wf=true:=by
  simp[Lit.wf,IntKind.min,IntKind.max,IntKind.signed,IntKind.bits];omega
 exact⟨[.int .i64 x],by simp[Program.keyLits,Tryz.underlying3,hw]⟩
theorem arr_lits(d:Nat)(l:List Int)(h:l.length=256)(hx:∀y∈l,-9000000000000000000≤y∧y≤9000000000000000000):∃ls,Tryz.prog.keyLits (d+2) TArr (iV l)=some ls:=by
 have hc:Tryz.prog.cellsOf TArr=256:=by kernel_rfl
 have hi:Tryz.prog.cellsOf 3=1:=by kernel_rfl
 obtain⟨ls,hls⟩:=mapM_some (f:=fun i=>Tryz.prog.keyLits (d+1) 3 (((iV l).drop (i*1)).take 1)) (l:=List.range 256) (fun i hi=>by
  have hil:i<l.length:=by rw[h];exact List.mem_range.1 hi
  obtain⟨ls,hls⟩:=int_lits d l[i] (hx _ (List.getElem_mem hil));refine⟨ls,?_⟩;have e:((iV l).drop (i*1)).take 1=[Value.int .i64 l[i]]:=by
   rw[Nat.mul_one,List.drop_eq_getElem_cons (by simpa using hil),List.take_succ_cons,List.take_zero,List.getElem_map]
  rw[e];exact hls)
 refine⟨ls.flatten,?_⟩;unfold Program.keyLits;simp only[Tryz.underlying352,hc,hi,hls,List.length_map,h,if_true,Option.map_some]
theorem row_fit(x:List Int×Int)(h:x.1.length=256)(hx:∀y∈x.1,-9000000000000000000≤y∧y≤9000000000000000000)(hy: -9000000000000000000≤x.2∧x.2≤9000000000000000000):∃lx,keyOf Tryz.prog Yy (.agg (rowC x))=some lx:=by
 have hkt:Tryz.prog.keyType Yy=true:=by kernel_rfl
 have hc:Tryz.prog.cellsOf Yy=257:=by kernel_rfl
 have ha:Tryz.prog.cellsOf TArr=256:=by kernel_rfl
 have hi:Tryz.prog.cellsOf 3=1:=by kernel_rfl
 have hfo:(Value.agg (rowC x)).formed Tryz.prog Yy=true:=by
  unfold Value.formed;simp only[Tryz.underlying453,hc,Yv h];rfl
 have h2:decide (2≤Tryz.prog.types.size)=true:=by kernel_rfl
 have h3:=of_decide_eq_true h2;obtain⟨d,hd⟩:∃d,Tryz.prog.types.size=d+2:=⟨Tryz.prog.types.size-2,by omega⟩;obtain⟨la,hla⟩:=arr_lits d x.1 h hx;obtain⟨lb,hlb⟩:=int_lits (d+1) x.2 hy;have e1:(rowC x).toList.take 256=iV x.1:=by simp[rowC,h]
 have e2:((rowC x).toList.drop 256).take 1=[Value.int .i64 x.2]:=by simp[rowC,h]
 have hl:(rowC x).toList.length=257:=by rw[Array.length_toList];exact Yv h
 refine⟨.string (keyBytes [la,lb].flatten),?_⟩;unfold keyOf;simp only[Tryz.underlying453,hkt,hfo,Bool.and_self,if_true,hd,Value.cells];unfold Program.keyLits;simp only[Tryz.underlying453,hc,hl];simp[ha,hi,hla,hlb,e1,e2]
end Go.Proofs.YtiehgcfckhepaaaGreatDoor
namespace Go.Proofs.YtiehgcfckhepaaaGreatDoor
open Go.RowKit
abbrev TRd:TypeId:=417
structure RdIn (w:World) (pr pd gl gk:Nat) (l:List DS) (L:List Bool) (K:List Int) (c:Int):Prop where
 blk:w.heap[pr]? =some (.cells #[ptr pd,.slice (some ⟨gl,0,none⟩) l.length l.length,.slice (some ⟨gk,0,none⟩) l.length l.length,.int .i64 c] TRd (0,0))
 d:DfaAt w pd l
 lv:RowV w 4 gl (bV L)
 kd:RowV w 3 gk (iV K)
 ll:L.length=l.length
 kl:K.length=l.length
 kb:∀x∈K,0≤x∧x≤2000000
theorem RdIn.kn{w w':World}{pr pd gl gk:Nat}{l:List DS}{L:List Bool}{K:List Int}{c:Int}(h:RdIn w pr pd gl gk l L K c)(hk:Kn w w'):RdIn w' pr pd gl gk l L K c:=
 ⟨hk.blk h.blk (fun x=>x),h.d.kn hk,h.lv.kn hk,h.kd.kn hk,h.ll,h.kl,h.kb⟩
theorem RdIn.cells{w:World}{pr pd gl gk:Nat}{l:List DS}{L:List Bool}{K:List Int}{c:Int}(h:RdIn w pr pd gl gk l L K c):
  w.cell? ⟨pr,0,none⟩=some (ptr pd)∧w.cell? ⟨pr,1,none⟩=some (.slice (some ⟨gl,0,none⟩) l.length l.length)∧w.cell? ⟨pr,2,none⟩=some (.slice (some ⟨gk,0,none⟩) l.length l.length)∧w.cell? ⟨pr,3,none⟩=some (.int .i64 c):=
 ⟨by rw[Qa h.blk];try rfl,by rw[Qa h.blk];try rfl,by rw[Qa h.blk];try rfl,by rw[Qa h.blk];try rfl⟩
theorem kget{K:List Int}(hb:∀x∈K,0≤x∧x≤2000000)(i:Nat):0≤K.getD i 0∧K.getD i 0≤2000000:=by
 rw[List.getD_eq_getElem?_getD];cases h:K[i]? with
 |none=>simp
 |some x=>exact hb x (List.mem_of_getElem? h)
theorem Zg(l:List DS)(L:List Bool)(K:List Int)(n:Nat):(rowF l L K n).1.length=256:=by simp[rowF]
theorem rowF_get(l:List DS)(L:List Bool)(K:List Int)(n b:Nat)(hb:b<(rowF l L K n).1.length):(rowF l L K n).1[b]=if hit l L n b=true then K.getD (dnx l n b).toNat 0 else-1:=by simp[rowF]
theorem rowF_fit{l:List DS}{L:List Bool}{K:List Int}(hb:∀x∈K,0≤x∧x≤2000000)(n:Nat):(∀y∈(rowF l L K n).1,-9000000000000000000≤y∧y≤9000000000000000000)∧-9000000000000000000≤(rowF l L K n).2∧(rowF l L K n).2≤9000000000000000000:=by
 refine⟨fun y hy=> ?_,?_⟩
 ·obtain⟨b,hb2,rfl⟩:=List.getElem_of_mem hy;rw[rowF_get];split
  ·have:=kget hb (dnx l n b).toNat;omega
  ·omega
 ·have:=kget hb n;show-9000000000000000000≤K.getD n 0∧K.getD n 0≤9000000000000000000;omega
def rwK(x:List Int×Int)(k:Nat):List Value:=iV (x.1.take k++List.replicate (x.1.length-k) 0)++[Value.int .i64 x.2]
theorem rwK_set(x:List Int×Int){k:Nat}(hk:k<x.1.length):(rwK x k).set k (.int .i64 x.1[k])=rwK x (k+1):=by
 unfold rwK;have hl:=fill_len x.1 (0:Int) (Nat.le_of_lt hk);rw[List.set_append_left _ _ (by rw[List.length_map,hl];exact hk),←List.map_set,fill_set x.1 0 hk]
theorem rwK_full(x:List Int×Int)(h:x.1.length=256):(rwK x 256).toArray=rowC x:=by
 unfold rwK rowC;rw[List.take_of_length_le (by omega),h,Nat.sub_self,List.replicate_zero,List.append_nil]
theorem rwK_one(x:List Int×Int)(k:Nat):(rwK x k).toArray.all (·.oneCell')=true:=by
 rw[Array.all_eq_true_iff_forall_mem];intro u hu;simp only[rwK,List.mem_toArray,List.mem_append,List.mem_map,List.mem_singleton] at hu;rcases hu with⟨y,_,h⟩|h<;>subst h<;>rfl
theorem row_zero:(Tryz.prog.info? Yy).map (fun i=>(i.zero,i.size))=some (some (.agg Tryz.zeroCells453),257):=by kernel_rfl
theorem row_own(x:Int):Tryz.zeroCells453.setIfInBounds 256 (.int .i64 x)=(List.replicate 256 (Value.int .i64 0)++[Value.int .i64 x]).toArray:=by kernel_rfl
theorem row_c{pr pd gl gk:Nat}{l:List DS}{L:List Bool}{K:List Int}{c:Int}{w:World}(n:Nat)(h:RdIn w pr pd gl gk l L K c)(hl:DL l)(hn:n<l.length):
  Calls Tryz.prog 313 #[ptr pr,.int .i64 n] w fun e w'=>e= .returned (.agg (rowC (rowF l L K n)))∧Kn w w':=by
 obtain⟨hzz,hzi⟩:=zero_of_info row_zero;have hown:=row_own;have hZs:Tryz.zeroCells453.size=257:=by kernel_rfl
 have hpr:=Ql h.blk;have hgk:=h.kd.lt;obtain⟨c0,c1,c2,c3⟩:=h.cells;have hk0:=h.kd.icell (i:=n) (by rw[h.kl];exact hn);have H:=Qh h;have HL:=Qh hl;have hlen:=hl.len;have hkl:=h.kl;have hll:=h.ll;obtain⟨x,hx⟩:∃x,x=rowF l L K n:=⟨_,rfl⟩;have hx1:x.1.length=256:=by rw[hx];exact Zg l L K n
 have hx2:x.2=K.getD n 0:=by rw[hx];try rfl
 rw[←hx2] at hk0;have hst:=run_storeCells_new (P:=Tryz.prog) (w.alloc (.cells Tryz.zeroCells453 Yy)) Yy Tryz.zeroCells453 (rwK x 0).toArray (by rw[hzi];simp[rwK,hx1]) (by rw[hZs];simp[rwK,hx1]) (rwK_one x 0);rw[size_alloc'] at hst;have e0:(List.replicate 256 (Value.int .i64 0)++[Value.int .i64 x.2]).toArray=(rwK x 0).toArray:=by simp[rwK,hx1]
 have hown2:=hown x.2;rw[e0] at hown2;obtain⟨Y,hY⟩:∃Y,Y=(rwK x 0).toArray:=⟨_,rfl⟩;rw[←hY] at hst hown2;have hYs:Y.size=257:=by rw[hY];simp[rwK,hx1]
 have HX:=Qh hx;have HY:=Qh hY;clear h hl hx hY hown e0 hx2;go_enter Tryz.func313,Tryz.ntmps313;go_upto_region 2 with fail
 obtain⟨b,hb⟩:∃z,z=w.heap.size+1:=⟨_,rfl⟩;obtain⟨a,ha⟩:∃z,z=w.heap.size:=⟨_,rfl⟩;obtain⟨W,hW⟩:∃z,z=(w.alloc (.cells Tryz.zeroCells453 Yy)).alloc (.cells Y Yy):=⟨_,rfl⟩;have hkW:Kn w W:=by rw[hW];exact((Qb _ _).alloc _).alloc _
 have hba:W.heap[a]? =some (.cells Tryz.zeroCells453 Yy (0,0)):=by rw[hW,ha];exact Qq (Qf _ _) _
 have hbb:RowV W Yy b (rwK x 0):=by
  have:=Qf (w.alloc (.cells Tryz.zeroCells453 Yy)) (.cells Y Yy);rw[size_alloc',←hb] at this;unfold RowV;rw[hW,this,HY.out]
 have hab:a≠b:=by omega
 have hale:w.heap.size≤a:=by omega
 have hble:w.heap.size≤b:=by omega
 rw[←hb,←ha,←hW];have HBA:=Qh hba;have HBB:=Qh hbb;clear hst hown2 hW hba hbb hb ha hzz c0 c1 c2 c3 hk0;go_wp2_with fail
 go_loopw [17] (fun i wr=>∃k:Nat,k≤256∧i= .int .i64 k∧Hid (RowV wr Yy b (rwK x k))∧Hid (wr.heap[a]? =some (.cells Tryz.zeroCells453 Yy (0,0)))∧Kn w wr) (fun i _=>256-(intOf i).toNat)
 case atStart=>exact⟨0,by omega,rfl,HBB,HBA,hkW⟩
 case round=>
  clear HBB HBA hkW;obtain⟨k,hk,rfl,hrow,hra,hkn⟩:=hrel;have hrl:(rwK x k).length=257:=by
   unfold rwK;rw[List.length_append,List.length_map,fill_len x.1 0 (by omega),hx1];try rfl
  by_cases hlt:k<256
  ·have hbi:(k:Int)<256:=by omega
   have hc1:=hrow.out.cell (i:=k) (by omega);have hf1:=hrow.out.fr k;have HS:=Qh (rwK_set x (k:=k) (by omega));have HG:Hid (x.1[k]=if hit l L n k=true then K.getD (dnx l n k).toNat 0 else-1):=Qh (by
    have:=rowF_get l L K n k (by rw[Zg];exact hlt);rw[←this];congr 1;exact congrArg Prod.fst HX.out)
   have hR2:=hrow.out.set k (.int .i64 (-1));have hkn2:Kn w (wr.setCell ⟨b,k,none⟩ (.int .i64 (-1))):=hkn.setCell (fun hp=>by have:b<w.heap.size:=hp;omega) _;have hra2:=Yg (b:=a) (c:=b) hra.out hab k (.int .i64 (-1));have hI2:=H.out.kn hkn2;have hdx:=HL.out.dnx_lt n k;go_upto_region 6 with fail
   obtain⟨w2,hw2⟩:∃z,z=wr.setCell ⟨b,k,none⟩ (.int .i64 (-1)):=⟨_,rfl⟩;rw[←hw2] at hR2 hkn2 hra2 hI2⊢;obtain⟨d0,d1,d2,_⟩:=hI2.cells;have HN:=Qh (DNext_c pd n k l w2 hI2.d hn hlt);have HR2:=Qh hR2;have HA2:=Qh hra2;have HI2:=Qh hI2;clear hw2 hR2 hra2 hI2 hc1 hf1 hrow hra hkn;by_cases hx:dnx l n k= -1
   ·have hh:hit l L n k=false:=by simp[hit,hx]
    rw[hh] at HG;have HG2:Hid (x.1[k]= -1):=Qh HG.out;rw[hx] at HN;go_wp2_with fail
    refine HN.out.mono ?_;rintro e w4 ⟨rfl,rfl⟩;unfold nxV;go_wp2_with fail
    go_roundw
    case rel=>exact⟨k+1,by omega,by go_num,Qh (by rw[←HS.out,HG2.out];exact HR2.out),HA2,hkn2⟩
    case measure=>simp[intOf];omega
   ·obtain⟨q,hq⟩:∃q:Nat,(q:Int)=dnx l n k:=⟨(dnx l n k).toNat,by omega⟩;have hql:q<l.length:=by omega
    have hq1:¬(q:Int)= -1:=by omega
    have hq2:(dnx l n k).toNat=q:=by omega
    have hh:hit l L n k=L.getD q false:=by simp[hit,hq2,hx]
    rw[hh,hq2] at HG;rw[←hq] at HN hx hdx;have hcq:=HI2.out.lv.bcell (i:=q) (by omega);have hkq:=HI2.out.kd.icell (i:=q) (by omega);clear hq hh hq2;cases hv:L.getD q false with
    |false=>
     rw[hv] at hcq HG;have HG2:Hid (x.1[k]= -1):=Qh HG.out;go_wp2_with fail
     refine HN.out.mono ?_;rintro e w4 ⟨rfl,rfl⟩;rw[nxV,if_neg hq1];go_wp2_with fail
     go_roundw
     case rel=>exact⟨k+1,by omega,by go_num,Qh (by rw[←HS.out,HG2.out];exact HR2.out),HA2,hkn2⟩
     case measure=>simp[intOf];omega
    |true=>
     rw[hv] at hcq HG;obtain⟨y,hy⟩:∃y,y=K.getD q 0:=⟨_,rfl⟩;have HG2:Hid (x.1[k]=y):=Qh (by rw[hy];exact HG.out);rw[←hy] at hkq;clear hy;have hc3:=HR2.out.cell (i:=k) (by rw[List.length_set];omega);have hf3:=HR2.out.fr k;go_wp2_with fail
     refine HN.out.mono ?_;rintro e w4 ⟨rfl,rfl⟩;rw[nxV,if_neg hq1];go_wp2_with fail
     have hR5:=HR2.out.set k (.int .i64 y);rw[List.set_set] at hR5;have HR5:Hid (RowV (w4.setCell ⟨b,k,none⟩ (.int .i64 y)) Yy b (rwK x (k+1))):=Qh ((congrArg (fun X=>RowV (w4.setCell ⟨b,k,none⟩ (.int .i64 y)) Yy b X) (by rw[←HG2.out];exact HS.out)).mp hR5);have HA5:=Qh (Yg (b:=a) (c:=b) HA2.out hab k (.int .i64 y));have hkn5:Kn w (w4.setCell ⟨b,k,none⟩ (.int .i64 y)):=hkn2.setCell (fun hp=>by have:b<w.heap.size:=hp;omega) _;clear hR5;go_roundw
     case rel=>exact⟨k+1,by omega,by go_num,HR5,HA5,hkn5⟩
     case measure=>simp[intOf];omega
  ·obtain rfl:k=256:=by omega
   have hbb:=hrow.out;unfold RowV at hbb;rw[rwK_full x hx1,HX.out] at hbb;have hra1:=hra.out;have hsz:(rowC (rowF l L K n)).size=257:=Yv (Zg l L K n);have hone:(rowC (rowF l L K n)).all (·.oneCell')=true:=by rw[←rwK_full _ (Zg l L K n)];exact rwK_one _ _
   obtain⟨C,hC⟩:∃C,C=rowC (rowF l L K n):=⟨_,rfl⟩;rw[←hC] at hbb hsz hone;have HC:=Qh hC;have hiC:(Tryz.prog.info? Yy).map (·.size)=some C.size:=by rw[hsz];exact hzi
   have hfin:=setRow_heap wr a _ C Yy (0,0) hra1;have HFIN:=Qh hfin;clear hfin hC hrow;go_wp2_with (first
    |(refine wpList_load_row rfl Yy (.tmp 5) rfl b rfl Yy C (0,0) _ hbb Tryz.underlying453 rfl hiC ?_)
    |(refine wpList_store_row rfl Yy (.tmp 4) (.tmp 55) rfl a C rfl rfl Yy _ hra1 hiC (by rw[hsz];exact hZs) hone ?_))
   refine bodyPost_ret (results_cell_row rfl _ _ a Yy C (0,0) _ rfl HFIN.out Tryz.underlying453 rfl hiC) rfl ⟨by rw[HC.out],?_⟩;exact hkn.trans' (T:=fun k=>k=a) ⟨rfl,rfl,rfl,by simp,fun k _ hk=>setRow_other _ _ _ _ hk⟩ (fun i hi e=>by omega)
open Go.RowKit Go.Maps
def agM(m:List (List Int×Int)):KV:=m.zipIdx.map (fun p=>(Value.agg (rowC p.1),Value.int .i64 (p.2:Nat)))
theorem agM_len(m:List (List Int×Int)):(agM m).length=m.length:=by simp[agM]
theorem agM_snoc(m:List (List Int×Int))(k:List Int×Int):agM (m++[k])=agM m++[(.agg (rowC k),.int .i64 (m.length:Nat))]:=by
 unfold agM;rw[List.zipIdx_append,List.map_append];simp
theorem agM_mem{m:List (List Int×Int)}{p:Value×Value} :p∈agM m↔∃i,∃h:i<m.length,p=(.agg (rowC m[i]),.int .i64 (i:Nat)):=by
 unfold agM;rw[List.mem_map];constructor
 ·rintro⟨q,hq,rfl⟩;obtain⟨j,hj,rfl⟩:=List.getElem_of_mem hq;have hj':j<m.length:=by simpa using hj
  exact⟨j,hj',by simp⟩
 ·rintro⟨i,h,rfl⟩;refine⟨(m[i],i),?_,rfl⟩;exact List.mem_iff_getElem.2 ⟨i,by simp;omega,by simp⟩
theorem agK_256(l:List DS)(L:List Bool)(K:List Int):∀c,∀x∈(agK l L K c).1,x.1.length=256
 |0=>fun x hx=>by cases hx
 |c+1=>by
  have ih:=agK_256 l L K c;cases h:(agK l L K c).1.findIdx? (fun x=>decide (x=rowF l L K c)) with
  |some n=>rw[agK_some h];exact ih
  |none=>
   rw[agK_none h];intro x hx;rcases List.mem_append.1 hx with h1|h1
   ·exact ih x h1
   ·simp at h1;subst h1;exact Zg l L K c
theorem snoc_set(xs:List Int)(n:Nat)(x:Int):(xs++List.replicate (n+1) 0).set xs.length x=(xs++[x])++List.replicate n 0:=by
 rw[List.set_append_right _ _ (Nat.le_refl _),Nat.sub_self,List.replicate_succ,List.set_cons_zero,List.append_assoc];try rfl
theorem DfaAt.k1T{w w':World}{pd g:Nat}{l:List DS}{C:Array Value}{T:TypeId}{fr:Nat×Nat}(h:DfaAt w pd l)(hk:K1 g w w')(hb:w.heap[g]? =some (.cells C T fr))(h1:T≠TD)(h2:T≠TDs)(h3:T≠3):DfaAt w' pd l:=by
 obtain⟨pm,v,vas,hd,hl⟩:=h;have ho:=hd.other hb h1 h2;refine⟨pm,v,vas,⟨hk.blk hd.blk (fun e=>ho (.inl e.symm)),hd.cls,hd.len,hd.row.kp hk (fun k hk2 e=>ho (.inr (by rw[hk2,e]))),hd.nx,fun i a b=>(hd.ats i a b).kp hk (fun k cs hb2 e=> ?_)⟩,hl⟩;subst e;rw[hb] at hb2;injection hb2 with hb2;injection hb2 with _ hb2 _;exact h3 hb2
theorem RowV.k1T{w w':World}{g g2:Nat}{T T2:TypeId}{xs:List Value}{C:Array Value}{fr:Nat×Nat}(h:RowV w T2 g2 xs)(hk:K1 g w w')(hb:w.heap[g]? =some (.cells C T fr))(hT:T≠T2):RowV w' T2 g2 xs:=by
 refine h.kp hk (fun e=> ?_);subst e;unfold RowV at h;rw[hb] at h;injection h with h;injection h with _ h _;exact hT h
def AgainPost(pr pd gl:Nat)(l:List DS)(L:List Bool)(K:List Int)(c:Int)(w:World)(e:Ending)(w':World):Prop:=
 e= .returned (.bool (decide (c<(agK l L K l.length).1.length)))∧Kp (fun k=>k=pr) w w'∧∃gk:Nat,RdIn w' pr pd gl gk l L (agK l L K l.length).2 ((agK l L K l.length).1.length:Nat)
theorem again_c{pr pd gl gk:Nat}{l:List DS}{L:List Bool}{K:List Int}{c:Int}{w:World}(h:RdIn w pr pd gl gk l L K c)(hl:DL l)(hc:0≤c∧c≤1000000):
  Calls Tryz.prog 268 #[ptr pr] w (AgainPost pr pd gl l L K c w):=by
 obtain⟨c0,c1,c2,c3⟩:=h.cells;have hpr:=Ql h.blk;have H:=Qh h;have HL:=Qh hl;have hlen:=hl.len;have hzs:Tryz.zeroCells453.size=257:=by kernel_rfl
 have hzi:=(zero_of_info row_zero).2;obtain⟨i0,hi,hz0,hz1,hz2⟩:=info_parts info_int;have HI:=Qh (And.intro hi (And.intro hz0 (And.intro hz1 hz2)));have hzi0:∀w,(zeroValue 3).run Tryz.prog w= .ok (.int .i64 0) w:=Tryz.zeroValue3;have HZ:=Qh hzi0;have hmm:= @run_makeMap Tryz.prog;clear h hl hi hz0 hz1 hz2 hzi0;go_enter Tryz.func268,Tryz.ntmps268;go_wp2_with (first|(at_make;go_must (refine wpList_make_v _ rfl (.tmp 15) (.tmp 15) 28 rfl 3 i0 (.int .i64 0) Tryz.underlying28 HI.out.1 HI.out.2.1 HI.out.2.2.1 rfl l.length rfl rfl (by rw[HI.out.2.2.2];omega) (by simp only[maxLen];omega) ?_;intro w1 hrow1 hk1)))
 rw[size_alloc'] at hrow1;obtain⟨g2,hg2⟩:∃z,z=w.heap.size+1:=⟨_,rfl⟩;obtain⟨bm,hbm⟩:∃z,z=w.heap.size:=⟨_,rfl⟩;have hm1:MapA w1 Yy bm (agM []):=by rw[hbm];exact(MapA.new w Yy).kn hk1
 have hkn1:Kn w w1:=((Qb _ _).alloc _).trans hk1;rw[←hg2] at hrow1⊢;rw[←hbm];have hbmle:w.heap.size≤bm:=by omega
 have hgle:w.heap.size≤g2:=by omega
 have hne:bm≠g2:=by omega
 have HR1:=Qh hrow1;have HM1:=Qh hm1;clear hrow1 hm1 hk1 hg2 hbm;go_loopw [19] (fun i wr=>∃n:Nat,n≤l.length∧i= .int .i64 n∧Hid (MapA wr Yy bm (agM (agK l L K n).1))∧Hid (RowV wr 3 g2 (iV ((agK l L K n).2++List.replicate (l.length-n) 0)))∧Kn w wr) (fun i _=>l.length-(intOf i).toNat)
 case atStart=>exact⟨0,Nat.zero_le _,rfl,HM1,Qh (by simpa[agK] using HR1.out),hkn1⟩
 case round=>
  clear HR1 HM1 hkn1;obtain⟨n,hn,rfl,hmp,hrow,hkn⟩:=hrel;obtain⟨hrl,hr1,hr2⟩:=agK_len l L K n;have HG6:=Qh (agK_256 l L K n);obtain⟨r,hr⟩:∃r,r=agK l L K n:=⟨_,rfl⟩;have HR:=Qh hr;rw[←hr] at hmp hrow hrl hr1 HG6;clear hr hr2;by_cases hlt:n<l.length
  ·have HRW:=Qh (row_c n (H.out.kn hkn) HL.out hlt);go_wp2_with fail
   refine HRW.out.mono ?_;rintro e w2 ⟨rfl,hk2⟩;have hkn2:=hkn.trans hk2;have HM2:=Qh (hmp.out.kn hk2);have HR2:=Qh (hrow.out.kn hk2);clear hmp hrow hkn hk2;have hfit:=row_fit (rowF l L K n) (Zg l L K n) (rowF_fit H.out.kb n).1 (rowF_fit H.out.kb n).2;have hone:(rowC (rowF l L K n)).all (·.oneCell')=true:=by rw[←rwK_full _ (Zg l L K n)];exact rwK_one _ _
   have hcs:=Yv (Zg l L K n);obtain⟨lx,hkey⟩:=hfit;have HK:=Qh hkey;obtain⟨C,hC⟩:∃C,C=rowC (rowF l L K n):=⟨_,rfl⟩;rw[←hC] at hone hcs HK⊢;have HC:=Qh hC;have hiC:(Tryz.prog.info? Yy).map (·.size)=some C.size:=by rw[hcs];exact hzi
   have hst:=run_storeCells_new (P:=Tryz.prog) w2 Yy Tryz.zeroCells453 C (by rw[hcs];exact hzi) (by rw[hzs,hcs]) hone;clear hkey hC hone;go_upto_region 7 with fail
   obtain⟨b6,hb6⟩:∃z,z=w2.heap.size:=⟨_,rfl⟩;obtain⟨w3,hw3⟩:∃z,z=w2.alloc (.cells C Yy):=⟨_,rfl⟩;have hk3:Kn w2 w3:=by rw[hw3];exact(Qb _ _).alloc _
   have hbb:w3.heap[b6]? =some (.cells C Yy (0,0)):=by rw[hw3,hb6];exact Qf _ _
   have hkn3:=hkn2.trans hk3;have HM3:=Qh (HM2.out.kn hk3);have HR3:=Qh (HR2.out.kn hk3);rw[←hw3,←hb6];have hlen3:=HM3.out.len Tryz.underlying451 3;rw[agM_len] at hlen3;have hl2:(r.2++List.replicate (l.length-n) 0).length=l.length:=by rw[List.length_append,List.length_replicate];omega
   have hc5:=HR3.out.icell (i:=n) (by omega);have hf5:=HR3.out.fr n;have HS:=fun x:Int=>Qh (show(r.2++List.replicate (l.length-n) 0).set n x=(r.2++[x])++List.replicate (l.length-(n+1)) 0 by
    have e:l.length-n=l.length-(n+1)+1:=by omega
    rw[e];have:=snoc_set r.2 (l.length-(n+1)) x;rw[hrl] at this;exact this)
   clear hst hw3 hb6 hkn2 HM2 HR2 hk3;cases hf:r.1.findIdx? (fun x=>decide (x=rowF l L K n)) with
   |some k=>
    obtain⟨hkl,hat,_⟩:=List.findIdx?_eq_some_iff_getElem.1 hf;have hat':r.1[k]=rowF l L K n:=by simpa using hat
    have HX1:Hid ((Value.agg C,Value.int .i64 (k:Nat))∈agM r.1):=Qh (agM_mem.2 ⟨k,hkl,by rw[hat',HC.out]⟩);have HRS:Hid (agK l L K (n+1)=(r.1,r.2++[(k:Int)])):=Qh (by rw[HR.out] at hf⊢;exact agK_some hf);clear hf hat hat';go_wp2_with (first
     |(refine wpList_load_row rfl Yy (.tmp 6) rfl b6 rfl Yy C (0,0) _ hbb Tryz.underlying453 rfl hiC ?_)
     |(at_lookup;refine Yr rfl (.tmp 26) (.tmp 27) true rfl row_key Tryz.underlying451 rfl HM3.out (.agg C) lx rfl HK.out (.int .i64 (k:Nat)) HX1.out ?_))
    have hkn6:Kn w (w3.setCell ⟨g2,n,none⟩ (.int .i64 (k:Nat))):=hkn3.setCell (fun hp=>by have:g2<w.heap.size:=hp;omega) _;have hk6:K1 g2 w3 (w3.setCell ⟨g2,n,none⟩ (.int .i64 (k:Nat))):=Qg _ _;have HR6:=HR3.out.iset n (k:Nat);rw[(HS (k:Nat)).out] at HR6;have HM6:=Qh (HM3.out.kp hk6 hne);have HR7:=Qh HR6;clear HR6 hk6;go_roundw
    case rel=>exact⟨n+1,by omega,by go_num,Qh (by rw[HRS.out];exact HM6.out),Qh (by rw[HRS.out];exact HR7.out),hkn6⟩
    case measure=>simp[intOf];omega
   |none=>
    have HX0:Hid (∀p∈agM r.1,p.1≠Value.agg C):=Qh (by
     intro p hp e;obtain⟨i,hi,rfl⟩:=agM_mem.1 hp;rw[HC.out] at e;have h2:=rowC_inj (HG6.out _ (List.getElem_mem hi)) (Zg l L K n) e;have h3:=List.findIdx?_eq_none_iff.1 hf _ (List.getElem_mem hi);simp[h2] at h3)
    have HRS:Hid (agK l L K (n+1)=(r.1++[rowF l L K n],r.2++[(r.1.length:Int)])):=Qh (by rw[HR.out] at hf⊢;exact agK_none hf);have HAS:=Qh (agM_snoc r.1 (rowF l L K n));clear hf;go_wp2_with (first
     |(refine wpList_load_row rfl Yy (.tmp 6) rfl b6 rfl Yy C (0,0) _ hbb Tryz.underlying453 rfl hiC ?_)
     |(at_lookup;refine Zb rfl (.tmp 26) (.tmp 27) true rfl row_key Tryz.underlying451 (.int .i64 0) HZ.out rfl HM3.out (.agg C) lx rfl HK.out HX0.out ?_)
     |(at_mapUpdate;refine wpList_put0 rfl (.tmp 35) (.tmp 36) (.tmp 37) rfl row_key Tryz.underlying451 rfl HM3.out (.agg C) (.int .i64 (r.1.length:Nat)) lx rfl rfl HK.out HX0.out ?_;intro w7 hm7 hk7;have HM7:=Qh hm7;have HR7:=Qh (HR3.out.kp hk7 (fun e=>hne e.symm));have hc7:=HR7.out.icell (i:=n) (by omega);have hf7:=HR7.out.fr n;have hkn7:=hkn3.trans' hk7 (fun i hi e=>by omega);clear hm7))
    have hkn6:Kn w (w7.setCell ⟨g2,n,none⟩ (.int .i64 (r.1.length:Nat))):=hkn7.setCell (fun hp=>by have:g2<w.heap.size:=hp;omega) _;have hk6:K1 g2 w7 (w7.setCell ⟨g2,n,none⟩ (.int .i64 (r.1.length:Nat))):=Qg _ _;have HR6:=HR7.out.iset n (r.1.length:Nat);rw[(HS (r.1.length:Nat)).out] at HR6;have HM6:=HM7.out.kp hk6 hne;rw[HC.out,←HAS.out] at HM6;have HM8:=Qh HM6;have HR8:=Qh HR6;clear HR6 hk6 HM6;go_roundw
    case rel=>exact⟨n+1,by omega,by go_num,Qh (by rw[HRS.out];exact HM8.out),Qh (by rw[HRS.out];exact HR8.out),hkn6⟩
    case measure=>simp[intOf];omega
  ·obtain rfl:n=l.length:=by omega
   have hrw:=hrow.out;rw[Nat.sub_self,List.replicate_zero,List.append_nil] at hrw;have HRW:=Qh hrw;obtain⟨d0,d1,d2,d3⟩:=(H.out.kn hkn).cells;clear hrw hrow c0 c1 c2 c3;go_upto_region 13 with fail
   refine wp_region_held_drew (S:=fun w'=>MapA w' Yy bm (agM r.1)∧w'.cell? ⟨pr,3,none⟩=some (.int .i64 c)) (by kernel_rfl) ⟨hmp.out.kn ((Qb _ _).drew),Qc ((Qb _ _).drew) d3⟩ (fun hHeld=> ?_);obtain⟨wd,hwd⟩:∃z,z=wr.drew:=⟨_,rfl⟩;have hkd:Kn wr wd:=by rw[hwd];exact(Qb _ _).drew
   have hknd:Kn w wd:=hkn.trans hkd;rw[←hwd] at hHeld⊢;clear hwd d0 d1 d2 d3;refine TW 0 43 ?_;refine TW 2 45 ?_;refine TW 3 46 ?_;refine TW 4 47 ?_;refine TH 5 48 ?_;refine RH 1 (fun K hK=> ?_);have hln:=hHeld.1.len Tryz.underlying451 3;rw[agM_len] at hln;go_simp;refine hK.out _ _ hHeld (fun hHeld=> ?_);clear hK K hln
   try simp only[PP]
   refine TW 6 49 ?_;refine TW 7 9 ?_;refine RD ?_;obtain⟨x0,x1,x2,x3⟩:=(H.out.kn hknd).cells;have hln:=hHeld.1.len Tryz.underlying451 3;rw[agM_len] at hln;have HRD:=Qh (HRW.out.kn hkd);have HRI:=Qh (H.out.kn hknd);have hfb:=Qd HRI.out.blk 2;have hfb3:=Qd HRI.out.blk 3;have HMD:=Qh hHeld.1;clear hHeld;go_wp2_with fail
   go_ret;have hkA:K1 pr wd (wd.setCell ⟨pr,2,none⟩ (.slice (some ⟨g2,0,none⟩) l.length l.length)):=Qg _ _;have hkB:K1 pr (wd.setCell ⟨pr,2,none⟩ (.slice (some ⟨g2,0,none⟩) l.length l.length)) ((wd.setCell ⟨pr,2,none⟩ (.slice (some ⟨g2,0,none⟩) l.length l.length)).setCell ⟨pr,3,none⟩ (.int .i64 (r.1.length:Nat))):=Qg _ _;have hkC:=hkA.trans hkB;have hrI:=HRI.out;refine⟨by rw[←HR.out];try rfl,hknd.weak.trans hkC,g2,?_⟩;rw[←HR.out];refine⟨?_,hrI.d.k1T hkC hrI.blk (by decide) (by decide) (by decide),hrI.lv.k1T hkC hrI.blk (by decide),HRD.out.k1T hkC hrI.blk (by decide),hrI.ll,hrl,fun x hx=> ?_⟩
   ·have e1:=Qj hrI.blk 2 (.slice (some ⟨g2,0,none⟩) l.length l.length);have e2:=Qj e1 3 (.int .i64 (r.1.length:Nat));exact e2
   ·have:=(agK_len l L K l.length).2.2 x (by rw[←HR.out];exact hx);omega
def fstM(m:List Int):KV:=m.map (fun x=>(Value.int .i64 x,Value.bool true))
theorem fstM_len(m:List Int):(fstM m).length=m.length:=by simp[fstM]
theorem set_same{α:Type}{m:List α}{j:Nat}{a:α}(h:m[j]? =some a):m.set j a=m:=by
 refine List.ext_getElem? (fun i=> ?_);rw[List.getElem?_set];split
 ·rename_i e;subst e;have:=(List.getElem?_eq_some_iff.1 h).1;rw[if_pos this,h]
 ·rfl
theorem kind0_len(l:List DS)(L:List Bool):(Yh l L).length=l.length:=by simp[Yh]
theorem kind0_get(l:List DS)(L:List Bool)(n:Nat)(h:n<(Yh l L).length):(Yh l L)[n]=if L.getD n false=true then dac l n+2 else 0:=by simp[Yh]
theorem kind0_lt{l:List DS}(hl:DL l)(L:List Bool):∀x∈Yh l L,0≤x∧x≤2000000:=by
 intro x hx;obtain⟨n,hn,rfl⟩:=List.getElem_of_mem hx;rw[kind0_get];have:=hl.dac_lt n;split<;>omega
theorem dist_succ(xs:List Int){k:Nat}(h:k<xs.length):dist (xs.take (k+1))=addK (dist (xs.take k)) xs[k]:=by
 unfold dist;rw[List.take_succ_eq_append_getElem h,List.foldl_append];try rfl
theorem dist_len(xs:List Int):∀k,k≤xs.length→(dist (xs.take k)).length≤k
 |0,_=>by simp[dist]
 |k+1,h=>by
  have h1:=dist_len xs k (by omega);rw[dist_succ xs (by omega)];have:=addK_len (dist (xs.take k)) xs[k];omega
theorem RdIn.move{S:Nat→Prop}{w w':World}{pr pd gl gk:Nat}{l:List DS}{L:List Bool}{K:List Int}{c:Int}(h:RdIn w pr pd gl gk l L K c)(hk:Kp S w w')(hd:DfaAt w' pd l)(h1:¬S pr)(h2:¬S gl)(h3:¬S gk):RdIn w' pr pd gl gk l L K c:=
 ⟨hk.blk h.blk h1,hd,h.lv.kp hk h2,h.kd.kp hk h3,h.ll,h.kl,h.kb⟩
theorem RdIn.kset{w:World}{pr pd gl gk:Nat}{l:List DS}{L:List Bool}{K:List Int}{c:Int}(h:RdIn w pr pd gl gk l L K c)(n:Nat)(x:Int)(hx:0≤x∧x≤2000000)(hd:DfaAt (w.setCell ⟨gk,n,none⟩ (.int .i64 x)) pd l)(h1:pr≠gk)(h2:gl≠gk):RdIn (w.setCell ⟨gk,n,none⟩ (.int .i64 x)) pr pd gl gk l L (K.set n x) c:=by
 have hk:K1 gk w (w.setCell ⟨gk,n,none⟩ (.int .i64 x)):=Qg _ _;refine⟨hk.blk h.blk h1,hd,h.lv.kp hk h2,h.kd.iset n x,h.ll,by rw[List.length_set];exact h.kl,fun y hy=> ?_⟩;rcases List.mem_or_eq_of_mem_set hy with h3|h3
 ·exact h.kb y h3
 ·subst h3;exact hx
theorem RdIn.cset{w:World}{pr pd gl gk:Nat}{l:List DS}{L:List Bool}{K:List Int}{c:Int}(h:RdIn w pr pd gl gk l L K c)(x:Int)(hd:DfaAt (w.setCell ⟨pr,3,none⟩ (.int .i64 x)) pd l):RdIn (w.setCell ⟨pr,3,none⟩ (.int .i64 x)) pr pd gl gk l L K x:=by
 have hk:K1 pr w (w.setCell ⟨pr,3,none⟩ (.int .i64 x)):=Qg _ _;refine⟨?_,hd,h.lv.k1T hk h.blk (by decide),h.kd.k1T hk h.blk (by decide),h.ll,h.kl,h.kb⟩;exact Qj h.blk 3 (.int .i64 x)
def kdK(l:List DS)(L:List Bool)(n:Nat):List Int:=(Yh l L).take n++List.replicate ((Yh l L).length-n) 0
theorem kdK_len(l:List DS)(L:List Bool){n:Nat}(h:n≤l.length):(kdK l L n).length=l.length:=by
 unfold kdK;rw[fill_len _ _ (by rw[kind0_len];exact h),kind0_len]
theorem kdK_set(l:List DS)(L:List Bool){n:Nat}(h:n<l.length)(h':n<(Yh l L).length):(kdK l L n).set n (Yh l L)[n]=kdK l L (n+1):=fill_set _ _ h'
theorem kdK_at(l:List DS)(L:List Bool){n:Nat}(h:n<l.length):(kdK l L n)[n]? =some 0:=by
 have hk:=kind0_len l L;unfold kdK;rw[List.getElem?_append_right (by rw[List.length_take];omega),List.length_take,Nat.min_eq_left (by omega),Nat.sub_self,List.getElem?_replicate,if_pos (by omega)]
theorem kdK_v(l:List DS)(L:List Bool){n:Nat}(h:n<l.length)(h':n<(Yh l L).length):(kdK l L (n+1)).getD n 0=(Yh l L)[n]:=by
 rw[←kdK_set l L h h',List.getD_eq_getElem?_getD,List.getElem?_set_self (by rw[kdK_len l L (Nat.le_of_lt h)];exact h)];rfl
theorem kdK_full(l:List DS)(L:List Bool):kdK l L l.length=Yh l L:=by
 unfold kdK;rw[List.take_of_length_le (by rw[kind0_len];exact Nat.le_refl _),kind0_len,Nat.sub_self,List.replicate_zero,List.append_nil]
theorem wpList_putb{w:World}{t:TypeId}{b:Nat}{m:List Int}{ops:Array Oper}{rest:List Oper}{o:Oper}{a:Act}{Q:Exit→Act→World→Prop}(hg:o.guard=none)(mo xo vo:Operand)(hop:o.op=Op.mapUpdate t mo xo vo)
  (ht:Tryz.prog.underlying t=some (.map 3 4)) (hm:a.eval mo= .map (some b)) (h:MapA w 3 b (fstM m)) (x:Int) (hx:a.eval xo= .int .i64 x) (hv:a.eval vo= .bool true) (hx1: -1000000000≤x∧x≤1000000000)
  (hK:∀w',MapA w' 3 b (fstM (addK m x))→K1 b w w'→wpList Tryz.prog ops Q rest (a.put o.dst undef) w'):wpList Tryz.prog ops Q (o::rest) a w:=by
 have hk:keyOf Tryz.prog 3 (.int .i64 x)=some (.int .i64 x):=keyOf_int_mk Tryz.underlying3 (by
  simp[Lit.wf,IntKind.min,IntKind.max,IntKind.signed,IntKind.bits];omega)
 by_cases hin:x∈m
 ·have hmem:(Value.int .i64 x,Value.bool true)∈fstM m:=List.mem_map.2 ⟨x,hin,rfl⟩;refine wpList_put1 hg mo xo vo hop (int_keyed Tryz.underlying3) ht hm h _ (.bool true) _ hx hv hk (.bool true) hmem ?_;intro w' j hj h1 h2;rw[set_same hj] at h1;exact hK w' (by unfold addK;rw[if_pos hin];exact h1) h2
 ·refine wpList_put0 hg mo xo vo hop (int_keyed Tryz.underlying3) ht hm h _ (.bool true) _ hx hv hk (fun p hp e=> ?_) ?_
  ·obtain⟨y,hy,rfl⟩:=List.mem_map.1 hp;injection e with _ e;subst e;exact hin hy
  ·intro w' h1 h2;exact hK w' (by unfold addK;rw[if_neg hin];unfold fstM at h1⊢;rw[List.map_append];exact h1) h2
theorem kinds_c{pd gl:Nat}{l:List DS}{L:List Bool}{w:World}(h:DfaAt w pd l)(hl:DL l)(hL:RowV w 4 gl (bV L))(hll:L.length=l.length):
  Calls Tryz.prog 220 #[ptr pd,.slice (some ⟨gl,0,none⟩) l.length l.length] w fun e w'=>∃gk:Nat,e= .returned (.slice (some ⟨gk,0,none⟩) l.length l.length)∧
   RowV w' 3 gk (iV (kindGo l L (l.length+1) (Yh l L) (dist (Yh l L)).length))∧(kindGo l L (l.length+1) (Yh l L) (dist (Yh l L)).length).length=l.length∧(∀x∈kindGo l L (l.length+1) (Yh l L) (dist (Yh l L)).length,0≤x∧x≤2000000)∧Kn w w':=by
 have HS:=Qh (DStates_c pd l w h);have HD:=Qh h;have HL:=Qh hl;have HLR:=Qh hL;have hlen:=hl.len;have hgl:=hL.lt;have hk0:=kind0_len l L;have HK0:=Qh (kind0_lt hl L);obtain⟨i0,hi,hz0,hz1,hz2⟩:=info_parts info_int;have HI:=Qh (And.intro hi (And.intro hz0 (And.intro hz1 hz2)));have hmm:= @run_makeMap Tryz.prog;have HDA:=Qh (fun n=>hl.dac_lt n);clear h hl hL hi hz0 hz1 hz2;go_enter Tryz.func220,Tryz.ntmps220;go_wp2_with fail
 refine HS.out.mono ?_;rintro e w' ⟨rfl,rfl⟩;go_wp2_with (first|(at_make;go_must (refine wpList_make_v _ rfl (.tmp 11) (.tmp 11) 28 rfl 3 i0 (.int .i64 0) Tryz.underlying28 HI.out.1 HI.out.2.1 HI.out.2.2.1 rfl l.length rfl rfl (by rw[HI.out.2.2.2];omega) (by simp only[maxLen];omega) ?_;intro w1 hrow1 hk1)))
 obtain⟨g0,hg0⟩:∃z,z=w'.heap.size:=⟨_,rfl⟩;obtain⟨bm,hbm⟩:∃z,z=w1.heap.size+1:=⟨_,rfl⟩;obtain⟨pr,hpr⟩:∃z,z=w1.heap.size:=⟨_,rfl⟩;rw[←hg0] at hrow1;obtain⟨W,hW⟩:∃z,z=(w1.alloc (.cells #[ptr pd,.slice (some ⟨gl,0,none⟩) l.length l.length,.slice (some ⟨g0,0,none⟩) l.length l.length,.int .i64 0] TRd)).alloc (.map #[] 0):=⟨_,rfl⟩;have hkW1:Kn w1 W:=by rw[hW];exact((Qb _ _).alloc _).alloc _
 have hkW:=hk1.trans hkW1;have hb1:W.heap[pr]? =some (.cells #[ptr pd,.slice (some ⟨gl,0,none⟩) l.length l.length,.slice (some ⟨g0,0,none⟩) l.length l.length,.int .i64 0] TRd (0,0)):=by rw[hW,hpr];exact Qq (Qf _ _) _
 have hm1:MapA W 3 bm (fstM []):=by
  have:=MapA.new (w1.alloc (.cells #[ptr pd,.slice (some ⟨gl,0,none⟩) l.length l.length,.slice (some ⟨g0,0,none⟩) l.length l.length,.int .i64 0] TRd)) 3;rw[size_alloc',←hbm] at this;rw[hW];exact this
 have n1:gl<g0:=by omega
 have n2:g0<pr:=by have:=hrow1.lt;omega
 have n3:pr<bm:=by omega
 have n0:w'.heap.size≤g0:=by omega
 rw[←hbm,←hpr,←hg0,←hW];have HRI:Hid (RdIn W pr pd gl g0 l L (kdK l L 0) 0):=Qh ⟨hb1,HD.out.kn hkW,HLR.out.kn hkW,by
  have:=hrow1.kn hkW1;simpa[kdK,hk0] using this,hll,kdK_len l L (Nat.zero_le _),fun x hx=>by
  simp[kdK] at hx;omega⟩
 have HM1:=Qh hm1;clear hW hb1 hm1 hrow1 hk1 hkW1 hg0 hbm hpr;go_loopw [21] (fun i wr=>∃n:Nat,n≤l.length∧i= .int .i64 n∧Hid (RdIn wr pr pd gl g0 l L (kdK l L n) 0)∧Hid (MapA wr 3 bm (fstM (dist ((Yh l L).take n))))∧Kn w' wr) (fun i _=>l.length-(intOf i).toNat)
 case atStart=>exact⟨0,Nat.zero_le _,rfl,HRI,HM1,hkW⟩
 case round=>
  clear HRI HM1 hkW;obtain⟨n,hn,rfl,hri,hmp,hkn⟩:=hrel;obtain⟨c0,c1,c2,c3⟩:=hri.out.cells;by_cases hlt:n<l.length
  ·have hnk:n<(Yh l L).length:=by omega
   have hcl:=hri.out.lv.bcell (i:=n) (by omega);obtain⟨y,hy⟩:∃y,y=(Yh l L)[n]:=⟨_,rfl⟩;have hyb:=HK0.out _ (List.getElem_mem hnk);have hyk:=kind0_get l L n hnk;have HDS:=Qh (dist_succ (Yh l L) hnk);have HKS:=Qh (kdK_set l L hlt hnk);rw[←hy] at hyb hyk HDS HKS;have HYE:=Qh hy.symm;clear hy;have hda:=HDA.out n;obtain⟨z,hz⟩:∃z,z=dac l n:=⟨_,rfl⟩;have HAC:=Qh (DAccept_c pd n l);rw[←hz] at hda hyk HAC;clear hz;obtain⟨hda1,hda2⟩:=hda;have HYB:=Qh hyb;clear hyb;have HKL:=Qh (kdK_len l L hn);obtain⟨bv,hbv⟩:∃bv,bv=L.getD n false:=⟨_,rfl⟩;rw[←hbv] at hcl hyk;clear hbv;cases bv with
   |false=>
    have hy0:y=0:=by simpa using hyk
    have e:kdK l L n=kdK l L (n+1):=by
     have:=HKS.out;rw[hy0,set_same (kdK_at l L hlt)] at this;exact this
    rw[e] at hri;clear e hyk hy0;have hmp2:=hmp;have hx8:=hri.out.kd.icell (i:=n) (by rw[kdK_len l L (by omega)];exact hlt);have hx9:=hri.out.cells.2.2.1;have hkv:=kdK_v l L hlt hnk;rw[HYE.out] at hkv;rw[hkv] at hx8;clear hkv;go_wp2_with (at_mapUpdate;refine wpList_putb rfl (.tmp 38) (.tmp 45) (.const (.bool true)) rfl Tryz.underlying103 rfl hmp2.out y rfl rfl (by have:=HYB.out;omega) ?_;intro w5 hm5 hk5)
    have HM5:=Qh hm5;rw[←HDS.out] at HM5;have hkn5:=hkn.trans' hk5 (fun i hi e=>by omega);have HRI5:=Qh (hri.out.move hk5 (HD.out.kn hkn5) (by omega) (by omega) (by omega));clear hm5 hk5;go_roundw
    case rel=>exact⟨n+1,by omega,by go_num,HRI5,HM5,hkn5⟩
    case measure=>simp[intOf];omega
   |true=>
    have hyz:y=z+2:=by simpa using hyk
    subst hyz;clear hyk;have hwr:IntKind.i64.wrap (z+2)=z+2:=by
     unfold IntKind.wrap;simp[IntKind.signed,IntKind.bits];omega
    go_upto_region 7 with fail
    refine wp_region_held_drew (S:=fun w'=>w'.cell? ⟨pr,2,none⟩=some (.slice (some ⟨g0,0,none⟩) l.length l.length)) (by kernel_rfl) (Qc ((Qb _ _).drew) c2) (fun hHeld=> ?_);obtain⟨wd,hwd⟩:∃z,z=wr.drew:=⟨_,rfl⟩;have hkd:Kn wr wd:=by rw[hwd];exact(Qb _ _).drew
    have hknd:=hkn.trans hkd;have HDD:=Qh (HD.out.kn hknd);have HRD:=Qh (hri.out.kn hkd);have HMD:=Qh (hmp.out.kn hkd);rw[←hwd] at hHeld⊢;clear hwd c0 c1 c2 c3 hcl hkd;refine TW 0 28 ?_;refine TW 1 29 ?_;refine TW 2 30 ?_;refine TH 3 31 ?_;refine TW 4 32 ?_;refine TW 5 33 ?_;refine TW 6 34 ?_;refine RH 7 (fun K hK=> ?_);go_simp
    go_at_call 222
    refine(HAC.out wd HDD.out hlt).mono ?_;rintro e u1 ⟨rfl,rfl⟩;dsimp only;refine hK.out _ _ hHeld (fun hHeld=> ?_);clear hK K
    try simp only[PP]
    refine TW 8 36 ?_;refine TW 9 37 ?_;refine RH 10 (fun K hK=> ?_);have hs1:=HRD.out.kd.icell (i:=n) (by have:=HKL.out;omega);have hs2:=HRD.out.kd.fr n;go_simp;obtain⟨u2,hu2⟩:∃zz,zz=u1.setCell ⟨g0,n,none⟩ (.int .i64 (z+2)):=⟨_,rfl⟩;have hk2:K1 g0 u1 u2:=by rw[hu2];exact Qg _ _
    have hkn2:=hknd.trans' hk2 (fun i hi e=>by omega);have hR2:=HRD.out.kset n (z+2) HYB.out (by rw[←hu2];exact HD.out.kn hkn2) (by omega) (by omega);rw[←hu2] at hR2⊢;have HR2:=Qh hR2;have HM2:=Qh (HMD.out.kp hk2 (by omega));refine hK.out _ _ HR2.out.cells.2.2.1 (fun hHeld=> ?_);clear hK K hs1 hs2 hu2 hR2
    try simp only[PP]
    refine RD ?_;have hri:=HR2;rw[HKS.out] at hri;have hmp2:=HM2;have hx8:=hri.out.kd.icell (i:=n) (by rw[kdK_len l L (by omega)];exact hlt);have hx9:=hri.out.cells.2.2.1;have hkv:=kdK_v l L hlt hnk;rw[HYE.out] at hkv;rw[hkv] at hx8;clear hkv;go_wp2_with (at_mapUpdate;refine wpList_putb rfl (.tmp 38) (.tmp 45) (.const (.bool true)) rfl Tryz.underlying103 rfl hmp2.out (z+2) rfl rfl (by have:=HYB.out;omega) ?_;intro w5 hm5 hk5)
    have HM5:=Qh hm5;rw[←HDS.out] at HM5;have hkn5:=hkn2.trans' hk5 (fun i hi e=>by omega);have HRI5:=Qh (hri.out.move hk5 (HD.out.kn hkn5) (by omega) (by omega) (by omega));clear hm5 hk5;go_roundw
    case rel=>exact⟨n+1,by omega,by go_num,HRI5,HM5,hkn5⟩
    case measure=>simp[intOf];omega
  ·obtain rfl:n=l.length:=by omega
   have hr1:=hri.out;have hm1:=hmp.out;rw[kdK_full] at hr1;rw[List.take_of_length_le (by omega)] at hm1;have hln:=hm1.len Tryz.underlying103 3;rw[fstM_len] at hln;have hf3:=Qd hr1.blk 3;have hdl:=dist_len (Yh l L) l.length (by omega);rw[List.take_of_length_le (by omega)] at hdl;obtain⟨m,hm⟩:∃m,m=(dist (Yh l L)).length:=⟨_,rfl⟩;have HRES:=Qh hm;rw[←hm] at hln hdl;have HR1:=Qh hr1;clear hri hmp hr1 hm1 hm;go_wp2_with fail
   obtain⟨w3,hw3⟩:∃zz,zz=wr.setCell ⟨pr,3,none⟩ (.int .i64 (m:Nat)):=⟨_,rfl⟩;have hk3:K1 pr wr w3:=by rw[hw3];exact Qg _ _
   have hkn3:=hkn.trans' hk3 (fun i hi e=>by omega);have hR3:=HR1.out.cset (m:Nat) (by rw[←hw3];exact HD.out.kn hkn3);rw[←hw3] at hR3⊢;have HR3:=Qh hR3;clear hw3 hR3 hk3 c0 c1 c2 c3 hln hf3;go_loopg [] (l.length+1) (fun f wr=>∃(K:List Int) (c gk:Nat),Hid (RdIn wr pr pd gl gk l L K (c:Nat))∧c≤l.length∧l.length-c<f∧Hid (kindGo l L f K c=kindGo l L (l.length+1) (Yh l L) m)∧Kn w' wr)
   case atStart=>exact⟨_,m,g0,HR3,hdl,by omega,Qh rfl,hkn3⟩
   case round=>
    obtain⟨K,c,gK,hrd,hcl,hcf,hgo,hkr⟩:=hrel;have hag:=agK_len l L K l.length;have HAG:=Qh (again_c hrd.out HL.out (by omega));obtain⟨f,rfl⟩:∃f,gk=f+1:=⟨gk-1,by omega⟩;have hgo2:=hgo.out;rw[kindGo] at hgo2;have HGO:=Qh hgo2;have hag1:=hag.1;have hag2:=hag.2.1;clear hgo hgo2 hag;obtain⟨r,hr⟩:∃r,r=agK l L K l.length:=⟨_,rfl⟩;rw[←hr] at HGO hag1 hag2;have HAR:=Qh hr;clear hr;by_cases hcm:c<r.1.length
    ·have hd2:decide ((c:Int)<(r.1.length:Nat))=true:=by rw[decide_eq_true_eq];omega
     go_wp2_with fail
     refine HAG.out.mono ?_;rintro e w5 ⟨rfl,hk5,gk5,hr5⟩;rw[←HAR.out] at hr5⊢;rw[hd2];have HR5:=Qh hr5;have hkr5:=hkr.trans' hk5 (fun i hi e=>by omega);clear hr5;go_wp2_with fail
     go_roundg f
     case measure=>omega
     case rel=>exact⟨r.2,r.1.length,gk5,HR5,hag2,by omega,Qh (by have:=HGO.out;rw[if_pos hcm] at this;exact this),hkr5⟩
    ·have hd2:decide ((c:Int)<(r.1.length:Nat))=false:=by rw[decide_eq_false_iff_not];omega
     go_wp2_with fail
     refine HAG.out.mono ?_;rintro e w5 ⟨rfl,hk5,gk5,hr5⟩;rw[←HAR.out] at hr5⊢;rw[hd2];have HR5:=Qh hr5;have hx2:=hr5.cells.2.2.1;have hkr5:=hkr.trans' hk5 (fun i hi e=>by omega);clear hr5;go_wp2_with fail
     go_ret;have e:=HGO.out;rw[if_neg hcm] at e;refine⟨gk5,rfl,?_,?_,?_,hkr5⟩
     ·rw[←HRES.out,←e];exact HR5.out.kd
     ·rw[←HRES.out,←e];exact HR5.out.kl
     ·rw[←HRES.out,←e];exact HR5.out.kb
end Go.Proofs.YtiehgcfckhepaaaGreatDoor
