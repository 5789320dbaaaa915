/-
  Texts of this claim, laid together: URound, KMark, UNew, UVoid, GParse, GEval, TEval, UEval, TAwake, UAwake. Conditions: none.
-/
import Derived.Test.YtiehgcfckhepaaaGreatDoorQAK
import Derived.Test.YtiehgcfckhepaaaGreatDoorQAA
import Derived.Test.YtiehgcfckhepaaaGreatDoorQAJ
set_option linter.unusedVariables false
set_option linter.unusedSimpArgs false
set_option maxRecDepth 100000
set_option maxHeartbeats 16000000
namespace Go.Proofs.YtiehgcfckhepaaaGreatDoor
open Go.RowKit Go.Maps
theorem PrAt.prod{w:World}{B:Nat}{v:Value}{l:List PR}{vs:List Value}(h:PrAt w B v l vs):∃a c,v= .slice a l.length c∧(l≠[]→∃g,a=some ⟨g,0,none⟩∧
  ∀k (hk:k<l.length),w.cell? ⟨g,k*3,none⟩=some (.int .i64 (l[k].place:Nat))∧w.cell? ⟨g,k*3+1,none⟩=some (.int .i64 (l[k].rule:Nat))∧∃asy cs,w.cell? ⟨g,k*3+2,none⟩=some (.slice asy l[k].syms.length cs)∧l[k].syms.length≤cs∧cs≤maxLen∧
   (l[k].syms≠[]→∃gs,asy=some ⟨gs,0,none⟩∧SyR w gs 0 l[k].syms∧∃cur,w.heap[gs]? =some (.cells cur TSy (0,0)))):=by
 obtain⟨a,c,hv,_,_,hg⟩:=h.row.row (fun C hC=>by obtain⟨i,hi,rfl⟩:=List.getElem_of_mem hC;simp[prL]);have hlen:=h.len;rw[List.length_zipWith,hlen,Nat.min_self] at hv;refine⟨a,c,hv,fun hne=> ?_⟩;obtain⟨g,ha,_,_,hc⟩:=hg (fun e=>hne (by have h2:=congrArg List.length e;rw[List.length_zipWith,hlen,Nat.min_self] at h2;exact List.eq_nil_of_length_eq_zero h2));refine⟨g,ha,fun k hk=> ?_⟩;have hc3:=hc k (by rw[List.length_zipWith,hlen,Nat.min_self];exact hk);have e0:=(hc3 0 (by omega)).1;have e1:=(hc3 1 (by omega)).1;have e2:=(hc3 2 (by omega)).1;rw[show 0+3*k+0=k*3 by omega] at e0;rw[show 0+3*k+1=k*3+1 by omega] at e1;rw[show 0+3*k+2=k*3+2 by omega] at e2;obtain⟨asy,cs,hvs,h1,h2,h3⟩:=SyS.of (h.syms k (by omega) hk);refine⟨by rw[e0];simp[prL],by rw[e1];simp[prL],asy,cs,by rw[e2];simp[prL,hvs],h1,h2,h3⟩
theorem zV_set'(z:List Int)(i:Nat)(x:Int)(h:i<(zV z).length):(zV z).set i ((zV z)[i].set 0 (.int .i64 x))=zV (z.set i x):=by
 rw[←zV_set];congr 1;simp[zV]
section
variable {w w':World} {B p st n gz gb cz cb:Nat} {l:List PR} {vl:Value} {vls:List Value} {z b:List Int}
theorem UsAt.setZ(h:UsAt w B p st n l vl vls z b gz gb cz cb){i:Nat}(hi:i<n)(x:Int):UsAt (w.setCell ⟨gz,i,none⟩ (.int .i64 x)) B p st n l vl vls (z.set i x) b gz gb cz cb:=by
 have hk:K1 gz w (w.setCell ⟨gz,i,none⟩ (.int .i64 x)):=Qg _ _;obtain⟨cur,hgb⟩:=OwnK.blkT h.rz (g:=gz) rfl;have hset:=OwnK.set h.rz (zV_one z) (g:=gz) rfl i 0 (by rw[zV_len,h.zl];exact hi) (by omega) (.int .i64 x);rw[zV_set',show 0+1*i+0=i by omega] at hset;exact⟨hk.blk h.blk (fun e=>by subst e;exact Qn hgb h.blk (by decide)),h.pr.off hk (Qv (QO hgb) (by decide)) (Qv (QO hgb) (by decide)),hset,h.rb.kp hk (fun g hg e=>h.ne (e.symm.trans (Option.some.inj hg).symm)),by simp[h.zl],h.bl,h.ne,h.pB⟩
theorem UsAt.setB(h:UsAt w B p st n l vl vls z b gz gb cz cb){i:Nat}(hi:i<n)(x:Int):UsAt (w.setCell ⟨gb,i,none⟩ (.int .i64 x)) B p st n l vl vls z (b.set i x) gz gb cz cb:=by
 have hk:K1 gb w (w.setCell ⟨gb,i,none⟩ (.int .i64 x)):=Qg _ _;obtain⟨cur,hgb⟩:=OwnK.blkT h.rb (g:=gb) rfl;have hset:=OwnK.set h.rb (zV_one b) (g:=gb) rfl i 0 (by rw[zV_len,h.bl];exact hi) (by omega) (.int .i64 x);rw[zV_set',show 0+1*i+0=i by omega] at hset;exact⟨hk.blk h.blk (fun e=>by subst e;exact Qn hgb h.blk (by decide)),h.pr.off hk (Qv (QO hgb) (by decide)) (Qv (QO hgb) (by decide)),h.rz.kp hk (fun g hg e=>h.ne ((Option.some.inj hg).trans e)),hset,h.zl,by simp[h.bl],h.ne,h.pB⟩
end
structure LUk (n:Nat) (l:List PR):Prop where
 nn:n≤1000000
 ll:l.length≤60000
 pp:∀q∈l,q.place<n∧q.syms.length≤1000000∧∀y∈q.syms,y.place=true→0≤y.n∧y.n<n
abbrev ZSt(gz gb:Nat):World→World→Prop:=Kp (fun k=>k=gz∨k=gb)
theorem round_c{w:World}{B p st n gz gb cz cb:Nat}{l:List PR}{vl:Value}{vls:List Value}{z b:List Int}(h:UsAt w B p st n l vl vls z b gz gb cz cb)(ok:UOk n ⟨z,b,false⟩)(lk:LUk n l):
  Calls Tryz.prog 52 #[ptr p] w fun e w'=>e= .returned (.bool (rndF l (z,b)).2)∧UsAt w' B p st n l vl vls (rndF l (z,b)).1.1 (rndF l (z,b)).1.2 gz gb cz cb∧ZSt gz gb w w':=by
 have hpl:=h.lt;have H:=Qh h;have HOK:=Qh ok;have HLK:=Qh lk;obtain⟨al,cl,hvl,hg⟩:=h.pr.prod;have q2:w.cell? ⟨p,1,none⟩=some vl:=h.cell 1;rw[hvl] at q2;have HVL:=Qh hvl;have hll:=lk.ll;have hnl:=lk.nn;clear h ok lk hg hvl;go_enter Tryz.func52,Tryz.ntmps52;go_wp2_with fail
 go_loopw [3,13] (fun s3 s13 wr=>∃(k:Nat) (s:US),s3= .bool s.more∧s13= .int .i64 k∧k≤l.length∧Hid (s=UK l ⟨z,b,false⟩ k)∧Hid (UsAt wr B p st n l vl vls s.z s.b gz gb cz cb)∧ZSt gz gb w wr) (fun _ s13 _=>l.length-(intOf s13).toNat)
 case atStart=>exact⟨0,⟨z,b,false⟩,rfl,rfl,Nat.zero_le _,Qh rfl,H,Qb _ _⟩
 case round=>
  obtain⟨k,s,rfl,rfl,hk,hsk,hst,hkp⟩:=hrel;by_cases hlt:k<l.length
  ·obtain⟨ar,cr,hv2,hgr⟩:=hst.out.pr.prod;obtain⟨rfl,rfl⟩:ar=al∧cr=cl:=by
    have h9:=hv2.symm.trans HVL.out;injection h9 with e1 e2 e3;exact⟨e1,e3⟩
   obtain⟨g,rfl,hcs⟩:=hgr (fun e=>by rw[e] at hlt;simp at hlt);obtain⟨c0,c1,asy,cs,c2,hcs1,hcs2,hsy⟩:=hcs k hlt;obtain⟨hpp,hps,hpy⟩:=HLK.out.pp _ (List.getElem_mem hlt);have HST:=Qh (UK_succ ⟨z,b,false⟩ hlt);have HSO:=Qh (UK_ok (l:=l) HOK.out k);rw[←hsk.out] at HSO;obtain⟨pr,hpre⟩:∃z,z=l[k]:=⟨_,rfl⟩;rw[←hpre] at c0 c1 c2 hcs1 hsy hpp hps hpy HST;rw[←hsk.out] at HST;have hgl3:=World.block_lt_of_cell? wr _ c0;obtain⟨w2,hw2⟩:∃z,z=wr.alloc (.cells #[.int .i64 (pr.place:Nat),.int .i64 (pr.rule:Nat),.slice asy pr.syms.length cs] TPr):=⟨_,rfl⟩;have hk2:Kn wr w2:=by rw[hw2];exact(Qb _ _).alloc _
   obtain⟨b5,hb5⟩:∃z,z=wr.heap.size:=⟨_,rfl⟩;have hB5:w2.heap[b5]? =some (.cells #[.int .i64 (pr.place:Nat),.int .i64 (pr.rule:Nat),.slice asy pr.syms.length cs] TPr (0,0)):=by rw[hw2,hb5];exact Qf _ _
   have y0:w2.cell? ⟨b5,0,none⟩=some (.int .i64 (pr.place:Nat)):=by rw[Qa hB5];try rfl
   have y1:w2.cell? ⟨b5,1,none⟩=some (.int .i64 (pr.rule:Nat)):=by rw[Qa hB5];try rfl
   have y2:w2.cell? ⟨b5,2,none⟩=some (.slice asy pr.syms.length cs):=by rw[Qa hB5];try rfl
   have HS2:=Qh (hst.out.kn hk2);have hkp2:=hkp.trans (Kp.weak hk2);have HSZ:=Qh (fun(w3:World) (hk3:Kn w2 w3)=>size_c (c:=cs) (a:=asy) (.int .i64 (pr.place:Nat)) (.int .i64 (pr.rule:Nat)) (HS2.out.kn hk3) HSO.out.z hnl pr.syms (fun hne=>by obtain⟨gs,hgs,hr,_⟩:=hsy hne;exact⟨gs,0,hgs,fun i hi=>⟨Qc (hk2.trans hk3) (hr i hi).1,Qc (hk2.trans hk3) (hr i hi).2⟩⟩) hps hpy rfl rfl);obtain⟨m,hm⟩:∃m,m=YC s.z pr.syms 0:=⟨_,rfl⟩;obtain⟨o,ho⟩:∃o,o=s.z.getD pr.place 0:=⟨_,rfl⟩;have HSU:Hid (stepU k pr s=if m≠-1∧(o= -1∨m<o) then⟨s.z.set pr.place m,s.b.set pr.place k,true⟩ else s):=Qh (by rw[hm,ho];try rfl);have u2:w2.cell? ⟨p,2,none⟩=some (.slice (some ⟨gz,0,none⟩) n cz):=HS2.out.cell 2;have u3:=(zV_cell HS2.out.rz (i:=pr.place) (by rw[HSO.out.zl];exact hpp)).1;rw[←hm] at HSZ;rw[←ho] at u3;have HW2:=Qh (And.intro hw2 hb5);have HPB:Hid (b5≠gz∧b5≠gb):=Qh (by
    obtain⟨_,h1⟩:=OwnK.blkT hst.out.rz (g:=gz) rfl;obtain⟨_,h2⟩:=OwnK.blkT hst.out.rb (g:=gb) rfl;have h1:=Ql h1;have h2:=Ql h2;omega)
   have HB5:=Qh hB5;have hsm:=sizeF_ok HSO.out.z pr.syms 0 (by omega) (by simp[M6]);rw[←hm] at hsm;have hoo:=HSO.out.z.get pr.place;rw[←ho] at hoo;obtain⟨hsm0,hsm1⟩:=hsm;obtain⟨hoo0,hoo1⟩:=hoo;clear hw2 hb5 hB5 hk2 hpre hm ho hcs hgr hsy hpy hst hkp;go_upto_region 5 with fail
   rw[←HW2.out.1,←HW2.out.2];clear c0 c1 c2 HW2 hgl3 q2 hv2;refine rgn (fun w'=>w'.cell? ⟨b5,0,none⟩=some (.int .i64 (pr.place:Nat))∧w'.cell? ⟨b5,1,none⟩=some (.int .i64 (pr.rule:Nat))∧w'.cell? ⟨b5,2,none⟩=some (.slice asy pr.syms.length cs)∧w'.cell? ⟨p,2,none⟩=some (.slice (some ⟨gz,0,none⟩) n cz)∧w'.cell? ⟨gz,pr.place,none⟩=some (.int .i64 o)) (X:=[]) ⟨Qc ((Qb _ _).drew) y0,Qc ((Qb _ _).drew) y1,Qc ((Qb _ _).drew) y2,Qc ((Qb _ _).drew) u2,Qc ((Qb _ _).drew) u3⟩ (fun hX hHeld=> ?_);refine tw 0 18 ?_;refine tk 1 19 ?_;refine tw 3 21 ?_;refine tw 4 22 ?_;refine tw 5 23 ?_;refine tk 6 24 ?_;refine tw 7 25 ?_;refine tk 8 26 ?_;refine tw 9 27 ?_;refine tk 10 28 ?_;refine ro 2 (fun K hK=> ?_);go_simp
   go_at_call 54
   refine(HSZ.out _ ((Qb _ _).drew)).mono ?_;rintro e w3 ⟨rfl,hk3⟩;have HK3:Hid (Kn w2 w3):=Qh (((Qb _ _).drew).trans hk3);refine hK.out _ _ (⟨Qc hk3 hHeld.1,Qc hk3 hHeld.2.1,Qc hk3 hHeld.2.2.1,Qc hk3 hHeld.2.2.2.1,Qc hk3 hHeld.2.2.2.2⟩) (fun hHeld=> ?_);clear hk3;clear hK K
   try simp only[PP]
   refine ro 11 (fun K hK=> ?_);go_simp;refine hK.out _ _ hHeld (fun hHeld=> ?_);clear hK K
   try simp only[PP]
   refine re 12 (fun K hK=> ?_);go_simp;clear hHeld;refine hK.out _ _ ?_;clear hK K
   replace HS2:=Qh (HS2.out.kn HK3.out)
   replace hkp2:=hkp2.trans (Kp.weak HK3.out)
   replace HB5:=Qh (HK3.out.blk HB5.out (fun x=>x))
   clear HK3 HSZ y0 y1 y2 u2 u3;obtain⟨cd,hcd⟩:∃cd,cd=decide (m≠-1∧(o= -1∨m<o)):=⟨_,rfl⟩;have HSV:Hid (stepU k pr s=if cd=true then⟨s.z.set pr.place m,s.b.set pr.place k,true⟩ else s):=Qh (by rw[HSU.out,hcd];simp only[decide_eq_true_eq]);have HCD:=Qh hcd;clear HSU hcd;go_upto_region 6 with fail
   go_cut [39] (fun s39 wc=>s39= .bool cd∧wc=w3)
   case first=>
    by_cases hm:m= -1
    ·have hcd:cd=false:=by rw[HCD.out,decide_eq_false (fun h=>h.1 hm)]
     subst hm;go_wp2_with fail
     go_meet
     case rel=>exact⟨by rw[hcd],rfl⟩
    ·by_cases ho:o= -1
     ·have hcd:cd=true:=by rw[HCD.out,decide_eq_true ⟨hm,.inl ho⟩]
      subst ho;go_wp2_with fail
      go_meet
      case rel=>exact⟨by rw[hcd];simp[hm],rfl⟩
     ·by_cases hlo:m<o
      ·have hcd:cd=true:=by rw[HCD.out,decide_eq_true ⟨hm,.inr hlo⟩]
       go_wp2_with fail
       go_meet
       case rel=>exact⟨by rw[hcd];simp[hm],rfl⟩
      ·have hcd:cd=false:=by rw[HCD.out,decide_eq_false (fun h=>h.2.elim ho hlo)]
       go_wp2_with fail
       go_meet
       case rel=>exact⟨by rw[hcd];simp[hm,ho],rfl⟩
   case rest=>
    obtain⟨rfl,rfl⟩:=hcut;cases cd with
    |false=>
     go_wp2_with fail
     go_roundw
     case rel=>exact⟨k+1,s,rfl,by go_num,by omega,Qh (by rw[HST.out,HSV.out];try rfl),HS2,hkp2⟩
     case measure=>simp[intOf];omega
    |true=>
     have v0:wc.cell? ⟨b5,0,none⟩=some (.int .i64 (pr.place:Nat)):=by rw[Qa HB5.out];try rfl
     have v2:wc.cell? ⟨p,2,none⟩=some (.slice (some ⟨gz,0,none⟩) n cz):=HS2.out.cell 2;have v3:wc.cell? ⟨p,3,none⟩=some (.slice (some ⟨gb,0,none⟩) n cb):=HS2.out.cell 3;have f2:=(zV_cell HS2.out.rz (i:=pr.place) (by rw[HSO.out.zl];exact hpp)).2;have f3:=(zV_cell HS2.out.rb (i:=pr.place) (by rw[HSO.out.bl];exact hpp)).2;have e2:=(zV_cell HS2.out.rz (i:=pr.place) (by rw[HSO.out.zl];exact hpp)).1;have e3:=(zV_cell HS2.out.rb (i:=pr.place) (by rw[HSO.out.bl];exact hpp)).1;have HS3:=Qh (((HS2.out.kn (w':=wc.drew) (Qb _ _).drew).setZ hpp m).setB hpp k);have HKP3:Hid (ZSt gz gb w ((wc.drew.setCell ⟨gz,pr.place,none⟩ (.int .i64 m)).setCell ⟨gb,pr.place,none⟩ (.int .i64 (k:Nat)))):=Qh (((hkp2.drew).trans ((Qg _ _).mono (fun i hi e=>Or.inl e))).trans ((Qg _ _).mono (fun i hi e=>Or.inr e)));have HGG:Hid (p≠gz∧b5≠gz∧gb≠gz∧p≠gb):=Qh ⟨fun e=>by
      obtain⟨_,h1⟩:=OwnK.blkT HS2.out.rz (g:=gz) rfl;have h2:=HS2.out.blk;subst e;exact Qn h1 h2 (by decide),HPB.out.1,fun e=>HS2.out.ne e.symm,fun e=>by
      obtain⟨_,h1⟩:=OwnK.blkT HS2.out.rb (g:=gb) rfl;have h2:=HS2.out.blk;subst e;exact Qn h1 h2 (by decide)⟩
     go_wp2_with fail
     refine rgn (fun w'=>w'.cell? ⟨b5,0,none⟩=some (.int .i64 (pr.place:Nat))∧w'.cell? ⟨p,2,none⟩=some (.slice (some ⟨gz,0,none⟩) n cz)∧w'.cell? ⟨p,3,none⟩=some (.slice (some ⟨gb,0,none⟩) n cb)∧w'.frozen? ⟨gb,pr.place,none⟩=false) (X:=[]) ⟨Qc ((Qb _ _).drew) v0,Qc ((Qb _ _).drew) v2,Qc ((Qb _ _).drew) v3,f3⟩ (fun hX hHeld=> ?_);refine tw 0 40 ?_;refine tw 1 41 ?_;refine tw 2 42 ?_;refine tk 3 43 ?_;refine tw 4 44 ?_;refine tk 5 45 ?_;refine tw 6 46 ?_;refine tw 7 47 ?_;refine tw 8 48 ?_;refine tk 9 49 ?_;refine tw 10 50 ?_;refine tk 11 51 ?_;refine tw 12 52 ?_;refine tw 13 53 ?_;refine tw 14 54 ?_;refine ro 15 (fun K hK=> ?_);go_simp;have hk9:K1 gz wc.drew (wc.drew.setCell ⟨gz,pr.place,none⟩ (.int .i64 m)):=Qg _ _;have f4:=(zV_cell ((HS2.out.kn (w':=wc.drew) (Qb _ _).drew).setZ hpp m).rb (i:=pr.place) (by rw[HSO.out.bl];exact hpp)).2;refine hK.out _ _ (⟨Qi hk9 hHeld.1 HGG.out.2.1,Qi hk9 hHeld.2.1 HGG.out.1,Qi hk9 hHeld.2.2.1 HGG.out.1,f4⟩) (fun hHeld=> ?_);clear f4;have f4:(wc.setCell ⟨gz,pr.place,none⟩ (.int .i64 m)).drew.frozen? ⟨gb,pr.place,none⟩=false:=hHeld.2.2.2;have e4:(wc.setCell ⟨gz,pr.place,none⟩ (.int .i64 m)).drew.cell? ⟨gb,pr.place,none⟩=some (.int .i64 (s.b.getD pr.place 0)):=Qi hk9 (Qc ((Qb _ _).drew) e3) HGG.out.2.2.1;clear hk9;clear hK K
     try simp only[PP]
     refine tw 16 55 ?_;refine ro 17 (fun K hK=> ?_);go_simp;have hk9:K1 gb (wc.drew.setCell ⟨gz,pr.place,none⟩ (.int .i64 m)) ((wc.drew.setCell ⟨gz,pr.place,none⟩ (.int .i64 m)).setCell ⟨gb,pr.place,none⟩ (.int .i64 (k:Nat))):=Qg _ _;have f5:=(zV_cell HS3.out.rb (i:=pr.place) (by rw[HS3.out.bl];exact hpp)).2;refine hK.out _ _ (⟨Qi hk9 hHeld.1 HPB.out.2,Qi hk9 hHeld.2.1 HGG.out.2.2.2,Qi hk9 hHeld.2.2.1 HGG.out.2.2.2,f5⟩) (fun hHeld=> ?_);clear f4 f5 e4 hk9;clear hK K
     try simp only[PP]
     refine re 18 (fun K hK=> ?_);go_simp;clear hHeld;refine hK.out _ _ ?_;clear hK K;go_wp2_with fail
     go_roundw
     case rel=>exact⟨k+1,⟨s.z.set pr.place m,s.b.set pr.place k,true⟩,rfl,by go_num,by omega,Qh (by rw[HST.out,HSV.out];try rfl),HS3,HKP3.out⟩
     case measure=>simp[intOf];omega
  ·obtain rfl:k=l.length:=by omega
   go_wp2_with fail
   go_ret;have e:=hsk.out;exact⟨by rw[e];try rfl,by have:=hst.out;rw[e] at this;exact this,hkp⟩
end Go.Proofs.YtiehgcfckhepaaaGreatDoor
namespace Go.Proofs.YtiehgcfckhepaaaGreatDoor
open Go.RowKit
section
variable {P:Program} {ops:Array Oper} {Q:Exit→Act→World→Prop} {md:Region.Mode} {S:World→Prop} {X:List Nat} {m:Nat}
def sinkM(m:Nat)(md:Region.Mode)(ops:Array Oper)(X:List Nat):Bool:=
 (List.range m).all fun k=>X.contains k||(List.range (m+1)).any fun j=>decide (k<j)&& !X.contains j&&waits md ops j k
theorem sinkM_all{l:Array Bool}(hX:sinkM m md ops X=true)(hc:Closed md ops l)(hz:∀k,waits md ops (m) k=true→l.getD k false=true):∀n k,m-k≤n→k<m→k∉X→l.getD k false=true:=by
 intro n;induction n with
 |zero=>intro k h1 h2;omega
 |succ n ih=>
  intro k h1 h2 h3;have hk:=List.all_eq_true.1 hX k (List.mem_range.2 h2);simp only[Bool.or_eq_true,List.contains_eq_mem,decide_eq_true_eq,h3,false_or,List.any_eq_true,List.mem_range,Bool.and_eq_true,Bool.not_eq_true',decide_eq_false_iff_not] at hk;obtain⟨j,hj,⟨hkj,hjX⟩,hw⟩:=hk;rcases Decidable.em (j=m) with rfl|e
  ·exact hz k hw
  ·exact hc j k hw (ih j (by omega) (by omega) hjX)
def WM(m:Nat)(P:Program)(md:Region.Mode)(ops:Array Oper)(Q:Exit→Act→World→Prop)(S:World→Prop):Nat→Array Bool→Act→World→Prop
 |0,l,a,w=>Region.ready md ops l=[]∧Q .normal a w
 |f+1,l,a,w=>(Region.ready md ops l=[]→Q .normal a w)∧
  ∀i∈Region.ready md ops l,wpOp P ops Q i (fun a' w'=>((l.setIfInBounds i true).getD (m) false=false→S w')∧WM m P md ops Q S f (l.setIfInBounds i true) a' w') a w
theorem WM.any:∀(f:Nat) (l:Array Bool) (a:Act) (w:World),WM m P md ops Q S f l a w→wpAny P md ops Q f l a w
 |0,_,_,_,h=>h
 |f+1,_,_,_,h=>⟨h.1,fun i hi=>wpOp_mono (fun a' w' h'=>WM.any f _ a' w' h'.2) (h.2 i hi)⟩
theorem WM.first{T:World→Prop}{i:Nat}{o:Oper}{v:Value}(hi:ops[i]? =some o)(hil:i≠m)(hsel:Region.noSelect ops=true)(hQ:∀c a w,Q (.panic c) (a.put o.dst v) w→Q (.panic c) a w)
  (hT:∀l j w,Closed md ops l→i∈Region.ready md ops l→j∈Region.ready md ops l→j≠i→(((l.setIfInBounds j true).setIfInBounds i true).getD (m) false=false→S w)→T w):∀(f:Nat) (l:Array Bool) (a:Act) (w:World),Closed md ops l→
  (∀j oj,ops[j]? =some oj→j≠i→l.getD j true=false→(∀e∈oj.after,Region.binds md e=true→e.on≠i)→o.apart ops oj=true)→
  i∈Region.ready md ops l→YieldsIf P ops T o v a→T w→((l.setIfInBounds i true).getD (m) false=false→S w)→WM m P md ops Q S f (l.setIfInBounds i true) (a.put o.dst v) w→WM m P md ops Q S (f+1) l a w:=by
 intro f;induction f with
 |zero=>
  intro l a w _ _ hr hy ht hS H;refine⟨fun h=>absurd hr (by rw[h];exact List.not_mem_nil),fun j hj=> ?_⟩;rcases Decidable.em (j=i) with rfl|hne
  ·exact hy.wpOp hi ht ⟨hS,H⟩
  ·exact absurd (ready_mono hj hne) (by rw[H.1];exact List.not_mem_nil)
 |succ f ih=>
  intro l a w hc hfree hr hy ht hS H;refine⟨fun h=>absurd hr (by rw[h];exact List.not_mem_nil),fun j hj=> ?_⟩;rcases Decidable.em (j=i) with rfl|hne
  ·exact hy.wpOp hi ht ⟨hS,H⟩
  obtain⟨hju,oj,hoj,hall⟩:=mem_ready.1 hj;have hno:∀e∈oj.after,Region.binds md e=true→e.on≠i:=fun e he hb heq=>by
   have h1:=hall e he hb;rw[heq,unlisted hr] at h1;cases h1
  have hri:=ready_mono hr (Ne.symm hne);refine wpOp_mono (fun a' w' h3=> ?_) (wpOp_putIf hoj (hfree j oj hoj hne hju hno) (fun cs b=>Region.noSelect_spec hsel i o cs b hi) (fun cs b=>Region.noSelect_spec hsel j oj cs b hoj) hQ hy (H.2 j (ready_mono hj hne)));have hcm:(l.setIfInBounds i true).setIfInBounds j true=(l.setIfInBounds j true).setIfInBounds i true:=Array.setIfInBounds_comm _ _ (Ne.symm hne);obtain⟨hy3,hS3,H3⟩:=h3;rw[hcm] at H3 hS3;refine⟨fun hl=>hS3 ?_,ih _ a' w' (hc.set hj) (fun k ok hk hki hun hno2=>hfree k ok hk hki (by
    rcases Decidable.em (j=k) with e|e
    ·rw[←e];exact hju
    ·rw[getD_set_ne true e] at hun;exact hun) hno2) hri hy3 (hT l j w' hc hr hj hne hS3) hS3 H3⟩
  rw[getD_set_ne false hil];exact hl
theorem WM.take{T:World→Prop}{i:Nat}{o:Oper}{v:Value}{f:Nat}{l:Array Bool}{a:Act}{w:World}(hi:ops[i]? =some o)(hil:(i==m)=false)(hs:Region.noSelect ops=true)(hf:Region.free md ops l i=true)(hr:(Region.ready md ops l).contains i=true)
  (hQ:∀c a w,Q (.panic c) (a.put o.dst v) w→Q (.panic c) a w)
  (hT:∀l j w,Closed md ops l→i∈Region.ready md ops l→j∈Region.ready md ops l→j≠i→(((l.setIfInBounds j true).setIfInBounds i true).getD (m) false=false→S w)→T w)
  (hy:YieldsIf P ops T o v a) (ht:T w) (hS:S w) (H:Closed md ops (l.setIfInBounds i true)→WM m P md ops Q S f (l.setIfInBounds i true) (a.put o.dst v) w) (hc:Closed md ops l):WM m P md ops Q S (f+1) l a w:=
 WM.first hi (by simpa using hil) hs hQ hT f l a w hc (Region.free_spec hi hf) (by simpa using hr) hy ht (fun _=>hS) (H (hc.set (by simpa using hr)))
theorem hM_true{i:Nat} :∀l j w,Closed md ops l→i∈Region.ready md ops l→j∈Region.ready md ops l→j≠i→(((l.setIfInBounds j true).setIfInBounds i true).getD (m) false=false→S w)→(fun _:World=>True) w:=fun _ _ _ _ _ _ _ _=>trivial
theorem hM_S{i:Nat}(hX:sinkM m md ops X=true)(hi:i<m)(hiX:i∉X):∀l j w,Closed md ops l→i∈Region.ready md ops l→j∈Region.ready md ops l→j≠i→(((l.setIfInBounds j true).setIfInBounds i true).getD (m) false=false→S w)→S w:=fun l j w hc hri hrj hne h=>by
 have hu:=unlisted hri;refine h ?_;rcases Decidable.em (j=m) with e|e
 ·subst e;have:=sinkM_all hX hc (fun k hk=>ready_waits hrj hk) j i (by omega) hi hiX;rw[this] at hu;cases hu
 ·rw[getD_set_ne false (by omega),getD_set_ne false e];cases hl:l.getD (m) false with
  |false=>rfl
  |true=>
   have:=sinkM_all hX hc (fun k hk=>hc _ k hk hl) m i (by omega) hi hiX;rw[this] at hu;cases hu
def RM(m:Nat)(P:Program)(md:Region.Mode)(ops:Array Oper)(Q:Exit→Act→World→Prop)(S:World→Prop)(f:Nat)(l:Array Bool)(a:Act)(w:World):Prop:=Closed md ops l→WM m P md ops Q S f l a w
theorem rgm(m:Nat)(S:World→Prop){X:List Nat}{id:Nat}{a:Act}{w:World}(hS:S w.drew)(h:sinkM m .any ops X=true→S w.drew→RM m P .any ops Q S ops.size (Array.replicate ops.size false) a w.drew)(hX:sinkM m .any ops X=true:=by kernel_rfl)(hm:P.follows .mixedOrders=true:=by kernel_rfl):(Code.region id ops true).wp P Q a w:=
 wp_region_any hm (WM.any _ _ _ _ (h hX hS (fun k j _ hk=>by
  simp only[Array.getD_eq_getD_getElem?,Array.getElem?_replicate] at hk;split at hk<;>cases hk)))
theorem tkm(i d:Nat){op:Op}{ty:TypeId}{pos:String}{after:Array Edge}{gd:Option (Nat×Bool)}{v:Value}{f:Nat}{l:Array Bool}{a a':Act}{w:World}(h:RM m P md ops Q S f (l.setIfInBounds i true) a' w)
  (hi:ops[i]? =some (Oper.mk (some d) op ty pos after gd):=by rfl) (hs:Region.noSelect ops=true:=by kernel_rfl) (hf:Region.free md ops l i=true:=by kernel_rfl) (hr:(Region.ready md ops l).contains i=true:=by kernel_rfl)
  (hS:S w:=by assumption) (hX:sinkM m md ops X=true:=by assumption) (hiX:(decide (i<m)&& !X.contains i)=true:=by kernel_rfl)
  (hw:Region.wanted (Oper.mk (some d) op ty pos after gd) (yielded ops a.tmps)=true:=by rfl)
  (hy:∀w,S w→(execOp a.eval (Oper.mk (some d) op ty pos after gd)).run P w= .ok (.value v) w:=by(intro w hSw;(try dsimp only at hSw);go_split_ands;go_simp;try with_reducible rfl))
  (ha:a.put (some d) v=a':=by(simp only[Act.put,List.setIfInBounds_toArray,List.set_cons_zero,List.set_cons_succ];rfl))
  (hQ:∀c a w,Q (.panic c) (a.put (some d) v) w→Q (.panic c) a w:=by exact fun _ _ _ h=>h):RM m P md ops Q S (f+1) l a w:=by
 subst ha;simp only[Bool.and_eq_true,decide_eq_true_eq,Bool.not_eq_true',List.contains_eq_mem,decide_eq_false_iff_not] at hiX;exact WM.take hi (by simp;omega) hs hf hr hQ (hM_S hX hiX.1 hiX.2) (Or.inl ⟨hw,hy⟩) hS hS h
theorem twm(i d:Nat){op:Op}{ty:TypeId}{pos:String}{after:Array Edge}{gd:Option (Nat×Bool)}{v:Value}{f:Nat}{l:Array Bool}{a a':Act}{w:World}(h:RM m P md ops Q S f (l.setIfInBounds i true) a' w)
  (hi:ops[i]? =some (Oper.mk (some d) op ty pos after gd):=by rfl) (hs:Region.noSelect ops=true:=by kernel_rfl) (hf:Region.free md ops l i=true:=by kernel_rfl) (hr:(Region.ready md ops l).contains i=true:=by kernel_rfl)
  (hS:S w:=by assumption) (hil:(i==m)=false:=by kernel_rfl)
  (hw:Region.wanted (Oper.mk (some d) op ty pos after gd) (yielded ops a.tmps)=true:=by rfl)
  (hy:∀w,(execOp a.eval (Oper.mk (some d) op ty pos after gd)).run P w= .ok (.value v) w:=by(intro w;go_simp;try with_reducible rfl))
  (ha:a.put (some d) v=a':=by(simp only[Act.put,List.setIfInBounds_toArray,List.set_cons_zero,List.set_cons_succ];rfl))
  (hQ:∀c a w,Q (.panic c) (a.put (some d) v) w→Q (.panic c) a w:=by exact fun _ _ _ h=>h):RM m P md ops Q S (f+1) l a w:=by
 subst ha;exact WM.take hi hil hs hf hr hQ hM_true (Or.inl ⟨hw,fun w _=>hy w⟩) trivial hS h
theorem rom(i:Nat){d:Option Tmp}{op:Op}{ty:TypeId}{pos:String}{after:Array Edge}{gd:Option (Nat×Bool)}{f:Nat}{l:Array Bool}{a:Act}{w:World}
  (h:∀K':Act→World→Prop,Shut (∀a w,S w→(S w→RM m P md ops Q S f (l.setIfInBounds i true) a w)→K' a w)→if Region.wanted (Oper.mk d op ty pos after gd) (yielded ops a.tmps)=true then Oper.wp P (Oper.mk d op ty pos after gd) a w K' Q else K' (a.put d undef) w)
  (hi:ops[i]? =some (Oper.mk d op ty pos after gd):=by rfl) (hr:Region.ready md ops l=[i]:=by kernel_rfl):RM m P md ops Q S (f+1) l a w:=fun hc=>by
 have hm:i∈Region.ready md ops l:=by rw[hr];exact List.mem_singleton.2 rfl
 refine⟨fun e=>(by rw[hr] at e;cases e),fun j hj=> ?_⟩;rw[hr] at hj;cases List.mem_singleton.1 hj;exact wpOp_step hi (fun K' hK=>h K' (fun a w hS hW=>hK a w ⟨fun _=>hS,hW hS (hc.set hm)⟩))
theorem rmm(i:Nat){d:Option Tmp}{op:Op}{ty:TypeId}{pos:String}{after:Array Edge}{gd:Option (Nat×Bool)}{f:Nat}{l:Array Bool}{a:Act}{w:World}
  (h:∀K':Act→World→Prop,Shut (∀a w,RM m P md ops Q S f (l.setIfInBounds i true) a w→K' a w)→if Region.wanted (Oper.mk d op ty pos after gd) (yielded ops a.tmps)=true then Oper.wp P (Oper.mk d op ty pos after gd) a w K' Q else K' (a.put d undef) w)
  (hi:ops[i]? =some (Oper.mk d op ty pos after gd):=by rfl) (hr:Region.ready md ops l=[i]:=by kernel_rfl)
  (hl:(l.setIfInBounds i true).getD m false=true:=by kernel_rfl):RM m P md ops Q S (f+1) l a w:=fun hc=>by
 have hm:i∈Region.ready md ops l:=by rw[hr];exact List.mem_singleton.2 rfl
 refine⟨fun e=>(by rw[hr] at e;cases e),fun j hj=> ?_⟩;rw[hr] at hj;cases List.mem_singleton.1 hj;exact wpOp_step hi (fun K' hK=>h K' (fun a w hW=>hK a w ⟨fun e=>(by rw[hl] at e;cases e),hW (hc.set hm)⟩))
theorem rme(i:Nat){d:Option Tmp}{op:Op}{ty:TypeId}{pos:String}{after:Array Edge}{gd:Option (Nat×Bool)}{f:Nat}{l:Array Bool}{a:Act}{w:World}
  (h:∀K':Act→World→Prop,Shut (∀a w,Q .normal a w→K' a w)→if Region.wanted (Oper.mk d op ty pos after gd) (yielded ops a.tmps)=true then Oper.wp P (Oper.mk d op ty pos after gd) a w K' Q else K' (a.put d undef) w)
  (hi:ops[i]? =some (Oper.mk d op ty pos after gd):=by rfl) (hr:Region.ready md ops l=[i]:=by kernel_rfl) (hr2:Region.ready md ops (l.setIfInBounds i true)=[]:=by kernel_rfl)
  (hl:(l.setIfInBounds i true).getD (m) false=true:=by kernel_rfl):RM m P md ops Q S (f+1) l a w:=fun hc=>by
 refine⟨fun e=>(by rw[hr] at e;cases e),fun j hj=> ?_⟩;rw[hr] at hj;cases List.mem_singleton.1 hj;refine wpOp_step hi (fun K' hK=>h K' (fun a w hQ=>hK a w ⟨fun e=>(by rw[hl] at e;cases e),?_⟩));cases f with
 |zero=>exact⟨hr2,hQ⟩
 |succ f=>exact⟨fun _=>hQ,fun k hk=>(by rw[hr2] at hk;cases hk)⟩
theorem rom2(i j:Nat){d d2:Option Tmp}{op op2:Op}{ty ty2:TypeId}{pos pos2:String}{after after2:Array Edge}{gd gd2:Option (Nat×Bool)}{f:Nat}{l:Array Bool}{a:Act}{w:World}
  (h:∀K':Act→World→Prop,Shut (∀a w,S w→(S w→RM m P md ops Q S f (l.setIfInBounds i true) a w)→K' a w)→if Region.wanted (Oper.mk d op ty pos after gd) (yielded ops a.tmps)=true then Oper.wp P (Oper.mk d op ty pos after gd) a w K' Q else K' (a.put d undef) w)
  (h2:∀K':Act→World→Prop,Shut (∀a w,S w→(S w→RM m P md ops Q S f (l.setIfInBounds j true) a w)→K' a w)→if Region.wanted (Oper.mk d2 op2 ty2 pos2 after2 gd2) (yielded ops a.tmps)=true then Oper.wp P (Oper.mk d2 op2 ty2 pos2 after2 gd2) a w K' Q else K' (a.put d2 undef) w)
  (hi:ops[i]? =some (Oper.mk d op ty pos after gd):=by rfl) (hj:ops[j]? =some (Oper.mk d2 op2 ty2 pos2 after2 gd2):=by rfl) (hr:Region.ready md ops l=[i,j]:=by kernel_rfl):RM m P md ops Q S (f+1) l a w:=fun hc=>by
 have hm:i∈Region.ready md ops l:=by rw[hr];exact List.mem_cons_self
 have hm2:j∈Region.ready md ops l:=by rw[hr];exact List.mem_cons_of_mem _ (List.mem_singleton.2 rfl)
 refine⟨fun e=>(by rw[hr] at e;cases e),fun k hk=> ?_⟩;rw[hr] at hk;rcases List.mem_cons.1 hk with e|hk
 ·subst e;exact wpOp_step hi (fun K' hK=>h K' (fun a w hS hW=>hK a w ⟨fun _=>hS,hW hS (hc.set hm)⟩))
 ·cases List.mem_singleton.1 hk;exact wpOp_step hj (fun K' hK=>h2 K' (fun a w hS hW=>hK a w ⟨fun _=>hS,hW hS (hc.set hm2)⟩))
end
open Go.RowKit Go.Maps
structure NwAt (w:World) (B p st:Nat) (l:List PR) (vl:Value) (vls:List Value) (z b:List Int) (vz vb:Value):Prop where
 blk:w.heap[p]? =some (.cells #[ptr st,vl,vz,vb] TUs (0,0))
 pr:PrAt w B vl l vls
 rz:OwnK w B 3 1 vz (zV z)
 rb:OwnK w B 3 1 vb (zV b)
 ne:∀g,vz.ownBlock=some g→vb.ownBlock=some g→False
 pB:B≤p
theorem zV_snoc(z:List Int)(x:Int):zV (z++[x])=zV z++[#[Value.int .i64 x].toList]:=by simp[zV]
structure UX (w0:World) (B p:Nat) (z1 z2:Value) (z b:List Int) (wn:World) (vz vb:Value):Prop where
 rz:OwnK wn B 3 1 vz (zV z)
 rb:OwnK wn B 3 1 vb (zV b)
 ne:∀g,vz.ownBlock=some g→vb.ownBlock=some g→False
 kp:Kp (fun k=>some k=z1.ownBlock∨some k=z2.ownBlock) w0 wn
 oz:∀g,vz.ownBlock=some g→some g=z1.ownBlock∨w0.heap.size≤g
 ob:∀g,vb.ownBlock=some g→some g=z2.ownBlock∨w0.heap.size≤g
 np:vz.ownBlock≠some p∧vb.ownBlock≠some p
 n0:z1.ownBlock≠some p∧z2.ownBlock≠some p
 pl:p<w0.heap.size
def Lone(wn:World)(vz vb:Value)(g:Nat):Prop:=wn.heap[g]? =some (.cells #[.int .i64 (-1)] 3 (0,0))∧vz.ownBlock≠some g∧vb.ownBlock≠some g
section
variable {w0 wn w':World} {B p g:Nat} {z1 z2 vz vb v':Value} {z b:List Int}
theorem UX.kn(h:UX w0 B p z1 z2 z b wn vz vb)(hk:Kn wn w'):UX w0 B p z1 z2 z b w' vz vb:=⟨h.rz.kn hk,h.rb.kn hk,h.ne,h.kp.trans (Kp.weak hk),h.oz,h.ob,h.np,h.n0,h.pl⟩
theorem UX.lone(h:UX w0 B p z1 z2 z b wn vz vb):Lone (wn.alloc (.cells #[.int .i64 (-1)] 3)) vz vb wn.heap.size:=
 ⟨Qf _ _,fun e=>by obtain⟨_,h1⟩:=OwnK.blkT h.rz e;exact absurd (Ql h1) (Nat.lt_irrefl _),fun e=>by obtain⟨_,h1⟩:=OwnK.blkT h.rb e;exact absurd (Ql h1) (Nat.lt_irrefl _)⟩
theorem Lone.kn(h:Lone wn vz vb g)(hk:Kn wn w'):Lone w' vz vb g:=⟨hk.blk h.1 (fun x=>x),h.2⟩
theorem Lone.app(h:Lone wn vz vb g)(hk:Kp (fun k=>some k=vz.ownBlock) wn w')(ho:v'.ownBlock=vz.ownBlock∨v'.ownBlock=some wn.heap.size):Lone w' v' vb g:=
 ⟨hk.blk h.1 (fun e=>h.2.1 e.symm),fun e=>by
  rcases ho with ho|ho<;>rw[ho] at e
  ·exact h.2.1 e
  ·have:=Ql h.1;injection e with e;omega,h.2.2⟩
theorem UX.appZ(h:UX w0 B p z1 z2 z b wn vz vb)(hr:OwnK w' B 3 1 v' (zV z++[#[Value.int .i64 (-1)].toList]))(hk:Kp (fun k=>some k=vz.ownBlock) wn w')(ho:v'.ownBlock=vz.ownBlock∨v'.ownBlock=some wn.heap.size):UX w0 B p z1 z2 (z++[-1]) b w' v' vb:=by
 refine⟨by rw[zV_snoc];exact hr,h.rb.kp hk (fun g hg e=>h.ne g e.symm hg),fun g h1 h2=> ?_,Kp.trans' h.kp hk (fun i hi e=> ?_),fun g hg=> ?_,h.ob,⟨fun e=> ?_,h.np.2⟩,h.n0,h.pl⟩
 ·rcases ho with ho|ho<;>rw[ho] at h1
  ·exact h.ne g h1 h2
  ·obtain⟨_,h3⟩:=OwnK.blkT h.rb h2;have:=Ql h3;injection h1 with h1;omega
 ·rcases h.oz i e.symm with h1|h1
  ·exact .inl h1
  ·omega
 ·rcases ho with ho|ho<;>rw[ho] at hg
  ·exact h.oz g hg
  ·have:=h.kp.size;injection hg with hg;exact .inr (by omega)
 ·rcases ho with ho|ho<;>rw[ho] at e
  ·exact h.np.1 e
  ·have:=h.kp.size;have:=h.pl;injection e with e;omega
theorem UX.appB(h:UX w0 B p z1 z2 z b wn vz vb)(hr:OwnK w' B 3 1 v' (zV b++[#[Value.int .i64 (-1)].toList]))(hk:Kp (fun k=>some k=vb.ownBlock) wn w')(ho:v'.ownBlock=vb.ownBlock∨v'.ownBlock=some wn.heap.size):UX w0 B p z1 z2 z (b++[-1]) w' vz v':=by
 refine⟨h.rz.kp hk (fun g hg e=>h.ne g hg e.symm),by rw[zV_snoc];exact hr,fun g h1 h2=> ?_,Kp.trans' h.kp hk (fun i hi e=> ?_),h.oz,fun g hg=> ?_,⟨h.np.1,fun e=> ?_⟩,h.n0,h.pl⟩
 ·rcases ho with ho|ho<;>rw[ho] at h2
  ·exact h.ne g h1 h2
  ·obtain⟨_,h3⟩:=OwnK.blkT h.rz h1;have:=Ql h3;injection h2 with h2;omega
 ·rcases h.ob i e.symm with h1|h1
  ·exact .inr h1
  ·omega
 ·rcases ho with ho|ho<;>rw[ho] at hg
  ·exact h.ob g hg
  ·have:=h.kp.size;injection hg with hg;exact .inr (by omega)
 ·rcases ho with ho|ho<;>rw[ho] at e
  ·exact h.np.2 e
  ·have:=h.kp.size;have:=h.pl;injection e with e;omega
theorem UX.blk{o:Obj}(h:UX w0 B p z1 z2 z b wn vz vb)(hb:w0.heap[p]? =some o):wn.heap[p]? =some o:=by
 rw[h.kp.block p h.pl (fun e=>e.elim (fun e=>h.n0.1 e.symm) (fun e=>h.n0.2 e.symm))];exact hb
theorem NwAt.ux{st:Nat}{l:List PR}{vl:Value}{vls:List Value}(h:NwAt w0 B p st l vl vls z b z1 z2)(hk:Kn w0 wn):UX w0 B p z1 z2 z b wn z1 z2:=by
 have hp:=Ql h.blk;have n1:z1.ownBlock≠some p:=fun e=>by obtain⟨_,h1⟩:=OwnK.blkT h.rz e;exact Qn h1 h.blk (by decide)
 have n2:z2.ownBlock≠some p:=fun e=>by obtain⟨_,h1⟩:=OwnK.blkT h.rb e;exact Qn h1 h.blk (by decide)
 exact⟨h.rz.kn hk,h.rb.kn hk,h.ne,Kp.weak hk,fun g hg=> .inl hg.symm,fun g hg=> .inl hg.symm,⟨n1,n2⟩,⟨n1,n2⟩,hp⟩
theorem UX.done{st:Nat}{l:List PR}{vl:Value}{vls:List Value}{za ba:List Int}(h:UX w0 B p z1 z2 z b wn vz vb)(h0:NwAt w0 B p st l vl vls za ba z1 z2):
  NwAt ((wn.setCell ⟨p,2,none⟩ vz).setCell ⟨p,3,none⟩ vb) B p st l vl vls z b vz vb∧Kp (fun k=>B≤k) w0 ((wn.setCell ⟨p,2,none⟩ vz).setCell ⟨p,3,none⟩ vb):=by
 have hb:=h.blk h0.blk;have hk:K1 p wn ((wn.setCell ⟨p,2,none⟩ vz).setCell ⟨p,3,none⟩ vb):=(Qg _ _).trans (Qg _ _);have hty:∀T:TypeId,T≠3→T≠TUs→∀g (c:Array Value),w0.heap[g]? =some (.cells c T (0,0))→¬(some g=z1.ownBlock∨some g=z2.ownBlock∨g=p):=fun T h1 h2 g c hg e=>by
  rcases e with e|e|e
  ·obtain⟨_,h3⟩:=OwnK.blkT h0.rz e.symm;exact Qn h3 hg (Ne.symm h1)
  ·obtain⟨_,h3⟩:=OwnK.blkT h0.rb e.symm;exact Qn h3 hg (Ne.symm h1)
  ·subst e;exact Qn h0.blk hg (Ne.symm h2)
 have hK:Kp (fun k=>some k=z1.ownBlock∨some k=z2.ownBlock∨k=p) w0 ((wn.setCell ⟨p,2,none⟩ vz).setCell ⟨p,3,none⟩ vb):=(h.kp.mono (fun i hi e=>e.elim .inl (fun e=> .inr (.inl e)))).trans (hk.mono (fun i hi e=> .inr (.inr e)));refine⟨⟨Qj (Qj hb 2 _) 3 _,h0.pr.off hK (hty _ (by decide) (by decide)) (hty _ (by decide) (by decide)),h.rz.kp hk (fun g hg e=>h.np.1 (by rw[hg,e])),h.rb.kp hk (fun g hg e=>h.np.2 (by rw[hg,e])),h.ne,h0.pB⟩,hK.mono (fun i hi e=> ?_)⟩;rcases e with e|e|e
 ·exact(h0.rz.lt i e.symm).1
 ·exact(h0.rb.lt i e.symm).1
 ·rw[e];exact h0.pB
end
def rpU(n:Nat):List Int:=List.replicate n (-1)
theorem rpU_succ(n:Nat):rpU (n+1)=rpU n++[-1]:=by unfold rpU;rw[List.replicate_succ']
theorem SBok.lu{S:SB}(h:SBok S):LUk S.places.length S.l:=⟨by have:=h.le;omega,h.ll,fun q hq=>⟨(h.pr q hq).1,by have:=(h.pr q hq).2.2.1;omega,fun y hy hp=>by have:=(h.pr q hq).2.2.2 y hy;rw[if_pos hp] at this;exact this⟩⟩
theorem NwAt.us{w:World}{B p st n:Nat}{l:List PR}{vl:Value}{vls:List Value}{z b:List Int}{vz vb:Value}(h:NwAt w B p st l vl vls z b vz vb)(hz:z.length=n)(hb:b.length=n)(hn:0<n):
  ∃gz gb cz cb,vz= .slice (some ⟨gz,0,none⟩) n cz∧vb= .slice (some ⟨gb,0,none⟩) n cb∧UsAt w B p st n l vl vls z b gz gb cz cb:=by
 obtain⟨a,c,h1,_,_,hg⟩:=h.rz.row (zV_one z);obtain⟨a2,c2,h2,_,_,hg2⟩:=h.rb.row (zV_one b);obtain⟨gz,rfl,_⟩:=hg (fun e=>by have:=congrArg List.length e;rw[zV_len,List.length_nil] at this;omega);obtain⟨gb,rfl,_⟩:=hg2 (fun e=>by have:=congrArg List.length e;rw[zV_len,List.length_nil] at this;omega);rw[zV_len,hz] at h1;rw[zV_len,hb] at h2;subst h1 h2;exact⟨gz,gb,c,c2,rfl,rfl,h.blk,h.pr,h.rz,h.rb,hz,hb,fun e=>h.ne gz rfl (by rw[e];try rfl),h.pB⟩
theorem unew_c{w:World}{B s ge gf gw:Nat}{S:SB}{A:SA}{E:List Bool}{F W:List Nat}(h:StAt w B s S A E F W ge gf gw)(ok:SBok S):
  Calls Tryz.prog 9 #[ptr s] w fun e w'=>∃p vl vls z b gz gb cz cb,e= .returned (.tuple #[ptr p,.int .i64 0])∧UsAt w' w.heap.size p s S.places.length S.l vl vls z b gz gb cz cb∧Fin (rndF S.l) (rpU S.places.length,rpU S.places.length) (z,b)∧Kn w w':=by
 have hpl:=h.lt;have hle:=ok.le;have H:=Qh h;have HOK:=Qh ok;have HP:=Qh (prods_c h ok.ll (fun r hr=>by have:=(ok.pr r hr).2.2.1;omega));clear h ok;go_enter Tryz.func9,Tryz.ntmps9;go_wp2_with (first|(go_at_call 50;go_must (refine HP.out.mono ?_;rintro e w1 ⟨vl,vls,rfl,hpr,hk1⟩;obtain⟨av,cv,rfl,_⟩:=hpr.prod;have HPR:=Qh hpr;have HK1:=Qh hk1;clear hpr hk1 HP))|(go_at_call 51;go_must (obtain⟨w2,hw2⟩:∃z,z=w1.alloc (.cells #[ptr s,.slice av S.l.length cv,.slice none 0 0,.slice none 0 0] TUs):=⟨_,rfl⟩;have hk2:Kn w1 w2:=(by rw[hw2];exact(Qb _ _).alloc _);obtain⟨p,hp⟩:∃z,z=w1.heap.size:=⟨_,rfl⟩;have hB:w2.heap[p]? =some (.cells #[ptr s,.slice av S.l.length cv,.slice none 0 0,.slice none 0 0] TUs (0,0)):=(by rw[hw2,hp];exact Qf _ _);rw[←hw2,←hp];have HPB:Hid (w.heap.size≤p):=Qh (by have:=HK1.out.size;omega);have HK2:=Qh (HK1.out.trans hk2);have HPR2:=Qh (HPR.out.kn hk2);have HB:=Qh hB;clear hw2 hk2 hp hB HK1 HPR;refine(places_c (H.out.kn HK2.out) (by omega)).mono ?_;rintro e w3 ⟨v3,rfl,hv3,hk3⟩;obtain⟨a3,c3,rfl,_⟩:=hv3.row (fun C hC=>by obtain⟨x,_,rfl⟩:=List.mem_map.1 hC;rfl);replace HPR2:=Qh (HPR2.out.kn hk3);replace HB:=Qh (hk3.blk HB.out (fun x=>x));replace HK2:=Qh (HK2.out.trans hk3);rw[List.length_map];clear hv3 hk3)))
 have HNW:Hid (NwAt w3 w.heap.size p s S.l (.slice av S.l.length cv) vls (rpU 0) (rpU 0) (.slice none 0 0) (.slice none 0 0)):=Qh ⟨HB.out,HPR2.out,OwnK.nil,OwnK.nil,fun g hg=>(by cases hg),HPB.out⟩;obtain⟨ie,hi,hz0,hz1,hz2⟩:=info_parts info_int;have HI:=Qh (And.intro hi (And.intro hz0 (And.intro hz1 hz2)));clear hi hz0 hz1 hz2 HB HPR2 HPB;go_loopw [15] (fun s15 wr=>∃(k:Nat) (vz vb:Value),s15= .int .i64 k∧k≤S.places.length∧Hid (NwAt wr w.heap.size p s S.l (.slice av S.l.length cv) vls (rpU k) (rpU k) vz vb)∧Hid (Kn w wr)) (fun s15 _=>S.places.length-(intOf s15).toNat)
 case atStart=>exact⟨0,_,_,rfl,Nat.zero_le _,HNW,HK2⟩
 case round=>
  clear HNW HK2;obtain⟨k,vz,vb,rfl,hk,HN,hkn⟩:=hrel;by_cases hlt:k<S.places.length
  ·go_wp2_with fail
   have p2:wr.cell? ⟨p,2,none⟩=some vz:=Qa HN.out.blk 2;have p3:wr.cell? ⟨p,3,none⟩=some vb:=Qa HN.out.blk 3;have HX:=Qh (HN.out.ux (wn:=wr.drew) (Qb _ _).drew);have HSB:Hid (w.heap.size≤wr.heap.size):=Qh hkn.out.size;have hrl:(zV (rpU k)).length=k:=by rw[zV_len];simp[rpU]
   have HRL:=Qh hrl;clear hrl;refine rgm 16 (fun w'=>w'.cell? ⟨p,2,none⟩=some vz∧w'.cell? ⟨p,3,none⟩=some vb) (X:=[1]) ⟨Qc ((Qb _ _).drew) p2,Qc ((Qb _ _).drew) p3⟩ (fun hX hHeld=> ?_);obtain⟨wn,hwn⟩:∃zz,zz=wr.drew:=⟨_,rfl⟩;rw[←hwn] at HX hHeld⊢;clear hwn p2 p3;refine twm 0 17 ?_;refine twm 1 18 ?_;refine twm 2 19 ?_;refine twm 3 20 ?_;refine twm 4 21 ?_;refine tkm 5 22 ?_;refine twm 8 25 ?_;refine twm 9 26 ?_;refine twm 10 27 ?_;refine tkm 11 28 ?_
   repeat' (first
    |((with_reducible show RM _ _ _ _ _ _ _ (Array.setIfInBounds _ 11 true) _ _);refine rom2 6 12 (fun K hK=> ?_) (fun K hK=> ?_))
    |((with_reducible show RM _ _ _ _ _ _ _ (Array.setIfInBounds (Array.setIfInBounds _ 11 true) 12 true) _ _);refine rom 6 (fun K hK=> ?_))
    |((with_reducible show RM _ _ _ _ _ _ _ (Array.setIfInBounds (Array.setIfInBounds _ 12 true) 6 true) _ _);refine rom 7 (fun K hK=> ?_))
    |((with_reducible show RM _ _ _ _ _ _ _ (Array.setIfInBounds (Array.setIfInBounds (Array.setIfInBounds _ 12 true) 6 true) 7 true) _ _);refine rom 13 (fun K hK=> ?_))
    |((with_reducible show RM _ _ _ _ _ _ _ (Array.setIfInBounds _ 13 true) _ _);refine twm 14 31 ?_)
    |((with_reducible show RM _ _ _ _ _ _ _ (Array.setIfInBounds _ 14 true) _ _);refine twm 15 32 ?_)
    |((with_reducible show RM _ _ _ _ _ _ _ (Array.setIfInBounds _ 15 true) _ _);refine rmm 16 (fun K hK=> ?_))
    |((with_reducible show RM _ _ _ _ _ _ _ (Array.setIfInBounds _ 16 true) _ _);refine rmm 17 (fun K hK=> ?_))
    |((with_reducible show RM _ _ _ _ _ _ _ (Array.setIfInBounds _ 17 true) _ _);refine rmm 18 (fun K hK=> ?_))
    |((with_reducible show RM _ _ _ _ _ _ _ (Array.setIfInBounds _ 18 true) _ _);refine rme 19 (fun K hK=> ?_))
    |((with_reducible show RM _ _ _ _ _ _ _ (Array.setIfInBounds (Array.setIfInBounds _ 11 true) 6 true) _ _);refine rom2 7 12 (fun K hK=> ?_) (fun K hK=> ?_))
    |((with_reducible show RM _ _ _ _ _ _ _ (Array.setIfInBounds (Array.setIfInBounds _ 6 true) 12 true) _ _);refine rom 7 (fun K hK=> ?_))
    |((with_reducible show RM _ _ _ _ _ _ _ (Array.setIfInBounds (Array.setIfInBounds _ 12 true) 7 true) _ _);refine rom 13 (fun K hK=> ?_))
    |((with_reducible show RM _ _ _ _ _ _ _ (Array.setIfInBounds (Array.setIfInBounds (Array.setIfInBounds _ 11 true) 6 true) 7 true) _ _);refine rom 12 (fun K hK=> ?_))
    |((with_reducible show RM _ _ _ _ _ _ _ (Array.setIfInBounds (Array.setIfInBounds _ 7 true) 12 true) _ _);refine rom 13 (fun K hK=> ?_))
    |(with_reducible show if Region.wanted (Oper.mk (some 23) _ _ _ _ _) _=true then _ else _
      go_simp;have hka:Kn wn (wn.alloc (.cells #[.int .i64 (-1)] 3)):=(Qb _ _).alloc _;have HL6:=Qh HX.out.lone;obtain⟨g6,hg6⟩:∃zz,zz=wn.heap.size:=⟨_,rfl⟩;rw[←hg6] at HL6⊢;clear hg6
      (try replace HL12:=Qh (HL12.out.kn hka))
      replace HX:=Qh (HX.out.kn hka)
      obtain⟨wn,hwn⟩:∃zz,zz=wn.alloc (.cells #[.int .i64 (-1)] 3):=⟨_,rfl⟩;rw[←hwn] at HX hka HL6⊢
      (try rw[←hwn] at HL12)
      clear hwn;refine hK.out _ _ (⟨Qc hka hHeld.1,Qc hka hHeld.2⟩) (fun hHeld=> ?_);clear hka;clear hK K
      try simp only[PP])
    |(with_reducible show if Region.wanted (Oper.mk (some 24) _ _ _ _ _) _=true then _ else _
      refine Qm wn (by rfl) _ _ 28 (by rfl) w.heap.size 3 ie (.int .i64 0) 1 8 Tryz.underlying28 HI.out.1 HI.out.2.1 HI.out.2.2.1 HI.out.2.2.2 (by rfl) (by decide) vz (zV (rpU k)) (by rfl) HX.out.rz g6 1 (by rfl) #[.int .i64 (-1)] 3 (0,0) HL6.out.1 (by rfl) (by simp[Value.oneCell']) (by rw[HRL.out];simp only[maxLen];omega) (by rw[HRL.out];omega) (by have:=HX.out.kp.size;have:=HSB.out;omega) ?_;intro v1 wn hown hka hat;obtain⟨av1,cv1,hqv1,_⟩:=hown.row (k:=1) (fun D hD=>by rw[←zV_snoc] at hD;exact zV_one _ D hD);obtain⟨nv1,hv1⟩:∃n,v1= .slice av1 n cv1:=⟨_,hqv1⟩;have Hv1:=Qh hv1;clear hv1 hqv1;have HXo:=HX
      replace HX:=Qh (HX.out.appZ hown hka hat)
      (try replace HL12:=Qh (HL12.out.app hka hat))
      clear hown hat HL6;refine hK.out _ _ (⟨Qi hka hHeld.1 (fun e=>HXo.out.np.1 e.symm),Qi hka hHeld.2 (fun e=>HXo.out.np.1 e.symm)⟩) (fun hHeld=> ?_);clear hka HXo;clear hK K
      try simp only[PP])
    |(with_reducible show if Region.wanted (Oper.mk (some 29) _ _ _ _ _) _=true then _ else _
      go_simp;have hka:Kn wn (wn.alloc (.cells #[.int .i64 (-1)] 3)):=(Qb _ _).alloc _;have HL12:=Qh HX.out.lone;obtain⟨g12,hg12⟩:∃zz,zz=wn.heap.size:=⟨_,rfl⟩;rw[←hg12] at HL12⊢;clear hg12
      (try replace HL6:=Qh (HL6.out.kn hka))
      replace HX:=Qh (HX.out.kn hka)
      obtain⟨wn,hwn⟩:∃zz,zz=wn.alloc (.cells #[.int .i64 (-1)] 3):=⟨_,rfl⟩;rw[←hwn] at HX hka HL12⊢
      (try rw[←hwn] at HL6)
      clear hwn;refine hK.out _ _ (⟨Qc hka hHeld.1,Qc hka hHeld.2⟩) (fun hHeld=> ?_);clear hka;clear hK K
      try simp only[PP])
    |(with_reducible show if Region.wanted (Oper.mk (some 30) _ _ _ _ _) _=true then _ else _
      refine Qm wn (by rfl) _ _ 28 (by rfl) w.heap.size 3 ie (.int .i64 0) 1 8 Tryz.underlying28 HI.out.1 HI.out.2.1 HI.out.2.2.1 HI.out.2.2.2 (by rfl) (by decide) vb (zV (rpU k)) (by rfl) HX.out.rb g12 1 (by rfl) #[.int .i64 (-1)] 3 (0,0) HL12.out.1 (by rfl) (by simp[Value.oneCell']) (by rw[HRL.out];simp only[maxLen];omega) (by rw[HRL.out];omega) (by have:=HX.out.kp.size;have:=HSB.out;omega) ?_;intro v2 wn hown hka hat;obtain⟨av2,cv2,hqv2,_⟩:=hown.row (k:=1) (fun D hD=>by rw[←zV_snoc] at hD;exact zV_one _ D hD);obtain⟨nv2,hv2⟩:∃n,v2= .slice av2 n cv2:=⟨_,hqv2⟩;have Hv2:=Qh hv2;clear hv2 hqv2;have HXo:=HX
      replace HX:=Qh (HX.out.appB hown hka hat)
      clear hown hat HL12;refine hK.out _ _ (⟨Qi hka hHeld.1 (fun e=>HXo.out.np.2 e.symm),Qi hka hHeld.2 (fun e=>HXo.out.np.2 e.symm)⟩) (fun hHeld=> ?_);clear hka HXo;clear hK K
      try simp only[PP])
    |(with_reducible show if Region.wanted (Oper.mk none (Op.store _ (Operand.tmp 32) _) _ _ _ _) _=true then _ else _
      have HD:=Qh (HX.out.done HN.out);have hpb:=HX.out.blk HN.out.blk;have x2:=Qd hpb 2;have y2:wn.cell? ⟨p,2,none⟩=some vz:=Qa hpb 2;rw[Hv1.out];go_simp;rw[←Hv1.out];obtain⟨wa,hwa⟩:∃zz,zz=wn.setCell ⟨p,2,none⟩ v1:=⟨_,rfl⟩;have hpc:=Qj hpb 2 v1;rw[←hwa] at HD hpc⊢;have x3:=Qd hpc 3;have y3:wa.cell? ⟨p,3,none⟩=some vb:=Qa hpc 3;clear hwa hpb hpc x2 y2 hHeld;refine hK.out _ _ ?_;clear hK K
      try simp only[PP])
    |(with_reducible show if Region.wanted (Oper.mk (some 33) _ _ _ _ _) _=true then _ else _
      go_simp;refine hK.out _ _ ?_;clear hK K
      try simp only[PP])
    |(with_reducible show if Region.wanted (Oper.mk (some 34) _ _ _ _ _) _=true then _ else _
      go_simp;refine hK.out _ _ ?_;clear hK K
      try simp only[PP])
    |(with_reducible show if Region.wanted (Oper.mk none (Op.store _ (Operand.tmp 34) _) _ _ _ _) _=true then _ else _
      rw[Hv2.out];go_simp;rw[←Hv2.out];clear x3 y3;refine hK.out _ _ ?_;clear hK K))
   all_goals (go_wp2_with fail)
   all_goals go_roundw
   all_goals first|exact⟨k+1,v1,v2,by go_num,by omega,Qh (by rw[rpU_succ];exact HD.out.1),Qh (hkn.out.trans' HD.out.2 (fun i hi e=>by omega))⟩|(simp[intOf];omega)
  ·obtain rfl:k=S.places.length:=by omega
   obtain⟨gz,gb,cz,cb,rfl,rfl,hus⟩:=HN.out.us (n:=S.places.length) (by simp[rpU]) (by simp[rpU]) HOK.out.pos;have HUS:=Qh hus;have HLU:Hid (LUk S.places.length S.l):=Qh (HOK.out.lu);have HGB:Hid (w.heap.size≤gz∧w.heap.size≤gb):=Qh ⟨(hus.rz.lt gz rfl).1,(hus.rb.lt gb rfl).1⟩;obtain⟨n,hn⟩:∃n,n=S.places.length:=⟨_,rfl⟩;rw[←hn] at HUS HLU hle⊢;have HNQ:=Qh hn;obtain⟨N,hN⟩:∃N,N=MU (rpU n):=⟨_,rfl⟩;have HNN:=Qh hN;clear hus HN HI hn hN;go_wp2_with fail
   go_loopg [] (N+1) (fun f wr=>∃(k:Nat) (z b:List Int),Hid ((z,b)=itF (rndF S.l) k (rpU n,rpU n)∧∀j,j<k→(rndF S.l (itF (rndF S.l) j (rpU n,rpU n))).2=true)∧Hid (MU z<f)∧Hid (UOk n ⟨z,b,false⟩)∧Hid (UsAt wr w.heap.size p s n S.l (.slice av S.l.length cv) vls z b gz gb cz cb)∧Hid (Kn w wr))
   case atStart=>exact⟨0,rpU n,rpU n,Qh ⟨rfl,fun j hj=>absurd hj (Nat.not_lt_zero _)⟩,Qh (by rw[←HNN.out];omega),Qh ⟨by simp[rpU],by simp[rpU],fun x hx=>by have:=List.eq_of_mem_replicate hx;unfold M6;omega⟩,HUS,hkn⟩
   case round=>
    clear HUS hkn HNN;obtain⟨k,z,b,hit,hgh,huo,hu,hkn⟩:=hrel;have HRC:=Qh (round_c hu.out huo.out HLU.out);have HMU:=Qh (UK_mu huo.out (fun q hq=>(HLU.out.pp q hq).1) S.l.length);have HUO:=Qh (UK_ok (l:=S.l) huo.out S.l.length);obtain⟨r,hr⟩:∃r,r=UK S.l ⟨z,b,false⟩ S.l.length:=⟨_,rfl⟩;have HFE:Hid (rndF S.l (itF (rndF S.l) k (rpU n,rpU n))=((r.z,r.b),r.more)):=Qh (by rw[←hit.out.1,hr];try rfl);have hrf:rndF S.l (z,b)=((r.z,r.b),r.more):=by rw[hr];try rfl
    rw[hrf] at HRC;rw[←hr] at HMU HUO;clear hr hrf;have HGK:Hid (gk≠0):=Qh (by have:=hgh.out;omega);cases hmr:r.more with
    |false=>
     rw[hmr] at HRC HFE;clear hmr HMU;go_wp2_with (first|(go_at_call 52;go_must (refine HRC.out.mono ?_;rintro e w4 ⟨rfl,hs2,hk2⟩;have HS2:=Qh hs2;have HK2:=Qh (hkn.out.trans' hk2 (fun i hi e=>by have:=HGB.out;rcases e with e|e<;>omega));clear hs2 hk2 HRC)))
     go_ret2
     have e:=HNQ.out;subst e;exact⟨p,_,vls,r.z,r.b,gz,gb,cz,cb,rfl,HS2.out,⟨k,by rw[HFE.out],by rw[HFE.out],hit.out.2⟩,HK2.out⟩
    |true=>
     rw[hmr] at HRC HFE HMU;clear hmr;go_wp2_with (first|(go_at_call 52;go_must (refine HRC.out.mono ?_;rintro e w4 ⟨rfl,hs2,hk2⟩;have HS2:=Qh hs2;have HK2:=Qh (hkn.out.trans' hk2 (fun i hi e=>by have:=HGB.out;rcases e with e|e<;>omega));clear hs2 hk2 HRC)))
     go_roundg (gk-1)
     case measure=>have:=HGK.out;omega
     case rel=>exact⟨k+1,r.z,r.b,Qh ⟨by show _=(rndF S.l (itF (rndF S.l) k (rpU n,rpU n))).1;rw[HFE.out],fun j hj=>by
      rcases Nat.lt_succ_iff_lt_or_eq.1 hj with h|h
      ·exact hit.out.2 j h
      ·rw[h,HFE.out]⟩,Qh (by have h1:=hgh.out;have h2:=HMU.out.2 trivial;have h3:=HGK.out;rcases h2 with h2|h2;cases h2;omega),Qh ⟨HUO.out.zl,HUO.out.bl,HUO.out.z⟩,HS2,HK2⟩
theorem zvoid_step(z:List Int)(k:Nat):(List.range (k+1)).filter (fun n=>z.getD n 0= -1)=if z.getD k 0= -1 then(List.range k).filter (fun n=>z.getD n 0= -1)++[k] else(List.range k).filter (fun n=>z.getD n 0= -1):=by
 rw[List.range_succ,List.filter_append];split<;>simp_all
theorem void_c{w:World}{B p st n gz gb cz cb:Nat}{l:List PR}{vl:Value}{vls:List Value}{z b:List Int}(h:UsAt w B p st n l vl vls z b gz gb cz cb)(hn:n≤1000000):
  Calls Tryz.prog 14 #[ptr p] w fun e w'=>∃v,e= .returned v∧OwnI w' w.heap.size v (voidF z)∧Kn w w':=by
 have q2:w.cell? ⟨p,2,none⟩=some (.slice (some ⟨gz,0,none⟩) n cz):=h.cell 2;have hpl:=h.lt;have H:=Qh h;have hzl:=h.zl;have HZL:=Qh hzl;obtain⟨i0,hi,hz0,hz1,hz2⟩:=info_parts info_int;have HI:=Qh (And.intro hi (And.intro hz0 (And.intro hz1 hz2)));clear h hi hz0 hz1 hz2 hzl;go_enter Tryz.func14,Tryz.ntmps14;go_wp2_with fail
 go_loopw [3,13] (fun s3 s13 wr=>∃(k:Nat) (v:Value),v=s3∧s13= .int .i64 k∧k≤n∧Hid (OwnI wr w.heap.size v ((List.range k).filter (fun n=>z.getD n 0= -1)))∧Kn w wr) (fun _ s13 _=>n-(intOf s13).toNat)
 case atStart=>exact⟨0,_,rfl,rfl,Nat.zero_le _,Qh (World.ownsRow_nil _ _ _ _),Qb _ _⟩
 case round=>
  obtain⟨k,v,rfl,rfl,hk,hov,hkn⟩:=hrel;by_cases hlt:k<n
  ·have hST:=zvoid_step z k;have hkw:=hkn.size;have hll:((List.range k).filter (fun n=>z.getD n 0= -1)).length≤k:=Nat.le_trans (List.length_filter_le _ _) (by rw[List.length_range];omega);have u3:=(zV_cell (H.out.kn hkn).rz (i:=k) (by rw[HZL.out];exact hlt)).1;obtain⟨x,hx⟩:∃x,x=z.getD k 0:=⟨_,rfl⟩;rw[←hx] at u3 hST;clear hx;by_cases hx:x= -1
   ·subst hx;rw[if_pos rfl] at hST;have HST:=Qh hST;clear hST;go_wp2_with (at_builtin;refine QN rfl (.tmp 20) (.tmp 22) rfl w.heap.size wr.heap.size v _ _ [k] rfl rfl (QG hov.out (Kp.alloc (S:=fun _=>False) (Qb _ _) _) (fun _ _ x=>x)) (OwnI.one _ _) (by rw[List.length_singleton];omega) (by rw[size_alloc'];omega) ?_;intro v' w' hro hk')
    go_roundw
    case rel=>exact⟨k+1,v',rfl,by go_num,by omega,Qh (by rw[HST.out];exact hro),(hkn.alloc _).trans' hk' (fun i hi e=>by have:=(hov.out.lt i e.symm).1;omega)⟩
    case measure=>simp[intOf];omega
   ·rw[if_neg hx] at hST;have HST:=Qh hST;clear hST;go_wp2_with fail
    go_roundw
    case rel=>exact⟨k+1,v,rfl,by go_num,by omega,Qh (by rw[HST.out];exact hov.out),hkn⟩
    case measure=>simp[intOf];omega
  ·obtain rfl:k=n:=by omega
   go_wp2_with fail
   go_ret;exact⟨v,rfl,by unfold voidF;rw[HZL.out];exact hov.out,hkn⟩
def ckn:List Nat→Int
 |[]=>0
 |n::_=>n
def cke:List Nat→Int
 |[]=>0
 |_::_=>11
def CkPost(rs:List GR)(n:Nat)(w:World)(e:Ending)(w':World):Prop:=∃(X:SX) (z b:List Int),IsSets rs n X∧Fin (rndF X.b.l) (rpU X.b.places.length,rpU X.b.places.length) (z,b)∧e= .returned (.tuple #[.int .i64 (ckn (voidF z)),.int .i64 (cke (voidF z))])∧Kn w w'
theorem check_c{pg:Nat}{R:RS}{rs:List GR}{br:List (Nat×Nat)}{w:World}(h:GrAt w pg R rs br)(ok:RulesOk rs):
  Calls Tryz.prog 13 #[ptr pg] w (CkPost rs (QH R).length w):=by
 have HN:=Qh (setsNew_c h ok);clear h ok;go_enter Tryz.func13,Tryz.ntmps13
 go_upto_if 26 with(first
  |(go_at_call 22;go_must (refine HN.out.mono ?_;rintro e w2 ⟨ps,X,rfl,⟨B,A,ge,gf,gw,hst,hbo,hfi⟩,hX,hk2⟩;have HNW:=Qh (unew_c hst hbo);have HX:=Qh hX;have HK:=Qh hk2;have HBO:=Qh hbo;clear HN hst hbo hfi hX hk2))
  |(go_at_call 9;go_must (refine HNW.out.mono ?_;rintro e w3 ⟨p,vl,vls,z,b,gz,gb,cz,cb,rfl,hu,hf,hk3⟩;have HV:=Qh (void_c hu (by have:=HBO.out.le;omega));have HF:=Qh hf;have HK3:=Qh (HK.out.trans hk3);clear HNW hu hf hk3))
  |(go_at_call 14;go_must (refine HV.out.mono ?_;rintro e w4 ⟨v,rfl,hov,hk4⟩;obtain⟨ap,cp,hvp,_,_,hgp⟩:=hov.look;subst hvp;have HG:=Qh hgp;have HK4:=Qh (HK3.out.trans hk4);obtain⟨L,hL⟩:∃L,L=voidF z:=⟨_,rfl⟩;rw[←hL] at HG⊢;have HL:=Qh hL;clear hov hk4 hgp hL HV)))
 cases L with
 |nil=>
  go_wp2_with fail
  go_ret2
  exact⟨X,z,b,HX.out,HF.out,by rw[←HL.out];try rfl,HK4.out⟩
 |cons n0 L=>
  obtain⟨g,rfl,_,_,hc⟩:=HG.out (by simp);have c0:w4.cell? ⟨g,0,none⟩=some (.int .i64 (n0:Nat)):=(hc 0 (by simp)).1;clear hc;rw[show decide (0<(n0::L).length)=true by simp];obtain⟨m,hm⟩:∃m,m=(n0::L).length:=⟨_,rfl⟩;have hm0:0<m:=by rw[hm];simp
  rw[←hm];clear hm;go_wp2_with fail
  go_ret2
  exact⟨X,z,b,HX.out,HF.out,by rw[←HL.out];try rfl,HK4.out⟩
def parseF(text:ByteArray):Option (RS×List GR×List (Nat×Nat)):=
 match RS.gather (text.size+1) 1 RS.none_ text with
 |none=>none
 |some R=>match finF R with|none=>none|some r=>some (R,r.1,r.2)
def ParsePost(text:ByteArray)(w:World)(e:Ending)(w':World):Prop:=
 Kn w w'∧match parseF text with
 |some r=>∃p:Nat,e= .returned (.tuple #[ptr p,.int .i64 0,.int .i64 0])∧GrAt w' p r.1 r.2.1 r.2.2
 |none=>∃k n:Int,n≠0∧e= .returned (.tuple #[.pointer none,.int .i64 k,.int .i64 n])
def strSz:Value→Nat
 | .string s=>s.size
 |_=>0
theorem cutZ_lt{s sep:ByteArray}(h:cutT s sep=true)(h1:1≤sep.size)(h0:¬s.size=0):(cutZ s sep).size<s.size:=by
 show(Lib.cut s.data.toList sep.data.toList).2.1.toArray.size<s.data.size;have h0':¬s.data.size=0:=h0;have h1':1≤sep.data.size:=h1;unfold cutT Lib.cut at h;unfold Lib.cut;split
 ·simp;omega
 ·rename_i hx;rw[if_neg hx] at h;cases h
theorem gather_end(f n:Nat)(R:RS)(s:ByteArray)(h:s.size=0):RS.gather (f+1) n R s=some R:=by
 unfold RS.gather;rw[if_pos h]
theorem gather_step(f n:Nat)(R:RS)(s:ByteArray)(h:¬s.size=0):RS.gather (f+1) n R s=if cutT s nlB=true then(match R.take n (cutA s nlB) with|some R1=>RS.gather f (n+1) R1 (cutZ s nlB)|none=>none) else none:=by
 rw[RS.gather,if_neg h];try rfl
theorem gparse_c(text:ByteArray)(w:World)(hm:MaxLenAt w)(hs:text.size≤1000000):
  Calls Tryz.prog 21 #[.string text] w (ParsePost text w):=by
 have hmm:= @run_makeMap Tryz.prog;have hno:¬(1048576:Int)<text.size:=by omega
 have hno':¬1048576<text.size:=by omega
 have HP:Hid (parseF text=match RS.gather (text.size+1) 1 RS.none_ text with
  |none=>none
  |some R=>match finF R with|none=>none|some r=>some (R,r.1,r.2)):=Qh rfl
 obtain⟨bn,hbn⟩:∃z,z=w.heap.size:=⟨_,rfl⟩;obtain⟨bc,hbc⟩:∃z,z=w.heap.size+1:=⟨_,rfl⟩;obtain⟨br,hbr⟩:∃z,z=w.heap.size+1+1:=⟨_,rfl⟩;obtain⟨p,hp⟩:∃z,z=w.heap.size+1+1+1:=⟨_,rfl⟩;obtain⟨W,hW⟩:∃z,z=(((w.alloc (.map #[] 0)).alloc (.map #[] 0)).alloc (.map #[] 0)).alloc (.cells #[.slice none 0 0,.slice none 0 0,.slice none 0 0,.slice none 0 0,.map none,.pointer none,.map (some bn),.map (some bc),.map (some br),.slice none 0 0] TGr):=⟨_,rfl⟩;have hkW:Kn w W:=by rw[hW];exact((((Qb _ _).alloc _).alloc _).alloc _).alloc _
 have e1:(w.alloc (.map #[] 0)).heap.size=bc:=by rw[size_alloc',hbc]
 have e2:((w.alloc (.map #[] 0)).alloc (.map #[] 0)).heap.size=br:=by rw[size_alloc',e1,hbr,hbc]
 have e3:(((w.alloc (.map #[] 0)).alloc (.map #[] 0)).alloc (.map #[] 0)).heap.size=p:=by rw[size_alloc',e2,hp,hbr]
 have hrd:RdAt W w.heap.size p RS.none_ ⟨.slice none 0 0,.slice none 0 0,.slice none 0 0,.slice none 0 0,.map none,.pointer none,bn,bc,br,.slice none 0 0,[]⟩:=by
  refine⟨?_,OwnK.nil (k:=1),OwnK.nil,OwnK.nil (k:=1),?_,?_,?_,OwnK.nil,rfl,(fun i a b=>by simp at a),⟨by show bn≠bc;omega,by show bn≠br;omega,by show bc≠br;omega⟩,(fun g hg=>by cases hg),⟨by omega,by show _≤bn;omega,by show _≤bc;omega,by show _≤br;omega⟩⟩
  ·have:=Qf (((w.alloc (.map #[] 0)).alloc (.map #[] 0)).alloc (.map #[] 0)) (.cells #[.slice none 0 0,.slice none 0 0,.slice none 0 0,.slice none 0 0,.map none,.pointer none,.map (some bn),.map (some bc),.map (some br),.slice none 0 0] TGr);rw[e3,←hW] at this;exact this
  ·have:=(((MapA.new w TS).kn ((Qb _ _).alloc (.map #[] 0))).kn ((Qb _ _).alloc (.map #[] 0))).kn ((Qb _ _).alloc (.cells #[.slice none 0 0,.slice none 0 0,.slice none 0 0,.slice none 0 0,.map none,.pointer none,.map (some bn),.map (some bc),.map (some br),.slice none 0 0] TGr));rw[←hW,←hbn] at this;exact this
  ·have:=(((MapA.new (w.alloc (.map #[] 0)) TS)).kn ((Qb _ _).alloc (.map #[] 0))).kn ((Qb _ _).alloc (.cells #[.slice none 0 0,.slice none 0 0,.slice none 0 0,.slice none 0 0,.map none,.pointer none,.map (some bn),.map (some bc),.map (some br),.slice none 0 0] TGr));rw[←hW,e1] at this;exact this
  ·have:=(MapA.new ((w.alloc (.map #[] 0)).alloc (.map #[] 0)) TS).kn ((Qb _ _).alloc (.cells #[.slice none 0 0,.slice none 0 0,.slice none 0 0,.slice none 0 0,.map none,.pointer none,.map (some bn),.map (some bc),.map (some br),.slice none 0 0] TGr));rw[←hW,e2] at this;exact this
 have HRD:=Qh hrd;have HOK:Hid (RSok RS.none_):=Qh ⟨by simp[RS.none_],by simp[RS.none_],by simp[RS.none_],by simp[RS.none_],fun s h=>by simp[RS.none_] at h,fun s h=>by simp[RS.none_] at h,fun s h=>by simp[RS.none_] at h⟩;have HW:=Qh hW;have HB:=Qh (And.intro hbn (And.intro hbc (And.intro hbr hp)));have HM:=Qh (fun w' (hk:Kn w w')=>hm.kn hk);clear hrd hW e1 e2 e3 hbn hbc hbr hp hm;go_enter Tryz.func21,Tryz.ntmps21;go_upto_region 4 with fail
 rw[←HB.out.2.2.2,←HB.out.2.2.1,←HB.out.2.1,←HB.out.1,←HW.out];go_wp2_with fail
 go_loopw [0,6] (fun s0 s6 wr=>∃(f n:Nat) (R:RS) (A:RA) (s:ByteArray),s0= .string s∧s6= .int .i64 n∧Hid (RS.gather f n R s=RS.gather (text.size+1) 1 RS.none_ text)∧s.size<f∧n+s.size≤text.size+1∧1≤n∧Hid (RdAt wr w.heap.size p R A)∧Hid (RSok R)∧Hid (A.vr= .slice none 0 0∧A.sc= .pointer none)∧Kn w wr) (fun s0 _ _=>strSz s0)
 case atStart=>exact⟨text.size+1,1,RS.none_,_,text,rfl,rfl,Qh rfl,by omega,by omega,Nat.le_refl _,HRD,HOK,Qh ⟨rfl,rfl⟩,hkW⟩
 case round=>
  clear HRD HOK;obtain⟨f,n,R,A,s,rfl,rfl,hga,hf,hn,hn1,hrd,hok,hnl,hkn⟩:=hrel;by_cases h0:s.size=0
  ·have he:=isE_true h0;obtain⟨f2,rfl⟩:∃f2,f=f2+1:=⟨f-1,by omega⟩;have HG:Hid (RS.gather (text.size+1) 1 RS.none_ text=some R):=Qh (by rw[←hga.out];exact gather_end _ _ _ _ h0);have HFI:=Qh (finish_c hrd.out hok.out hnl.out.1 hnl.out.2);clear h0 hga;go_wp2_with fail
   refine HFI.out.mono ?_;rintro e w2 ⟨k,n2,rfl,hk2,hmt⟩;have hkn2:=hkn.trans' hk2 (fun i hi e=>by omega);cases hfi:finF R with
   |none=>
    rw[hfi] at hmt;dsimp only at hmt;have hn2:(n2==0)=false:=by rw[beq_eq_false_iff_ne];exact hmt
    have hF:Hid (parseF text=none):=Qh (by rw[HP.out,HG.out];dsimp only;rw[hfi]);have HN:=Qh hmt;clear hfi hmt HP;go_wp2_with fail
    go_ret3
    refine⟨hkn2,?_⟩;rw[hF.out];exact⟨k,n2,HN.out,rfl⟩
   |some r=>
    rw[hfi] at hmt;dsimp only at hmt;obtain⟨rfl,rfl,hgr⟩:=hmt;have hF:Hid (parseF text=some (R,r.1,r.2)):=Qh (by rw[HP.out,HG.out];dsimp only;rw[hfi]);have HGR:=Qh hgr;clear hfi hgr HP;go_wp2_with fail
    go_ret3
    refine⟨hkn2,?_⟩;rw[hF.out];exact⟨p,rfl,HGR.out⟩
  ·have he:=Ys h0;obtain⟨f2,rfl⟩:∃f2,f=f2+1:=⟨f-1,by omega⟩;have hst:=gather_step f2 n R s h0;rw[hga.out] at hst;have HC:=Qh (cut_c s ⟨#[10]⟩ wr (HM.out wr hkn) (by omega));change _=if cutT s ⟨#[10]⟩=true then(match R.take n (cutA s ⟨#[10]⟩) with|some R1=>RS.gather f2 (n+1) R1 (cutZ s ⟨#[10]⟩)|none=>none) else none at hst;have hca:=cutA_le s ⟨#[10]⟩;cases ht:cutT s ⟨#[10]⟩ with
   |false=>
    rw[ht] at hst HC;have hF:Hid (parseF text=none):=Qh (by rw[HP.out,hst];try rfl);clear hst ht h0 hga HP;go_wp2_with fail
    refine HC.out.mono ?_;rintro e w2 ⟨rfl,hk2⟩;have hkn2:=hkn.trans hk2;go_wp2_with fail
    go_ret3
    refine⟨hkn2,?_⟩;rw[hF.out];exact⟨n,4,by decide,rfl⟩
   |true=>
    rw[ht] at hst HC;have hlt:=cutZ_lt ht (by decide) h0;obtain⟨la,hla⟩:∃la,la=cutA s ⟨#[10]⟩:=⟨_,rfl⟩;obtain⟨lz,hlz⟩:∃lz,lz=cutZ s ⟨#[10]⟩:=⟨_,rfl⟩;rw[←hla,←hlz] at hst HC;rw[←hla] at hca;rw[←hlz] at hlt;have HST:=Qh hst;clear hst ht h0 hga hla hlz;go_wp2_with fail
    refine HC.out.mono ?_;rintro e w2 ⟨rfl,hk2⟩;have hkn2:=hkn.trans hk2;have HTK:=Qh (take_c (num:=n) la (hrd.out.kn hk2) hok.out (HM.out w2 hkn2) (by omega) (by omega));clear hrd;go_wp2_with fail
    refine HTK.out.mono ?_;rintro e w3 ⟨n3,rfl,hk3,hmt⟩;have hkn3:=hkn2.trans' hk3 (fun i hi e=>by omega);cases htk:R.take n la with
    |none=>
     rw[htk] at hmt;dsimp only at hmt;have hn2:(n3==0)=false:=by rw[beq_eq_false_iff_ne];exact hmt
     have hF:Hid (parseF text=none):=Qh (by rw[HP.out,HST.out,htk];try rfl);have HN:=Qh hmt;clear htk hmt HP;go_wp2_with fail
     go_ret3
     refine⟨hkn3,?_⟩;rw[hF.out];exact⟨n,n3,HN.out,rfl⟩
    |some R2=>
     rw[htk] at hmt;dsimp only at hmt;obtain⟨rfl,hok2,A2,hrd2,hv2,hs2⟩:=hmt;have HGA:Hid (RS.gather f2 (n+1) R2 lz=RS.gather (text.size+1) 1 RS.none_ text):=Qh (by rw[HST.out,htk];try rfl);have HRD2:=Qh hrd2;have HOK2:=Qh hok2;have HNL2:=Qh (And.intro (hv2.trans hnl.out.1) (hs2.trans hnl.out.2));clear htk hrd2 hok2 hv2 hs2;go_wp2_with fail
     go_roundw
     case rel=>exact⟨f2,n+1,R2,A2,lz,rfl,by go_num,HGA,by omega,by omega,by omega,HRD2,HOK2,HNL2,hkn3⟩
     case measure=>simp[strSz];omega
end Go.Proofs.YtiehgcfckhepaaaGreatDoor
namespace Go.Proofs.YtiehgcfckhepaaaGreatDoor
def exB:ByteArray:=⟨#[116,111,107,101,110,32,110,117,109,32,91,48,45,57,93,43,10,115,111,114,116,32,101,10,114,117,108,101,32,101,32,49,32,65,100,100,32,61,32,101,58,49,32,39,43,32,101,58,50,10,114,117,108,101,32,101,32,57,32,78,117,109,32,61,32,110,117,109,10,98,114,97,99,107,101,116,32,101,32,39,40,32,39,41,10]⟩
def exC:GC:=⟨⟨#[110,117,109]⟩,⟨#[91,48,45,57,93,43]⟩,false⟩
instance:DecidableEq GC:=fun a b=>if h:a.name=b.name∧a.regex=b.regex∧a.layout=b.layout then isTrue (by cases a;cases b;obtain⟨h0,h1,h2⟩:=h;simp only at*;subst_vars;rfl) else isFalse (fun e=>h (by subst e;exact⟨rfl,rfl,rfl⟩))
instance:DecidableEq GW:=fun a b=>if h:a.lit=b.lit∧a.name=b.name∧a.level=b.level∧a.sort=b.sort then isTrue (by cases a;cases b;obtain⟨h0,h1,h2,h3⟩:=h;simp only at*;subst_vars;rfl) else isFalse (fun e=>h (by subst e;exact⟨rfl,rfl,rfl,rfl⟩))
instance:DecidableEq GL:=fun a b=>if h:a.number=b.number∧a.sort=b.sort∧a.cons=b.cons∧a.level=b.level∧a.words=b.words∧a.round=b.round then isTrue (by cases a;cases b;obtain⟨h0,h1,h2,h3,h4,h5⟩:=h;simp only at*;subst_vars;rfl) else isFalse (fun e=>h (by subst e;exact⟨rfl,rfl,rfl,rfl,rfl,rfl⟩))
instance:DecidableEq RS:=fun a b=>if h:a.lits=b.lits∧a.cls=b.cls∧a.sorts=b.sorts∧a.names=b.names∧a.cons=b.cons∧a.rounds=b.rounds∧a.lines=b.lines then isTrue (by cases a;cases b;obtain⟨h0,h1,h2,h3,h4,h5,h6⟩:=h;simp only at*;subst_vars;rfl) else isFalse (fun e=>h (by subst e;exact⟨rfl,rfl,rfl,rfl,rfl,rfl,rfl⟩))
instance:DecidableEq GP:=fun a b=>if h:a.cls=b.cls∧a.sort=b.sort∧a.level=b.level∧a.fixed=b.fixed then isTrue (by cases a;cases b;obtain⟨h0,h1,h2,h3⟩:=h;simp only at*;subst_vars;rfl) else isFalse (fun e=>h (by subst e;exact⟨rfl,rfl,rfl,rfl⟩))
instance:DecidableEq GR:=fun a b=>if h:a.sort=b.sort∧a.cons=b.cons∧a.level=b.level∧a.parts=b.parts then isTrue (by cases a;cases b;obtain⟨h0,h1,h2,h3⟩:=h;simp only at*;subst_vars;rfl) else isFalse (fun e=>h (by subst e;exact⟨rfl,rfl,rfl,rfl⟩))
def exE:ByteArray:=⟨#[101]⟩
def exR:RS:=⟨[⟨#[43]⟩,⟨#[40]⟩,⟨#[41]⟩],[exC],[exE],[exC.name,exE],[⟨#[65,100,100]⟩,⟨#[78,117,109]⟩],[exE],[
 ⟨3,exE,⟨#[65,100,100]⟩,1,[⟨emptyB,exE,1,true⟩,⟨⟨#[43]⟩,emptyB,0,false⟩,⟨emptyB,exE,2,true⟩],false⟩,
 ⟨4,exE,⟨#[78,117,109]⟩,9,[⟨emptyB,exC.name,0,false⟩],false⟩,
 ⟨5,exE,emptyB,9,[⟨⟨#[40]⟩,emptyB,0,false⟩,⟨emptyB,exE,0,true⟩,⟨⟨#[41]⟩,emptyB,0,false⟩],true⟩]⟩
theorem ex_rest:RS.linkGo exR exR.lines [] []=some ([⟨0,⟨#[65,100,100]⟩,1,[⟨-1,0,1,false⟩,⟨0,-1,0,true⟩,⟨-1,0,2,false⟩]⟩,⟨0,⟨#[78,117,109]⟩,9,[⟨3,-1,0,false⟩]⟩,⟨0,emptyB,9,[⟨1,-1,0,true⟩,⟨-1,0,0,false⟩,⟨2,-1,0,true⟩]⟩],[(0,2)]):=by decide+kernel
theorem ex_gather:RS.gather 81 1 RS.none_ exB=some exR:=by decide+kernel
def decX(i:Nat):ByteArray:=if i<10 then⟨#[UInt8.ofNat (48+i)]⟩ else if i<100 then⟨#[UInt8.ofNat (48+i/10),UInt8.ofNat (48+i%10)]⟩ else⟨(Lib.decDigits i).toArray⟩
theorem decB_X:decB=decX:=by
 funext i;unfold decB decX;split
 ·rename_i h;rw[Lib.decDigits_one h]
 ·split
  ·rename_i h1 h2;rw[Lib.decDigits_two h1 h2]
  ·rfl
def litG(dec:Nat→ByteArray)(R:RS):List GC:=R.lits.zipIdx.map (fun p=>⟨(⟨#[108,105,116]⟩:ByteArray)++dec p.2,escF p.1,false⟩)
theorem clsOf_G(R:RS):QH R=litG decX R++R.cls:=by rw[←decB_X];try rfl
def exRs:List GR:=[⟨0,⟨#[65,100,100]⟩,1,[⟨-1,0,1,false⟩,⟨0,-1,0,true⟩,⟨-1,0,2,false⟩]⟩,⟨0,⟨#[78,117,109]⟩,9,[⟨3,-1,0,false⟩]⟩,⟨0,emptyB,9,[⟨1,-1,0,true⟩,⟨-1,0,0,false⟩,⟨2,-1,0,true⟩]⟩]
theorem ex_cls:(Ym (QH exR)).isSome=true:=by rw[clsOf_G];decide+kernel
theorem ex_parse:parseF exB=some (exR,exRs,[(0,2)]):=by
 have h1:RS.gather (exB.size+1) 1 RS.none_ exB=some exR:=ex_gather;unfold parseF;rw[h1];dsimp only;have h2:finF exR=some (exRs,[(0,2)]):=by
  unfold finF;rw[ex_rest];dsimp only;rw[if_neg (by decide),if_neg (by rw[clsOf_G];decide),if_pos ex_cls];rfl
 rw[h2]
theorem ex_build:(buildF exRs).places=[(0,0),(0,1),(0,2)]∧(buildF exRs).l.length=8:=by decide+kernel
theorem itF_shift{α:Type}(f:α→α×Bool):∀(k:Nat) (a:α),itF f k (f a).1=itF f (k+1) a
 |0,a=>rfl
 |k+1,a=>by show(f (itF f k (f a).1)).1=_;rw[itF_shift f k a];try rfl
def goF{α:Type}(f:α→α×Bool):Nat→α→Option α
 |0,_=>none
 |k+1,a=>if(f a).2=true then goF f k (f a).1 else some (f a).1
theorem goF_fin{α:Type}(f:α→α×Bool):∀(k:Nat) (a z:α),goF f k a=some z→Fin f a z
 |0,a,z,h=>by cases h
 |k+1,a,z,h=>by
  unfold goF at h;split at h
  ·rename_i hm;obtain⟨j,h1,h2,h3⟩:=goF_fin f k _ z h;refine⟨j+1,?_,?_,fun i hi=> ?_⟩
   ·rw[h1,itF_shift]
   ·rw[←itF_shift];exact h2
   ·cases i with
    |zero=>exact hm
    |succ i=>rw[←itF_shift];exact h3 i (by omega)
  ·rename_i hm;injection h with h;exact⟨0,h.symm,by simpa[itF] using hm,fun j hj=>absurd hj (Nat.not_lt_zero _)⟩
def bB:ByteArray:=⟨#[116,111,107,101,110,32,97,32,97,10,115,111,114,116,32,115,10,114,117,108,101,32,115,32,48,32,65,32,61,32,97,32,115,58,48,10]⟩
def bR:RS:=⟨[],[⟨⟨#[97]⟩,⟨#[97]⟩,false⟩],[⟨#[115]⟩],[⟨#[97]⟩,⟨#[115]⟩],[⟨#[65]⟩],[],[⟨3,⟨#[115]⟩,⟨#[65]⟩,0,[⟨emptyB,⟨#[97]⟩,0,false⟩,⟨emptyB,⟨#[115]⟩,0,true⟩],false⟩]⟩
def bRs:List GR:=[⟨0,⟨#[65]⟩,0,[⟨0,-1,0,false⟩,⟨-1,0,0,false⟩]⟩]
theorem b_gather:RS.gather (bB.size+1) 1 RS.none_ bB=some bR:=by decide+kernel
theorem b_rest:RS.linkGo bR bR.lines [] []=some (bRs,[]):=by decide+kernel
theorem b_cls:(Ym (QH bR)).isSome=true:=by rw[clsOf_G];decide+kernel
theorem b_parse:parseF bB=some (bR,bRs,[]):=by
 unfold parseF;rw[b_gather];dsimp only;have h2:finF bR=some (bRs,[]):=by
  unfold finF;rw[b_rest];dsimp only;rw[if_neg (by decide),if_neg (by rw[clsOf_G];decide),if_pos b_cls]
 rw[h2]
theorem b_build:(buildF bRs).places=[(0,0)]:=by decide+kernel
theorem b_fin:goF (rndF (buildF bRs).l) 9 ([-1],[-1])=some ([-1],[-1]):=by decide+kernel
theorem ex_fin:goF (rndF (buildF exRs).l) 9 ([-1,-1,-1],[-1,-1,-1])=some ([1,1,1],[1,4,6]):=by decide+kernel
theorem b_void{X:SX}{n:Nat}{z b:List Int}(h:IsSets bRs n X)(hf:Fin (rndF X.b.l) (List.replicate X.b.places.length (-1),List.replicate X.b.places.length (-1)) (z,b)):voidF z=[0]:=by
 rw[h.1,b_build] at hf;have e:=hf.uni (goF_fin _ _ _ _ b_fin);rw[show z=[-1] from congrArg Prod.fst e];decide
theorem ex_void{X:SX}{n:Nat}{z b:List Int}(h:IsSets exRs n X)(hf:Fin (rndF X.b.l) (List.replicate X.b.places.length (-1),List.replicate X.b.places.length (-1)) (z,b)):voidF z=[]:=by
 rw[h.1,ex_build.1] at hf;have e:=hf.uni (goF_fin _ _ _ _ ex_fin);rw[show z=[1,1,1] from congrArg Prod.fst e];decide
open Go.RowKit Go.Maps
theorem ex_size:exB.size≤1000000:=by decide
theorem ex_rok:RulesOk exRs:=⟨by decide,by decide,fun r hr q hq=>⟨by revert q;revert r;decide,by revert q;revert r;decide,by revert q;revert r;decide⟩,by decide⟩
theorem unew_nil(w:World):Calls Tryz.prog 9 #[.pointer none] w fun e w'=>e= .returned (.tuple #[.pointer none,.int .i64 1])∧w=w':=by
 go_enter Tryz.func9,Tryz.ntmps9;go_wp2_with fail
 go_ret2
 exact⟨rfl,rfl⟩
theorem uvoid_nil(w:World):Calls Tryz.prog 14 #[.pointer none] w fun e w'=>e= .returned (.slice none 0 0)∧w=w':=by
 go_enter Tryz.func14,Tryz.ntmps14;go_wp2_with fail
 go_ret;exact⟨rfl,rfl⟩
theorem usize_nil(n:Int)(w:World):Calls Tryz.prog 10 #[.pointer none,.int .i64 n] w fun e w'=>e= .returned (.tuple #[.int .i64 0,.bool false])∧w=w':=by
 go_enter Tryz.func10,Tryz.ntmps10;go_wp2_with fail
 go_ret2
 exact⟨rfl,rfl⟩
theorem uunused_nil(w:World):Calls Tryz.prog 12 #[.pointer none,.pointer none] w fun e w'=>e= .returned (.tuple #[.slice none 0 0,.slice none 0 0])∧w=w':=by
 go_enter Tryz.func12,Tryz.ntmps12;go_wp2_with fail
 go_ret2
 exact⟨rfl,rfl⟩
theorem uyield_nil(n:Int)(w:World):Calls Tryz.prog 11 #[.pointer none,.int .i64 n] w fun e w'=>e= .returned (.tuple #[.slice none 0 0,.bool false])∧w=w':=by
 have H:=Qh (usize_nil n w);go_enter Tryz.func11,Tryz.ntmps11;go_wp2_with (first|(go_at_call 10;go_must (refine H.out.mono ?_;rintro e w' ⟨rfl,rfl⟩)))
 go_ret2
 exact⟨rfl,rfl⟩
theorem ucheck_nil(w:World):Calls Tryz.prog 13 #[.pointer none] w fun e w'=>e= .returned (.tuple #[.int .i64 0,.int .i64 1])∧w=w':=by
 have H:=Qh (new_nil w);go_enter Tryz.func13,Tryz.ntmps13;go_wp2_with (first|(go_at_call 22;go_must (refine H.out.mono ?_;rintro e w' ⟨rfl,rfl⟩)))
 go_ret2
 exact⟨rfl,rfl⟩
theorem b_size:bB.size≤1000000:=by decide
theorem b_rok:RulesOk bRs:=⟨by decide,by decide,fun r hr q hq=>⟨by revert q;revert r;decide,by revert q;revert r;decide,by revert q;revert r;decide⟩,by decide⟩
theorem uawake_c(w:World)(hm:MaxLenAt w):Calls Tryz.prog 15 #[] w fun e w'=>e= .returned (.bool true)∧Kn w w':=by
 have HM:=Qh (fun(w':World) (hk:Kn w w')=>gparse_c exB w' (hm.kn hk) ex_size);have HPC:=Qh (gparse_c bB w hm b_size);have HK0:Hid (Kn w w):=Qh (Qb _ _);clear hm;go_enter Tryz.func15,Tryz.ntmps15;go_upto_region 3 with(first
  |(go_at_call 21;go_must (refine HPC.out.mono ?_;rintro e w1 ⟨hk1,hpp⟩;rw[b_parse] at hpp;obtain⟨p,rfl,hg⟩:=hpp;have HN:=Qh (check_c hg b_rok);have HK1:=Qh hk1;clear hk1 HPC hg))
  |(go_at_call 13;go_must (refine HN.out.mono ?_;rintro e w2 ⟨X,z,b,hX,hf,rfl,hk2⟩;rw[b_void hX hf];have HK2:=Qh (HK1.out.trans hk2);clear hX hf hk2 HN HK1)))
 have HPC:=Qh (HM.out _ HK2.out);go_wp2_with (first
  |(go_at_call 21;go_must (refine HPC.out.mono ?_;rintro e w1 ⟨hk1,hpp⟩;rw[ex_parse] at hpp;obtain⟨p,rfl,hg⟩:=hpp;have HN:=Qh (check_c hg ex_rok);have HK1:=Qh (HK2.out.trans hk1);clear hk1 HPC hg))
  |(go_at_call 13;go_must (refine HN.out.mono ?_;rintro e w3 ⟨X,z,b,hX,hf,rfl,hk2⟩;rw[ex_void hX hf];have HK3:=Qh (HK1.out.trans hk2);clear hX hf hk2 HN HK1)))
 go_ret;exact⟨rfl,HK3.out⟩
theorem unone_c(n:Int)(w:World)(hm:MaxLenAt w):Calls Tryz.prog 3 #[.int .i64 n] w fun e w'=>e= .returned (.bool true)∧Kn w w':=by
 have HA:=Qh (uawake_c w hm);have H1:=Qh (unew_nil w);have H2:=Qh (usize_nil n w);have H3:=Qh (uyield_nil n w);have H4:=Qh (uunused_nil w);have H5:=Qh (ucheck_nil w);have H6:=Qh (uvoid_nil w);go_enter Tryz.func3,Tryz.ntmps3;go_wp2_with (first
  |(go_at_call 9;go_must (refine H1.out.mono ?_;rintro e w' ⟨rfl,rfl⟩))
  |(go_at_call 10;go_must (refine H2.out.mono ?_;rintro e w' ⟨rfl,rfl⟩))
  |(go_at_call 11;go_must (refine H3.out.mono ?_;rintro e w' ⟨rfl,rfl⟩))
  |(go_at_call 12;go_must (refine H4.out.mono ?_;rintro e w' ⟨rfl,rfl⟩))
  |(go_at_call 13;go_must (refine H5.out.mono ?_;rintro e w' ⟨rfl,rfl⟩))
  |(go_at_call 14;go_must (refine H6.out.mono ?_;rintro e w' ⟨rfl,rfl⟩))
  |(go_at_call 15;go_must (refine HA.out.mono ?_;rintro e w' ⟨rfl,hk⟩;have HK:=Qh hk;clear hk)))
 go_ret;exact⟨rfl,HK.out⟩
end Go.Proofs.YtiehgcfckhepaaaGreatDoor
