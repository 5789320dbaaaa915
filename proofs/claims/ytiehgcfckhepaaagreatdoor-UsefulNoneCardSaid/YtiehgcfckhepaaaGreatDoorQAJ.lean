/-
  Texts of this claim, laid together: TFollow, TFix, TSym, TOk, TBdMem, TBuild, TRounds, GLink. Conditions: none.
-/
import Derived.Test.YtiehgcfckhepaaaGreatDoorQAI
import Derived.Test.YtiehgcfckhepaaaGreatDoorQAG
import Derived.Test.YtiehgcfckhepaaaGreatDoorQAC
set_option linter.unusedVariables false
set_option linter.unusedSimpArgs false
set_option maxRecDepth 100000
set_option maxHeartbeats 16000000
namespace Go.Proofs.YtiehgcfckhepaaaGreatDoor
open Go.RowKit Go.Maps
def WK(E:List Bool)(F:List Nat)(l:List PR)(a:WS)(k:Nat):WS:=(l.take k).foldl (YF E F) a
theorem WK_succ{E:List Bool}{F:List Nat}{l:List PR}{k:Nat}(a:WS)(hk:k<l.length):WK E F l a (k+1)=YF E F (WK E F l a k) l[k]:=by
 unfold WK;rw[List.take_succ_eq_append_getElem hk,List.foldl_append];try rfl
def YK(E:List Bool)(F:List Nat)(p:PR)(a:WS)(j:Nat):WS:=(p.syms.zipIdx.take j).foldl (Yo E F p) a
theorem YK_succ{E:List Bool}{F:List Nat}{p:PR}{j:Nat}(a:WS)(hj:j<p.syms.length):YK E F p a (j+1)=Yo E F p (YK E F p a j) (p.syms[j],j):=by
 unfold YK;rw[List.take_succ_eq_append_getElem (by rw[List.length_zipIdx];exact hj),List.foldl_append];simp
theorem YK_all{E:List Bool}{F:List Nat}{p:PR}(a:WS):YK E F p a p.syms.length=YF E F a p:=by
 unfold YK YF;rw[List.take_of_length_le (by rw[List.length_zipIdx];exact Nat.le_refl _)]
theorem follows_c{B p ge gf gw:Nat}{S:SB}{A:SA}{E:List Bool}{F W:List Nat}{w:World}(h:StAt w B p S A E F W ge gf gw)(ok:SBok S):
  Calls Tryz.prog 69 #[ptr p] w fun e w'=>e= .returned (.bool (followP E F S.l W).more)∧StAt w' B p S A E F (followP E F S.l W).follow ge gf gw∧K1 gw w w':=by
 have hpl:=h.lt;have H:=Qh h;have HOK:=Qh ok;have hle:=ok.le;obtain⟨al,cl,hvl,q2,hg⟩:=h.prod;have HVL:=Qh hvl;have hll:=ok.ll;clear h ok hg hvl;go_enter Tryz.func69,Tryz.ntmps69;go_wp2_with fail
 go_loopw [3,15] (fun s3 s15 wr=>∃(k:Nat) (a:WS),s3= .bool a.more∧s15= .int .i64 k∧k≤S.l.length∧Hid (a=WK E F S.l ⟨W,false⟩ k)∧Hid (StAt wr B p S A E F a.follow ge gf gw)∧K1 gw w wr) (fun _ s15 _=>S.l.length-(intOf s15).toNat)
 case atStart=>exact⟨0,⟨W,false⟩,rfl,rfl,Nat.zero_le _,Qh rfl,H,Qb _ _⟩
 case round=>
  obtain⟨k,a,rfl,rfl,hk,hak,hst,hkp⟩:=hrel;by_cases hlt:k<S.l.length
  ·obtain⟨ar,cr,hv2,q2r,hgr⟩:=hst.out.prod;obtain⟨rfl,rfl⟩:ar=al∧cr=cl:=by
    have h9:=hv2.symm.trans HVL.out;injection h9 with e1 e2 e3;exact⟨e1,e3⟩
   obtain⟨g,rfl,hcs⟩:=hgr (fun e=>by rw[e] at hlt;simp at hlt);obtain⟨c0,c1,asy,cs,c2,hcs1,hcs2,hsy⟩:=hcs k hlt;obtain⟨hpp,hpr,hps,hpy⟩:=HOK.out.pr _ (List.getElem_mem hlt);have HST:=Qh (WK_succ (E:=E) (F:=F) ⟨W,false⟩ hlt);obtain⟨pr,hpre⟩:∃z,z=S.l[k]:=⟨_,rfl⟩;rw[←hpre] at c0 c1 c2 hcs1 hsy hpp hps hpy HST;rw[←hak.out] at HST;have hgl3:=World.block_lt_of_cell? wr _ c0;obtain⟨w2,hw2⟩:∃z,z=wr.alloc (.cells #[.int .i64 (pr.place:Nat),.int .i64 (pr.rule:Nat),.slice asy pr.syms.length cs] TPr):=⟨_,rfl⟩;have hk2:Kn wr w2:=by rw[hw2];exact(Qb _ _).alloc _
   obtain⟨b5,hb5⟩:∃z,z=wr.heap.size:=⟨_,rfl⟩;have hB5:w2.heap[b5]? =some (.cells #[.int .i64 (pr.place:Nat),.int .i64 (pr.rule:Nat),.slice asy pr.syms.length cs] TPr (0,0)):=by rw[hw2,hb5];exact Qf _ _
   have y0:w2.cell? ⟨b5,0,none⟩=some (.int .i64 (pr.place:Nat)):=by rw[Qa hB5];try rfl
   have y2:w2.cell? ⟨b5,2,none⟩=some (.slice asy pr.syms.length cs):=by rw[Qa hB5];try rfl
   have HS2:=Qh (hst.out.kn hk2);have HKP2:=Qh (hkp.trans (Kp.weak hk2));have HSY:Hid (pr.syms≠[]→∃gs,asy=some ⟨gs,0,none⟩∧SyR w2 gs 0 pr.syms∧gs≠gw):=Qh (fun hne=>by
    obtain⟨gs,hgs,hr,cur,hcur⟩:=hsy hne;exact⟨gs,hgs,fun i hi=>⟨Qc hk2 (hr i hi).1,Qc hk2 (hr i hi).2⟩,fun e=>by rw[e] at hcur;exact Qn hst.out.rw_ hcur (by decide)⟩)
   have HW2:=Qh (And.intro hw2 hb5);have HG5:Hid (b5≠gw):=Qh (by have h1:=Ql hst.out.rw_;omega);have HPY:=Qh hpy;have HB5:=Qh hB5;clear hw2 hb5 hB5 hk2 hpre hcs hgr hsy hpy;go_upto_region 5 with fail
   rw[←HW2.out.1,←HW2.out.2];clear c0 c1 c2 HW2 hgl3 q2r hv2;obtain⟨wo,hwo⟩:∃z,z=wr:=⟨_,rfl⟩;subst hwo;go_wp2_with fail
   go_loopw [3,22] (fun s3 s22 wi=>∃(j:Nat) (a2:WS),s3= .bool a2.more∧s22= .int .i64 j∧j≤pr.syms.length∧Hid (a2=YK E F pr a j)∧Hid (StAt wi B p S A E F a2.follow ge gf gw)∧K1 gw w2 wi) (fun _ s22 _=>pr.syms.length-(intOf s22).toNat)
   case atStart=>exact⟨0,a,rfl,rfl,Nat.zero_le _,Qh rfl,HS2,Qb _ _⟩
   case round=>
    clear HS2;obtain⟨j,a2,rfl,rfl,hj,haj,hs3,hk3⟩:=hrel;have z0:=Qi hk3 y0 HG5.out;have z2:=Qi hk3 y2 HG5.out;by_cases hjl:j<pr.syms.length
    ·obtain⟨gs,rfl,hsr,hgs⟩:=HSY.out (fun e=>by rw[e] at hjl;simp at hjl);have v0:=Qi hk3 (hsr j hjl).1 hgs;have v1:=Qi hk3 (hsr j hjl).2 hgs;rw[Nat.zero_add] at v0 v1;have HYS:=Qh (YK_succ (E:=E) (F:=F) (p:=pr) a hjl);rw[←haj.out] at HYS;have hyo:=HPY.out _ (List.getElem_mem hjl);obtain⟨y,hy⟩:∃z,z=pr.syms[j]:=⟨_,rfl⟩;rw[←hy] at v0 v1 HYS hyo;have hgl4:=World.block_lt_of_cell? wr _ v0;obtain⟨w3,hw3⟩:∃z,z=wr.alloc (.cells #[.bool y.place,.int .i64 y.n] TSy):=⟨_,rfl⟩;have hk33:Kn wr w3:=by rw[hw3];exact(Qb _ _).alloc _
     obtain⟨b7,hb7⟩:∃z,z=wr.heap.size:=⟨_,rfl⟩;have hB7:w3.heap[b7]? =some (.cells #[.bool y.place,.int .i64 y.n] TSy (0,0)):=by rw[hw3,hb7];exact Qf _ _
     have u0:w3.cell? ⟨b7,0,none⟩=some (.bool y.place):=by rw[Qa hB7];try rfl
     have u1:w3.cell? ⟨b7,1,none⟩=some (.int .i64 y.n):=by rw[Qa hB7];try rfl
     have HKK:=Qh hk33;have HS33:=Qh (hs3.out.kn hk33);have HKP3:=Qh (hk3.trans (Kp.weak hk33));have t0:=Qc hk33 z0;have t2:=Qc hk33 z2;have HW3:=Qh (And.intro hw3 hb7);have hb7w:b7≠gw:=by have h1:=Ql hs3.out.rw_;omega
     clear hw3 hb7 hB7 hk33 z0 z2 hs3 hy;cases hyp:y.place with
     |false=>
      rw[hyp] at u0 v0 HW3;have HF2:Hid (YK E F pr a (j+1)=a2):=Qh (by rw[HYS.out];unfold Yo;rw[if_pos hyp]);clear hyp HYS;go_upto_region 8 with fail
      rw[←HW3.out.1,←HW3.out.2];go_wp2_with fail
      go_roundw
      case rel=>exact⟨j+1,a2,rfl,by go_num,by omega,Qh HF2.out.symm,HS33,HKP3.out⟩
      case measure=>simp[intOf];omega
     |true=>
      rw[hyp] at u0 v0 HW3 hyo;obtain⟨m,hm⟩:=Int.eq_ofNat_of_zero_le (show 0≤y.n by simp at hyo;omega);have hml:m<S.places.length:=by simp at hyo;omega
      have hmt:y.n.toNat=m:=by omega
      rw[hm] at u1 v1 HW3;have HFY:Hid (YK E F pr a (j+1)=if followX E F pr a2 j y=a2.follow.getD m 0 then a2 else⟨a2.follow.set m (followX E F pr a2 j y),true⟩):=Qh (by rw[HYS.out];unfold Yo;rw[if_neg (by rw[hyp];simp)];dsimp only;rw[hmt]);have hMT:=Qh hmt;clear hyp HYS hyo hm hmt;have hdl:(pr.syms.drop (j+1)).length=pr.syms.length-(j+1):=List.length_drop ..
      have hjle:j+1≤pr.syms.length:=by omega
      obtain⟨r,hr⟩:∃z,z=QB E F 0 (pr.syms.drop (j+1)):=⟨_,rfl⟩;have hrl:=beginsF_lt (E:=E) HS33.out.fz (pr.syms.drop (j+1)) 0 (by decide);have HBG:Hid (∀(a':Option Addr) (c':Nat),SyS w3 a' (pr.syms.drop (j+1))→Calls Tryz.prog 115 #[ptr p,.slice a' (pr.syms.length-(j+1)) c'] w3 fun e w'=>e= .returned (.tuple #[.agg #[.int .u64 (r.1:Nat)],.bool r.2])∧Kn w3 w'):=Qh (fun a' c' hs=>by
       have h9:=begins_c (c:=c') (a:=a') (pr.syms.drop (j+1)) HS33.out hle hs (by omega);rw[hdl,←hr] at h9;exact h9)
      have HSR:Hid (SyR w3 gs 0 pr.syms):=Qh (fun i hi=>⟨Qc HKK.out (Qi hk3 (hsr i hi).1 hgs),Qc HKK.out (Qi hk3 (hsr i hi).2 hgs)⟩);rw[←hr] at hrl;have HR:=Qh hr;clear hr hk3 hsr hdl;go_upto_region 8 with fail
      rw[←HW3.out.1,←HW3.out.2];clear v0 v1 hgl4 HW3;obtain⟨n,hn⟩:∃z,z=pr.syms.length:=⟨_,rfl⟩;rw[←hn] at t2 hjl hjle HBG hcs1⊢;have HN:=Qh hn;clear hn;go_upto_region 9 with fail
      have HJX:Hid (n=j+1→pr.syms.drop (j+1)=[]):=Qh (fun e=>List.drop_eq_nil_of_le (by rw[←HN.out];omega));go_cut [8,9] (fun s8 s9 wc=>∃b8:Nat,s8=ptr b8∧s9= .bool r.2∧w3.heap.size≤b8∧Hid (wc.heap[b8]? =some (.cells #[.int .u64 (r.1:Nat)] TBi (0,0)))∧Kn w3 wc)
      case first=>
       by_cases hz:cs=j+1
       ·obtain rfl:n=j+1:=by omega
        obtain rfl:cs=j+1:=by omega
        have hb2:=(HBG.out (some ⟨gs,0,none⟩) 0 (fun hne=>absurd (HJX.out rfl) hne));rw[Nat.sub_self] at hb2;have HB2:=Qh hb2;clear HBG HSR hb2;go_wp2_with (first|(go_at_call 115;go_must (with_reducible refine HB2.out.mono ?_;rintro e w4 ⟨rfl,hk4⟩)))
        go_meet
        case rel=>exact⟨_,rfl,rfl,hk4.size,Qh (Qf _ _),hk4.alloc _⟩
       ·have HB2:=Qh (HBG.out (some ⟨gs,(j+1)*2,none⟩) (cs-(j+1)) (fun _=>⟨gs,(j+1)*2,rfl,fun i hi=>by
         have h9:=HSR.out (j+1+i) (by rw[List.length_drop] at hi;have:=HN.out;omega);rw[show 0+(j+1+i)*2=(j+1)*2+i*2 by omega] at h9;rw[List.getElem_drop];exact h9⟩))
        clear HBG HSR;go_wp2_with (first|(go_at_call 115;go_must (with_reducible refine HB2.out.mono ?_;rintro e w4 ⟨rfl,hk4⟩)))
        go_meet
        case rel=>exact⟨_,rfl,rfl,hk4.size,Qh (Qf _ _),hk4.alloc _⟩
      case rest=>
       obtain⟨b8,rfl,rfl,hb8,hB8,hk8⟩:=hcut;obtain rfl:=HN.out;obtain⟨v4,hv4⟩:∃z,z=wc:=⟨_,rfl⟩;subst hv4;have HS4:=HS33.out.kn hk8;have HK8:=Qh hk8;have z0:=Qc hk8 t0;have z1:=Qc hk8 u1;have n58:b5≠b8:=by have h1:b5<w3.heap.size:=World.block_lt_of_cell? w3 _ t0;omega
       have n78:b7≠b8:=by have h1:b7<w3.heap.size:=World.block_lt_of_cell? w3 _ u1;omega
       have hfpl:=getD_lt HS4.wz (by decide) pr.place;have hfml:=getD_lt HS4.wz (by decide) m;have c7:=HS4.c7;have ep:=HS4.wcell hpp;obtain⟨al,hal⟩:∃z,z=r.2:=⟨_,rfl⟩;obtain⟨r1,hr1⟩:∃z,z=r.1:=⟨_,rfl⟩;obtain⟨x1,hx1⟩:∃z,z=r1|||(if al=true then a2.follow.getD pr.place 0 else 0):=⟨_,rfl⟩;have HFX:Hid (followX E F pr a2 j y=x1|||a2.follow.getD m 0):=Qh (by
        unfold followX;rw[←HR.out,←hal,←hr1,hMT.out,hx1])
       have hx1l:x1<M41:=by
        rw[hx1,hr1];refine or_lt hrl ?_;split
        ·exact hfpl
        ·decide
       rw[←hal];rw[←hr1] at hB8 hrl;have HX1:=Qh hx1;have HB8:=Qh hB8.out;clear hB8 hal hr1 hk8 t0 t2 u0 u1 HBG HSR HKK hx1 HR HS4;obtain⟨fp,hfp⟩:∃z,z=a2.follow.getD pr.place 0:=⟨_,rfl⟩;obtain⟨fm,hfm⟩:∃z,z=a2.follow.getD m 0:=⟨_,rfl⟩;rw[←hfp] at HX1 hfpl ep;rw[←hfm] at HFX HFY hfml;have HFM:=Qh hfm;clear hfp hfm;have e8:v4.cell? ⟨b8,0,none⟩=some (.int .u64 (r1:Nat)):=by rw[Qa HB8.out];try rfl
       go_upto_if 40 with fail
       go_cut [] (fun wc=>Hid (wc.heap[b8]? =some (.cells #[.int .u64 (x1:Nat)] TBi (0,0)))∧Kp (fun k=>k=b8) v4 wc)
       case first=>
        cases al with
        |false=>
         have hx:x1=r1:=by rw[HX1.out];simp
         have HX:=Qh hx;clear hx HX1;go_wp2_with fail
         go_meet
         case rel=>exact⟨Qh (by rw[HX.out];exact HB8.out),Qb _ _⟩
        |true=>
         have hx:x1=r1|||fp:=by rw[HX1.out];simp
         have HX:=Qh hx;clear hx HX1;go_wp2_with fail
         refine rgn (fun w'=>w'.cell? ⟨b8,0,none⟩=some (.int .u64 (r1:Nat))∧w'.cell? ⟨b5,0,none⟩=some (.int .i64 (pr.place:Nat))∧w'.cell? ⟨p,7,none⟩=some (.slice (some ⟨gw,0,none⟩) S.places.length S.places.length)∧w'.cell? ⟨gw,pr.place,none⟩=some (.int .u64 (fp:Nat))) (X:=[]) ⟨Qc ((Qb _ _).drew) e8,Qc ((Qb _ _).drew) z0,Qc ((Qb _ _).drew) c7,Qc ((Qb _ _).drew) ep⟩ (fun hX hHeld=> ?_);refine tk 0 41 ?_;refine tw 1 42 ?_;refine tw 2 43 ?_;refine tw 3 44 ?_;refine tk 4 45 ?_;refine tw 5 46 ?_;refine tk 6 47 ?_;refine tw 7 48 ?_;refine tk 8 49 ?_;refine ro 9 (fun K hK=> ?_);go_simp
         go_at_call 116
         refine(with_kn r1 fp hrl hfpl _).mono ?_;rintro e v3 ⟨rfl,hk5⟩;have hk35:Kn v4 v3:=((Qb _ _).drew).trans hk5;have HB83:=Qh (hk35.blk HB8.out (fun x=>x));have fr8:=Qd HB83.out 0;have HK35:=Qh hk35;refine hK.out _ _ (⟨Qc hk5 hHeld.1,Qc hk5 hHeld.2.1,Qc hk5 hHeld.2.2.1,Qc hk5 hHeld.2.2.2⟩) (fun hHeld=> ?_);clear hk35 hk5 e8 ep c7 z0 z1;clear hK K
         try simp only[PP]
         refine re 10 (fun K hK=> ?_);go_simp;obtain⟨w5,hw5⟩:∃z,z=v3.setCell ⟨b8,0,none⟩ (.int .u64 ((r1|||fp:Nat):Int)):=⟨_,rfl⟩;have hk9:K1 b8 v3 w5:=by rw[hw5];exact Qg _ _
         have HB85:Hid (w5.heap[b8]? =some (.cells #[.int .u64 ((r1|||fp:Nat):Int)] TBi (0,0))):=Qh (by rw[hw5];exact Qj HB83.out 0 _);have HK85:Hid (Kp (fun k=>k=b8) v4 w5):=Qh ((Kp.weak HK35.out).trans hk9);rw[←hw5];clear hw5 hk9 hHeld fr8;refine hK.out _ _ ?_;clear hK K;go_wp2_with fail
         go_meet
         case rel=>exact⟨Qh (by rw[HX.out];exact HB85.out),HK85.out⟩
       case rest=>
        obtain⟨hB85,hk5⟩:=hcut;obtain⟨v5,hv5⟩:∃z,z=wc:=⟨_,rfl⟩;subst hv5;have hkn5:Kn w3 v5:=HK8.out.trans' hk5 (fun i hi e=>by omega);have HS5:=HS33.out.kn hkn5;have c7':=HS5.c7;have em:=HS5.wcell hml;rw[←HFM.out] at em;have q1:=Qi hk5 z1 n78;have e8':v5.cell? ⟨b8,0,none⟩=some (.int .u64 (x1:Nat)):=by rw[Qa hB85.out];try rfl
        have HK5:=Qh hkn5;have HB85:=Qh hB85.out;clear hB85 hk5 hkn5 HS5 c7 ep e8 z0 z1 HK8 HB8 HX1;go_wp2_with fail
        refine rgn (fun w'=>w'.cell? ⟨b8,0,none⟩=some (.int .u64 (x1:Nat))∧w'.cell? ⟨b7,1,none⟩=some (.int .i64 (m:Nat))∧w'.cell? ⟨p,7,none⟩=some (.slice (some ⟨gw,0,none⟩) S.places.length S.places.length)∧w'.cell? ⟨gw,m,none⟩=some (.int .u64 (fm:Nat))) (X:=[]) ⟨Qc ((Qb _ _).drew) e8',Qc ((Qb _ _).drew) q1,Qc ((Qb _ _).drew) c7',Qc ((Qb _ _).drew) em⟩ (fun hX hHeld=> ?_);refine tk 0 51 ?_;refine tw 1 52 ?_;refine tw 2 53 ?_;refine tw 3 54 ?_;refine tk 4 55 ?_;refine tw 5 56 ?_;refine tk 6 57 ?_;refine tw 7 58 ?_;refine tk 8 59 ?_;refine ro 9 (fun K hK=> ?_);go_simp
        go_at_call 116
        refine(with_kn x1 fm hx1l hfml _).mono ?_;rintro e v3 ⟨rfl,hk5⟩;have hk35:Kn v5 v3:=((Qb _ _).drew).trans hk5;have HB83:=Qh (hk35.blk HB85.out (fun x=>x));have fr8:=Qd HB83.out 0;have z6:=Qh (Qc hk35 q1);have HK35:=Qh (HK5.out.trans hk35);refine hK.out _ _ (⟨Qc hk5 hHeld.1,Qc hk5 hHeld.2.1,Qc hk5 hHeld.2.2.1,Qc hk5 hHeld.2.2.2⟩) (fun hHeld=> ?_);clear hk35 hk5 e8' em c7' q1;clear hK K
        try simp only[PP]
        refine re 10 (fun K hK=> ?_);go_simp;obtain⟨v6,hv6⟩:∃z,z=v3.setCell ⟨b8,0,none⟩ (.int .u64 ((x1|||fm:Nat):Int)):=⟨_,rfl⟩;have hk9:K1 b8 v3 v6:=by rw[hv6];exact Qg _ _
        have HB86:Hid (v6.heap[b8]? =some (.cells #[.int .u64 ((x1|||fm:Nat):Int)] TBi (0,0))):=Qh (by rw[hv6];exact Qj HB83.out 0 _);have HK6:Hid (Kn w3 v6):=Qh (HK35.out.trans' hk9 (fun i hi e=>by omega))
        replace z6:=Qh (Qi hk9 z6.out n78)
        rw[←hv6];clear hv6 hk9 hHeld fr8;refine hK.out _ _ ?_;clear hK K;obtain⟨X,hX⟩:∃z,z=x1|||fm:=⟨_,rfl⟩;have hXl:=or_lt hx1l hfml;rw[←hX] at HFX hXl HB86;have HXX:=Qh hX;clear hX;have HS6:=Qh (HS33.out.kn HK6.out);have c76:=HS6.out.c7;have em6:=HS6.out.wcell hml;rw[←HFM.out] at em6;have q6:=z6.out;have e86:v6.cell? ⟨b8,0,none⟩=some (.int .u64 (X:Nat)):=by rw[Qa HB86.out];try rfl
        have HKP6:=Qh (HKP3.out.trans (Kp.weak HK6.out));have N86:Hid (b8≠gw∧p≠gw):=Qh ⟨by have h1:=Ql HS33.out.rw_;omega,fun e=>by have h1:=HS33.out.blk;rw[e] at h1;exact Qn h1 HS33.out.rw_ (by decide)⟩;clear z6 HB86;by_cases hxm:X=fm
        ·have HF3:Hid (YK E F pr a (j+1)=a2):=Qh (by rw[HFY.out,HFX.out,if_pos hxm]);subst hxm;go_wp2_with fail
         go_quiet (fail)
         go_wp2_with fail
         go_roundw
         case rel=>exact⟨j+1,a2,rfl,by go_num,by omega,Qh HF3.out.symm,Qh (HS6.out.kn ((Qb _ _).drewN _)),HKP6.out.drewN _⟩
         case measure=>simp[intOf];omega
        ·have HF3:Hid (YK E F pr a (j+1)=⟨a2.follow.set m X,true⟩):=Qh (by rw[HFY.out,HFX.out,if_neg hxm]);have hxm2:¬(X:Int)=fm:=by omega
         clear hxm;go_wp2_with fail
         go_quiet (fail)
         obtain⟨v7,hv7⟩:∃z,z=v6.drewN nq:=⟨_,rfl⟩;have hk7:Kn v6 v7:=by rw[hv7];exact(Qb _ _).drewN _
         rw[←hv7];have c77:=Qc hk7 c76;have q7:=Qc hk7 q6;have e87:=Qc hk7 e86;have HS7:=Qh (HS6.out.kn hk7);have HKP7:=Qh (HKP6.out.trans (Kp.weak hk7));clear hv7 hk7 c76 q6 e86 em6 HS6 HKP6;go_wp2_with fail
         refine rgn (fun w'=>w'.cell? ⟨b8,0,none⟩=some (.int .u64 (X:Nat))∧w'.cell? ⟨b7,1,none⟩=some (.int .i64 (m:Nat))∧w'.cell? ⟨p,7,none⟩=some (.slice (some ⟨gw,0,none⟩) S.places.length S.places.length)) (X:=[]) ⟨Qc ((Qb _ _).drew) e87,Qc ((Qb _ _).drew) q7,Qc ((Qb _ _).drew) c77⟩ (fun hX hHeld=> ?_);refine tw 0 71 ?_;refine tw 1 72 ?_;refine tw 2 73 ?_;refine tk 3 74 ?_;refine tw 4 75 ?_;refine tk 5 76 ?_;refine tk 6 77 ?_;refine tw 7 78 ?_;refine ro 8 (fun K hK=> ?_);obtain⟨vd,hvd⟩:∃z,z=v7.drew:=⟨_,rfl⟩;have HSD:=Qh (HS7.out.kn (w':=vd) (by rw[hvd];exact(Qb _ _).drew));have HKPD:Hid (K1 gw w2 vd):=Qh (by rw[hvd];exact HKP7.out.drew);have f7:=HSD.out.rw_.fr m;have em7:=HSD.out.wcell hml;rw[←hvd] at hHeld⊢;clear hvd;go_simp;obtain⟨v9,hv9⟩:∃z,z=vd.setCell ⟨gw,m,none⟩ (.int .u64 (X:Nat)):=⟨_,rfl⟩;have hk9:K1 gw vd v9:=by rw[hv9];exact Qg _ _
         have HS9:=Qh (HSD.out.setW m X hXl);have HKP9:Hid (K1 gw w2 v9):=Qh (HKPD.out.trans hk9);rw[←hv9] at HS9⊢;refine hK.out _ _ (⟨Qi hk9 hHeld.1 N86.out.1,Qi hk9 hHeld.2.1 hb7w,Qi hk9 hHeld.2.2 N86.out.2⟩) (fun hHeld=> ?_);clear hv9 hk9 c77 q7 e87 f7 em7;clear hK K
         try simp only[PP]
         refine re 9 (fun K hK=> ?_);go_simp;clear hHeld;refine hK.out _ _ ?_;clear hK K;go_wp2_with fail
         go_roundw
         case rel=>exact⟨j+1,⟨a2.follow.set m X,true⟩,rfl,by go_num,by omega,Qh HF3.out.symm,HS9,HKP9.out⟩
         case measure=>simp[intOf];omega
    ·obtain rfl:j=pr.syms.length:=by omega
     have HF4:Hid (WK E F S.l ⟨W,false⟩ (k+1)=a2):=Qh (by rw[HST.out,haj.out,YK_all]);go_wp2_with fail
     go_roundw
     case rel=>exact⟨k+1,a2,rfl,by go_num,by omega,Qh HF4.out.symm,hs3,HKP2.out.trans hk3⟩
     case measure=>simp[intOf];omega
  ·obtain rfl:k=S.l.length:=by omega
   have hfk:a=followP E F S.l W:=by rw[hak.out];unfold WK followP;rw[List.take_length]
   have HFK:=Qh hfk;clear hfk;go_wp2_with fail
   go_ret;exact⟨by rw[HFK.out];try rfl,by rw[←HFK.out];exact hst.out,hkp⟩
end Go.Proofs.YtiehgcfckhepaaaGreatDoor
namespace Go.Proofs.YtiehgcfckhepaaaGreatDoor
theorem sum_set:∀(l:List Nat) (i x:Nat),i<l.length→(l.set i x).sum+l.getD i 0=l.sum+x
 |[],i,x,h=>by simp at h
 |a::l,0,x,_=>by simp;omega
 |a::l,i+1,x,h=>by
  have:=sum_set l i x (by simpa using h);simp only[List.set_cons_succ,List.sum_cons,List.getD_cons_succ];omega
theorem sum_lt{M:Nat} :∀(l:List Nat),(∀x∈l,x<M)→l.sum≤l.length*M
 |[],_=>by simp
 |a::l,h=>by
  have h1:=h a List.mem_cons_self;have h2:=sum_lt l (fun x hx=>h x (List.mem_cons_of_mem _ hx));rw[List.sum_cons,List.length_cons,Nat.add_mul,Nat.one_mul];omega
def bN(E:List Bool):List Nat:=E.map Bool.toNat
theorem bN_getD(E:List Bool)(i:Nat):(bN E).getD i 0=(E.getD i false).toNat:=by
 unfold bN;rw[List.getD_eq_getElem?_getD,List.getD_eq_getElem?_getD,List.getElem?_map];cases E[i]? <;>rfl
theorem bN_set(E:List Bool)(i:Nat)(b:Bool):bN (E.set i b)=(bN E).set i b.toNat:=by unfold bN;rw[List.map_set]
theorem bN_len(E:List Bool):(bN E).length=E.length:=by simp[bN]
theorem bN_lt(E:List Bool):∀x∈bN E,x<2:=by
 intro x hx;obtain⟨b,_,rfl⟩:=List.mem_map.1 hx;cases b<;>decide
def MF(E:List Bool)(F:List Nat):Nat:=F.sum+(bN E).sum
theorem firstS_mono(a:FS)(p:PR)(h1:p.place<a.empty.length)(h2:p.place<a.first.length):
  MF a.empty a.first≤MF (Ya a p).empty (Ya a p).first∧((Ya a p).more=true→a.more=true∨MF a.empty a.first<MF (Ya a p).empty (Ya a p).first):=by
 obtain⟨r,hr⟩:∃r,r=QB a.empty a.first 0 p.syms:=⟨_,rfl⟩;have hF:Ya a p=⟨a.empty.set p.place (r.2||a.empty.getD p.place false),a.first.set p.place (r.1|||a.first.getD p.place 0),
  a.more||(decide (r.1|||a.first.getD p.place 0≠a.first.getD p.place 0)||(r.2&& !a.empty.getD p.place false))⟩:=by rw[hr];try rfl
 rw[hF];unfold MF;dsimp only;have e1:=sum_set a.first p.place (r.1|||a.first.getD p.place 0) h2;have e2:=sum_set (bN a.empty) p.place (r.2||a.empty.getD p.place false).toNat (by rw[bN_len];exact h1);rw[bN_getD] at e2;rw[bN_set];have g1:a.first.getD p.place 0≤r.1|||a.first.getD p.place 0:=Nat.right_le_or;have g2:(a.empty.getD p.place false).toNat≤(r.2||a.empty.getD p.place false).toNat:=by
  cases r.2<;>cases a.empty.getD p.place false<;>decide
 refine⟨by omega,fun h=> ?_⟩;simp only[Bool.or_eq_true,decide_eq_true_eq,Bool.and_eq_true,Bool.not_eq_true'] at h;rcases h with h|h|⟨h,h3⟩
 ·exact .inl h
 ·exact .inr (by omega)
 ·rw[h,h3] at e2;have:(true||false).toNat=1:=rfl;have:false.toNat=0:=rfl;refine .inr ?_;rw[h,h3];omega
theorem firstS_len(a:FS)(p:PR):(Ya a p).empty.length=a.empty.length∧(Ya a p).first.length=a.first.length:=by
 unfold Ya;simp
theorem firstP_mono:∀(l:List PR) (a:FS),(∀p∈l,p.place<a.empty.length∧p.place<a.first.length)→
  MF a.empty a.first≤MF (l.foldl Ya a).empty (l.foldl Ya a).first∧((l.foldl Ya a).more=true→a.more=true∨MF a.empty a.first<MF (l.foldl Ya a).empty (l.foldl Ya a).first)
 |[],a,_=>⟨Nat.le_refl _,fun h=> .inl h⟩
 |p::l,a,h=>by
  have h1:=h p List.mem_cons_self;have hl:=firstS_len a p;obtain⟨m1,m2⟩:=firstS_mono a p h1.1 h1.2;obtain⟨n1,n2⟩:=firstP_mono l (Ya a p) (fun q hq=>by rw[hl.1,hl.2];exact h q (List.mem_cons_of_mem _ hq));rw[List.foldl_cons];refine⟨Nat.le_trans m1 n1,fun hm=> ?_⟩;rcases n2 hm with h3|h3
  ·rcases m2 h3 with h4|h4
   ·exact .inl h4
   ·exact .inr (by omega)
  ·exact .inr (by omega)
theorem followS_mono(E:List Bool)(F:List Nat)(p:PR)(a:WS)(z:SY×Nat)(h:z.1.place=true→z.1.n.toNat<a.follow.length):
  a.follow.sum≤(Yo E F p a z).follow.sum∧((Yo E F p a z).more=true→a.more=true∨a.follow.sum<(Yo E F p a z).follow.sum)∧(Yo E F p a z).follow.length=a.follow.length:=by
 unfold Yo;split
 ·exact⟨Nat.le_refl _,fun h=> .inl h,rfl⟩
 ·rename_i hp;split
  ·exact⟨Nat.le_refl _,fun h=> .inl h,rfl⟩
  ·rename_i hx;have e1:=sum_set a.follow z.1.n.toNat (followX E F p a z.2 z.1) (h (by simpa using hp));have g1:a.follow.getD z.1.n.toNat 0≤followX E F p a z.2 z.1:=Nat.right_le_or;dsimp only;exact⟨by omega,fun _=> .inr (by omega),by simp⟩
theorem followR_mono(E:List Bool)(F:List Nat)(p:PR):∀(l:List (SY×Nat)) (a:WS),(∀z∈l,z.1.place=true→z.1.n.toNat<a.follow.length)→
  a.follow.sum≤(l.foldl (Yo E F p) a).follow.sum∧((l.foldl (Yo E F p) a).more=true→a.more=true∨a.follow.sum<(l.foldl (Yo E F p) a).follow.sum)∧(l.foldl (Yo E F p) a).follow.length=a.follow.length
 |[],a,_=>⟨Nat.le_refl _,fun h=> .inl h,rfl⟩
 |z::l,a,h=>by
  obtain⟨m1,m2,m3⟩:=followS_mono E F p a z (h z List.mem_cons_self);obtain⟨n1,n2,n3⟩:=followR_mono E F p l (Yo E F p a z) (fun y hy=>by rw[m3];exact h y (List.mem_cons_of_mem _ hy));rw[List.foldl_cons];refine⟨Nat.le_trans m1 n1,fun hm=> ?_,n3.trans m3⟩;rcases n2 hm with h3|h3
  ·rcases m2 h3 with h4|h4
   ·exact .inl h4
   ·exact .inr (by omega)
  ·exact .inr (by omega)
theorem followP_mono(E:List Bool)(F:List Nat):∀(l:List PR) (a:WS),(∀p∈l,∀y∈p.syms,y.place=true→y.n.toNat<a.follow.length)→
  a.follow.sum≤(l.foldl (YF E F) a).follow.sum∧((l.foldl (YF E F) a).more=true→a.more=true∨a.follow.sum<(l.foldl (YF E F) a).follow.sum)∧(l.foldl (YF E F) a).follow.length=a.follow.length
 |[],a,_=>⟨Nat.le_refl _,fun h=> .inl h,rfl⟩
 |p::l,a,h=>by
  obtain⟨m1,m2,m3⟩:=followR_mono E F p p.syms.zipIdx a (fun z hz hzp=>h p List.mem_cons_self z.1 (by
   obtain⟨y,i⟩:=z;exact List.mem_of_getElem? (List.mem_zipIdx_iff_getElem?.1 hz)) hzp)
  obtain⟨n1,n2,n3⟩:=followP_mono E F l (YF E F a p) (fun q hq y hy hyp=>by
   unfold YF;rw[m3];exact h q (List.mem_cons_of_mem _ hq) y hy hyp)
  rw[List.foldl_cons];unfold YF at*;refine⟨Nat.le_trans m1 n1,fun hm=> ?_,n3.trans m3⟩;rcases n2 hm with h3|h3
  ·rcases m2 h3 with h4|h4
   ·exact .inl h4
   ·exact .inr (by omega)
  ·exact .inr (by omega)
open Go.RowKit Go.Maps
theorem info_sy:(Tryz.prog.info? TSy).map (fun i=>(i.zero,i.size,i.bytes))=some (some (.agg #[.bool false,.int .i64 0]),2,16):=by kernel_rfl
theorem symsF_step(ps:PL)(qs:List GP)(k:Nat)(hk:k<qs.length):Yl ps (qs.take (k+1))=symS (Yl ps (qs.take k)) qs[k]:=by
 unfold Yl;rw[List.take_succ_eq_append_getElem hk,List.foldl_append];try rfl
theorem placeF_le(ps:PL)(q:Nat×Nat):ps.length≤(Yt ps q).1.length∧(Yt ps q).1.length≤ps.length+1∧(Yt ps q).2<(Yt ps q).1.length:=by
 unfold Yt;cases h:placeI ps q with
 |none=>simp
 |some j=>
  obtain⟨hj,_⟩:=List.findIdx?_eq_some_iff_getElem.1 h;exact⟨Nat.le_refl _,Nat.le_succ _,hj⟩
theorem symF_le(ps:PL)(q:GP):ps.length≤(symF ps q).1.length∧(symF ps q).1.length≤ps.length+1:=by
 unfold symF;split
 ·exact⟨(placeF_le ps _).1,(placeF_le ps _).2.1⟩
 ·exact⟨Nat.le_refl _,Nat.le_succ _⟩
theorem symsF_len(ps:PL)(qs:List GP)(k:Nat)(hk:k≤qs.length):(Yl ps (qs.take k)).2.length=k∧ps.length≤(Yl ps (qs.take k)).1.length∧(Yl ps (qs.take k)).1.length≤ps.length+k:=by
 induction k with
 |zero=>simp[Yl]
 |succ k ih=>
  obtain⟨h1,h2,h3⟩:=ih (by omega);rw[symsF_step ps qs k (by omega)];have:=symF_le (Yl ps (qs.take k)).1 (qs[k]'(by omega));exact⟨by simp[symS,h1],by simp only[symS];omega,by simp only[symS];omega⟩
theorem bd_row{w w':World}{B B2 p:Nat}{S:SB}{A:SA}{v:Value}{l:List SY}(h:BdAt w B p S A)(hr:OwnK w B2 TSy 2 v (l.map syL))(hk:Kp (fun k=>some k=v.ownBlock) w w')(hlt:∀x∈A.vls,∀g,x.ownBlock=some g→g<B2):BdAt w' B p S A:=by
 have hS:=QR hr;refine⟨QA h.blk hk hS (by decide),Qk h.pl hk hS (by decide),Qs h.mt hk hS,⟨Qk h.pr.row hk hS (by decide),h.pr.len,fun i a b=>QG (h.pr.syms i a b) hk (fun g hg e=> ?_)⟩,h.of_.off hk (Qv hS (by decide)) (Qv hS (by decide)),h.pB⟩;have h1:=hlt _ (List.getElem_mem a) g hg;have h2:=(hr.lt g e.symm).1;omega
theorem pk_row{w w1 w2:World}{p k:Nat}{T:TypeId}{A A':SA}{v:Value}{Cs:List (List Value)}(h:PlKeep w w1 p A A')(hr:OwnK w1 w.heap.size T k v Cs)(hk:Kp (fun k=>some k=v.ownBlock) w1 w2):PlKeep w w2 p A A':=
 ⟨h.kp.trans' hk (fun i hi e=>by have:=(hr.lt i e.symm).1;omega),h.vp,h.rest⟩
theorem BdAt.vlt{w:World}{B p:Nat}{S:SB}{A:SA}(h:BdAt w B p S A):∀x∈A.vls,∀g,x.ownBlock=some g→g<w.heap.size:=fun x hx g hg=>by
 obtain⟨i,hi,rfl⟩:=List.getElem_of_mem hx;exact((h.pr.syms i hi (by rw[←h.pr.len];exact hi)).lt g hg).2
def SPaOk(q:GP):Prop:=q.sort≤1000000∧q.level≤1000000
def PaR(w:World)(g:Nat)(qs:List GP):Prop:=∀i (h:i<qs.length),w.cell? ⟨g,i*4,none⟩=some (.int .i64 qs[i].cls)∧w.cell? ⟨g,i*4+1,none⟩=some (.int .i64 qs[i].sort)∧w.cell? ⟨g,i*4+2,none⟩=some (.int .i64 (qs[i].level:Nat))∧w.cell? ⟨g,i*4+3,none⟩=some (.bool qs[i].fixed)
theorem PaR.of{w:World}{B:Nat}{v:Value}{qs:List GP}(h:OwnK w B TPa 4 v (qs.map paL)):∃a c,v= .slice a qs.length c∧(qs≠[]→∃g,a=some ⟨g,0,none⟩∧B≤g∧PaR w g qs):=by
 obtain⟨a,c,hv,_,_,hg⟩:=h.row (fun C hC=>by obtain⟨x,_,rfl⟩:=List.mem_map.1 hC;rfl);rw[List.length_map] at hv;refine⟨a,c,hv,fun hne=> ?_⟩;obtain⟨g,ha,hB,_,hc⟩:=hg (by simpa using hne);refine⟨g,ha,hB,fun i hi=> ?_⟩;have h4:=hc i (by simpa using hi);have e0:=(h4 0 (by omega)).1;have e1:=(h4 1 (by omega)).1;have e2:=(h4 2 (by omega)).1;have e3:=(h4 3 (by omega)).1;rw[show 0+4*i+0=i*4 by omega] at e0;rw[show 0+4*i+1=i*4+1 by omega] at e1;rw[show 0+4*i+2=i*4+2 by omega] at e2;rw[show 0+4*i+3=i*4+3 by omega] at e3;rw[e0,e1,e2,e3];simp[paL]
def SymsPost(B p:Nat)(S:SB)(A:SA)(qs:List GP)(w:World)(e:Ending)(w':World):Prop:=
 ∃v A',e= .returned v∧OwnK w' w.heap.size TSy 2 v ((Yl S.places qs).2.map syL)∧BdAt w' B p {S with places:=(Yl S.places qs).1} A'∧PlKeep w w' p A A'
theorem symbols_c{B p c:Nat}{a:Option Addr}{S:SB}{A:SA}{w:World}(qs:List GP)(h:BdAt w B p S A)(hv:qs≠[]→∃g,a=some ⟨g,0,none⟩∧(∃cs,w.heap[g]? =some (.cells cs TPa (0,0)))∧PaR w g qs)(hok:∀q∈qs,SPaOk q)(hl:S.places.length+qs.length≤900):
  Calls Tryz.prog 114 #[ptr p,.slice a qs.length c] w (SymsPost B p S A qs w):=by
 obtain⟨ie,hi,hz0,hz1,hz2⟩:=info_parts info_sy;have HIE:=Qh (And.intro hi (And.intro hz0 (And.intro hz1 hz2)));have HV:=Qh hv;have HOK:=Qh hok;have H:=Qh h;have HVL:=Qh h.vlt;have hpl:=h.lt;clear hi hz0 hz1 hz2 hv hok h;go_enter Tryz.func114,Tryz.ntmps114;go_wp2_with fail
 go_loopw [5,10] (fun s5 s10 wr=>∃(k:Nat) (v:Value) (A':SA),v=s5∧s10= .int .i64 k∧k≤qs.length∧Hid (OwnK wr w.heap.size TSy 2 v ((Yl S.places (qs.take k)).2.map syL))∧Hid (BdAt wr B p {S with places:=(Yl S.places (qs.take k)).1} A')∧Hid (PlKeep w wr p A A')) (fun _ s10 _=>qs.length-(intOf s10).toNat)
 case atStart=>exact⟨0,_,A,rfl,rfl,Nat.zero_le _,Qh OwnK.nil,H,Qh (PlKeep.refl _ _ _)⟩
 case round=>
  obtain⟨k,v,A',rfl,rfl,hk,hov,hbd,hkp⟩:=hrel;have hsl:=symsF_len S.places qs k hk;by_cases hlt:k<qs.length
  ·obtain⟨g,rfl,⟨cs,hcs⟩,hc⟩:=HV.out (fun e=>by rw[e] at hlt;simp at hlt);have hgo:=H.out.other (T:=TPa) (by decide) (by decide) g cs hcs;obtain⟨c0,c1,c2,c3⟩:=hc k hlt;have x0:=Qi hkp.out.kp c0 hgo;have x1:=Qi hkp.out.kp c1 hgo;have x2:=Qi hkp.out.kp c2 hgo;have x3:=Qi hkp.out.kp c3 hgo;have hokk:=HOK.out _ (List.getElem_mem hlt);have HST:=Qh (symsF_step S.places qs k hlt);obtain⟨q,hq⟩:∃q,q=qs[k]:=⟨_,rfl⟩;rw[←hq] at x0 x1 x2 x3 hokk HST;obtain⟨r,hr⟩:∃r,r=Yl S.places (qs.take k):=⟨_,rfl⟩;rw[←hr] at hsl hov hbd HST;obtain⟨hq1,hq2⟩:=hokk;have hgl:=Ql hcs;have hgr:g<wr.heap.size:=Nat.lt_of_lt_of_le hgl hkp.out.kp.size;clear hq hr hc c0 c1 c2 c3 hcs hgl;obtain⟨w2,hw2⟩:∃z,z=wr.alloc (.cells #[.int .i64 q.cls,.int .i64 q.sort,.int .i64 (q.level:Nat),.bool q.fixed] TPa):=⟨_,rfl⟩;have hk2:Kn wr w2:=by rw[hw2];exact(Qb _ _).alloc _
   obtain⟨b7,hb7⟩:∃z,z=wr.heap.size:=⟨_,rfl⟩;have hbb:w2.heap[b7]? =some (.cells #[.int .i64 q.cls,.int .i64 q.sort,.int .i64 (q.level:Nat),.bool q.fixed] TPa (0,0)):=by rw[hw2,hb7];exact Qf _ _
   have y0:w2.cell? ⟨b7,0,none⟩=some (.int .i64 q.cls):=by rw[Qa hbb];try rfl
   have y1:w2.cell? ⟨b7,1,none⟩=some (.int .i64 q.sort):=by rw[Qa hbb];try rfl
   have y2:w2.cell? ⟨b7,2,none⟩=some (.int .i64 (q.level:Nat)):=by rw[Qa hbb];try rfl
   have HBD2:=Qh (hbd.out.kn hk2);have HKP2:=Qh (hkp.out.kn hk2);have HO2:=Qh (hov.out.kn hk2);have HW:=Qh (And.intro hw2 hb7);clear hw2 hk2 hb7 hov hbd hkp hbb hgo;by_cases h0:0≤q.sort
   ·obtain⟨so,hso⟩:=Int.eq_ofNat_of_zero_le h0;have hF:Hid (symS r q=((Yt r.1 (so,q.level)).1,r.2++[⟨true,((Yt r.1 (so,q.level)).2:Nat)⟩])):=Qh (by
     unfold symS symF;rw[if_pos h0,hso];simp)
    rw[hso] at x1 y1 HW hq1;have hso1:so≤1000000:=by omega
    have HPC:=Qh (splace_c (so,q.level) HBD2.out hso1 hq2 (by show r.1.length≤1000;omega));unfold pcV at HPC;dsimp only at HPC;obtain⟨z,hz⟩:∃z,z=Yt r.1 (so,q.level):=⟨_,rfl⟩;have hzl:=placeF_le r.1 (so,q.level);rw[←hz] at hF hzl;have HZ:=Qh hz;have hrl:=hsl.1;have hw2s:=HKP2.out.kp.size;clear hz h0;go_upto_region 6 with fail
    rw[←HW.out.1,←HW.out.2];go_wp2_with (first
     |(go_at_call 113;go_must (refine HPC.out.mono ?_;rintro e w3 ⟨rfl,A3,hb3,hk3⟩;rw[←HZ.out] at hb3⊢;have hO3:OwnK w3 w.heap.size TSy 2 v (r.2.map syL):=row_off HO2.out hk3.kp (HBD2.out.other (by decide) (by decide));have HB3:=Qh hb3;have HK3:=Qh (HKP2.out.trans hk3);have HO3:=Qh hO3;have hw3s:=hk3.kp.size;clear HPC hb3 hk3 hO3))
     |(at_builtin;go_must (refine QF _ rfl (.tmp 17) (.tmp 26) 104 rfl w.heap.size TSy ie (.agg #[.bool false,.int .i64 0]) 2 16 Tryz.underlying104 HIE.out.1 HIE.out.2.1 HIE.out.2.2.1 HIE.out.2.2.2 (by rfl) (by decide) v (r.2.map syL) rfl (HO3.out.kn ((Qb _ _).alloc (.cells #[.bool true,.int .i64 (z.2:Nat)] TSy))) w3.heap.size 1 rfl #[.bool true,.int .i64 (z.2:Nat)] TSy (0,0) (Qf _ _) rfl (by simp[Value.oneCell']) (by rw[List.length_map];simp only[maxLen];omega) (by rw[List.length_map];omega) (by rw[size_alloc'];omega) ?_;intro v1 w5 hown hka hat;have HX:=Qh (And.intro hown (And.intro hka hat));clear hown hka hat)))
    have hkA:Kn w3 (w3.alloc (.cells #[.bool true,.int .i64 (z.2:Nat)] TSy)):=(Qb _ _).alloc _;have HB5:=Qh (bd_row (HB3.out.kn hkA) (HO3.out.kn hkA) HX.out.2.1 (by rw[HK3.out.rest];exact HVL.out));have HK5:=Qh (pk_row (HK3.out.kn hkA) (HO3.out.kn hkA) HX.out.2.1);go_roundw
    case rel=>exact⟨k+1,v1,A3,rfl,by go_num,by omega,Qh (by rw[HST.out,hF.out];dsimp only;rw[List.map_append];exact HX.out.1),Qh (by rw[HST.out,hF.out];exact HB5.out),HK5⟩
    case measure=>simp[intOf];omega
   ·have hF:Hid (symS r q=(r.1,r.2++[⟨false,q.cls⟩])):=Qh (by unfold symS symF;rw[if_neg h0]);have hrl:=hsl.1;have hw2s:=HKP2.out.kp.size;have h0':q.sort<0:=by omega
    clear h0;go_upto_region 5 with fail
    rw[←HW.out.1,←HW.out.2];go_wp2_with (at_builtin;go_must (refine QF _ rfl (.tmp 28) (.tmp 32) 104 rfl w.heap.size TSy ie (.agg #[.bool false,.int .i64 0]) 2 16 Tryz.underlying104 HIE.out.1 HIE.out.2.1 HIE.out.2.2.1 HIE.out.2.2.2 (by rfl) (by decide) v (r.2.map syL) rfl (HO2.out.kn ((Qb _ _).alloc (.cells #[.bool false,.int .i64 q.cls] TSy))) w2.heap.size 1 rfl #[.bool false,.int .i64 q.cls] TSy (0,0) (Qf _ _) rfl (by simp[Value.oneCell']) (by rw[List.length_map];simp only[maxLen];omega) (by rw[List.length_map];omega) (by rw[size_alloc'];omega) ?_;intro v1 w5 hown hka hat;have HX:=Qh (And.intro hown (And.intro hka hat));clear hown hka hat))
    have hkA:Kn w2 (w2.alloc (.cells #[.bool false,.int .i64 q.cls] TSy)):=(Qb _ _).alloc _;have HB5:=Qh (bd_row (HBD2.out.kn hkA) (HO2.out.kn hkA) HX.out.2.1 (by rw[HKP2.out.rest];exact HVL.out));have HK5:=Qh (pk_row (HKP2.out.kn hkA) (HO2.out.kn hkA) HX.out.2.1);go_roundw
    case rel=>exact⟨k+1,v1,A',rfl,by go_num,by omega,Qh (by rw[HST.out,hF.out];dsimp only;rw[List.map_append];exact HX.out.1),Qh (by rw[HST.out,hF.out];exact HB5.out),HK5⟩
    case measure=>simp[intOf];omega
  ·obtain rfl:k=qs.length:=by omega
   rw[List.take_length] at hov hbd;go_wp2_with fail
   go_ret;exact⟨v,A',rfl,hov.out,hbd.out,hkp.out⟩
end Go.Proofs.YtiehgcfckhepaaaGreatDoor
namespace Go.Proofs.YtiehgcfckhepaaaGreatDoor
structure PartOk (q:GP):Prop where
 so:q.sort<40
 lv:q.level≤9
 cl:q.sort<0→0≤q.cls∧q.cls≤1000
structure RulesOk (rs:List GR):Prop where
 len:rs.length≤120
 pl:∀r∈rs,r.parts.length≤20
 pa:∀r∈rs,∀q∈r.parts,PartOk q
 rl:∀r∈rs,r.sort≤1000000∧r.level≤1000000
def PlOk(ps:PL):Prop:=ps.Nodup∧∀q∈ps,q.1<40∧q.2≤9
theorem PlOk.len{ps:PL}(h:PlOk ps):ps.length≤400:=by
 have h1:=nodup_len 400 (ps.map (fun q=>q.1*10+q.2)) (by
  unfold List.Nodup;rw[List.pairwise_map];refine h.1.imp_of_mem (fun {a b} ha hb hne e=>hne ?_);have:=h.2 a ha;have:=h.2 b hb;exact Prod.ext (by omega) (by omega)) (fun x hx=>by
  obtain⟨q,hq,rfl⟩:=List.mem_map.1 hx;have:=h.2 q hq;omega)
 simpa using h1
theorem PlOk.place{ps:PL}(h:PlOk ps){q:Nat×Nat}(hq:q.1<40∧q.2≤9):PlOk (Yt ps q).1:=by
 unfold Yt;cases hi:placeI ps q with
 |some j=>exact h
 |none=>
  have hn:q∉ps:=fun hm=>by
   have:=List.findIdx?_eq_none_iff.1 hi q hm;simp at this
  refine⟨?_,fun x hx=> ?_⟩
  ·rw[List.nodup_append];exact⟨h.1,by simp,fun a ha b hb=>by simp at hb;subst hb;exact fun e=>hn (e▸ha)⟩
  ·rcases List.mem_append.1 hx with h1|h1
   ·exact h.2 x h1
   ·simp at h1;subst h1;exact hq
def SymOk(N:Nat)(y:SY):Prop:=if y.place=true then 0≤y.n∧y.n<N else 0≤y.n∧y.n≤1000
theorem SymOk.mono{N M:Nat}{y:SY}(h:SymOk N y)(hNM:N≤M):SymOk M y:=by
 unfold SymOk at*;split
 ·rename_i hp;rw[if_pos hp] at h;omega
 ·rename_i hp;rw[if_neg hp] at h;exact h
theorem symF_ok{ps:PL}(h:PlOk ps){q:GP}(hq:PartOk q):PlOk (symF ps q).1∧SymOk (symF ps q).1.length (symF ps q).2:=by
 unfold symF;by_cases h0:0≤q.sort
 ·rw[if_pos h0];have h1:=hq.so;have h1':=hq.lv;have h2:=placeF_le ps (q.sort.toNat,q.level);refine⟨h.place (by dsimp only;omega),?_⟩;unfold SymOk;rw[if_pos rfl];dsimp only;omega
 ·rw[if_neg h0];refine⟨h,?_⟩;unfold SymOk;rw[if_neg (by simp)];exact hq.cl (by omega)
theorem symS_ok:∀(qs:List GP) (a:PL×List SY),PlOk a.1→(∀y∈a.2,SymOk a.1.length y)→(∀q∈qs,PartOk q)→
  PlOk (qs.foldl symS a).1∧(∀y∈(qs.foldl symS a).2,SymOk (qs.foldl symS a).1.length y)∧a.1.length≤(qs.foldl symS a).1.length∧(qs.foldl symS a).2.length=a.2.length+qs.length
 |[],a,h1,h2,_=>⟨h1,h2,Nat.le_refl _,rfl⟩
 |q::qs,a,h1,h2,h3=>by
  obtain⟨k1,k2⟩:=symF_ok h1 (h3 q List.mem_cons_self);have hle:=(symF_le a.1 q).1;obtain⟨m1,m2,m3,m4⟩:=symS_ok qs (symS a q) k1 (fun y hy=>by
   rcases List.mem_append.1 hy with h|h
   ·exact(h2 y h).mono hle
   ·simp at h;subst h;exact k2) (fun x hx=>h3 x (List.mem_cons_of_mem _ hx))
  rw[List.foldl_cons];exact⟨m1,m2,Nat.le_trans hle m3,by rw[m4];simp[symS];omega⟩
theorem symsF_ok{ps:PL}(h:PlOk ps){qs:List GP}(hq:∀q∈qs,PartOk q):PlOk (Yl ps qs).1∧(∀y∈(Yl ps qs).2,SymOk (Yl ps qs).1.length y)∧ps.length≤(Yl ps qs).1.length∧(Yl ps qs).2.length=qs.length:=by
 obtain⟨a,b,c,d⟩:=symS_ok qs (ps,[]) h (fun y hy=>by cases hy) hq;exact⟨a,b,c,by unfold Yl;rw[d];simp⟩
structure LOkB (ps:PL) (l:List PR) (m:Nat):Prop where
 pl:PlOk ps
 pos:0<ps.length
 ll:l.length≤m
 pr:∀p∈l,p.place<ps.length∧p.rule≤1000000∧p.syms.length≤20∧∀y∈p.syms,SymOk ps.length y
theorem ruleS_ok{n m:Nat}{a:RW}{x:GR×Nat}(h:LOkB a.places a.l m)(hn:n<a.places.length)(hp:x.1.parts.length≤20)(hq:∀q∈x.1.parts,PartOk q)(hx:x.2≤1000000):LOkB (sruleS n a x).places (sruleS n a x).l (m+1)∧a.places.length≤(sruleS n a x).places.length:=by
 unfold sruleS;split
 ·obtain⟨k1,k2,k3,k4⟩:=symsF_ok h.pl hq;refine⟨⟨k1,by have:=h.pos;dsimp only;omega,by have:=h.ll;simp;omega,fun p hp2=> ?_⟩,k3⟩;rcases List.mem_append.1 hp2 with h1|h1
  ·obtain⟨q1,q2,q3,q4⟩:=h.pr p h1;exact⟨by dsimp only;omega,q2,q3,fun y hy=>(q4 y hy).mono k3⟩
  ·simp at h1;subst h1;exact⟨by dsimp only;omega,hx,by dsimp only;omega,k2⟩
 ·exact⟨⟨h.pl,h.pos,by have:=h.ll;omega,h.pr⟩,Nat.le_refl _⟩
def RK(rs:List GR)(n:Nat)(S:SB)(i:Nat):RW:=(rs.zipIdx.take i).foldl (sruleS n) ⟨S.places,S.l,[]⟩
theorem RK_succ{rs:List GR}{n:Nat}{S:SB}{i:Nat}(hi:i<rs.length):RK rs n S (i+1)=sruleS n (RK rs n S i) (rs[i],i):=by
 unfold RK;rw[List.take_succ_eq_append_getElem (by rw[List.length_zipIdx];exact hi),List.foldl_append];simp
theorem RK_all(rs:List GR)(n:Nat)(S:SB):RK rs n S rs.length=rowS rs n S:=by
 unfold RK rowS;rw[List.take_of_length_le (by rw[List.length_zipIdx];exact Nat.le_refl _)]
theorem RK_ok{rs:List GR}(ok:RulesOk rs){n m:Nat}{S:SB}(h:LOkB S.places S.l m)(hn:n<S.places.length):∀i,i≤rs.length→LOkB (RK rs n S i).places (RK rs n S i).l (m+i)∧S.places.length≤(RK rs n S i).places.length∧(RK rs n S i).own.length≤i∧∀x∈(RK rs n S i).own,x<m+i:=by
 intro i;induction i with
 |zero=>intro _;exact⟨h,Nat.le_refl _,Nat.le_refl _,fun x hx=>by cases hx⟩
 |succ i ih=>
  intro hi;obtain⟨h1,h2,h3,h4⟩:=ih (by omega);have hl:=ok.len;obtain⟨k1,k2⟩:=ruleS_ok (n:=n) (a:=RK rs n S i) (x:=(rs[i],i)) h1 (by omega) (ok.pl _ (List.getElem_mem (by omega))) (ok.pa _ (List.getElem_mem (by omega))) (show i≤1000000 by omega);rw[RK_succ (show i<rs.length by omega)];refine⟨k1,Nat.le_trans h2 k2,?_,?_⟩
  ·unfold sruleS;split
   ·simp;omega
   ·omega
  ·unfold sruleS;split
   ·intro x hx;rcases List.mem_append.1 hx with h|h
    ·have:=h4 x h;omega
    ·simp at h;subst h;have:=h1.ll;omega
   ·intro x hx;have:=h4 x hx;omega
theorem buildGo_ok{rs:List GR}(ok:RulesOk rs):∀(f n:Nat) (S:SB),LOkB S.places S.l (120*n)→n≤S.places.length→S.own.length=n→401≤f+n→SBok (buildGo rs f n S)
 |0,n,S,h,h1,h2,h3=>by have:=h.pl.len;omega
 |f+1,n,S,h,h1,h2,h3=>by
  unfold buildGo;have hlen:=h.pl.len;split
  ·rename_i hlt;obtain⟨k1,k2,_⟩:=RK_ok ok h hlt rs.length (Nat.le_refl _);rw[RK_all] at k1 k2;have hl:=ok.len;refine buildGo_ok ok f (n+1) _ ⟨k1.pl,k1.pos,by have:=k1.ll;dsimp only;omega,k1.pr⟩ (by dsimp only;omega) (by simp[h2]) (by omega)
  ·have e:n=S.places.length:=by omega
   exact⟨h.pos,by omega,by have:=h.ll;omega,h.pr,by omega⟩
theorem LOkB.start:LOkB [(0,0)] [] 0:=⟨⟨by simp,fun q hq=>by simp at hq;subst hq;exact⟨by decide,by decide⟩⟩,by simp,by simp,fun p hp=>by cases hp⟩
theorem buildF_ok{rs:List GR}(ok:RulesOk rs):SBok (buildF rs):=buildGo_ok ok 501 0 _ LOkB.start (by simp) rfl (by omega)
open Go.RowKit Go.Maps
def BSt(w:World)(B p bm:Nat):Nat→Prop:=fun k=>k=p∨k=bm∨B≤k∧∃(cs:Array Value) (T:TypeId),w.heap[k]? =some (.cells cs T (0,0))∧(T=TPc∨T=TPr∨T=TIs)
abbrev KB(B p bm:Nat)(w w':World):Prop:=Kp (BSt w B p bm) w w'
section
variable {w w' w1 w2:World} {B p bm:Nat} {S:SB} {A A':SA}
theorem KB.trans(h:KB B p bm w w1)(k:KB B p bm w1 w2):KB B p bm w w2:=Kp.trans' h k (fun i hi e=>by
 rcases e with e|e|⟨hB,cs,T,e,hT⟩
 ·exact .inl e
 ·exact .inr (.inl e)
 ·refine Classical.byContradiction (fun hn=>hn (.inr (.inr ⟨hB,cs,T,?_,hT⟩)));rw[←h.block i hi hn];exact e)
theorem KB.of{T:TypeId}{k n:Nat}{v:Value}{cs:List Value}(h:Kp (fun k=>some k=v.ownBlock) w w1)(hr:w.ownsRow B T k v n cs)(hT:T=TPc∨T=TPr∨T=TIs):KB B p bm w w1:=h.mono (fun i hi e=>by obtain⟨c,hc⟩:=QX hr e.symm;exact .inr (.inr ⟨(hr.lt i e.symm).1,c,T,hc,hT⟩))
theorem PlKeep.kb(h:PlKeep w w1 p A A')(hb:BdAt w B p S A):KB B p A.bm w w1:=h.kp.mono (fun i hi e=>by
 rcases e with e|e|e
 ·exact .inl e
 ·exact .inr (.inl e)
 ·obtain⟨cs,hc⟩:=QX hb.pl e.symm;exact .inr (.inr ⟨(hb.pl.lt i e.symm).1,cs,TPc,hc,.inl rfl⟩))
theorem KB.blk{k:Nat}{cs:Array Value}{T:TypeId}{f:Nat×Nat}(h:KB B p bm w w1)(hb:BdAt w B p S A)(hbm:A.bm=bm)(hk:w.heap[k]? =some (.cells cs T f))(h1:TSt≠T)(h2:TPc≠T)(h3:TPr≠T)(h4:TIs≠T):w1.heap[k]? =some (.cells cs T f):=Kp.blk h hk (fun e=>by
 rcases e with e|e|⟨_,c,U,e,hU⟩
 ·subst e;exact Qn hb.blk hk h1
 ·subst e;obtain⟨es,cl,hm,_⟩:=hb.mt;rw[hbm,hk] at hm;injection hm with hm;cases hm
 ·rcases hU with rfl|rfl|rfl
  ·exact Qn e hk h2
  ·exact Qn e hk h3
  ·exact Qn e hk h4)
theorem KB.old{b:Nat}(h:KB B p bm w1 w2)(hk:Kn w w1)(h1:b=w.heap.size)(h2:b≤B)(h3:b≤p)(h4:b≤bm):Kn w w2:=
 Kp.trans' hk h (fun i hi e=>by rcases e with e|e|⟨e,_⟩<;>omega)
theorem KB.grow{B2 k:Nat}{T:TypeId}{v:Value}{n:Nat}{cs:List Value}(h:KB B p bm w w1)(hk:Kp (fun k=>some k=v.ownBlock) w1 w2)(hr:w1.ownsRow B2 T k v n cs)(hB:w.heap.size≤B2):KB B p bm w w2:=
 Kp.trans' h hk (fun i hi e=>by have:=(hr.lt i e.symm).1;omega)
theorem BdAt.putProd{P:PR}{vs v1:Value}(h:BdAt w B p S A)(hs:OwnK w B TSy 2 vs (P.syms.map syL))(hr:OwnK w1 B TPr 3 v1 (List.zipWith prL S.l A.vls++[prL P vs]))(hk:Kp (fun k=>some k=A.vl.ownBlock) w w1):
  BdAt (w1.setCell ⟨p,2,none⟩ v1) B p {S with l:=S.l++[P]} {A with vl:=v1,vls:=A.vls++[vs]} ∧KB B p A.bm w (w1.setCell ⟨p,2,none⟩ v1):=by
 have hS:=QR h.pr.row;have hb:=QA h.blk hk hS (by decide);have hk1:K1 p w1 (w1.setCell ⟨p,2,none⟩ v1):=Qg _ _;have hS1:=QO hb;have hlen:=h.pr.len;refine⟨⟨by have:=Qj hb 2 v1;simpa[seC] using this,Qk (Qk h.pl hk hS (by decide)) hk1 hS1 (by decide),Qs (Qs h.mt hk hS) hk1 hS1,⟨?_,by simp[hlen],fun i a b=> ?_⟩,(h.of_.off hk (Qv hS (by decide)) (Qv hS (by decide))).off hk1 (Qv hS1 (by decide)) (Qv hS1 (by decide)),h.pB⟩,(KB.of hk h.pr.row (.inr (.inl rfl))).trans (hk1.mono (fun i hi e=> .inl e))⟩
 ·have:=Qk hr hk1 hS1 (by decide);have e:List.zipWith prL (S.l++[P]) (A.vls++[vs])=List.zipWith prL S.l A.vls++[prL P vs]:=by rw[List.zipWith_append hlen.symm];try rfl
  show OwnK _ B TPr 3 v1 (List.zipWith prL (S.l++[P]) (A.vls++[vs]));rw[e];exact this
 ·dsimp only at a b⊢;by_cases hi:i<A.vls.length
  ·have:=Qk (Qk (h.pr.syms i hi (by omega)) hk hS (by decide)) hk1 hS1 (by decide);rw[List.getElem_append_left hi];simp only[List.getElem_append_left (show i<S.l.length by omega)];exact this
  ·have ei:i=A.vls.length:=by simp at a;omega
   subst ei;have:=Qk (Qk hs hk hS (by decide)) hk1 hS1 (by decide);rw[List.getElem_append_right (Nat.le_refl _)];simp only[List.getElem_append_right (show S.l.length≤A.vls.length by omega),Nat.sub_self,List.getElem_singleton,show A.vls.length-S.l.length=0 by omega];exact this
theorem BdAt.putOwn{o:List Nat}{vo v1:Value}(h:BdAt w B p S A)(hs:OwnI w B vo o)(hr:OwnK w1 B TIs 1 v1 (A.vos.map (fun x=>[x])++[[vo]]))(hk:Kp (fun k=>some k=A.vo.ownBlock) w w1):
  BdAt (w1.setCell ⟨p,3,none⟩ v1) B p {S with own:=S.own++[o]} {A with vo:=v1,vos:=A.vos++[vo]} ∧KB B p A.bm w (w1.setCell ⟨p,3,none⟩ v1):=by
 have hS:=QR h.of_.row;have hb:=QA h.blk hk hS (by decide);have hk1:K1 p w1 (w1.setCell ⟨p,3,none⟩ v1):=Qg _ _;have hS1:=QO hb;have hlen:=h.of_.len;refine⟨⟨by have:=Qj hb 3 v1;simpa[seC] using this,Qk (Qk h.pl hk hS (by decide)) hk1 hS1 (by decide),Qs (Qs h.mt hk hS) hk1 hS1,(h.pr.off hk (Qv hS (by decide)) (Qv hS (by decide))).off hk1 (Qv hS1 (by decide)) (Qv hS1 (by decide)),⟨?_,by simp[hlen],fun i a b=> ?_⟩,h.pB⟩,(KB.of hk h.of_.row (.inr (.inr rfl))).trans (hk1.mono (fun i hi e=> .inl e))⟩
 ·have:=Qk hr hk1 hS1 (by decide);show OwnK _ B TIs 1 v1 ((A.vos++[vo]).map (fun x=>[x]));rw[List.map_append];exact this
 ·dsimp only at a b⊢;by_cases hi:i<A.vos.length
  ·have:=Qk (Qk (h.of_.nums i hi (by omega)) hk hS (by decide)) hk1 hS1 (by decide);rw[List.getElem_append_left hi];simp only[List.getElem_append_left (show i<S.own.length by omega)];exact this
  ·have ei:i=A.vos.length:=by simp at a;omega
   subst ei;have:=Qk (Qk hs hk hS (by decide)) hk1 hS1 (by decide);rw[List.getElem_append_right (Nat.le_refl _)];simp only[List.getElem_append_right (show S.own.length≤A.vos.length by omega),Nat.sub_self,List.getElem_singleton,show A.vos.length-S.own.length=0 by omega];exact this
end
structure AKeep (A A':SA):Prop where
 bm:A'.bm=A.bm
 fin:A'.fin=A.fin
 ve:A'.ve=A.ve
 vf:A'.vf=A.vf
 vw:A'.vw=A.vw
theorem AKeep.refl(A:SA):AKeep A A:=⟨rfl,rfl,rfl,rfl,rfl⟩
theorem AKeep.trans{A A1 A2:SA}(h:AKeep A A1)(k:AKeep A1 A2):AKeep A A2:=⟨k.bm.trans h.bm,k.fin.trans h.fin,k.ve.trans h.ve,k.vf.trans h.vf,k.vw.trans h.vw⟩
theorem PlKeep.ak{w w':World}{p:Nat}{A A':SA}(h:PlKeep w w' p A A'):AKeep A A':=by rw[h.rest];exact⟨rfl,rfl,rfl,rfl,rfl⟩
structure RuR (w:World) (g:Nat) (rs:List GR) (vps:List Value):Prop where
 blk:∃cur,w.heap[g]? =some (.cells cur TRu (0,0))
 len:vps.length=rs.length
 row:∀i (h:i<rs.length) (h':i<vps.length),w.cell? ⟨g,i*4,none⟩=some (.int .i64 (rs[i].sort:Nat))∧w.cell? ⟨g,i*4+1,none⟩=some (.string rs[i].cons)∧w.cell? ⟨g,i*4+2,none⟩=some (.int .i64 (rs[i].level:Nat))∧w.cell? ⟨g,i*4+3,none⟩=some vps[i]
 parts:∀i (h:i<rs.length) (h':i<vps.length),∃B,OwnK w B TPa 4 vps[i] (rs[i].parts.map paL)
theorem RuR.of{w:World}{B:Nat}{v:Value}{rs:List GR}{vps:List Value}(h:RuAt w B v rs vps):∃a c,v= .slice a rs.length c∧(rs≠[]→∃g,a=some ⟨g,0,none⟩∧RuR w g rs vps):=by
 obtain⟨a,c,hv,_,_,hg⟩:=h.row.row (fun C hC=>by obtain⟨i,hi,rfl⟩:=List.getElem_of_mem hC;simp[ruL]);have hlen:=h.len;rw[List.length_zipWith,hlen,Nat.min_self] at hv;refine⟨a,c,hv,fun hne=> ?_⟩;obtain⟨g,ha,_,ho,hc⟩:=hg (fun e=>hne (by have h2:=congrArg List.length e;rw[List.length_zipWith,hlen,Nat.min_self] at h2;exact List.eq_nil_of_length_eq_zero h2));refine⟨g,ha,QX h.row ho,hlen,fun i hi hi'=> ?_,fun i hi hi'=>⟨B,h.parts i hi' hi⟩⟩;have h4:=hc i (by rw[List.length_zipWith,hlen,Nat.min_self];exact hi);have e0:=(h4 0 (by omega)).1;have e1:=(h4 1 (by omega)).1;have e2:=(h4 2 (by omega)).1;have e3:=(h4 3 (by omega)).1;rw[show 0+4*i+0=i*4 by omega] at e0;rw[show 0+4*i+1=i*4+1 by omega] at e1;rw[show 0+4*i+2=i*4+2 by omega] at e2;rw[show 0+4*i+3=i*4+3 by omega] at e3;rw[e0,e1,e2,e3];simp[ruL]
theorem info_pr:(Tryz.prog.info? TPr).map (fun i=>(i.zero,i.size,i.bytes))=some (some (.agg #[.int .i64 0,.int .i64 0,.slice none 0 0]),3,40):=by kernel_rfl
theorem info_is:(Tryz.prog.info? TIs).map (fun i=>(i.zero,i.size,i.bytes))=some (some (.slice none 0 0),1,24):=by kernel_rfl
theorem BdAt.pcell{w:World}{B p:Nat}{S:SB}{A:SA}(h:BdAt w B p S A):∃a c,w.cell? ⟨p,0,none⟩=some (.slice a S.places.length c)∧(S.places≠[]→∃g,a=some ⟨g,0,none⟩∧∀i (hi:i<S.places.length),w.cell? ⟨g,i*2,none⟩=some (.int .i64 (S.places[i].1:Nat))∧w.cell? ⟨g,i*2+1,none⟩=some (.int .i64 (S.places[i].2:Nat))):=by
 obtain⟨a,c,hv,_,_,hg⟩:=h.pl.row (fun C hC=>by obtain⟨x,_,rfl⟩:=List.mem_map.1 hC;rfl);rw[List.length_map] at hv;refine⟨a,c,by rw[h.cell 0,←hv];try rfl,fun hne=> ?_⟩;obtain⟨g,ha,_,_,hc⟩:=hg (by simpa using hne);refine⟨g,ha,fun i hi=> ?_⟩;have e0:=(hc i (by simpa using hi) 0 (by omega)).1;have e1:=(hc i (by simpa using hi) 1 (by omega)).1;rw[show 0+2*i+0=i*2 by omega] at e0;rw[show 0+2*i+1=i*2+1 by omega] at e1;rw[e0,e1];simp[pcL]
theorem BdAt.lcell{w:World}{B p:Nat}{S:SB}{A:SA}(h:BdAt w B p S A):∃a c,A.vl= .slice a S.l.length c∧w.cell? ⟨p,2,none⟩=some (.slice a S.l.length c):=by
 obtain⟨a,c,hv,_⟩:=h.pr.row.row (fun C hC=>by obtain⟨i,hi,rfl⟩:=List.getElem_of_mem hC;simp[prL]);have hlen:=h.pr.len;rw[List.length_zipWith,hlen,Nat.min_self] at hv;exact⟨a,c,hv,by rw[h.cell 2,←hv];try rfl⟩
theorem BdAt.ocell{w:World}{B p:Nat}{S:SB}{A:SA}(h:BdAt w B p S A):∃a c,A.vo= .slice a S.own.length c∧w.cell? ⟨p,3,none⟩=some (.slice a S.own.length c):=by
 obtain⟨a,c,hv,_⟩:=h.of_.row.row (k:=1) (fun C hC=>by obtain⟨x,_,rfl⟩:=List.mem_map.1 hC;rfl);rw[List.length_map,h.of_.len] at hv;exact⟨a,c,hv,by rw[h.cell 3,←hv];try rfl⟩
theorem bd_own{w w':World}{B B2 p:Nat}{S:SB}{A:SA}{v:Value}{l:List Nat}(h:BdAt w B p S A)(hr:OwnI w B2 v l)(hk:Kp (fun k=>some k=v.ownBlock) w w')(hlt:∀x∈A.vos,∀g,x.ownBlock=some g→g<B2):BdAt w' B p S A:=by
 have hS:=QR hr;refine⟨QA h.blk hk hS (by decide),Qk h.pl hk hS (by decide),Qs h.mt hk hS,h.pr.off hk (Qv hS (by decide)) (Qv hS (by decide)),⟨Qk h.of_.row hk hS (by decide),h.of_.len,fun i a b=>QG (h.of_.nums i a b) hk (fun g hg e=> ?_)⟩,h.pB⟩;have h1:=hlt _ (List.getElem_mem a) g hg;have h2:=(hr.lt g e.symm).1;omega
theorem BdAt.olt{w:World}{B p:Nat}{S:SB}{A:SA}(h:BdAt w B p S A):∀x∈A.vos,∀g,x.ownBlock=some g→g<w.heap.size:=fun x hx g hg=>by
 obtain⟨i,hi,rfl⟩:=List.getElem_of_mem hx;exact((h.of_.nums i hi (by rw[←h.of_.len];exact hi)).lt g hg).2
theorem own_base{w:World}{B B2 k n:Nat}{T:TypeId}{v:Value}{cs:List Value}(h:w.ownsRow B T k v n cs)(hB:B2≤B):w.ownsRow B2 T k v n cs:=by
 refine⟨h.1,?_⟩;rcases h.2 with h1|⟨g,cap,cur,h1,h2,h3⟩
 ·exact .inl h1
 ·exact .inr ⟨g,cap,cur,h1,Nat.le_trans hB h2,h3⟩
theorem getD_get{ps:PL}{n:Nat}(h:n<ps.length):ps.getD n (0,0)=ps[n]:=by rw[List.getD_eq_getElem?_getD,List.getElem?_eq_getElem h];try rfl
def BuildPost(B p:Nat)(rs:List GR)(A:SA)(w:World)(e:Ending)(w':World):Prop:=e= .returned (.tuple #[])∧∃A',BdAt w' B p (buildF rs) A'∧AKeep A A'∧KB B p A.bm w w'
theorem build_c{B p c:Nat}{a:Option Addr}{A:SA}{rs:List GR}{vps:List Value}{w:World}(h:BdAt w B p ⟨[],[],[]⟩ A)(hr:rs≠[]→∃g,a=some ⟨g,0,none⟩∧RuR w g rs vps)(ok:RulesOk rs):
  Calls Tryz.prog 65 #[ptr p,.slice a rs.length c] w (BuildPost B p rs A w):=by
 have hpl:=h.lt;have H:=Qh h;have HR:=Qh hr;have HOK:=Qh ok;have hrl:=ok.len;have HPC:Hid (Calls Tryz.prog 113 #[ptr p,.agg #[.int .i64 0,.int .i64 0]] w fun e w'=>e= .returned (.int .i64 0)∧∃A',BdAt w' B p ⟨[(0,0)],[],[]⟩ A'∧PlKeep w w' p A A'):=Qh (splace_c (0,0) h (by decide) (by decide) (by decide));obtain⟨ip,hi,hz0,hz1,hz2⟩:=info_parts info_pr;have HIP:=Qh (And.intro hi (And.intro hz0 (And.intro hz1 hz2)));obtain⟨io,hi,hz0,hz1,hz2⟩:=info_parts info_is;have HIO:=Qh (And.intro hi (And.intro hz0 (And.intro hz1 hz2)));have HBF:Hid (buildGo rs 501 0 ⟨[(0,0)],[],[]⟩=buildF rs):=Qh rfl;have hbB:=h.pB;clear h hr ok hi hz0 hz1 hz2;go_enter Tryz.func65,Tryz.ntmps65;go_wp2_with fail
 refine HPC.out.mono ?_;rintro e w1 ⟨rfl,A1,hb1,hk1⟩;have HB1:=Qh hb1;have hak1:=hk1.ak;have hkb1:=hk1.kb H.out;clear hb1 hk1 HPC;go_wp2_with fail
 go_loopw [4] (fun s4 wr=>∃(n:Nat) (S:SB) (A':SA),s4= .int .i64 n∧n≤400∧n≤S.places.length∧Hid (buildGo rs (501-n) n S=buildF rs)∧Hid (LOkB S.places S.l (120*n)∧S.own.length=n)∧Hid (BdAt wr B p S A')∧AKeep A A'∧KB B p A.bm w wr) (fun s4 _=>501-(intOf s4).toNat)
 case atStart=>exact⟨0,_,A1,rfl,by omega,Nat.zero_le _,HBF,Qh ⟨LOkB.start,rfl⟩,HB1,hak1,hkb1⟩
 case round=>
  clear HB1 hak1 hkb1 HBF;obtain⟨n,S,A',rfl,hn4,hnl,hgo,hlo,hbd,hak,hkb⟩:=hrel;obtain⟨ap,cp,p0,hgp⟩:=hbd.out.pcell;have h400:=hlo.out.1.pl.len;by_cases hlt:n<S.places.length
  ·have HGN:Hid (buildGo rs (501-(n+1)) (n+1) ⟨(rowS rs n S).places,(rowS rs n S).l,S.own++[(rowS rs n S).own]⟩=buildF rs):=Qh (by
    rw[←hgo.out,show 501-n=(501-(n+1))+1 by omega]
    conv=>rhs;unfold buildGo
    rw[if_pos hlt])
   have HOL:=Qh hbd.out.olt;obtain⟨wo,hwo⟩:∃z,z=wr:=⟨_,rfl⟩;subst hwo;obtain⟨Bo,hBo⟩:∃z,z=wo.heap.size:=⟨_,rfl⟩;rw[←hBo] at HOL;have hBo1:Bo≤wo.heap.size:=by omega
   have hBo2:w.heap.size≤Bo:=by rw[hBo];exact hkb.size
   have HL0:=Qh hlo.out.1;have HOW:=Qh hlo.out.2;clear hgp hgo hlo hBo;go_wp2_with fail
   go_loopw [5,22] (fun s5 s22 wi=>∃(i:Nat) (v:Value) (A2:SA),v=s5∧s22= .int .i64 i∧i≤rs.length∧Hid (OwnI wi Bo v (RK rs n S i).own)∧Hid (BdAt wi B p ⟨(RK rs n S i).places,(RK rs n S i).l,S.own⟩ A2)∧AKeep A A2∧A2.vos=A'.vos∧KB B p A.bm w wi∧Bo≤wi.heap.size) (fun _ s22 _=>rs.length-(intOf s22).toNat)
   case atStart=>exact⟨0,_,A',rfl,rfl,Nat.zero_le _,Qh (World.ownsRow_nil _ _ _ _),hbd,hak,rfl,hkb,hBo1⟩
   case round=>
    clear hbd hak hkb hBo1 p0;obtain⟨i,v,A2,rfl,rfl,hi,hov,hbd,hak,hvo,hkb,hbs⟩:=hrel;obtain⟨hok1,hok2,hok3,hok4⟩:=RK_ok HOK.out HL0.out hlt i hi;by_cases hil:i<rs.length
    ·have HRS:=Qh (RK_succ (n:=n) (S:=S) hil);have hpl2:=HOK.out.pl _ (List.getElem_mem hil);have hpa:=HOK.out.pa _ (List.getElem_mem hil);have hrlv:=HOK.out.rl _ (List.getElem_mem hil);obtain⟨X,hX⟩:∃z,z=RK rs n S i:=⟨_,rfl⟩;rw[←hX] at hov hbd hok1 hok2 hok3 hok4 HRS;obtain⟨g,rfl,hru⟩:=HR.out (fun e=>by rw[e] at hil;simp at hil);obtain⟨cu,hcu⟩:=hru.blk;have hgb:=hkb.blk H.out rfl hcu (by decide) (by decide) (by decide) (by decide);have hvl:i<vps.length:=by rw[hru.len];exact hil
     obtain⟨r0,r1,r2,r3⟩:=hru.row i hil hvl;have hgo2:∀ {x:Value} {j:Nat},w.cell? ⟨g,j,none⟩=some x→wr.cell? ⟨g,j,none⟩=some x:=fun {x j} hc=>by
      rw[Qa hgb,←Qa hcu];exact hc
     have x0:=hgo2 r0;have x1:=hgo2 r1;have x2:=hgo2 r2;have x3:=hgo2 r3;obtain⟨Bq,hpq⟩:=hru.parts i hil hvl;obtain⟨aq,cq,hvq,hgq⟩:=PaR.of hpq;obtain⟨r,hr⟩:∃z,z=rs[i]:=⟨_,rfl⟩;obtain⟨vq,hvqe⟩:∃z,z=vps[i]:=⟨_,rfl⟩;rw[←hr] at x0 x1 x2 hpl2 hpa hrlv HRS hpq hvq hgq;rw[←hvqe] at x3 hpq hvq;subst hvq;have HPQ:Hid (r.parts≠[]→∃gq,aq=some ⟨gq,0,none⟩∧(∃cs,wr.heap[gq]? =some (.cells cs TPa (0,0)))∧PaR wr gq r.parts):=Qh (fun hne=>by
      obtain⟨gq,hq,_,hpr⟩:=hgq hne;obtain⟨cq2,hcq2⟩:=QX hpq (g:=gq) (by rw[hq];try rfl);have hq2:=hkb.blk H.out rfl hcq2 (by decide) (by decide) (by decide) (by decide);refine⟨gq,hq,⟨_,hq2⟩,fun j hj=> ?_⟩;obtain⟨a0,a1,a2,a3⟩:=hpr j hj;refine⟨?_,?_,?_,?_⟩
      ·rw[Qa hq2,←Qa hcq2];exact a0
      ·rw[Qa hq2,←Qa hcq2];exact a1
      ·rw[Qa hq2,←Qa hcq2];exact a2
      ·rw[Qa hq2,←Qa hcq2];exact a3)
     have hgl:=Ql hgb;obtain⟨w2,hw2⟩:∃z,z=wr.alloc (.cells #[.int .i64 (r.sort:Nat),.string r.cons,.int .i64 (r.level:Nat),.slice aq r.parts.length cq] TRu):=⟨_,rfl⟩;have hk2:Kn wr w2:=by rw[hw2];exact(Qb _ _).alloc _
     obtain⟨b7,hb7⟩:∃z,z=wr.heap.size:=⟨_,rfl⟩;have hB7:w2.heap[b7]? =some (.cells #[.int .i64 (r.sort:Nat),.string r.cons,.int .i64 (r.level:Nat),.slice aq r.parts.length cq] TRu (0,0)):=by rw[hw2,hb7];exact Qf _ _
     have y0:w2.cell? ⟨b7,0,none⟩=some (.int .i64 (r.sort:Nat)):=by rw[Qa hB7];try rfl
     have y2:w2.cell? ⟨b7,2,none⟩=some (.int .i64 (r.level:Nat)):=by rw[Qa hB7];try rfl
     have HB7:=Qh hB7;have HBD2:=Qh (hbd.out.kn hk2);have HOV2:Hid (OwnI w2 Bo v X.own):=Qh (QG hov.out hk2 (fun _ _ x=>x));have HKB2:Hid (KB B p A.bm w w2):=Qh (hkb.trans (Kp.weak hk2));have HK2:=Qh hk2;have hbs2:=Nat.le_trans hbs hk2.size;have HW2:=Qh (And.intro hw2 hb7);have hnX:n<X.places.length:=by omega
     obtain⟨ax,cx,u0,hux⟩:=HBD2.out.pcell;obtain⟨gx,rfl,hux2⟩:=hux (fun e=>by dsimp only at e;rw[e] at hnX;simp at hnX);obtain⟨ux,uy⟩:=hux2 n hnX;dsimp only at u0 ux uy;have hqq:=getD_get hnX;obtain⟨q,hq⟩:∃z,z=X.places[n]:=⟨_,rfl⟩;rw[←hq] at ux uy hqq;have HQQ:=Qh hqq;have h4x:=hok1.pl.len;have HO1:=Qh hok1;have HPA:Hid (∀q∈r.parts,SPaOk q):=Qh (fun z hz=>by
      have h9:=(hpa z hz).so;have h8:=(hpa z hz).lv;exact⟨by omega,by omega⟩)
     have hll2:=hok1.ll;have HXE:=Qh hX;clear hX hr hvqe hpa hgq hpq r0 r1 r2 r3 hgo2 hru hcu hgb hw2 hb7 hB7 hk2 hbd hov hkb hux hux2 hq hqq hok1 hok2 hok4;go_upto_region 8 with fail
     rw[←HW2.out.1,←HW2.out.2];clear x0 x1 x2 x3 HW2 hgl;by_cases hs:r.sort=q.1
     ·have i1:(r.sort:Int)=q.1:=by omega
      rw[←i1] at ux;by_cases hv:q.2≤r.level
      ·have j1:(q.2:Int)≤r.level:=by omega
       have HRT:Hid (RK rs n S (i+1)=⟨(Yl X.places r.parts).1,X.l++[⟨n,i,(Yl X.places r.parts).2⟩],X.own++[X.l.length]⟩):=Qh (by
        rw[HRS.out];unfold sruleS isOf;dsimp only;rw[HQQ.out,if_pos (by simp[hs,hv])])
       clear HRS hs hv;go_wp2_with fail
       go_quiet (fail)
       obtain⟨w3,hw3⟩:∃z,z=w2.drewN nq:=⟨_,rfl⟩;have hk3:Kn w2 w3:=by rw[hw3];exact(Qb _ _).drewN _
       rw[←hw3];have HBD3:=Qh (HBD2.out.kn hk3);have HOV3:Hid (OwnI w3 Bo v X.own):=Qh (QG HOV2.out hk3 (fun _ _ x=>x));have HKB3:Hid (KB B p A.bm w w3):=Qh (HKB2.out.trans (Kp.weak hk3));have HK3:=Qh (HK2.out.trans hk3);have HB73:=Qh (hk3.blk HB7.out (fun x=>x));have hbs3:=Nat.le_trans hbs2 hk3.size;obtain⟨al,cl,hvl2,l3⟩:=HBD3.out.lcell;have HVL2:=Qh hvl2;clear hw3 hk3 y0 y2 ux uy u0 HBD2 HOV2 HKB2 HK2 HB7 i1 j1 hvl2;dsimp only at l3;have hll3:X.l.length≤60000:=by omega
       go_wp2_with (at_builtin;refine QN rfl (.tmp 51) (.tmp 57) rfl Bo w3.heap.size v _ _ [X.l.length] rfl rfl (QG HOV3.out (Kp.alloc (S:=fun _=>False) (Qb _ _) _) (fun _ _ x=>x)) (OwnI.one _ _) (by rw[List.length_singleton];omega) (by rw[size_alloc'];omega) ?_;intro v4 w4 hro hk4)
       have hkA:Kn w3 (w3.alloc (.cells #[.int .i64 (X.l.length:Nat)] 3)):=(Qb _ _).alloc _;have hovA:OwnI (w3.alloc (.cells #[.int .i64 (X.l.length:Nat)] 3)) Bo v X.own:=QG HOV3.out hkA (fun _ _ x=>x);have hS4:=QR hovA;have HBD4:=Qh (bd_own (HBD3.out.kn hkA) hovA hk4 (by rw[hvo];exact HOL.out));have HOV4:=Qh hro;have HKB4:Hid (KB B p A.bm w w4):=Qh ((HKB3.out.trans (Kp.weak hkA)).grow hk4 hovA hBo2);have HB74:=Qh (QA (hkA.blk HB73.out (fun x=>x)) hk4 hS4 (by decide));have hbs4:=Nat.le_trans hbs3 (Nat.le_trans hkA.size hk4.size);have HPQ4:Hid (r.parts≠[]→∃gq,aq=some ⟨gq,0,none⟩∧(∃cs,w4.heap[gq]? =some (.cells cs TPa (0,0)))∧PaR w4 gq r.parts):=Qh (fun hne=>by
        obtain⟨gq,hq,⟨cs,hcs⟩,hpr⟩:=HPQ.out hne;have h5:=QA (hkA.blk (HK3.out.blk hcs (fun x=>x)) (fun x=>x)) hk4 hS4 (by decide);refine⟨gq,hq,⟨_,h5⟩,fun j hj=> ?_⟩;obtain⟨a0,a1,a2,a3⟩:=hpr j hj;refine⟨?_,?_,?_,?_⟩
        ·rw[Qa h5,←Qa hcs];exact a0
        ·rw[Qa h5,←Qa hcs];exact a1
        ·rw[Qa h5,←Qa hcs];exact a2
        ·rw[Qa h5,←Qa hcs];exact a3)
       have l4:w4.cell? ⟨p,2,none⟩=some (.slice al X.l.length cl):=by rw[HBD4.out.cell 2];exact congrArg some HVL2.out
       have z3:w4.cell? ⟨b7,3,none⟩=some (.slice aq r.parts.length cq):=by rw[Qa HB74.out];try rfl
       clear hkA hovA hS4 hk4 hro HBD3 HOV3 HKB3 HB73 l3 HPQ HK3;go_wp2_with fail
       refine rgn (fun w'=>w'.cell? ⟨p,2,none⟩=some (.slice al X.l.length cl)∧w'.cell? ⟨b7,3,none⟩=some (.slice aq r.parts.length cq)) (X:=[]) ⟨Qc ((Qb _ _).drew) l4,Qc ((Qb _ _).drew) z3⟩ (fun hX hHeld=> ?_);refine tw 0 59 ?_;refine tw 1 60 ?_;refine tw 2 61 ?_;refine tw 3 62 ?_;refine tk 4 63 ?_;refine tw 5 64 ?_;refine tw 6 65 ?_;refine tw 7 66 ?_;refine tw 8 67 ?_;refine tk 9 68 ?_;refine ro 10 (fun K hK=> ?_);obtain⟨wd,hwd⟩:∃z,z=w4.drew:=⟨_,rfl⟩;have hkd:Kn w4 wd:=by rw[hwd];exact(Qb _ _).drew
       have HBDd:=Qh (HBD4.out.kn hkd);have HOVd:Hid (OwnI wd Bo v4 (X.own++[X.l.length])):=Qh (QG HOV4.out hkd (fun _ _ x=>x));have HKBd:Hid (KB B p A.bm w wd):=Qh (HKB4.out.trans (Kp.weak hkd));have HB7d:=Qh (hkd.blk HB74.out (fun x=>x));have HPQd:Hid (r.parts≠[]→∃gq,aq=some ⟨gq,0,none⟩∧(∃cs,wd.heap[gq]? =some (.cells cs TPa (0,0)))∧PaR wd gq r.parts):=by rw[hwd];exact HPQ4
       have hbsd:=Nat.le_trans hbs4 hkd.size;rw[←hwd] at hHeld⊢;clear hwd hkd l4 z3 HBD4 HOV4 HKB4 HB74 HPQ4;go_simp
       go_at_call 114
       refine(symbols_c r.parts HBDd.out HPQd.out HPA.out (by dsimp only;omega)).mono ?_;rintro e w5 ⟨vs,A5,rfl,hrow5,hbd5,hk5⟩;dsimp only at hrow5 hbd5;have HBD5:=Qh hbd5;have HRW5:=Qh (hrow5.base (B':=B) (by have:=hbB.1;have:=HKBd.out.size;omega));have HKB5:Hid (KB B p A.bm w w5):=Qh (HKBd.out.trans (by have h9:=hk5.kb HBDd.out;rwa[hak.bm] at h9));have HOV5:Hid (OwnI w5 Bo v4 (X.own++[X.l.length])):=Qh (row_off HOVd.out hk5.kp (HBDd.out.other (by decide) (by decide)));have hak5:=hak.trans hk5.ak;have hvo5:A5.vos=A'.vos:=by rw[hk5.rest];exact hvo
       have hbs5:=Nat.le_trans hbsd hk5.kp.size;have HVL5:Hid (A5.vl= .slice al X.l.length cl):=Qh (by rw[hk5.rest];exact HVL2.out);have hls5:A5.vls.length=X.l.length:=hbd5.pr.len;have HB75:=Qh (hk5.kp.blk HB7d.out (HBDd.out.other (by decide) (by decide) _ _ HB7d.out));refine hK.out _ _ (⟨by rw[hbd5.cell 2];exact congrArg some HVL5.out,Qi hk5.kp hHeld.2 (HBDd.out.other (by decide) (by decide) _ _ HB7d.out)⟩) (fun hHeld=> ?_);obtain⟨avs,cvs,hvs,_⟩:=hrow5.row (k:=2) (fun C hC=>by obtain⟨x,_,rfl⟩:=List.mem_map.1 hC;rfl);rw[List.length_map] at hvs;subst hvs;have hOne:(Value.slice avs (Yl X.places r.parts).2.length cvs).oneCell'=true:=rfl;obtain⟨ns,hns⟩:∃z,z=(Yl X.places r.parts).2.length:=⟨_,rfl⟩;rw[←hns] at HRW5 hOne⊢;clear hrow5 hbd5 hk5 HBDd HOVd HKBd HB7d HPQd hns;clear hK K
       try simp only[PP]
       refine tw 11 70 ?_;refine ro 12 (fun K hK=> ?_);go_simp;obtain⟨w6,hw6⟩:∃z,z=w5.alloc (.cells #[.int .i64 (n:Nat),.int .i64 (i:Nat),.slice avs ns cvs] TPr):=⟨_,rfl⟩;obtain⟨ge,hge⟩:∃z,z=w5.heap.size:=⟨_,rfl⟩;have GE:w6.heap[ge]? =some (.cells #[.int .i64 (n:Nat),.int .i64 (i:Nat),.slice avs ns cvs] TPr (0,0)):=by rw[hw6,hge];exact Qf _ _
       have hk6:Kn w5 w6:=by rw[hw6];exact(Qb _ _).alloc _
       have HBD6:=Qh (HBD5.out.kn hk6);have HRW6:=Qh (HRW5.out.kn hk6);have HKB6:Hid (KB B p A.bm w w6):=Qh (HKB5.out.trans (Kp.weak hk6));have HOV6:Hid (OwnI w6 Bo v4 (X.own++[X.l.length])):=Qh (QG HOV5.out hk6 (fun _ _ x=>x));have hbs6:=Nat.le_trans hbs5 hk6.size;have HB76:=Qh (hk6.blk HB75.out (fun x=>x));rw[←hw6,←hge];refine hK.out _ _ (⟨Qc hk6 hHeld.1,Qc hk6 hHeld.2⟩) (fun hHeld=> ?_);clear hw6 hge hk6 HBD5 HRW5 HKB5 HOV5;clear hK K
       try simp only[PP]
       refine ro 13 (fun K hK=> ?_);have hownO:OwnK w6 B TPr 3 (.slice al X.l.length cl) (List.zipWith prL X.l A5.vls):=by have h1:=HBD6.out.pr.row;rw[HVL5.out] at h1;exact h1
       have hzl:(List.zipWith prL X.l A5.vls).length=X.l.length:=by rw[List.length_zipWith,hls5,Nat.min_self]
       refine Qm w6 (by rfl) _ _ 97 (by rfl) B TPr ip (.agg #[.int .i64 0,.int .i64 0,.slice none 0 0]) 3 40 Tryz.underlying97 HIP.out.1 HIP.out.2.1 HIP.out.2.2.1 HIP.out.2.2.2 (by rfl) (by decide) (.slice al X.l.length cl) (List.zipWith prL X.l A5.vls) (by rfl) hownO ge 1 (by rfl) #[.int .i64 (n:Nat),.int .i64 (i:Nat),.slice avs ns cvs] TPr (0,0) GE (by rfl) (by simp[Value.oneCell']) (by rw[hzl];simp only[maxLen];omega) (by rw[hzl];omega) (by have:=hbB.1;have:=HKB6.out.size;omega) ?_;intro v1 w7 hown7 hka hat;obtain⟨av1,cv1,hv1,_⟩:=hown7.row (k:=3) (fun D hD=>by rcases List.mem_append.1 hD with h|h;obtain⟨i,hi,rfl⟩:=List.getElem_of_mem h;simp[prL];simp at h;rw[h];try rfl);obtain⟨nl1,hv1⟩:∃n,v1= .slice av1 n cv1:=⟨_,hv1⟩;have HV1:=Qh hv1;have HBP:=Qh (BdAt.putProd (P:=⟨n,i,(Yl X.places r.parts).2⟩) HBD6.out HRW6.out hown7 (by rw[HVL5.out];exact hka));have hS7:=QR hownO;have hb7':=QA HBD6.out.blk hka hS7 (by decide);have l7:w7.cell? ⟨p,2,none⟩=some (.slice al X.l.length cl):=by rw[Qa hb7'];exact congrArg some HVL5.out
       have f7:=Qd hb7' 2;have HOV7:Hid (OwnI w7 Bo v4 (X.own++[X.l.length])):=Qh (Qk HOV6.out hka hS7 (by decide));have hbs7:=Nat.le_trans hbs6 hka.size;refine hK.out _ _ (⟨l7,Qi hka hHeld.2 (fun e=>by obtain⟨cur,h1⟩:=QX hownO e.symm;exact Qn HB76.out h1 (by decide))⟩) (fun hHeld=> ?_);clear hown7 hka hat hv1 hownO hzl hS7 GE HOV6 hbs6;clear hK K
       try simp only[PP]
       refine tw 14 73 ?_;refine tw 15 74 ?_;refine re 16 (fun K hK=> ?_);rw[HV1.out];go_simp;rw[←HV1.out];obtain⟨w9,hw9⟩:∃z,z=w7.setCell ⟨p,2,none⟩ v1:=⟨_,rfl⟩;have hk9:K1 p w7 w9:=by rw[hw9];exact Qg _ _
       rw[←hw9] at HBP⊢;have HBD9:=HBP;have HKB9:Hid (KB B p A.bm w w9):=Qh (HKB6.out.trans (by have h9:=HBP.out.2;rwa[hak5.bm] at h9));have HOV9:Hid (OwnI w9 Bo v4 (X.own++[X.l.length])):=Qh (Qk HOV7.out hk9 (QO hb7') (by decide));have hbs9:=Nat.le_trans hbs7 hk9.size;have HAK9:Hid (AKeep A {A5 with vl:=v1,vls:=A5.vls++[.slice avs ns cvs]} ∧({A5 with vl:=v1,vls:=A5.vls++[.slice avs ns cvs]} :SA).vos=A'.vos):=Qh ⟨⟨hak5.bm,hak5.fin,hak5.ve,hak5.vf,hak5.vw⟩,hvo5⟩;clear hw9 hk9 hHeld l7 f7 hb7';refine hK.out _ _ ?_;clear hK K;go_wp2_with fail
       go_roundw
       case rel=>exact⟨i+1,v4, {A5 with vl:=v1,vls:=A5.vls++[.slice avs ns cvs]},rfl,by go_num,by omega,Qh (by rw[HRT.out];exact HOV9.out),Qh (by rw[HRT.out];exact HBD9.out.1),HAK9.out.1,HAK9.out.2,HKB9.out,hbs9⟩
       case measure=>simp[intOf];omega
      ·have j1:¬(q.2:Int)≤r.level:=by omega
       have HRT:Hid (RK rs n S (i+1)=X):=Qh (by
        rw[HRS.out];unfold sruleS isOf;dsimp only;rw[HQQ.out,if_neg (by simp[hv])])
       clear HRS hs hv;go_wp2_with fail
       go_quiet (fail)
       go_wp2_with fail
       go_roundw
       case rel=>exact⟨i+1,v,A2,rfl,by go_num,by omega,Qh (by rw[HRT.out];exact HOV2.out),Qh (by rw[HRT.out];exact HBD2.out.kn ((Qb _ _).drewN _)),hak,hvo,HKB2.out.drewN _,hbs2⟩
       case measure=>simp[intOf];omega
     ·have i1:¬(r.sort:Int)=q.1:=by omega
      have HRT:Hid (RK rs n S (i+1)=X):=Qh (by
       rw[HRS.out];unfold sruleS isOf;dsimp only;rw[HQQ.out,if_neg (by simp[hs])])
      clear HRS hs;go_wp2_with fail
      go_quiet (fail)
      go_wp2_with fail
      go_roundw
      case rel=>exact⟨i+1,v,A2,rfl,by go_num,by omega,Qh (by rw[HRT.out];exact HOV2.out),Qh (by rw[HRT.out];exact HBD2.out.kn ((Qb _ _).drewN _)),hak,hvo,HKB2.out.drewN _,hbs2⟩
      case measure=>simp[intOf];omega
    ·obtain rfl:i=rs.length:=by omega
     rw[RK_all] at hov hbd hok1 hok2 hok3 hok4;obtain⟨R,hR⟩:∃z,z=rowS rs n S:=⟨_,rfl⟩;rw[←hR] at hov hbd hok1 hok2 hok3 hok4 HGN;have HO1:=Qh hok1;obtain⟨ao,co,hvo2,o3⟩:=hbd.out.ocell;dsimp only at o3 hvo2;rw[HOW.out] at o3 hvo2;have HVO2:=Qh hvo2;have fr3:=hbd.out.fr 3;have hvo4:=hbd.out.of_.len;dsimp only at hvo4;have HOWK:Hid (OwnK wr B TIs 1 (.slice ao n co) (A2.vos.map (fun x=>[x]))):=Qh (by
      have h1:=hbd.out.of_.row;rw[HVO2.out] at h1;exact h1)
     have HVL9:Hid ((A2.vos.map (fun x=>[x])).length=n):=Qh (by rw[List.length_map,hvo4,HOW.out]);clear hvo4;obtain⟨av,cv,rfl,_⟩:=hov.out.look;obtain⟨nr,hnr⟩:∃z,z=R.own.length:=⟨_,rfl⟩;have HVI:Hid (OwnI wr B (.slice av nr cv) R.own):=Qh (by
      have h9:=hov.out;rw[hnr];exact own_base h9 (by have:=hbB.1;omega))
     rw[←hnr];clear hnr;have hwB:B≤wr.heap.size:=by have:=hbB.1;have:=hkb.size;omega
     obtain⟨w2,hw2⟩:∃z,z=wr.alloc (.cells #[.slice av nr cv] TIs):=⟨_,rfl⟩;have hk2:Kn wr w2:=by rw[hw2];exact(Qb _ _).alloc _
     have HW2:=Qh hw2;have HK2:=Qh hk2;have HBL:Hid (w2.heap[wr.heap.size]? =some (.cells #[.slice av nr cv] TIs (0,0))):=Qh (by rw[hw2];exact Qf _ _);have hwB2:B≤w2.heap.size:=Nat.le_trans hwB hk2.size;clear hw2 hk2 hov hR hvo2;have HGO:=Qh HGN.out;go_wp2_with (at_builtin;go_must (rw[←HW2.out];refine QF w2 rfl (.tmp 80) (.tmp 82) 140 rfl B TIs io (.slice none 0 0) 1 24 Tryz.underlying140 HIO.out.1 HIO.out.2.1 HIO.out.2.2.1 HIO.out.2.2.2 (by rfl) (by decide) (.slice ao n co) (A2.vos.map (fun x=>[x])) rfl (HOWK.out.kn HK2.out) wr.heap.size 1 rfl #[.slice av nr cv] TIs (0,0) HBL.out rfl (by simp[Value.oneCell']) (by rw[HVL9.out];simp only[maxLen];omega) (by rw[HVL9.out];omega) hwB2 ?_;intro v1 w5 hown5 hka hat;have HX:=Qh (And.intro hown5 hka);have hb5:=QA (HK2.out.blk hbd.out.blk (fun x=>x)) hka (QR (HOWK.out.kn HK2.out)) (by decide);have o5:w5.cell? ⟨p,3,none⟩=some (.slice ao n co):=by {rw[Qa hb5];exact congrArg some HVO2.out};have f5:=Qd hb5 3;obtain⟨av1,cv1,hv1,_⟩:=hown5.row (k:=1) (fun D hD=>by {rcases List.mem_append.1 hD with h|h; {obtain⟨x,_,rfl⟩:=List.mem_map.1 h;rfl}; {simp at h;rw[h];try rfl} });replace hv1:v1= .slice av1 (n+1) cv1:=by {rw[hv1,List.length_append,HVL9.out];try rfl};subst hv1;clear hown5 hka hat hb5))
     have HBP:=Qh (BdAt.putOwn (hbd.out.kn HK2.out) (QG HVI.out HK2.out (fun _ _ x=>x)) HX.out.1 (by rw[HVO2.out];exact HX.out.2));have hkb9:KB B p A.bm w _:=(hkb.trans (Kp.weak HK2.out)).trans (by have h9:=HBP.out.2;rwa[hak.bm] at h9);go_roundw
     case rel=>exact⟨n+1,_,_,by go_num,by omega,by dsimp only;omega,HGO,Qh ⟨⟨HO1.out.pl,HO1.out.pos,by have:=HO1.out.ll;dsimp only;omega,HO1.out.pr⟩,by simp[HOW.out]⟩,Qh HBP.out.1,⟨hak.bm,hak.fin,hak.ve,hak.vf,hak.vw⟩,hkb9⟩
     case measure=>simp[intOf];omega
  ·have hge:n=S.places.length:=by omega
   have hbf:buildF rs=S:=by
    rw[←hgo.out,show 501-n=(501-(n+1))+1 by omega];unfold buildGo;rw[if_neg hlt]
   have HBF:=Qh hbf;clear hbf hgp;go_wp2_with fail
   refine bodyPost_end (results_none rfl _ _ _) rfl ?_;exact⟨rfl,A',by rw[HBF.out];exact hbd.out,hak,hkb⟩
theorem MF_le{w:World}{B p ge gf gw:Nat}{S:SB}{A:SA}{E:List Bool}{F W:List Nat}(h:StAt w B p S A E F W ge gf gw):MF E F≤S.places.length*M41+S.places.length*2:=by
 have h1:=sum_lt F h.fz;have h2:=sum_lt (bN E) (bN_lt E);rw[h.fl] at h1;rw[bN_len,h.el] at h2;unfold MF;omega
theorem rounds1_c{B p ge gf gw:Nat}{S:SB}{A:SA}{E:List Bool}{F W:List Nat}{w:World}(h:StAt w B p S A E F W ge gf gw)(ok:SBok S):
  Calls Tryz.prog 66 #[.func (.func 67) #[ptr p] #[]] w fun e w'=>e= .returned (.tuple #[])∧∃E' F',Fin (fstF S.l) (E,F) (E',F')∧StAt w' B p S A E' F' W ge gf gw∧FSt ge gf w w':=by
 have H:=Qh h;have HOK:=Qh ok;have hm:=MF_le h;obtain⟨N,hN⟩:∃N,N=S.places.length*M41+S.places.length*2:=⟨_,rfl⟩;rw[←hN] at hm;have HN:=Qh hN;have HM:=Qh hm;clear h ok hN hm;go_enter Tryz.func66,Tryz.ntmps66;go_wp2_with fail
 go_loopg [3] (N+1) (fun f s3 wr=>∃(k:Nat) (E1:List Bool) (F1:List Nat),Hid ((E1,F1)=itF (fstF S.l) k (E,F)∧∀j,j<k→(fstF S.l (itF (fstF S.l) j (E,F))).2=true)∧Hid (N<MF E1 F1+f)∧Hid (StAt wr B p S A E1 F1 W ge gf gw)∧Hid (FSt ge gf w wr))
 case atStart=>exact⟨0,E,F,Qh ⟨rfl,fun j hj=>absurd hj (Nat.not_lt_zero _)⟩,Qh (by omega),H,Qh (Qb _ _)⟩
 case round=>
  clear HM;obtain⟨k,E1,F1,hit,hgh,hst,hkp⟩:=hrel;have HFC:=Qh (firsts_c hst.out HOK.out);have hmn:=firstP_mono S.l ⟨E1,F1,false⟩ (fun q hq=>by have h9:=(HOK.out.pr q hq).1;have:=hst.out.el;have:=hst.out.fl;dsimp only;omega);have HMN:=Qh hmn;clear hmn;obtain⟨r,hr⟩:∃r,r=YU S.l (E1,F1):=⟨_,rfl⟩;change Hid (MF E1 F1≤MF (YU S.l (E1,F1)).empty (YU S.l (E1,F1)).first∧((YU S.l (E1,F1)).more=true→false=true∨MF E1 F1<MF (YU S.l (E1,F1)).empty (YU S.l (E1,F1)).first)) at HMN;rw[←hr] at HFC HMN;have HFE:Hid (fstF S.l (itF (fstF S.l) k (E,F))=((r.empty,r.first),r.more)):=Qh (by rw[←hit.out.1];unfold fstF;rw[←hr]);clear hr;have hgk:=hgh.out;have hle:=MF_le hst.out;rw[←HN.out] at hle;have HGK:Hid (gk≠0):=Qh (by omega);clear hgk hle;cases hmr:r.more with
  |false=>
   rw[hmr] at HFC HFE;clear hmr HMN;go_wp2_with (first|(go_at_call 67;go_must (refine HFC.out.mono ?_;rintro e w2 ⟨rfl,hs2,hk2⟩;have HS2:=Qh hs2;have HKP2:=Qh (hkp.out.trans hk2);clear hs2 hk2 HFC)))
   refine bodyPost_end (results_none rfl _ _ _) rfl ?_;exact⟨rfl,r.empty,r.first,⟨k,by rw[HFE.out],by rw[HFE.out],hit.out.2⟩,HS2.out,HKP2.out⟩
  |true=>
   rw[hmr] at HFC HFE HMN;clear hmr;go_wp2_with (first|(go_at_call 67;go_must (refine HFC.out.mono ?_;rintro e w2 ⟨rfl,hs2,hk2⟩;have HS2:=Qh hs2;have HKP2:=Qh (hkp.out.trans hk2);clear hs2 hk2 HFC)))
   go_roundg (gk-1)
   case measure=>have:=HGK.out;omega
   case rel=>exact⟨k+1,r.empty,r.first,Qh ⟨by show _=(fstF S.l (itF (fstF S.l) k (E,F))).1;rw[HFE.out],fun j hj=>by
    rcases Nat.lt_succ_iff_lt_or_eq.1 hj with h|h
    ·exact hit.out.2 j h
    ·rw[h,HFE.out]⟩,Qh (by have h1:=hgh.out;have h2:=HMN.out.2 trivial;have h3:=HGK.out;rcases h2 with h2|h2;cases h2;omega),HS2,HKP2⟩
theorem sumW_le{w:World}{B p ge gf gw:Nat}{S:SB}{A:SA}{E:List Bool}{F W:List Nat}(h:StAt w B p S A E F W ge gf gw):W.sum≤S.places.length*M41:=by
 have h1:=sum_lt W h.wz;rw[h.wl] at h1;exact h1
theorem rounds2_c{B p ge gf gw:Nat}{S:SB}{A:SA}{E:List Bool}{F W:List Nat}{w:World}(h:StAt w B p S A E F W ge gf gw)(ok:SBok S):
  Calls Tryz.prog 66 #[.func (.func 69) #[ptr p] #[]] w fun e w'=>e= .returned (.tuple #[])∧∃W',Fin (flwF E F S.l) W W'∧StAt w' B p S A E F W' ge gf gw∧K1 gw w w':=by
 have H:=Qh h;have HOK:=Qh ok;have hm:=sumW_le h;obtain⟨N,hN⟩:∃N,N=S.places.length*M41:=⟨_,rfl⟩;rw[←hN] at hm;have HN:=Qh hN;have HM:=Qh hm;clear h ok hN hm;go_enter Tryz.func66,Tryz.ntmps66;go_wp2_with fail
 go_loopg [3] (N+1) (fun f s3 wr=>∃(k:Nat) (W1:List Nat),Hid (W1=itF (flwF E F S.l) k W∧∀j,j<k→(flwF E F S.l (itF (flwF E F S.l) j W)).2=true)∧Hid (N<W1.sum+f)∧Hid (StAt wr B p S A E F W1 ge gf gw)∧Hid (K1 gw w wr))
 case atStart=>exact⟨0,W,Qh ⟨rfl,fun j hj=>absurd hj (Nat.not_lt_zero _)⟩,Qh (by omega),H,Qh (Qb _ _)⟩
 case round=>
  clear HM;obtain⟨k,W1,hit,hgh,hst,hkp⟩:=hrel;have HFC:=Qh (follows_c hst.out HOK.out);have hmn:=followP_mono E F S.l ⟨W1,false⟩ (fun q hq y hy hyp=>by have h9:=(HOK.out.pr q hq).2.2.2 y hy;rw[if_pos hyp] at h9;have:=hst.out.wl;dsimp only;omega);change W1.sum≤(followP E F S.l W1).follow.sum∧((followP E F S.l W1).more=true→false=true∨W1.sum<(followP E F S.l W1).follow.sum)∧_ at hmn;have HMN:=Qh hmn;clear hmn;obtain⟨r,hr⟩:∃r,r=followP E F S.l W1:=⟨_,rfl⟩;rw[←hr] at HFC HMN;have HFE:Hid (flwF E F S.l (itF (flwF E F S.l) k W)=(r.follow,r.more)):=Qh (by rw[←hit.out.1];unfold flwF;rw[←hr]);clear hr;have hgk:=hgh.out;have hle:=sumW_le hst.out;rw[←HN.out] at hle;have HGK:Hid (gk≠0):=Qh (by omega);clear hgk hle;cases hmr:r.more with
  |false=>
   rw[hmr] at HFC HFE;clear hmr HMN;go_wp2_with (first|(go_at_call 69;go_must (refine HFC.out.mono ?_;rintro e w2 ⟨rfl,hs2,hk2⟩;have HS2:=Qh hs2;have HKP2:=Qh (hkp.out.trans hk2);clear hs2 hk2 HFC)))
   refine bodyPost_end (results_none rfl _ _ _) rfl ?_;exact⟨rfl,r.follow,⟨k,by rw[HFE.out],by rw[HFE.out],hit.out.2⟩,HS2.out,HKP2.out⟩
  |true=>
   rw[hmr] at HFC HFE HMN;clear hmr;go_wp2_with (first|(go_at_call 69;go_must (refine HFC.out.mono ?_;rintro e w2 ⟨rfl,hs2,hk2⟩;have HS2:=Qh hs2;have HKP2:=Qh (hkp.out.trans hk2);clear hs2 hk2 HFC)))
   go_roundg (gk-1)
   case measure=>have:=HGK.out;omega
   case rel=>exact⟨k+1,r.follow,Qh ⟨by show _=(flwF E F S.l (itF (flwF E F S.l) k W)).1;rw[HFE.out],fun j hj=>by
    rcases Nat.lt_succ_iff_lt_or_eq.1 hj with h|h
    ·exact hit.out.2 j h
    ·rw[h,HFE.out]⟩,Qh (by have h1:=hgh.out;have h2:=HMN.out.2.1 trivial;have h3:=HGK.out;rcases h2 with h2|h2;cases h2;omega),HS2,HKP2⟩
theorem info_pa:(Tryz.prog.info? TPa).map (fun i=>(i.zero,i.size,i.bytes))=some (some (.agg #[.int .i64 0,.int .i64 0,.int .i64 0,.bool false]),4,32):=by kernel_rfl
theorem info_ru:(Tryz.prog.info? TRu).map (fun i=>(i.zero,i.size,i.bytes))=some (some (.agg #[.int .i64 0,.string ByteArray.empty,.int .i64 0,.slice none 0 0]),4,56):=by kernel_rfl
theorem parts_step{R:RS}{ws:List GW}{ps:List GP}{k:Nat}(h:R.parts ws=match R.parts (ws.drop k) with|some r=>some (ps++r)|none=>none)(hk:k<ws.length):
  R.parts ws=match R.part ws[k] with|some x=>(match R.parts (ws.drop (k+1)) with|some r=>some ((ps++[x])++r)|none=>none)|none=>none:=by
 rw[h,List.drop_eq_getElem_cons hk,RS.parts];cases R.part ws[k] with
 |none=>rfl
 |some x=>
  dsimp only;cases R.parts (ws.drop (k+1)) with
  |none=>rfl
  |some r=>simp
theorem parts_end{R:RS}{ws:List GW}{ps:List GP}(h:R.parts ws=match R.parts (ws.drop ws.length) with|some r=>some (ps++r)|none=>none):R.parts ws=some ps:=by
 rw[h,List.drop_length];simp[RS.parts]
theorem linkGo_step{R:RS}{xs:List GL}{k:Nat}{rs:List GR}{br:List (Nat×Nat)}{Z:Option (List GR×List (Nat×Nat))}(h:R.linkGo (xs.drop k) rs br=Z)(hk:k<xs.length):
  Z=match R.ruleOf xs[k] with|some r=>R.linkGo (xs.drop (k+1)) (rs++[r]) (if xs[k].round=true then brPut br r.sort rs.length else br)|none=>none:=by
 rw[←h,List.drop_eq_getElem_cons hk];try rfl
theorem linkGo_end{R:RS}{xs:List GL}{rs:List GR}{br:List (Nat×Nat)}{Z:Option (List GR×List (Nat×Nat))}(h:R.linkGo (xs.drop xs.length) rs br=Z):Z=some (rs,br):=by
 rw[←h,List.drop_length];try rfl
theorem idxS_lt(ss:List ByteArray)(x:ByteArray): -1≤Lib.idxOfS ss x∧Lib.idxOfS ss x<ss.length:=by
 have gen:∀(zs:List ByteArray) (i:Nat),-1≤Lib.idxFromS zs x i∧Lib.idxFromS zs x i<(i+zs.length:Nat):=by
  intro zs;induction zs with
  |nil=>intro i;simp[Lib.idxFromS];omega
  |cons z zs ih=>
   intro i;unfold Lib.idxFromS;split
   ·simp;omega
   ·have:=ih (i+1);simp at this⊢;omega
 have:=gen ss 0;unfold Lib.idxOfS;simpa using this
def LinkPost(B p:Nat)(R:RS)(A0:RA)(w:World)(e:Ending)(w':World):Prop:=
 ∃k n:Int,e= .returned (.tuple #[.int .i64 k,.int .i64 n])∧Kp (fun i=>B≤i) w w'∧match R.linkGo R.lines [] [] with
 |some (rs,br)=>n=0∧∃A kb vps,LkAt w' B p R A kb rs vps br∧rs.length≤120∧A.sc=A0.sc
 |none=>n≠0
theorem glink_c{B p:Nat}{R:RS}{A0:RA}{w:World}(h:RdAt w B p R A0)(ok:RSok R)(hvr:A0.vr= .slice none 0 0):
  Calls Tryz.prog 111 #[ptr p] w (LinkPost B p R A0 w):=by
 have hmm:= @run_makeMap Tryz.prog;have hpl:=h.lt;have hpB:=h.pB.1;obtain⟨_,_,_,_,q4,_⟩:=h.cells;have f4:=h.fr 4;obtain⟨kb,hkb⟩:∃z,z=w.heap.size:=⟨_,rfl⟩;obtain⟨w1,hw1⟩:∃z,z=w.alloc (.map #[] 0):=⟨_,rfl⟩;have hk1:Kn w w1:=by rw[hw1];exact(Qb _ _).alloc _
 have hm1:MapA w1 TI kb (brM []):=by rw[hw1,hkb];exact MapA.new w _
 obtain⟨A,hA⟩:∃A:RA,A= {A0 with bb:= .map (some kb)} :=⟨_,rfl⟩;have HAS:Hid (A.sc=A0.sc):=Qh (by rw[hA]);obtain⟨w2,hw2⟩:∃z,z=w1.setCell ⟨p,4,none⟩ (.map (some kb)):=⟨_,rfl⟩;have hk2:K1 p w1 w2:=by rw[hw2];exact Qg _ _
 have hr1:=h.kn hk1;have hlk:LkAt w2 B p R A kb [] [] []:=by
  refine⟨by rw[hw2,hA];exact hr1.setBb _,by rw[hA],hm1.kp hk2 (by omega),⟨?_,rfl,fun i a b=>by simp at a⟩,?_⟩
  ·rw[hA];show OwnK w2 B TRu 4 A0.vr _;rw[hvr];exact OwnK.nil
  ·rw[hA];refine⟨by omega,?_,?_,?_⟩
   ·have:=h.names.lt;show kb≠A0.bn;omega
   ·have:=h.cons.lt;show kb≠A0.bc;omega
   ·have:=h.rounds.lt;show kb≠A0.br;omega
 have hkw2:Kp (fun i=>B≤i) w w2:=(QY hk1).trans (hk2.mono (fun i hi e=>by omega));have HLK:=Qh hlk;have HOK:=Qh ok;have HKW:=Qh hkw2;have HW:=Qh (And.intro hw2 (And.intro hw1 hkb));obtain⟨al,cl,hvl,_⟩:=lines_cells hlk.rd.lines hlk.rd.wl;have hll:=ok.lines;have HVL:=Qh hvl;obtain⟨_,_,_,_,_,_,_,_,_,q9⟩:=hlk.rd.cells;rw[hvl] at q9;obtain⟨ip,hi,hz0,hz1,hz2⟩:=info_parts info_pa;have HIP:=Qh (And.intro hi (And.intro hz0 (And.intro hz1 hz2)));obtain⟨ir,hi,hz0,hz1,hz2⟩:=info_parts info_ru;have HIR:=Qh (And.intro hi (And.intro hz0 (And.intro hz1 hz2)));clear h ok hvr hA hw1 hm1 hw2 hk2 hr1 hlk hkw2 hvl hi hz0 hz1 hz2 hk1 hkb;go_enter Tryz.func111,Tryz.ntmps111;go_upto_region 2 with fail
 rw[←HW.out.2.2,←World.setCell_alloc_past _ _ _ _ hpl,←HW.out.2.1,←HW.out.1];clear q4 f4;go_wp2_with fail
 go_loopw [22] (fun s22 wr=>∃(k:Nat) (v:Value) (rs:List GR) (vps:List Value) (br:List (Nat×Nat)),s22= .int .i64 k∧k≤R.lines.length∧Hid (R.linkGo (R.lines.drop k) rs br=R.linkGo R.lines [] [])∧Hid (rs.length=k)∧Hid (LkAt wr B p R {A with vr:=v} kb rs vps br)∧Hid (Kp (fun i=>B≤i) w wr)) (fun s22 _=>R.lines.length-(intOf s22).toNat)
 case atStart=>exact⟨0,A.vr,[],[],[],rfl,Nat.zero_le _,Qh rfl,Qh rfl,HLK,HKW⟩
 case round=>
  clear HLK HKW q9 hpl;obtain⟨k,v,rs,vps,br,rfl,hk,hgo,hrl,hlk,hkw⟩:=hrel;by_cases hlt:k<R.lines.length
  ·have hst:=linkGo_step hgo.out hlt;have hwl:=hlk.out.rd.wl;obtain⟨a2,c2,hve,hcs⟩:=lines_cells hlk.out.rd.lines hwl;change A.vn=_ at hve;rw[HVL.out] at hve;injection hve with e1 e2 e3;subst e1;subst e3;clear e2;have hkv:k<A.vws.length:=by have:A.vws.length=R.lines.length:=hwl;omega
   obtain⟨g,rfl,c0,c1,c2',c3,c4,c5⟩:=hcs k hlt hkv;have hwrd:=hlk.out.rd.words k hkv hlt;have hwb:=HOK.out.words _ (List.getElem_mem hlt);obtain⟨aw,cw,hvw,_⟩:=words_cells hwrd;obtain⟨x,hx⟩:∃x,x=R.lines[k]:=⟨_,rfl⟩;change OwnK wr B TWd 4 (A.vws[k]'hkv) _ at hwrd;change (A.vws[k]'hkv)=_ at hvw;change wr.cell? _=some (A.vws[k]'hkv) at c4;rw[hvw] at c4 hwrd;rw[←hx] at c0 c1 c2' c3 c4 c5 hwrd hst hwb;have HST:=Qh hst;have HWR:=Qh hwrd;have HX:=Qh hx;have hxw:=hwb.1;have hx2:=hwb.2.1;have hx3:=hwb.2.2;obtain⟨os,oc,hv2,_⟩:=hlk.out.rd.sorts.look;obtain⟨_,_,q2,_⟩:=hlk.out.rd.cells;change A.vs=_ at hv2;change wr.cell? _=some A.vs at q2;rw[hv2] at q2;have hos:=hlk.out.rd.sorts;change OwnT wr B A.vs R.sorts at hos;rw[hv2] at hos;obtain⟨b5,hb5⟩:∃z,z=wr.heap.size:=⟨_,rfl⟩;obtain⟨w3,hw3⟩:∃z,z=wr.alloc (.cells #[.int .i64 x.number,.string x.sort,.string x.cons,.int .i64 x.level,.slice aw x.words.length cw,.bool x.round] TLn):=⟨_,rfl⟩;have hk3:Kn wr w3:=by rw[hw3];exact(Qb _ _).alloc _
   have hbb:w3.heap[b5]? =some (.cells #[.int .i64 x.number,.string x.sort,.string x.cons,.int .i64 x.level,.slice aw x.words.length cw,.bool x.round] TLn (0,0)):=by rw[hw3,hb5];exact Qf _ _
   have HW3:=Qh (And.intro hw3 hb5);have r2:=Qc hk3 q2;have d1:w3.cell? ⟨b5,1,none⟩=some (.string x.sort):=by rw[Qa hbb];try rfl
   have HIS:=Qh (fun W (hk:Kn w3 W)=>index_c (w:=W) (QG (QG hos hk3 (fun _ _ x=>x)) hk (fun _ _ x=>x)) x.sort (by have:=HOK.out.sorts;omega));have hix2:=idxS_lt R.sorts x.sort;have hsl:=HOK.out.sorts;have hRO:Hid (R.ruleOf x=if Lib.idxOfS R.sorts x.sort<0 then none else match R.parts x.words with|some ps=>some ⟨(Lib.idxOfS R.sorts x.sort).toNat,x.cons,x.level,ps⟩|none=>none):=Qh rfl;obtain⟨ix,hix⟩:∃z,z=Lib.idxOfS R.sorts x.sort:=⟨_,rfl⟩;rw[←hix] at HIS hix2 hRO;have HBB:=Qh hbb;have HK3:=Qh hk3;have hb5l:=Ql hbb;clear hst hwrd hx hvw hcs hwl hwb hos hw3 hb5 hk3 hbb hix q2 hv2;go_upto_region 5 with fail
   rw[←HW3.out.2,←HW3.out.1];clear c0 c1 c2' c3 c4 c5;refine wp_region_held_drew (S:=fun w'=>w'.cell? ⟨p,2,none⟩=some (.slice os R.sorts.length oc)∧w'.cell? ⟨b5,1,none⟩=some (.string x.sort)) (by kernel_rfl) ⟨Qc ((Qb _ _).drew) r2,Qc ((Qb _ _).drew) d1⟩ (fun hHeld=> ?_);obtain⟨wd,hwd⟩:∃zz,zz=w3.drew:=⟨_,rfl⟩;have hkd:Kn w3 wd:=by rw[hwd];exact(Qb _ _).drew
   rw[←hwd] at hHeld⊢;clear hwd;refine TW 0 26 ?_;refine TW 1 27 ?_;refine TW 2 28 ?_;refine TW 3 29 ?_;refine TH 4 30 ?_;refine TW 5 31 ?_;refine TH 6 32 ?_;refine RH 7 (fun K hK=> ?_);go_simp
   go_at_call 159
   refine(HIS.out wd hkd).mono ?_;rintro e9 w9 ⟨rfl,hw9⟩;rw[hw9];clear hw9 w9;dsimp only;refine hK.out _ _ hHeld (fun hHeld=> ?_);clear hK K
   try simp only[PP]
   refine TW 8 6 ?_;refine RD ?_;clear hHeld;have hkd1:=HK3.out.trans hkd;have HBd:=Qh (hkd.blk HBB.out (fun x=>x));have HLd:=Qh (hlk.out.kn hkd1);have HKd:=Qh (hkw.out.trans (QY hkd1));have HWd:=Qh (HWR.out.kn hkd1);have e0:wd.cell? ⟨b5,0,none⟩=some (.int .i64 x.number):=by rw[Qa HBd.out];try rfl
   have e2:wd.cell? ⟨b5,2,none⟩=some (.string x.cons):=by rw[Qa HBd.out];try rfl
   have e3:wd.cell? ⟨b5,3,none⟩=some (.int .i64 x.level):=by rw[Qa HBd.out];try rfl
   have e4:wd.cell? ⟨b5,4,none⟩=some (.slice aw x.words.length cw):=by rw[Qa HBd.out];try rfl
   have e5:wd.cell? ⟨b5,5,none⟩=some (.bool x.round):=by rw[Qa HBd.out];try rfl
   have hb5d:=Ql HBd.out;clear r2 d1 hkd HK3 HBB hlk HWR;by_cases hneg:ix<0
   ·have hF:Hid (R.linkGo R.lines [] []=none):=Qh (by rw[HST.out,hRO.out,if_pos hneg]);go_wp2_with fail
    go_ret2
    refine⟨_,9,rfl,HKd.out,?_⟩;rw[hF.out];exact(by decide:(9:Int)≠0)
   ·have HRO:Hid (R.ruleOf x=match R.parts x.words with|some ps=>some ⟨ix.toNat,x.cons,x.level,ps⟩|none=>none):=Qh (by rw[hRO.out,if_neg hneg]);obtain⟨sn,hsn⟩:∃sn:Nat,(sn:Int)=ix:=⟨ix.toNat,by omega⟩;have hsn2:ix.toNat=sn:=by omega
    rw[hsn2] at HRO;clear hsn2;subst hsn;have hsn40:sn<R.sorts.length:=by omega
    clear hneg hix2 hRO;obtain⟨b7,hb7⟩:∃z,z=wd.heap.size:=⟨_,rfl⟩;obtain⟨w4,hw4⟩:∃z,z=wd.alloc (.cells #[.int .i64 (sn:Nat),.string x.cons,.int .i64 x.level,.slice none 0 0] TRu):=⟨_,rfl⟩;have hk4:Kn wd w4:=by rw[hw4];exact(Qb _ _).alloc _
    have HB7:Hid (w4.heap[b7]? =some (.cells #[.int .i64 (sn:Nat),.string x.cons,.int .i64 x.level,.slice none 0 0] TRu (0,0))):=Qh (by rw[hw4,hb7];exact Qf _ _);have HW4:=Qh (And.intro hw4 hb7);have g4:=Qc hk4 e4;have HK4:=Qh hk4;have hb57:b5<b7:=by omega
    have HSZ4:Hid (wd.heap.size≤w4.heap.size∧w4.heap.size=b7+1):=Qh ⟨hk4.size,by rw[HW4.out.1,size_alloc',HW4.out.2]⟩;have hwdl:wd.heap.size≤b7:=by omega
    clear hw4 hb7 e0 hk4;go_upto_region 9 with fail
    rw[←HW4.out.1,←HW4.out.2];clear e2 e3 e4 e5;go_wp2_with fail
    obtain⟨wo,hwo⟩:∃z,z=wr:=⟨_,rfl⟩;subst hwo;go_loopw [47] (fun s47 wi=>∃(j:Nat) (ps:List GP) (vp:Value),s47= .int .i64 j∧j≤x.words.length∧Hid (R.parts x.words=match R.parts (x.words.drop j) with|some r=>some (ps++r)|none=>none)∧Hid (ps.length=j)∧Hid (OwnK wi w4.heap.size TPa 4 vp (ps.map paL))∧Hid (wi.heap[b7]? =some (.cells #[.int .i64 (sn:Nat),.string x.cons,.int .i64 x.level,vp] TRu (0,0)))∧Kn wd wi) (fun s47 _=>x.words.length-(intOf s47).toNat)
    case atStart=>exact⟨0,[],_,rfl,Nat.zero_le _,Qh (by rw[List.drop_zero];cases R.parts x.words<;>rfl),Qh rfl,Qh OwnK.nil,HB7,HK4.out⟩
    case round=>
     clear HB7 g4;obtain⟨j,ps,vp,rfl,hj,hpa,hpl,hvp,hb7,hkn⟩:=hrel;have HKi:=Qh (HKd.out.trans (QY hkn));have HB5i:=Qh (hkn.blk HBd.out (fun x=>x));have hb7l:=Ql hb7.out;have hwi:=hkn.size;by_cases hlj:j<x.words.length
     ·obtain⟨a3,c3,hve3,hcs3⟩:=words_cells (HWd.out.kn hkn);injection hve3 with e1 e2 e3;subst e1;subst e3;clear e2;obtain⟨gw,rfl,k0,k1,k2,k3⟩:=hcs3 j hlj;have hps:=parts_step hpa.out hlj;obtain⟨y,hy⟩:∃y,y=x.words[j]:=⟨_,rfl⟩;rw[←hy] at k0 k1 k2 k3 hps;have HPST:=Qh hps;obtain⟨w6,hw6⟩:∃z,z=wr.alloc (.cells #[.string y.lit,.string y.name,.int .i64 y.level,.bool y.sort] TWd):=⟨_,rfl⟩;have hk6:Kn wr w6:=by rw[hw6];exact(Qb _ _).alloc _
      obtain⟨b9,hb9⟩:∃z,z=wr.heap.size:=⟨_,rfl⟩;have hb9b:w6.heap[b9]? =some (.cells #[.string y.lit,.string y.name,.int .i64 y.level,.bool y.sort] TWd (0,0)):=by rw[hw6,hb9];exact Qf _ _
      have m0:w6.cell? ⟨b9,0,none⟩=some (.string y.lit):=by rw[Qa hb9b];try rfl
      have m1:w6.cell? ⟨b9,1,none⟩=some (.string y.name):=by rw[Qa hb9b];try rfl
      have m2:w6.cell? ⟨b9,2,none⟩=some (.int .i64 y.level):=by rw[Qa hb9b];try rfl
      have m3:w6.cell? ⟨b9,3,none⟩=some (.bool y.sort):=by rw[Qa hb9b];try rfl
      have HW6:=Qh (And.intro hw6 hb9);have hkn6:=hkn.trans hk6;have HPA:=Qh (part2_c y (HLd.out.rd.kn hkn6) HOK.out);obtain⟨av,cv,hvp2,_⟩:=hvp.out.row (fun C hC=>by obtain⟨z,_,rfl⟩:=List.mem_map.1 hC;rfl);rw[List.length_map] at hvp2;subst hvp2;have HB76:=Qh (hk6.blk hb7.out (fun x=>x));have HVP6:=Qh (hvp.out.kn hk6);have hb96:=Ql hb9b;clear hps hy hcs3 hw6 hb9 hb9b;go_upto_region 12 with fail
      rw[←HW6.out.2,←HW6.out.1];clear k0 k1 k2 k3;go_wp2_with fail
      refine HPA.out.mono ?_;rintro e9 w7 ⟨hk7,q,okk,rfl,hmt⟩;have hkn7:=hkn6.trans hk7;obtain⟨w8,hw8⟩:∃z,z=w7.alloc (.cells #[.int .i64 q.cls,.int .i64 q.sort,.int .i64 q.level,.bool q.fixed] TPa):=⟨_,rfl⟩;have hk8:Kn w7 w8:=by rw[hw8];exact(Qb _ _).alloc _
      obtain⟨b10,hb10⟩:∃z,z=w7.heap.size:=⟨_,rfl⟩;have hbw:w8.heap[b10]? =some (.cells #[.int .i64 q.cls,.int .i64 q.sort,.int .i64 q.level,.bool q.fixed] TPa (0,0)):=by rw[hw8,hb10];exact Qf _ _
      have HW8:=Qh (And.intro hw8 hb10);have hkn8:=hkn7.trans hk8;have v0:w8.cell? ⟨b10,0,none⟩=some (.int .i64 q.cls):=by rw[Qa hbw];try rfl
      have v1:w8.cell? ⟨b10,1,none⟩=some (.int .i64 q.sort):=by rw[Qa hbw];try rfl
      have v2:w8.cell? ⟨b10,2,none⟩=some (.int .i64 q.level):=by rw[Qa hbw];try rfl
      have v3:w8.cell? ⟨b10,3,none⟩=some (.bool q.fixed):=by rw[Qa hbw];try rfl
      have hbl8:=Ql hbw;have HB78:=Qh ((hk7.trans hk8).blk HB76.out (fun x=>x));have HV8:=Qh ((HVP6.out.kn hk7).kn hk8);have HB58:=Qh (((hk6.trans hk7).trans hk8).blk HB5i.out (fun x=>x));have r3:w8.cell? ⟨b7,3,none⟩=some (.slice av ps.length cv):=by rw[Qa HB78.out];try rfl
      have o0:w8.cell? ⟨b5,0,none⟩=some (.int .i64 x.number):=by rw[Qa HB58.out];try rfl
      have hb78:=Ql HB78.out;have HK8:=Qh (HKd.out.trans (QY hkn8));clear hw8 hb10 hk8 hbw m0 m1 m2 m3 hk6;cases hpf2:R.part y with
      |none=>
       rw[hpf2] at hmt;dsimp only at hmt;subst hmt;have hF5:Hid (R.linkGo R.lines [] []=none):=Qh (by rw[HST.out,HRO.out,HPST.out,hpf2]);clear hpf2;go_upto_region 13 with fail
       rw[←HW8.out.1,←HW8.out.2];go_wp2_with fail
       go_ret2
       refine⟨_,9,rfl,HK8.out,?_⟩;rw[hF5.out];exact(by decide:(9:Int)≠0)
      |some q'=>
       rw[hpf2] at hmt;dsimp only at hmt;obtain⟨rfl,rfl⟩:=hmt;have HPF6:Hid (R.parts x.words=match R.parts (x.words.drop (j+1)) with|some r=>some ((ps++[q])++r)|none=>none):=Qh (by rw[HPST.out,hpf2]);have HKL:Hid (Kn w8 (w8.alloc (.cells #[.int .i64 q.cls,.int .i64 q.sort,.int .i64 q.level,.bool q.fixed] TPa))):=Qh ((Qb _ _).alloc _);have HV9:=Qh (HV8.out.kn HKL.out);have HBL:Hid ((w8.alloc (.cells #[.int .i64 q.cls,.int .i64 q.sort,.int .i64 q.level,.bool q.fixed] TPa)).heap[w8.heap.size]? =some (.cells #[.int .i64 q.cls,.int .i64 q.sort,.int .i64 q.level,.bool q.fixed] TPa (0,0))):=Qh (Qf _ _);have HB79:=Qh (HKL.out.blk HB78.out (fun x=>x));have hpsl:=hpl.out;have HSZ8:Hid (w4.heap.size≤w8.heap.size):=Qh (by have h2:=HSZ4.out.2;have h4:=hb78;omega);have HPSL:=Qh hpsl;clear hpf2 hpsl;go_upto_region 13 with fail
       rw[←HW8.out.1,←HW8.out.2];go_upto_region 16 with(first|(at_builtin;go_must (refine QF _ rfl (.tmp 62) (.tmp 64) 208 rfl w4.heap.size TPa ip (.agg #[.int .i64 0,.int .i64 0,.int .i64 0,.bool false]) 4 32 Tryz.underlying208 HIP.out.1 HIP.out.2.1 HIP.out.2.2.1 HIP.out.2.2.2 (by rfl) (by decide) (.slice av ps.length cv) (ps.map paL) rfl HV9.out w8.heap.size 1 rfl #[.int .i64 q.cls,.int .i64 q.sort,.int .i64 q.level,.bool q.fixed] TPa (0,0) HBL.out rfl (by simp[Value.oneCell']) (by rw[List.length_map,HPSL.out];simp only[maxLen];omega) (by rw[List.length_map,HPSL.out];omega) (by have h1:=HSZ8.out;rw[size_alloc'];omega) ?_;intro v1 w9 hown hka hat;obtain⟨av1,cv1,hv1,_⟩:=hown.row (k:=4) (fun D hD=>by simp only[List.mem_append,List.mem_map,List.mem_singleton] at hD;rcases hD with⟨y,_,rfl⟩|rfl<;>rfl);obtain⟨nl1,hv1⟩:∃n,v1= .slice av1 n cv1:=⟨_,hv1⟩;subst hv1;have HKA:=Qh (hka.mono (T:=fun i=>w4.heap.size≤i) (fun i hi e=>(HV9.out.lt i e.symm).1));have HOW:=Qh hown;have hb79:=QA HB79.out hka (QR HV9.out) (by decide);have r49:w9.cell? ⟨b7,3,none⟩=some (.slice av ps.length cv):=(by rw[Qa hb79];try rfl);have f49:=Qd hb79 3;have HBX:=Qh hb79;clear hb79 hown hka hat)))
       obtain⟨vN,hvN⟩:∃z,z=Value.slice av1 (ps.length+1) cv1:=⟨_,rfl⟩;obtain⟨w10,hw10⟩:∃z,z=w9.setCell ⟨b7,3,none⟩ vN:=⟨_,rfl⟩;rw[←hvN,←hw10];have HO2:Hid (OwnK w9 w4.heap.size TPa 4 vN ((ps++[q]).map paL)):=Qh (by
        have h1:=HOW.out;rw[List.length_append,List.length_map,List.length_singleton,←hvN] at h1;rw[List.map_append];exact h1)
       have hk9:K1 b7 w9 w10:=by rw[hw10];exact Qg _ _
       have hkn10:Kn wd w10:=((hkn8.trans HKL.out).trans' HKA.out (fun i hi e=>by have h2:=HSZ4.out.1;omega)).trans' hk9 (fun i hi e=>by omega);have HB10:=Qh (Qj HBX.out 3 vN);rw[←hw10] at HB10;have HO10:=Qh (HO2.out.kp hk9 (fun g hg e=>by subst e;obtain⟨cur,h1⟩:=QX HO2.out hg;exact Qn HBX.out h1 (by decide)));clear hvN hw10 HOW HKA;go_wp2_with fail
       go_roundw
       case rel=>exact⟨j+1,ps++[q],vN,by go_num,by omega,HPF6,Qh (by simp[hpl.out]),HO10,HB10,hkn10⟩
       case measure=>simp[intOf];omega
     ·obtain rfl:j=x.words.length:=by omega
      have hpe:=parts_end hpa.out;obtain⟨ap,cp,hvp2,_⟩:=hvp.out.row (fun C hC=>by obtain⟨z,_,rfl⟩:=List.mem_map.1 hC;rfl);rw[List.length_map] at hvp2;subst hvp2;have HROS:Hid (R.ruleOf x=some ⟨sn,x.cons,x.level,ps⟩):=Qh (by rw[HRO.out,hpe]);have HLi:=Qh (HLd.out.kn hkn);have o5:wr.cell? ⟨b5,5,none⟩=some (.bool x.round):=by rw[Qa HB5i.out];try rfl
      have HPB:=Qh (OwnK.base (B':=B) hvp.out (by have h1:=HLd.out.rd.pB.1;have h2:=HLd.out.rd.lt;have h3:=HSZ4.out.1;omega));obtain⟨og,ocg,hvg,_⟩:=HLi.out.ru.row.row (fun C hC=>by obtain⟨i,hi,rfl⟩:=List.getElem_of_mem hC;simp[ruL]);rw[List.length_zipWith,HLi.out.ru.len,Nat.min_self] at hvg;change v=_ at hvg;have HVG:=Qh hvg;have hrk:=hrl.out;have HNB7:Hid (∀g,v.ownBlock=some g→g≠b7):=Qh (fun g hg=>by have h1:=(HLd.out.ru.row.lt g hg).2;omega);have HNP7:Hid (b7≠p):=Qh (fun e=>by have h1:=HLd.out.rd.lt;omega);have HRSL:=Qh hrk;clear hpe hvg hrk;cases hro:x.round with
      |true=>
       rw[hro] at o5;have hF:Hid (R.linkGo (R.lines.drop (k+1)) (rs++[⟨sn,x.cons,x.level,ps⟩]) (brPut br sn rs.length)=R.linkGo R.lines [] []):=Qh (by rw[HST.out,HROS.out];simp only[hro];rfl);obtain⟨_,_,_,q3,q4,_⟩:=HLi.out.rd.cells;change wr.cell? _=some v at q3;rw[HVG.out] at q3;have hbbk:=HLi.out.bb;rw[hbbk] at q4;clear hro hbbk;go_upto_region 18 with fail
       refine wp_region_held_drew (S:=fun w'=>w'.cell? ⟨p,4,none⟩=some (.map (some kb))∧w'.cell? ⟨p,3,none⟩=some (.slice og rs.length ocg)) (by kernel_rfl) ⟨Qc ((Qb _ _).drew) q4,Qc ((Qb _ _).drew) q3⟩ (fun hHeld=> ?_);obtain⟨wp,hwp⟩:∃zz,zz=wr.drew:=⟨_,rfl⟩;have hkp:Kn wr wp:=by rw[hwp];exact(Qb _ _).drew
       rw[←hwp] at hHeld⊢;clear hwp;refine TW 0 70 ?_;refine TW 1 71 ?_;refine TW 2 72 ?_;refine TW 3 73 ?_;refine TH 4 74 ?_;refine TW 5 75 ?_;refine TW 6 76 ?_;refine TW 7 77 ?_;refine TW 8 78 ?_;refine TW 9 79 ?_;refine TH 10 80 ?_;refine TW 11 81 ?_;refine RH 12 (fun K hK=> ?_);refine step_putbr (by rfl) (.tmp 74) (.tmp 75) (.tmp 81) (by rfl) (by rfl) (HLi.out.brk.kn hkp) sn rs.length (by omega) (by rfl) (by rfl) ?_;intro w11 hm11 hk11;have HL11:=Qh ((HLi.out.kn hkp).putBr hm11 hk11);have hSm:=YY (HLi.out.brk.kn hkp);have HB11:=Qh (blk_tym (hkp.blk hb7.out (fun x=>x)) hk11 hSm);have HP11:=Qh (Qx (HPB.out.kn hkp) hk11 hSm);have KW11:=(HKi.out.trans (QY hkp)).trans (hk11.mono (fun i hi e=>by have h1:=HLi.out.ne.1;omega));have hX1:w11.cell? ⟨p,4,none⟩=some (.map (some kb)):=by obtain⟨_,_,_,_,q,_⟩:=HL11.out.rd.cells;rw[HL11.out.bb] at q;exact q
       have hX2:w11.cell? ⟨p,3,none⟩=some (.slice og rs.length ocg):=by obtain⟨_,_,_,q,_⟩:=HL11.out.rd.cells;change w11.cell? _=some v at q;rw[HVG.out] at q;exact q
       clear hm11 hk11 hSm;dsimp only;refine hK.out _ _ ⟨hX1,hX2⟩ (fun hHeld=> ?_);clear hK K hX1 hX2;refine RD ?_;clear hHeld q3 q4;have n0:w11.cell? ⟨b7,0,none⟩=some (.int .i64 (sn:Nat)):=by rw[Qa HB11.out];try rfl
       have n1:w11.cell? ⟨b7,1,none⟩=some (.string x.cons):=by rw[Qa HB11.out];try rfl
       have n2:w11.cell? ⟨b7,2,none⟩=some (.int .i64 x.level):=by rw[Qa HB11.out];try rfl
       have n3:w11.cell? ⟨b7,3,none⟩=some (.slice ap ps.length cp):=by rw[Qa HB11.out];try rfl
       go_upto_region 19 with fail
       refine rgn (fun w'=>w'.cell? ⟨p,3,none⟩=some (.slice og rs.length ocg)∧w'.cell? ⟨b7,0,none⟩=some (.int .i64 (sn:Nat))∧w'.cell? ⟨b7,1,none⟩=some (.string x.cons)∧w'.cell? ⟨b7,2,none⟩=some (.int .i64 x.level)∧w'.cell? ⟨b7,3,none⟩=some (.slice ap ps.length cp)) (X:=[]) ⟨Qc ((Qb _ _).drew) ((Qa HL11.out.blk 3).trans (congrArg some HVG.out)),Qc ((Qb _ _).drew) n0,Qc ((Qb _ _).drew) n1,Qc ((Qb _ _).drew) n2,Qc ((Qb _ _).drew) n3⟩ (fun hX hHeld=> ?_);refine tw 0 82 ?_;refine tw 1 83 ?_;refine tw 2 84 ?_;refine tw 3 85 ?_;refine tw 4 86 ?_;refine tk 5 87 ?_;refine tk 6 88 ?_;refine ro 7 (fun K hK=> ?_);obtain⟨wd,hwd⟩:∃zz,zz=w11.drew:=⟨_,rfl⟩;have KN0:Kn w11 wd:=by rw[hwd];exact(Qb _ _).drew
       have KW0:=KW11.trans (Kp.weak (S:=fun k=>B≤k) KN0);have RH0:=Qh (HL11.out.kn KN0);rw[←hwd] at hHeld⊢;clear hwd;go_simp;obtain⟨y1,hw1⟩:∃zz,zz=wd.alloc (.cells #[.int .i64 (sn:Nat),.string x.cons,.int .i64 x.level,.slice ap ps.length cp] TRu):=⟨_,rfl⟩;have hk1:Kn wd y1:=by rw[hw1];exact(Qb _ _).alloc _
       obtain⟨ge,hge⟩:∃zz,zz=wd.heap.size:=⟨_,rfl⟩;have GE:y1.heap[ge]? =some (.cells #[.int .i64 (sn:Nat),.string x.cons,.int .i64 x.level,.slice ap ps.length cp] TRu (0,0)):=by rw[hw1,hge];exact Qf _ _
       have RH1:=Qh (RH0.out.kn hk1);have KW1:=KW0.trans (Kp.weak hk1);have KN1:=KN0.trans hk1;rw[←hw1,←hge];refine hK.out _ _ (⟨Qc hk1 hHeld.1,Qc hk1 hHeld.2.1,Qc hk1 hHeld.2.2.1,Qc hk1 hHeld.2.2.2.1,Qc hk1 hHeld.2.2.2.2⟩) (fun hHeld=> ?_);clear hw1 hge hk1;clear hK K
       try simp only[PP]
       refine ro 8 (fun K hK=> ?_);have hownO:OwnK y1 B TRu 4 (.slice og rs.length ocg) (List.zipWith ruL rs vps):=by have h1:=RH1.out.ru.row;rw[HVG.out] at h1;exact h1
       refine Qm y1 (by rfl) _ _ 108 (by rfl) B TRu ir (.agg #[.int .i64 0,.string ByteArray.empty,.int .i64 0,.slice none 0 0]) 4 56 Tryz.underlying108 HIR.out.1 HIR.out.2.1 HIR.out.2.2.1 HIR.out.2.2.2 (by rfl) (by decide) (.slice og rs.length ocg) (List.zipWith ruL rs vps) (by rfl) hownO ge 1 (by rfl) #[.int .i64 (sn:Nat),.string x.cons,.int .i64 x.level,.slice ap ps.length cp] TRu (0,0) GE (by rfl) (by simp[Value.oneCell']) (by rw[List.length_zipWith,RH1.out.ru.len,Nat.min_self,HRSL.out];simp only[maxLen];omega) (by rw[List.length_zipWith,RH1.out.ru.len,Nat.min_self,HRSL.out];omega) (by have:=RH1.out.pB.1;have:=RH1.out.lt;omega) ?_;intro v1 y2 hown hka hat;have hke:Kp (fun k=>B≤k) y1 y2:=hka.mono (fun i hi e=>(hownO.lt i e.symm).1);have KX:=KW1.trans hke;obtain⟨av1,cv1,hv1,_⟩:=hown.row (k:=4) (fun D hD=>by simp only[List.mem_append,List.mem_map,List.mem_singleton] at hD;(first|(rcases hD with⟨y,_,rfl⟩|rfl<;>rfl)|(exact(by rcases hD with hD|rfl;obtain⟨i,hi,rfl⟩:=List.getElem_of_mem hD;simp[ruL];rfl))))
       obtain⟨nl1,hv1⟩:∃n,v1= .slice av1 n cv1:=⟨_,hv1⟩;have HV1:=Qh hv1;have HWD:=QG HP11.out KN1 (fun _ _ x=>x);have RHP:=Qh (LkAt.putRule (r:=⟨sn,x.cons,x.level,ps⟩) (vp:= .slice ap ps.length cp) RH1.out HWD hown (by show Kp (fun k=>some k=v.ownBlock) _ _;rw[HVG.out];exact hka));have hpb:y2.heap[p]? =some (.cells (rdC {A with vr:=v}) TGr (0,0)):=QA RH1.out.blk hka (QR hownO) (by decide);have xp1:=Qd hpb 3;have xq1:y2.cell? ⟨p,3,none⟩=some (.slice og rs.length ocg):=by rw[Qa hpb];exact congrArg some HVG.out
       refine hK.out _ _ (⟨xq1,Qi hka hHeld.2.1 (fun e=>HNB7.out b7 (by rw[HVG.out];exact e.symm) rfl),Qi hka hHeld.2.2.1 (fun e=>HNB7.out b7 (by rw[HVG.out];exact e.symm) rfl),Qi hka hHeld.2.2.2.1 (fun e=>HNB7.out b7 (by rw[HVG.out];exact e.symm) rfl),Qi hka hHeld.2.2.2.2 (fun e=>HNB7.out b7 (by rw[HVG.out];exact e.symm) rfl)⟩) (fun hHeld=> ?_);clear hown hka hat hv1 hke hownO;clear hK K
       try simp only[PP]
       refine tw 9 91 ?_;refine tw 10 92 ?_;refine tw 11 93 ?_;refine re 12 (fun K hK=> ?_);rw[HV1.out];go_simp;rw[←HV1.out];obtain⟨w9,hw9⟩:∃zz,zz=y2.setCell ⟨p,3,none⟩ v1:=⟨_,rfl⟩;have hk9:K1 p y2 w9:=by rw[hw9];exact Qg _ _
       rw[←hw9] at RHP⊢;have KX9:=KX.trans (hk9.mono (fun i hi e=>by have:=RHP.out.pB.1;omega));clear xp1 xq1 hpb hw9 hk9 KX hHeld;refine hK.out _ _ ?_;clear hK K;go_wp2_with fail
       go_roundw
       case rel=>exact⟨k+1,v1,rs++[⟨sn,x.cons,x.level,ps⟩],vps++[.slice ap ps.length cp],brPut br sn rs.length,by go_num,by omega,hF,Qh (by rw[List.length_append,HRSL.out];try rfl),RHP,Qh KX9⟩
       case measure=>simp[intOf];omega
      |false=>
       rw[hro] at o5;have hF:Hid (R.linkGo (R.lines.drop (k+1)) (rs++[⟨sn,x.cons,x.level,ps⟩]) br=R.linkGo R.lines [] []):=Qh (by rw[HST.out,HROS.out];simp only[hro];rfl);have n0:wr.cell? ⟨b7,0,none⟩=some (.int .i64 (sn:Nat)):=by rw[Qa hb7.out];try rfl
       have n1:wr.cell? ⟨b7,1,none⟩=some (.string x.cons):=by rw[Qa hb7.out];try rfl
       have n2:wr.cell? ⟨b7,2,none⟩=some (.int .i64 x.level):=by rw[Qa hb7.out];try rfl
       have n3:wr.cell? ⟨b7,3,none⟩=some (.slice ap ps.length cp):=by rw[Qa hb7.out];try rfl
       have KWi:=HKi.out;clear hro;go_upto_region 19 with fail
       refine rgn (fun w'=>w'.cell? ⟨p,3,none⟩=some (.slice og rs.length ocg)∧w'.cell? ⟨b7,0,none⟩=some (.int .i64 (sn:Nat))∧w'.cell? ⟨b7,1,none⟩=some (.string x.cons)∧w'.cell? ⟨b7,2,none⟩=some (.int .i64 x.level)∧w'.cell? ⟨b7,3,none⟩=some (.slice ap ps.length cp)) (X:=[]) ⟨Qc ((Qb _ _).drew) ((Qa HLi.out.blk 3).trans (congrArg some HVG.out)),Qc ((Qb _ _).drew) n0,Qc ((Qb _ _).drew) n1,Qc ((Qb _ _).drew) n2,Qc ((Qb _ _).drew) n3⟩ (fun hX hHeld=> ?_);refine tw 0 82 ?_;refine tw 1 83 ?_;refine tw 2 84 ?_;refine tw 3 85 ?_;refine tw 4 86 ?_;refine tk 5 87 ?_;refine tk 6 88 ?_;refine ro 7 (fun K hK=> ?_);obtain⟨wd,hwd⟩:∃zz,zz=wr.drew:=⟨_,rfl⟩;have KN0:Kn wr wd:=by rw[hwd];exact(Qb _ _).drew
       have KW0:=KWi.trans (Kp.weak (S:=fun k=>B≤k) KN0);have RH0:=Qh (HLi.out.kn KN0);rw[←hwd] at hHeld⊢;clear hwd;go_simp;obtain⟨y1,hw1⟩:∃zz,zz=wd.alloc (.cells #[.int .i64 (sn:Nat),.string x.cons,.int .i64 x.level,.slice ap ps.length cp] TRu):=⟨_,rfl⟩;have hk1:Kn wd y1:=by rw[hw1];exact(Qb _ _).alloc _
       obtain⟨ge,hge⟩:∃zz,zz=wd.heap.size:=⟨_,rfl⟩;have GE:y1.heap[ge]? =some (.cells #[.int .i64 (sn:Nat),.string x.cons,.int .i64 x.level,.slice ap ps.length cp] TRu (0,0)):=by rw[hw1,hge];exact Qf _ _
       have RH1:=Qh (RH0.out.kn hk1);have KW1:=KW0.trans (Kp.weak hk1);have KN1:=KN0.trans hk1;rw[←hw1,←hge];refine hK.out _ _ (⟨Qc hk1 hHeld.1,Qc hk1 hHeld.2.1,Qc hk1 hHeld.2.2.1,Qc hk1 hHeld.2.2.2.1,Qc hk1 hHeld.2.2.2.2⟩) (fun hHeld=> ?_);clear hw1 hge hk1;clear hK K
       try simp only[PP]
       refine ro 8 (fun K hK=> ?_);have hownO:OwnK y1 B TRu 4 (.slice og rs.length ocg) (List.zipWith ruL rs vps):=by have h1:=RH1.out.ru.row;rw[HVG.out] at h1;exact h1
       refine Qm y1 (by rfl) _ _ 108 (by rfl) B TRu ir (.agg #[.int .i64 0,.string ByteArray.empty,.int .i64 0,.slice none 0 0]) 4 56 Tryz.underlying108 HIR.out.1 HIR.out.2.1 HIR.out.2.2.1 HIR.out.2.2.2 (by rfl) (by decide) (.slice og rs.length ocg) (List.zipWith ruL rs vps) (by rfl) hownO ge 1 (by rfl) #[.int .i64 (sn:Nat),.string x.cons,.int .i64 x.level,.slice ap ps.length cp] TRu (0,0) GE (by rfl) (by simp[Value.oneCell']) (by rw[List.length_zipWith,RH1.out.ru.len,Nat.min_self,HRSL.out];simp only[maxLen];omega) (by rw[List.length_zipWith,RH1.out.ru.len,Nat.min_self,HRSL.out];omega) (by have:=RH1.out.pB.1;have:=RH1.out.lt;omega) ?_;intro v1 y2 hown hka hat;have hke:Kp (fun k=>B≤k) y1 y2:=hka.mono (fun i hi e=>(hownO.lt i e.symm).1);have KX:=KW1.trans hke;obtain⟨av1,cv1,hv1,_⟩:=hown.row (k:=4) (fun D hD=>by simp only[List.mem_append,List.mem_map,List.mem_singleton] at hD;(first|(rcases hD with⟨y,_,rfl⟩|rfl<;>rfl)|(exact(by rcases hD with hD|rfl;obtain⟨i,hi,rfl⟩:=List.getElem_of_mem hD;simp[ruL];rfl))))
       obtain⟨nl1,hv1⟩:∃n,v1= .slice av1 n cv1:=⟨_,hv1⟩;have HV1:=Qh hv1;have HWD:=QG HPB.out KN1 (fun _ _ x=>x);have RHP:=Qh (LkAt.putRule (r:=⟨sn,x.cons,x.level,ps⟩) (vp:= .slice ap ps.length cp) RH1.out HWD hown (by show Kp (fun k=>some k=v.ownBlock) _ _;rw[HVG.out];exact hka));have hpb:y2.heap[p]? =some (.cells (rdC {A with vr:=v}) TGr (0,0)):=QA RH1.out.blk hka (QR hownO) (by decide);have xp1:=Qd hpb 3;have xq1:y2.cell? ⟨p,3,none⟩=some (.slice og rs.length ocg):=by rw[Qa hpb];exact congrArg some HVG.out
       refine hK.out _ _ (⟨xq1,Qi hka hHeld.2.1 (fun e=>HNB7.out b7 (by rw[HVG.out];exact e.symm) rfl),Qi hka hHeld.2.2.1 (fun e=>HNB7.out b7 (by rw[HVG.out];exact e.symm) rfl),Qi hka hHeld.2.2.2.1 (fun e=>HNB7.out b7 (by rw[HVG.out];exact e.symm) rfl),Qi hka hHeld.2.2.2.2 (fun e=>HNB7.out b7 (by rw[HVG.out];exact e.symm) rfl)⟩) (fun hHeld=> ?_);clear hown hka hat hv1 hke hownO;clear hK K
       try simp only[PP]
       refine tw 9 91 ?_;refine tw 10 92 ?_;refine tw 11 93 ?_;refine re 12 (fun K hK=> ?_);rw[HV1.out];go_simp;rw[←HV1.out];obtain⟨w9,hw9⟩:∃zz,zz=y2.setCell ⟨p,3,none⟩ v1:=⟨_,rfl⟩;have hk9:K1 p y2 w9:=by rw[hw9];exact Qg _ _
       rw[←hw9] at RHP⊢;have KX9:=KX.trans (hk9.mono (fun i hi e=>by have:=RHP.out.pB.1;omega));clear xp1 xq1 hpb hw9 hk9 KX hHeld;refine hK.out _ _ ?_;clear hK K;go_wp2_with fail
       go_roundw
       case rel=>exact⟨k+1,v1,rs++[⟨sn,x.cons,x.level,ps⟩],vps++[.slice ap ps.length cp],br,by go_num,by omega,hF,Qh (by rw[List.length_append,HRSL.out];try rfl),RHP,Qh KX9⟩
       case measure=>simp[intOf];omega
  ·obtain rfl:k=R.lines.length:=by omega
   have he:=linkGo_end hgo.out;have HE:=Qh he;have h120:rs.length≤120:=by have:=hrl.out;omega
   clear he;go_wp2_with fail
   go_ret2
   refine⟨0,0,rfl,hkw.out,?_⟩;rw[HE.out];exact⟨rfl,_,kb,vps,hlk.out,h120,HAS.out⟩
end Go.Proofs.YtiehgcfckhepaaaGreatDoor
