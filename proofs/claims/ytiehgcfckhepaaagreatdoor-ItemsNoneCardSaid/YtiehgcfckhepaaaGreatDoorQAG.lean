/-
  Texts of this claim, laid together: LNew, SNew, GPure, TPure, IPure, KRange, GMem, GWord, GPart, GName, GSort. Conditions: none.
-/
import Derived.Test.YtiehgcfckhepaaaGreatDoorQAF
import Derived.Test.YtiehgcfckhepaaaGreatDoorQAE
import Derived.Maps.RangeRun
set_option linter.unusedVariables false
set_option linter.unusedSimpArgs false
set_option maxRecDepth 100000
set_option maxHeartbeats 16000000
namespace Go.Proofs.YtiehgcfckhepaaaGreatDoor
open Go.RowKit Go.Maps
theorem ls_zero:(Tryz.prog.info? TLs).map (fun i=>(i.zero,i.size))=some (some (.agg Tryz.zeroCells367),257):=by kernel_rfl
theorem ls_own(x:Int):Tryz.zeroCells367.setIfInBounds 256 (.int .i64 x)=(List.replicate 256 (Value.int .i64 0)++[Value.int .i64 x]).toArray:=by kernel_rfl
theorem lsGo_step{l:List DS}{L:List Bool}{K:List Int}{i n:Nat}{F:List Nat}{out Z:List (List Int×Int)}{acc:Int}{r:List Nat×List Int}(h:lsGo l L K (l.length+1-i) i F out=Z)(hF:F.length≤l.length)(hlt:i<F.length)(hn:n=F[i])(hac:acc=dac l n)(hr:r=lsK l L K n F 256):
  lsGo l L K (l.length+1-(i+1)) (i+1) r.1 (out++[(r.2,acc)])=Z:=by
 subst hr;subst hac;subst hn;rw[←h];have e:l.length+1-i=(l.length+1-(i+1))+1:=by omega
 rw[e]
 conv=>rhs;unfold lsGo
 rw[List.getElem?_eq_getElem hlt]
def LOk(out:List (List Int×Int))(B:Nat):Prop:=∀x∈out,x.1.length=256∧(∀y∈x.1,-1≤y∧y<B)∧-1≤x.2∧x.2<1000000
theorem LOk.snocK{l:List DS}{L:List Bool}{K:List Int}{n:Nat}{F:List Nat}{out:List (List Int×Int)}{acc:Int}{r:List Nat×List Int}(h:LOk out F.length)(hl:DL l)(hf:FOk l.length K F)(hac:acc=dac l n)(hr:r=lsK l L K n F 256):
  LOk (out++[(r.2,acc)]) r.1.length:=by
 subst hac;subst hr;obtain⟨_,h2,_,h4,h5⟩:=lsK_ok (L:=L) (n:=n) hl hf 256;intro x hx;rcases List.mem_append.1 hx with h1|h1
 ·obtain⟨a,b,c⟩:=h x h1;exact⟨a,fun y hy=>by have:=b y hy;omega,c⟩
 ·simp at h1;subst h1;exact⟨h4,h5,hl.dac_lt n⟩
def LeastAt(w:World)(pl:Nat)(x:List (List Int×Int)):Prop:=∃gof n vout zs,LIn w pl gof n vout x zs∧LOk x x.length∧0<x.length∧x.length≤2000
theorem LeastAt.kn{w w':World}{pl:Nat}{x:List (List Int×Int)}(h:LeastAt w pl x)(hk:Kn w w'):LeastAt w' pl x:=by obtain⟨a,b,c,d,h1,h2⟩:=h;exact⟨a,b,c,d,h1.kn hk,h2⟩
theorem lsGo_end{l:List DS}{L:List Bool}{K:List Int}{i:Nat}{F:List Nat}{out Z:List (List Int×Int)}(h:lsGo l L K (l.length+1-i) i F out=Z)(hlt:¬i<F.length):out=Z:=by
 rw[←h];cases hk:l.length+1-i with
 |zero=>rfl
 |succ f=>
  unfold lsGo;rw[List.getElem?_eq_none (by omega)]
theorem OwnI.kpT{S:Nat→Prop}{w w':World}{B:Nat}{v:Value}{l:List Nat}(h:OwnI w B v l)(hk:Kp S w w')(hS:∀(g:Nat) (cs:Array Value),w.heap[g]? =some (.cells cs 3 (0,0))→¬S g):OwnI w' B v l:=by
 refine⟨h.1,?_⟩;rcases h.2 with h2|⟨g',cap,cur,h2,h3,h4,h5⟩
 ·exact .inl h2
 ·exact .inr ⟨g',cap,cur,h2,h3,hk.blk h4 (hS _ _ h4),h5⟩
theorem OwnI.blkT{w:World}{B:Nat}{v:Value}{l:List Nat}(h:OwnI w B v l){g:Nat}(hg:v.ownBlock=some g):∃cur,w.heap[g]? =some (.cells cur 3 (0,0)):=by
 rcases h.2 with⟨h1,_⟩|⟨g',cap,cur,h1,_,h3,_⟩
 ·rw[h1] at hg;cases hg
 ·have e:g'=g:=by rw[h1] at hg;simpa[Value.ownBlock] using hg
  subst e;exact⟨cur,h3⟩
theorem LIn.zset{w:World}{pl gof n:Nat}{vout:Value}{out:List (List Int×Int)}{zs:List Int}(h:LIn w pl gof n vout out zs)(k:Nat)(x:Int):LIn (w.setCell ⟨gof,k,none⟩ (.int .i64 x)) pl gof n vout out (zs.set k x):=by
 have hk1:K1 gof w (w.setCell ⟨gof,k,none⟩ (.int .i64 x)):=Qg _ _;have hr:=h.of_;refine⟨hk1.blk h.blk (fun e=> ?_),h.row.kp hk1 (fun g hg e=> ?_),h.of_.iset k x,by simp[h.zl],h.nl⟩
 ·subst e;exact Qn h.blk hr (by decide)
 ·subst e;obtain⟨cur,h1⟩:=h.row.blkT hg;exact Qn h1 hr (by decide)
theorem rwN_nil(x:Int):(List.replicate 256 (Value.int .i64 0)++[Value.int .i64 x]).toArray=(rwN [] x).toArray:=by
 unfold rwN iV;rw[List.nil_append,List.length_nil,Nat.sub_zero,List.map_replicate]
theorem LNew_c{pd:Nat}{l:List DS}{w:World}(h:DfaAt w pd l)(hl:DL l):
  Calls Tryz.prog 165 #[ptr pd] w fun e w'=>∃pl:Nat,e= .returned (.tuple #[ptr pl,.int .i64 0])∧w.heap.size≤pl∧LeastAt w' pl (leastF l)∧Kn w w':=by
 have HD:=Qh h;have HL:=Qh hl;have hlen:=hl.len;have hpos:=hl.pos;have HV:=Qh (live_c pd l w h hl);have hll:=liveF_len l;obtain⟨i0,hi,hz0,hz1,hz2⟩:=info_parts info_int;have HI:=Qh (And.intro hi (And.intro hz0 (And.intro hz1 hz2)));have hmm:= @run_makeMap Tryz.prog;have hzi0:∀w,(zeroValue 3).run Tryz.prog w= .ok (.int .i64 0) w:=Tryz.zeroValue3;have HZ:=Qh hzi0;clear hzi0;have hlzs:Tryz.zeroCells367.size=257:=by kernel_rfl
 have hlzi:=(zero_of_info ls_zero).2;clear h hl hi hz0 hz1 hz2;go_enter Tryz.func165,Tryz.ntmps165;go_wp2_with fail
 refine HV.out.mono ?_;rintro e w1 ⟨gl,hgl,rfl,hrl,hk1⟩;have HKD:=Qh (kinds_c (HD.out.kn hk1) HL.out hrl hll);have HRL1:=Qh hrl;clear hrl;go_wp2_with fail
 refine HKD.out.mono ?_;rintro e w2 ⟨gk,rfl,hrk,hkl,hkb,hk2⟩;have hkn2:=hk1.trans hk2;have hkn2':=hkn2;have HS:=Qh (DStates_c pd l w2 (HD.out.kn hkn2));change RowV w2 _ gk (iV (kindF l)) at hrk;change (kindF l).length=l.length at hkl;obtain⟨K,hK⟩:∃K,K=kindF l:=⟨_,rfl⟩;obtain⟨L,hL⟩:∃L,L=liveF l:=⟨_,rfl⟩;change ∀x∈kindF l,0≤x∧x≤2000000 at hkb;rw[←hK] at hrk hkl hkb;have HKB:=Qh hkb;rw[←hL] at HRL1 hll;have hc0:=hrk.icell (i:=0) (by omega);have HRK:=Qh hrk;have HRL:=Qh (HRL1.out.kn hk2);have HKE:=Qh hK;have HLE:=Qh hL;obtain⟨k0,hk0⟩:∃k0,k0=K.getD 0 0:=⟨_,rfl⟩;rw[←hk0] at hc0;have HK0:=Qh hk0;clear hrk hK hL hk0 hkb HV HKD HRL1;go_wp2_with fail
 refine HS.out.mono ?_;rintro e w2' ⟨rfl,rfl⟩;have hgkl:=HRK.out.lt;have hgll:=HRL.out.lt;go_wp2_with (first|(at_make;go_must (refine wpList_make_v _ rfl (.tmp 27) (.tmp 27) 28 rfl 3 i0 (.int .i64 0) Tryz.underlying28 HI.out.1 HI.out.2.1 HI.out.2.2.1 rfl l.length rfl rfl (by rw[HI.out.2.2.2];omega) (by simp only[maxLen];omega) ?_;intro w3 hrow3 hk3;have hc03:=Qc hk3 hc0;have hgk3:=hk3.lt hgkl)))
 obtain⟨g0,hg0⟩:∃z,z=w2'.heap.size:=⟨_,rfl⟩;obtain⟨bm,hbm⟩:∃z,z=w3.heap.size+1:=⟨_,rfl⟩;obtain⟨pl,hpl⟩:∃z,z=w3.heap.size:=⟨_,rfl⟩;rw[←hg0] at hrow3;have hg3:=hrow3.lt;obtain⟨W,hW⟩:∃z,z=(w3.alloc (.cells #[.slice none 0 0,.slice (some ⟨g0,0,none⟩) l.length l.length] TL)).alloc (.map #[] 0):=⟨_,rfl⟩;have hkW3:Kn w3 W:=by rw[hW];exact((Qb _ _).alloc _).alloc _
 have hbl:W.heap[pl]? =some (.cells #[.slice none 0 0,.slice (some ⟨g0,0,none⟩) l.length l.length] TL (0,0)):=by rw[hW,hpl];exact Qm (Qf _ _) _
 have hm1:MapA W 3 bm []:=by
  have:=MapA.new (w3.alloc (.cells #[.slice none 0 0,.slice (some ⟨g0,0,none⟩) l.length l.length] TL)) 3;rw[size_alloc',←hbm] at this;rw[hW];exact this
 have hk00:=kget HKB.out 0;rw[←HK0.out] at hk00;have hkey0:keyOf Tryz.prog 3 (.int .i64 k0)=some (.int .i64 k0):=keyOf_int_mk Tryz.underlying3 (by
  simp[Lit.wf,IntKind.min,IntKind.max,IntKind.signed,IntKind.bits];omega)
 obtain⟨w4,hrun4,hm4,hk4⟩:=hm1.put0 (t:=129) (int_keyed Tryz.underlying3) Tryz.underlying129 hkey0 (fun p hp=>by cases hp) (.int .i64 0);have n1:g0<pl:=by omega
 have n2:pl<bm:=by omega
 have n3:gk<g0:=by omega
 have n4:gl<g0:=by omega
 have n5:w2'.heap.size≤g0:=by omega
 have hk24:Kn w2' w4:=((hk3.trans hkW3).trans' hk4 (fun i hi e=>by omega));have hLI:LIn w4 pl g0 l.length (.slice none 0 0) [] (List.replicate l.length 0):=⟨hk4.blk hbl (by omega),OwnK.nil,by
  have:=(hrow3.kn hkW3).kp hk4 (show¬g0=bm by omega);simpa using this,by simp,fun x hx=>by cases hx⟩
 rw[←hbm,←hpl,←hg0,←hW,hrun4];have HM4:Hid (MapA w4 3 bm (plM K [0])):=Qh (by
  have e:plM K [0]=[]++[(.int .i64 k0,.int .i64 0)]:=by rw[HK0.out];try rfl
  rw[e];exact hm4)
 have HLI:=Qh hLI;have hfr:OwnI (w4.alloc (.cells #[.int .i64 0] 3)) w4.heap.size (.slice (some ⟨w4.heap.size,0,none⟩) 1 1) [0]:=OwnI.one w4 0;have HFR:=Qh hfr;have hpl4:bm<w4.heap.size:=hm4.lt;clear hm4 hrun4 hk4 hLI hfr hW hm1 hbl hkW3 hrow3 hbm hpl hg0 hc03 hc0 hk3;go_wp2_with fail
 obtain⟨w5,hw5⟩:∃z,z=w4.alloc (.cells #[.int .i64 0] 3):=⟨_,rfl⟩;have hk5:Kn w4 w5:=by rw[hw5];exact(Qb _ _).alloc _
 obtain⟨B,hB⟩:∃B,B=w4.heap.size:=⟨_,rfl⟩;rw[←hw5,←hB] at HFR⊢;have hBb:bm<B:=by omega
 have hkn5:=hk24.trans hk5;have HM5:=Qh (HM4.out.kn hk5);have HLI5:=Qh (HLI.out.kn hk5);have hB5:B≤w5.heap.size:=by rw[hB];exact hk5.size
 clear hw5 hB HM4 HLI;have HD2:=Qh (HD.out.kn hkn2);have HFO:Hid (FOk l.length K [0]):=Qh ⟨fun q hq=>by simp at hq;omega,by simp⟩;have HGO:Hid (lsGo l L K (l.length+1) 0 [0] []=leastF l):=Qh (by rw[HKE.out,HLE.out];try rfl);go_loopw [8,9] (fun s8 s9 wr=>∃(i:Nat) (F:List Nat) (vf vout:Value) (out:List (List Int×Int)),vf=s8∧s9= .int .i64 i∧i≤F.length∧Hid (FOk l.length K F)∧Hid (lsGo l L K (l.length+1-i) i F out=leastF l)∧out.length=i∧
  Hid (OwnI wr B vf F)∧Hid (LOk out F.length∧F≠[])∧Hid (MapA wr 3 bm (plM K F))∧Hid (LIn wr pl g0 l.length vout out (List.replicate l.length 0))∧Kn w2' wr) (fun _ s9 _=>l.length+1-(intOf s9).toNat)
 case atStart=>exact⟨0,[0],_,_,[],rfl,rfl,by simp,HFO,HGO,rfl,HFR,Qh ⟨fun x hx=>(by cases hx),by simp⟩,HM5,HLI5,hkn5⟩
 case round=>
  clear HFO HGO HFR HM5 HLI5 hkn5;obtain⟨i,F,vf,vout,out,rfl,rfl,hiF,hfo,hgo,hol,hof,hoo,hmp,hli,hkn⟩:=hrel;obtain⟨af,cf0,rfl,_,_,hfc⟩:=hof.out.look;have hFl:=hfo.out.len;by_cases hlt:i<F.length
  ·obtain⟨bf,rfl,_,_,hfc2⟩:=hfc (fun e=>by rw[e] at hlt;simp at hlt);have hfi:=(hfc2 i hlt).1;obtain⟨n,hn⟩:∃n,n=F[i]:=⟨_,rfl⟩;have hnl:n<l.length:=by rw[hn];exact hfo.out.lt _ (List.getElem_mem hlt)
   rw[←hn] at hfi;have HN:=Qh hn;have HA:=Qh (DAccept_c pd n l wr (HD2.out.kn hkn) hnl);obtain⟨acc,hac⟩:∃acc,acc=dac l n:=⟨_,rfl⟩;rw[←hac] at HA;have HAC:=Qh hac;clear hfc hfc2 hn hac;go_wp2_with fail
   refine HA.out.mono ?_;rintro e w6 ⟨rfl,rfl⟩;obtain⟨Y,hY⟩:∃Y,Y=(rwN [] acc).toArray:=⟨_,rfl⟩;have hYs:Y.size=257:=by rw[hY,List.size_toArray];exact rwN_len (by simp) acc
   have hown:=ls_own acc;rw[rwN_nil,←hY] at hown;have hst:=run_storeCells_new (P:=Tryz.prog) w6 TLs Tryz.zeroCells367 Y (by rw[hYs];exact hlzi) (by rw[hlzs,hYs]) (by rw[hY];exact rwN_one [] acc);have HY:=Qh hY;clear hY;go_upto_region 12 with fail
   obtain⟨b10,hb10⟩:∃zz,zz=w6.heap.size:=⟨_,rfl⟩;obtain⟨w7,hw7⟩:∃zz,zz=w6.alloc (.cells Y TLs):=⟨_,rfl⟩;have hk7:Kn w6 w7:=by rw[hw7];exact(Qb _ _).alloc _
   have hr7:RowV w7 TLs b10 (rwN [] acc):=by
    unfold RowV;rw[hw7,hb10,Qf,HY.out]
   have HR7:=Qh hr7;have hkn7:=hkn.trans hk7;have HF7:=Qh (hof.out.kn hk7);have HM7:=Qh (hmp.out.kn hk7);have HL7:=Qh (hli.out.kn hk7);have hbb10:bm<b10:=by rw[hb10];exact hmp.out.lt
   have hvb:∀g,vout.ownBlock=some g→g≠b10:=fun g hg e=>by have:=(hli.out.row.lt g hg).2;omega
   have HVB:=Qh hvb;have HFB:Hid (bf≠b10):=Qh (fun e=>by have:=(hof.out.lt bf rfl).2;omega);rw[←hw7,←hb10];clear hst hown hw7 hb10 hr7 hk7 hvb;go_wp2_with fail
   go_loopw [8,50] (fun s8 s50 wi=>∃(b:Nat) (vf:Value),vf=s8∧s50= .int .i64 b∧b≤256∧Hid (OwnI wi B vf (lsK l L K n F b).1)∧Hid (MapA wi 3 bm (plM K (lsK l L K n F b).1))∧Hid (RowV wi TLs b10 (rwN (lsK l L K n F b).2 acc))∧Hid (LIn wi pl g0 l.length vout out (List.replicate l.length 0))∧Kn w2' wi) (fun _ s50 _=>256-(intOf s50).toNat)
   case atStart=>exact⟨0,_,rfl,rfl,by omega,HF7,HM7,HR7,HL7,hkn7⟩
   case round=>
    clear HF7 HM7 HR7 HL7 hkn7;obtain⟨b,vf,rfl,rfl,hb,hof2,hmp2,hrw,hli2,hkn2⟩:=hrel;obtain⟨hok1,hok2,hok3,hok4,hok5⟩:=lsK_ok (L:=L) (n:=n) HL.out hfo.out b;have HSS:=Qh (lsK_succ l L K n F b);obtain⟨r,hr⟩:∃r,r=lsK l L K n F b:=⟨_,rfl⟩;rw[←hr] at hok1 hok2 hok3 hok4 hok5 HSS hof2 hmp2 hrw;have HRE:=Qh hr;clear hr;obtain⟨G,hG⟩:=hok3;have hil:i<r.1.length:=by omega
    have hFi:r.1[i]=n:=by
     have h1:r.1[i]? =some n:=by rw[hG,List.getElem?_append_left hlt,List.getElem?_eq_getElem hlt,HN.out]
     rw[List.getElem?_eq_getElem hil] at h1;injection h1
    have hrl:=hok1.len;obtain⟨a2,cf2,rfl,_,_,h4⟩:=hof2.out.look;obtain⟨bf2,rfl,_,_,h5⟩:=h4 (fun e=>by rw[e] at hil;simp at hil);have hfi2:=(h5 i hil).1;rw[hFi] at hfi2;have hrwl:=rwN_len (nx:=r.2) (by omega) acc;by_cases hbb:b<256
    ·have hbi:(b:Int)<256:=by omega
     have hc1:=hrw.out.cell (i:=b) (by omega);have hf1:=hrw.out.fr b;have HST:Hid (∀x:Int,(rwN r.2 acc).set b (.int .i64 x)=rwN (r.2++[x]) acc):=Qh (fun x=>by
      have:=rwN_set (nx:=r.2) (by omega) acc x;rw[hok4] at this;exact this)
     have HOK1:=Qh hok1;clear h4 h5 hG hok1 hok5;go_upto_region 16 with fail
     obtain⟨w2,hw2⟩:∃zz,zz=wr.setCell ⟨b10,b,none⟩ (.int .i64 (-1)):=⟨_,rfl⟩;have hk2:K1 b10 wr w2:=by rw[hw2];exact Qg _ _
     have hR2:=hrw.out.set b (.int .i64 (-1));rw[←hw2] at hR2⊢;have HR2:=Qh hR2;have hkn3:=hkn2.trans' hk2 (fun i hi e=>by omega);have hof3:=hof2.out.kp1 hk2 ⟨_,hrw.out⟩ (by decide);have HOF3:=Qh hof3;have HMP3:=Qh (hmp2.out.kp hk2 (by omega));have HLI3:=Qh (hli2.out.kp hk2 (by omega) (by omega) (fun g hg e=>HVB.out g hg e));have hfi4:=hof3.cell i hil;rw[hFi] at hfi4;have HN2:=Qh (DNext_c pd n b l w2 (HD2.out.kn hkn3) hnl hbb);have HRK3:=Qh (HRK.out.kn hkn3);have HRL3:=Qh (HRL.out.kn hkn3);have hdx:=HL.out.dnx_lt n b;clear hFi hw2 hR2 hof3 hk2 hc1 hf1 hof2 hmp2 hrw hli2 hkn2 hfi2;by_cases hx:dnx l n b= -1
     ·have hh:hit l L n b=false:=by simp[hit,hx]
      have HE:Hid (lsK l L K n F (b+1)=(r.1,r.2++[-1])):=Qh (by rw[HSS.out];unfold lsB;rw[hh];try rfl);rw[hx] at HN2;go_wp2_with fail
      refine HN2.out.mono ?_;rintro e w4 ⟨rfl,rfl⟩;unfold nxV;go_wp2_with fail
      go_roundw
      case rel=>exact⟨b+1,_,rfl,by go_num,by omega,Qh (by rw[HE.out];exact HOF3.out),Qh (by rw[HE.out];exact HMP3.out),Qh (by rw[HE.out];have:=HR2.out;rw[HST.out] at this;exact this),HLI3,hkn3⟩
      case measure=>simp[intOf];omega
     ·obtain⟨q,hq⟩:∃q:Nat,(q:Int)=dnx l n b:=⟨(dnx l n b).toNat,by omega⟩;have hql:q<l.length:=by omega
      have hq1:¬(q:Int)= -1:=by omega
      have hq2:(dnx l n b).toNat=q:=by omega
      have hh:hit l L n b=L.getD q false:=by simp[hit,hq2,hx]
      have HLB:Hid (lsB l L K n r b=if L.getD q false=true then(match r.1.findIdx? (fun p=>decide (K.getD p 0=K.getD q 0)) with|some j=>(r.1,r.2++[(j:Int)])|none=>(r.1++[q],r.2++[(r.1.length:Int)])) else(r.1,r.2++[-1])):=Qh (by unfold lsB;rw[hh,hq2];try rfl);rw[←hq] at HN2 hx hdx;have hcq:=HRL3.out.bcell (i:=q) (by omega);have hkq:=HRK3.out.icell (i:=q) (by omega);clear hq hh hq2;obtain⟨bv,hbv⟩:∃bv,bv=L.getD q false:=⟨_,rfl⟩;rw[←hbv] at hcq HLB;clear hbv;cases bv with
      |false=>
       have HE:Hid (lsK l L K n F (b+1)=(r.1,r.2++[-1])):=Qh (by rw[HSS.out,HLB.out];try rfl);go_wp2_with fail
       refine HN2.out.mono ?_;rintro e w4 ⟨rfl,rfl⟩;rw[nxV,if_neg hq1];go_wp2_with fail
       go_roundw
       case rel=>exact⟨b+1,_,rfl,by go_num,by omega,Qh (by rw[HE.out];exact HOF3.out),Qh (by rw[HE.out];exact HMP3.out),Qh (by rw[HE.out];have:=HR2.out;rw[HST.out] at this;exact this),HLI3,hkn3⟩
       case measure=>simp[intOf];omega
      |true=>
       have hkb:=kget HKB.out q;obtain⟨y,hy⟩:∃y,y=K.getD q 0:=⟨_,rfl⟩;rw[←hy] at hkq hkb HLB;have HY2:=Qh hy;have hkey:keyOf Tryz.prog 3 (.int .i64 y)=some (.int .i64 y):=keyOf_int_mk Tryz.underlying3 (by
        simp[Lit.wf,IntKind.min,IntKind.max,IntKind.signed,IntKind.bits];omega)
       have HKY:=Qh hkey;have hc5:=HR2.out.cell (i:=b) (by rw[List.length_set];omega);have hf5:=HR2.out.fr b;clear hy hkey hkb;cases hf:r.1.findIdx? (fun p=>decide (K.getD p 0=y)) with
       |some j=>
        obtain⟨hjl,hje,_⟩:=List.findIdx?_eq_some_iff_getElem.1 hf;have hje2:K.getD r.1[j] 0=y:=by simpa using hje
        have HX1:Hid ((Value.int .i64 y,Value.int .i64 (j:Nat))∈plM K r.1):=Qh (plM_mem.2 ⟨j,hjl,by rw[hje2]⟩);have HE:Hid (lsK l L K n F (b+1)=(r.1,r.2++[(j:Int)])):=Qh (by rw[HSS.out,HLB.out,hf];try rfl);clear hf hje hje2;go_wp2_with fail
        refine HN2.out.mono ?_;rintro e w4 ⟨rfl,rfl⟩;rw[nxV,if_neg hq1];go_wp2_with (at_lookup;refine Ym rfl (.tmp 77) (.tmp 81) true rfl (int_keyed Tryz.underlying3) Tryz.underlying129 rfl HMP3.out (.int .i64 y) _ rfl HKY.out (.int .i64 (j:Nat)) HX1.out ?_)
        obtain⟨w8,hw8⟩:∃zz,zz=w4.setCell ⟨b10,b,none⟩ (.int .i64 (j:Nat)):=⟨_,rfl⟩;have hk8:K1 b10 w4 w8:=by rw[hw8];exact Qg _ _
        have hR8:=HR2.out.set b (.int .i64 (j:Nat));rw[List.set_set,HST.out,←hw8] at hR8;rw[←hw8];have HR8:=Qh hR8;have hkn8:=hkn3.trans' hk8 (fun i hi e=>by omega);have HOF8:=Qh (HOF3.out.kp1 hk8 ⟨_,HR2.out⟩ (by decide));have HMP8:=Qh (HMP3.out.kp hk8 (by omega));have HLI8:=Qh (HLI3.out.kp hk8 (by omega) (by omega) (fun g hg e=>HVB.out g hg e));clear hw8 hR8;go_roundw
        case rel=>exact⟨b+1,_,rfl,by go_num,by omega,Qh (by rw[HE.out];exact HOF8.out),Qh (by rw[HE.out];exact HMP8.out),Qh (by rw[HE.out];exact HR8.out),HLI8,hkn8⟩
        case measure=>simp[intOf];omega
       |none=>
        have HX0:Hid (∀p∈plM K r.1,p.1≠Value.int .i64 y):=Qh (by
         intro p hp e;obtain⟨j,hj,rfl⟩:=plM_mem.1 hp;have h3:=List.findIdx?_eq_none_iff.1 hf _ (List.getElem_mem hj);have e2:K.getD r.1[j] 0=y:=by injection e
         exact absurd e2 (of_decide_eq_false h3))
        have HE:Hid (lsK l L K n F (b+1)=(r.1++[q],r.2++[(r.1.length:Int)])):=Qh (by rw[HSS.out,HLB.out,hf];try rfl);have HPS:Hid (plM K (r.1++[q])=plM K r.1++[(.int .i64 y,.int .i64 (r.1.length:Nat))]):=Qh (by rw[plM_snoc,HY2.out]);clear hf;go_wp2_with fail
        refine HN2.out.mono ?_;rintro e w4 ⟨rfl,rfl⟩;rw[nxV,if_neg hq1];go_upto_region 22 with(first
         |(at_lookup;refine YZ rfl (.tmp 77) (.tmp 81) true rfl (int_keyed Tryz.underlying3) Tryz.underlying129 (.int .i64 0) HZ.out rfl HMP3.out (.int .i64 y) _ rfl HKY.out HX0.out ?_)
         |(at_mapUpdate;refine wpList_put0 rfl (.tmp 89) (.tmp 93) (.tmp 94) rfl (int_keyed Tryz.underlying3) Tryz.underlying129 rfl HMP3.out (.int .i64 y) (.int .i64 (r.1.length:Nat)) _ rfl rfl HKY.out HX0.out ?_;intro w7 hm7 hk7))
        rw[←HPS.out] at hm7;have HMP7:=Qh hm7;have hkn7:=hkn3.trans' hk7 (fun i hi e=>by omega);have hbmo:∀g (C:Array Value) T fr,w4.heap[g]? =some (.cells C T fr)→¬g=bm:=fun g C T fr hb e=>by
         subst e;obtain⟨es,ck,h2,_⟩:=HMP3.out;rw[h2] at hb;injection hb with hb;cases hb
        have HOF7:Hid (OwnI w7 B (.slice (some ⟨bf2,0,none⟩) r.1.length cf2) r.1):=Qh (by
         have h1:=HOF3.out;refine⟨h1.1,?_⟩;rcases h1.2 with h2|⟨g',cap,cur,h2,h3,h4,h6⟩
         ·exact .inl h2
         ·exact .inr ⟨g',cap,cur,h2,h3,hk7.blk h4 (hbmo _ _ _ _ h4),h6⟩)
        have HR7:=Qh (HR2.out.kp hk7 (by omega));have HLI7:=Qh (HLI3.out.kp hk7 (by omega) (by omega) (fun g hg=>by
         obtain⟨cur,h1⟩:=HLI3.out.row.blkT hg;exact hbmo _ _ _ _ h1))
        clear hm7 hbmo hfi4;go_upto_region 23 with(at_builtin;refine QG rfl (.tmp 95) (.tmp 97) rfl B w7.heap.size _ _ _ [q] rfl rfl (HOF7.out.kn ((Qb _ _).alloc _)) (OwnI.one _ _) (by simp;omega) (by have:=HOF7.out.lt bf2 rfl;rw[size_alloc'];omega) ?_;intro v9 w9 hro9 hk9)
        have hkn9:=(hkn7.alloc (.cells #[.int .i64 q] 3)).trans' hk9 (fun i hi e=>by have:=(HOF7.out.lt i e.symm).1;omega);obtain⟨curf,hbf⟩:=HOF7.out.blkT (g:=bf2) rfl;have hbfB:=(HOF7.out.lt bf2 rfl).1;have hbfb:bf2≠b10:=fun e=>by
         have h7:=HR7.out;unfold RowV at h7;rw[←e,hbf] at h7;injection h7 with h7;injection h7 with _ h7 _;exact absurd h7 (by decide)
        have hka:Kn w7 (w7.alloc (.cells #[.int .i64 q] 3)):=(Qb _ _).alloc _;have HR9:=Qh ((HR7.out.kn hka).kp hk9 (fun e=>by injection e with e;exact hbfb e.symm));have HMP9:=Qh ((HMP7.out.kn hka).kp hk9 (fun e=>by have e2:bm=bf2:=Option.some.inj e;omega));have HLI9:=Qh ((HLI7.out.kn hka).kp hk9 (fun e=>by have e2:pl=bf2:=Option.some.inj e;omega) (fun e=>by have e2:g0=bf2:=Option.some.inj e;omega) (fun g hg e=>by
         have e:g=bf2:=Option.some.inj e;obtain⟨cur,h1⟩:=HLI7.out.row.blkT hg;rw[e,hbf] at h1;injection h1 with h1;injection h1 with _ h1 _;exact absurd h1 (by decide)))
        have HOF9:=Qh hro9;have hc9:=HR9.out.cell (i:=b) (by rw[List.length_set];omega);have hf9:=HR9.out.fr b;clear hro9 hk9 hbf hka HR7 HMP7 HLI7 HOF7 hc5 hf5;go_wp2_with fail
        obtain⟨w8,hw8⟩:∃zz,zz=w9.setCell ⟨b10,b,none⟩ (.int .i64 (r.1.length:Nat)):=⟨_,rfl⟩;have hk8:K1 b10 w9 w8:=by rw[hw8];exact Qg _ _
        have hR8:=HR9.out.set b (.int .i64 (r.1.length:Nat));rw[List.set_set,HST.out,←hw8] at hR8;rw[←hw8];have HR8:=Qh hR8;have hkn8:=hkn9.trans' hk8 (fun i hi e=>by omega);have HOF8:=Qh (HOF9.out.kp1 hk8 ⟨_,HR9.out⟩ (by decide));have HMP8:=Qh (HMP9.out.kp hk8 (by omega));have HLI8:=Qh (HLI9.out.kp hk8 (by omega) (by omega) (fun g hg e=>HVB.out g hg e));clear hw8 hR8;go_roundw
        case rel=>exact⟨b+1,_,rfl,by go_num,by omega,Qh (by rw[HE.out];exact HOF8.out),Qh (by rw[HE.out];exact HMP8.out),Qh (by rw[HE.out];exact HR8.out),HLI8,hkn8⟩
        case measure=>simp[intOf];omega
    ·obtain rfl:b=256:=by omega
     have HOK1:=Qh hok1;clear h4 h5 hG hFi hok1 hok5;have hrC:=hrw.out;unfold RowV at hrC;rw[rwN_full hok4] at hrC;obtain⟨C,hC⟩:∃C,C=rowC (r.2,acc):=⟨_,rfl⟩;rw[←hC] at hrC;have hCs:C.size=257:=by rw[hC];exact Yp hok4
     have hC1:C.all (·.oneCell')=true:=by rw[hC,←rwN_full hok4];exact rwN_one _ _
     have hiC:(Tryz.prog.info? TLs).map (·.size)=some C.toList.length:=by rw[Array.length_toList,hCs];exact hlzi
     obtain⟨avo,cvo,hvo,_⟩:=hli2.out.row.row (k:=257) (fun D hD=>by
      obtain⟨x,hx,rfl⟩:=List.mem_map.1 hD;unfold lsC;rw[Array.length_toList];exact Yp (hli2.out.nl x hx))
     obtain⟨nvo,hvo⟩:∃n,vout= .slice avo n cvo:=⟨_,hvo⟩;have HVO:=Qh hvo;have HCE:=Qh hC;have hp1:wr.cell? ⟨pl,1,none⟩=some (.slice (some ⟨g0,0,none⟩) l.length l.length):=by rw[Qa hli2.out.blk];try rfl
     have hrg0:=World.rangeAt_of_block hrC 0 257;have eC:(C.extract 0 (0+257)).toList=C.toList:=by rw[Nat.zero_add,←hCs];simp
     rw[eC] at hrg0;obtain⟨ie,hie0,hie1,hie2,hie3⟩:=ls_info;have HIE:=Qh (And.intro hie0 (And.intro hie1 (And.intro hie2 hie3)));clear hC hvo eC hie0 hie1 hie2 hie3;go_upto_region 25 with fail
     refine wp_region_held_drew (S:=fun w'=>w'.cell? ⟨pl,1,none⟩=some (.slice (some ⟨g0,0,none⟩) l.length l.length)∧w'.rangeAt b10 0 C.toList) (by kernel_rfl) ⟨Qc ((Qb _ _).drew) hp1,(World.rangeAt_drew _ _ _ _).2 hrg0⟩ (fun hHeld=> ?_);obtain⟨wd,hwd⟩:∃zz,zz=wr.drew:=⟨_,rfl⟩;have hkd:Kn wr wd:=by rw[hwd];exact(Qb _ _).drew
     have KW0:=hkn2.trans hkd;have KD0:Kn wd wd:=Qb _ _;have LI0:=Qh (hli2.out.kn hkd);have HOFD:=Qh (hof2.out.kn hkd);have HMPD:=Qh (hmp2.out.kn hkd);rw[←hwd] at hHeld⊢;clear hwd hp1 hrg0 hfi2;refine TW 0 104 ?_;refine TW 1 105 ?_;refine TW 2 106 ?_;refine TW 3 107 ?_;refine wpAnyH_take (i:=5) (oi:=Oper.mk (some 109) _ _ _ _ _) (v:=_) rfl (by kernel_rfl) (by kernel_rfl) (by kernel_rfl) (fun _ _ _ h=>h) (yieldsIf_load_mid (by rfl) TLs _ rfl b10 0 rfl C.toList _ (fun _ h=>h.2) Tryz.underlying367 rfl hiC) (by assumption) ?_
     try simp only[PP]
     refine RH2 4 6 (fun K hK=> ?_) (fun K hK=> ?_)
     ·have xq:wd.cell? ⟨pl,0,none⟩=some vout:=by rw[Qa LI0.out.blk];try rfl
      rw[HVO.out] at xq;go_simp;rw[←HVO.out];clear xq;refine hK.out _ _ hHeld (fun hHeld=> ?_);clear hK K
      try simp only[PP]
      refine RH 6 (fun K hK=> ?_);refine step_slice_ls (by rfl) (.tmp 109) C (by rfl) (by rfl) hCs ?_;obtain⟨v1,hw1⟩:∃zz,zz=wd.alloc (.cells C TLs):=⟨_,rfl⟩;have hk1:Kn wd v1:=by rw[hw1];exact(Qb _ _).alloc _
      obtain⟨ge,hge⟩:∃zz,zz=wd.heap.size:=⟨_,rfl⟩;have GE:v1.heap[ge]? =some (.cells C TLs (0,0)):=by rw[hw1,hge];exact Qf _ _
      have LI1:=Qh (LI0.out.kn hk1);have KW1:=KW0.trans hk1;have KD1:=KD0.trans hk1;have hX1:=Qc hk1 hHeld.1;have hX2:v1.rangeAt b10 0 C.toList:=by rw[hw1];exact World.rangeAt_alloc hHeld.2 _
      rw[←hw1,←hge];clear hk1 hw1 hge;refine hK.out _ _ ⟨hX1,hX2⟩ (fun hHeld=> ?_);clear hK K hX1 hX2
      try simp only[PP]
      refine RH 7 (fun K hK=> ?_);refine Qq v1 (by rfl) _ _ 363 (by rfl) pl TLs ie (.agg Tryz.zeroCells367) 257 2056 Tryz.underlying363 HIE.out.1 HIE.out.2.1 HIE.out.2.2.1 HIE.out.2.2.2 hlzs (by decide) vout (out.map lsC) (by rfl) LI1.out.row ge 1 (by rfl) _ TLs (0,0) GE hCs hC1 (by rw[List.length_map];simp only[maxLen];omega) (by rw[List.length_map];omega) (by have:=Qj LI1.out.blk;omega) ?_;intro v1 v2 hown hka hat;rw[HCE.out] at hown;have HSN:=Qh (LI1.out.snoc hok4 hown hka);obtain⟨av1,cv1,hv1,_⟩:=hown.row (k:=257) (fun D hD=>by
       rcases List.mem_append.1 hD with h|h
       ·obtain⟨x,hx,rfl⟩:=List.mem_map.1 h;unfold lsC;rw[Array.length_toList];exact Yp (LI1.out.nl x hx)
       ·simp at h;rw[h];simp only[Array.length_toList];exact Yp hok4)
      obtain⟨nl1,hv1⟩:∃n,v1= .slice av1 n cv1:=⟨_,hv1⟩;have HV1:=Qh hv1;have hpb:=hka.blk LI1.out.blk (fun e=>by obtain⟨cur,h1⟩:=LI1.out.row.blkT e.symm;exact Qn LI1.out.blk h1 (by decide));have KX:=KW1.trans' hka (fun i hi e=>by have:=(LI1.out.row.lt i e.symm).1;omega);have hX1:v2.cell? ⟨pl,1,none⟩=some (.slice (some ⟨g0,0,none⟩) l.length l.length):=by rw[Qa hpb];try rfl
      have hX2:v2.rangeAt b10 0 C.toList:=fun j u hj=>Qi hka (hHeld.2 j u hj) (fun e=>HVB.out b10 e.symm rfl)
      have HOFX:=Qh ((HOFD.out.kn KD1).kpT hka (fun g cs hg e=>by obtain⟨cur,h1⟩:=LI1.out.row.blkT e.symm;exact Qn hg h1 (by decide)));have HMPX:=Qh ((HMPD.out.kn KD1).kp hka (fun e=>by
       obtain⟨cur,h1⟩:=LI1.out.row.blkT e.symm;obtain⟨es,ck,h2,_⟩:=HMPD.out.kn KD1;rw[h1] at h2;injection h2 with h2;cases h2))
      clear hown hka hat hv1;refine hK.out _ _ ⟨hX1,hX2⟩ (fun hHeld=> ?_);clear hK K hX1 hX2
      try simp only[PP]
      refine TW 8 112 ?_;refine TW 9 113 ?_;refine RH 10 (fun K hK=> ?_);have xp1:v2.cell? ⟨pl,0,none⟩=some vout:=by rw[Qa hpb];try rfl
      have yp1:=Qd hpb 0;rw[HVO.out] at xp1;rw[HV1.out];go_simp;rw[←HV1.out];obtain⟨w9,hw9⟩:∃zz,zz=v2.setCell ⟨pl,0,none⟩ v1:=⟨_,rfl⟩;have hk9:K1 pl v2 w9:=by rw[hw9];exact Qg _ _
      rw[←hw9] at HSN⊢;have KX9:=KX.trans' hk9 (fun i hi e=>by omega);have HOF9:=Qh (HOFX.out.kp1 hk9 ⟨_,hpb⟩ (by decide));have HMP9:=Qh (HMPX.out.kp hk9 (by omega));have hX1:w9.cell? ⟨pl,1,none⟩=some (.slice (some ⟨g0,0,none⟩) l.length l.length):=by rw[Qa HSN.out.blk];try rfl
      have hX2:w9.rangeAt b10 0 C.toList:=fun j u hj=>Qi hk9 (hHeld.2 j u hj) (show¬b10=pl by omega)
      clear xp1 yp1 hpb hw9 hk9 KX;refine hK.out _ _ ⟨hX1,hX2⟩ (fun hHeld=> ?_);clear hK K hX1 hX2
      try simp only[PP]
      refine RD ?_;go_wp2_with fail
      go_roundw
      case rel=>exact⟨i+1,r.1,_,v1,out++[(r.2,acc)],rfl,by go_num,by omega,Qh (by rw[HRE.out];exact(lsK_ok HL.out hfo.out 256).1),Qh (lsGo_step hgo.out hFl hlt HN.out HAC.out HRE.out),by simp[hol],HOF9,Qh ⟨hoo.out.1.snocK HL.out hfo.out HAC.out HRE.out,fun e=>by have h1:=(lsK_ok (L:=L) (n:=n) HL.out hfo.out 256).2.1;rw[←HRE.out,e] at h1;simp at h1;exact hoo.out.2 h1⟩,HMP9,HSN,KX9⟩
      case measure=>simp[intOf];omega
     ·refine step_slice_ls (by rfl) (.tmp 109) C (by rfl) (by rfl) hCs ?_;obtain⟨v3,hw3⟩:∃zz,zz=wd.alloc (.cells C TLs):=⟨_,rfl⟩;have hk3:Kn wd v3:=by rw[hw3];exact(Qb _ _).alloc _
      obtain⟨ge,hge⟩:∃zz,zz=wd.heap.size:=⟨_,rfl⟩;have GE:v3.heap[ge]? =some (.cells C TLs (0,0)):=by rw[hw3,hge];exact Qf _ _
      have LI3:=Qh (LI0.out.kn hk3);have KW3:=KW0.trans hk3;have KD3:=KD0.trans hk3;have hX1:=Qc hk3 hHeld.1;have hX2:v3.rangeAt b10 0 C.toList:=by rw[hw3];exact World.rangeAt_alloc hHeld.2 _
      rw[←hw3,←hge];clear hk3 hw3 hge;refine hK.out _ _ ⟨hX1,hX2⟩ (fun hHeld=> ?_);clear hK K hX1 hX2
      try simp only[PP]
      refine RH 4 (fun K hK=> ?_);have xq:v3.cell? ⟨pl,0,none⟩=some vout:=by rw[Qa LI3.out.blk];try rfl
      rw[HVO.out] at xq;go_simp;rw[←HVO.out];clear xq;refine hK.out _ _ hHeld (fun hHeld=> ?_);clear hK K
      try simp only[PP]
      refine RH 7 (fun K hK=> ?_);refine Qq v3 (by rfl) _ _ 363 (by rfl) pl TLs ie (.agg Tryz.zeroCells367) 257 2056 Tryz.underlying363 HIE.out.1 HIE.out.2.1 HIE.out.2.2.1 HIE.out.2.2.2 hlzs (by decide) vout (out.map lsC) (by rfl) LI3.out.row ge 1 (by rfl) _ TLs (0,0) GE hCs hC1 (by rw[List.length_map];simp only[maxLen];omega) (by rw[List.length_map];omega) (by have:=Qj LI3.out.blk;omega) ?_;intro v1 v4 hown hka hat;rw[HCE.out] at hown;have HSN:=Qh (LI3.out.snoc hok4 hown hka);obtain⟨av1,cv1,hv1,_⟩:=hown.row (k:=257) (fun D hD=>by
       rcases List.mem_append.1 hD with h|h
       ·obtain⟨x,hx,rfl⟩:=List.mem_map.1 h;unfold lsC;rw[Array.length_toList];exact Yp (LI3.out.nl x hx)
       ·simp at h;rw[h];simp only[Array.length_toList];exact Yp hok4)
      obtain⟨nl1,hv1⟩:∃n,v1= .slice av1 n cv1:=⟨_,hv1⟩;have HV1:=Qh hv1;have hpb:=hka.blk LI3.out.blk (fun e=>by obtain⟨cur,h1⟩:=LI3.out.row.blkT e.symm;exact Qn LI3.out.blk h1 (by decide));have KX:=KW3.trans' hka (fun i hi e=>by have:=(LI3.out.row.lt i e.symm).1;omega);have hX1:v4.cell? ⟨pl,1,none⟩=some (.slice (some ⟨g0,0,none⟩) l.length l.length):=by rw[Qa hpb];try rfl
      have hX2:v4.rangeAt b10 0 C.toList:=fun j u hj=>Qi hka (hHeld.2 j u hj) (fun e=>HVB.out b10 e.symm rfl)
      have HOFX:=Qh ((HOFD.out.kn KD3).kpT hka (fun g cs hg e=>by obtain⟨cur,h1⟩:=LI3.out.row.blkT e.symm;exact Qn hg h1 (by decide)));have HMPX:=Qh ((HMPD.out.kn KD3).kp hka (fun e=>by
       obtain⟨cur,h1⟩:=LI3.out.row.blkT e.symm;obtain⟨es,ck,h2,_⟩:=HMPD.out.kn KD3;rw[h1] at h2;injection h2 with h2;cases h2))
      clear hown hka hat hv1;refine hK.out _ _ ⟨hX1,hX2⟩ (fun hHeld=> ?_);clear hK K hX1 hX2
      try simp only[PP]
      refine TW 8 112 ?_;refine TW 9 113 ?_;refine RH 10 (fun K hK=> ?_);have xp1:v4.cell? ⟨pl,0,none⟩=some vout:=by rw[Qa hpb];try rfl
      have yp1:=Qd hpb 0;rw[HVO.out] at xp1;rw[HV1.out];go_simp;rw[←HV1.out];obtain⟨w9,hw9⟩:∃zz,zz=v4.setCell ⟨pl,0,none⟩ v1:=⟨_,rfl⟩;have hk9:K1 pl v4 w9:=by rw[hw9];exact Qg _ _
      rw[←hw9] at HSN⊢;have KX9:=KX.trans' hk9 (fun i hi e=>by omega);have HOF9:=Qh (HOFX.out.kp1 hk9 ⟨_,hpb⟩ (by decide));have HMP9:=Qh (HMPX.out.kp hk9 (by omega));have hX1:w9.cell? ⟨pl,1,none⟩=some (.slice (some ⟨g0,0,none⟩) l.length l.length):=by rw[Qa HSN.out.blk];try rfl
      have hX2:w9.rangeAt b10 0 C.toList:=fun j u hj=>Qi hk9 (hHeld.2 j u hj) (show¬b10=pl by omega)
      clear xp1 yp1 hpb hw9 hk9 KX;refine hK.out _ _ ⟨hX1,hX2⟩ (fun hHeld=> ?_);clear hK K hX1 hX2
      try simp only[PP]
      refine RD ?_;go_wp2_with fail
      go_roundw
      case rel=>exact⟨i+1,r.1,_,v1,out++[(r.2,acc)],rfl,by go_num,by omega,Qh (by rw[HRE.out];exact(lsK_ok HL.out hfo.out 256).1),Qh (lsGo_step hgo.out hFl hlt HN.out HAC.out HRE.out),by simp[hol],HOF9,Qh ⟨hoo.out.1.snocK HL.out hfo.out HAC.out HRE.out,fun e=>by have h1:=(lsK_ok (L:=L) (n:=n) HL.out hfo.out 256).2.1;rw[←HRE.out,e] at h1;simp at h1;exact hoo.out.2 h1⟩,HMP9,HSN,KX9⟩
      case measure=>simp[intOf];omega
  ·obtain rfl:i=F.length:=by omega
   have hout:=lsGo_end hgo.out hlt;have hF0:0<F.length:=List.length_pos_iff.2 hoo.out.2;have HLO:Hid (LOk out out.length∧0<out.length∧out.length≤2000∧out=leastF l):=Qh ⟨by rw[hol];exact hoo.out.1,by omega,by omega,hout⟩;obtain⟨zs0,hzs0⟩:∃z,z=List.replicate l.length (0:Int):=⟨_,rfl⟩;rw[←hzs0] at hli;have HLIz:=hli;have HMPz:=hmp;obtain⟨wo,hwo⟩:∃z,z=wr:=⟨_,rfl⟩;subst hwo;clear hfc hout hgo hzs0 hoo hof hli hmp;have hpl2:w2'.heap.size≤pl:=by omega
   have hp0:wo.cell? ⟨pl,1,none⟩=some (.slice (some ⟨g0,0,none⟩) l.length l.length):=by rw[Qa HLIz.out.blk];try rfl
   go_wp2_with fail
   clear hp0;go_loopw [119] (fun s119 wr=>∃(k:Nat) (zs:List Int),s119= .int .i64 k∧k≤l.length∧Hid (LIn wr pl g0 l.length vout out zs)∧Hid (MapA wr 3 bm (plM K F))∧Kn w2' wr) (fun s119 _=>l.length-(intOf s119).toNat)
   case atStart=>exact⟨0,zs0,rfl,by omega,HLIz,HMPz,hkn⟩
   case round=>
    clear HLIz HMPz hkn;obtain⟨k,zs,rfl,hk,hli,hmp,hkn⟩:=hrel;by_cases hkl:k<l.length
    ·have hp1:wr.cell? ⟨pl,1,none⟩=some (.slice (some ⟨g0,0,none⟩) l.length l.length):=by rw[Qa hli.out.blk];try rfl
     have hzl:=hli.out.zl;have hc1:=hli.out.of_.icell (i:=k) (by omega);have hf1:=hli.out.of_.fr k;go_upto_region 30 with fail
     obtain⟨w2,hw2⟩:∃zz,zz=wr.setCell ⟨g0,k,none⟩ (.int .i64 (-1)):=⟨_,rfl⟩;have hk2:K1 g0 wr w2:=by rw[hw2];exact Qg _ _
     have hl2:=hli.out.zset k (-1);rw[←hw2] at hl2⊢;have HL2:=Qh hl2;have HM2:=Qh (hmp.out.kp hk2 (by omega));have hkn2:=hkn.trans' hk2 (fun i hi e=>by omega);have hp2:w2.cell? ⟨pl,1,none⟩=some (.slice (some ⟨g0,0,none⟩) l.length l.length):=by rw[Qa HL2.out.blk];try rfl
     have hkk:=(HRK.out.kn hkn2).icell (i:=k) (by omega);have hlk:=(HRL.out.kn hkn2).bcell (i:=k) (by omega);have hc2:=HL2.out.of_.icell (i:=k) (by rw[List.length_set];omega);have hf2:=HL2.out.of_.fr k;have hkb:=kget HKB.out k;obtain⟨y,hy⟩:∃y,y=K.getD k 0:=⟨_,rfl⟩;rw[←hy] at hkk hkb;obtain⟨bv,hbv⟩:∃bv,bv=L.getD k false:=⟨_,rfl⟩;rw[←hbv] at hlk;have hkey:keyOf Tryz.prog 3 (.int .i64 y)=some (.int .i64 y):=keyOf_int_mk Tryz.underlying3 (by
      simp[Lit.wf,IntKind.min,IntKind.max,IntKind.signed,IntKind.bits];omega)
     have HKY:=Qh hkey;clear hl2 hw2 hk2 hc1 hf1 hp1 hli hmp hkn hy hbv hkey hkb hzl;cases hf:F.findIdx? (fun p=>decide (K.getD p 0=y)) with
     |none=>
      have HX0:Hid (∀p∈plM K F,p.1≠Value.int .i64 y):=Qh (by
       intro p hp e;obtain⟨j,hj,rfl⟩:=plM_mem.1 hp;have h3:=List.findIdx?_eq_none_iff.1 hf _ (List.getElem_mem hj);have e2:K.getD F[j] 0=y:=by injection e
       exact absurd e2 (of_decide_eq_false h3))
      clear hf;go_wp2_with (at_lookup;refine YZ rfl (.tmp 129) (.tmp 133) true rfl (int_keyed Tryz.underlying3) Tryz.underlying129 (.int .i64 0) HZ.out rfl HM2.out (.int .i64 y) _ rfl HKY.out HX0.out ?_)
      go_roundw
      case rel=>exact⟨k+1,_,by go_num,by omega,HL2,HM2,hkn2⟩
      case measure=>simp[intOf];omega
     |some j=>
      obtain⟨hjl,hje,_⟩:=List.findIdx?_eq_some_iff_getElem.1 hf;have hje2:K.getD F[j] 0=y:=by simpa using hje
      have HX1:Hid ((Value.int .i64 y,Value.int .i64 (j:Nat))∈plM K F):=Qh (plM_mem.2 ⟨j,hjl,by rw[hje2]⟩);have HL3:=Qh (HL2.out.zset k (j:Nat));have hk3:K1 g0 w2 (w2.setCell ⟨g0,k,none⟩ (.int .i64 (j:Nat))):=Qg _ _;have HM3:=Qh (HM2.out.kp hk3 (by omega));have hkn3:=hkn2.trans' hk3 (fun i hi e=>by omega);clear hf hje hje2 hk3;cases bv with
      |true=>
       go_wp2_with (at_lookup;refine Ym rfl (.tmp 129) (.tmp 133) true rfl (int_keyed Tryz.underlying3) Tryz.underlying129 rfl HM2.out (.int .i64 y) _ rfl HKY.out (.int .i64 (j:Nat)) HX1.out ?_)
       go_roundw
       case rel=>exact⟨k+1,_,by go_num,by omega,HL3,HM3,hkn3⟩
       case measure=>simp[intOf];omega
      |false=>
       by_cases h0:k=0
       ·have e0:((k:Int)==0)=true:=by simp[h0]
        clear h0;go_wp2_with (at_lookup;refine Ym rfl (.tmp 129) (.tmp 133) true rfl (int_keyed Tryz.underlying3) Tryz.underlying129 rfl HM2.out (.int .i64 y) _ rfl HKY.out (.int .i64 (j:Nat)) HX1.out ?_)
        go_roundw
        case rel=>exact⟨k+1,_,by go_num,by omega,HL3,HM3,hkn3⟩
        case measure=>simp[intOf];omega
       ·have e0:((k:Int)==0)=false:=by rw[beq_eq_false_iff_ne];omega
        clear h0;go_wp2_with (at_lookup;refine Ym rfl (.tmp 129) (.tmp 133) true rfl (int_keyed Tryz.underlying3) Tryz.underlying129 rfl HM2.out (.int .i64 y) _ rfl HKY.out (.int .i64 (j:Nat)) HX1.out ?_)
        go_roundw
        case rel=>exact⟨k+1,_,by go_num,by omega,HL2,HM2,hkn2⟩
        case measure=>simp[intOf];omega
    ·obtain rfl:k=l.length:=by omega
     go_wp2_with fail
     go_ret2
     have e:=HLO.out.2.2.2;refine⟨pl,rfl,by have:=hkn2'.size;omega,⟨g0,l.length,vout,zs,?_,?_,?_,?_⟩,hkn2'.trans hkn⟩
     ·rw[←e];exact hli.out
     ·rw[←e];exact HLO.out.1
     ·rw[←e];exact HLO.out.2.1
     ·rw[←e];exact HLO.out.2.2.1
theorem step_put0{w:World}{k e t:TypeId}{b:Nat}{m:KV}{ops:Array Oper}{o:Oper}{a:Act}{K:Act→World→Prop}{Q:Exit→Act→World→Prop}{E:Prop}(hg:o.guard=none)(mo xo vo:Operand)(hop:o.op=Op.mapUpdate t mo xo vo)(KK:Keyed Tryz.prog k)(ht:Tryz.prog.underlying t=some (.map k e))
  (hm:a.eval mo= .map (some b)) (h:MapA w k b m) (x v:Value) (lx:Lit) (hx:a.eval xo=x) (hv:a.eval vo=v) (hk:keyOf Tryz.prog k x=some lx) (hn:∀p∈m,p.1≠x)
  (hK:∀w',MapA w' k b (m++[(x,v)])→K1 b w w'→K (a.put o.dst undef) w'):if Region.wanted o (yielded ops a.tmps)=true then Oper.wp Tryz.prog o a w K Q else E:=by
 have hw:Region.wanted o (yielded ops a.tmps)=true:=by simp[Region.wanted,hg]
 rw[if_pos hw];obtain⟨w',hr,h1,h2⟩:=h.put0 KK ht hk hn v;unfold Oper.wp;simp[execOp,hop,hm,hx,hv,hr,Result.andThen];exact hK w' h1 h2
theorem map_61{w w':World}{p:Nat}{k:TypeId}{m:KV}(h:K1 p w w')(hm:MapA w k p m):Kn61 w w':=
 Kn61.of h (fun k o hk ht e=>by
  subst e;obtain⟨es,cl,hb,_⟩:=hm;rw[hb] at hk;injection hk with hk;subst hk;cases ht)
def clsAll:List GC→List ByteArray→List Rw→Option (List Rw)
 |[],_,ts=>some ts
 |c::cs,ns,ts=>match clsF ns ts.length c with|some t=>clsAll cs (ns++[c.name]) (ts++[t])|none=>none
def Yo(cs:List GC):Option (List Rw×List DS):=
 if cs.length=0 then none else match clsAll cs [] [] with
 |none=>none
 |some ts=>if 2000<nsum ts ts.length then none else match(nfaF ts).dfa with|none=>none|some l=>some (ts,l)
theorem clsAll_step{cs:List GC}{k:Nat}{ns:List ByteArray}{ts:List Rw}{Z:Option (List Rw)}(h:clsAll (cs.drop k) ns ts=Z)(hk:k<cs.length):
  Z=match clsF ns ts.length cs[k] with|some t=>clsAll (cs.drop (k+1)) (ns++[cs[k].name]) (ts++[t])|none=>none:=by
 rw[←h,List.drop_eq_getElem_cons hk];try rfl
theorem clsAll_end{cs:List GC}{ns:List ByteArray}{ts:List Rw}{Z:Option (List Rw)}(h:clsAll (cs.drop cs.length) ns ts=Z):Z=some ts:=by
 rw[←h,List.drop_length];try rfl
structure ScN (w:World) (ps bn:Nat) (x vcl:Value) (B:Nat) (cs:List GC) (ns:List ByteArray):Prop where
 blk:w.heap[ps]? =some (.cells #[x,vcl,.map (some bn)] TSc (0,0))
 row:OwnK w B TCl 3 vcl (cs.map clL)
 nms:MapA w 9 bn (nmM ns)
theorem ScN.kp{S:Nat→Prop}{w w':World}{ps bn:Nat}{x vcl:Value}{B:Nat}{cs:List GC}{ns:List ByteArray}(h:ScN w ps bn x vcl B cs ns)(hk:Kp S w w')(h1:¬S ps)(h2:¬S bn)(h3:∀g,vcl.ownBlock=some g→¬S g):ScN w' ps bn x vcl B cs ns:=
 ⟨hk.blk h.blk h1,h.row.kp hk h3,h.nms.kp hk h2⟩
theorem ScN.kn{w w':World}{ps bn:Nat}{x vcl:Value}{B:Nat}{cs:List GC}{ns:List ByteArray}(h:ScN w ps bn x vcl B cs ns)(hk:Kn w w'):ScN w' ps bn x vcl B cs ns:=h.kp hk (fun x=>x) (fun x=>x) (fun _ _ x=>x)
def ScanAt(w:World)(ps:Nat)(cs:List GC)(l:List DS):Prop:=∃pl bn vcl B,ScN w ps bn (ptr pl) vcl B cs (cs.map GC.name)∧LeastAt w pl (leastF l)
theorem ScanAt.kn{w w':World}{ps:Nat}{cs:List GC}{l:List DS}(h:ScanAt w ps cs l)(hk:Kn w w'):ScanAt w' ps cs l:=by
 obtain⟨a,b,c,d,h1,h2⟩:=h;exact⟨a,b,c,d,h1.kn hk,h2.kn hk⟩
def ScanPost(cs:List GC)(w:World)(e:Ending)(w':World):Prop:=
 Kn w w'∧match Yo cs with
 |some r=>∃ps:Nat,e= .returned (.tuple #[ptr ps,.int .i64 cs.length,.int .i64 0])∧w.heap.size≤ps∧ScanAt w' ps cs r.2
 |none=>∃(k:Int) (n:Int),n≠0∧e= .returned (.tuple #[.pointer none,.int .i64 k,.int .i64 n])
structure ScK (cs:List GC) (k:Nat) (ts:List Rw) (qs:List Nat):Prop where
 all:clsAll (cs.drop k) ((cs.take k).map GC.name) ts=clsAll cs [] []
 len:ts.length=k
 kl:k≤40
 sz:∀t∈ts,t.size≤400
theorem scanNew_c(b c:Nat)(cs:List GC)(w:World)(hc:ClsR w b cs)(hl:cs.length≤1000000)(hs:∀x∈cs,x.name.size≤1000000∧x.regex.size≤1099511627776):
  Calls Tryz.prog 112 #[.slice (some ⟨b,0,none⟩) cs.length c] w (ScanPost cs w):=by
 by_cases h0:cs.length=0
 ·have i0:((cs.length:Int)==0)=true:=by simp[h0]
  have hF:Hid (Yo cs=none):=Qh (by unfold Yo;rw[if_pos h0]);clear h0;go_enter Tryz.func112,Tryz.ntmps112;go_wp2_with fail
  go_ret3
  refine⟨Qb _ _,?_⟩;rw[hF.out];exact⟨0,12,by decide,rfl⟩
 ·have i0:((cs.length:Int)==0)=false:=by rw[beq_eq_false_iff_ne];omega
  have hF:Hid (Yo cs=match clsAll cs [] [] with|none=>none|some ts=>if 2000<nsum ts ts.length then none else match(nfaF ts).dfa with|none=>none|some l=>some (ts,l)):=Qh (by unfold Yo;rw[if_neg h0]);have HC:=Qh hc;have HS:=Qh hs;have HCL:=Qh (CloneC_c b c cs w hl hc);have hmm:= @run_makeMap Tryz.prog;obtain⟨ir,hi,hz0,hz1,hz2⟩:=info_parts info_ptr;have HI:=Qh (And.intro hi (And.intro hz0 (And.intro hz1 hz2)));have HH0:=Qh h0;clear hc hs h0 hi hz0 hz1 hz2;go_enter Tryz.func112,Tryz.ntmps112;go_wp2_with fail
  refine HCL.out.mono ?_;rintro e w1 ⟨vcl,rfl,hvc,_,hk1⟩;obtain⟨av,cv,hve,_⟩:=hvc.row (fun C hC=>by obtain⟨x,_,rfl⟩:=List.mem_map.1 hC;rfl);rw[List.length_map] at hve;have HVC:=Qh hvc;clear hvc;subst hve;go_wp2_with fail
  obtain⟨W,hW⟩:∃z,z=(w1.alloc (.map #[] 0)).alloc (.cells #[.pointer none,.slice av cs.length cv,.map (some w1.heap.size)] TSc):=⟨_,rfl⟩;have hkW:Kn w1 W:=by rw[hW];exact((Qb _ _).alloc _).alloc _
  have hbl:W.heap[w1.heap.size+1]? =some (.cells #[.pointer none,.slice av cs.length cv,.map (some w1.heap.size)] TSc (0,0)):=by
   have:=Qf (w1.alloc (.map #[] 0)) (.cells #[.pointer none,.slice av cs.length cv,.map (some w1.heap.size)] TSc);rw[size_alloc'] at this;rw[hW];exact this
  have hm0:MapA W 9 w1.heap.size (nmM []):=by rw[hW];exact(MapA.new w1 _).kn ((Qb _ _).alloc _)
  have hWs:W.heap.size=w1.heap.size+1+1:=by rw[hW,size_alloc',size_alloc']
  have hsc0:ScN W (w1.heap.size+1) w1.heap.size (.pointer none) (.slice av cs.length cv) w.heap.size cs []:=⟨hbl,HVC.out.kn hkW,hm0⟩;have hvl:∀g,(Value.slice av cs.length cv).ownBlock=some g→g<w1.heap.size:=fun g hg=>(HVC.out.lt g hg).2
  have hkn0:=hk1.trans hkW;have hw1:=hk1.size;have hkn0s:w.heap.size≤W.heap.size:=hkn0.size;obtain⟨bn,hbn⟩:∃z,z=w1.heap.size:=⟨_,rfl⟩;obtain⟨ps,hps⟩:∃z,z=w1.heap.size+1:=⟨_,rfl⟩;rw[←hW,←hps,←hbn];rw[←hps,←hbn] at hsc0;rw[←hbn] at hvl;have hbnl:w.heap.size≤bn:=by omega
  have hpsb:bn<ps:=by omega
  have hpsW:ps<W.heap.size:=by omega
  have HVL:=Qh hvl;have HSC0:=Qh hsc0;have HK0:Hid (ScK cs 0 [] []):=Qh ⟨rfl,rfl,by omega,fun t ht=>by cases ht⟩;clear hW hbl hm0 hWs hsc0 hvl hbn hps hk1 hkW HVC;go_loopw [6,24] (fun s6 s24 wr=>∃(k:Nat) (ts:List Rw) (qs:List Nat) (v:Value),v=s6∧s24= .int .i64 k∧k≤cs.length∧Hid (ScK cs k ts qs)∧Hid (RowN wr W.heap.size v qs)∧Hid (RowAt wr ts qs)∧Hid (ScN wr ps bn (.pointer none) (.slice av cs.length cv) w.heap.size cs ((cs.take k).map GC.name))∧Kn w wr∧W.heap.size≤wr.heap.size) (fun _ s24 _=>cs.length-(intOf s24).toNat)
  case atStart=>exact⟨0,[],[],_,rfl,rfl,Nat.zero_le _,HK0,Qh (.inl ⟨rfl,rfl⟩),Qh .nil,HSC0,hkn0,Nat.le_refl _⟩
  case round=>
   clear HSC0 HK0 hkn0;obtain⟨k,ts,qs,v,rfl,rfl,hk,hsk,hrow,hra,hsc,hkn,hWr⟩:=hrel;by_cases hlt:k<cs.length
   ·obtain⟨g0,g1,g2⟩:=(HC.out.kn hkn).get hlt;have hsz:=HS.out _ (List.getElem_mem hlt);have hst:=clsAll_step hsk.out.all hlt;have hcl:=hsk.out.len;have hk40:=hsk.out.kl;have hql:qs.length=k:=by rw[←hra.out.len];exact hcl
    rw[hcl] at hst;obtain⟨x,hx⟩:∃x,x=cs[k]:=⟨_,rfl⟩;rw[←hx] at g0 g1 g2 hsz hst;obtain⟨ns,hns⟩:∃z,z=(cs.take k).map GC.name:=⟨_,rfl⟩;rw[←hns] at hsc hst;have HST:=Qh hst;have HX:=Qh hx;have HNS:=Qh hns;have HSZ:=Qh hsz;clear hst hx hns hsz;go_upto_region 8 with fail
    obtain⟨w2,hw2⟩:∃z,z=wr.alloc (.cells #[.string x.name,.string x.regex,.bool x.layout] TCl):=⟨_,rfl⟩;have hk2:Kn wr w2:=by rw[hw2];exact(Qb _ _).alloc _
    obtain⟨b8,hb8⟩:∃z,z=wr.heap.size:=⟨_,rfl⟩;have hbb:w2.heap[b8]? =some (.cells #[.string x.name,.string x.regex,.bool x.layout] TCl (0,0)):=by rw[hw2,hb8];exact Qf _ _
    rw[←hw2,←hb8];have hkn2:=hkn.trans hk2;have HR2:=Qh (hrow.out.kp hk2 (fun _ _ _ x=>x));have HA2:=Qh (hra.out.kn hk2);have HS2:=Qh (hsc.out.kn hk2);have c0:w2.cell? ⟨b8,0,none⟩=some (.string x.name):=by rw[Qa hbb];try rfl
    have c1:w2.cell? ⟨b8,1,none⟩=some (.string x.regex):=by rw[Qa hbb];try rfl
    have c2:w2.cell? ⟨b8,2,none⟩=some (.bool x.layout):=by rw[Qa hbb];try rfl
    have HCLS:=Qh (sclass_c ps bn k ns x w2 (by rw[Qa HS2.out.blk];try rfl) HS2.out.nms (by omega) HSZ.out.1 HSZ.out.2);have hbig:W.heap.size≤b8:=by omega
    clear hw2 hb8 hk2 hrow hra hsc g0 g1 g2;go_wp2_with fail
    refine HCLS.out.mono ?_;rintro e w3 ⟨hk3,hp⟩;have hkn3:=hkn2.trans hk3;cases hcf:clsF ns k x with
    |none=>
     rw[hcf] at hp;dsimp only at hp;obtain⟨n,hn,rfl⟩:=hp;have hn2:(n==0)=false:=by rw[beq_eq_false_iff_ne];exact hn
     have HN:=Qh hn;have hF2:Hid (Yo cs=none):=Qh (by rw[hF.out,HST.out,hcf]);clear hcf hn HST hF;go_wp2_with fail
     go_ret3
     refine⟨hkn3,?_⟩;rw[hF2.out];exact⟨k,n,HN.out,rfl⟩
    |some t=>
     rw[hcf] at hp;dsimp only at hp;obtain⟨q,rfl,hq,hts⟩:=hp;have hnot:YP ns x.name=false∧k<40:=by
      unfold clsF at hcf;split at hcf
      ·cases hcf
      ·split at hcf
       ·cases hcf
       ·rename_i h1 h2;simp at h2;exact⟨h2.2,by omega⟩
     have HST2:Hid (clsAll (cs.drop (k+1)) (ns++[x.name]) (ts++[t])=clsAll cs [] []):=Qh (by rw[HST.out,hcf]);have HQ:=Qh hq;have HNOT:=Qh (nmM_not (hasS_not.1 hnot.1));have hk40':=hnot.2;obtain⟨lx,hlx⟩:=str_keyOf x.name HSZ.out.1;have HLX:=Qh hlx;have hbb3:=hk3.blk hbb (fun x=>x);have HR3:=Qh (HR2.out.kp hk3 (fun _ _ _ x=>x));have HA3:=Qh (HA2.out.kn hk3);have HS3:=Qh (HS2.out.kn hk3);have p2:w3.cell? ⟨ps,2,none⟩=some (.map (some bn)):=by rw[Qa HS3.out.blk];try rfl
     have p0:w3.cell? ⟨b8,0,none⟩=some (.string x.name):=by rw[Qa hbb3];try rfl
     have hnl:ns.length=k:=by rw[HNS.out];simp;omega
     have hW3:W.heap.size≤w3.heap.size:=by have:=hk3.size;have:=Qj hbb;omega
     clear hcf hq hnot hlx HST HCLS HR2 HA2 HS2 hbb hbb3 c0 c1 c2 hk3;go_upto_region 11 with fail
     refine wp_region_held_drew (S:=fun w'=>w'.cell? ⟨ps,2,none⟩=some (.map (some bn))∧w'.cell? ⟨b8,0,none⟩=some (.string x.name)) (by kernel_rfl) ⟨Qc ((Qb _ _).drew) p2,Qc ((Qb _ _).drew) p0⟩ (fun hHeld=> ?_);obtain⟨wd,hwd⟩:∃zz,zz=w3.drew:=⟨_,rfl⟩;have hkd:Kn w3 wd:=by rw[hwd];exact(Qb _ _).drew
     rw[←hwd] at hHeld⊢;clear hwd;refine TW 0 40 ?_;refine TW 1 41 ?_;refine TW 2 42 ?_;refine TH 3 43 ?_;refine TW 4 44 ?_;refine TH 5 45 ?_;refine TW 6 46 ?_;refine RH 7 (fun K hK=> ?_);refine step_put0 (by rfl) (.tmp 43) (.tmp 45) (.tmp 46) (by rfl) (string_keyed Tryz.underlying9) Tryz.underlying179 (by rfl) (HS3.out.nms.kn hkd) (.string x.name) (.int .i64 k) lx (by rfl) (by rfl) HLX.out HNOT.out ?_;intro w5 hm5 hk5;have hkn5:=(hkn3.trans hkd).trans' hk5 (fun i hi e=>by omega);have HR5:=Qh ((HR3.out.kp hkd (fun _ _ _ x=>x)).kp hk5 (fun i h1 _ e=>by omega));have HA5:=Qh ((HA3.out.kn hkd).mono61 (map_61 hk5 (HS3.out.nms.kn hkd)));have HS5:Hid (ScN w5 ps bn (.pointer none) (.slice av cs.length cv) w.heap.size cs (ns++[x.name])):=Qh ⟨hk5.blk (hkd.blk HS3.out.blk (fun x=>x)) (by omega),(HS3.out.row.kn hkd).kp hk5 (fun g hg e=>by have:=HVL.out g hg;omega),by rw[nmM_snoc,hnl];exact hm5⟩;have HQ5:=Qh ((HQ.out.kn hkd).mono61 (map_61 hk5 (HS3.out.nms.kn hkd)));have hW5:W.heap.size≤w5.heap.size:=by have:=hk5.size;have:=hkd.size;omega
     dsimp only;refine hK.out _ _ ⟨Qi hk5 hHeld.1 (show¬ps=bn by omega),Qi hk5 hHeld.2 (show¬b8=bn by omega)⟩ (fun hHeld=> ?_);clear hK K;refine RD ?_;clear hHeld p2 p0 hkd;have hrow3:=HR5.out.kp ((Qb (fun _=>False) w5).alloc (Qt q)) (fun k _ _ x=>x);have hcell:(w5.alloc (Qt q)).cell? ⟨w5.heap.size,0,none⟩=some (ptr q):=Qa (Qf w5 (Qt q)) 0;have hb9:W.heap.size≤(w5.alloc (Qt q)).heap.size:=by simp;omega
     have hwn:=Qh (And.intro hrow3 hcell);clear hrow3 hcell;go_wp2_with (first|(at_builtin;refine wpList_append_z _ rfl _ _ 294 rfl W.heap.size 295 ir (.pointer none) 8 Tryz.underlying294 HI.out.1 HI.out.2.1 HI.out.2.2.1 HI.out.2.2.2 rfl v (qs.map ptr) rfl hwn.out.1 ⟨w5.heap.size,0,none⟩ 1 (ptr q) rfl hwn.out.2 rfl ?c1 ?c2 hb9 ?_;(case c1=>simp[maxLen];omega);(case c2=>simp;omega);intro v' w6 hrow6 hk6))
     have hkl:Kn w5 (w5.alloc (Qt q)):=(Qb _ w5).alloc (Qt q);have hkn6:Kn w w6:=(hkn5.trans hkl).trans' hk6 (fun i hi e=>by have:=HR5.out.ge i e.1;have:=hkn0s;omega);have hkz:=nodes_row (v:=v) hk6 (fun k x=>x.2);have HA6:=Qh (((HA5.out.kn hkl).mono61 hkz).snoc ((HQ5.out.kn hkl).mono61 hkz));have HS6:Hid (ScN w6 ps bn (.pointer none) (.slice av cs.length cv) w.heap.size cs ((cs.take (k+1)).map GC.name)):=Qh (by
      have e:(cs.take (k+1)).map GC.name=ns++[x.name]:=by rw[List.take_succ_eq_append_getElem hlt,List.map_append,HNS.out,HX.out];try rfl
      rw[e];exact(HS5.out.kn hkl).kp hk6 (fun e=>by have:=HR5.out.ge ps e.1;omega) (fun e=>by have:=HR5.out.ge bn e.1;omega) (fun g hg e=>by have:=HR5.out.ge g e.1;have:=HVL.out g hg;omega))
     have HR6:Hid (RowN w6 W.heap.size v' (qs++[q])):=Qh (by unfold RowN;rw[List.map_append];exact hrow6);have HK6:Hid (ScK cs (k+1) (ts++[t]) (qs++[q])):=Qh ⟨by
       have e:(cs.take (k+1)).map GC.name=ns++[x.name]:=by rw[List.take_succ_eq_append_getElem hlt,List.map_append,HNS.out,HX.out];try rfl
       rw[e];exact HST2.out,by simp[hcl],by omega,fun y hy=>by
       rcases List.mem_append.1 hy with h1|h1
       ·exact hsk.out.sz y h1
       ·simp at h1;subst h1;exact hts⟩
     have hW6:W.heap.size≤w6.heap.size:=by have h1:=hk6.size;rw[size_alloc'] at h1;omega
     clear hrow6 hk6 hkl hkz;go_wp2_with fail
     go_roundw
     case rel=>exact⟨k+1,ts++[t],qs++[q],v',rfl,by go_num,by omega,HK6,HR6,HA6,HS6,hkn6,hW6⟩
     case measure=>simp[intOf];omega
   ·obtain rfl:k=cs.length:=by omega
    have hts:=clsAll_end hsk.out.all;have hcl:=hsk.out.len;have hF2:Hid (Yo cs=if 2000<nsum ts ts.length then none else match(nfaF ts).dfa with|none=>none|some l=>some (ts,l)):=Qh (by rw[hF.out,hts]);obtain⟨a,cc,hv,hpt⟩:=hrow.out.ptrs;subst hv;have hk40:=hsk.out.kl;have hNEW:=New_c ts qs a cc wr hra.out hpt (fun e=>by subst e;exact HH0.out hcl.symm) (by omega) (fun t ht=>by have:=hsk.out.sz t ht;omega);have HNEW:=Qh hNEW;have hsc1:=hsc.out;rw[List.take_length] at hsc1;have HS1:=Qh hsc1;have HOK:=Qh (fun h=>nfaF_ok ts h (show ts.length≤100 by omega));clear hts hpt hNEW hsc1 hsc hrow hra hF;go_wp2_with fail
    refine HNEW.out.mono ?_;rintro e w2 ⟨hk2,⟨h2,rfl⟩|⟨h2,pm,rfl,hna⟩⟩
    ·have hF3:Hid (Yo cs=none):=Qh (by rw[hF2.out,if_pos h2]);have hkn2:=hkn.trans hk2;clear h2 hF2;go_wp2_with fail
     go_ret3
     refine⟨hkn2,?_⟩;rw[hF3.out];exact⟨0,3,by decide,rfl⟩
    ·have hF3:Hid (Yo cs=match(nfaF ts).dfa with|none=>none|some l=>some (ts,l)):=Qh (by rw[hF2.out,if_neg (by omega)]);have HD:=Qh (DNew_c hna (HOK.out h2));have hkn2:=hkn.trans hk2;have HS2:=Qh (HS1.out.kn hk2);clear h2 hna hF2 hk2 HS1;go_wp2_with fail
     refine HD.out.mono ?_;rintro e w3 ⟨hk3,hm⟩;have hkn3:=hkn2.trans hk3;have HS3:=Qh (HS2.out.kn hk3);cases hd:(nfaF ts).dfa with
     |none=>
      rw[hd] at hm;dsimp only at hm;subst hm;have hF4:Hid (Yo cs=none):=Qh (by rw[hF3.out,hd]);clear hd hF3;go_wp2_with fail
      go_ret3
      refine⟨hkn3,?_⟩;rw[hF4.out];exact⟨0,3,by decide,rfl⟩
     |some l=>
      rw[hd] at hm;dsimp only at hm;obtain⟨pd,hpd,rfl,hda⟩:=hm;have hF4:Hid (Yo cs=some (ts,l)):=Qh (by rw[hF3.out,hd]);have HL:=Qh (LNew_c hda hda.dl);clear hd hF3 hda hpd hk3;go_wp2_with fail
      refine HL.out.mono ?_;rintro e w4 ⟨pl,rfl,hpl,hla,hk4⟩;have hkn4:=hkn3.trans hk4;have HS4:=Qh (HS3.out.kn hk4);have HLA:=Qh hla;have p0:w4.cell? ⟨ps,0,none⟩=some (.pointer none):=by rw[Qa HS4.out.blk];try rfl
      have f0:=Qd HS4.out.blk 0;clear hk4 hla;go_wp2_with fail
      go_ret3
      obtain⟨w5,hw5⟩:∃z,z=w4.setCell ⟨ps,0,none⟩ (ptr pl):=⟨_,rfl⟩;have hk5:K1 ps w4 w5:=by rw[hw5];exact Qg _ _
      have hb5:=Qk HS4.out.blk 0 (ptr pl);rw[←hw5] at hb5⊢;have hpw:=Qj HS4.out.blk;have hp3:=Qj HS3.out.blk;refine⟨hkn4.trans' hk5 (fun i hi e=>by omega),?_⟩;rw[hF4.out];obtain⟨gof,n,vout,zs,hli,hlo⟩:=HLA.out;refine⟨ps,rfl,by omega,pl,bn,_,w.heap.size,⟨hb5,HS4.out.row.kp hk5 (fun g hg e=>by have:=HVL.out g hg;omega),HS4.out.nms.kp hk5 (by omega)⟩,gof,n,vout,zs,hli.kp hk5 (by omega) (fun e=> ?_) (fun g hg e=> ?_),hlo⟩
      ·have h1:=hli.of_;rw[e] at h1;exact Qn HS4.out.blk h1 (by decide)
      ·obtain⟨cur,h1⟩:=hli.row.blkT hg;rw[e] at h1;exact Qn HS4.out.blk h1 (by decide)
end Go.Proofs.YtiehgcfckhepaaaGreatDoor
namespace Go.Proofs.YtiehgcfckhepaaaGreatDoor
def emptyB:ByteArray:=⟨#[]⟩
def quoteB:ByteArray:=⟨#[39]⟩
def colonB:ByteArray:=⟨#[58]⟩
def nlB:ByteArray:=⟨#[10]⟩
def spB:ByteArray:=⟨#[32]⟩
def YQ:ByteArray:=⟨#[45]⟩
def eqB:ByteArray:=⟨#[61]⟩
def tokenB:ByteArray:=⟨#[116,111,107,101,110]⟩
def layoutB:ByteArray:=⟨#[108,97,121,111,117,116]⟩
def sortB:ByteArray:=⟨#[115,111,114,116]⟩
def ruleB:ByteArray:=⟨#[114,117,108,101]⟩
def bracketB:ByteArray:=⟨#[98,114,97,99,107,101,116]⟩
def trimQ(s:ByteArray):ByteArray:=⟨(Lib.trimPrefix s.data.toList quoteB.data.toList).toArray⟩
def quoted(s:ByteArray):Bool:=Lib.hasPrefix s.data.toList quoteB.data.toList
def litF(s:ByteArray):ByteArray:=if quoted s=true∧(trimQ s).size≤20 then trimQ s else emptyB
def digF(s:ByteArray):Option Nat:=if s.size=1∧48≤bt s 0∧bt s 0≤57 then some (bt s 0-48) else none
def cutA(s sep:ByteArray):ByteArray:=⟨(Lib.cut s.data.toList sep.data.toList).1.toArray⟩
def cutZ(s sep:ByteArray):ByteArray:=⟨(Lib.cut s.data.toList sep.data.toList).2.1.toArray⟩
def cutT(s sep:ByteArray):Bool:=(Lib.cut s.data.toList sep.data.toList).2.2
def splitW(s:ByteArray):List ByteArray:=Lib.splitB spB 0 (Lib.countB s spB) s
structure GW where
 lit:ByteArray
 name:ByteArray
 level:Nat
 sort:Bool
structure GL where
 number:Nat
 sort:ByteArray
 cons:ByteArray
 level:Nat
 words:List GW
 round:Bool
def YR(s:ByteArray):GW:=⟨s,emptyB,0,false⟩
def partF(s:ByteArray):Option GW:=
 if quoted s=true then(if(litF s).size=0 then none else some (YR (litF s)))
 else if cutT s colonB=true then
  match digF (cutZ s colonB) with
  |some n=>if gnOk (cutA s colonB)=true then some ⟨emptyB,cutA s colonB,n,true⟩ else none
  |none=>none
 else if gnOk (cutA s colonB)=true then some ⟨emptyB,cutA s colonB,0,false⟩ else none
def Yb:List ByteArray→Option (List GW)
 |[]=>some []
 |s::l=>match partF s with
  |some x=>match Yb l with|some ws=>some (x::ws)|none=>none
  |none=>none
def aloneF(ws:List GW):Bool:=decide (ws.countP (fun x=>decide (x.lit.size=0))=1)&&decide (ws.countP (fun x=>x.sort)=1)
structure RS where
 lits:List ByteArray
 cls:List GC
 sorts:List ByteArray
 names:List ByteArray
 cons:List ByteArray
 rounds:List ByteArray
 lines:List GL
namespace RS
def none_:RS:=⟨[],[],[],[],[],[],[]⟩
def full(R:RS):Bool:=decide (40≤R.cls.length+R.lits.length)
def name(R:RS)(s:ByteArray):Option RS:=if gnOk s=true∧YP R.names s=false then some {R with names:=R.names++[s]} else none
def token(R:RS)(l:List ByteArray)(lay:Bool):Option RS:=
 match l with
 |[a,b]=>match R.name a with
  |some R1=>if(Yo [⟨a,b,lay⟩]).isSome=true∧R1.full=false then some {R1 with cls:=R1.cls++[⟨a,b,lay⟩]} else none
  |none=>none
 |_=>none
def sort_(R:RS)(l:List ByteArray):Option RS:=
 match l with
 |[a]=>match R.name a with
  |some R1=>if R1.sorts.length<40 then some {R1 with sorts:=R1.sorts++[a]} else none
  |none=>none
 |_=>none
def met(R:RS)(s:ByteArray):Option RS:=if YP R.lits s=true then some R else if R.full=true then none else some {R with lits:=R.lits++[s]}
def mets(R:RS):List GW→Option RS
 |[]=>some R
 |x::ws=>if x.lit.size=0 then R.mets ws else match R.met x.lit with|some R1=>R1.mets ws|none=>none
def add(R:RS)(x:GL):Option RS:=
 if 120≤R.lines.length then none else match R.mets x.words with|some R1=>some {R1 with lines:=R1.lines++[x]} |none=>none
def ruleEnd(R:RS)(n:Nat)(so c:ByteArray)(lv:Nat)(ws:List GW):Option RS:=
 if YP R.cons c=true then none else(if c.size=0 then R else {R with cons:=R.cons++[c]}).add ⟨n,so,c,lv,ws,false⟩
def rule(R:RS)(n:Nat)(l:List ByteArray):Option RS:=
 match l with
 |so::lv::c::e::ps=>
  if 12<ps.length∨e≠eqB∨gnOk so=false then none else
  match digF lv with
  |none=>none
  |some lv=>
   if c≠YQ∧blOk c=false then none else
   match Yb ps with
   |none=>none
   |some ws=>if c=YQ then(if aloneF ws=true then R.ruleEnd n so emptyB lv ws else none) else R.ruleEnd n so c lv ws
 |_=>none
def bracket(R:RS)(n:Nat)(l:List ByteArray):Option RS:=
 match l with
 |[so,a,b]=>
  if gnOk so=false then none else if(litF a).size=0∨(litF b).size=0 then none else if YP R.rounds so=true then none else
  {R with rounds:=R.rounds++[so]}.add ⟨n,so,emptyB,9,[YR (litF a),⟨emptyB,so,0,true⟩,YR (litF b)],true⟩
 |_=>none
def take(R:RS)(n:Nat)(s:ByteArray):Option RS:=
 if s.size=0∨bt s 0=35 then some R else
 match splitW s with
 |[]=>none
 |h::l=>
  if h=tokenB then R.token l false else if h=layoutB then R.token l true else if h=sortB then R.sort_ l
  else if h=ruleB then R.rule n l else if h=bracketB then R.bracket n l else none
def gather:Nat→Nat→RS→ByteArray→Option RS
 |0,_,_,_=>none
 |f+1,n,R,s=>if s.size=0 then some R else if cutT s nlB=true then(match R.take n (cutA s nlB) with|some R1=>gather f (n+1) R1 (cutZ s nlB)|none=>none) else none
end RS
structure GP where
 cls:Int
 sort:Int
 level:Nat
 fixed:Bool
structure GR where
 sort:Nat
 cons:ByteArray
 level:Nat
 parts:List GP
def brPut(m:List (Nat×Nat))(k v:Nat):List (Nat×Nat):=match m.findIdx? (fun p=>decide (p.1=k)) with|some j=>m.set j (k,v)|none=>m++[(k,v)]
namespace RS
def part(R:RS)(x:GW):Option GP:=
 if x.lit.size≠0 then some ⟨Lib.idxOfS R.lits x.lit,-1,0,true⟩
 else if x.sort=true then(if 0≤Lib.idxOfS R.sorts x.name then some ⟨-1,Lib.idxOfS R.sorts x.name,x.level,false⟩ else none)
 else match R.cls.findIdx? (fun c=>decide (c.name=x.name)) with|some i=>some ⟨(R.lits.length+i:Nat),-1,0,false⟩|none=>none
def parts(R:RS):List GW→Option (List GP)
 |[]=>some []
 |x::ws=>match R.part x with
  |some p=>match R.parts ws with|some ps=>some (p::ps)|none=>none
  |none=>none
def ruleOf(R:RS)(x:GL):Option GR:=
 if Lib.idxOfS R.sorts x.sort<0 then none else match R.parts x.words with|some ps=>some ⟨(Lib.idxOfS R.sorts x.sort).toNat,x.cons,x.level,ps⟩|none=>none
def linkGo(R:RS):List GL→List GR→List (Nat×Nat)→Option (List GR×List (Nat×Nat))
 |[],rs,br=>some (rs,br)
 |x::xs,rs,br=>match R.ruleOf x with
  |some r=>linkGo R xs (rs++[r]) (if x.round=true then brPut br r.sort rs.length else br)
  |none=>none
end RS
end Go.Proofs.YtiehgcfckhepaaaGreatDoor
namespace Go.Proofs.YtiehgcfckhepaaaGreatDoor
structure SY where
 place:Bool
 n:Int
structure PR where
 place:Nat
 rule:Nat
 syms:List SY
abbrev PL:=List (Nat×Nat)
structure SB where
 places:PL
 l:List PR
 own:List (List Nat)
def placeI(ps:PL)(p:Nat×Nat):Option Nat:=ps.findIdx? (fun q=>decide (q=p))
def Ys(ps:PL)(p:Nat×Nat):PL×Nat:=match placeI ps p with|some j=>(ps,j)|none=>(ps++[p],ps.length)
def symF(ps:PL)(q:GP):PL×SY:=
 if 0≤q.sort then((Ys ps (q.sort.toNat,q.level)).1,⟨true,(Ys ps (q.sort.toNat,q.level)).2⟩) else(ps,⟨false,q.cls⟩)
def symS(a:PL×List SY)(q:GP):PL×List SY:=((symF a.1 q).1,a.2++[(symF a.1 q).2])
def Yi(ps:PL)(qs:List GP):PL×List SY:=qs.foldl symS (ps,[])
structure RW where
 places:PL
 l:List PR
 own:List Nat
def isOf(p:Nat×Nat)(r:GR):Bool:=decide (r.sort=p.1)&&decide (p.2≤r.level)
def sruleS(n:Nat)(a:RW)(x:GR×Nat):RW:=
 if isOf (a.places.getD n (0,0)) x.1=true then⟨(Yi a.places x.1.parts).1,a.l++[⟨n,x.2,(Yi a.places x.1.parts).2⟩],a.own++[a.l.length]⟩ else a
def rowS(rs:List GR)(n:Nat)(S:SB):RW:=rs.zipIdx.foldl (sruleS n) ⟨S.places,S.l,[]⟩
def buildGo(rs:List GR):Nat→Nat→SB→SB
 |0,_,S=>S
 |f+1,n,S=>if n<S.places.length then buildGo rs f (n+1) ⟨(rowS rs n S).places,(rowS rs n S).l,S.own++[(rowS rs n S).own]⟩ else S
def YJ(rs:List GR):SB:=buildGo rs 501 0 ⟨[(0,0)],[],[]⟩
def YG(n:Int):Nat:=if n<0∨40<n then 0 else 2^n.toNat
def Qx(E:List Bool)(F:List Nat):Nat→List SY→Nat×Bool
 |x,[]=>(x,true)
 |x,y::l=>if y.place=false then(x|||YG y.n,false) else if y.n<0∨(E.length:Int)≤y.n then(x,false)
  else if E.getD y.n.toNat false=true then Qx E F (x|||F.getD y.n.toNat 0) l else(x|||F.getD y.n.toNat 0,false)
structure FS where
 empty:List Bool
 first:List Nat
 more:Bool
def QZ(a:FS)(p:PR):FS:=
 let r:=Qx a.empty a.first 0 p.syms
 ⟨a.empty.set p.place (r.2||a.empty.getD p.place false),a.first.set p.place (r.1|||a.first.getD p.place 0),
  a.more||(decide (r.1|||a.first.getD p.place 0≠a.first.getD p.place 0)||(r.2&& !a.empty.getD p.place false))⟩
def YX(l:List PR)(a:List Bool×List Nat):FS:=l.foldl QZ ⟨a.1,a.2,false⟩
structure WS where
 follow:List Nat
 more:Bool
def followX(E:List Bool)(F:List Nat)(p:PR)(a:WS)(i:Nat)(y:SY):Nat:=
 ((Qx E F 0 (p.syms.drop (i+1))).1|||(if(Qx E F 0 (p.syms.drop (i+1))).2=true then a.follow.getD p.place 0 else 0))|||a.follow.getD y.n.toNat 0
def Yk(E:List Bool)(F:List Nat)(p:PR)(a:WS)(z:SY×Nat):WS:=
 if z.1.place=false then a else if followX E F p a z.2 z.1=a.follow.getD z.1.n.toNat 0 then a else⟨a.follow.set z.1.n.toNat (followX E F p a z.2 z.1),true⟩
def YF(E:List Bool)(F:List Nat)(a:WS)(p:PR):WS:=p.syms.zipIdx.foldl (Yk E F p) a
def followP(E:List Bool)(F:List Nat)(l:List PR)(W:List Nat):WS:=l.foldl (YF E F) ⟨W,false⟩
def itF{α:Type}(f:α→α×Bool):Nat→α→α
 |0,a=>a
 |k+1,a=>(f (itF f k a)).1
def Fin{α:Type}(f:α→α×Bool)(a z:α):Prop:=∃k,z=(f (itF f k a)).1∧(f (itF f k a)).2=false∧∀j,j<k→(f (itF f j a)).2=true
theorem Fin.uni{α:Type}{f:α→α×Bool}{a z y:α}(h:Fin f a z)(g:Fin f a y):z=y:=by
 obtain⟨k,rfl,h2,h3⟩:=h;obtain⟨m,rfl,g2,g3⟩:=g;rcases Nat.lt_trichotomy k m with e|e|e
 ·rw[g3 k e] at h2;cases h2
 ·rw[e]
 ·rw[h3 m e] at g2;cases g2
def fstF(l:List PR)(a:List Bool×List Nat):(List Bool×List Nat)×Bool:=(((YX l a).empty,(YX l a).first),(YX l a).more)
def flwF(E:List Bool)(F:List Nat)(l:List PR)(W:List Nat):List Nat×Bool:=((followP E F l W).follow,(followP E F l W).more)
structure SX where
 b:SB
 fin:Nat
 empty:List Bool
 first:List Nat
 follow:List Nat
def IsSets(rs:List GR)(m:Nat)(S:SX):Prop:=
 S.b=YJ rs∧S.fin=m∧Fin (fstF S.b.l) (List.replicate S.b.places.length false,List.replicate S.b.places.length 0) (S.empty,S.first)∧
  Fin (flwF S.empty S.first S.b.l) ((List.replicate S.b.places.length 0).set 0 (YG m)) S.follow
def listB(x:Nat):List Nat:=(List.range 41).filter (fun n=>x.testBit n)
abbrev IT:=Int×Int×Int
def Yt(l:List PR)(prod:Int):Option (List SY):=if prod= -1 then some [⟨true,0⟩] else if prod<0 then none else(l[prod.toNat]?).map (·.syms)
def YC(X:SX)(i:IT):Bool:=match Yt X.b.l i.1 with|some s=>decide (0≤i.2.1)&&(decide (i.2.1≤s.length)&&(decide (0≤i.2.2)&&decide (i.2.2≤X.fin)))|none=>false
def Zb(X:SX)(i:IT):Option SY:=if YC X i=true then match Yt X.b.l i.1 with|some s=>s[i.2.1.toNat]? |none=>none else none
def beginB(X:SX)(l:List SY)(t:Int):Nat:=let r:=Qx X.empty X.first 0 l;if r.2=true then r.1|||YG t else r.1
def moreI(X:SX)(i:IT):List IT:=match Zb X i with
 |some y=>if y.place=true then
   (listB (beginB X (((Yt X.b.l i.1).getD []).drop (i.2.1.toNat+1)) i.2.2)).flatMap (fun(t:Nat)=>(X.b.own.getD y.n.toNat []).map (fun(p:Nat)=>((p:Int),0,(t:Int))))
  else[]
 |none=>[]
def addI(X:SX)(T:List IT)(i:IT):List IT:=if YC X i=true∧i∉T then T++[i] else T
def YL(X:SX)(T l:List IT):List IT:=l.foldl (addI X) T
def closI(X:SX):Nat→Nat→List IT→Option (List IT)
 |0,_,_=>none
 |f+1,k,T=>match T[k]? with|some i=>closI X f (k+1) (YL X T (moreI X i))|none=>some T
theorem rightI_some{X:SX}{i:IT}(h:YC X i=true):∃s,Yt X.b.l i.1=some s∧0≤i.2.1∧i.2.1≤s.length∧0≤i.2.2∧i.2.2≤X.fin:=by
 unfold YC at h;cases hs:Yt X.b.l i.1 with
 |none=>rw[hs] at h;cases h
 |some s=>
  rw[hs] at h;simp only[Bool.and_eq_true,decide_eq_true_eq] at h;exact⟨s,rfl,h.1,h.2.1,h.2.2.1,h.2.2.2⟩
open Go.RowKit Go.Maps Go.ChangeMaps Go.MapKept
def MapB(w:World)(k:TypeId)(b:Nat)(m:KV):Prop:=
 ∃(es:Array MapEntry) (clock:Nat),w.heap[b]? =some (.map es clock)∧es.toList.map (fun e=>(e.key,e.val))=m∧Stamped es clock∧∀p∈m,∃l,keyOf Tryz.prog k p.1=some l
section
variable {w:World} {k e t:TypeId} {b:Nat} {m:KV} {x:Value} {lx:Lit}
theorem MapB.a(h:MapB w k b m):MapA w k b m:=by
 obtain⟨es,clock,hb,he,hs,hk⟩:=h;refine⟨es,clock,hb,he,?_,hk⟩;rw[←he,List.map_map];exact hs.2.2
theorem MapB.kp{S:Nat→Prop}{w':World}(h:MapB w k b m)(hk:Kp S w w')(hs:¬S b):MapB w' k b m:=by obtain⟨es,clock,hb,r⟩:=h;exact⟨es,clock,hk.blk hb hs,r⟩
theorem MapB.kn{w':World}(h:MapB w k b m)(hk:Kn w w'):MapB w' k b m:=h.kp hk (fun x=>x)
theorem MapB.new(w:World)(k:TypeId):MapB (w.alloc (.map #[] 0)) k w.heap.size []:=⟨#[],0,Qf w _,rfl,stamped_empty 0,by simp⟩
theorem MapB.put0(h:MapB w k b m)(K:Keyed Tryz.prog k)(ht:Tryz.prog.underlying t=some (.map k e))(hx:keyOf Tryz.prog k x=some lx)(hn:∀p∈m,p.1≠x)(v:Value):
  ∃w',(Instr.mapUpdate t (.map (some b)) x v).run Tryz.prog w= .ok () w'∧MapB w' k b (m++[(x,v)])∧K1 b w w':=by
 obtain⟨es,clock,hb,he,hs,hk⟩:=h;rcases K.find w hx es.toList (MapA.keys he hk) with⟨h1,h0⟩|⟨j,e0,h1,h2,h3⟩
 ·refine⟨setBlock w b (.map (es.push ⟨x,v,clock⟩) (clock+1)),?_,⟨_,_,heap_setBlock_same hb _,?_,stamped_push hs h0,?_⟩,⟨rfl,rfl,rfl,by simp[setBlock],fun i _ hi=>heap_setBlock_other hb _ hi⟩⟩
  ·simp[Instr.mapUpdate,run_underlying ht,MapKept.run_getObj_map hb,K.check w false hx,h1,MapKept.run_setObj_map _ hb,Result.andThen,setBlock]
  ·simp[he]
  ·intro p hp;rcases List.mem_append.1 hp with hp|hp
   ·exact hk p hp
   ·simp at hp;subst hp;exact⟨_,hx⟩
 ·exact(hn (e0.key,e0.val) (by rw[←he];exact List.mem_map_of_mem (List.mem_of_getElem? h2)) h3).elim
theorem MapB.put1(h:MapB w k b m)(K:Keyed Tryz.prog k)(ht:Tryz.prog.underlying t=some (.map k e))(hx:keyOf Tryz.prog k x=some lx){u:Value}(hn:(x,u)∈m)(v:Value):
  ∃(w':World) (j:Nat),(Instr.mapUpdate t (.map (some b)) x v).run Tryz.prog w= .ok () w'∧m[j]? =some (x,u)∧MapB w' k b (m.set j (x,v))∧K1 b w w':=by
 have hA:=h.a;obtain⟨es,clock,hb,he,hs,hk⟩:=h;rcases K.find w hx es.toList (MapA.keys he hk) with⟨h1,h0⟩|⟨j,e0,h1,h2,h3⟩
 ·rw[←he] at hn;obtain⟨e1,h4,h5⟩:=List.mem_map.1 hn;exact(h0 e1 h4 (congrArg Prod.fst h5)).elim
 ·have hv:e0.val=u:=by
   obtain⟨_,_,_,_,hd,_⟩:=hA;exact MapA.val hd hn (by rw[←he,←h3];exact List.mem_map_of_mem (List.mem_of_getElem? h2))
  have hj:es[j]? =some e0:=by simpa using h2
  have hm:m[j]? =some (x,u):=by rw[←he,List.getElem?_map,h2];simp[h3,hv]
  refine⟨setBlock w b (.map (es.modify j (fun e'=> {e' with key:=x,val:=v})) clock),j,?_,hm,⟨_,_,heap_setBlock_same hb _,?_,stamped_modify hs j _ (fun _ _=>rfl) (fun e1 _ h4=> ?_),?_⟩,⟨rfl,rfl,rfl,by simp[setBlock],fun i _ hi=>heap_setBlock_other hb _ hi⟩⟩
  ·simp[Instr.mapUpdate,run_underlying ht,MapKept.run_getObj_map hb,K.check w false hx,h1,hj,h3,K.stays w hx,MapKept.run_setObj_map _ hb,Result.andThen,setBlock]
  ·rw[Array.toList_modify,List.modify_eq_set,h2];simp[List.map_set,he]
  ·rw[hj] at h4;cases h4;exact h3.symm
  ·intro p hp;rcases List.mem_or_eq_of_mem_set hp with hp|rfl
   ·exact hk p hp
   ·exact⟨_,hx⟩
end
def RangB(w:World)(k:TypeId)(b r:Nat)(m L:KV):Prop:=
 ∃(es:Array MapEntry) (clock since:Nat) (seen:Array Nat) (c0:Nat),w.heap[b]? =some (.map es clock)∧es.toList.map (fun e=>(e.key,e.val))=m∧Stamped es clock∧(∀p∈m,∃l,keyOf Tryz.prog k p.1=some l)∧
  w.heap[r]? =some (.mapIter (some b) since seen c0)∧(∀x∈es.toList,x.born<since)∧since≤c0∧since≤clock∧(leftOf es seen).toList.map (fun e=>(e.key,e.val))=L
section
variable {w w':World} {k e t:TypeId} {b r:Nat} {m L:KV} {S:Nat→Prop}
theorem RangB.map(h:RangB w k b r m L):MapB w k b m:=by obtain⟨es,clock,_,_,_,hb,he,hs,hk,_⟩:=h;exact⟨es,clock,hb,he,hs,hk⟩
theorem RangB.kp(h:RangB w k b r m L)(hk:Kp S w w')(h1:¬S b)(h2:¬S r):RangB w' k b r m L:=by
 obtain⟨es,clock,since,seen,c0,hb,he,hs,hm,hr,rest⟩:=h;exact⟨es,clock,since,seen,c0,hk.blk hb h1,he,hs,hm,hk.blk hr h2,rest⟩
theorem RangB.lt(h:RangB w k b r m L):r<w.heap.size∧b<w.heap.size∧r≠b:=by
 obtain⟨es,clock,since,seen,c0,hb,he,hs,hm,hr,rest⟩:=h;refine⟨Qj hr,Qj hb,?_⟩;rintro rfl;rw[hb] at hr;cases hr
theorem sb_same{w:World}{r:Nat}{o:Obj}(h:w.heap[r]? =some o)(o':Obj):(setBlock w r o').heap[r]? =some o':=by
 have:=Qj h;simp[setBlock,this]
theorem sb_other{w:World}{r i:Nat}(o':Obj)(h:¬i=r):(setBlock w r o').heap[i]? =w.heap[i]? :=by
 simp[setBlock,Array.getElem?_setIfInBounds,Ne.symm h]
theorem left_all(es:Array MapEntry):leftOf es #[]=es:=by unfold leftOf;simp
theorem MapB.range(h:MapB w k b m)(ht:Tryz.prog.underlying t=some (.map k e)):
  ∃w',(Instr.range t (.map (some b))).run Tryz.prog w= .ok (.pointer (some ⟨w.heap.size,0,none⟩)) w'∧RangB w' k b w.heap.size m m∧Kn w w':=by
 obtain⟨es,clock,hb,he,hs,hk⟩:=h;exact⟨_,run_range_map w t k e b es clock ht hb,⟨es,clock,clock,#[],clock,Qm hb _,he,hs,hk,Qf w _,hs.1,Nat.le_refl _,Nat.le_refl _,by rw[left_all];exact he⟩,(Qb _ _).alloc _⟩
theorem left_cut{es:Array MapEntry}{seen:Array Nat}{e0:MapEntry}(hn:(es.toList.map (·.born)).Nodup)(he:e0∈(leftOf es seen).toList):
  ∃l1 l2,(leftOf es seen).toList=l1++e0::l2∧(leftOf es (seen.push e0.born)).toList=l1++l2:=by
 obtain⟨l1,l2,h⟩:=List.append_of_mem he;refine⟨l1,l2,h,?_⟩;have e1:(leftOf es (seen.push e0.born)).toList=(leftOf es seen).toList.filter (fun x=>decide (x.born≠e0.born)):=by
  unfold leftOf;rw[Array.toList_filter,Array.toList_filter,List.filter_filter];apply List.filter_congr;intro x _;simp[Array.contains_eq_mem,Array.mem_push,Bool.and_comm,not_or,Bool.decide_and]
 have hn2:((leftOf es seen).toList.map (·.born)).Nodup:=by
  unfold leftOf;rw[Array.toList_filter];exact hn.sublist (List.filter_sublist.map _)
 rw[h,List.map_append,List.map_cons,List.nodup_append] at hn2;obtain⟨n1,n2,n3⟩:=hn2;rw[List.nodup_cons] at n2;rw[e1,h,List.filter_append,List.filter_cons];simp only[ne_eq,not_true_eq_false,decide_false,Bool.false_eq_true,if_false];rw[List.filter_eq_self.2,List.filter_eq_self.2]
 ·intro x hx;exact decide_eq_true (fun e=>n2.1 (by rw[←e];exact List.mem_map_of_mem hx))
 ·intro x hx;exact decide_eq_true (n3 _ (List.mem_map_of_mem hx) _ List.mem_cons_self)
theorem RangB.next(h:RangB w k b r m L)(ty:TypeId):
  (L=[]∧(Instr.next (.pointer (some ⟨r,0,none⟩)) false ty).run Tryz.prog w= .ok (.tuple #[.bool false]) w)∨
  ∃(p:Value×Value) (L1 L2:KV) (w':World),L=L1++p::L2∧p∈m∧(Instr.next (.pointer (some ⟨r,0,none⟩)) false ty).run Tryz.prog w= .ok (.tuple #[.bool true,p.1,p.2]) w'∧RangB w' k b r m (L1++L2)∧K1 r w w'∧
   (Instr.entry (.pointer (some ⟨r,0,none⟩))).run Tryz.prog w'= .ok (.tuple #[p.1,p.2]) w':=by
 have hne:=h.lt.2.2;obtain⟨es,clock,since,seen,c0,hb,he,hs,hk,hr,hold,h1,h2,hL⟩:=h;rcases run_next_at w ty r b since c0 seen es clock hr hb hold h1 with⟨h3,h4⟩|⟨e0,he0,w1,hw1,h4⟩
 ·refine .inl ⟨?_,h4⟩;rw[←hL,Array.eq_empty_of_size_eq_zero h3];try rfl
 ·refine .inr ?_;obtain⟨l1,l2,h5,h6⟩:=left_cut hs.2.1 he0;have hr1:w1.heap[r]? =some (.mapIter (some b) since seen c0):=by rcases hw1 with rfl|rfl<;>exact hr
  have hb1:w1.heap[b]? =some (.map es clock):=by rcases hw1 with rfl|rfl<;>exact hb
  have hk1:K1 r w (setBlock w1 r (.mapIter (some b) since (seen.push e0.born) clock)):=by
   have:K1 r w1 (setBlock w1 r (.mapIter (some b) since (seen.push e0.born) clock)):=⟨rfl,rfl,rfl,by simp[setBlock],fun i _ hi=>sb_other _ hi⟩;rcases hw1 with rfl|rfl
   ·exact this
   ·exact((Qb _ _).drew).trans this
  have hbk:=hk1.blk hb (fun e=>hne e.symm);have hrk:=sb_same hr1 (.mapIter (some b) since (seen.push e0.born) clock);have hin:=(mem_left he0).1;refine⟨(e0.key,e0.val),l1.map (fun e=>(e.key,e.val)),l2.map (fun e=>(e.key,e.val)),_,?_,by rw[←he];exact List.mem_map_of_mem (f:=fun e:MapEntry=>(e.key,e.val)) hin,h4,⟨es,clock,since,seen.push e0.born,clock,hbk,he,hs,hk,hrk,hold,h2,h2,?_⟩,hk1,run_entry_at _ r b since seen es clock e0 hrk hbk hin hs.2.1⟩
  ·rw[←hL,h5,List.map_append,List.map_cons]
  ·rw[h6,List.map_append]
end
section
variable {w:World} {k e t:TypeId} {b r:Nat} {m L:KV} {ops:Array Oper} {rest:List Oper} {o:Oper} {a:Act} {Q:Exit→Act→World→Prop}
end
end Go.Proofs.YtiehgcfckhepaaaGreatDoor
namespace Go.Proofs.YtiehgcfckhepaaaGreatDoor
open Go.RowKit Go.Maps
abbrev TGr:TypeId:=134
abbrev TWd:TypeId:=285
abbrev TLn:TypeId:=283
abbrev TRu:TypeId:=210
abbrev TPa:TypeId:=213
abbrev TS:TypeId:=9
def Ty(S:Nat→Prop)(w:World)(X:TypeId):Prop:=∀g,S g→∃cs,w.heap[g]? =some (.cells cs X (0,0))
def TyM(S:Nat→Prop)(w:World):Prop:=∀g,S g→∃es c,w.heap[g]? =some (.map es c)
section
variable {S:Nat→Prop} {w w':World} {X T:TypeId}
theorem Qw{g:Nat}{cs:Array Value}{f:Nat×Nat}(h:w.heap[g]? =some (.cells cs T f))(hk:Kp S w w')(hS:Ty S w X)(hX:X≠T):w'.heap[g]? =some (.cells cs T f):=
 hk.blk h (fun e=>by obtain⟨c,h1⟩:=hS g e;exact Qn h1 h hX)
theorem Yv{g:Nat}{cs:Array Value}{f:Nat×Nat}(h:w.heap[g]? =some (.cells cs T f))(hk:Kp S w w')(hS:TyM S w):w'.heap[g]? =some (.cells cs T f):=
 hk.blk h (fun e=>by obtain⟨a,b,h1⟩:=hS g e;rw[h1] at h;injection h with h;cases h)
theorem QH{B k n:Nat}{v:Value}{cs:List Value}(h:w.ownsRow B T k v n cs){g:Nat}(hg:v.ownBlock=some g):∃cur,w.heap[g]? =some (.cells cur T (0,0)):=by
 rcases h.2 with⟨h1,_⟩|⟨g',cap,cur,h1,_,h3,_⟩
 ·rw[h1] at hg;cases hg
 ·have e:g'=g:=by rw[h1] at hg;simpa[Value.ownBlock] using hg
  subst e;exact⟨cur,h3⟩
theorem QC{B k n:Nat}{v:Value}{cs:List Value}(h:w.ownsRow B T k v n cs)(hk:Kp S w w')(hS:∀g,v.ownBlock=some g→¬S g):w'.ownsRow B T k v n cs:=by
 refine⟨h.1,?_⟩;rcases h.2 with h1|⟨g,cap,cur,h1,h2,h3,h4⟩
 ·exact .inl h1
 ·exact .inr ⟨g,cap,cur,h1,h2,hk.blk h3 (hS g (by rw[h1];try rfl)),h4⟩
theorem Ql{B k n:Nat}{v:Value}{cs:List Value}(h:w.ownsRow B T k v n cs)(hk:Kp S w w')(hS:Ty S w X)(hX:X≠T):w'.ownsRow B T k v n cs:=
 QC h hk (fun g hg e=>by obtain⟨c1,h1⟩:=hS g e;obtain⟨c2,h2⟩:=QH h hg;exact Qn h1 h2 hX)
theorem Qy{B k n:Nat}{v:Value}{cs:List Value}(h:w.ownsRow B T k v n cs)(hk:Kp S w w')(hS:TyM S w):w'.ownsRow B T k v n cs:=
 QC h hk (fun g hg e=>by obtain⟨a,b,h1⟩:=hS g e;obtain⟨c2,h2⟩:=QH h hg;rw[h1] at h2;injection h2 with h2;cases h2)
theorem Qs{k:TypeId}{b:Nat}{m:KV}(h:MapA w k b m)(hk:Kp S w w')(hS:Ty S w X):MapA w' k b m:=
 h.kp hk (fun e=>by obtain⟨c,h1⟩:=hS b e;obtain⟨es,cl,h2,_⟩:=h;rw[h1] at h2;injection h2 with h2;cases h2)
theorem QL{B k n:Nat}{v:Value}{cs:List Value}(h:w.ownsRow B T k v n cs):Ty (fun g=>some g=v.ownBlock) w T:=fun _ e=>QH h e.symm
theorem QK{p:Nat}{cs:Array Value}(h:w.heap[p]? =some (.cells cs T (0,0))):Ty (fun k=>k=p) w T:=fun g e=>by subst e;exact⟨_,h⟩
theorem Zc{k:TypeId}{b:Nat}{m:KV}(h:MapA w k b m):TyM (fun i=>i=b) w:=fun g e=>by subst e;obtain⟨es,cl,h1,_⟩:=h;exact⟨_,_,h1⟩
end
abbrev OwnT(w:World)(B:Nat)(v:Value)(ss:List ByteArray):Prop:=w.ownsRow B TS 1 v ss.length (ss.map Value.string)
theorem OwnT.look{w:World}{B:Nat}{v:Value}{ss:List ByteArray}(h:OwnT w B v ss):∃a c,v= .slice a ss.length c∧ss.length≤c∧c≤maxLen∧(ss≠[]→∃g,a=some ⟨g,0,none⟩∧B≤g∧g<w.heap.size∧∀i (hi:i<ss.length),w.cell? ⟨g,i,none⟩=some (.string ss[i])):=by
 rcases h.2 with⟨h1,h2⟩|⟨g,cap,cur,h1,h2,h3,h4,h5,h6,h7⟩
 ·exact⟨none,0,by rw[h1,h2],by omega,by simp[maxLen],fun hne=>(hne (by simpa using h2)).elim⟩
 ·refine⟨_,cap,h1,h4,h5,fun _=>⟨g,rfl,h2,Qj h3,fun i hi=> ?_⟩⟩;rw[Qa h3];have:(cur.toList.take (ss.length*1))[i]? =(ss.map Value.string)[i]? :=by rw[h7]
  rw[List.getElem?_take,if_pos (by omega)] at this;simpa[hi] using this
theorem info_str:(Tryz.prog.info? TS).map (fun i=>(i.zero,i.size,i.bytes))=some (some (.string ByteArray.empty),1,16):=by kernel_rfl
def wdL(x:GW):List Value:=[.string x.lit,.string x.name,.int .i64 x.level,.bool x.sort]
def lnL(x:GL)(v:Value):List Value:=[.int .i64 x.number,.string x.sort,.string x.cons,.int .i64 x.level,v,.bool x.round]
structure RA where
 vl:Value
 vc:Value
 vs:Value
 vr:Value
 bb:Value
 sc:Value
 bn:Nat
 bc:Nat
 br:Nat
 vn:Value
 vws:List Value
def rdC(A:RA):Array Value:= #[A.vl,A.vc,A.vs,A.vr,A.bb,A.sc,.map (some A.bn),.map (some A.bc),.map (some A.br),A.vn]
def mbM(ns:List ByteArray):KV:=ns.map (fun s=>(Value.string s,Value.bool true))
structure RdAt (w:World) (B p:Nat) (R:RS) (A:RA):Prop where
 blk:w.heap[p]? =some (.cells (rdC A) TGr (0,0))
 lits:OwnT w B A.vl R.lits
 cls:OwnK w B TCl 3 A.vc (R.cls.map clL)
 sorts:OwnT w B A.vs R.sorts
 names:MapA w TS A.bn (mbM R.names)
 cons:MapA w TS A.bc (mbM R.cons)
 rounds:MapA w TS A.br (mbM R.rounds)
 lines:OwnK w B TLn 6 A.vn (List.zipWith lnL R.lines A.vws)
 wl:A.vws.length=R.lines.length
 words:∀i (h:i<A.vws.length) (h':i<R.lines.length),OwnK w B TWd 4 A.vws[i] (R.lines[i].words.map wdL)
 ne1:A.bn≠A.bc∧A.bn≠A.br∧A.bc≠A.br
 ne2:∀g,A.vl.ownBlock=some g→A.vs.ownBlock≠some g
 pB:B≤p∧B≤A.bn∧B≤A.bc∧B≤A.br
section
variable {w w' w1:World} {B p:Nat} {R:RS} {A:RA}
theorem RdAt.kn(h:RdAt w B p R A)(hk:Kn w w'):RdAt w' B p R A:=
 ⟨hk.blk h.blk (fun x=>x),QC h.lits hk (fun _ _ x=>x),h.cls.kn hk,QC h.sorts hk (fun _ _ x=>x),h.names.kn hk,h.cons.kn hk,h.rounds.kn hk,h.lines.kn hk,h.wl,fun i a b=>(h.words i a b).kn hk,h.ne1,h.ne2,h.pB⟩
theorem RdAt.lt(h:RdAt w B p R A):p<w.heap.size:=Qj h.blk
theorem RdAt.putName(h:RdAt w B p R A){s:ByteArray}(hm:MapA w' TS A.bn (mbM R.names++[(.string s,.bool true)]))(hk:K1 A.bn w w'):RdAt w' B p {R with names:=R.names++[s]} A:=by
 have hS:=Zc h.names;refine⟨Yv h.blk hk hS,Qy h.lits hk hS,Qy h.cls hk hS,Qy h.sorts hk hS,?_,h.cons.kp hk (fun e=>h.ne1.1 e.symm),h.rounds.kp hk (fun e=>h.ne1.2.1 e.symm),Qy h.lines hk hS,h.wl,fun i a b=>Qy (h.words i a b) hk hS,h.ne1,h.ne2,h.pB⟩;simpa[mbM] using hm
theorem RdAt.putCons(h:RdAt w B p R A){s:ByteArray}(hm:MapA w' TS A.bc (mbM R.cons++[(.string s,.bool true)]))(hk:K1 A.bc w w'):RdAt w' B p {R with cons:=R.cons++[s]} A:=by
 have hS:=Zc h.cons;refine⟨Yv h.blk hk hS,Qy h.lits hk hS,Qy h.cls hk hS,Qy h.sorts hk hS,h.names.kp hk (fun e=>h.ne1.1 e),?_,h.rounds.kp hk (fun e=>h.ne1.2.2 e.symm),Qy h.lines hk hS,h.wl,fun i a b=>Qy (h.words i a b) hk hS,h.ne1,h.ne2,h.pB⟩;simpa[mbM] using hm
theorem RdAt.putRound(h:RdAt w B p R A){s:ByteArray}(hm:MapA w' TS A.br (mbM R.rounds++[(.string s,.bool true)]))(hk:K1 A.br w w'):RdAt w' B p {R with rounds:=R.rounds++[s]} A:=by
 have hS:=Zc h.rounds;refine⟨Yv h.blk hk hS,Qy h.lits hk hS,Qy h.cls hk hS,Qy h.sorts hk hS,h.names.kp hk (fun e=>h.ne1.2.1 e),h.cons.kp hk (fun e=>h.ne1.2.2 e),?_,Qy h.lines hk hS,h.wl,fun i a b=>Qy (h.words i a b) hk hS,h.ne1,h.ne2,h.pB⟩;simpa[mbM] using hm
theorem RdAt.putLit(h:RdAt w B p R A){s:ByteArray}{v1:Value}(hr:w1.ownsRow B TS 1 v1 (R.lits.length+1) (R.lits.map Value.string++[.string s]))(hk:Kp (fun k=>some k=A.vl.ownBlock) w w1)(hn:∀g,v1.ownBlock=some g→A.vs.ownBlock≠some g):
  RdAt (w1.setCell ⟨p,0,none⟩ v1) B p {R with lits:=R.lits++[s]} {A with vl:=v1} :=by
 have hS:=QL h.lits;have hb:=Qw h.blk hk hS (by decide);have hk1:K1 p w1 (w1.setCell ⟨p,0,none⟩ v1):=Qg _ _;have hS1:=QK hb;refine⟨by have:=Qk hb 0 v1;simpa[rdC] using this,?_,Ql (Ql h.cls hk hS (by decide)) hk1 hS1 (by decide),Ql (QC h.sorts hk (fun g hg e=>h.ne2 g e.symm hg)) hk1 hS1 (by decide),
  Qs (Qs h.names hk hS) hk1 hS1,Qs (Qs h.cons hk hS) hk1 hS1,Qs (Qs h.rounds hk hS) hk1 hS1,Ql (Ql h.lines hk hS (by decide)) hk1 hS1 (by decide),h.wl,fun i a b=>Ql (Ql (h.words i a b) hk hS (by decide)) hk1 hS1 (by decide),h.ne1,hn,h.pB⟩
 have:=Ql hr hk1 hS1 (by decide);simpa[OwnT] using this
theorem RdAt.putSort(h:RdAt w B p R A){s:ByteArray}{v1:Value}(hr:w1.ownsRow B TS 1 v1 (R.sorts.length+1) (R.sorts.map Value.string++[.string s]))(hk:Kp (fun k=>some k=A.vs.ownBlock) w w1)(hn:∀g,A.vl.ownBlock=some g→v1.ownBlock≠some g):
  RdAt (w1.setCell ⟨p,2,none⟩ v1) B p {R with sorts:=R.sorts++[s]} {A with vs:=v1} :=by
 have hS:=QL h.sorts;have hb:=Qw h.blk hk hS (by decide);have hk1:K1 p w1 (w1.setCell ⟨p,2,none⟩ v1):=Qg _ _;have hS1:=QK hb;refine⟨by have:=Qk hb 2 v1;simpa[rdC] using this,Ql (QC h.lits hk (fun g hg e=>h.ne2 g hg e.symm)) hk1 hS1 (by decide),Ql (Ql h.cls hk hS (by decide)) hk1 hS1 (by decide),?_,
  Qs (Qs h.names hk hS) hk1 hS1,Qs (Qs h.cons hk hS) hk1 hS1,Qs (Qs h.rounds hk hS) hk1 hS1,Ql (Ql h.lines hk hS (by decide)) hk1 hS1 (by decide),h.wl,fun i a b=>Ql (Ql (h.words i a b) hk hS (by decide)) hk1 hS1 (by decide),h.ne1,hn,h.pB⟩
 have:=Ql hr hk1 hS1 (by decide);simpa[OwnT] using this
theorem RdAt.putCls(h:RdAt w B p R A){c:GC}{v1:Value}(hr:OwnK w1 B TCl 3 v1 (R.cls.map clL++[clL c]))(hk:Kp (fun k=>some k=A.vc.ownBlock) w w1):
  RdAt (w1.setCell ⟨p,1,none⟩ v1) B p {R with cls:=R.cls++[c]} {A with vc:=v1} :=by
 have hS:=QL h.cls;have hb:=Qw h.blk hk hS (by decide);have hk1:K1 p w1 (w1.setCell ⟨p,1,none⟩ v1):=Qg _ _;have hS1:=QK hb;refine⟨by have:=Qk hb 1 v1;simpa[rdC] using this,Ql (Ql h.lits hk hS (by decide)) hk1 hS1 (by decide),?_,Ql (Ql h.sorts hk hS (by decide)) hk1 hS1 (by decide),
  Qs (Qs h.names hk hS) hk1 hS1,Qs (Qs h.cons hk hS) hk1 hS1,Qs (Qs h.rounds hk hS) hk1 hS1,Ql (Ql h.lines hk hS (by decide)) hk1 hS1 (by decide),h.wl,fun i a b=>Ql (Ql (h.words i a b) hk hS (by decide)) hk1 hS1 (by decide),h.ne1,h.ne2,h.pB⟩
 have:=Ql hr hk1 hS1 (by decide);rw[List.map_append];exact this
theorem RdAt.putLine(h:RdAt w B p R A){x:GL}{vw v1:Value}(hw:OwnK w B TWd 4 vw (x.words.map wdL))(hr:OwnK w1 B TLn 6 v1 (List.zipWith lnL R.lines A.vws++[lnL x vw]))(hk:Kp (fun k=>some k=A.vn.ownBlock) w w1):
  RdAt (w1.setCell ⟨p,9,none⟩ v1) B p {R with lines:=R.lines++[x]} {A with vn:=v1,vws:=A.vws++[vw]} :=by
 have hS:=QL h.lines;have hb:=Qw h.blk hk hS (by decide);have hk1:K1 p w1 (w1.setCell ⟨p,9,none⟩ v1):=Qg _ _;have hS1:=QK hb;refine⟨by have:=Qk hb 9 v1;simpa[rdC] using this,Ql (Ql h.lits hk hS (by decide)) hk1 hS1 (by decide),Ql (Ql h.cls hk hS (by decide)) hk1 hS1 (by decide),Ql (Ql h.sorts hk hS (by decide)) hk1 hS1 (by decide),
  Qs (Qs h.names hk hS) hk1 hS1,Qs (Qs h.cons hk hS) hk1 hS1,Qs (Qs h.rounds hk hS) hk1 hS1,?_,by simp[h.wl],fun i a b=> ?_,h.ne1,h.ne2,h.pB⟩
 ·have:=Ql hr hk1 hS1 (by decide);have e:List.zipWith lnL (R.lines++[x]) (A.vws++[vw])=List.zipWith lnL R.lines A.vws++[lnL x vw]:=by rw[List.zipWith_append h.wl.symm];try rfl
  rw[e];exact this
 ·have hwl:=h.wl;dsimp only at a b⊢;by_cases hi:i<A.vws.length
  ·have:=Ql (Ql (h.words i hi (by omega)) hk hS (by decide)) hk1 hS1 (by decide);rw[List.getElem_append_left (show i<A.vws.length from hi)];simp only[List.getElem_append_left (show i<R.lines.length by omega)];exact this
  ·have ei:i=A.vws.length:=by simp at a;omega
   subst ei;have:=Ql (Ql hw hk hS (by decide)) hk1 hS1 (by decide);rw[List.getElem_append_right (Nat.le_refl _)];simp only[List.getElem_append_right (show R.lines.length≤A.vws.length by omega),Nat.sub_self,List.getElem_singleton,show A.vws.length-R.lines.length=0 by omega];exact this
end
end Go.Proofs.YtiehgcfckhepaaaGreatDoor
namespace Go.Proofs.YtiehgcfckhepaaaGreatDoor
open Go.RowKit
theorem trimQ_le(s:ByteArray):(trimQ s).size≤s.size:=by
 show(Lib.trimPrefix s.data.toList quoteB.data.toList).toArray.size≤s.data.size;unfold Lib.trimPrefix;split
 ·simp
 ·simp
theorem literal_c(s:ByteArray)(w:World)(hs:s.size≤1000000000):
  Calls Tryz.prog 158 #[.string s] w fun e w'=>e= .returned (.string (litF s))∧w=w':=by
 have HC:Hid (Calls Tryz.prog 209 #[.string s,.string ⟨#[39]⟩] w fun e w'=>e= .returned (.tuple #[.string (trimQ s),.bool (quoted s)])∧w'=w):=Qh (Tryz.strings_CutPrefix s ⟨#[39]⟩ w);have hF:Hid (litF s=if quoted s=true∧(trimQ s).size≤20 then trimQ s else emptyB):=Qh rfl;have htl:=trimQ_le s;obtain⟨t,ht⟩:∃t,t=trimQ s:=⟨_,rfl⟩;obtain⟨q,hq⟩:∃q,q=quoted s:=⟨_,rfl⟩;rw[←ht,←hq] at HC hF;rw[←ht] at htl;clear ht hq;cases q with
 |false=>
  have hF2:Hid (litF s=emptyB):=Qh (by rw[hF.out];simp);go_enter Tryz.func158,Tryz.ntmps158;go_wp2_with fail
  refine HC.out.mono ?_;rintro e w' ⟨rfl,rfl⟩;go_wp2_with fail
  go_ret;exact⟨by rw[hF2.out];try rfl,rfl⟩
 |true=>
  by_cases h20:t.size≤20
  ·have i20:¬(20:Int)<t.size:=by omega
   have hF2:Hid (litF s=t):=Qh (by rw[hF.out];simp[h20]);go_enter Tryz.func158,Tryz.ntmps158;go_wp2_with fail
   refine HC.out.mono ?_;rintro e w' ⟨rfl,rfl⟩;go_wp2_with fail
   go_ret;exact⟨by rw[hF2.out];try rfl,rfl⟩
  ·have i20:(20:Int)<t.size:=by omega
   have hF2:Hid (litF s=emptyB):=Qh (by rw[hF.out];simp[h20]);go_enter Tryz.func158,Tryz.ntmps158;go_wp2_with fail
   refine HC.out.mono ?_;rintro e w' ⟨rfl,rfl⟩;go_wp2_with fail
   go_ret;exact⟨by rw[hF2.out];try rfl,rfl⟩
def digV(o:Option Nat):Value:=match o with|some n=> .tuple #[.int .i64 n,.bool true]|none=> .tuple #[.int .i64 0,.bool false]
theorem gdigit_c(s:ByteArray)(w:World)(hs:s.size≤1000000000):
  Calls Tryz.prog 153 #[.string s] w fun e w'=>e= .returned (digV (digF s))∧w=w':=by
 by_cases h1:s.size=1
 ·have i1:((s.size:Int)==1)=true:=by simp[h1]
  have i0:(0:Int)<s.size:=by omega
  have hlt:0<s.size:=by omega
  have hE:=bt_in hlt;by_cases h2:48≤bt s 0
  ·have i2:¬((s[0].toNat:Nat):Int)<48:=by rw[hE] at h2;omega
   by_cases h3:bt s 0≤57
   ·have i3:¬(57:Int)<((s[0].toNat:Nat):Int):=by rw[hE] at h3;omega
    have hF:Hid (digV (digF s)= .tuple #[.int .i64 (((s[0].toNat:Nat):Int)-48),.bool true]):=Qh (by
     have:digF s=some (bt s 0-48):=by unfold digF;rw[if_pos ⟨h1,h2,h3⟩]
     rw[this,digV,hE];have:((s[0].toNat-48:Nat):Int)=((s[0].toNat:Nat):Int)-48:=by rw[hE] at h2;omega
     rw[this])
    have hb:s[0].toNat<256:=s[0].toNat_lt;rw[hE] at h2 h3;clear hE;go_enter Tryz.func153,Tryz.ntmps153;go_wp2_with fail
    go_ret2
    exact⟨by rw[hF.out];try rfl,rfl⟩
   ·have i3:(57:Int)<((s[0].toNat:Nat):Int):=by rw[hE] at h3;omega
    have hF:Hid (digV (digF s)= .tuple #[.int .i64 0,.bool false]):=Qh (by
     have:digF s=none:=by unfold digF;rw[if_neg (fun h=>h3 h.2.2)]
     rw[this,digV])
    clear hE;go_enter Tryz.func153,Tryz.ntmps153;go_wp2_with fail
    go_ret2
    exact⟨by rw[hF.out];try rfl,rfl⟩
  ·have i2:((s[0].toNat:Nat):Int)<48:=by rw[hE] at h2;omega
   have hF:Hid (digV (digF s)= .tuple #[.int .i64 0,.bool false]):=Qh (by
    have:digF s=none:=by unfold digF;rw[if_neg (fun h=>h2 h.2.1)]
    rw[this,digV])
   clear hE;go_enter Tryz.func153,Tryz.ntmps153;go_wp2_with fail
   go_ret2
   exact⟨by rw[hF.out];try rfl,rfl⟩
 ·have i1:((s.size:Int)==1)=false:=by rw[beq_eq_false_iff_ne];omega
  have hF:Hid (digV (digF s)= .tuple #[.int .i64 0,.bool false]):=Qh (by
   have:digF s=none:=by unfold digF;rw[if_neg (fun h=>h1 h.1)]
   rw[this,digV])
  go_enter Tryz.func153,Tryz.ntmps153;go_wp2_with fail
  go_ret2
  exact⟨by rw[hF.out];try rfl,rfl⟩
abbrev wdV(x:GW):Value:= .agg #[.string x.lit,.string x.name,.int .i64 x.level,.bool x.sort]
def PartPost(s:ByteArray)(w:World)(e:Ending)(w':World):Prop:=
 Kn w w'∧∃(y:GW) (ok:Bool),e= .returned (.tuple #[wdV y,.bool ok])∧match partF s with|some x=>ok=true∧y=x|none=>ok=false
def MaxLenAt(w:World):Prop:=∃m:Int,w.cell? ⟨0,0,none⟩=some (.int .i64 m)
theorem MaxLenAt.kn{w w':World}(h:MaxLenAt w)(hk:Kn w w'):MaxLenAt w':=by obtain⟨m,h⟩:=h;exact⟨m,Qc hk h⟩
theorem MaxLenAt.kp{S:Nat→Prop}{w w':World}(h:MaxLenAt w)(hk:Kp S w w')(hS:¬S 0):MaxLenAt w':=by obtain⟨m,h⟩:=h;exact⟨m,Qi hk h hS⟩
theorem cut_c(s sep:ByteArray)(w:World)(h:MaxLenAt w)(hs:s.size≤1000000000):
  Calls Tryz.prog 62 #[.string s,.string sep] w fun e w'=>e= .returned (.tuple #[.string (cutA s sep),.string (cutZ s sep),.bool (cutT s sep)])∧Kn w w':=by
 obtain⟨m,hm⟩:=h;refine(Tryz.strings_Cut s sep m w (by omega) hm).mono ?_;rintro e w' ⟨rfl,n,rfl⟩;exact⟨rfl,(Qb _ _).drewN n⟩
theorem cutA_le(s sep:ByteArray):(cutA s sep).size≤s.size:=by
 show(Lib.cut s.data.toList sep.data.toList).1.toArray.size≤s.data.size;unfold Lib.cut;split<;>simp
 exact Nat.min_le_right _ _
theorem cutZ_le(s sep:ByteArray):(cutZ s sep).size≤s.size:=by
 show(Lib.cut s.data.toList sep.data.toList).2.1.toArray.size≤s.data.size;unfold Lib.cut;split<;>simp
theorem isE_true{t:ByteArray}(h:t.size=0):t.toList.isEmpty=true:=by
 have:t.data.toList=[]:=by
  apply List.eq_nil_of_length_eq_zero;simpa using h
 rw[Lib.toList_data,this];try rfl
theorem Yx{t:ByteArray}(h:¬t.size=0):t.toList.isEmpty=false:=by
 cases h1:t.toList.isEmpty with
 |false=>rfl
 |true=>exact(h (by
   rw[Lib.toList_data] at h1;have h2:=List.isEmpty_iff.1 h1;show t.data.size=0;rw[←Array.length_toList,h2];try rfl)).elim
theorem gpart_c(s:ByteArray)(w:World)(hm:MaxLenAt w)(hs:s.size≤1000000):
  Calls Tryz.prog 155 #[.string s] w (PartPost s w):=by
 have HP:Hid (∀W,Calls Tryz.prog 207 #[.string s,.string ⟨#[39]⟩] W fun e w'=>e= .returned (.bool (quoted s))∧w'=W):=Qh (fun W=>Tryz.strings_HasPrefix s ⟨#[39]⟩ W);have HL:=Qh (fun W=>literal_c s W (by omega));have HM:=Qh hm;cases hq:quoted s with
 |true=>
  rw[hq] at HP;obtain⟨t,ht⟩:∃t,t=litF s:=⟨_,rfl⟩;have hF:Hid (partF s=if t.size=0 then none else some (YR t)):=Qh (by unfold partF;rw[if_pos hq,←ht]);rw[←ht] at HL;clear hm hq ht;by_cases h0:t.size=0
  ·have he:=isE_true h0;have hF2:Hid (partF s=none):=Qh (by rw[hF.out];simp[h0]);clear hF h0;go_enter Tryz.func155,Tryz.ntmps155;go_wp2_with fail
   refine(HP.out _).mono ?_;rintro e w' ⟨rfl,rfl⟩;go_wp2_with fail
   refine(HL.out _).mono ?_;rintro e w1 ⟨rfl,rfl⟩;go_wp2_with fail
   go_region
   go_wp2_with fail
   (try simp only[Exit.inBlock,Exit.then])
   refine bodyPost_ret (v:= .tuple #[wdV (YR t),.bool false]) (by rw[results_cell_tmp rfl];go_simp;first|rfl|exact⟨rfl,rfl,rfl,rfl⟩) rfl ⟨?_,YR t,false,rfl,?_⟩
   ·(repeat' (first|exact Qb _ _|refine Kp.drew ?_|refine Kp.drewN ?_ _|refine Kp.alloc ?_ _|refine Kp.setCell ?_ (fun hp=>by simp at hp;omega) _))
   ·rw[hF2.out]<;>trivial
  ·have he:=Yx h0;have hF2:Hid (partF s=some (YR t)):=Qh (by rw[hF.out];simp[h0]);clear hF h0;go_enter Tryz.func155,Tryz.ntmps155;go_wp2_with fail
   refine(HP.out _).mono ?_;rintro e w' ⟨rfl,rfl⟩;go_wp2_with fail
   refine(HL.out _).mono ?_;rintro e w1 ⟨rfl,rfl⟩;go_wp2_with fail
   go_region
   go_wp2_with fail
   (try simp only[Exit.inBlock,Exit.then])
   refine bodyPost_ret (v:= .tuple #[wdV (YR t),.bool true]) (by rw[results_cell_tmp rfl];go_simp;first|rfl|exact⟨rfl,rfl,rfl,rfl⟩) rfl ⟨?_,YR t,true,rfl,?_⟩
   ·(repeat' (first|exact Qb _ _|refine Kp.drew ?_|refine Kp.drewN ?_ _|refine Kp.alloc ?_ _|refine Kp.setCell ?_ (fun hp=>by simp at hp;omega) _))
   ·rw[hF2.out]<;>exact⟨rfl,rfl⟩
 |false=>
  rw[hq] at HP;have HC:=Qh (fun W (h:MaxLenAt W)=>cut_c s ⟨#[58]⟩ W h (by omega));have hca:=cutA_le s ⟨#[58]⟩;have hcz:=cutZ_le s ⟨#[58]⟩;have hF:Hid (partF s=if cutT s ⟨#[58]⟩=true then(match digF (cutZ s ⟨#[58]⟩) with|some n=>if gnOk (cutA s ⟨#[58]⟩)=true then some ⟨emptyB,cutA s ⟨#[58]⟩,n,true⟩ else none|none=>none) else if gnOk (cutA s ⟨#[58]⟩)=true then some ⟨emptyB,cutA s ⟨#[58]⟩,0,false⟩ else none):=Qh (by unfold partF;rw[if_neg (by rw[hq];simp)];rfl);obtain⟨a,ha⟩:∃a,a=cutA s ⟨#[58]⟩:=⟨_,rfl⟩;obtain⟨z,hz⟩:∃z,z=cutZ s ⟨#[58]⟩:=⟨_,rfl⟩;obtain⟨t,ht⟩:∃t,t=cutT s ⟨#[58]⟩:=⟨_,rfl⟩;rw[←ha,←hz,←ht] at hF HC;rw[←ha] at hca;rw[←hz] at hcz;have HD:=Qh (fun W=>gdigit_c z W (by omega));have HN:=Qh (fun W=>gNamed_c a W (by omega));have hm1:=hm.kn ((Qb _ w).alloc (.cells #[.string ⟨#[]⟩,.string ⟨#[]⟩,.int .i64 0,.bool false] TWd));have HM1:=Qh hm1;clear hm hm1 hq ha hz ht HL;obtain⟨o,ho⟩:∃o,o=digF z:=⟨_,rfl⟩;obtain⟨g,hg⟩:∃g,g=gnOk a:=⟨_,rfl⟩;rw[←ho,←hg] at hF;rw[←ho] at HD;rw[←hg] at HN;clear ho hg;have hF2:Hid (partF s=if((o.isSome|| !t)&&g)=true then some ⟨emptyB,a,if t=true then o.getD 0 else 0,t⟩ else none):=Qh (by rw[hF.out];cases t<;>cases o<;>cases g<;>rfl)
  obtain⟨y,hy⟩:∃y:GW,y=⟨emptyB,a,if t=true then o.getD 0 else 0,t⟩:=⟨_,rfl⟩;obtain⟨ok,hok⟩:∃b,b=((o.isSome|| !t)&&g):=⟨_,rfl⟩;rw[←hy,←hok] at hF2;clear hF;cases t<;>cases o<;>cases g
  all_goals
   go_enter Tryz.func155,Tryz.ntmps155;go_wp2_with fail
   refine(HP.out _).mono ?_;rintro e w' ⟨rfl,rfl⟩;go_wp2_with fail
   refine(HC.out _ HM1.out).mono ?_;rintro e w1 ⟨rfl,hk1⟩;go_wp2_with fail
   refine(HD.out _).mono ?_;rintro e w2 ⟨rfl,rfl⟩;unfold digV;have hb2:w1.heap[w.heap.size]? =some (.cells #[.string ⟨#[]⟩,.string ⟨#[]⟩,.int .i64 0,.bool false] TWd (0,0)):=hk1.blk (Qf _ _) (fun x=>x);have x0:w1.cell? ⟨w.heap.size,0,none⟩=some (.string ⟨#[]⟩):=by rw[Qa hb2];try rfl
   have x1:w1.cell? ⟨w.heap.size,1,none⟩=some (.string ⟨#[]⟩):=by rw[Qa hb2];try rfl
   have x2:w1.cell? ⟨w.heap.size,2,none⟩=some (.int .i64 0):=by rw[Qa hb2];try rfl
   have x3:w1.cell? ⟨w.heap.size,3,none⟩=some (.bool false):=by rw[Qa hb2];try rfl
   have f0:=Qd hb2 0;have f1:=Qd hb2 1;have f2:=Qd hb2 2;have f3:=Qd hb2 3;have HY:=Qh (And.intro hy hok);clear hy hok;go_wp2_with (first|(go_at_call 152;go_must (refine(HN.out _).mono ?_;rintro e w3 ⟨rfl,rfl⟩)))
   (try simp only[Exit.inBlock,Exit.then])
   refine bodyPost_ret (v:= .tuple #[wdV y,.bool ok]) (by rw[HY.out.1,HY.out.2,results_cell_tmp rfl];go_simp;first|rfl|exact⟨rfl,rfl,rfl,rfl⟩) rfl ⟨?_,y,ok,rfl,?_⟩
   ·have hk0:Kn w w1:=((Qb _ w).alloc _).trans hk1
    (repeat' (first|exact hk0|refine Kp.drew ?_|refine Kp.setCell ?_ (fun hp=>by simp at hp) _))
   ·rw[hF2.out,HY.out.2]<;>first|trivial|exact⟨rfl,rfl⟩
open Go.RowKit Go.Maps
structure RSok (R:RS):Prop where
 lits:R.lits.length≤40
 cls:R.cls.length≤40
 sorts:R.sorts.length≤40
 lines:R.lines.length≤120
 litz:∀s∈R.lits,s.size≤20
 clz:∀c∈R.cls,c.name.size≤20∧c.regex.size≤2000000
 words:∀x∈R.lines,x.words.length≤20∧x.number≤2000000∧x.level≤9
theorem gnOk_le{s:ByteArray}(h:gnOk s=true):s.size≤20∧s.size≠0:=by
 unfold gnOk nmOk at h;simp at h;exact⟨h.1.2.2,fun e=>h.1.2.1 (by
  cases s with|mk d=>simp only[ByteArray.size] at e;have:d= #[]:=Array.eq_empty_of_size_eq_zero e;subst this;rfl)⟩
abbrev TMsb:TypeId:=127
theorem zero_bool(w:World):(zeroValue 4).run Tryz.prog w= .ok (.bool false) w:=Tryz.zeroValue4 w
theorem mbM_mem{ns:List ByteArray}{p:Value×Value} :p∈mbM ns↔∃s∈ns,p=(.string s,.bool true):=by
 unfold mbM;rw[List.mem_map];exact⟨fun⟨s,h,e⟩=>⟨s,h,e.symm⟩,fun⟨s,h,e⟩=>⟨s,h,e.symm⟩⟩
theorem mbM_not{ns:List ByteArray}{x:ByteArray}(h:YP ns x=false):∀p∈mbM ns,p.1≠Value.string x:=by
 intro p hp e;obtain⟨s,hs,rfl⟩:=mbM_mem.1 hp;have:s=x:=by injection e
 subst this;exact hasS_not.1 h hs
theorem look_mb{w:World}{b:Nat}{ns:List ByteArray}(x:ByteArray)(hsz:x.size≤1000000)(hm:MapA w TS b (mbM ns)):(Instr.lookup TMsb (.map (some b)) (.string x) false).run Tryz.prog w= .ok (.bool (YP ns x)) w:=by
 obtain⟨l,hl⟩:=str_keyOf x hsz;cases hx:YP ns x with
 |false=>exact hm.look0 (string_keyed Tryz.underlying9) Tryz.underlying127 (zero_bool w) hl (mbM_not hx) false
 |true=>exact hm.look1 (string_keyed Tryz.underlying9) Tryz.underlying127 hl (mbM_mem.2 ⟨x,hasS_iff.1 hx,rfl⟩) false
theorem put_mb{w:World}{b:Nat}{ns:List ByteArray}(x:ByteArray)(hsz:x.size≤1000000)(hx:YP ns x=false)(hm:MapA w TS b (mbM ns)):∃w',(Instr.mapUpdate TMsb (.map (some b)) (.string x) (.bool true)).run Tryz.prog w= .ok () w'∧MapA w' TS b (mbM ns++[(.string x,.bool true)])∧K1 b w w':=by
 obtain⟨l,hl⟩:=str_keyOf x hsz;exact hm.put0 (string_keyed Tryz.underlying9) Tryz.underlying127 hl (mbM_not hx) _
section
variable {w:World} {B p:Nat} {R:RS} {A:RA}
theorem RdAt.cell(h:RdAt w B p R A)(i:Nat):w.cell? ⟨p,i,none⟩=(rdC A)[i]? :=Qa h.blk i
theorem RdAt.cells(h:RdAt w B p R A):w.cell? ⟨p,0,none⟩=some A.vl∧w.cell? ⟨p,1,none⟩=some A.vc∧w.cell? ⟨p,2,none⟩=some A.vs∧w.cell? ⟨p,3,none⟩=some A.vr∧w.cell? ⟨p,4,none⟩=some A.bb∧
  w.cell? ⟨p,5,none⟩=some A.sc∧w.cell? ⟨p,6,none⟩=some (.map (some A.bn))∧w.cell? ⟨p,7,none⟩=some (.map (some A.bc))∧w.cell? ⟨p,8,none⟩=some (.map (some A.br))∧w.cell? ⟨p,9,none⟩=some A.vn:=
 ⟨h.cell 0,h.cell 1,h.cell 2,h.cell 3,h.cell 4,h.cell 5,h.cell 6,h.cell 7,h.cell 8,h.cell 9⟩
theorem RdAt.fr(h:RdAt w B p R A)(i:Nat):w.frozen? ⟨p,i,none⟩=false:=Qd h.blk i
end
def NamePost(B p:Nat)(R:RS)(A:RA)(s:ByteArray)(w:World)(e:Ending)(w':World):Prop:=
 ∃n:Int,e= .returned (.int .i64 n)∧match R.name s with|some R'=>n=0∧RdAt w' B p R' A∧K1 A.bn w w'|none=>n≠0∧w'=w
theorem name_c{B p:Nat}{R:RS}{A:RA}{w:World}(s:ByteArray)(h:RdAt w B p R A)(hs:s.size≤2000000):
  Calls Tryz.prog 150 #[ptr p,.string s] w (NamePost B p R A s w):=by
 have HN:=Qh (gNamed_c s w (by omega));have hF:Hid (R.name s=if gnOk s=true∧YP R.names s=false then some {R with names:=R.names++[s]} else none):=Qh rfl;obtain⟨_,_,_,_,_,_,h6,_⟩:=h.cells;have H:=Qh h;cases hg:gnOk s with
 |false=>
  have hF2:Hid (R.name s=none):=Qh (by rw[hF.out,if_neg (by rw[hg];simp)]);rw[hg] at HN;clear h hF hg;go_enter Tryz.func150,Tryz.ntmps150;go_wp2_with fail
  refine HN.out.mono ?_;rintro e w' ⟨rfl,rfl⟩;go_wp2_with fail
  go_ret;refine⟨4,rfl,?_⟩;rw[hF2.out];exact⟨by decide,rfl⟩
 |true=>
  have hsz:=(gnOk_le hg).1;have hlk:=look_mb s (by omega) H.out.names;rw[hg] at HN;cases hh:YP R.names s with
  |true=>
   rw[hh] at hlk;have hF2:Hid (R.name s=none):=Qh (by rw[hF.out,if_neg (by rw[hh];simp)]);clear h hF hg hh;go_enter Tryz.func150,Tryz.ntmps150;go_wp2_with fail
   refine HN.out.mono ?_;rintro e w' ⟨rfl,rfl⟩;go_wp2_with fail
   go_ret;refine⟨9,rfl,?_⟩;rw[hF2.out];exact⟨by decide,rfl⟩
  |false=>
   rw[hh] at hlk;have hF2:Hid (R.name s=some {R with names:=R.names++[s]}):=Qh (by rw[hF.out,if_pos ⟨hg,hh⟩]);obtain⟨w1,hput,hm1,hk1⟩:=put_mb s (by omega) hh H.out.names;have HM:=Qh (And.intro hm1 hk1);clear h hF hg hh hm1 hk1;go_enter Tryz.func150,Tryz.ntmps150;go_wp2_with fail
   refine HN.out.mono ?_;rintro e w' ⟨rfl,rfl⟩;go_wp2_with fail
   go_ret;refine⟨0,rfl,?_⟩;rw[hF2.out];exact⟨rfl,H.out.putName HM.out.1 HM.out.2,HM.out.2⟩
theorem full_c{B p:Nat}{R:RS}{A:RA}{w:World}(h:RdAt w B p R A)(ok:RSok R):
  Calls Tryz.prog 151 #[ptr p] w fun e w'=>e= .returned (.bool R.full)∧Kn w w':=by
 obtain⟨a1,c1,hv1,_⟩:=h.cls.row (fun C hC=>by obtain⟨x,_,rfl⟩:=List.mem_map.1 hC;rfl);obtain⟨a0,c0,hv0,_⟩:=h.lits.look;rw[List.length_map] at hv1;obtain⟨h0,h1,_⟩:=h.cells;rw[hv0] at h0;rw[hv1] at h1;have hl:=ok.lits;have hc:=ok.cls;have hF:Hid (R.full=decide ((40:Int)≤(R.cls.length:Int)+R.lits.length)):=Qh (by unfold RS.full;rw[decide_eq_decide];omega);clear h ok hv0 hv1;go_enter Tryz.func151,Tryz.ntmps151;go_wp2_with fail
 go_quiet (fail)
 go_wp2_with fail
 go_ret;exact⟨by rw[hF.out];try rfl,(Qb _ _).drewN _⟩
def WL(w:World)(bl off:Nat)(l:List ByteArray):Prop:=∀i (h:i<l.length),w.cell? ⟨bl,off+i,none⟩=some (.string l[i])
theorem WL.kp{S:Nat→Prop}{w w':World}{bl off:Nat}{l:List ByteArray}(h:WL w bl off l)(hk:Kp S w w')(hS:¬S bl):WL w' bl off l:=fun i hi=>Qi hk (h i hi) hS
theorem WL.kn{w w':World}{bl off:Nat}{l:List ByteArray}(h:WL w bl off l)(hk:Kn w w'):WL w' bl off l:=h.kp hk (fun x=>x)
def Off(A:RA)(p bl:Nat):Prop:=bl≠p∧(∀g,A.vl.ownBlock=some g→g≠bl)∧(∀g,A.vs.ownBlock=some g→g≠bl)∧A.bn≠bl∧A.bc≠bl∧A.br≠bl
def ErrPost(B p:Nat)(A:RA)(o:Option RS)(w:World)(e:Ending)(w':World):Prop:=
 ∃n:Int,e= .returned (.int .i64 n)∧Kp (fun k=>B≤k) w w'∧match o with|some R'=>n=0∧RSok R'∧∃A',RdAt w' B p R' A'∧A'.vr=A.vr∧A'.sc=A.sc|none=>n≠0
theorem name_ok{R R':RS}{s:ByteArray}(ok:RSok R)(h:R.name s=some R'):RSok R'∧s.size≤20∧R'.lits=R.lits∧R'.cls=R.cls∧R'.sorts=R.sorts:=by
 unfold RS.name at h;split at h
 ·rename_i hh;injection h with h;subst h;exact⟨⟨ok.lits,ok.cls,ok.sorts,ok.lines,ok.litz,ok.clz,ok.words⟩,(gnOk_le hh.1).1,rfl,rfl,rfl⟩
 ·cases h
theorem flat1(ss:List ByteArray):(ss.map (fun s=>[Value.string s])).flatten=ss.map Value.string:=by
 induction ss with
 |nil=>rfl
 |cons a l ih=>rw[List.map_cons,List.flatten_cons,ih];try rfl
theorem ownT_k{w:World}{B:Nat}{v:Value}{ss:List ByteArray}(h:OwnT w B v ss):OwnK w B TS 1 v (ss.map (fun s=>[Value.string s])):=by
 unfold OwnK;rw[List.length_map,flat1];exact h
theorem ownT_of{w:World}{B:Nat}{v:Value}{ss:List ByteArray}{s:ByteArray}(h:OwnK w B TS 1 v (ss.map (fun s=>[Value.string s])++[[Value.string s]])):w.ownsRow B TS 1 v (ss.length+1) (ss.map Value.string++[.string s]):=by
 unfold OwnK at h;rw[List.flatten_append,flat1,List.length_append,List.length_map] at h;exact h
theorem sort_c{B p bl c:Nat}{R:RS}{A:RA}{w:World}(l:List ByteArray)(h:RdAt w B p R A)(ok:RSok R)(hl:WL w bl 1 l)(ho:Off A p bl)(hll:l.length≤2000000)(hsz:∀s∈l,s.size≤2000000):
  Calls Tryz.prog 108 #[ptr p,.slice (some ⟨bl,1,none⟩) l.length c] w (ErrPost B p A (R.sort_ l) w):=by
 by_cases h1:l.length=1
 ·have i1:((l.length:Int)==1)=true:=by simp[h1]
  obtain⟨a,rfl⟩:∃a,l=[a]:=by
   rcases l with _|⟨a,_|⟨b,l⟩⟩
   ·simp at h1
   ·exact⟨a,rfl⟩
   ·simp at h1
  have hF:Hid (R.sort_ [a]=match R.name a with|some R1=>if R1.sorts.length<40 then some {R1 with sorts:=R1.sorts++[a]} else none|none=>none):=Qh rfl;have ha:=hsz a (by simp);have hc0:=hl 0 (by simp);simp only[List.getElem_cons_zero,Nat.add_zero] at hc0;have HN:=Qh (name_c a h ha);have hbp:=h.pB;obtain⟨ie,hi,hz0,hz1,hz2⟩:=info_parts info_str;have HIE:=Qh (And.intro hi (And.intro hz0 (And.intro hz1 hz2)));have HOK:=Qh ok;have HO:=Qh ho;have H0:=Qh h;simp only[List.length_singleton] at*;clear h ok hl ho hll hsz hi hz0 hz1 hz2 h1 i1;go_enter Tryz.func108,Tryz.ntmps108;go_wp2_with fail
  refine HN.out.mono ?_;rintro e w1 ⟨n,rfl,hp⟩;cases hn:R.name a with
  |none=>
   rw[hn] at hp;dsimp only at hp;obtain⟨hn0,rfl⟩:=hp;have hn2:(n==0)=false:=by rw[beq_eq_false_iff_ne];exact hn0
   have hF2:Hid (R.sort_ [a]=none):=Qh (by rw[hF.out,hn]);have HN0:=Qh hn0;clear hF hn hn0;go_wp2_with fail
   go_ret;refine⟨n,rfl,Qb _ _,?_⟩;rw[hF2.out];exact HN0.out
  |some R1=>
   rw[hn] at hp;dsimp only at hp;obtain⟨rfl,hr1,hk1⟩:=hp;have hok1:=(name_ok HOK.out hn).1;have hasz:=(name_ok HOK.out hn).2.1;have hF2:Hid (R.sort_ [a]=if R1.sorts.length<40 then some {R1 with sorts:=R1.sorts++[a]} else none):=Qh (by rw[hF.out,hn]);have HR1:=Qh hr1;have HOK1:=Qh hok1;obtain⟨oa,oc,hv,_⟩:=hr1.sorts.look;obtain⟨_,_,q2,_⟩:=hr1.cells;have q2':=q2;rw[hv] at q2';have HV:=Qh hv;have hcl:=Qi hk1 hc0 (show¬bl=A.bn from fun e=>HO.out.2.2.2.1 e.symm);have hsl:=hok1.sorts;have KW:=hk1.mono (T:=fun k=>B≤k) (fun i hi e=>by omega);clear hF hn hr1 hok1 hk1 hc0 q2 hv HN;by_cases h40:R1.sorts.length<40
   ·have i40:¬(40:Int)≤R1.sorts.length:=by omega
    have hF3:Hid (R.sort_ [a]=some {R1 with sorts:=R1.sorts++[a]}):=Qh (by rw[hF2.out,if_pos h40]);clear hF2;go_wp2_with fail
    clear q2';refine rgn (fun w'=>w'.cell? ⟨p,2,none⟩=some (.slice oa R1.sorts.length oc)∧w'.cell? ⟨bl,1,none⟩=some (.string a)) (X:=[]) ⟨Qc ((Qb _ _).drew) ((Qa HR1.out.blk 2).trans (congrArg some HV.out)),Qc ((Qb _ _).drew) hcl⟩ (fun hX hHeld=> ?_);refine tw 0 24 ?_;refine tw 1 25 ?_;refine tw 2 26 ?_;refine tw 3 27 ?_;refine tw 4 28 ?_;refine tk 5 29 ?_;refine tw 6 30 ?_;refine tw 7 31 ?_;refine tk 8 32 ?_;refine ro 9 (fun K hK=> ?_);obtain⟨wd,hwd⟩:∃zz,zz=w1.drew:=⟨_,rfl⟩;have KN0:Kn w1 wd:=by rw[hwd];exact(Qb _ _).drew
    have KW0:=KW.trans (Kp.weak (S:=fun k=>B≤k) KN0);have RH0:=Qh (HR1.out.kn KN0);rw[←hwd] at hHeld⊢;clear hwd;go_simp;obtain⟨y1,hw1⟩:∃zz,zz=wd.alloc (.cells #[.string a] TS):=⟨_,rfl⟩;have hk1:Kn wd y1:=by rw[hw1];exact(Qb _ _).alloc _
    obtain⟨ge,hge⟩:∃zz,zz=wd.heap.size:=⟨_,rfl⟩;have GE:y1.heap[ge]? =some (.cells #[.string a] TS (0,0)):=by rw[hw1,hge];exact Qf _ _
    have RH1:=Qh (RH0.out.kn hk1);have KW1:=KW0.trans (Kp.weak hk1);have KN1:=KN0.trans hk1;rw[←hw1,←hge];refine hK.out _ _ (⟨Qc hk1 hHeld.1,Qc hk1 hHeld.2⟩) (fun hHeld=> ?_);clear hw1 hge hk1;clear hK K
    try simp only[PP]
    refine ro 10 (fun K hK=> ?_);have hownO:OwnK y1 B TS 1 (.slice oa R1.sorts.length oc) (R1.sorts.map (fun s=>[Value.string s])):=by have h1:=ownT_k RH1.out.sorts;rw[HV.out] at h1;exact h1
    refine Qq y1 (by rfl) _ _ 128 (by rfl) B TS ie (.string ByteArray.empty) 1 16 Tryz.underlying128 HIE.out.1 HIE.out.2.1 HIE.out.2.2.1 HIE.out.2.2.2 (by rfl) (by decide) (.slice oa R1.sorts.length oc) (R1.sorts.map (fun s=>[Value.string s])) (by rfl) hownO ge 1 (by rfl) #[.string a] TS (0,0) GE (by rfl) (by simp[Value.oneCell']) (by rw[List.length_map];simp only[maxLen];omega) (by rw[List.length_map];omega) (by have:=RH1.out.pB.1;have:=RH1.out.lt;omega) ?_;intro v1 y2 hown hka hat;have hke:Kp (fun k=>B≤k) y1 y2:=hka.mono (fun i hi e=>(hownO.lt i e.symm).1);have KX:=KW1.trans hke;obtain⟨av1,cv1,hv1,_⟩:=hown.row (k:=1) (fun D hD=>by simp only[List.mem_append,List.mem_map,List.mem_singleton] at hD;(first|(rcases hD with⟨y,_,rfl⟩|rfl<;>rfl)|(exact rfl)))
    obtain⟨nl1,hv1⟩:∃n,v1= .slice av1 n cv1:=⟨_,hv1⟩;have HV1:=Qh hv1;have RHP:=Qh (RH1.out.putSort (ownT_of hown) (by rw[HV.out];exact hka) (fun g hg e=>by rcases hat with h1|h1<;>rw[h1] at e;exact RH1.out.ne2 g hg (by rw[HV.out];exact e);injection e with e;subst e;have:=(RH1.out.lits.lt _ hg).2;omega))
    have hpb:y2.heap[p]? =some (.cells (rdC A) TGr (0,0)):=Qw RH1.out.blk hka (QL hownO) (by decide);have xp1:=Qd hpb 2;have xq1:y2.cell? ⟨p,2,none⟩=some (.slice oa R1.sorts.length oc):=by rw[Qa hpb];exact congrArg some HV.out
    refine hK.out _ _ (⟨xq1,Qi hka hHeld.2 (fun e=>HO.out.2.2.1 bl (by rw[HV.out];exact e.symm) rfl)⟩) (fun hHeld=> ?_);clear hown hka hat hv1 hke hownO;clear hK K
    try simp only[PP]
    refine tw 11 35 ?_;refine tw 12 36 ?_;refine tw 13 37 ?_;refine re 14 (fun K hK=> ?_);rw[HV1.out];go_simp;rw[←HV1.out];obtain⟨w9,hw9⟩:∃zz,zz=y2.setCell ⟨p,2,none⟩ v1:=⟨_,rfl⟩;have hk9:K1 p y2 w9:=by rw[hw9];exact Qg _ _
    rw[←hw9] at RHP⊢;have KX9:=KX.trans (hk9.mono (fun i hi e=>by have:=RHP.out.pB.1;omega));clear xp1 xq1 hpb hw9 hk9 KX hHeld;refine hK.out _ _ ?_;clear hK K;go_wp2_with fail
    go_ret;refine⟨0,rfl,KX9,?_⟩;rw[hF3.out];exact⟨rfl,⟨HOK1.out.lits,HOK1.out.cls,by simp;omega,HOK1.out.lines,HOK1.out.litz,HOK1.out.clz,HOK1.out.words⟩,_,RHP.out,rfl,rfl⟩
   ·have i40:(40:Int)≤R1.sorts.length:=by omega
    have hF3:Hid (R.sort_ [a]=none):=Qh (by rw[hF2.out,if_neg h40]);clear hF2;go_wp2_with fail
    go_ret;refine⟨3,rfl,KW,?_⟩;rw[hF3.out];exact(by decide:(3:Int)≠0)
 ·have i1:((l.length:Int)==1)=false:=by rw[beq_eq_false_iff_ne];omega
  have hF:Hid (R.sort_ l=none):=Qh (by
   rcases l with _|⟨a,_|⟨b,l⟩⟩
   ·rfl
   ·simp at h1
   ·rfl)
  go_enter Tryz.func108,Tryz.ntmps108;go_wp2_with fail
  go_ret;refine⟨4,rfl,Qb _ _,?_⟩;rw[hF.out];exact(by decide:(4:Int)≠0)
end Go.Proofs.YtiehgcfckhepaaaGreatDoor
