/-
  Texts of this claim, laid together: UVoid, INew, GParse, GEval, TEval, UEval, IEval, TAwake, UAwake, IAwake, INil, IArg, ICore, IAddN, IClosN, IGoN, INone. Conditions: none.
-/
import Derived.Test.YtiehgcfckhepaaaGreatDoorQAK
import Derived.Test.YtiehgcfckhepaaaGreatDoorQAL
import Derived.Test.YtiehgcfckhepaaaGreatDoorQAJ
import Derived.Test.YtiehgcfckhepaaaGreatDoorQAI
import Derived.OpenShut
import Derived.Deep.Slices
import Derived.Deep.Strs
import Derived.Lib.SmallJoins
import Derived.ChangeArms
set_option linter.unusedVariables false
set_option linter.unusedSimpArgs false
set_option maxRecDepth 100000
set_option maxHeartbeats 16000000
namespace Go.Proofs.YtiehgcfckhepaaaGreatDoor
open Go.RowKit Go.Maps
theorem zvoid_step(z:List Int)(k:Nat):(List.range (k+1)).filter (fun n=>z.getD n 0= -1)=if z.getD k 0= -1 then(List.range k).filter (fun n=>z.getD n 0= -1)++[k] else(List.range k).filter (fun n=>z.getD n 0= -1):=by
 rw[List.range_succ,List.filter_append];split<;>simp_all
theorem void_c{w:World}{B p st n gz gb cz cb:Nat}{l:List PR}{vl:Value}{vls:List Value}{z b:List Int}(h:UsAt w B p st n l vl vls z b gz gb cz cb)(hn:n≤1000000):
  Calls Tryz.prog 14 #[ptr p] w fun e w'=>∃v,e= .returned v∧OwnI w' w.heap.size v (voidF z)∧Kn w w':=by
 have q2:w.cell? ⟨p,2,none⟩=some (.slice (some ⟨gz,0,none⟩) n cz):=h.cell 2;have hpl:=h.lt;have H:=Qh h;have hzl:=h.zl;have HZL:=Qh hzl;obtain⟨i0,hi,hz0,hz1,hz2⟩:=info_parts info_int;have HI:=Qh (And.intro hi (And.intro hz0 (And.intro hz1 hz2)));clear h hi hz0 hz1 hz2 hzl;go_enter Tryz.func14,Tryz.ntmps14;go_wp2_with fail
 go_loopw [3,13] (fun s3 s13 wr=>∃(k:Nat) (v:Value),v=s3∧s13= .int .i64 k∧k≤n∧Hid (OwnI wr w.heap.size v ((List.range k).filter (fun n=>z.getD n 0= -1)))∧Kn w wr) (fun _ s13 _=>n-(intOf s13).toNat)
 case atStart=>exact⟨0,_,rfl,rfl,Nat.zero_le _,Qh (World.ownsRow_nil _ _ _ _),Qb _ _⟩
 case round=>
  obtain⟨k,v,rfl,rfl,hk,hov,hkn⟩:=hrel;by_cases hlt:k<n
  ·have hST:=zvoid_step z k;have hkw:=hkn.size;have hll:((List.range k).filter (fun n=>z.getD n 0= -1)).length≤k:=Nat.le_trans (List.length_filter_le _ _) (by rw[List.length_range];omega);have u3:=(zV_cell (H.out.kn hkn).rz (i:=k) (by rw[HZL.out];exact hlt)).1;obtain⟨x,hx⟩:∃x,x=z.getD k 0:=⟨_,rfl⟩;rw[←hx] at u3 hST;clear hx;by_cases hx:x= -1
   ·subst hx;rw[if_pos rfl] at hST;have HST:=Qh hST;clear hST;go_wp2_with (at_builtin;refine QG rfl (.tmp 20) (.tmp 22) rfl w.heap.size wr.heap.size v _ _ [k] rfl rfl (QC hov.out (Kp.alloc (S:=fun _=>False) (Qb _ _) _) (fun _ _ x=>x)) (OwnI.one _ _) (by rw[List.length_singleton];omega) (by rw[size_alloc'];omega) ?_;intro v' w' hro hk')
    go_roundw
    case rel=>exact⟨k+1,v',rfl,by go_num,by omega,Qh (by rw[HST.out];exact hro),(hkn.alloc _).trans' hk' (fun i hi e=>by have:=(hov.out.lt i e.symm).1;omega)⟩
    case measure=>simp[intOf];omega
   ·rw[if_neg hx] at hST;have HST:=Qh hST;clear hST;go_wp2_with fail
    go_roundw
    case rel=>exact⟨k+1,v,rfl,by go_num,by omega,Qh (by rw[HST.out];exact hov.out),hkn⟩
    case measure=>simp[intOf];omega
  ·obtain rfl:k=n:=by omega
   go_wp2_with fail
   go_ret;exact⟨v,rfl,by unfold voidF;rw[HZL.out];exact hov.out,hkn⟩
def ckn:List Nat→Int
 |[]=>0
 |n::_=>n
def cke:List Nat→Int
 |[]=>0
 |_::_=>11
def CkPost(rs:List GR)(n:Nat)(w:World)(e:Ending)(w':World):Prop:=∃(X:SX) (z b:List Int),IsSets rs n X∧Fin (rndF X.b.l) (rpU X.b.places.length,rpU X.b.places.length) (z,b)∧e= .returned (.tuple #[.int .i64 (ckn (voidF z)),.int .i64 (cke (voidF z))])∧Kn w w'
theorem check_c{pg:Nat}{R:RS}{rs:List GR}{br:List (Nat×Nat)}{w:World}(h:GrAt w pg R rs br)(ok:RulesOk rs):
  Calls Tryz.prog 13 #[ptr pg] w (CkPost rs (QD R).length w):=by
 have HN:=Qh (setsNew_c h ok);clear h ok;go_enter Tryz.func13,Tryz.ntmps13
 go_upto_if 26 with(first
  |(go_at_call 22;go_must (refine HN.out.mono ?_;rintro e w2 ⟨ps,X,rfl,⟨B,A,ge,gf,gw,hst,hbo,hfi⟩,hX,hk2⟩;have HNW:=Qh (unew_c hst hbo);have HX:=Qh hX;have HK:=Qh hk2;have HBO:=Qh hbo;clear HN hst hbo hfi hX hk2))
  |(go_at_call 9;go_must (refine HNW.out.mono ?_;rintro e w3 ⟨p,vl,vls,z,b,gz,gb,cz,cb,rfl,hu,hf,hk3⟩;have HV:=Qh (void_c hu (by have:=HBO.out.le;omega));have HF:=Qh hf;have HK3:=Qh (HK.out.trans hk3);clear HNW hu hf hk3))
  |(go_at_call 14;go_must (refine HV.out.mono ?_;rintro e w4 ⟨v,rfl,hov,hk4⟩;obtain⟨ap,cp,hvp,_,_,hgp⟩:=hov.look;subst hvp;have HG:=Qh hgp;have HK4:=Qh (HK3.out.trans hk4);obtain⟨L,hL⟩:∃L,L=voidF z:=⟨_,rfl⟩;rw[←hL] at HG⊢;have HL:=Qh hL;clear hov hk4 hgp hL HV)))
 cases L with
 |nil=>
  go_wp2_with fail
  go_ret2
  exact⟨X,z,b,HX.out,HF.out,by rw[←HL.out];try rfl,HK4.out⟩
 |cons n0 L=>
  obtain⟨g,rfl,_,_,hc⟩:=HG.out (by simp);have c0:w4.cell? ⟨g,0,none⟩=some (.int .i64 (n0:Nat)):=(hc 0 (by simp)).1;clear hc;rw[show decide (0<(n0::L).length)=true by simp];obtain⟨m,hm⟩:∃m,m=(n0::L).length:=⟨_,rfl⟩;have hm0:0<m:=by rw[hm];simp
  rw[←hm];clear hm;go_wp2_with fail
  go_ret2
  exact⟨X,z,b,HX.out,HF.out,by rw[←HL.out];try rfl,HK4.out⟩
def INewPost(rs:List GR)(n:Nat)(w:World)(e:Ending)(w':World):Prop:=∃(pm ps B:Nat) (X:SX) (vl:Value) (vls:List Value),e= .returned (.tuple #[ptr pm,.int .i64 0,.int .i64 0])∧MkAt w' pm ps X vl vls B∧IsSets rs n X∧Kn w w'
theorem ck_nil:ckn []=0∧cke []=0:=by decide
theorem inew_c{pg:Nat}{R:RS}{rs:List GR}{br:List (Nat×Nat)}{w:World}(h:GrAt w pg R rs br)(ok:RulesOk rs)
  (hv:∀(X:SX) (z b:List Int),IsSets rs (QD R).length X→Fin (rndF X.b.l) (rpU X.b.places.length,rpU X.b.places.length) (z,b)→voidF z=[]):
  Calls Tryz.prog 30 #[ptr pg] w (INewPost rs (QD R).length w):=by
 have HC:=Qh (check_c h ok);have HN:=Qh (fun(w':World) (hk:Kn w w')=>setsNew_c (h.kn hk) ok);have HV:=Qh hv;clear h ok hv;go_enter Tryz.func30,Tryz.ntmps30;go_wp2_with (first
  |(go_at_call 13;go_must ((with_reducible refine HC.out.mono ?_);rintro e w1 ⟨X0,z,b,hX0,hF,rfl,hk1⟩;rw[HV.out X0 z b hX0 hF,ck_nil.1,ck_nil.2];have HK1:=Qh hk1;have HN1:=Qh (HN.out w1 hk1);clear hX0 hF hk1))
  |(go_at_call 22;go_must ((with_reducible refine HN1.out.mono ?_);rintro e w2 ⟨ps,X,rfl,hS,hI,hk2⟩;have HS:=Qh hS;have HI:=Qh hI;have HK2:=Qh (HK1.out.trans hk2);have HP:Hid (Calls Tryz.prog 50 #[ptr ps] w2 (ProdsPost w2 X.b.l)):=Qh (by {obtain⟨B0,A,ge,gf,gw,hs,hok,_⟩:=hS;exact prods_c hs hok.ll (fun r hr=>by {have:=(hok.pr r hr).2.2.1;omega})});clear hS hI hk2))
  |(go_at_call 50;go_must ((with_reducible refine HP.out.mono ?_);rintro e w3 ⟨vl,vls,rfl,hpr,hk3⟩;obtain⟨av,cv,hv0,_⟩:=hpr.prod;obtain⟨np,hvl⟩:∃np,vl= .slice av np cv:=⟨_,hv0⟩;clear hv0;have HPR:=Qh hpr;have HK3:=Qh hk3;clear hpr hk3;subst hvl)))
 go_ret3
 have hkA:Kn w3 (w3.alloc (.cells #[ptr ps,.slice av np cv] TMk)):=(Qb _ _).alloc _;exact⟨w3.heap.size,ps,w2.heap.size,X,.slice av np cv,vls,rfl,⟨Qf _ _,HPR.out.kn hkA,(HS.out.kn HK3.out).kn hkA⟩,HI.out,(HK2.out.trans HK3.out).trans hkA⟩
def parseF(text:ByteArray):Option (RS×List GR×List (Nat×Nat)):=
 match RS.gather (text.size+1) 1 RS.none_ text with
 |none=>none
 |some R=>match finF R with|none=>none|some r=>some (R,r.1,r.2)
def ParsePost(text:ByteArray)(w:World)(e:Ending)(w':World):Prop:=
 Kn w w'∧match parseF text with
 |some r=>∃p:Nat,e= .returned (.tuple #[ptr p,.int .i64 0,.int .i64 0])∧GrAt w' p r.1 r.2.1 r.2.2
 |none=>∃k n:Int,n≠0∧e= .returned (.tuple #[.pointer none,.int .i64 k,.int .i64 n])
def strSz:Value→Nat
 | .string s=>s.size
 |_=>0
theorem cutZ_lt{s sep:ByteArray}(h:cutT s sep=true)(h1:1≤sep.size)(h0:¬s.size=0):(cutZ s sep).size<s.size:=by
 show(Lib.cut s.data.toList sep.data.toList).2.1.toArray.size<s.data.size;have h0':¬s.data.size=0:=h0;have h1':1≤sep.data.size:=h1;unfold cutT Lib.cut at h;unfold Lib.cut;split
 ·simp;omega
 ·rename_i hx;rw[if_neg hx] at h;cases h
theorem gather_end(f n:Nat)(R:RS)(s:ByteArray)(h:s.size=0):RS.gather (f+1) n R s=some R:=by
 unfold RS.gather;rw[if_pos h]
theorem gather_step(f n:Nat)(R:RS)(s:ByteArray)(h:¬s.size=0):RS.gather (f+1) n R s=if cutT s nlB=true then(match R.take n (cutA s nlB) with|some R1=>RS.gather f (n+1) R1 (cutZ s nlB)|none=>none) else none:=by
 rw[RS.gather,if_neg h];try rfl
theorem gparse_c(text:ByteArray)(w:World)(hm:MaxLenAt w)(hs:text.size≤1000000):
  Calls Tryz.prog 21 #[.string text] w (ParsePost text w):=by
 have hmm:= @run_makeMap Tryz.prog;have hno:¬(1048576:Int)<text.size:=by omega
 have hno':¬1048576<text.size:=by omega
 have HP:Hid (parseF text=match RS.gather (text.size+1) 1 RS.none_ text with
  |none=>none
  |some R=>match finF R with|none=>none|some r=>some (R,r.1,r.2)):=Qh rfl
 obtain⟨bn,hbn⟩:∃z,z=w.heap.size:=⟨_,rfl⟩;obtain⟨bc,hbc⟩:∃z,z=w.heap.size+1:=⟨_,rfl⟩;obtain⟨br,hbr⟩:∃z,z=w.heap.size+1+1:=⟨_,rfl⟩;obtain⟨p,hp⟩:∃z,z=w.heap.size+1+1+1:=⟨_,rfl⟩;obtain⟨W,hW⟩:∃z,z=(((w.alloc (.map #[] 0)).alloc (.map #[] 0)).alloc (.map #[] 0)).alloc (.cells #[.slice none 0 0,.slice none 0 0,.slice none 0 0,.slice none 0 0,.map none,.pointer none,.map (some bn),.map (some bc),.map (some br),.slice none 0 0] TGr):=⟨_,rfl⟩;have hkW:Kn w W:=by rw[hW];exact((((Qb _ _).alloc _).alloc _).alloc _).alloc _
 have e1:(w.alloc (.map #[] 0)).heap.size=bc:=by rw[size_alloc',hbc]
 have e2:((w.alloc (.map #[] 0)).alloc (.map #[] 0)).heap.size=br:=by rw[size_alloc',e1,hbr,hbc]
 have e3:(((w.alloc (.map #[] 0)).alloc (.map #[] 0)).alloc (.map #[] 0)).heap.size=p:=by rw[size_alloc',e2,hp,hbr]
 have hrd:RdAt W w.heap.size p RS.none_ ⟨.slice none 0 0,.slice none 0 0,.slice none 0 0,.slice none 0 0,.map none,.pointer none,bn,bc,br,.slice none 0 0,[]⟩:=by
  refine⟨?_,OwnK.nil (k:=1),OwnK.nil,OwnK.nil (k:=1),?_,?_,?_,OwnK.nil,rfl,(fun i a b=>by simp at a),⟨by show bn≠bc;omega,by show bn≠br;omega,by show bc≠br;omega⟩,(fun g hg=>by cases hg),⟨by omega,by show _≤bn;omega,by show _≤bc;omega,by show _≤br;omega⟩⟩
  ·have:=Qf (((w.alloc (.map #[] 0)).alloc (.map #[] 0)).alloc (.map #[] 0)) (.cells #[.slice none 0 0,.slice none 0 0,.slice none 0 0,.slice none 0 0,.map none,.pointer none,.map (some bn),.map (some bc),.map (some br),.slice none 0 0] TGr);rw[e3,←hW] at this;exact this
  ·have:=(((MapA.new w TS).kn ((Qb _ _).alloc (.map #[] 0))).kn ((Qb _ _).alloc (.map #[] 0))).kn ((Qb _ _).alloc (.cells #[.slice none 0 0,.slice none 0 0,.slice none 0 0,.slice none 0 0,.map none,.pointer none,.map (some bn),.map (some bc),.map (some br),.slice none 0 0] TGr));rw[←hW,←hbn] at this;exact this
  ·have:=(((MapA.new (w.alloc (.map #[] 0)) TS)).kn ((Qb _ _).alloc (.map #[] 0))).kn ((Qb _ _).alloc (.cells #[.slice none 0 0,.slice none 0 0,.slice none 0 0,.slice none 0 0,.map none,.pointer none,.map (some bn),.map (some bc),.map (some br),.slice none 0 0] TGr));rw[←hW,e1] at this;exact this
  ·have:=(MapA.new ((w.alloc (.map #[] 0)).alloc (.map #[] 0)) TS).kn ((Qb _ _).alloc (.cells #[.slice none 0 0,.slice none 0 0,.slice none 0 0,.slice none 0 0,.map none,.pointer none,.map (some bn),.map (some bc),.map (some br),.slice none 0 0] TGr));rw[←hW,e2] at this;exact this
 have HRD:=Qh hrd;have HOK:Hid (RSok RS.none_):=Qh ⟨by simp[RS.none_],by simp[RS.none_],by simp[RS.none_],by simp[RS.none_],fun s h=>by simp[RS.none_] at h,fun s h=>by simp[RS.none_] at h,fun s h=>by simp[RS.none_] at h⟩;have HW:=Qh hW;have HB:=Qh (And.intro hbn (And.intro hbc (And.intro hbr hp)));have HM:=Qh (fun w' (hk:Kn w w')=>hm.kn hk);clear hrd hW e1 e2 e3 hbn hbc hbr hp hm;go_enter Tryz.func21,Tryz.ntmps21;go_upto_region 4 with fail
 rw[←HB.out.2.2.2,←HB.out.2.2.1,←HB.out.2.1,←HB.out.1,←HW.out];go_wp2_with fail
 go_loopw [0,6] (fun s0 s6 wr=>∃(f n:Nat) (R:RS) (A:RA) (s:ByteArray),s0= .string s∧s6= .int .i64 n∧Hid (RS.gather f n R s=RS.gather (text.size+1) 1 RS.none_ text)∧s.size<f∧n+s.size≤text.size+1∧1≤n∧Hid (RdAt wr w.heap.size p R A)∧Hid (RSok R)∧Hid (A.vr= .slice none 0 0∧A.sc= .pointer none)∧Kn w wr) (fun s0 _ _=>strSz s0)
 case atStart=>exact⟨text.size+1,1,RS.none_,_,text,rfl,rfl,Qh rfl,by omega,by omega,Nat.le_refl _,HRD,HOK,Qh ⟨rfl,rfl⟩,hkW⟩
 case round=>
  clear HRD HOK;obtain⟨f,n,R,A,s,rfl,rfl,hga,hf,hn,hn1,hrd,hok,hnl,hkn⟩:=hrel;by_cases h0:s.size=0
  ·have he:=isE_true h0;obtain⟨f2,rfl⟩:∃f2,f=f2+1:=⟨f-1,by omega⟩;have HG:Hid (RS.gather (text.size+1) 1 RS.none_ text=some R):=Qh (by rw[←hga.out];exact gather_end _ _ _ _ h0);have HFI:=Qh (finish_c hrd.out hok.out hnl.out.1 hnl.out.2);clear h0 hga;go_wp2_with fail
   refine HFI.out.mono ?_;rintro e w2 ⟨k,n2,rfl,hk2,hmt⟩;have hkn2:=hkn.trans' hk2 (fun i hi e=>by omega);cases hfi:finF R with
   |none=>
    rw[hfi] at hmt;dsimp only at hmt;have hn2:(n2==0)=false:=by rw[beq_eq_false_iff_ne];exact hmt
    have hF:Hid (parseF text=none):=Qh (by rw[HP.out,HG.out];dsimp only;rw[hfi]);have HN:=Qh hmt;clear hfi hmt HP;go_wp2_with fail
    go_ret3
    refine⟨hkn2,?_⟩;rw[hF.out];exact⟨k,n2,HN.out,rfl⟩
   |some r=>
    rw[hfi] at hmt;dsimp only at hmt;obtain⟨rfl,rfl,hgr⟩:=hmt;have hF:Hid (parseF text=some (R,r.1,r.2)):=Qh (by rw[HP.out,HG.out];dsimp only;rw[hfi]);have HGR:=Qh hgr;clear hfi hgr HP;go_wp2_with fail
    go_ret3
    refine⟨hkn2,?_⟩;rw[hF.out];exact⟨p,rfl,HGR.out⟩
  ·have he:=Yx h0;obtain⟨f2,rfl⟩:∃f2,f=f2+1:=⟨f-1,by omega⟩;have hst:=gather_step f2 n R s h0;rw[hga.out] at hst;have HC:=Qh (cut_c s ⟨#[10]⟩ wr (HM.out wr hkn) (by omega));change _=if cutT s ⟨#[10]⟩=true then(match R.take n (cutA s ⟨#[10]⟩) with|some R1=>RS.gather f2 (n+1) R1 (cutZ s ⟨#[10]⟩)|none=>none) else none at hst;have hca:=cutA_le s ⟨#[10]⟩;cases ht:cutT s ⟨#[10]⟩ with
   |false=>
    rw[ht] at hst HC;have hF:Hid (parseF text=none):=Qh (by rw[HP.out,hst];try rfl);clear hst ht h0 hga HP;go_wp2_with fail
    refine HC.out.mono ?_;rintro e w2 ⟨rfl,hk2⟩;have hkn2:=hkn.trans hk2;go_wp2_with fail
    go_ret3
    refine⟨hkn2,?_⟩;rw[hF.out];exact⟨n,4,by decide,rfl⟩
   |true=>
    rw[ht] at hst HC;have hlt:=cutZ_lt ht (by decide) h0;obtain⟨la,hla⟩:∃la,la=cutA s ⟨#[10]⟩:=⟨_,rfl⟩;obtain⟨lz,hlz⟩:∃lz,lz=cutZ s ⟨#[10]⟩:=⟨_,rfl⟩;rw[←hla,←hlz] at hst HC;rw[←hla] at hca;rw[←hlz] at hlt;have HST:=Qh hst;clear hst ht h0 hga hla hlz;go_wp2_with fail
    refine HC.out.mono ?_;rintro e w2 ⟨rfl,hk2⟩;have hkn2:=hkn.trans hk2;have HTK:=Qh (take_c (num:=n) la (hrd.out.kn hk2) hok.out (HM.out w2 hkn2) (by omega) (by omega));clear hrd;go_wp2_with fail
    refine HTK.out.mono ?_;rintro e w3 ⟨n3,rfl,hk3,hmt⟩;have hkn3:=hkn2.trans' hk3 (fun i hi e=>by omega);cases htk:R.take n la with
    |none=>
     rw[htk] at hmt;dsimp only at hmt;have hn2:(n3==0)=false:=by rw[beq_eq_false_iff_ne];exact hmt
     have hF:Hid (parseF text=none):=Qh (by rw[HP.out,HST.out,htk];try rfl);have HN:=Qh hmt;clear htk hmt HP;go_wp2_with fail
     go_ret3
     refine⟨hkn3,?_⟩;rw[hF.out];exact⟨n,n3,HN.out,rfl⟩
    |some R2=>
     rw[htk] at hmt;dsimp only at hmt;obtain⟨rfl,hok2,A2,hrd2,hv2,hs2⟩:=hmt;have HGA:Hid (RS.gather f2 (n+1) R2 lz=RS.gather (text.size+1) 1 RS.none_ text):=Qh (by rw[HST.out,htk];try rfl);have HRD2:=Qh hrd2;have HOK2:=Qh hok2;have HNL2:=Qh (And.intro (hv2.trans hnl.out.1) (hs2.trans hnl.out.2));clear htk hrd2 hok2 hv2 hs2;go_wp2_with fail
     go_roundw
     case rel=>exact⟨f2,n+1,R2,A2,lz,rfl,by go_num,HGA,by omega,by omega,by omega,HRD2,HOK2,HNL2,hkn3⟩
     case measure=>simp[strSz];omega
end Go.Proofs.YtiehgcfckhepaaaGreatDoor
namespace Go.Proofs.YtiehgcfckhepaaaGreatDoor
instance:DecidableEq GC:=fun a b=>if h:a.name=b.name∧a.regex=b.regex∧a.layout=b.layout then isTrue (by cases a;cases b;obtain⟨h0,h1,h2⟩:=h;simp only at*;subst_vars;rfl) else isFalse (fun e=>h (by subst e;exact⟨rfl,rfl,rfl⟩))
instance:DecidableEq GW:=fun a b=>if h:a.lit=b.lit∧a.name=b.name∧a.level=b.level∧a.sort=b.sort then isTrue (by cases a;cases b;obtain⟨h0,h1,h2,h3⟩:=h;simp only at*;subst_vars;rfl) else isFalse (fun e=>h (by subst e;exact⟨rfl,rfl,rfl,rfl⟩))
instance:DecidableEq GL:=fun a b=>if h:a.number=b.number∧a.sort=b.sort∧a.cons=b.cons∧a.level=b.level∧a.words=b.words∧a.round=b.round then isTrue (by cases a;cases b;obtain⟨h0,h1,h2,h3,h4,h5⟩:=h;simp only at*;subst_vars;rfl) else isFalse (fun e=>h (by subst e;exact⟨rfl,rfl,rfl,rfl,rfl,rfl⟩))
instance:DecidableEq RS:=fun a b=>if h:a.lits=b.lits∧a.cls=b.cls∧a.sorts=b.sorts∧a.names=b.names∧a.cons=b.cons∧a.rounds=b.rounds∧a.lines=b.lines then isTrue (by cases a;cases b;obtain⟨h0,h1,h2,h3,h4,h5,h6⟩:=h;simp only at*;subst_vars;rfl) else isFalse (fun e=>h (by subst e;exact⟨rfl,rfl,rfl,rfl,rfl,rfl,rfl⟩))
instance:DecidableEq GP:=fun a b=>if h:a.cls=b.cls∧a.sort=b.sort∧a.level=b.level∧a.fixed=b.fixed then isTrue (by cases a;cases b;obtain⟨h0,h1,h2,h3⟩:=h;simp only at*;subst_vars;rfl) else isFalse (fun e=>h (by subst e;exact⟨rfl,rfl,rfl,rfl⟩))
instance:DecidableEq GR:=fun a b=>if h:a.sort=b.sort∧a.cons=b.cons∧a.level=b.level∧a.parts=b.parts then isTrue (by cases a;cases b;obtain⟨h0,h1,h2,h3⟩:=h;simp only at*;subst_vars;rfl) else isFalse (fun e=>h (by subst e;exact⟨rfl,rfl,rfl,rfl⟩))
def decX(i:Nat):ByteArray:=if i<10 then⟨#[UInt8.ofNat (48+i)]⟩ else if i<100 then⟨#[UInt8.ofNat (48+i/10),UInt8.ofNat (48+i%10)]⟩ else⟨(Lib.decDigits i).toArray⟩
theorem decB_X:decB=decX:=by
 funext i;unfold decB decX;split
 ·rename_i h;rw[Lib.decDigits_one h]
 ·split
  ·rename_i h1 h2;rw[Lib.decDigits_two h1 h2]
  ·rfl
def litG(dec:Nat→ByteArray)(R:RS):List GC:=R.lits.zipIdx.map (fun p=>⟨(⟨#[108,105,116]⟩:ByteArray)++dec p.2,escF p.1,false⟩)
theorem clsOf_G(R:RS):QD R=litG decX R++R.cls:=by rw[←decB_X];try rfl
theorem itF_shift{α:Type}(f:α→α×Bool):∀(k:Nat) (a:α),itF f k (f a).1=itF f (k+1) a
 |0,a=>rfl
 |k+1,a=>by show(f (itF f k (f a).1)).1=_;rw[itF_shift f k a];try rfl
def goF{α:Type}(f:α→α×Bool):Nat→α→Option α
 |0,_=>none
 |k+1,a=>if(f a).2=true then goF f k (f a).1 else some (f a).1
theorem goF_fin{α:Type}(f:α→α×Bool):∀(k:Nat) (a z:α),goF f k a=some z→Fin f a z
 |0,a,z,h=>by cases h
 |k+1,a,z,h=>by
  unfold goF at h;split at h
  ·rename_i hm;obtain⟨j,h1,h2,h3⟩:=goF_fin f k _ z h;refine⟨j+1,?_,?_,fun i hi=> ?_⟩
   ·rw[h1,itF_shift]
   ·rw[←itF_shift];exact h2
   ·cases i with
    |zero=>exact hm
    |succ i=>rw[←itF_shift];exact h3 i (by omega)
  ·rename_i hm;injection h with h;exact⟨0,h.symm,by simpa[itF] using hm,fun j hj=>absurd hj (Nat.not_lt_zero _)⟩
def iB:ByteArray:=⟨#[116,111,107,101,110,32,97,32,97,10,116,111,107,101,110,32,98,32,98,10,115,111,114,116,32,115,10,114,117,108,101,32,115,32,48,32,65,32,61,32,97,32,115,58,48,32,98,10,114,117,108,101,32,115,32,48,32,69,32,61,10]⟩
def iR:RS:=⟨[],[⟨⟨#[97]⟩,⟨#[97]⟩,false⟩,⟨⟨#[98]⟩,⟨#[98]⟩,false⟩],[⟨#[115]⟩],[⟨#[97]⟩,⟨#[98]⟩,⟨#[115]⟩],[⟨#[65]⟩,⟨#[69]⟩],[],[⟨4,⟨#[115]⟩,⟨#[65]⟩,0,[⟨emptyB,⟨#[97]⟩,0,false⟩,⟨emptyB,⟨#[115]⟩,0,true⟩,⟨emptyB,⟨#[98]⟩,0,false⟩],false⟩,⟨5,⟨#[115]⟩,⟨#[69]⟩,0,[],false⟩]⟩
def iRs:List GR:=[⟨0,⟨#[65]⟩,0,[⟨0,-1,0,false⟩,⟨-1,0,0,false⟩,⟨1,-1,0,false⟩]⟩,⟨0,⟨#[69]⟩,0,[]⟩]
theorem i_gather:RS.gather (iB.size+1) 1 RS.none_ iB=some iR:=by decide+kernel
theorem i_rest:RS.linkGo iR iR.lines [] []=some (iRs,[]):=by decide+kernel
theorem i_clsok:(Yo (QD iR)).isSome=true:=by rw[clsOf_G];decide+kernel
theorem i_parse:parseF iB=some (iR,iRs,[]):=by
 unfold parseF;rw[i_gather];dsimp only;have h2:finF iR=some (iRs,[]):=by
  unfold finF;rw[i_rest];dsimp only;rw[if_neg (by decide),if_neg (by rw[clsOf_G];decide),if_pos i_clsok]
 rw[h2]
theorem i_size:iB.size≤1000000:=by decide
theorem i_rok:RulesOk iRs:=⟨by decide,by decide,fun r hr q hq=>⟨by revert q;revert r;decide,by revert q;revert r;decide,by revert q;revert r;decide⟩,by decide⟩
theorem i_cls:(QD iR).length=2:=by rw[clsOf_G];decide+kernel
theorem i_build:(YJ iRs).places=[(0,0)]:=by decide+kernel
theorem i_fin:goF (rndF (YJ iRs).l) 9 ([-1],[-1])=some ([0],[1]):=by decide+kernel
theorem i_void{X:SX}{n:Nat}{z b:List Int}(h:IsSets iRs n X)(hf:Fin (rndF X.b.l) (List.replicate X.b.places.length (-1),List.replicate X.b.places.length (-1)) (z,b)):voidF z=[]:=by
 rw[h.1,i_build] at hf;have e:=hf.uni (goF_fin _ _ _ _ i_fin);rw[show z=[0] from congrArg Prod.fst e];decide
theorem i_f1:goF (fstF (YJ iRs).l) 20 (List.replicate 1 false,List.replicate 1 0)=some ([true],[1]):=by decide+kernel
def iFw:List Nat:=(goF (flwF [true] [1] (YJ iRs).l) 20 ((List.replicate 1 0).set 0 (YG 2))).getD []
theorem i_f2:goF (flwF [true] [1] (YJ iRs).l) 20 ((List.replicate 1 0).set 0 (YG 2))=some iFw:=by decide+kernel
def iX:SX:=⟨YJ iRs,2,[true],[1],iFw⟩
theorem i_sets{X:SX}(h:IsSets iRs (QD iR).length X):X=iX:=by
 obtain⟨h1,h2,h3,h4⟩:=h;rw[i_cls] at h2 h4;rw[h1] at h3 h4;have hl:(YJ iRs).places.length=1:=by rw[i_build];try rfl
 rw[hl] at h3 h4;have e1:=h3.uni (goF_fin _ _ _ _ i_f1);have e2:X.empty=[true]:=congrArg Prod.fst e1;have e3:X.first=[1]:=congrArg Prod.snd e1;rw[e2,e3] at h4;have e4:=h4.uni (goF_fin _ _ _ _ i_f2);obtain⟨b,f,em,fi,fo⟩:=X;dsimp only at h1 h2 e2 e3 e4;subst h1 h2 e2 e3 e4;rfl
def iZ:List IT:=(closI iX 9 0 (YL iX [] [((-1:Int),(0:Int),(iX.fin:Int))])).getD []
theorem i_clos:closI iX 9 0 (YL iX [] [((-1:Int),(0:Int),(iX.fin:Int))])=some iZ:=by decide+kernel
theorem i_len:iZ.length=3:=by decide+kernel
theorem i_own(n:Nat):(iX.b.own.getD n []).length≤1000:=by
 have h:iX.b.own=[[0,1]]:=by decide+kernel
 rw[h];cases n with
 |zero=>decide
 |succ n=>simp
open Go.RowKit Go.Maps
theorem ucheck_nil(w:World):Calls Tryz.prog 13 #[.pointer none] w fun e w'=>e= .returned (.tuple #[.int .i64 0,.int .i64 1])∧w=w':=by
 have H:=Qh (new_nil w);go_enter Tryz.func13,Tryz.ntmps13;go_wp2_with (first|(go_at_call 22;go_must (refine H.out.mono ?_;rintro e w' ⟨rfl,rfl⟩)))
 go_ret2
 exact⟨rfl,rfl⟩
theorem iawake_c(w:World)(hm:MaxLenAt w):Calls Tryz.prog 29 #[] w fun e w'=>e= .returned (.bool true)∧Kn w w':=by
 have HPC:=Qh (gparse_c iB w hm i_size);clear hm;go_enter Tryz.func29,Tryz.ntmps29;go_wp2_with (first
  |(go_at_call 21;go_must (refine HPC.out.mono ?_;rintro e w1 ⟨hk1,hpp⟩;rw[i_parse] at hpp;obtain⟨p,rfl,hg⟩:=hpp;have HN:=Qh (inew_c hg i_rok (fun X z b h1 h2=>i_void h1 h2));have HK1:=Qh hk1;clear hk1 HPC hg))
  |(go_at_call 30;go_must (refine HN.out.mono ?_;rintro e w2 ⟨pm,ps,B,X,vl,vls,rfl,hmk,hI,hk2⟩;obtain rfl:=i_sets hI;have HST:=Qh (start_c hmk i_own (by decide) i_clos (by rw[i_len];decide));have HK2:=Qh (HK1.out.trans hk2);clear hmk hI HN hk2))
  |(go_at_call 32;go_must ((with_reducible refine HST.out.mono ?_);rintro e w3 ⟨v3,rfl,ho,hk3⟩;obtain⟨a,c,hv,_⟩:=ItR.of ho;have HK3:=Qh (HK2.out.trans hk3);rw[srtL_len,i_len] at hv;subst hv;clear ho hk3)))
 go_ret;exact⟨rfl,HK3.out⟩
theorem isyms_nil(n:Int)(w:World):Calls Tryz.prog 76 #[.pointer none,.int .i64 n] w fun e w'=>e= .returned (.tuple #[.slice none 0 0,.bool false])∧w=w':=by
 go_enter Tryz.func76,Tryz.ntmps76;go_wp2_with fail
 go_ret2
 exact⟨rfl,rfl⟩
theorem istart_nil(w:World):Calls Tryz.prog 32 #[.pointer none] w fun e w'=>e= .returned (.slice none 0 0)∧w=w':=by
 go_enter Tryz.func32,Tryz.ntmps32;go_wp2_with fail
 go_ret;exact⟨rfl,rfl⟩
theorem inew_nil(w:World):Calls Tryz.prog 30 #[.pointer none] w fun e w'=>e= .returned (.tuple #[.pointer none,.int .i64 0,.int .i64 1])∧w=w':=by
 have H:=Qh (ucheck_nil w);go_enter Tryz.func30,Tryz.ntmps30;go_wp2_with (first|(go_at_call 13;go_must (refine H.out.mono ?_;rintro e w' ⟨rfl,rfl⟩)))
 go_ret3
 exact⟨rfl,rfl⟩
theorem iright_nil(p b t:Int)(w:World):Calls Tryz.prog 77 #[.pointer none,.agg #[.int .i64 p,.int .i64 b,.int .i64 t]] w fun e w'=>e= .returned (.bool false)∧Kn w w':=by
 have hk:Kn w (w.alloc (.cells #[.int .i64 p,.int .i64 b,.int .i64 t] QM)):=(Qb _ _).alloc _;have H:=Qh (isyms_nil p (w.alloc (.cells #[.int .i64 p,.int .i64 b,.int .i64 t] QM)));have HK:=Qh hk;clear hk;go_enter Tryz.func77,Tryz.ntmps77;go_wp2_with (first|(go_at_call 76;go_must (refine H.out.mono ?_;rintro e w' ⟨rfl,rfl⟩)))
 go_quiet (fail)
 go_wp2_with fail
 go_ret;exact⟨rfl,HK.out.drewN _⟩
theorem iahead_nil(p b t:Int)(w:World):Calls Tryz.prog 31 #[.pointer none,.agg #[.int .i64 p,.int .i64 b,.int .i64 t]] w fun e w'=>e= .returned (.tuple #[.agg #[.bool false,.int .i64 0],.bool false])∧Kn w w':=by
 obtain⟨w1,hw1⟩:∃z,z=(w.alloc (.cells #[.int .i64 p,.int .i64 b,.int .i64 t] QM)).alloc (.cells #[.bool false,.int .i64 0] TSy):=⟨_,rfl⟩;obtain⟨b3,hb3⟩:∃z,z=w.heap.size:=⟨_,rfl⟩;obtain⟨b4,hb4⟩:∃z,z=w.heap.size+1:=⟨_,rfl⟩;have HK1:Hid (Kn w w1):=Qh (by rw[hw1];exact((Qb _ _).alloc _).alloc _);have y0:=it_c0 (show w1.heap[b3]? =some (.cells #[.int .i64 p,.int .i64 b,.int .i64 t] QM (0,0)) by rw[hw1,hb3];exact Qm (Qf _ _) _);have HB4:Hid (w1.heap[b4]? =some (.cells #[.bool false,.int .i64 0] TSy (0,0))):=Qh (by
  have:=Qf (w.alloc (.cells #[.int .i64 p,.int .i64 b,.int .i64 t] QM)) (.cells #[.bool false,.int .i64 0] TSy);rw[size_alloc',←hb4,←hw1] at this;exact this)
 have hb4w:w.heap.size≤b4:=by omega
 have HW:=Qh (And.intro hw1 (And.intro hb3 hb4));have H:=Qh (isyms_nil p w1);have hb4l:=Qj HB4.out;have f4:=Qd HB4.out 0;have f5:=Qd HB4.out 1;have c40:=sy_c0 HB4.out;have c41:=sy_c1 HB4.out;clear hw1 hb3 hb4;go_enter Tryz.func31,Tryz.ntmps31;go_upto_region 1 with fail
 rw[←HW.out.1,←HW.out.2.2,←HW.out.2.1];clear HW;go_wp2_with (first|(go_at_call 76;go_must (refine H.out.mono ?_;rintro e w' ⟨rfl,rfl⟩)))
 refine bodyPost_ret (resSy rfl rfl rfl (sy_c0 (sy_set _ _ HB4.out)) (sy_c1 (sy_set _ _ HB4.out))) rfl ⟨rfl,kn_set2 HK1.out hb4w _ _⟩
open Go.RowKit Go.Maps Go.ChangeShapes Go.WideShapes Go.Deep
def ItA(w:World)(g o:Nat)(l:List IT):Prop:=∀k (h:k<l.length),w.cell? ⟨g,o+k*3,none⟩=some (.int .i64 l[k].1)∧w.cell? ⟨g,o+k*3+1,none⟩=some (.int .i64 l[k].2.1)∧w.cell? ⟨g,o+k*3+2,none⟩=some (.int .i64 l[k].2.2)
def WfI(i:IT):Prop:=(Lit.int .i64 i.1).wf=true∧(Lit.int .i64 i.2.1).wf=true∧(Lit.int .i64 i.2.2).wf=true
theorem wf_nt64{x:Int}(h:(Lit.int .i64 x).wf=true):Nt64 x:=by
 unfold Nt64;simp only[Lit.wf,Bool.and_eq_true,decide_eq_true_eq] at h;simpa[IntKind.min,IntKind.max,IntKind.signed,IntKind.bits] using h
theorem WfI.ok{i:IT}(h:WfI i):ItOk i:=⟨wf_nt64 h.1,wf_nt64 h.2.1,wf_nt64 h.2.2⟩
section
variable {H:Type} {enc:TypeId×Value→H} {w:World} {base:Nat} {sp:Nat→Bool} {held:Bool}
def itD(H:Type)(i:IT):DataW H:= .agg [.lit (.int .i64 i.1),.lit (.int .i64 i.2.1),.lit (.int .i64 i.2.2)]
theorem c_it:Tryz.prog.cellsOf QM=3:=by kernel_rfl
theorem c_int:Tryz.prog.cellsOf 3=1:=by kernel_rfl
theorem item_open{n:Nat}{cs:List Value}{x:DataW H×List MemPlace}(h:DataW.trod enc Tryz.prog w base sp held n QM cs=some x):∃i:IT,cs=itL i∧WfI i∧x=(itD H i,[]):=by
 obtain⟨y0,y1,y2,m,rfl,hl,h0,h1,h2⟩:=Go.Deep.trod_struct3 Tryz.underlying71 h;rw[c_it] at hl
 match cs,hl with
 |[v0,v1,v2],_=>
  simp[c_int] at h0 h1 h2;obtain⟨a,z0,rfl,w0⟩:=DataW.trod_int Tryz.underlying3 h0;obtain⟨b,z1,rfl,w1⟩:=DataW.trod_int Tryz.underlying3 h1;obtain⟨c,z2,rfl,w2⟩:=DataW.trod_int Tryz.underlying3 h2;simp at z0 z1 z2;subst z0 z1 z2;exact⟨(a,b,c),rfl,⟨w0,w1,w2⟩,rfl⟩
theorem item_shut(i:IT)(h:WfI i):∃n,DataW.trod enc Tryz.prog w base sp held n QM (itL i)=some (itD H i,[]):=by
 obtain⟨w0,w1,w2⟩:=h;obtain⟨n,hn⟩:=Joins.shut_agg3 (v0:= .int .i64 i.1) (v1:= .int .i64 i.2.1) (v2:= .int .i64 i.2.2) (enc:=enc) (w:=w) (base:=base) (spare:=sp) (held:=held) (y0:=(.lit (.int .i64 i.1),[])) (y1:=(.lit (.int .i64 i.2.1),[])) (y2:=(.lit (.int .i64 i.2.2),[])) Tryz.underlying71 (by kernel_rfl) c_it
  ⟨1,by simp[DataW.trod,Tryz.underlying3,w0]⟩ ⟨1,by simp[DataW.trod,Tryz.underlying3,w1]⟩ ⟨1,by simp[DataW.trod,Tryz.underlying3,w2]⟩
 exact⟨n,by simpa[Value.cells,itL,itD] using hn⟩
end
theorem open_items{H:Type}{enc:TypeId×Value→H}{W:World}{r:Reach}{b0:Nat}{v:Value}{d:DataW H}{p:List MemPlace}(hv:Value.okWide Tryz.prog W r b0 TSi v)(h:DataW.Trod enc Tryz.prog W 0 (fun _=>true) true TSi v d p):
  ∃(a:Option Addr) (c:Nat) (l:List IT),v= .slice a l.length c∧(l≠[]→∃g o,a=some ⟨g,o,none⟩∧ItA W g o l)∧(∀i∈l,WfI i)∧l.length≤maxLen∧
   ∀W',Kn W W'→DataW.Trod enc Tryz.prog W' 0 (fun b=>decide (b<W.heap.size)) true TSi v d p:=by
 obtain⟨a0,len,cap,rfl⟩:=okWide_slice Tryz.underlying62 hv;obtain⟨fuel,hf⟩:=h;rcases open_slice Tryz.underlying62 hf with⟨hcs,hx⟩|⟨a,len',cap',m,n,D,Pl,hcs,hb,hl,hm,hmm,hx,hel⟩
 ·simp[Value.cells] at hcs;obtain⟨rfl,rfl,rfl⟩:=hcs;injection hx with h1 h2;subst h1 h2;exact⟨none,0,[],rfl,fun e=>absurd rfl e,by simp,by simp,fun W' _=>shut_slice_nil Tryz.underlying62⟩
 ·simp[Value.cells] at hcs;obtain⟨rfl,rfl,rfl⟩:=hcs;simp only[if_true] at hmm;subst hmm;injection hx with h1 h2;subst h1 h2;rw[c_it] at hel;have each:∀i,i<m→∃q:IT,WfI q∧W.cells? 0 (a.add (i*3)) 3=some (itL q)∧D i=itD H q∧Pl i=[]:=fun i hi=>by
   obtain⟨cs',h1,h2⟩:=hel i hi;obtain⟨q,rfl,hw,hx⟩:=item_open h2;injection hx with h3 h4;exact⟨q,hw,h1,h3,h4⟩
  obtain⟨q,hq⟩:=choose_lt each;have hlen:((List.range len).map q).length=len:=by simp
  refine⟨some a,m,(List.range len).map q,by rw[hlen],fun hne=> ?_,fun i hi=> ?_,by rw[hlen];omega,fun W' hk=> ?_⟩
  ·have h0:0<len:=by
    rcases Nat.eq_zero_or_pos len with e|e
    ·subst e;exact absurd rfl hne
    ·exact e
   obtain⟨_,_,hc0⟩:=World.cells?_some (hq 0 (by omega)).2.1;have e0:W.cell? ((a.add (0*3)).add 0)=some (.int .i64 (q 0).1):=hc0 0 (by omega);rw[Nat.zero_mul] at e0;obtain⟨g,o,s⟩:=a;have hs:s=none:=by simpa[Addr.add] using World.cell?_spot e0
   subst hs;refine⟨g,o,rfl,fun k hk=> ?_⟩;have hk':k<len:=by simpa using hk
   obtain⟨_,_,hc⟩:=World.cells?_some (hq k (by omega)).2.1;have c0:W.cell? (((⟨g,o,none⟩:Addr).add (k*3)).add 0)=some (.int .i64 (q k).1):=hc 0 (by omega);have c1:W.cell? (((⟨g,o,none⟩:Addr).add (k*3)).add 1)=some (.int .i64 (q k).2.1):=hc 1 (by omega);have c2:W.cell? (((⟨g,o,none⟩:Addr).add (k*3)).add 2)=some (.int .i64 (q k).2.2):=hc 2 (by omega);rw[add_plain,add_plain] at c0 c1 c2;simp only[List.getElem_map,List.getElem_range];exact⟨c0,c1,c2⟩
  ·obtain⟨k,hk,rfl⟩:=List.mem_map.1 hi;exact(hq k (by have:=List.mem_range.1 hk;omega)).1
  ·have hel':∀i,i<m→∃cs n,W'.cells? 0 (a.add (i*Tryz.prog.cellsOf QM)) (Tryz.prog.cellsOf QM)=some cs∧DataW.trod enc Tryz.prog W' 0 (fun b=>decide (b<W.heap.size)) true n QM cs=some (D i,Pl i):=fun i hi=>by
    obtain⟨hw,hc,hD,hP⟩:=hq i hi;obtain⟨n2,hn2⟩:=item_shut (enc:=enc) (w:=W') (base:=0) (sp:=fun b=>decide (b<W.heap.size)) (held:=true) (q i) hw;have hblk:=World.cells?_block hc (by omega);refine⟨itL (q i),n2,?_,by rw[hD,hP];exact hn2⟩;rw[c_it];refine World.cells?_carry hc (fun p hp=> ?_);obtain⟨j,_,rfl⟩:=MemPlace.mem_row.1 hp;exact hk.below.same hblk
   by_cases hsp:a.block<W.heap.size
   ·exact shut_slice_whole Tryz.underlying62 hb hl hm (decide_eq_true hsp) D Pl hel'
   ·have hm0:m=0:=by
     rcases Nat.eq_zero_or_pos m with e|e
     ·exact e
     ·have:=World.cells?_block (hq 0 e).2.1 (by omega);exact absurd (by simpa[Addr.add] using this) hsp
    subst hm0;have hl0:len=0:=by omega
    subst hl0;exact shut_slice Tryz.underlying62 hb hl hm (decide_eq_false hsp) D Pl (fun i hi=>by omega)
end Go.Proofs.YtiehgcfckhepaaaGreatDoor
namespace Go.Proofs.YtiehgcfckhepaaaGreatDoor
open Go.RowKit Go.Maps
theorem put_any{w:World}{b:Nat}{m:KV}{i:IT}(h:ItOk i)(hm:MapA w QM b m):∃w' m',(Instr.mapUpdate TMi (.map (some b)) (itV i) (.bool true)).run Tryz.prog w= .ok () w'∧MapA w' QM b m'∧K1 b w w':=by
 obtain⟨l,hl⟩:=it_fit i h;by_cases hin:∃u,(itV i,u)∈m
 ·obtain⟨u,hu⟩:=hin;obtain⟨w',j,h1,_,h2,h3⟩:=hm.put1 it_key Tryz.underlying166 hl hu (.bool true);exact⟨w',_,h1,h2,h3⟩
 ·obtain⟨w',h1,h2,h3⟩:=hm.put0 it_key Tryz.underlying166 hl (fun p hp e=>hin ⟨p.2,by rw[←e];exact hp⟩) (.bool true);exact⟨w',_,h1,h2,h3⟩
theorem icore_nil{w:World}{a:Option Addr}{c:Nat}{l:List IT}(hl:l≠[]→∃g o,a=some ⟨g,o,none⟩∧ItA w g o l)(hok:∀i∈l,ItOk (i.1,i.2.1,-1))(hll:l.length≤1000):
  Calls Tryz.prog 35 #[.pointer none,.slice a l.length c] w fun e w'=>e= .returned (.slice none 0 0)∧Kn w w':=by
 have hmm:= @run_makeMap Tryz.prog;obtain⟨w1,hw1⟩:∃z,z=w.alloc (.map #[] 0):=⟨_,rfl⟩;obtain⟨bm,hbm⟩:∃z,z=w.heap.size:=⟨_,rfl⟩;have hk1:Kn w w1:=by rw[hw1];exact(Qb _ _).alloc _
 have HM:Hid (MapA w1 QM bm []):=Qh (by rw[hw1,hbm];exact MapA.new w QM);have HK:=Qh hk1;have hbw:w.heap.size≤bm:=by omega
 have HW:=Qh (And.intro hw1 hbm);have HL:=Qh hl;have HOK:=Qh hok;obtain⟨n,hn⟩:∃n,n=l.length:=⟨_,rfl⟩;have HN:=Qh hn;rw[←hn] at hll⊢;clear hw1 hbm hk1 hl hok hn;go_enter Tryz.func35,Tryz.ntmps35;go_upto_region 2 with fail
 rw[←HW.out.1,←HW.out.2];clear HW hmm;go_wp2_with fail
 go_loopw [11] (fun s11 wr=>∃(k:Nat) (m:KV),s11= .int .i64 k∧k≤n∧Hid (MapA wr QM bm m)∧Hid (Kn w wr)) (fun s11 _=>n-(intOf s11).toNat)
 case atStart=>exact⟨0,[],rfl,Nat.zero_le _,HM,HK⟩
 case round=>
  clear HM HK;obtain⟨k,m,rfl,hk,hm,hkn⟩:=hrel;by_cases hlt:k<n
  ·have hkl:k<l.length:=by have:=HN.out;omega
   obtain⟨g,o,rfl,hit⟩:=HL.out (fun e=>by rw[e] at hkl;simp at hkl);obtain⟨x0,x1,x2⟩:=hit k hkl;have x0:=Qc hkn.out x0;have x1:=Qc hkn.out x1;have x2:=Qc hkn.out x2;have hio:=HOK.out _ (List.getElem_mem hkl);obtain⟨i,hie⟩:∃z,z=l[k]:=⟨_,rfl⟩;rw[←hie] at x0 x1 x2 hio;have hgl:=World.block_lt_of_cell? _ _ x0;have hkA:Kn wr (wr.alloc (.cells #[.int .i64 i.1,.int .i64 i.2.1,.int .i64 i.2.2] QM)):=(Qb _ _).alloc _;obtain⟨w4,m4,hrun,hm4,hk4⟩:=put_any hio (hm.out.kn hkA);unfold itV at hrun;dsimp only at hrun;have HM4:=Qh hm4;have HK4:Hid (Kn w w4):=Qh ((hkn.out.trans hkA).trans' hk4 (fun j hj e=>by omega));clear hit hie hkA hm4 hk4;go_wp2_with fail
   go_roundw
   case rel=>exact⟨k+1,m4,by go_num,by omega,HM4,HK4⟩
   case measure=>simp[intOf];omega
  ·obtain rfl:k=n:=by omega
   go_wp2_with fail
   go_ret;exact⟨rfl,hkn.out⟩
theorem iaddN_c{w:World}{b2:Nat}(b5 b6:Nat)(hb:w.heap[b2]? =some (.cells #[.pointer none] TPm (0,0))){a:Option Addr}{c:Nat}{l:List IT}(hl:l≠[]→∃g o,a=some ⟨g,o,none⟩∧ItA w g o l)(hll:l.length≤1000000):
  Calls Tryz.prog 79 #[.slice a l.length c,ptr b2,ptr b5,ptr b6] w fun e w'=>e= .returned (.tuple #[])∧Kn w w':=by
 have HB:=Qh hb;have HL:=Qh hl;obtain⟨n,hn⟩:∃n,n=l.length:=⟨_,rfl⟩;have HN:=Qh hn;rw[←hn] at hll⊢;have hp2:=Qj hb;clear hb hl hn;go_enter Tryz.func79,Tryz.ntmps79;go_wp2_with fail
 go_loopw [9] (fun s9 wr=>∃(k:Nat),s9= .int .i64 k∧k≤n∧Hid (Kn w wr)) (fun s9 _=>n-(intOf s9).toNat)
 case atStart=>exact⟨0,rfl,Nat.zero_le _,Qh (Qb _ _)⟩
 case round=>
  obtain⟨k,rfl,hk,hkn⟩:=hrel;by_cases hlt:k<n
  ·have hkl:k<l.length:=by have:=HN.out;omega
   obtain⟨g,o,rfl,hit⟩:=HL.out (fun e=>by rw[e] at hkl;simp at hkl);obtain⟨x0,x1,x2⟩:=hit k hkl;have x0:=Qc hkn.out x0;have x1:=Qc hkn.out x1;have x2:=Qc hkn.out x2;obtain⟨i,hie⟩:∃z,z=l[k]:=⟨_,rfl⟩;rw[←hie] at x0 x1 x2;have hgl:=World.block_lt_of_cell? _ _ x0;have hB:=hkn.out.blk HB.out (fun x=>x);have hbl:=Qj hB;have m2:wr.cell? ⟨b2,0,none⟩=some (.pointer none):=by rw[Qa hB];try rfl
   have HK2:Hid (Kn w (wr.alloc (.cells #[.int .i64 i.1,.int .i64 i.2.1,.int .i64 i.2.2] QM))):=Qh (hkn.out.alloc _);clear hit hie hB;go_wp2_with (first|(go_at_call 77;go_must (refine(iright_nil i.1 i.2.1 i.2.2 _).mono ?_;rintro e w3 ⟨rfl,hk3⟩;have HK3:=Qh (HK2.out.trans hk3);clear hk3)))
   go_roundw
   case rel=>exact⟨k+1,by go_num,by omega,HK3⟩
   case measure=>simp[intOf];omega
  ·obtain rfl:k=n:=by omega
   go_wp2_with fail
   refine bodyPost_end (results_none rfl _ _ _) rfl ?_;exact⟨rfl,hkn.out⟩
theorem ItA.kn{w w':World}{g o:Nat}{l:List IT}(h:ItA w g o l)(hk:Kn w w'):ItA w' g o l:=fun k hl=>⟨Qc hk (h k hl).1,Qc hk (h k hl).2.1,Qc hk (h k hl).2.2⟩
theorem iclosure_nil{w:World}{l:List IT}{a:Option Addr}{c:Nat}(hl:l≠[]→∃g o,a=some ⟨g,o,none⟩∧ItA w g o l)(hll:l.length≤1000000):
  Calls Tryz.prog 33 #[.pointer none,.slice a l.length c] w (SortPost [] w):=by
 have hmm:= @run_makeMap Tryz.prog;have hmf:∀(fn:Fn) (first cap:Array Value) (w:World),(Instr.makeFunc fn first cap).run Tryz.prog w= .ok (.func fn first cap) w:=fun _ _ _ _=>rfl
 obtain⟨w1,hw1⟩:∃z,z=(((w.alloc (.cells #[.pointer none] TPm)).alloc (.map #[] 0)).alloc (.cells #[.map (some (w.heap.size+1))] TMi)).alloc (.cells #[.slice none 0 0] TSi):=⟨_,rfl⟩;obtain⟨b2,hb2⟩:∃z,z=w.heap.size:=⟨_,rfl⟩;obtain⟨bm,hbm⟩:∃z,z=w.heap.size+1:=⟨_,rfl⟩;obtain⟨b5,hb5⟩:∃z,z=w.heap.size+1+1:=⟨_,rfl⟩;obtain⟨b6,hb6⟩:∃z,z=w.heap.size+1+1+1:=⟨_,rfl⟩;have hk1:Kn w w1:=by rw[hw1];exact((((Qb _ _).alloc _).alloc _).alloc _).alloc _
 have c2:w1.heap[b2]? =some (.cells #[.pointer none] TPm (0,0)):=by rw[hw1,hb2];exact Qm (Qm (Qm (Qf _ _) _) _) _
 have c5:w1.heap[b5]? =some (.cells #[.map (some bm)] TMi (0,0)):=by
  have:=Qm (Qf ((w.alloc (.cells #[.pointer none] TPm)).alloc (.map #[] 0)) (.cells #[.map (some (w.heap.size+1))] TMi)) (.cells #[.slice none 0 0] TSi);rw[size_alloc',size_alloc',←hb5,←hw1,←hbm] at this;exact this
 have c6:w1.heap[b6]? =some (.cells #[.slice none 0 0] TSi (0,0)):=by
  have:=Qf (((w.alloc (.cells #[.pointer none] TPm)).alloc (.map #[] 0)).alloc (.cells #[.map (some (w.heap.size+1))] TMi)) (.cells #[.slice none 0 0] TSi);rw[size_alloc',size_alloc',size_alloc',←hb6,←hw1] at this;exact this
 have hM:MapB w1 QM bm (mtM []):=by
  have hm:=MapB.new (w.alloc (.cells #[.pointer none] TPm)) QM;rw[size_alloc',←hbm] at hm;rw[hw1];exact(hm.kn ((Qb _ _).alloc _)).kn ((Qb _ _).alloc _)
 have HAD:=Qh (iaddN_c b5 b6 c2 (l:=l) (a:=a) (c:=c) (fun hne=>by
  obtain⟨g,o,hg,hi⟩:=hl hne;exact⟨g,o,hg,hi.kn hk1⟩) hll)
 have HW:=Qh (And.intro hw1 (And.intro hb2 (And.intro hbm (And.intro hb5 hb6))));have HC:=Qh (And.intro c2 (And.intro c5 (And.intro c6 (And.intro hM hk1))));obtain⟨n,hn⟩:∃n,n=l.length:=⟨_,rfl⟩;rw[←hn] at HAD⊢;clear hl hk1 c2 c5 c6 hM hw1 hb2 hbm hb5 hb6 hn;go_enter Tryz.func33,Tryz.ntmps33;go_upto_region 4 with fail
 rw[←HW.out.1,←HW.out.2.2.2.2,←HW.out.2.2.2.1,←HW.out.2.2.1,←HW.out.2.1];clear HW hmm hmf;go_upto_region 5 with(first|(go_at_call 79;go_must ((with_reducible refine HAD.out.mono ?_);rintro e w2 ⟨rfl,hk2⟩;have HK2:=Qh hk2;clear hk2)))
 clear HAD;have hC5:=HK2.out.blk HC.out.2.1 (fun x=>x);have hC6:=HK2.out.blk HC.out.2.2.1 (fun x=>x);have m5:w2.cell? ⟨b5,0,none⟩=some (.map (some bm)):=by rw[Qa hC5];try rfl
 have m6:w2.cell? ⟨b6,0,none⟩=some (.slice none 0 0):=by rw[Qa hC6];try rfl
 have hl5:=Qj hC5;have hl6:=Qj hC6;have HSO:=Qh (sortedI (w:=w2) (b:=bm) (T:=[]) (by simp) (HC.out.2.2.2.1.kn HK2.out));clear hC5 hC6;go_wp2_with fail
 refine wp_loop_rounds 1 ?_;rw[rounds_succ];go_wp2_with (first|(go_at_call 81;go_must ((with_reducible refine HSO.out.mono ?_);rintro e w3 ⟨v3,rfl,ho,hk3⟩;have HO:=Qh (And.intro ho hk3);clear ho hk3)))
 go_ret;exact⟨_,rfl,OwnK.base HO.out.1 (Nat.le_trans HC.out.2.2.2.2.size HK2.out.size),(HC.out.2.2.2.2.trans HK2.out).trans HO.out.2⟩
def EmpPost(w:World)(e:Ending)(w':World):Prop:=∃a c,e= .returned (.slice a 0 c)∧Kn w w'
theorem SortPost.emp{w w':World}{e:Ending}(h:SortPost [] w e w'):EmpPost w e w':=by
 obtain⟨v,rfl,ho,hk⟩:=h;obtain⟨a,c,hv,_⟩:=ItR.of ho;exact⟨a,c,by rw[hv];try rfl,hk⟩
theorem igo_nil{w:World}{l:List IT}{a:Option Addr}{c:Nat}(pl:Bool)(sn:Int)(hl:l≠[]→∃g o,a=some ⟨g,o,none⟩∧ItA w g o l)(hll:l.length≤1000000):
  Calls Tryz.prog 34 #[.pointer none,.slice a l.length c,.agg #[.bool pl,.int .i64 sn]] w (EmpPost w):=by
 have HL:=Qh hl;obtain⟨n,hn⟩:∃n,n=l.length:=⟨_,rfl⟩;have HN:=Qh hn;rw[←hn] at hll⊢;have HK1:Hid (Kn w (w.alloc (.cells #[.bool pl,.int .i64 sn] TSy))):=Qh ((Qb _ _).alloc _);clear hl hn;go_enter Tryz.func34,Tryz.ntmps34;go_wp2_with fail
 go_loopw [7,14] (fun s7 s14 wr=>∃(k:Nat),s7= .slice none 0 0∧s14= .int .i64 k∧k≤n∧Hid (Kn w wr)) (fun _ s14 _=>n-(intOf s14).toNat)
 case atStart=>exact⟨0,rfl,rfl,Nat.zero_le _,HK1⟩
 case round=>
  clear HK1;obtain⟨k,rfl,rfl,hk,hkn⟩:=hrel;by_cases hlt:k<n
  ·have hkl:k<l.length:=by have:=HN.out;omega
   obtain⟨g,o,rfl,hit⟩:=HL.out (fun e=>by rw[e] at hkl;simp at hkl);obtain⟨x0,x1,x2⟩:=hit k hkl;have x0:=Qc hkn.out x0;have x1:=Qc hkn.out x1;have x2:=Qc hkn.out x2;obtain⟨i,hie⟩:∃z,z=l[k]:=⟨_,rfl⟩;rw[←hie] at x0 x1 x2;have hgl:=World.block_lt_of_cell? _ _ x0;have HK2:Hid (Kn w (wr.alloc (.cells #[.int .i64 i.1,.int .i64 i.2.1,.int .i64 i.2.2] QM))):=Qh (hkn.out.alloc _);clear hit hie;go_wp2_with (first|(go_at_call 31;go_must (refine(iahead_nil i.1 i.2.1 i.2.2 _).mono ?_;rintro e w3 ⟨rfl,hk3⟩;have HK3:Hid (Kn w (w3.alloc (.cells #[.bool false,.int .i64 0] TSy))):=Qh ((HK2.out.trans hk3).alloc _);clear hk3)))
   go_roundw
   case rel=>exact⟨k+1,rfl,by go_num,by omega,HK3⟩
   case measure=>simp[intOf];omega
  ·obtain rfl:k=n:=by omega
   have HCL:=Qh (iclosure_nil (w:=wr) (l:=[]) (a:=none) (c:=0) (fun e=>absurd rfl e) (by simp));simp only[List.length_nil] at HCL;go_wp2_with (first|(go_at_call 33;go_must ((with_reducible refine HCL.out.mono ?_);intro e w4 h4;obtain⟨a4,c4,rfl,hk4⟩:=h4.emp;have HK4:=Qh (hkn.out.trans hk4);clear h4 hk4)))
   go_ret;exact⟨_,_,rfl,HK4.out⟩
theorem inone_c{W:World}{l:List IT}{a:Option Addr}{c:Nat}(hl:l≠[]→∃g o,a=some ⟨g,o,none⟩∧ItA W g o l)(hw:∀i∈l,WfI i)(pl:Bool)(sn:Int)(w:World)(hwW:W=w)(hm:MaxLenAt w):
  Calls Tryz.prog 6 #[.slice a l.length c,.agg #[.bool pl,.int .i64 sn]] w fun e w'=>e= .returned (.bool true)∧Kn w w':=by
 subst hwW;have HA:=Qh (fun(w':World) (hk:Kn W w')=>iawake_c w' (hm.kn hk));have HL:=Qh (fun(w':World) (hk:Kn W w') (hne:l≠[])=>by
  obtain⟨g,o,hg,hi⟩:=hl hne;exact(⟨g,o,hg,hi.kn hk⟩:∃g o,a=some ⟨g,o,none⟩∧ItA w' g o l))
 have HOK:Hid (∀i∈l,ItOk (i.1,i.2.1,-1)):=Qh (fun i hi=>⟨(hw i hi).ok.1,(hw i hi).ok.2.1,show Nt64 (-1) by unfold Nt64;decide⟩);obtain⟨w1,hw1⟩:∃z,z=W.alloc (.cells #[.bool pl,.int .i64 sn] TSy):=⟨_,rfl⟩;obtain⟨b3,hb3⟩:∃z,z=W.heap.size:=⟨_,rfl⟩;have HK1:Hid (Kn W w1):=Qh (by rw[hw1];exact(Qb _ _).alloc _);have HB3:Hid (w1.heap[b3]? =some (.cells #[.bool pl,.int .i64 sn] TSy (0,0))):=Qh (by rw[hw1,hb3];exact Qf _ _);have HW:=Qh (And.intro hw1 hb3);clear hl hw hm hw1 hb3;by_cases h30:30<l.length
 ·obtain⟨n,hn⟩:∃n,n=l.length:=⟨_,rfl⟩;rw[←hn] at h30⊢;clear hn;go_enter Tryz.func6,Tryz.ntmps6;go_upto_region 1 with fail
  rw[←HW.out.1,←HW.out.2];clear HW;go_wp2_with (first|(go_at_call 29;go_must (refine(HA.out _ HK1.out).mono ?_;rintro e w' ⟨rfl,hk⟩;have HK:=Qh (HK1.out.trans hk);clear hk)))
  go_ret;exact⟨rfl,HK.out⟩
 ·have HLEN:Hid (l.length≤1000):=Qh (by omega);obtain⟨n,hn⟩:∃n,n=l.length:=⟨_,rfl⟩;have HN:=Qh hn;rw[←hn] at h30⊢;clear hn;go_enter Tryz.func6,Tryz.ntmps6;go_upto_region 1 with fail
  rw[←HW.out.1,←HW.out.2];clear HW;go_upto_region 6 with(first
   |(go_at_call 30;go_must (refine(inew_nil _).mono ?_;rintro e w' ⟨rfl,rfl⟩))
   |(go_at_call 31;go_must (refine(iahead_nil 0 0 0 _).mono ?_;rintro e w2 ⟨rfl,hk2⟩;have HK2:Hid (Kn w1 (w2.alloc (.cells #[.bool false,.int .i64 0] TSy))):=Qh (hk2.alloc _);clear hk2)))
  obtain⟨w3,hw3⟩:∃z,z=w2.alloc (.cells #[.bool false,.int .i64 0] TSy):=⟨_,rfl⟩;rw[←hw3] at HK2⊢;clear hw3;have HK3:=Qh (HK1.out.trans HK2.out);have HB33:=Qh (HK2.out.blk HB3.out (fun x=>x));clear HB3 HK1 HK2;go_wp2_with (first
   |(go_at_call 32;go_must (refine(istart_nil _).mono ?_;rintro e w' ⟨rfl,rfl⟩))
   |(go_at_call 33;go_must (have h9:=iclosure_nil (c:=c) (HL.out _ HK3.out) (by have:=HLEN.out;omega);rw[←HN.out] at h9;(with_reducible refine h9.mono ?_);clear h9;intro e w4 h4;obtain⟨a4,c4,rfl,hk4⟩:=h4.emp;have HK4:=Qh (HK3.out.trans hk4);have hb3:=hk4.blk HB33.out (fun x=>x);have m0:w4.cell? ⟨b3,0,none⟩=some (.bool pl):=(by rw[Qa hb3];try rfl);have m1:w4.cell? ⟨b3,1,none⟩=some (.int .i64 sn):=(by rw[Qa hb3];try rfl);have hb3l:=Qj hb3;clear h4 hk4 hb3))
   |(go_at_call 34;go_must (have h9:=igo_nil (c:=c) pl sn (HL.out _ HK4.out) (by have:=HLEN.out;omega);rw[←HN.out] at h9;(with_reducible refine h9.mono ?_);clear h9;rintro e w5 ⟨a5,c5,rfl,hk5⟩;have HK5:=Qh (HK4.out.trans hk5);clear hk5))
   |(go_at_call 35;go_must (have h9:=icore_nil (c:=c) (HL.out _ HK5.out) HOK.out HLEN.out;rw[←HN.out] at h9;(with_reducible refine h9.mono ?_);clear h9;rintro e w6 ⟨rfl,hk6⟩;have HK6:=Qh (HK5.out.trans hk6);clear hk6))
   |(go_at_call 29;go_must (refine(HA.out _ HK6.out).mono ?_;rintro e w7 ⟨rfl,hk7⟩;have HK7:=Qh (HK6.out.trans hk7);clear hk7)))
  go_ret;exact⟨rfl,HK7.out⟩
end Go.Proofs.YtiehgcfckhepaaaGreatDoor
