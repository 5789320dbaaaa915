/-
  Texts of this claim, laid together: GParse, GEval, TEval, CEval, TAwake, CNone. Conditions: none.
-/
import Derived.Test.YtiehgcfckhepaaaGreatDoorQAK
import Derived.Test.YtiehgcfckhepaaaGreatDoorQAJ
import Derived.Test.YtiehgcfckhepaaaGreatDoorQAL
set_option linter.unusedVariables false
set_option linter.unusedSimpArgs false
set_option maxRecDepth 100000
set_option maxHeartbeats 16000000
namespace Go.Proofs.YtiehgcfckhepaaaGreatDoor
open Go.RowKit Go.Maps
def parseF(text:ByteArray):Option (RS×List GR×List (Nat×Nat)):=
 match RS.gather (text.size+1) 1 RS.none_ text with
 |none=>none
 |some R=>match finF R with|none=>none|some r=>some (R,r.1,r.2)
def ParsePost(text:ByteArray)(w:World)(e:Ending)(w':World):Prop:=
 Kn w w'∧match parseF text with
 |some r=>∃p:Nat,e= .returned (.tuple #[ptr p,.int .i64 0,.int .i64 0])∧GrAt w' p r.1 r.2.1 r.2.2
 |none=>∃k n:Int,n≠0∧e= .returned (.tuple #[.pointer none,.int .i64 k,.int .i64 n])
def strSz:Value→Nat
 | .string s=>s.size
 |_=>0
theorem cutZ_lt{s sep:ByteArray}(h:cutT s sep=true)(h1:1≤sep.size)(h0:¬s.size=0):(cutZ s sep).size<s.size:=by
 show(Lib.cut s.data.toList sep.data.toList).2.1.toArray.size<s.data.size;have h0':¬s.data.size=0:=h0;have h1':1≤sep.data.size:=h1;unfold cutT Lib.cut at h;unfold Lib.cut;split
 ·simp;omega
 ·rename_i hx;rw[if_neg hx] at h;cases h
theorem gather_end(f n:Nat)(R:RS)(s:ByteArray)(h:s.size=0):RS.gather (f+1) n R s=some R:=by
 unfold RS.gather;rw[if_pos h]
theorem gather_step(f n:Nat)(R:RS)(s:ByteArray)(h:¬s.size=0):RS.gather (f+1) n R s=if cutT s nlB=true then(match R.take n (cutA s nlB) with|some R1=>RS.gather f (n+1) R1 (cutZ s nlB)|none=>none) else none:=by
 rw[RS.gather,if_neg h];try rfl
theorem gparse_c(text:ByteArray)(w:World)(hm:MaxLenAt w)(hs:text.size≤1000000):
  Calls Tryz.prog 21 #[.string text] w (ParsePost text w):=by
 have hmm:= @run_makeMap Tryz.prog;have hno:¬(1048576:Int)<text.size:=by omega
 have hno':¬1048576<text.size:=by omega
 have HP:Hid (parseF text=match RS.gather (text.size+1) 1 RS.none_ text with
  |none=>none
  |some R=>match finF R with|none=>none|some r=>some (R,r.1,r.2)):=Qh rfl
 obtain⟨bn,hbn⟩:∃z,z=w.heap.size:=⟨_,rfl⟩;obtain⟨bc,hbc⟩:∃z,z=w.heap.size+1:=⟨_,rfl⟩;obtain⟨br,hbr⟩:∃z,z=w.heap.size+1+1:=⟨_,rfl⟩;obtain⟨p,hp⟩:∃z,z=w.heap.size+1+1+1:=⟨_,rfl⟩;obtain⟨W,hW⟩:∃z,z=(((w.alloc (.map #[] 0)).alloc (.map #[] 0)).alloc (.map #[] 0)).alloc (.cells #[.slice none 0 0,.slice none 0 0,.slice none 0 0,.slice none 0 0,.map none,.pointer none,.map (some bn),.map (some bc),.map (some br),.slice none 0 0] TGr):=⟨_,rfl⟩;have hkW:Kn w W:=by rw[hW];exact((((Qb _ _).alloc _).alloc _).alloc _).alloc _
 have e1:(w.alloc (.map #[] 0)).heap.size=bc:=by rw[size_alloc',hbc]
 have e2:((w.alloc (.map #[] 0)).alloc (.map #[] 0)).heap.size=br:=by rw[size_alloc',e1,hbr,hbc]
 have e3:(((w.alloc (.map #[] 0)).alloc (.map #[] 0)).alloc (.map #[] 0)).heap.size=p:=by rw[size_alloc',e2,hp,hbr]
 have hrd:RdAt W w.heap.size p RS.none_ ⟨.slice none 0 0,.slice none 0 0,.slice none 0 0,.slice none 0 0,.map none,.pointer none,bn,bc,br,.slice none 0 0,[]⟩:=by
  refine⟨?_,OwnK.nil (k:=1),OwnK.nil,OwnK.nil (k:=1),?_,?_,?_,OwnK.nil,rfl,(fun i a b=>by simp at a),⟨by show bn≠bc;omega,by show bn≠br;omega,by show bc≠br;omega⟩,(fun g hg=>by cases hg),⟨by omega,by show _≤bn;omega,by show _≤bc;omega,by show _≤br;omega⟩⟩
  ·have:=Qf (((w.alloc (.map #[] 0)).alloc (.map #[] 0)).alloc (.map #[] 0)) (.cells #[.slice none 0 0,.slice none 0 0,.slice none 0 0,.slice none 0 0,.map none,.pointer none,.map (some bn),.map (some bc),.map (some br),.slice none 0 0] TGr);rw[e3,←hW] at this;exact this
  ·have:=(((MapA.new w TS).kn ((Qb _ _).alloc (.map #[] 0))).kn ((Qb _ _).alloc (.map #[] 0))).kn ((Qb _ _).alloc (.cells #[.slice none 0 0,.slice none 0 0,.slice none 0 0,.slice none 0 0,.map none,.pointer none,.map (some bn),.map (some bc),.map (some br),.slice none 0 0] TGr));rw[←hW,←hbn] at this;exact this
  ·have:=(((MapA.new (w.alloc (.map #[] 0)) TS)).kn ((Qb _ _).alloc (.map #[] 0))).kn ((Qb _ _).alloc (.cells #[.slice none 0 0,.slice none 0 0,.slice none 0 0,.slice none 0 0,.map none,.pointer none,.map (some bn),.map (some bc),.map (some br),.slice none 0 0] TGr));rw[←hW,e1] at this;exact this
  ·have:=(MapA.new ((w.alloc (.map #[] 0)).alloc (.map #[] 0)) TS).kn ((Qb _ _).alloc (.cells #[.slice none 0 0,.slice none 0 0,.slice none 0 0,.slice none 0 0,.map none,.pointer none,.map (some bn),.map (some bc),.map (some br),.slice none 0 0] TGr));rw[←hW,e2] at this;exact this
 have HRD:=Qh hrd;have HOK:Hid (RSok RS.none_):=Qh ⟨by simp[RS.none_],by simp[RS.none_],by simp[RS.none_],by simp[RS.none_],fun s h=>by simp[RS.none_] at h,fun s h=>by simp[RS.none_] at h,fun s h=>by simp[RS.none_] at h⟩;have HW:=Qh hW;have HB:=Qh (And.intro hbn (And.intro hbc (And.intro hbr hp)));have HM:=Qh (fun w' (hk:Kn w w')=>hm.kn hk);clear hrd hW e1 e2 e3 hbn hbc hbr hp hm;go_enter Tryz.func21,Tryz.ntmps21;go_upto_region 4 with fail
 rw[←HB.out.2.2.2,←HB.out.2.2.1,←HB.out.2.1,←HB.out.1,←HW.out];go_wp2_with fail
 go_loopw [0,6] (fun s0 s6 wr=>∃(f n:Nat) (R:RS) (A:RA) (s:ByteArray),s0= .string s∧s6= .int .i64 n∧Hid (RS.gather f n R s=RS.gather (text.size+1) 1 RS.none_ text)∧s.size<f∧n+s.size≤text.size+1∧1≤n∧Hid (RdAt wr w.heap.size p R A)∧Hid (RSok R)∧Hid (A.vr= .slice none 0 0∧A.sc= .pointer none)∧Kn w wr) (fun s0 _ _=>strSz s0)
 case atStart=>exact⟨text.size+1,1,RS.none_,_,text,rfl,rfl,Qh rfl,by omega,by omega,Nat.le_refl _,HRD,HOK,Qh ⟨rfl,rfl⟩,hkW⟩
 case round=>
  clear HRD HOK;obtain⟨f,n,R,A,s,rfl,rfl,hga,hf,hn,hn1,hrd,hok,hnl,hkn⟩:=hrel;by_cases h0:s.size=0
  ·have he:=isE_true h0;obtain⟨f2,rfl⟩:∃f2,f=f2+1:=⟨f-1,by omega⟩;have HG:Hid (RS.gather (text.size+1) 1 RS.none_ text=some R):=Qh (by rw[←hga.out];exact gather_end _ _ _ _ h0);have HFI:=Qh (finish_c hrd.out hok.out hnl.out.1 hnl.out.2);clear h0 hga;go_wp2_with fail
   refine HFI.out.mono ?_;rintro e w2 ⟨k,n2,rfl,hk2,hmt⟩;have hkn2:=hkn.trans' hk2 (fun i hi e=>by omega);cases hfi:finF R with
   |none=>
    rw[hfi] at hmt;dsimp only at hmt;have hn2:(n2==0)=false:=by rw[beq_eq_false_iff_ne];exact hmt
    have hF:Hid (parseF text=none):=Qh (by rw[HP.out,HG.out];dsimp only;rw[hfi]);have HN:=Qh hmt;clear hfi hmt HP;go_wp2_with fail
    go_ret3
    refine⟨hkn2,?_⟩;rw[hF.out];exact⟨k,n2,HN.out,rfl⟩
   |some r=>
    rw[hfi] at hmt;dsimp only at hmt;obtain⟨rfl,rfl,hgr⟩:=hmt;have hF:Hid (parseF text=some (R,r.1,r.2)):=Qh (by rw[HP.out,HG.out];dsimp only;rw[hfi]);have HGR:=Qh hgr;clear hfi hgr HP;go_wp2_with fail
    go_ret3
    refine⟨hkn2,?_⟩;rw[hF.out];exact⟨p,rfl,HGR.out⟩
  ·have he:=Yw h0;obtain⟨f2,rfl⟩:∃f2,f=f2+1:=⟨f-1,by omega⟩;have hst:=gather_step f2 n R s h0;rw[hga.out] at hst;have HC:=Qh (cut_c s ⟨#[10]⟩ wr (HM.out wr hkn) (by omega));change _=if cutT s ⟨#[10]⟩=true then(match R.take n (cutA s ⟨#[10]⟩) with|some R1=>RS.gather f2 (n+1) R1 (cutZ s ⟨#[10]⟩)|none=>none) else none at hst;have hca:=cutA_le s ⟨#[10]⟩;cases ht:cutT s ⟨#[10]⟩ with
   |false=>
    rw[ht] at hst HC;have hF:Hid (parseF text=none):=Qh (by rw[HP.out,hst];try rfl);clear hst ht h0 hga HP;go_wp2_with fail
    refine HC.out.mono ?_;rintro e w2 ⟨rfl,hk2⟩;have hkn2:=hkn.trans hk2;go_wp2_with fail
    go_ret3
    refine⟨hkn2,?_⟩;rw[hF.out];exact⟨n,4,by decide,rfl⟩
   |true=>
    rw[ht] at hst HC;have hlt:=cutZ_lt ht (by decide) h0;obtain⟨la,hla⟩:∃la,la=cutA s ⟨#[10]⟩:=⟨_,rfl⟩;obtain⟨lz,hlz⟩:∃lz,lz=cutZ s ⟨#[10]⟩:=⟨_,rfl⟩;rw[←hla,←hlz] at hst HC;rw[←hla] at hca;rw[←hlz] at hlt;have HST:=Qh hst;clear hst ht h0 hga hla hlz;go_wp2_with fail
    refine HC.out.mono ?_;rintro e w2 ⟨rfl,hk2⟩;have hkn2:=hkn.trans hk2;have HTK:=Qh (take_c (num:=n) la (hrd.out.kn hk2) hok.out (HM.out w2 hkn2) (by omega) (by omega));clear hrd;go_wp2_with fail
    refine HTK.out.mono ?_;rintro e w3 ⟨n3,rfl,hk3,hmt⟩;have hkn3:=hkn2.trans' hk3 (fun i hi e=>by omega);cases htk:R.take n la with
    |none=>
     rw[htk] at hmt;dsimp only at hmt;have hn2:(n3==0)=false:=by rw[beq_eq_false_iff_ne];exact hmt
     have hF:Hid (parseF text=none):=Qh (by rw[HP.out,HST.out,htk];try rfl);have HN:=Qh hmt;clear htk hmt HP;go_wp2_with fail
     go_ret3
     refine⟨hkn3,?_⟩;rw[hF.out];exact⟨n,n3,HN.out,rfl⟩
    |some R2=>
     rw[htk] at hmt;dsimp only at hmt;obtain⟨rfl,hok2,A2,hrd2,hv2,hs2⟩:=hmt;have HGA:Hid (RS.gather f2 (n+1) R2 lz=RS.gather (text.size+1) 1 RS.none_ text):=Qh (by rw[HST.out,htk];try rfl);have HRD2:=Qh hrd2;have HOK2:=Qh hok2;have HNL2:=Qh (And.intro (hv2.trans hnl.out.1) (hs2.trans hnl.out.2));clear htk hrd2 hok2 hv2 hs2;go_wp2_with fail
     go_roundw
     case rel=>exact⟨f2,n+1,R2,A2,lz,rfl,by go_num,HGA,by omega,by omega,by omega,HRD2,HOK2,HNL2,hkn3⟩
     case measure=>simp[strSz];omega
end Go.Proofs.YtiehgcfckhepaaaGreatDoor
namespace Go.Proofs.YtiehgcfckhepaaaGreatDoor
def exB:ByteArray:=⟨#[116,111,107,101,110,32,110,117,109,32,91,48,45,57,93,43,10,115,111,114,116,32,101,10,114,117,108,101,32,101,32,49,32,65,100,100,32,61,32,101,58,49,32,39,43,32,101,58,50,10,114,117,108,101,32,101,32,57,32,78,117,109,32,61,32,110,117,109,10,98,114,97,99,107,101,116,32,101,32,39,40,32,39,41,10]⟩
def exC:GC:=⟨⟨#[110,117,109]⟩,⟨#[91,48,45,57,93,43]⟩,false⟩
instance:DecidableEq GC:=fun a b=>if h:a.name=b.name∧a.regex=b.regex∧a.layout=b.layout then isTrue (by cases a;cases b;obtain⟨h0,h1,h2⟩:=h;simp only at*;subst_vars;rfl) else isFalse (fun e=>h (by subst e;exact⟨rfl,rfl,rfl⟩))
instance:DecidableEq GW:=fun a b=>if h:a.lit=b.lit∧a.name=b.name∧a.level=b.level∧a.sort=b.sort then isTrue (by cases a;cases b;obtain⟨h0,h1,h2,h3⟩:=h;simp only at*;subst_vars;rfl) else isFalse (fun e=>h (by subst e;exact⟨rfl,rfl,rfl,rfl⟩))
instance:DecidableEq GL:=fun a b=>if h:a.number=b.number∧a.sort=b.sort∧a.cons=b.cons∧a.level=b.level∧a.words=b.words∧a.round=b.round then isTrue (by cases a;cases b;obtain⟨h0,h1,h2,h3,h4,h5⟩:=h;simp only at*;subst_vars;rfl) else isFalse (fun e=>h (by subst e;exact⟨rfl,rfl,rfl,rfl,rfl,rfl⟩))
instance:DecidableEq RS:=fun a b=>if h:a.lits=b.lits∧a.cls=b.cls∧a.sorts=b.sorts∧a.names=b.names∧a.cons=b.cons∧a.rounds=b.rounds∧a.lines=b.lines then isTrue (by cases a;cases b;obtain⟨h0,h1,h2,h3,h4,h5,h6⟩:=h;simp only at*;subst_vars;rfl) else isFalse (fun e=>h (by subst e;exact⟨rfl,rfl,rfl,rfl,rfl,rfl,rfl⟩))
instance:DecidableEq GP:=fun a b=>if h:a.cls=b.cls∧a.sort=b.sort∧a.level=b.level∧a.fixed=b.fixed then isTrue (by cases a;cases b;obtain⟨h0,h1,h2,h3⟩:=h;simp only at*;subst_vars;rfl) else isFalse (fun e=>h (by subst e;exact⟨rfl,rfl,rfl,rfl⟩))
instance:DecidableEq GR:=fun a b=>if h:a.sort=b.sort∧a.cons=b.cons∧a.level=b.level∧a.parts=b.parts then isTrue (by cases a;cases b;obtain⟨h0,h1,h2,h3⟩:=h;simp only at*;subst_vars;rfl) else isFalse (fun e=>h (by subst e;exact⟨rfl,rfl,rfl,rfl⟩))
def exE:ByteArray:=⟨#[101]⟩
def exR:RS:=⟨[⟨#[43]⟩,⟨#[40]⟩,⟨#[41]⟩],[exC],[exE],[exC.name,exE],[⟨#[65,100,100]⟩,⟨#[78,117,109]⟩],[exE],[
 ⟨3,exE,⟨#[65,100,100]⟩,1,[⟨emptyB,exE,1,true⟩,⟨⟨#[43]⟩,emptyB,0,false⟩,⟨emptyB,exE,2,true⟩],false⟩,
 ⟨4,exE,⟨#[78,117,109]⟩,9,[⟨emptyB,exC.name,0,false⟩],false⟩,
 ⟨5,exE,emptyB,9,[⟨⟨#[40]⟩,emptyB,0,false⟩,⟨emptyB,exE,0,true⟩,⟨⟨#[41]⟩,emptyB,0,false⟩],true⟩]⟩
theorem ex_rest:RS.linkGo exR exR.lines [] []=some ([⟨0,⟨#[65,100,100]⟩,1,[⟨-1,0,1,false⟩,⟨0,-1,0,true⟩,⟨-1,0,2,false⟩]⟩,⟨0,⟨#[78,117,109]⟩,9,[⟨3,-1,0,false⟩]⟩,⟨0,emptyB,9,[⟨1,-1,0,true⟩,⟨-1,0,0,false⟩,⟨2,-1,0,true⟩]⟩],[(0,2)]):=by decide+kernel
theorem ex_gather:RS.gather 81 1 RS.none_ exB=some exR:=by decide+kernel
def decX(i:Nat):ByteArray:=if i<10 then⟨#[UInt8.ofNat (48+i)]⟩ else if i<100 then⟨#[UInt8.ofNat (48+i/10),UInt8.ofNat (48+i%10)]⟩ else⟨(Lib.decDigits i).toArray⟩
theorem decB_X:decB=decX:=by
 funext i;unfold decB decX;split
 ·rename_i h;rw[Lib.decDigits_one h]
 ·split
  ·rename_i h1 h2;rw[Lib.decDigits_two h1 h2]
  ·rfl
def litG(dec:Nat→ByteArray)(R:RS):List GC:=R.lits.zipIdx.map (fun p=>⟨(⟨#[108,105,116]⟩:ByteArray)++dec p.2,escF p.1,false⟩)
theorem clsOf_G(R:RS):QJ R=litG decX R++R.cls:=by rw[←decB_X];try rfl
def exRs:List GR:=[⟨0,⟨#[65,100,100]⟩,1,[⟨-1,0,1,false⟩,⟨0,-1,0,true⟩,⟨-1,0,2,false⟩]⟩,⟨0,⟨#[78,117,109]⟩,9,[⟨3,-1,0,false⟩]⟩,⟨0,emptyB,9,[⟨1,-1,0,true⟩,⟨-1,0,0,false⟩,⟨2,-1,0,true⟩]⟩]
theorem ex_cls:(Yn (QJ exR)).isSome=true:=by rw[clsOf_G];decide+kernel
theorem ex_parse:parseF exB=some (exR,exRs,[(0,2)]):=by
 have h1:RS.gather (exB.size+1) 1 RS.none_ exB=some exR:=ex_gather;unfold parseF;rw[h1];dsimp only;have h2:finF exR=some (exRs,[(0,2)]):=by
  unfold finF;rw[ex_rest];dsimp only;rw[if_neg (by decide),if_neg (by rw[clsOf_G];decide),if_pos ex_cls];rfl
 rw[h2]
def cB:ByteArray:=⟨#[116,111,107,101,110,32,105,32,105,10,115,111,114,116,32,101,10,114,117,108,101,32,101,32,48,32,65,109,98,32,61,32,101,58,48,32,101,58,48,10,114,117,108,101,32,101,32,48,32,73,32,61,32,105,10]⟩
def cI:ByteArray:=⟨#[105]⟩
def cE:ByteArray:=⟨#[101]⟩
def cR:RS:=⟨[],[⟨cI,cI,false⟩],[cE],[cI,cE],[⟨#[65,109,98]⟩,⟨#[73]⟩],[],[⟨3,cE,⟨#[65,109,98]⟩,0,[⟨emptyB,cE,0,true⟩,⟨emptyB,cE,0,true⟩],false⟩,⟨4,cE,⟨#[73]⟩,0,[⟨emptyB,cI,0,false⟩],false⟩]⟩
def cRs:List GR:=[⟨0,⟨#[65,109,98]⟩,0,[⟨-1,0,0,false⟩,⟨-1,0,0,false⟩]⟩,⟨0,⟨#[73]⟩,0,[⟨0,-1,0,false⟩]⟩]
theorem c_gather:RS.gather (cB.size+1) 1 RS.none_ cB=some cR:=by decide+kernel
theorem c_rest:RS.linkGo cR cR.lines [] []=some (cRs,[]):=by decide+kernel
theorem c_cls:(Yn (QJ cR)).isSome=true:=by rw[clsOf_G];decide+kernel
theorem c_parse:parseF cB=some (cR,cRs,[]):=by
 unfold parseF;rw[c_gather];dsimp only;have h2:finF cR=some (cRs,[]):=by
  unfold finF;rw[c_rest];dsimp only;rw[if_neg (by decide),if_neg (by rw[clsOf_G];decide),if_pos c_cls]
 rw[h2]
theorem c_rok:RulesOk cRs:=⟨by decide,by decide,fun r hr q hq=>⟨by revert q;revert r;decide,by revert q;revert r;decide,by revert q;revert r;decide⟩,by decide⟩
def ch3:Yk:=(YO (YX cRs).l [0,0,0] 9 (List.range 4) []).getD []
def ch2:Yk:=(YO (YX cRs).l [0,0] 9 (List.range 3) []).getD []
theorem ch3_eq:YO (YX cRs).l [0,0,0] 9 (List.range 4) []=some ch3:=by
 have h:(YO (YX cRs).l [0,0,0] 9 (List.range 4) []).isSome=true:=by decide+kernel
 obtain⟨a,ha⟩:=Option.isSome_iff_exists.1 h;unfold ch3;rw[ha];try rfl
theorem ch2_eq:YO (YX cRs).l [0,0] 9 (List.range 3) []=some ch2:=by
 have h:(YO (YX cRs).l [0,0] 9 (List.range 3) []).isSome=true:=by decide+kernel
 obtain⟨a,ha⟩:=Option.isSome_iff_exists.1 h;unfold ch2;rw[ha];try rfl
theorem ch3_trees:Qv ch3 (0,0,3)=2:=by decide+kernel
theorem ch2_trees:Qv ch2 (0,0,2)=1:=by decide+kernel
theorem ch3_clear:clearF ch3=false:=by decide+kernel
theorem ch2_clear:clearF ch2=true:=by decide+kernel
open Go.RowKit Go.Maps
theorem ex_size:exB.size≤1000000:=by decide
theorem ex_rok:RulesOk exRs:=⟨by decide,by decide,fun r hr q hq=>⟨by revert q;revert r;decide,by revert q;revert r;decide,by revert q;revert r;decide⟩,by decide⟩
theorem c_size:cB.size≤1000000:=by decide
theorem chNewX_c{ps g c:Nat}{X:SX}{w:World}(h:SetsIn w ps X)(tx:List Int)(h0:0<tx.length)(h100:tx.length≤100)(hc:∀j,j<tx.length→w.cell? ⟨g,j,none⟩=some (.int .i64 (tx.getD j 0)))
  {fuel:Nat} {Z:Yk} (hz:YO X.b.l tx fuel (List.range (tx.length+1)) []=some Z):
  Calls Tryz.prog 23 #[ptr ps,.slice (some ⟨g,0,none⟩) tx.length c] w (ChNewPost tx Z w):=by
 obtain⟨B,A,ge,gf,gw,hst,hok,_⟩:=h;exact chNew_c hst hok tx h0 h100 hc hz
theorem cawake_c(w:World)(hm:MaxLenAt w):Calls Tryz.prog 20 #[] w fun e w'=>e= .returned (.bool true)∧Kn w w':=by
 have HPC:=Qh (gparse_c cB w hm c_size);clear hm;go_enter Tryz.func20,Tryz.ntmps20;go_upto_region 2 with(first
  |(go_at_call 21;go_must (refine HPC.out.mono ?_;rintro e w1 ⟨hk1,hpp⟩;rw[c_parse] at hpp;obtain⟨p,rfl,hg⟩:=hpp;have HN:=Qh (setsNew_c hg c_rok);have HK1:=Qh hk1;clear hk1 HPC hg)))
 go_upto_region 3 with(go_at_call 22;go_must (refine HN.out.mono ?_;rintro e w2 ⟨ps,X,rfl,hs,hX,hk2⟩;have HS:=Qh hs;have HXb:=Qh hX.1;have HK2:=Qh (HK1.out.trans hk2);clear HN hs hX hk2 HK1))
 obtain⟨g,hg⟩:∃g,g=w2.heap.size:=⟨_,rfl⟩;obtain⟨w3,hw3⟩:∃x,x=w2.alloc (.cells #[.int .i64 0,.int .i64 0,.int .i64 0] 3):=⟨_,rfl⟩;have hk3:Kn w2 w3:=by rw[hw3];exact(Qb _ _).alloc _
 have hB3:w3.heap[g]? =some (.cells #[.int .i64 0,.int .i64 0,.int .i64 0] 3 (0,0)):=by rw[hw3,hg];exact Qf _ _
 have H3:Hid (Calls Tryz.prog 23 #[ptr ps,.slice (some ⟨g,0,none⟩) 3 3] w3 (ChNewPost [0,0,0] ch3 w3)):=Qh (chNewX_c (HS.out.kn hk3) [0,0,0] (by decide) (by decide) (fun j hj=>by
  rw[Qa hB3];have:j=0∨j=1∨j=2:=by simp at hj;omega
  rcases this with rfl|rfl|rfl<;>rfl) (fuel:=9) (by rw[HXb.out];exact ch3_eq))
 have HW3:=Qh (And.intro hw3 hg);have HK3:=Qh (HK2.out.trans hk3);have HS3:=Qh (HS.out.kn hk3);clear hg hw3 hk3 hB3;go_wp2_with fail
 rw[←HW3.out.1,←HW3.out.2];refine H3.out.mono ?_;rintro e w4 ⟨pc,rfl,hch,hk4⟩;have HC:=Qh hch;have HK4:=Qh (HK3.out.trans hk4);have HS4:=Qh (HS3.out.kn hk4);clear hch hk4 H3 HW3;go_upto_region 4 with fail
 obtain⟨g2,hg2⟩:∃g,g=w4.heap.size:=⟨_,rfl⟩;obtain⟨w5,hw5⟩:∃x,x=w4.alloc (.cells #[.int .i64 0,.int .i64 0] 3):=⟨_,rfl⟩;have hk5:Kn w4 w5:=by rw[hw5];exact(Qb _ _).alloc _
 have hB5:w5.heap[g2]? =some (.cells #[.int .i64 0,.int .i64 0] 3 (0,0)):=by rw[hw5,hg2];exact Qf _ _
 have H5:Hid (Calls Tryz.prog 23 #[ptr ps,.slice (some ⟨g2,0,none⟩) 2 2] w5 (ChNewPost [0,0] ch2 w5)):=Qh (chNewX_c (HS4.out.kn hk5) [0,0] (by decide) (by decide) (fun j hj=>by
  rw[Qa hB5];have:j=0∨j=1:=by simp at hj;omega
  rcases this with rfl|rfl<;>rfl) (fuel:=9) (by rw[HXb.out];exact ch2_eq))
 have HW5:=Qh (And.intro hw5 hg2);have HK5:=Qh (HK4.out.trans hk5);have HC5:=Qh (HC.out.kn hk5);clear hg2 hw5 hk5 hB5;go_wp2_with fail
 rw[←HW5.out.1,←HW5.out.2];refine H5.out.mono ?_;rintro e w6 ⟨pc2,rfl,hch,hk6⟩;have HC6:=Qh (HC5.out.kn hk6);have HD6:=Qh hch;have HK6:=Qh (HK5.out.trans hk6);have T6:=Qh (trees_c HC6.out (by decide));have L6:=Qh (clear_c HC6.out);clear hch hk6 H5 HW5;rw[show Qv ch3 (0,0,List.length [(0:Int),0,0])=2 from ch3_trees] at T6;rw[ch3_clear] at L6;go_wp2_with fail
 refine T6.out.mono ?_;rintro e w' ⟨rfl,rfl⟩;go_wp2_with fail
 refine L6.out.mono ?_;rintro e w7 ⟨rfl,hk7⟩;have T7:=Qh (trees_c (HD6.out.kn hk7) (by decide));have L7:=Qh (clear_c (HD6.out.kn hk7));have HK7:=Qh (HK6.out.trans hk7);rw[show Qv ch2 (0,0,List.length [(0:Int),0])=1 from ch2_trees] at T7;rw[ch2_clear] at L7;clear hk7;go_wp2_with fail
 refine T7.out.mono ?_;rintro e w' ⟨rfl,rfl⟩;go_wp2_with fail
 refine L7.out.mono ?_;rintro e w8 ⟨rfl,hk8⟩;have HK8:=Qh (HK7.out.trans hk8);clear hk8;go_wp2_with fail
 go_ret;exact⟨rfl,HK8.out⟩
theorem mk101_c(w:World):∃w',(Instr.makeSlice 28 (.int .i64 101) (.int .i64 101)).run Tryz.prog w= .ok (.slice (some ⟨w.heap.size,0,none⟩) 101 101) w'∧Kn w w':=by
 obtain⟨i0,hi,hz0,hz1,hz2⟩:=info_parts info_int;obtain⟨w',h1,_,h3⟩:=run_make_full (P:=Tryz.prog) w 0 28 3 i0 _ 1 Tryz.underlying28 hi hz0 hz1 .i64 .i64 101 (by rw[hz2];omega) (by unfold maxLen;omega) (Nat.zero_le _);exact⟨w',h1,QL (S:=fun _=>False) h3 (fun k e _=>by cases e)⟩
theorem cnone_c(x y z:Int)(w:World)(hm:MaxLenAt w):Calls Tryz.prog 5 #[.int .i64 x,.int .i64 y,.int .i64 z] w fun e w'=>e= .returned (.bool true)∧Kn w w':=by
 have HA:=Qh (cawake_c w hm);have HM:=Qh (fun(w':World) (hk:Kn w w')=>gparse_c exB w' (hm.kn hk) ex_size);clear hm;go_enter Tryz.func5,Tryz.ntmps5;go_wp2_with fail
 refine HA.out.mono ?_;rintro e w1 ⟨rfl,hk1⟩;have HK1:=Qh hk1;have HP:=Qh (HM.out w1 hk1);clear hk1 HA HM;go_upto_region 5 with(first
  |(go_at_call 21;go_must (refine HP.out.mono ?_;rintro e w2 ⟨hk2,hpp⟩;rw[ex_parse] at hpp;obtain⟨p,rfl,hg⟩:=hpp;have HN:=Qh (setsNew_c hg ex_rok);have HK2:=Qh (HK1.out.trans hk2);clear hk2 HP hg)))
 go_upto_region 6 with(go_at_call 22;go_must (refine HN.out.mono ?_;rintro e w3 ⟨ps,X,rfl,_,_,hk3⟩;have HK3:=Qh (HK2.out.trans hk3);clear HN hk3))
 go_wp2_with fail
 refine(chNew_nil _ _ _ _).mono ?_;rintro e w' ⟨rfl,rfl⟩;obtain⟨w4,hr4,hk4⟩:=mk101_c (w3.alloc (.cells #[.int .i64 1] 3));have HK4:=Qh ((HK3.out.alloc (.cells #[.int .i64 1] 3)).trans hk4);clear hk4;go_wp2_with fail
 refine(chNew_long _ _ _).mono ?_;rintro e w' ⟨rfl,rfl⟩;have H1:=Qh (fun w=>many_nil x y z w);have H2:=Qh (fun w=>chlen_nil w);have H3:=Qh (fun w=>spans_nil x w);have H4:=Qh (fun w=>trees_nil w);have H5:=Qh (fun w=>clear_nil w);clear hr4;go_wp2_with (first
  |(go_at_call 24;go_must (refine(H1.out _).mono ?_;rintro e w' ⟨rfl,rfl⟩))
  |(go_at_call 25;go_must (refine(H2.out _).mono ?_;rintro e w' ⟨rfl,rfl⟩))
  |(go_at_call 26;go_must (refine(H3.out _).mono ?_;rintro e w' ⟨rfl,rfl⟩))
  |(go_at_call 27;go_must (refine(H4.out _).mono ?_;rintro e w' ⟨rfl,rfl⟩))
  |(go_at_call 28;go_must (refine(H5.out _).mono ?_;rintro e w' ⟨rfl,rfl⟩)))
 go_ret;exact⟨rfl,HK4.out⟩
end Go.Proofs.YtiehgcfckhepaaaGreatDoor
