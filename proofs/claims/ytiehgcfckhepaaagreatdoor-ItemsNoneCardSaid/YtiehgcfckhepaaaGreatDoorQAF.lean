/-
  Texts of this claim, laid together: SMeans, SClone, SClass, LPure, LRow, LLive, LKey, LRw, LAgain, LKinds, LFrom, LSlice. Conditions: none.
-/
import Derived.Test.YtiehgcfckhepaaaGreatDoorQAB
import Derived.Test.YtiehgcfckhepaaaGreatDoorQAE
import Derived.Lib.SliceRun
import Derived.Laws.OwnMore
import Derived.Deep.LoopGhost
import Derived.Great.BuildSlice
set_option linter.unusedVariables false
set_option linter.unusedSimpArgs false
set_option maxRecDepth 100000
set_option maxHeartbeats 16000000
namespace Go.Proofs.YtiehgcfckhepaaaGreatDoor
open Go.RowKit
theorem ncount_le:∀t:Rw,Qr t≤t.size
 | .set _=>by simp[Qr,Re.size]
 | .empty=>by simp[Qr]
 | .cat x y=>by have:=ncount_le x;have:=ncount_le y;simp only[Qr,Re.size];omega
 | .or x y=>by have:=ncount_le x;have:=ncount_le y;simp only[Qr,Re.size];omega
 | .star x=>by have:=ncount_le x;simp only[Qr,Re.size];omega
theorem DfaAt.dl{w:World}{pd:Nat}{l:List DS}(h:DfaAt w pd l):DL l:=by obtain⟨_,_,_,_,h⟩:=h;exact h
theorem any_acc{l:List DS}{k:Nat}(hk:k<l.length)(h:dac l k≠-1):l.any (fun s=>decide (s.accept≠-1))=true:=by
 refine List.any_eq_true.2 ⟨l[k],List.getElem_mem hk,?_⟩;unfold dac at h;rw[List.getElem?_eq_getElem hk] at h;simpa using h
theorem none_acc{l:List DS}(h:∀k,k<l.length→dac l k= -1):l.any (fun s=>decide (s.accept≠-1))=false:=by
 cases hx:l.any (fun s=>decide (s.accept≠-1)) with
 |false=>rfl
 |true=>
  obtain⟨s,hs,h1⟩:=List.any_eq_true.1 hx;obtain⟨k,hk,rfl⟩:=List.getElem_of_mem hs;have:=h k hk;unfold dac at this;rw[List.getElem?_eq_getElem hk] at this;simp[this] at h1
theorem means_c(t:Rw)(q:Nat)(w:World)(h:NodeAt w t q)(hsz:t.size≤400):
  Calls Tryz.prog 213 #[ptr q] w fun e w'=>e= .returned (.bool (YV t))∧Kn w w':=by
 have HN:=Qh (Nullable_c t q w h);cases hn:t.nullable with
 |true=>
  rw[hn] at HN;have hF:Hid (YV t=false):=Qh (by simp[YV,hn]);clear h hn;go_enter Tryz.func213,Tryz.ntmps213;go_wp2_with fail
  refine HN.out.mono ?_;rintro e w' ⟨rfl,rfl⟩;go_wp2_with fail
  go_ret;exact⟨by rw[hF.out];try rfl,Qb _ _⟩
 |false=>
  rw[hn] at HN;have hc:nsum [t] 1≤400:=by
   have:=ncount_le t;simp[nsum];omega
  have HOK:=Qh (nfaF_ok [t] (by simpa using Nat.le_trans hc (by omega)) (by simp));have hF:Hid (YV t=(nfaF [t]).some_):=Qh (by simp[YV,hn]);have HC:=Qh hc;have hk1:Kn w (w.alloc (.cells #[ptr q] 295)):=(Qb _ _).alloc _;have HNEW:Hid (Calls Tryz.prog 163 #[.slice (some ⟨w.heap.size,0,none⟩) 1 1] (w.alloc (.cells #[ptr q] 295)) (NewPost [t] (w.alloc (.cells #[ptr q] 295)))):=
   Qh (New_c [t] [q] (some ⟨w.heap.size,0,none⟩) 1 _ (.cons (h.kn hk1) .nil) (fun i hi=>⟨_,rfl,by
    have e:i=0:=by simp at hi;exact hi
    subst e;rw[Qa (Qf w _)];try rfl⟩) (by simp) (by simp) (fun x hx=>by simp at hx;subst hx;omega))
  have HK1:=Qh hk1;clear h hn hc hk1;go_enter Tryz.func213,Tryz.ntmps213;go_wp2_with fail
  refine HN.out.mono ?_;rintro e w' ⟨rfl,rfl⟩;go_wp2_with fail
  refine HNEW.out.mono ?_;rintro e w2 ⟨hk2,⟨h2,_⟩|⟨_,pm,rfl,hna⟩⟩
  ·exact absurd h2 (by have:=HC.out;simp at this⊢;omega)
  ·have HD:=Qh (DNew_c hna HOK.out);have hkn2:=HK1.out.trans hk2;clear hna hk2 HNEW HK1;go_wp2_with fail
   refine HD.out.mono ?_;rintro e w3 ⟨hk3,hm⟩;have hkn3:=hkn2.trans hk3;cases hd:(nfaF [t]).dfa with
   |none=>
    rw[hd] at hm;dsimp only at hm;subst hm;have hF2:Hid (YV t=true):=Qh (by rw[hF.out];unfold NM.some_;rw[hd]);clear hd hF;go_wp2_with fail
    go_ret;exact⟨by rw[hF2.out];try rfl,hkn3⟩
   |some l=>
    rw[hd] at hm;dsimp only at hm;obtain⟨pd,hpd,rfl,hda⟩:=hm;have hF2:Hid (YV t=l.any (fun s=>decide (s.accept≠-1))):=Qh (by rw[hF.out];unfold NM.some_;rw[hd]);have HDA:=Qh hda;have HS:=Qh (DStates_c pd l w3 hda);have hll:=hda.dl.len;clear hd hF hda hpd hk3;go_wp2_with fail
    refine HS.out.mono ?_;rintro e w4 ⟨rfl,rfl⟩;go_wp2_with fail
    go_loopw [28] (fun i wr=>w4=wr∧∃k:Nat,k≤l.length∧i= .int .i64 k∧Hid (∀j,j<k→dac l j= -1)) (fun i _=>l.length-(intOf i).toNat)
    case atStart=>exact⟨rfl,0,Nat.zero_le _,rfl,Qh (fun j hj=>by omega)⟩
    case round=>
     obtain⟨rfl,k,hk,rfl,hno⟩:=hrel;by_cases hlt:k<l.length
     ·have HA:=Qh (DAccept_c pd k l w4 HDA.out hlt);by_cases hx:dac l k= -1
      ·rw[hx] at HA;have HX:=Qh hx;clear hx;go_wp2_with fail
       refine HA.out.mono ?_;rintro e w5 ⟨rfl,rfl⟩;go_wp2_with fail
       go_roundw
       case rel=>exact⟨by trivial,k+1,by omega,by go_num,Qh (fun j hj=>by
        rcases Nat.lt_succ_iff_lt_or_eq.1 hj with h1|h1
        ·exact hno.out j h1
        ·subst h1;exact HX.out)⟩
       case measure=>simp[intOf];omega
      ·have HX:Hid (YV t=true):=Qh (by rw[hF2.out];exact any_acc hlt hx);obtain⟨x,hxe⟩:∃x,x=dac l k:=⟨_,rfl⟩;rw[←hxe] at HA hx;have hx2:(x== -1)=false:=by rw[beq_eq_false_iff_ne];exact hx
       clear hxe;go_wp2_with fail
       refine HA.out.mono ?_;rintro e w5 ⟨rfl,rfl⟩;go_wp2_with fail
       go_ret;exact⟨by rw[HX.out];try rfl,hkn3⟩
     ·obtain rfl:k=l.length:=by omega
      have HX:Hid (YV t=false):=Qh (by rw[hF2.out];exact none_acc hno.out);go_wp2_with fail
      go_ret;exact⟨by rw[HX.out];try rfl,hkn3⟩
structure GC where
 name:ByteArray
 regex:ByteArray
 layout:Bool
def clL(c:GC):List Value:=[.string c.name,.string c.regex,.bool c.layout]
def clC(cs:List GC):List Value:=(cs.map clL).flatten
abbrev TCl:TypeId:=113
theorem clC_len(cs:List GC):(clC cs).length=cs.length*3:=by
 unfold clC;rw[YD (k:=3) (fun C hC=>by obtain⟨c,_,rfl⟩:=List.mem_map.1 hC;rfl),List.length_map]
theorem clC_one(cs:List GC):∀u∈clC cs,u.oneCell'=true:=by
 intro u hu;obtain⟨C,hC,hu⟩:=List.mem_flatten.1 hu;obtain⟨c,_,rfl⟩:=List.mem_map.1 hC;simp[clL] at hu;rcases hu with rfl|rfl|rfl<;>rfl
def ClsR(w:World)(b:Nat)(cs:List GC):Prop:=∀j u,(clC cs)[j]? =some u→w.cell? ⟨b,j,none⟩=some u
theorem ClsR.kp{S:Nat→Prop}{w w':World}{b:Nat}{cs:List GC}(h:ClsR w b cs)(hk:Kp S w w')(hS:¬S b):ClsR w' b cs:=fun j u hj=>Qi hk (h j u hj) hS
theorem ClsR.kn{w w':World}{b:Nat}{cs:List GC}(h:ClsR w b cs)(hk:Kn w w'):ClsR w' b cs:=h.kp hk (fun x=>x)
theorem ClsR.get{w:World}{b:Nat}{cs:List GC}(h:ClsR w b cs){i:Nat}(hi:i<cs.length):
  w.cell? ⟨b,i*3,none⟩=some (.string cs[i].name)∧w.cell? ⟨b,i*3+1,none⟩=some (.string cs[i].regex)∧w.cell? ⟨b,i*3+2,none⟩=some (.bool cs[i].layout):=by
 have h3:∀C∈cs.map clL,C.length=3:=fun C hC=>by obtain⟨c,_,rfl⟩:=List.mem_map.1 hC;rfl
 have g:∀j,j<3→(clC cs)[3*i+j]? =(clL cs[i])[j]? :=fun j hj=>by
  have:=flat_get h3 i j (by simpa using hi) hj;simpa[clC] using this
 refine⟨?_,?_,?_⟩
 ·have:=h (3*i+0) _ ((g 0 (by omega)).trans rfl);rwa[show 3*i+0=i*3 by omega] at this
 ·have:=h (3*i+1) _ ((g 1 (by omega)).trans rfl);rwa[show 3*i+1=i*3+1 by omega] at this
 ·have:=h (3*i+2) _ ((g 2 (by omega)).trans rfl);rwa[show 3*i+2=i*3+2 by omega] at this
theorem info_cl:(Tryz.prog.info? TCl).map (fun i=>(i.zero,i.size,i.bytes))=some (some (.agg #[.string ByteArray.empty,.string ByteArray.empty,.bool false]),3,40):=by kernel_rfl
theorem CloneC_c(b c:Nat)(cs:List GC)(w:World)(hbig:cs.length≤1000000)(hc:ClsR w b cs):
  Calls Tryz.prog 161 #[.slice (some ⟨b,0,none⟩) cs.length c] w fun e w'=>∃v',e= .returned v'∧OwnK w' w.heap.size TCl 3 v' (cs.map clL)∧v'≠.slice none 0 0∧Kn w w':=by
 obtain⟨i0,hi,hz0,hz1,hz2⟩:=info_parts info_cl;have HI:=Qh (And.intro hi (And.intro hz0 (And.intro hz1 hz2)));have q24:∀(w:World) (a:Option Addr) (n c n' c':Nat),(binOp .eql 110 (.slice a n c) (.slice none n' c')).run Tryz.prog w= .ok (.bool a.isNone) w:=fun w a n c n' c'=>Lib.run_eql_slice_nil w _ _ a n c n' c' Tryz.underlying110
 have HC:=Qh hc;clear hc hi hz0 hz1 hz2;go_enter Tryz.func161,Tryz.ntmps161;go_wp2_with (at_builtin;refine wpList_append_own _ rfl _ _ 110 rfl w.heap.size TCl i0 _ 3 40 Tryz.underlying110 HI.out.1 HI.out.2.1 HI.out.2.2.1 HI.out.2.2.2 rfl (by decide) _ _ _ rfl (World.ownsRow_made w #[] 0 (Nat.le_refl _) (Nat.zero_le _) rfl) ⟨b,0,none⟩ cs.length c (clC cs) rfl ?qc1 ?qc2 ?qc3 ?qc4 ?qc5 ?qc6 ?_)
 case qc1=>rw[clC_len]
 case qc2=>
  intro j u hj;have:=HC.out j u hj;have hadd:(⟨b,0,none⟩:Addr).add j=⟨b,j,none⟩:=by unfold Addr.add;split<;>simp_all
  rw[hadd];exact Lib.cell?_alloc_some _ this
 case qc3=>exact clC_one cs
 case qc4=>unfold maxLen;omega
 case qc5=>omega
 case qc6=>simp
 intro v' w1 hown hgrow hnil;go_wp2_with fail
 go_ret;refine⟨v',rfl,by unfold OwnK;rw[List.length_map];unfold clC at hown;simpa using hown,hnil,?_⟩;exact QB (((Below.refl _ w).alloc (Nat.le_refl _) _).grown hgrow (by simp) (by intro k hk;simp[Value.ownBlock] at hk;omega))
open Go.RowKit Go.Maps
def YP(ns:List ByteArray)(x:ByteArray):Bool:=ns.any (fun y=>decide (y=x))
theorem hasS_iff{ns:List ByteArray}{x:ByteArray} :YP ns x=true↔x∈ns:=by
 unfold YP;rw[List.any_eq_true];constructor
 ·rintro⟨y,hy,e⟩;have:=of_decide_eq_true e;subst this;exact hy
 ·intro h;exact⟨x,h,decide_eq_true rfl⟩
theorem hasS_not{ns:List ByteArray}{x:ByteArray} :YP ns x=false↔x∉ns:=by
 rw[←hasS_iff];simp
def nmM(ns:List ByteArray):KV:=ns.zipIdx.map (fun p=>(Value.string p.1,Value.int .i64 (p.2:Nat)))
theorem nmM_mem{ns:List ByteArray}{p:Value×Value} :p∈nmM ns↔∃i,∃h:i<ns.length,p=(.string ns[i],.int .i64 (i:Nat)):=by
 unfold nmM;rw[List.mem_map];constructor
 ·rintro⟨q,hq,rfl⟩;obtain⟨j,hj,rfl⟩:=List.getElem_of_mem hq;have hj':j<ns.length:=by simpa using hj
  exact⟨j,hj',by simp⟩
 ·rintro⟨i,h,rfl⟩;refine⟨(ns[i],i),?_,rfl⟩;exact List.mem_iff_getElem.2 ⟨i,by simp;omega,by simp⟩
theorem nmM_snoc(ns:List ByteArray)(x:ByteArray):nmM (ns++[x])=nmM ns++[(.string x,.int .i64 (ns.length:Nat))]:=by
 unfold nmM;rw[List.zipIdx_append,List.map_append];simp
theorem nmM_not{ns:List ByteArray}{x:ByteArray}(h:x∉ns):∀p∈nmM ns,p.1≠Value.string x:=by
 intro p hp e;obtain⟨i,hi,rfl⟩:=nmM_mem.1 hp;have:ns[i]=x:=by injection e
 exact h (this▸List.getElem_mem hi)
theorem str_keyOf(x:ByteArray)(h:x.size≤1000000):∃l,keyOf Tryz.prog 9 (.string x)=some l:=by
 refine⟨.string x.data.toList,?_⟩;have h1:x.size≤maxLen:=by simp only[maxLen];omega
 simp[keyOf,mapKey,Tryz.underlying9,h1]
abbrev TMsi:TypeId:=179
theorem zero_int(w:World):(zeroValue 3).run Tryz.prog w= .ok (.int .i64 0) w:=Tryz.zeroValue3 w
theorem look_nm(b:Nat)(ns:List ByteArray)(x:ByteArray)(hsz:x.size≤1000000):∃z:Int,∀w,MapA w 9 b (nmM ns)→(Instr.lookup TMsi (.map (some b)) (.string x) true).run Tryz.prog w= .ok (.tuple #[.int .i64 z,.bool (YP ns x)]) w:=by
 obtain⟨l,hl⟩:=str_keyOf x hsz;cases hx:YP ns x with
 |false=>
  exact⟨0,fun w hm=>hm.look0 (string_keyed Tryz.underlying9) Tryz.underlying179 (zero_int w) hl (nmM_not (hasS_not.1 hx)) true⟩
 |true=>
  obtain⟨i,hi,rfl⟩:=List.getElem_of_mem (hasS_iff.1 hx);exact⟨(i:Nat),fun w hm=>hm.look1 (string_keyed Tryz.underlying9) Tryz.underlying179 hl (nmM_mem.2 ⟨i,hi,rfl⟩) true⟩
theorem parseO_err{s:ByteArray}{at_:Nat}{no:Int}(h:YS s= .err at_ no):no≠0:=by
 unfold YS at h;split at h
 ·cases h;decide
 ·split at h
  ·cases h;decide
  ·split at h
   ·cases h;decide
   ·cases h
def clsF(ns:List ByteArray)(i:Nat)(c:GC):Option Rw:=
 if 40≤i then none else if !nmOk c.name||YP ns c.name then none
 else match YS c.regex with| .ok t=>if YV t then some t else none| .err _ _=>none
def ClassPost(ns:List ByteArray)(i:Nat)(c:GC)(w:World)(e:Ending)(w':World):Prop:=
 Kn w w'∧match clsF ns i c with
 |some t=>∃q:Nat,e= .returned (.tuple #[ptr q,.int .i64 0])∧NodeAt w' t q∧t.size≤400
 |none=>∃n:Int,n≠0∧e= .returned (.tuple #[.pointer none,.int .i64 n])
abbrev TSc:TypeId:=269
theorem sclass_c(ps bn i:Nat)(ns:List ByteArray)(c:GC)(w:World)(h2:w.cell? ⟨ps,2,none⟩=some (.map (some bn)))(hm:MapA w 9 bn (nmM ns))(hi:i≤1000000)(hs1:c.name.size≤1000000)(hs2:c.regex.size≤1099511627776):
  Calls Tryz.prog 162 #[ptr ps,.int .i64 i,.agg #[.string c.name,.string c.regex,.bool c.layout]] w (ClassPost ns i c w):=by
 obtain⟨z,hz⟩:=look_nm bn ns c.name hs1;have HLK:=Qh hz;have HM:=Qh hm;have hbl:=hm.lt;have HNM:=Qh (fun W=>sNamed_c c.name W (by omega));have HPA:=Qh (fun W=>Parse_c c.regex W hs2);have HFE:Hid (clsF ns i c=if 40≤i then none else if !nmOk c.name||YP ns c.name then none else match YS c.regex with| .ok t=>if YV t then some t else none| .err _ _=>none):=Qh rfl;obtain⟨nm,hnm⟩:∃x,x=nmOk c.name:=⟨_,rfl⟩;obtain⟨tw,htw⟩:∃x,x=YP ns c.name:=⟨_,rfl⟩;rw[←hnm,←htw] at HFE;rw[←hnm] at HNM;rw[←htw] at HLK;have hpl:=World.block_lt_of_cell? w _ h2;clear hz hm hnm htw hs1 hs2;go_enter Tryz.func162,Tryz.ntmps162;go_upto_region 1 with fail
 obtain⟨W,hW⟩:∃z,z=w.alloc (.cells #[.string c.name,.string c.regex,.bool c.layout] TCl):=⟨_,rfl⟩;have hkW:Kn w W:=by rw[hW];exact(Qb _ _).alloc _
 have hbx:W.heap[w.heap.size]? =some (.cells #[.string c.name,.string c.regex,.bool c.layout] TCl (0,0)):=by rw[hW];exact Qf _ _
 obtain⟨bx,hbxe⟩:∃z,z=w.heap.size:=⟨_,rfl⟩;rw[←hW,←hbxe];rw[←hbxe] at hbx;have c2:=Qc hkW h2;have cm:=HM.out.kn hkW;clear hW hbxe h2;refine wp_region_held_drew (S:=fun w'=>w'.cell? ⟨ps,2,none⟩=some (.map (some bn))∧w'.cell? ⟨bx,0,none⟩=some (.string c.name)∧MapA w' 9 bn (nmM ns)) (by kernel_rfl) ⟨Qc ((Qb _ _).drew) c2,by rw[Qa (((Qb (fun _=>False) W).drew).blk hbx (fun x=>x))];try rfl,cm.kn ((Qb _ _).drew)⟩ (fun hHeld=> ?_);refine TW 0 14 ?_;refine TW 1 15 ?_;refine TW 2 16 ?_;refine TH 3 17 ?_;refine TW 4 18 ?_;refine TH 5 19 ?_;refine TH 6 20 ?_ (hy:=by(intro w hSw;obtain⟨hs1,hs2,hs3⟩:=hSw;have hlk:=HLK.out w hs3;go_simp;try with_reducible rfl));refine TW 7 13 ?_;refine TW 8 21 ?_;refine TW 10 8 ?_;refine TW 9 22 ?_;refine TW 11 9 ?_;refine RD ?_;obtain⟨wd,hwd⟩:∃zz,zz=W.drew:=⟨_,rfl⟩;have hkd:Kn W wd:=by rw[hwd];exact(Qb _ _).drew
 have hkn:=hkW.trans hkd;have b0:wd.cell? ⟨bx,0,none⟩=some (.string c.name):=by rw[Qa (hkd.blk hbx (fun x=>x))];try rfl
 have b1:wd.cell? ⟨bx,1,none⟩=some (.string c.regex):=by rw[Qa (hkd.blk hbx (fun x=>x))];try rfl
 rw[←hwd];have HNM2:=Qh (HNM.out wd);have HPA2:=Qh (HPA.out wd);clear hwd hHeld hkd hbx c2 cm HLK HM HNM HPA;by_cases h40:40≤i
 ·have i40:(40:Int)≤i:=by omega
  have hF:Hid (clsF ns i c=none):=Qh (by rw[HFE.out,if_pos h40]);go_wp2_with fail
  go_ret2
  refine⟨hkn,?_⟩;rw[hF.out];exact⟨3,by decide,rfl⟩
 ·have i40:¬(40:Int)≤i:=by omega
  have h40':=Qh h40;clear h40;cases nm with
  |false=>
   have hF:Hid (clsF ns i c=none):=Qh (by rw[HFE.out,if_neg h40'.out];try rfl);go_wp2_with fail
   refine HNM2.out.mono ?_;rintro e w3 ⟨rfl,rfl⟩;go_wp2_with fail
   go_ret2
   refine⟨hkn,?_⟩;rw[hF.out];exact⟨9,by decide,rfl⟩
  |true=>
   cases tw with
   |true=>
    have hF:Hid (clsF ns i c=none):=Qh (by rw[HFE.out,if_neg h40'.out];try rfl);go_wp2_with fail
    refine HNM2.out.mono ?_;rintro e w3 ⟨rfl,rfl⟩;go_wp2_with fail
    go_ret2
    refine⟨hkn,?_⟩;rw[hF.out];exact⟨9,by decide,rfl⟩
   |false=>
    have hF:Hid (clsF ns i c=match YS c.regex with| .ok t=>if YV t then some t else none| .err _ _=>none):=Qh (by rw[HFE.out,if_neg h40'.out];try rfl);go_wp2_with fail
    refine HNM2.out.mono ?_;rintro e w3 ⟨rfl,rfl⟩;go_wp2_with fail
    refine HPA2.out.mono ?_;rintro e w4 ⟨hk4,hp⟩;have hkn4:=hkn.trans hk4;cases hpo:YS c.regex with
    |err at_ no=>
     rw[hpo] at hp;dsimp only at hp;subst hp;have hno:=parseO_err hpo;have hno2:(no==0)=false:=by rw[beq_eq_false_iff_ne];exact hno
     have hF2:Hid (clsF ns i c=none):=Qh (by rw[hF.out,hpo]);have HNO:=Qh hno;clear hpo hF hno;go_wp2_with fail
     go_ret2
     refine⟨hkn4,?_⟩;rw[hF2.out];exact⟨no,HNO.out,rfl⟩
    |ok t=>
     rw[hpo] at hp;dsimp only at hp;obtain⟨q,rfl,hq,hsz⟩:=hp;have HQ:=Qh hq;have HME:=Qh (means_c t q w4 hq hsz);have hF2:Hid (clsF ns i c=if YV t then some t else none):=Qh (by rw[hF.out,hpo]);obtain⟨me,hme⟩:∃x,x=YV t:=⟨_,rfl⟩;rw[←hme] at hF2 HME;clear hpo hF hq hme;cases me with
     |true=>
      have hF3:Hid (clsF ns i c=some t):=Qh (by rw[hF2.out];try rfl);clear hF2;go_wp2_with fail
      refine HME.out.mono ?_;rintro e w5 ⟨rfl,hk5⟩;have hkn5:=hkn4.trans hk5;have HQ5:=Qh (HQ.out.kn hk5);go_wp2_with fail
      go_ret2
      refine⟨hkn5,?_⟩;rw[hF3.out];exact⟨q,rfl,HQ5.out,hsz⟩
     |false=>
      have hF3:Hid (clsF ns i c=none):=Qh (by rw[hF2.out];try rfl);clear hF2;go_wp2_with fail
      refine HME.out.mono ?_;rintro e w5 ⟨rfl,hk5⟩;have hkn5:=hkn4.trans hk5;go_wp2_with fail
      go_ret2
      refine⟨hkn5,?_⟩;rw[hF3.out];exact⟨11,by decide,rfl⟩
end Go.Proofs.YtiehgcfckhepaaaGreatDoor
namespace Go.Proofs.YtiehgcfckhepaaaGreatDoor
def hit(l:List DS)(L:List Bool)(n b:Nat):Bool:=decide (dnx l n b≠-1)&&L.getD (dnx l n b).toNat false
def QS(l:List DS)(r:List Bool×Bool)(n k:Nat):List Bool×Bool:=
 if r.1.getD n false=true then r else if(List.range k).any (hit l r.1 n)=true then(r.1.set n true,true) else r
def Yl(l:List DS)(L:List Bool)(k:Nat):List Bool×Bool:=(List.range k).foldl (fun r n=>QS l r n 256) (L,false)
def liveGo(l:List DS):Nat→List Bool→List Bool
 |0,L=>L
 |f+1,L=>if(Yl l L l.length).2=true then liveGo l f (Yl l L l.length).1 else(Yl l L l.length).1
def live0(l:List DS):List Bool:=(List.range l.length).map (fun n=>decide (dac l n≠-1))
def liveF(l:List DS):List Bool:=liveGo l (l.length+1) (live0 l)
theorem sweepK_succ(l:List DS)(L:List Bool)(k:Nat):Yl l L (k+1)=QS l (Yl l L k) k 256:=by
 unfold Yl;rw[List.range_succ,List.foldl_append];try rfl
theorem sweepB_len(l:List DS)(r:List Bool×Bool)(n k:Nat):(QS l r n k).1.length=r.1.length:=by
 unfold QS;split
 ·rfl
 ·split
  ·simp
  ·rfl
theorem sweepK_len(l:List DS)(L:List Bool):∀k,(Yl l L k).1.length=L.length
 |0=>rfl
 |k+1=>by rw[sweepK_succ,sweepB_len,sweepK_len l L k]
theorem liveGo_len(l:List DS):∀f L,(liveGo l f L).length=L.length
 |0,L=>rfl
 |f+1,L=>by
  rw[liveGo];split
  ·rw[liveGo_len l f,sweepK_len]
  ·rw[sweepK_len]
theorem liveF_len(l:List DS):(liveF l).length=l.length:=by unfold liveF;rw[liveGo_len];simp[live0]
def cf(L:List Bool):Nat:=L.countP (fun x=> !x)
theorem cf_set{L:List Bool}{n:Nat}(h:n<L.length)(hn:L.getD n false=false):cf (L.set n true)+1=cf L:=by
 induction L generalizing n with
 |nil=>simp at h
 |cons x L ih=>
  cases n with
  |zero=>
   have hx:x=false:=by simpa using hn
   subst hx;simp[cf]
  |succ n=>
   have:=ih (n:=n) (by simpa using h) (by simpa using hn);unfold cf at this⊢;rw[List.set_cons_succ,List.countP_cons,List.countP_cons];omega
theorem sweepB_cf(l:List DS)(r:List Bool×Bool)(n k:Nat)(h:n<r.1.length):cf (QS l r n k).1≤cf r.1∧((QS l r n k).2=true→r.2=true∨cf (QS l r n k).1<cf r.1):=by
 unfold QS;split
 ·exact⟨Nat.le_refl _,fun h=> .inl h⟩
 ·rename_i hn;split
  ·have:=cf_set h (by simpa using hn);exact⟨by dsimp only;omega,fun _=> .inr (by dsimp only;omega)⟩
  ·exact⟨Nat.le_refl _,fun h=> .inl h⟩
theorem sweepK_cf(l:List DS)(L:List Bool):∀k,k≤L.length→cf (Yl l L k).1≤cf L∧((Yl l L k).2=true→cf (Yl l L k).1<cf L)
 |0,_=>⟨Nat.le_refl _,fun h=>by cases h⟩
 |k+1,hk=>by
  obtain⟨h1,h2⟩:=sweepK_cf l L k (by omega);obtain⟨h3,h4⟩:=sweepB_cf l (Yl l L k) k 256 (by rw[sweepK_len];omega);rw[sweepK_succ];refine⟨by omega,fun h=> ?_⟩;rcases h4 h with h5|h5
  ·have:=h2 h5;omega
  ·omega
theorem cf_le(L:List Bool):cf L≤L.length:=List.countP_le_length
def addK{α:Type}[DecidableEq α](m:List α)(x:α):List α:=if x∈m then m else m++[x]
def dist{α:Type}[DecidableEq α](xs:List α):List α:=xs.foldl addK []
theorem addK_len{α:Type}[DecidableEq α](m:List α)(x:α):(addK m x).length≤m.length+1:=by unfold addK;split<;>simp
def Yh(l:List DS)(L:List Bool):List Int:=(List.range l.length).map (fun n=>if L.getD n false=true then dac l n+2 else 0)
def rowF(l:List DS)(L:List Bool)(K:List Int)(n:Nat):List Int×Int:=
 ((List.range 256).map (fun b=>if hit l L n b=true then K.getD (dnx l n b).toNat 0 else-1),K.getD n 0)
def agS(l:List DS)(L:List Bool)(K:List Int)(r:List (List Int×Int)×List Int)(n:Nat):List (List Int×Int)×List Int:=
 match r.1.findIdx? (fun x=>decide (x=rowF l L K n)) with|some k=>(r.1,r.2++[(k:Int)])|none=>(r.1++[rowF l L K n],r.2++[(r.1.length:Int)])
def agK(l:List DS)(L:List Bool)(K:List Int)(k:Nat):List (List Int×Int)×List Int:=(List.range k).foldl (agS l L K) ([],[])
theorem agK_succ(l:List DS)(L:List Bool)(K:List Int)(k:Nat):agK l L K (k+1)=agS l L K (agK l L K k) k:=by
 unfold agK;rw[List.range_succ,List.foldl_append];try rfl
theorem agK_some{l:List DS}{L:List Bool}{K:List Int}{c n:Nat}(h:(agK l L K c).1.findIdx? (fun x=>decide (x=rowF l L K c))=some n):agK l L K (c+1)=((agK l L K c).1,(agK l L K c).2++[(n:Int)]):=by
 rw[agK_succ];unfold agS;rw[h]
theorem agK_none{l:List DS}{L:List Bool}{K:List Int}{c:Nat}(h:(agK l L K c).1.findIdx? (fun x=>decide (x=rowF l L K c))=none):agK l L K (c+1)=((agK l L K c).1++[rowF l L K c],(agK l L K c).2++[((agK l L K c).1.length:Int)]):=by
 rw[agK_succ];unfold agS;rw[h]
theorem agK_len(l:List DS)(L:List Bool)(K:List Int):∀c,(agK l L K c).2.length=c∧(agK l L K c).1.length≤c∧∀x∈(agK l L K c).2,0≤x∧x<c
 |0=>⟨rfl,Nat.le_refl _,fun x hx=>by cases hx⟩
 |c+1=>by
  obtain⟨h1,h2,h3⟩:=agK_len l L K c;cases h:(agK l L K c).1.findIdx? (fun x=>decide (x=rowF l L K c)) with
  |some n=>
   obtain⟨hn,_⟩:=List.findIdx?_eq_some_iff_getElem.1 h;rw[agK_some h];refine⟨by simp[h1],by dsimp only;omega,fun x hx=> ?_⟩;rcases List.mem_append.1 hx with hx|hx
   ·have:=h3 x hx;omega
   ·simp at hx;subst hx;omega
  |none=>
   rw[agK_none h];refine⟨by simp[h1],by simp;omega,fun x hx=> ?_⟩;rcases List.mem_append.1 hx with hx|hx
   ·have:=h3 x hx;omega
   ·simp at hx;subst hx;omega
def kindGo(l:List DS)(L:List Bool):Nat→List Int→Nat→List Int
 |0,K,_=>K
 |f+1,K,c=>if c<(agK l L K l.length).1.length then kindGo l L f (agK l L K l.length).2 (agK l L K l.length).1.length else(agK l L K l.length).2
def kindF(l:List DS):List Int:=kindGo l (liveF l) (l.length+1) (Yh l (liveF l)) (dist (Yh l (liveF l))).length
open Go.RowKit
def RowV(w:World)(T:TypeId)(g:Nat)(xs:List Value):Prop:=w.heap[g]? =some (.cells xs.toArray T (0,0))
section
variable {w w':World} {T:TypeId} {g:Nat} {xs:List Value}
theorem RowV.lt(h:RowV w T g xs):g<w.heap.size:=Qj h
theorem RowV.kp{S:Nat→Prop}(h:RowV w T g xs)(hk:Kp S w w')(hS:¬S g):RowV w' T g xs:=hk.blk h hS
theorem RowV.kn(h:RowV w T g xs)(hk:Kn w w'):RowV w' T g xs:=hk.blk h (fun x=>x)
theorem RowV.cell(h:RowV w T g xs){i:Nat}(hi:i<xs.length):w.cell? ⟨g,i,none⟩=some xs[i]:=by
 rw[Qa h,List.getElem?_toArray,List.getElem?_eq_getElem hi]
theorem RowV.fr(h:RowV w T g xs)(i:Nat):w.frozen? ⟨g,i,none⟩=false:=Qd h i
theorem RowV.set(h:RowV w T g xs)(i:Nat)(u:Value):RowV (w.setCell ⟨g,i,none⟩ u) T g (xs.set i u):=by
 unfold RowV;rw[Qk h,List.setIfInBounds_toArray]
theorem RowV.of_made{w':World}{B g n:Nat}{e:TypeId}{z:Value}(h:w'.ownsRow B e 1 (.slice (some ⟨g,0,none⟩) n n) n (madeCells #[z] (n*1)).toList):RowV w' e g (List.replicate n z):=by
 rcases h.2 with⟨h1,_⟩|⟨g',cap,cur,h1,_,h3,h4,_,h6,h7⟩
 ·injection h1 with h1;cases h1
 ·have eg:g'=g:=by simpa[Value.ownBlock] using(congrArg Value.ownBlock h1).symm
  subst eg;have ec:cap=n:=by
   injection h1 with _ _ h1;exact h1.symm
  subst ec;rw[Nat.mul_one] at h7;rw[Nat.mul_one] at h6;have e:cur.toList=List.replicate cap z:=by
   rw[List.take_of_length_le (by rw[Array.length_toList];omega)] at h7;rw[h7];exact Go.toList_madeCells_one _ _
  unfold RowV;rw[h3,←e]
end
theorem wpList_make_v{P:Program}(w:World){ops:Array Oper}{rest:List Oper}{o:Oper}{a:Act}{Q:Exit→Act→World→Prop}
  (hg:o.guard=none) (l c:Operand) (t:TypeId) (hop:o.op=Op.makeSlice t l c) (e:TypeId) (i:TypeInfo) (z:Value) (h1:P.underlying t=some (.slice e)) (h2:P.info? e=some i) (h3:i.zero=some z) (h4:i.size=1) (hz:z.cells= #[z])
  (n:Nat) (hl:a.eval l= .int .i64 n) (hc:a.eval c= .int .i64 n) (b2:i.bytes*n≤281474976710656) (b3:n≤maxLen)
  (hK:∀w',RowV w' e w.heap.size (List.replicate n z)→Kn w w'→wpList P ops Q rest (a.put o.dst (.slice (some ⟨w.heap.size,0,none⟩) n n)) w'):
  wpList P ops Q (o::rest) a w:=by
 refine wpList_make_full w hg l c t hop 0 e i z 1 h1 h2 h3 h4 .i64 .i64 n n n hl hc rfl rfl b2 b3 (Nat.zero_le _) ?_;intro w' h5 h6;rw[hz] at h5;exact hK w' (RowV.of_made h5) (QT (S:=fun _=>False) h6 (fun k e _=>by cases e))
theorem fill_set{α:Type}(xs:List α)(d:α){k:Nat}(h:k<xs.length):(xs.take k++List.replicate (xs.length-k) d).set k xs[k]=xs.take (k+1)++List.replicate (xs.length-(k+1)) d:=by
 have e:xs.length-k=(xs.length-(k+1))+1:=by omega
 have hl:(xs.take k).length=k:=by rw[List.length_take];omega
 rw[List.set_append_right _ _ (by omega),hl,Nat.sub_self,e,List.replicate_succ,List.set_cons_zero,List.take_succ_eq_append_getElem h,List.append_assoc];rfl
theorem fill_len{α:Type}(xs:List α)(d:α){k:Nat}(h:k≤xs.length):(xs.take k++List.replicate (xs.length-k) d).length=xs.length:=by
 rw[List.length_append,List.length_take,List.length_replicate];omega
abbrev bV(L:List Bool):List Value:=L.map Value.bool
abbrev iV(L:List Int):List Value:=L.map (Value.int .i64)
theorem bV_get{L:List Bool}{i:Nat}(hi:i<L.length):(bV L)[i]'(by simpa using hi)= .bool (L.getD i false):=by
 rw[List.getElem_map,List.getD_eq_getElem?_getD,List.getElem?_eq_getElem hi];try rfl
theorem iV_get{L:List Int}{i:Nat}(hi:i<L.length):(iV L)[i]'(by simpa using hi)= .int .i64 (L.getD i 0):=by
 rw[List.getElem_map,List.getD_eq_getElem?_getD,List.getElem?_eq_getElem hi];try rfl
theorem RowV.bcell{w:World}{g:Nat}{L:List Bool}(h:RowV w 4 g (bV L)){i:Nat}(hi:i<L.length):w.cell? ⟨g,i,none⟩=some (.bool (L.getD i false)):=by
 rw[h.cell (by simpa using hi),bV_get hi]
theorem RowV.icell{w:World}{g:Nat}{L:List Int}(h:RowV w 3 g (iV L)){i:Nat}(hi:i<L.length):w.cell? ⟨g,i,none⟩=some (.int .i64 (L.getD i 0)):=by
 rw[h.cell (by simpa using hi),iV_get hi]
theorem RowV.bset{w:World}{g:Nat}{L:List Bool}(h:RowV w 4 g (bV L))(i:Nat)(x:Bool):RowV (w.setCell ⟨g,i,none⟩ (.bool x)) 4 g (bV (L.set i x)):=by
 have:=h.set i (.bool x);rwa[←List.map_set] at this
theorem RowV.iset{w:World}{g:Nat}{L:List Int}(h:RowV w 3 g (iV L))(i:Nat)(x:Int):RowV (w.setCell ⟨g,i,none⟩ (.int .i64 x)) 3 g (iV (L.set i x)):=by
 have:=h.set i (.int .i64 x);rwa[←List.map_set] at this
theorem info_bool:(Tryz.prog.info? 4).map (fun i=>(i.zero,i.size,i.bytes))=some (some (.bool false),1,1):=by kernel_rfl
theorem sweepB_stop{l:List DS}{r:List Bool×Bool}{j b:Nat}(hj:j<r.1.length)(hb:b≤256)(h:(QS l r j b).1.getD j false=true):QS l r j b=QS l r j 256:=by
 unfold QS at h⊢;by_cases h1:r.1.getD j false=true
 ·rw[if_pos h1,if_pos h1]
 ·rw[if_neg h1] at h;rw[if_neg h1,if_neg h1];by_cases h2:(List.range b).any (hit l r.1 j)=true
  ·have h3:(List.range 256).any (hit l r.1 j)=true:=by
    obtain⟨x,hx,hh⟩:=List.any_eq_true.1 h2;exact List.any_eq_true.2 ⟨x,List.mem_range.2 (by have:=List.mem_range.1 hx;omega),hh⟩
   rw[if_pos h2,if_pos h3]
  ·rw[if_neg h2] at h;exact absurd h h1
theorem sweepB_go{l:List DS}{r:List Bool×Bool}{j b:Nat}(hj:j<r.1.length)(h:(QS l r j b).1.getD j false=false):QS l r j b=r∧r.1.getD j false=false∧QS l r j (b+1)=if hit l r.1 j b=true then(r.1.set j true,true) else r:=by
 unfold QS at h⊢;by_cases h1:r.1.getD j false=true
 ·rw[if_pos h1] at h;rw[h1] at h;cases h
 ·rw[if_neg h1] at h;rw[if_neg h1,if_neg h1];by_cases h2:(List.range b).any (hit l r.1 j)=true
  ·rw[if_pos h2] at h;rw[List.getD_eq_getElem?_getD,List.getElem?_set_self hj] at h;cases h
  ·rw[if_neg h2];refine⟨rfl,by simpa using h1,?_⟩;rw[List.range_succ,List.any_append,Bool.not_eq_true] at*;rw[h2,Bool.false_or];simp
theorem sweepB_zero(l:List DS)(r:List Bool×Bool)(j:Nat):QS l r j 0=r:=by
 unfold QS;split
 ·rfl
 ·simp
theorem live_c(pd:Nat)(l:List DS)(w:World)(h:DfaAt w pd l)(hl:DL l):
  Calls Tryz.prog 219 #[ptr pd] w fun e w'=>∃g:Nat,w.heap.size≤g∧e= .returned (.slice (some ⟨g,0,none⟩) l.length l.length)∧RowV w' 4 g (bV (liveF l))∧Kn w w':=by
 have HS:=Qh (DStates_c pd l w h);have HD:=Qh h;have HL:=Qh hl;have hpos:=hl.pos;have hlen:=hl.len;obtain⟨i0,hi,hz0,hz1,hz2⟩:=info_parts info_bool;have HI:=Qh (And.intro hi (And.intro hz0 (And.intro hz1 hz2)));have HAC:=Qh (fun k=>hl.dac_lt k);clear h hl hi hz0 hz1 hz2;go_enter Tryz.func219,Tryz.ntmps219;go_wp2_with fail
 refine HS.out.mono ?_;rintro e w' ⟨rfl,rfl⟩;go_wp2_with (first|(at_make;go_must (refine wpList_make_v _ rfl (.tmp 11) (.tmp 11) 141 rfl 4 i0 (.bool false) Tryz.underlying141 HI.out.1 HI.out.2.1 HI.out.2.2.1 rfl l.length rfl rfl (by rw[HI.out.2.2.2];omega) (by simp only[maxLen];omega) ?_;intro w1 hrow1 hk1)))
 obtain⟨g,hg⟩:∃z,z=w'.heap.size:=⟨_,rfl⟩;have hgle:w'.heap.size≤g:=by omega
 rw[←hg] at hrow1⊢;have HR1:=Qh hrow1;clear hg hrow1;go_loopw [15] (fun i wr=>∃k:Nat,k≤l.length∧i= .int .i64 k∧Hid (RowV wr 4 g (bV ((live0 l).take k++List.replicate ((live0 l).length-k) false)))∧Kn w' wr) (fun i _=>l.length-(intOf i).toNat)
 case atStart=>exact⟨0,Nat.zero_le _,rfl,Qh (by simpa[live0] using HR1.out),hk1⟩
 case round=>
  obtain⟨k,hk,rfl,hrow,hkn⟩:=hrel;have hl0:(live0 l).length=l.length:=by simp[live0]
  have hfl:=fill_len (live0 l) false (k:=k) (by omega);by_cases hlt:k<l.length
  ·have HA:=Qh (DAccept_c pd k l wr (HD.out.kn hkn) hlt);have hc1:=hrow.out.bcell (i:=k) (by omega);have hf1:=hrow.out.fr k;have hx:(live0 l)[k]'(by omega)= !(dac l k== -1):=by
    simp only[live0,List.getElem_map,List.getElem_range];by_cases e:dac l k= -1<;>simp[e]
   have hs:=Qh (fill_set (live0 l) false (k:=k) (by omega));go_wp2_with fail
   refine HA.out.mono ?_;rintro e w2 ⟨rfl,rfl⟩;go_wp2_with fail
   have HW3:=Qh (hrow.out.bset k (dac l k != -1));have hkn3:Kn w' (w2.setCell ⟨g,k,none⟩ (.bool (dac l k != -1))):=hkn.setCell (fun hp=>by have:g<w'.heap.size:=hp;omega) _;go_roundw
   case rel=>exact⟨k+1,by omega,by go_num,Qh (by
    have h1:=HW3.out;have e:(dac l k != -1)=(live0 l)[k]'(by omega):=by rw[hx];try rfl
    refine(congrArg (fun X=>RowV (w2.setCell ⟨g,k,none⟩ (.bool (dac l k != -1))) 4 g (bV X)) ?_).mp h1;rw[e,hs.out]),hkn3⟩
   case measure=>simp[intOf];omega
  ·obtain rfl:k=l.length:=by omega
   have hr0:=hrow.out;rw[List.take_of_length_le (by omega),hl0,Nat.sub_self,List.replicate_zero,List.append_nil] at hr0;have HR:=Qh hr0;have HLL:Hid (liveGo l (l.length+1) (live0 l)=liveF l):=Qh rfl;have HCF:Hid (cf (live0 l)<l.length+1):=Qh (by have:=cf_le (live0 l);omega);obtain⟨wo,hwo⟩:∃z,z=wr:=⟨_,rfl⟩;subst hwo;clear hrow hr0;go_wp2_with fail
   go_loopg [5] (l.length+2) (fun f s5 wr=>∃(L:List Bool) (more:Bool),s5= .bool more∧L.length=l.length∧Hid ((more=true→f≠0∧liveGo l (f-1) L=liveF l∧cf L<f-1)∧(more=false→L=liveF l))∧Hid (RowV wr 4 g (bV L))∧Kn w' wr)
   case atStart=>exact⟨_,true,rfl,hl0,Qh ⟨fun _=>⟨by omega,HLL.out,HCF.out⟩,fun h=>by cases h⟩,HR,hkn⟩
   case round=>
    obtain⟨L,more,rfl,hLl,hgo,hrow,hkn2⟩:=hrel;cases more with
    |false=>
     go_wp2_with fail
     go_ret;refine⟨g,hgle,rfl,?_,hkn2⟩;rw[←hgo.out.2 (by trivial)];exact hrow.out
    |true=>
     have hgo1:=Qh (hgo.out.1 (by trivial));obtain⟨wp,hwp⟩:∃z,z=wr:=⟨_,rfl⟩;subst hwp;go_wp2_with fail
     go_loopw [5,29] (fun s5 i wr=>∃(j:Nat),j≤l.length∧i= .int .i64 j∧s5= .bool (Yl l L j).2∧Hid (RowV wr 4 g (bV (Yl l L j).1))∧Kn w' wr) (fun _ i _=>l.length-(intOf i).toNat)
     case atStart=>exact⟨0,Nat.zero_le _,rfl,rfl,hrow,hkn2⟩
     case round=>
      clear hrow;obtain⟨j,hj,rfl,rfl,hrj,hkj⟩:=hrel;have hsl:=sweepK_len l L j;by_cases hjl:j<l.length
      ·have HSS:=Qh (sweepK_succ l L j);obtain⟨r,hr⟩:∃r,r=Yl l L j:=⟨_,rfl⟩;rw[←hr] at hsl hrj HSS⊢;clear hr;go_wp2_with fail
       go_loopw [5,7] (fun s5 i wr=>∃(b:Nat),b≤256∧i= .int .i64 b∧s5= .bool (QS l r j b).2∧Hid (RowV wr 4 g (bV (QS l r j b).1))∧Kn w' wr) (fun _ i _=>256-(intOf i).toNat)
       case atStart=>exact⟨0,Nat.zero_le _,rfl,by rw[sweepB_zero],Qh (by rw[sweepB_zero];exact hrj.out),hkj⟩
       case round=>
        clear hrj;obtain⟨b,hb,rfl,rfl,hrb,hkb⟩:=hrel;have hbl:=sweepB_len l r j b;have hcb:=hrb.out.bcell (i:=j) (by omega);by_cases hbb:b<256
        ·have hbi:(b:Int)<256:=by omega
         cases hst:(QS l r j b).1.getD j false with
         |true=>
          have e:=sweepB_stop (by omega) hb hst;rw[hst] at hcb;have HE:=Qh e;clear hst e;go_wp2_with fail
          go_roundw
          case rel=>exact⟨j+1,by omega,by go_num,by rw[HSS.out,HE.out],Qh (by rw[HSS.out,←HE.out];exact hrb.out),hkb⟩
          case measure=>simp[intOf];omega
         |false=>
          rw[hst] at hcb;obtain⟨e1,e2,e3⟩:=sweepB_go (l:=l) (by omega) hst;have hrb0:=hrb.out;rw[e1] at hrb0⊢;have HRB:=Qh hrb0;have HE3:=Qh e3;have hdx:=HL.out.dnx_lt j b;have HN:=Qh (DNext_c pd j b l wr (HD.out.kn hkb) hjl hbb);clear hrb hrb0 e1 e2 e3 hst hbl;by_cases hx:dnx l j b= -1
          ·have hh:hit l r.1 j b=false:=by simp[hit,hx]
           rw[hh] at HE3;rw[hx] at HN;have HE4:Hid (QS l r j (b+1)=r):=Qh (by rw[HE3.out];try rfl);go_wp2_with fail
           refine HN.out.mono ?_;rintro e w4 ⟨rfl,rfl⟩;unfold nxV;go_wp2_with fail
           go_roundw
           case rel=>exact⟨b+1,by omega,by go_num,by rw[HE4.out],Qh (by rw[HE4.out];exact HRB.out),hkb⟩
           case measure=>simp[intOf];omega
          ·obtain⟨q,hq⟩:∃q:Nat,(q:Int)=dnx l j b:=⟨(dnx l j b).toNat,by omega⟩;have hql:q<l.length:=by omega
           have hq1:¬(q:Int)= -1:=by omega
           have hh:hit l r.1 j b=r.1.getD q false:=by
            have:(dnx l j b).toNat=q:=by omega
            simp[hit,this,hx]
           rw[hh] at HE3;rw[←hq] at HN hx hdx;have hcq:=HRB.out.bcell (i:=q) (by omega);have hfq:=HRB.out.fr j;have hcj:=HRB.out.bcell (i:=j) (by omega);clear hq hh;cases hv:r.1.getD q false with
           |false=>
            rw[hv] at hcq HE3;have HE4:Hid (QS l r j (b+1)=r):=Qh (by rw[HE3.out];try rfl);go_wp2_with fail
            refine HN.out.mono ?_;rintro e w4 ⟨rfl,rfl⟩;rw[nxV,if_neg hq1];go_wp2_with fail
            go_roundw
            case rel=>exact⟨b+1,by omega,by go_num,by rw[HE4.out],Qh (by rw[HE4.out];exact HRB.out),hkb⟩
            case measure=>simp[intOf];omega
           |true=>
            rw[hv] at hcq HE3;have HE4:Hid (QS l r j (b+1)=(r.1.set j true,true)):=Qh (by rw[HE3.out];try rfl);go_wp2_with fail
            refine HN.out.mono ?_;rintro e w4 ⟨rfl,rfl⟩;rw[nxV,if_neg hq1];go_wp2_with fail
            have hkb5:Kn w' (w4.setCell ⟨g,j,none⟩ (.bool true)):=hkb.setCell (fun hp=>by have:g<w'.heap.size:=hp;omega) _;have HR5:=Qh (HRB.out.bset j true);go_roundw
            case rel=>exact⟨b+1,by omega,by go_num,by rw[HE4.out],Qh (by rw[HE4.out];exact HR5.out),hkb5⟩
            case measure=>simp[intOf];omega
        ·have e:b=256:=by omega
         subst e;go_wp2_with fail
         go_roundw
         case rel=>exact⟨j+1,by omega,by go_num,by rw[HSS.out],Qh (by rw[HSS.out];exact hrb.out),hkb⟩
         case measure=>simp[intOf];omega
      ·have e:j=l.length:=by omega
       subst e;have hcf:=sweepK_cf l L l.length (by omega);have HG2:Hid (((Yl l L l.length).2=true→gk-1≠0∧liveGo l (gk-1-1) (Yl l L l.length).1=liveF l∧cf (Yl l L l.length).1<gk-1-1)∧((Yl l L l.length).2=false→(Yl l L l.length).1=liveF l)):=Qh (by
        obtain⟨h1,h2,h3⟩:=hgo1.out;obtain⟨f,hf⟩:∃f,gk-1=f+1:=⟨gk-2,by omega⟩;rw[hf,liveGo] at h2;refine⟨fun h=> ?_,fun h=> ?_⟩
        ·rw[if_pos h] at h2;have:=hcf.2 h;exact⟨by omega,by rw[hf];exact h2,by omega⟩
        ·rw[if_neg (by rw[h];simp)] at h2;exact h2)
       go_wp2_with fail
       go_roundg (gk-1)
       case measure=>have:=hgo1.out.1;omega
       case rel=>exact⟨_,_,rfl,by rw[hsl];exact hLl,HG2,hrj,hkj⟩
open Go.RowKit Go.Maps
abbrev Yr:TypeId:=453
abbrev TArr:TypeId:=352
def rowC(x:List Int×Int):Array Value:=(iV x.1++[Value.int .i64 x.2]).toArray
theorem Yp{x:List Int×Int}(h:x.1.length=256):(rowC x).size=257:=by simp[rowC,h]
theorem rowC_inj{x y:List Int×Int}(h:x.1.length=256)(h':y.1.length=256)(e:Value.agg (rowC x)= .agg (rowC y)):x=y:=by
 injection e with e;have e1:=congrArg Array.toList e;simp only[rowC] at e1;have e2:=List.append_inj e1 (by simp[h,h']);have e3:x.1=y.1:=by
  have:=congrArg (List.map intOf) e2.1;simpa[List.map_map,Function.comp_def,intOf] using this
 have e4:x.2=y.2:=by simpa using e2.2
 exact Prod.ext e3 e4
theorem row_key:Keyed Tryz.prog Yr:=Keyed.of_law (deep_law (m:=5) (by decide) (by kernel_rfl) (by kernel_rfl) (by kernel_rfl))
theorem mapM_some{α β:Type}{f:α→Option β} :∀ {l:List α},(∀a∈l,∃b,f a=some b)→∃bs,l.mapM f=some bs
 |[],_=>⟨[],rfl⟩
 |a::l,h=>by
  obtain⟨b,hb⟩:=h a List.mem_cons_self;obtain⟨bs,hbs⟩:=mapM_some (l:=l) (fun x hx=>h x (List.mem_cons_of_mem _ hx));exact⟨b::bs,by rw[List.mapM_cons,hb,hbs];try rfl⟩
theorem int_lits(d:Nat)(x:Int)(h: -9000000000000000000≤x∧x≤9000000000000000000):∃ls,Tryz.prog.keyLits (d+1) 3 [.int .i64 x]=some ls:=by
 have hw:(Lit.int .i64 x).wf=true:=by
  simp[Lit.wf,IntKind.min,IntKind.max,IntKind.signed,IntKind.bits];omega
 exact⟨[.int .i64 x],by simp[Program.keyLits,Tryz.underlying3,hw]⟩
theorem arr_lits(d:Nat)(l:List Int)(h:l.length=256)(hx:∀y∈l,-9000000000000000000≤y∧y≤9000000000000000000):∃ls,Tryz.prog.keyLits (d+2) TArr (iV l)=some ls:=by
 have hc:Tryz.prog.cellsOf TArr=256:=by kernel_rfl
 have hi:Tryz.prog.cellsOf 3=1:=by kernel_rfl
 obtain⟨ls,hls⟩:=mapM_some (f:=fun i=>Tryz.prog.keyLits (d+1) 3 (((iV l).drop (i*1)).take 1)) (l:=List.range 256) (fun i hi=>by
  have hil:i<l.length:=by rw[h];exact List.mem_range.1 hi
  obtain⟨ls,hls⟩:=int_lits d l[i] (hx _ (List.getElem_mem hil));refine⟨ls,?_⟩;have e:((iV l).drop (i*1)).take 1=[Value.int .i64 l[i]]:=by
   rw[Nat.mul_one,List.drop_eq_getElem_cons (by simpa using hil),List.take_succ_cons,List.take_zero,List.getElem_map]
  rw[e];exact hls)
 refine⟨ls.flatten,?_⟩;unfold Program.keyLits;simp only[Tryz.underlying352,hc,hi,hls,List.length_map,h,if_true,Option.map_some]
theorem row_fit(x:List Int×Int)(h:x.1.length=256)(hx:∀y∈x.1,-9000000000000000000≤y∧y≤9000000000000000000)(hy: -9000000000000000000≤x.2∧x.2≤9000000000000000000):∃lx,keyOf Tryz.prog Yr (.agg (rowC x))=some lx:=by
 have hkt:Tryz.prog.keyType Yr=true:=by kernel_rfl
 have hc:Tryz.prog.cellsOf Yr=257:=by kernel_rfl
 have ha:Tryz.prog.cellsOf TArr=256:=by kernel_rfl
 have hi:Tryz.prog.cellsOf 3=1:=by kernel_rfl
 have hfo:(Value.agg (rowC x)).formed Tryz.prog Yr=true:=by
  unfold Value.formed;simp only[Tryz.underlying453,hc,Yp h];rfl
 have h2:decide (2≤Tryz.prog.types.size)=true:=by kernel_rfl
 have h3:=of_decide_eq_true h2;obtain⟨d,hd⟩:∃d,Tryz.prog.types.size=d+2:=⟨Tryz.prog.types.size-2,by omega⟩;obtain⟨la,hla⟩:=arr_lits d x.1 h hx;obtain⟨lb,hlb⟩:=int_lits (d+1) x.2 hy;have e1:(rowC x).toList.take 256=iV x.1:=by simp[rowC,h]
 have e2:((rowC x).toList.drop 256).take 1=[Value.int .i64 x.2]:=by simp[rowC,h]
 have hl:(rowC x).toList.length=257:=by rw[Array.length_toList];exact Yp h
 refine⟨.string (keyBytes [la,lb].flatten),?_⟩;unfold keyOf;simp only[Tryz.underlying453,hkt,hfo,Bool.and_self,if_true,hd,Value.cells];unfold Program.keyLits;simp only[Tryz.underlying453,hc,hl];simp[ha,hi,hla,hlb,e1,e2]
end Go.Proofs.YtiehgcfckhepaaaGreatDoor
namespace Go.Proofs.YtiehgcfckhepaaaGreatDoor
open Go.RowKit
abbrev TRd:TypeId:=417
structure RdIn (w:World) (pr pd gl gk:Nat) (l:List DS) (L:List Bool) (K:List Int) (c:Int):Prop where
 blk:w.heap[pr]? =some (.cells #[ptr pd,.slice (some ⟨gl,0,none⟩) l.length l.length,.slice (some ⟨gk,0,none⟩) l.length l.length,.int .i64 c] TRd (0,0))
 d:DfaAt w pd l
 lv:RowV w 4 gl (bV L)
 kd:RowV w 3 gk (iV K)
 ll:L.length=l.length
 kl:K.length=l.length
 kb:∀x∈K,0≤x∧x≤2000000
theorem RdIn.kn{w w':World}{pr pd gl gk:Nat}{l:List DS}{L:List Bool}{K:List Int}{c:Int}(h:RdIn w pr pd gl gk l L K c)(hk:Kn w w'):RdIn w' pr pd gl gk l L K c:=
 ⟨hk.blk h.blk (fun x=>x),h.d.kn hk,h.lv.kn hk,h.kd.kn hk,h.ll,h.kl,h.kb⟩
theorem RdIn.cells{w:World}{pr pd gl gk:Nat}{l:List DS}{L:List Bool}{K:List Int}{c:Int}(h:RdIn w pr pd gl gk l L K c):
  w.cell? ⟨pr,0,none⟩=some (ptr pd)∧w.cell? ⟨pr,1,none⟩=some (.slice (some ⟨gl,0,none⟩) l.length l.length)∧w.cell? ⟨pr,2,none⟩=some (.slice (some ⟨gk,0,none⟩) l.length l.length)∧w.cell? ⟨pr,3,none⟩=some (.int .i64 c):=
 ⟨by rw[Qa h.blk];try rfl,by rw[Qa h.blk];try rfl,by rw[Qa h.blk];try rfl,by rw[Qa h.blk];try rfl⟩
theorem kget{K:List Int}(hb:∀x∈K,0≤x∧x≤2000000)(i:Nat):0≤K.getD i 0∧K.getD i 0≤2000000:=by
 rw[List.getD_eq_getElem?_getD];cases h:K[i]? with
 |none=>simp
 |some x=>exact hb x (List.mem_of_getElem? h)
theorem YY(l:List DS)(L:List Bool)(K:List Int)(n:Nat):(rowF l L K n).1.length=256:=by simp[rowF]
theorem rowF_get(l:List DS)(L:List Bool)(K:List Int)(n b:Nat)(hb:b<(rowF l L K n).1.length):(rowF l L K n).1[b]=if hit l L n b=true then K.getD (dnx l n b).toNat 0 else-1:=by simp[rowF]
theorem rowF_fit{l:List DS}{L:List Bool}{K:List Int}(hb:∀x∈K,0≤x∧x≤2000000)(n:Nat):(∀y∈(rowF l L K n).1,-9000000000000000000≤y∧y≤9000000000000000000)∧-9000000000000000000≤(rowF l L K n).2∧(rowF l L K n).2≤9000000000000000000:=by
 refine⟨fun y hy=> ?_,?_⟩
 ·obtain⟨b,hb2,rfl⟩:=List.getElem_of_mem hy;rw[rowF_get];split
  ·have:=kget hb (dnx l n b).toNat;omega
  ·omega
 ·have:=kget hb n;show-9000000000000000000≤K.getD n 0∧K.getD n 0≤9000000000000000000;omega
def rwK(x:List Int×Int)(k:Nat):List Value:=iV (x.1.take k++List.replicate (x.1.length-k) 0)++[Value.int .i64 x.2]
theorem rwK_set(x:List Int×Int){k:Nat}(hk:k<x.1.length):(rwK x k).set k (.int .i64 x.1[k])=rwK x (k+1):=by
 unfold rwK;have hl:=fill_len x.1 (0:Int) (Nat.le_of_lt hk);rw[List.set_append_left _ _ (by rw[List.length_map,hl];exact hk),←List.map_set,fill_set x.1 0 hk]
theorem rwK_full(x:List Int×Int)(h:x.1.length=256):(rwK x 256).toArray=rowC x:=by
 unfold rwK rowC;rw[List.take_of_length_le (by omega),h,Nat.sub_self,List.replicate_zero,List.append_nil]
theorem rwK_one(x:List Int×Int)(k:Nat):(rwK x k).toArray.all (·.oneCell')=true:=by
 rw[Array.all_eq_true_iff_forall_mem];intro u hu;simp only[rwK,List.mem_toArray,List.mem_append,List.mem_map,List.mem_singleton] at hu;rcases hu with⟨y,_,h⟩|h<;>subst h<;>rfl
theorem row_zero:(Tryz.prog.info? Yr).map (fun i=>(i.zero,i.size))=some (some (.agg Tryz.zeroCells453),257):=by kernel_rfl
theorem row_own(x:Int):Tryz.zeroCells453.setIfInBounds 256 (.int .i64 x)=(List.replicate 256 (Value.int .i64 0)++[Value.int .i64 x]).toArray:=by kernel_rfl
theorem row_c{pr pd gl gk:Nat}{l:List DS}{L:List Bool}{K:List Int}{c:Int}{w:World}(n:Nat)(h:RdIn w pr pd gl gk l L K c)(hl:DL l)(hn:n<l.length):
  Calls Tryz.prog 313 #[ptr pr,.int .i64 n] w fun e w'=>e= .returned (.agg (rowC (rowF l L K n)))∧Kn w w':=by
 obtain⟨hzz,hzi⟩:=zero_of_info row_zero;have hown:=row_own;have hZs:Tryz.zeroCells453.size=257:=by kernel_rfl
 have hpr:=Qj h.blk;have hgk:=h.kd.lt;obtain⟨c0,c1,c2,c3⟩:=h.cells;have hk0:=h.kd.icell (i:=n) (by rw[h.kl];exact hn);have H:=Qh h;have HL:=Qh hl;have hlen:=hl.len;have hkl:=h.kl;have hll:=h.ll;obtain⟨x,hx⟩:∃x,x=rowF l L K n:=⟨_,rfl⟩;have hx1:x.1.length=256:=by rw[hx];exact YY l L K n
 have hx2:x.2=K.getD n 0:=by rw[hx];try rfl
 rw[←hx2] at hk0;have hst:=run_storeCells_new (P:=Tryz.prog) (w.alloc (.cells Tryz.zeroCells453 Yr)) Yr Tryz.zeroCells453 (rwK x 0).toArray (by rw[hzi];simp[rwK,hx1]) (by rw[hZs];simp[rwK,hx1]) (rwK_one x 0);rw[size_alloc'] at hst;have e0:(List.replicate 256 (Value.int .i64 0)++[Value.int .i64 x.2]).toArray=(rwK x 0).toArray:=by simp[rwK,hx1]
 have hown2:=hown x.2;rw[e0] at hown2;obtain⟨Y,hY⟩:∃Y,Y=(rwK x 0).toArray:=⟨_,rfl⟩;rw[←hY] at hst hown2;have hYs:Y.size=257:=by rw[hY];simp[rwK,hx1]
 have HX:=Qh hx;have HY:=Qh hY;clear h hl hx hY hown e0 hx2;go_enter Tryz.func313,Tryz.ntmps313;go_upto_region 2 with fail
 obtain⟨b,hb⟩:∃z,z=w.heap.size+1:=⟨_,rfl⟩;obtain⟨a,ha⟩:∃z,z=w.heap.size:=⟨_,rfl⟩;obtain⟨W,hW⟩:∃z,z=(w.alloc (.cells Tryz.zeroCells453 Yr)).alloc (.cells Y Yr):=⟨_,rfl⟩;have hkW:Kn w W:=by rw[hW];exact((Qb _ _).alloc _).alloc _
 have hba:W.heap[a]? =some (.cells Tryz.zeroCells453 Yr (0,0)):=by rw[hW,ha];exact Qm (Qf _ _) _
 have hbb:RowV W Yr b (rwK x 0):=by
  have:=Qf (w.alloc (.cells Tryz.zeroCells453 Yr)) (.cells Y Yr);rw[size_alloc',←hb] at this;unfold RowV;rw[hW,this,HY.out]
 have hab:a≠b:=by omega
 have hale:w.heap.size≤a:=by omega
 have hble:w.heap.size≤b:=by omega
 rw[←hb,←ha,←hW];have HBA:=Qh hba;have HBB:=Qh hbb;clear hst hown2 hW hba hbb hb ha hzz c0 c1 c2 c3 hk0;go_wp2_with fail
 go_loopw [17] (fun i wr=>∃k:Nat,k≤256∧i= .int .i64 k∧Hid (RowV wr Yr b (rwK x k))∧Hid (wr.heap[a]? =some (.cells Tryz.zeroCells453 Yr (0,0)))∧Kn w wr) (fun i _=>256-(intOf i).toNat)
 case atStart=>exact⟨0,by omega,rfl,HBB,HBA,hkW⟩
 case round=>
  clear HBB HBA hkW;obtain⟨k,hk,rfl,hrow,hra,hkn⟩:=hrel;have hrl:(rwK x k).length=257:=by
   unfold rwK;rw[List.length_append,List.length_map,fill_len x.1 0 (by omega),hx1];try rfl
  by_cases hlt:k<256
  ·have hbi:(k:Int)<256:=by omega
   have hc1:=hrow.out.cell (i:=k) (by omega);have hf1:=hrow.out.fr k;have HS:=Qh (rwK_set x (k:=k) (by omega));have HG:Hid (x.1[k]=if hit l L n k=true then K.getD (dnx l n k).toNat 0 else-1):=Qh (by
    have:=rowF_get l L K n k (by rw[YY];exact hlt);rw[←this];congr 1;exact congrArg Prod.fst HX.out)
   have hR2:=hrow.out.set k (.int .i64 (-1));have hkn2:Kn w (wr.setCell ⟨b,k,none⟩ (.int .i64 (-1))):=hkn.setCell (fun hp=>by have:b<w.heap.size:=hp;omega) _;have hra2:=Yd (b:=a) (c:=b) hra.out hab k (.int .i64 (-1));have hI2:=H.out.kn hkn2;have hdx:=HL.out.dnx_lt n k;go_upto_region 6 with fail
   obtain⟨w2,hw2⟩:∃z,z=wr.setCell ⟨b,k,none⟩ (.int .i64 (-1)):=⟨_,rfl⟩;rw[←hw2] at hR2 hkn2 hra2 hI2⊢;obtain⟨d0,d1,d2,_⟩:=hI2.cells;have HN:=Qh (DNext_c pd n k l w2 hI2.d hn hlt);have HR2:=Qh hR2;have HA2:=Qh hra2;have HI2:=Qh hI2;clear hw2 hR2 hra2 hI2 hc1 hf1 hrow hra hkn;by_cases hx:dnx l n k= -1
   ·have hh:hit l L n k=false:=by simp[hit,hx]
    rw[hh] at HG;have HG2:Hid (x.1[k]= -1):=Qh HG.out;rw[hx] at HN;go_wp2_with fail
    refine HN.out.mono ?_;rintro e w4 ⟨rfl,rfl⟩;unfold nxV;go_wp2_with fail
    go_roundw
    case rel=>exact⟨k+1,by omega,by go_num,Qh (by rw[←HS.out,HG2.out];exact HR2.out),HA2,hkn2⟩
    case measure=>simp[intOf];omega
   ·obtain⟨q,hq⟩:∃q:Nat,(q:Int)=dnx l n k:=⟨(dnx l n k).toNat,by omega⟩;have hql:q<l.length:=by omega
    have hq1:¬(q:Int)= -1:=by omega
    have hq2:(dnx l n k).toNat=q:=by omega
    have hh:hit l L n k=L.getD q false:=by simp[hit,hq2,hx]
    rw[hh,hq2] at HG;rw[←hq] at HN hx hdx;have hcq:=HI2.out.lv.bcell (i:=q) (by omega);have hkq:=HI2.out.kd.icell (i:=q) (by omega);clear hq hh hq2;cases hv:L.getD q false with
    |false=>
     rw[hv] at hcq HG;have HG2:Hid (x.1[k]= -1):=Qh HG.out;go_wp2_with fail
     refine HN.out.mono ?_;rintro e w4 ⟨rfl,rfl⟩;rw[nxV,if_neg hq1];go_wp2_with fail
     go_roundw
     case rel=>exact⟨k+1,by omega,by go_num,Qh (by rw[←HS.out,HG2.out];exact HR2.out),HA2,hkn2⟩
     case measure=>simp[intOf];omega
    |true=>
     rw[hv] at hcq HG;obtain⟨y,hy⟩:∃y,y=K.getD q 0:=⟨_,rfl⟩;have HG2:Hid (x.1[k]=y):=Qh (by rw[hy];exact HG.out);rw[←hy] at hkq;clear hy;have hc3:=HR2.out.cell (i:=k) (by rw[List.length_set];omega);have hf3:=HR2.out.fr k;go_wp2_with fail
     refine HN.out.mono ?_;rintro e w4 ⟨rfl,rfl⟩;rw[nxV,if_neg hq1];go_wp2_with fail
     have hR5:=HR2.out.set k (.int .i64 y);rw[List.set_set] at hR5;have HR5:Hid (RowV (w4.setCell ⟨b,k,none⟩ (.int .i64 y)) Yr b (rwK x (k+1))):=Qh ((congrArg (fun X=>RowV (w4.setCell ⟨b,k,none⟩ (.int .i64 y)) Yr b X) (by rw[←HG2.out];exact HS.out)).mp hR5);have HA5:=Qh (Yd (b:=a) (c:=b) HA2.out hab k (.int .i64 y));have hkn5:Kn w (w4.setCell ⟨b,k,none⟩ (.int .i64 y)):=hkn2.setCell (fun hp=>by have:b<w.heap.size:=hp;omega) _;clear hR5;go_roundw
     case rel=>exact⟨k+1,by omega,by go_num,HR5,HA5,hkn5⟩
     case measure=>simp[intOf];omega
  ·obtain rfl:k=256:=by omega
   have hbb:=hrow.out;unfold RowV at hbb;rw[rwK_full x hx1,HX.out] at hbb;have hra1:=hra.out;have hsz:(rowC (rowF l L K n)).size=257:=Yp (YY l L K n);have hone:(rowC (rowF l L K n)).all (·.oneCell')=true:=by rw[←rwK_full _ (YY l L K n)];exact rwK_one _ _
   obtain⟨C,hC⟩:∃C,C=rowC (rowF l L K n):=⟨_,rfl⟩;rw[←hC] at hbb hsz hone;have HC:=Qh hC;have hiC:(Tryz.prog.info? Yr).map (·.size)=some C.size:=by rw[hsz];exact hzi
   have hfin:=setRow_heap wr a _ C Yr (0,0) hra1;have HFIN:=Qh hfin;clear hfin hC hrow;go_wp2_with (first
    |(refine wpList_load_row rfl Yr (.tmp 5) rfl b rfl Yr C (0,0) _ hbb Tryz.underlying453 rfl hiC ?_)
    |(refine wpList_store_row rfl Yr (.tmp 4) (.tmp 55) rfl a C rfl rfl Yr _ hra1 hiC (by rw[hsz];exact hZs) hone ?_))
   refine bodyPost_ret (results_cell_row rfl _ _ a Yr C (0,0) _ rfl HFIN.out Tryz.underlying453 rfl hiC) rfl ⟨by rw[HC.out],?_⟩;exact hkn.trans' (T:=fun k=>k=a) ⟨rfl,rfl,rfl,by simp,fun k _ hk=>setRow_other _ _ _ _ hk⟩ (fun i hi e=>by omega)
open Go.RowKit Go.Maps
def agM(m:List (List Int×Int)):KV:=m.zipIdx.map (fun p=>(Value.agg (rowC p.1),Value.int .i64 (p.2:Nat)))
theorem agM_len(m:List (List Int×Int)):(agM m).length=m.length:=by simp[agM]
theorem agM_snoc(m:List (List Int×Int))(k:List Int×Int):agM (m++[k])=agM m++[(.agg (rowC k),.int .i64 (m.length:Nat))]:=by
 unfold agM;rw[List.zipIdx_append,List.map_append];simp
theorem agM_mem{m:List (List Int×Int)}{p:Value×Value} :p∈agM m↔∃i,∃h:i<m.length,p=(.agg (rowC m[i]),.int .i64 (i:Nat)):=by
 unfold agM;rw[List.mem_map];constructor
 ·rintro⟨q,hq,rfl⟩;obtain⟨j,hj,rfl⟩:=List.getElem_of_mem hq;have hj':j<m.length:=by simpa using hj
  exact⟨j,hj',by simp⟩
 ·rintro⟨i,h,rfl⟩;refine⟨(m[i],i),?_,rfl⟩;exact List.mem_iff_getElem.2 ⟨i,by simp;omega,by simp⟩
theorem agK_256(l:List DS)(L:List Bool)(K:List Int):∀c,∀x∈(agK l L K c).1,x.1.length=256
 |0=>fun x hx=>by cases hx
 |c+1=>by
  have ih:=agK_256 l L K c;cases h:(agK l L K c).1.findIdx? (fun x=>decide (x=rowF l L K c)) with
  |some n=>rw[agK_some h];exact ih
  |none=>
   rw[agK_none h];intro x hx;rcases List.mem_append.1 hx with h1|h1
   ·exact ih x h1
   ·simp at h1;subst h1;exact YY l L K c
theorem snoc_set(xs:List Int)(n:Nat)(x:Int):(xs++List.replicate (n+1) 0).set xs.length x=(xs++[x])++List.replicate n 0:=by
 rw[List.set_append_right _ _ (Nat.le_refl _),Nat.sub_self,List.replicate_succ,List.set_cons_zero,List.append_assoc];try rfl
theorem DfaAt.k1T{w w':World}{pd g:Nat}{l:List DS}{C:Array Value}{T:TypeId}{fr:Nat×Nat}(h:DfaAt w pd l)(hk:K1 g w w')(hb:w.heap[g]? =some (.cells C T fr))(h1:T≠TD)(h2:T≠TDs)(h3:T≠3):DfaAt w' pd l:=by
 obtain⟨pm,v,vas,hd,hl⟩:=h;have ho:=hd.other hb h1 h2;refine⟨pm,v,vas,⟨hk.blk hd.blk (fun e=>ho (.inl e.symm)),hd.cls,hd.len,hd.row.kp hk (fun k hk2 e=>ho (.inr (by rw[hk2,e]))),hd.nx,fun i a b=>(hd.ats i a b).kp hk (fun k cs hb2 e=> ?_)⟩,hl⟩;subst e;rw[hb] at hb2;injection hb2 with hb2;injection hb2 with _ hb2 _;exact h3 hb2
theorem RowV.k1T{w w':World}{g g2:Nat}{T T2:TypeId}{xs:List Value}{C:Array Value}{fr:Nat×Nat}(h:RowV w T2 g2 xs)(hk:K1 g w w')(hb:w.heap[g]? =some (.cells C T fr))(hT:T≠T2):RowV w' T2 g2 xs:=by
 refine h.kp hk (fun e=> ?_);subst e;unfold RowV at h;rw[hb] at h;injection h with h;injection h with _ h _;exact hT h
def AgainPost(pr pd gl:Nat)(l:List DS)(L:List Bool)(K:List Int)(c:Int)(w:World)(e:Ending)(w':World):Prop:=
 e= .returned (.bool (decide (c<(agK l L K l.length).1.length)))∧Kp (fun k=>k=pr) w w'∧∃gk:Nat,RdIn w' pr pd gl gk l L (agK l L K l.length).2 ((agK l L K l.length).1.length:Nat)
theorem again_c{pr pd gl gk:Nat}{l:List DS}{L:List Bool}{K:List Int}{c:Int}{w:World}(h:RdIn w pr pd gl gk l L K c)(hl:DL l)(hc:0≤c∧c≤1000000):
  Calls Tryz.prog 268 #[ptr pr] w (AgainPost pr pd gl l L K c w):=by
 obtain⟨c0,c1,c2,c3⟩:=h.cells;have hpr:=Qj h.blk;have H:=Qh h;have HL:=Qh hl;have hlen:=hl.len;have hzs:Tryz.zeroCells453.size=257:=by kernel_rfl
 have hzi:=(zero_of_info row_zero).2;obtain⟨i0,hi,hz0,hz1,hz2⟩:=info_parts info_int;have HI:=Qh (And.intro hi (And.intro hz0 (And.intro hz1 hz2)));have hzi0:∀w,(zeroValue 3).run Tryz.prog w= .ok (.int .i64 0) w:=Tryz.zeroValue3;have HZ:=Qh hzi0;have hmm:= @run_makeMap Tryz.prog;clear h hl hi hz0 hz1 hz2 hzi0;go_enter Tryz.func268,Tryz.ntmps268;go_wp2_with (first|(at_make;go_must (refine wpList_make_v _ rfl (.tmp 15) (.tmp 15) 28 rfl 3 i0 (.int .i64 0) Tryz.underlying28 HI.out.1 HI.out.2.1 HI.out.2.2.1 rfl l.length rfl rfl (by rw[HI.out.2.2.2];omega) (by simp only[maxLen];omega) ?_;intro w1 hrow1 hk1)))
 rw[size_alloc'] at hrow1;obtain⟨g2,hg2⟩:∃z,z=w.heap.size+1:=⟨_,rfl⟩;obtain⟨bm,hbm⟩:∃z,z=w.heap.size:=⟨_,rfl⟩;have hm1:MapA w1 Yr bm (agM []):=by rw[hbm];exact(MapA.new w Yr).kn hk1
 have hkn1:Kn w w1:=((Qb _ _).alloc _).trans hk1;rw[←hg2] at hrow1⊢;rw[←hbm];have hbmle:w.heap.size≤bm:=by omega
 have hgle:w.heap.size≤g2:=by omega
 have hne:bm≠g2:=by omega
 have HR1:=Qh hrow1;have HM1:=Qh hm1;clear hrow1 hm1 hk1 hg2 hbm;go_loopw [19] (fun i wr=>∃n:Nat,n≤l.length∧i= .int .i64 n∧Hid (MapA wr Yr bm (agM (agK l L K n).1))∧Hid (RowV wr 3 g2 (iV ((agK l L K n).2++List.replicate (l.length-n) 0)))∧Kn w wr) (fun i _=>l.length-(intOf i).toNat)
 case atStart=>exact⟨0,Nat.zero_le _,rfl,HM1,Qh (by simpa[agK] using HR1.out),hkn1⟩
 case round=>
  clear HR1 HM1 hkn1;obtain⟨n,hn,rfl,hmp,hrow,hkn⟩:=hrel;obtain⟨hrl,hr1,hr2⟩:=agK_len l L K n;have HG6:=Qh (agK_256 l L K n);obtain⟨r,hr⟩:∃r,r=agK l L K n:=⟨_,rfl⟩;have HR:=Qh hr;rw[←hr] at hmp hrow hrl hr1 HG6;clear hr hr2;by_cases hlt:n<l.length
  ·have HRW:=Qh (row_c n (H.out.kn hkn) HL.out hlt);go_wp2_with fail
   refine HRW.out.mono ?_;rintro e w2 ⟨rfl,hk2⟩;have hkn2:=hkn.trans hk2;have HM2:=Qh (hmp.out.kn hk2);have HR2:=Qh (hrow.out.kn hk2);clear hmp hrow hkn hk2;have hfit:=row_fit (rowF l L K n) (YY l L K n) (rowF_fit H.out.kb n).1 (rowF_fit H.out.kb n).2;have hone:(rowC (rowF l L K n)).all (·.oneCell')=true:=by rw[←rwK_full _ (YY l L K n)];exact rwK_one _ _
   have hcs:=Yp (YY l L K n);obtain⟨lx,hkey⟩:=hfit;have HK:=Qh hkey;obtain⟨C,hC⟩:∃C,C=rowC (rowF l L K n):=⟨_,rfl⟩;rw[←hC] at hone hcs HK⊢;have HC:=Qh hC;have hiC:(Tryz.prog.info? Yr).map (·.size)=some C.size:=by rw[hcs];exact hzi
   have hst:=run_storeCells_new (P:=Tryz.prog) w2 Yr Tryz.zeroCells453 C (by rw[hcs];exact hzi) (by rw[hzs,hcs]) hone;clear hkey hC hone;go_upto_region 7 with fail
   obtain⟨b6,hb6⟩:∃z,z=w2.heap.size:=⟨_,rfl⟩;obtain⟨w3,hw3⟩:∃z,z=w2.alloc (.cells C Yr):=⟨_,rfl⟩;have hk3:Kn w2 w3:=by rw[hw3];exact(Qb _ _).alloc _
   have hbb:w3.heap[b6]? =some (.cells C Yr (0,0)):=by rw[hw3,hb6];exact Qf _ _
   have hkn3:=hkn2.trans hk3;have HM3:=Qh (HM2.out.kn hk3);have HR3:=Qh (HR2.out.kn hk3);rw[←hw3,←hb6];have hlen3:=HM3.out.len Tryz.underlying451 3;rw[agM_len] at hlen3;have hl2:(r.2++List.replicate (l.length-n) 0).length=l.length:=by rw[List.length_append,List.length_replicate];omega
   have hc5:=HR3.out.icell (i:=n) (by omega);have hf5:=HR3.out.fr n;have HS:=fun x:Int=>Qh (show(r.2++List.replicate (l.length-n) 0).set n x=(r.2++[x])++List.replicate (l.length-(n+1)) 0 by
    have e:l.length-n=l.length-(n+1)+1:=by omega
    rw[e];have:=snoc_set r.2 (l.length-(n+1)) x;rw[hrl] at this;exact this)
   clear hst hw3 hb6 hkn2 HM2 HR2 hk3;cases hf:r.1.findIdx? (fun x=>decide (x=rowF l L K n)) with
   |some k=>
    obtain⟨hkl,hat,_⟩:=List.findIdx?_eq_some_iff_getElem.1 hf;have hat':r.1[k]=rowF l L K n:=by simpa using hat
    have HX1:Hid ((Value.agg C,Value.int .i64 (k:Nat))∈agM r.1):=Qh (agM_mem.2 ⟨k,hkl,by rw[hat',HC.out]⟩);have HRS:Hid (agK l L K (n+1)=(r.1,r.2++[(k:Int)])):=Qh (by rw[HR.out] at hf⊢;exact agK_some hf);clear hf hat hat';go_wp2_with (first
     |(refine wpList_load_row rfl Yr (.tmp 6) rfl b6 rfl Yr C (0,0) _ hbb Tryz.underlying453 rfl hiC ?_)
     |(at_lookup;refine Ym rfl (.tmp 26) (.tmp 27) true rfl row_key Tryz.underlying451 rfl HM3.out (.agg C) lx rfl HK.out (.int .i64 (k:Nat)) HX1.out ?_))
    have hkn6:Kn w (w3.setCell ⟨g2,n,none⟩ (.int .i64 (k:Nat))):=hkn3.setCell (fun hp=>by have:g2<w.heap.size:=hp;omega) _;have hk6:K1 g2 w3 (w3.setCell ⟨g2,n,none⟩ (.int .i64 (k:Nat))):=Qg _ _;have HR6:=HR3.out.iset n (k:Nat);rw[(HS (k:Nat)).out] at HR6;have HM6:=Qh (HM3.out.kp hk6 hne);have HR7:=Qh HR6;clear HR6 hk6;go_roundw
    case rel=>exact⟨n+1,by omega,by go_num,Qh (by rw[HRS.out];exact HM6.out),Qh (by rw[HRS.out];exact HR7.out),hkn6⟩
    case measure=>simp[intOf];omega
   |none=>
    have HX0:Hid (∀p∈agM r.1,p.1≠Value.agg C):=Qh (by
     intro p hp e;obtain⟨i,hi,rfl⟩:=agM_mem.1 hp;rw[HC.out] at e;have h2:=rowC_inj (HG6.out _ (List.getElem_mem hi)) (YY l L K n) e;have h3:=List.findIdx?_eq_none_iff.1 hf _ (List.getElem_mem hi);simp[h2] at h3)
    have HRS:Hid (agK l L K (n+1)=(r.1++[rowF l L K n],r.2++[(r.1.length:Int)])):=Qh (by rw[HR.out] at hf⊢;exact agK_none hf);have HAS:=Qh (agM_snoc r.1 (rowF l L K n));clear hf;go_wp2_with (first
     |(refine wpList_load_row rfl Yr (.tmp 6) rfl b6 rfl Yr C (0,0) _ hbb Tryz.underlying453 rfl hiC ?_)
     |(at_lookup;refine YZ rfl (.tmp 26) (.tmp 27) true rfl row_key Tryz.underlying451 (.int .i64 0) HZ.out rfl HM3.out (.agg C) lx rfl HK.out HX0.out ?_)
     |(at_mapUpdate;refine wpList_put0 rfl (.tmp 35) (.tmp 36) (.tmp 37) rfl row_key Tryz.underlying451 rfl HM3.out (.agg C) (.int .i64 (r.1.length:Nat)) lx rfl rfl HK.out HX0.out ?_;intro w7 hm7 hk7;have HM7:=Qh hm7;have HR7:=Qh (HR3.out.kp hk7 (fun e=>hne e.symm));have hc7:=HR7.out.icell (i:=n) (by omega);have hf7:=HR7.out.fr n;have hkn7:=hkn3.trans' hk7 (fun i hi e=>by omega);clear hm7))
    have hkn6:Kn w (w7.setCell ⟨g2,n,none⟩ (.int .i64 (r.1.length:Nat))):=hkn7.setCell (fun hp=>by have:g2<w.heap.size:=hp;omega) _;have hk6:K1 g2 w7 (w7.setCell ⟨g2,n,none⟩ (.int .i64 (r.1.length:Nat))):=Qg _ _;have HR6:=HR7.out.iset n (r.1.length:Nat);rw[(HS (r.1.length:Nat)).out] at HR6;have HM6:=HM7.out.kp hk6 hne;rw[HC.out,←HAS.out] at HM6;have HM8:=Qh HM6;have HR8:=Qh HR6;clear HR6 hk6 HM6;go_roundw
    case rel=>exact⟨n+1,by omega,by go_num,Qh (by rw[HRS.out];exact HM8.out),Qh (by rw[HRS.out];exact HR8.out),hkn6⟩
    case measure=>simp[intOf];omega
  ·obtain rfl:n=l.length:=by omega
   have hrw:=hrow.out;rw[Nat.sub_self,List.replicate_zero,List.append_nil] at hrw;have HRW:=Qh hrw;obtain⟨d0,d1,d2,d3⟩:=(H.out.kn hkn).cells;clear hrw hrow c0 c1 c2 c3;go_upto_region 13 with fail
   refine wp_region_held_drew (S:=fun w'=>MapA w' Yr bm (agM r.1)∧w'.cell? ⟨pr,3,none⟩=some (.int .i64 c)) (by kernel_rfl) ⟨hmp.out.kn ((Qb _ _).drew),Qc ((Qb _ _).drew) d3⟩ (fun hHeld=> ?_);obtain⟨wd,hwd⟩:∃z,z=wr.drew:=⟨_,rfl⟩;have hkd:Kn wr wd:=by rw[hwd];exact(Qb _ _).drew
   have hknd:Kn w wd:=hkn.trans hkd;rw[←hwd] at hHeld⊢;clear hwd d0 d1 d2 d3;refine TW 0 43 ?_;refine TW 2 45 ?_;refine TW 3 46 ?_;refine TW 4 47 ?_;refine TH 5 48 ?_;refine RH 1 (fun K hK=> ?_);have hln:=hHeld.1.len Tryz.underlying451 3;rw[agM_len] at hln;go_simp;refine hK.out _ _ hHeld (fun hHeld=> ?_);clear hK K hln
   try simp only[PP]
   refine TW 6 49 ?_;refine TW 7 9 ?_;refine RD ?_;obtain⟨x0,x1,x2,x3⟩:=(H.out.kn hknd).cells;have hln:=hHeld.1.len Tryz.underlying451 3;rw[agM_len] at hln;have HRD:=Qh (HRW.out.kn hkd);have HRI:=Qh (H.out.kn hknd);have hfb:=Qd HRI.out.blk 2;have hfb3:=Qd HRI.out.blk 3;have HMD:=Qh hHeld.1;clear hHeld;go_wp2_with fail
   go_ret;have hkA:K1 pr wd (wd.setCell ⟨pr,2,none⟩ (.slice (some ⟨g2,0,none⟩) l.length l.length)):=Qg _ _;have hkB:K1 pr (wd.setCell ⟨pr,2,none⟩ (.slice (some ⟨g2,0,none⟩) l.length l.length)) ((wd.setCell ⟨pr,2,none⟩ (.slice (some ⟨g2,0,none⟩) l.length l.length)).setCell ⟨pr,3,none⟩ (.int .i64 (r.1.length:Nat))):=Qg _ _;have hkC:=hkA.trans hkB;have hrI:=HRI.out;refine⟨by rw[←HR.out];try rfl,hknd.weak.trans hkC,g2,?_⟩;rw[←HR.out];refine⟨?_,hrI.d.k1T hkC hrI.blk (by decide) (by decide) (by decide),hrI.lv.k1T hkC hrI.blk (by decide),HRD.out.k1T hkC hrI.blk (by decide),hrI.ll,hrl,fun x hx=> ?_⟩
   ·have e1:=Qk hrI.blk 2 (.slice (some ⟨g2,0,none⟩) l.length l.length);have e2:=Qk e1 3 (.int .i64 (r.1.length:Nat));exact e2
   ·have:=(agK_len l L K l.length).2.2 x (by rw[←HR.out];exact hx);omega
def fstM(m:List Int):KV:=m.map (fun x=>(Value.int .i64 x,Value.bool true))
theorem fstM_len(m:List Int):(fstM m).length=m.length:=by simp[fstM]
theorem set_same{α:Type}{m:List α}{j:Nat}{a:α}(h:m[j]? =some a):m.set j a=m:=by
 refine List.ext_getElem? (fun i=> ?_);rw[List.getElem?_set];split
 ·rename_i e;subst e;have:=(List.getElem?_eq_some_iff.1 h).1;rw[if_pos this,h]
 ·rfl
theorem kind0_len(l:List DS)(L:List Bool):(Yh l L).length=l.length:=by simp[Yh]
theorem kind0_get(l:List DS)(L:List Bool)(n:Nat)(h:n<(Yh l L).length):(Yh l L)[n]=if L.getD n false=true then dac l n+2 else 0:=by simp[Yh]
theorem kind0_lt{l:List DS}(hl:DL l)(L:List Bool):∀x∈Yh l L,0≤x∧x≤2000000:=by
 intro x hx;obtain⟨n,hn,rfl⟩:=List.getElem_of_mem hx;rw[kind0_get];have:=hl.dac_lt n;split<;>omega
theorem dist_succ(xs:List Int){k:Nat}(h:k<xs.length):dist (xs.take (k+1))=addK (dist (xs.take k)) xs[k]:=by
 unfold dist;rw[List.take_succ_eq_append_getElem h,List.foldl_append];try rfl
theorem dist_len(xs:List Int):∀k,k≤xs.length→(dist (xs.take k)).length≤k
 |0,_=>by simp[dist]
 |k+1,h=>by
  have h1:=dist_len xs k (by omega);rw[dist_succ xs (by omega)];have:=addK_len (dist (xs.take k)) xs[k];omega
theorem RdIn.move{S:Nat→Prop}{w w':World}{pr pd gl gk:Nat}{l:List DS}{L:List Bool}{K:List Int}{c:Int}(h:RdIn w pr pd gl gk l L K c)(hk:Kp S w w')(hd:DfaAt w' pd l)(h1:¬S pr)(h2:¬S gl)(h3:¬S gk):RdIn w' pr pd gl gk l L K c:=
 ⟨hk.blk h.blk h1,hd,h.lv.kp hk h2,h.kd.kp hk h3,h.ll,h.kl,h.kb⟩
theorem RdIn.kset{w:World}{pr pd gl gk:Nat}{l:List DS}{L:List Bool}{K:List Int}{c:Int}(h:RdIn w pr pd gl gk l L K c)(n:Nat)(x:Int)(hx:0≤x∧x≤2000000)(hd:DfaAt (w.setCell ⟨gk,n,none⟩ (.int .i64 x)) pd l)(h1:pr≠gk)(h2:gl≠gk):RdIn (w.setCell ⟨gk,n,none⟩ (.int .i64 x)) pr pd gl gk l L (K.set n x) c:=by
 have hk:K1 gk w (w.setCell ⟨gk,n,none⟩ (.int .i64 x)):=Qg _ _;refine⟨hk.blk h.blk h1,hd,h.lv.kp hk h2,h.kd.iset n x,h.ll,by rw[List.length_set];exact h.kl,fun y hy=> ?_⟩;rcases List.mem_or_eq_of_mem_set hy with h3|h3
 ·exact h.kb y h3
 ·subst h3;exact hx
theorem RdIn.cset{w:World}{pr pd gl gk:Nat}{l:List DS}{L:List Bool}{K:List Int}{c:Int}(h:RdIn w pr pd gl gk l L K c)(x:Int)(hd:DfaAt (w.setCell ⟨pr,3,none⟩ (.int .i64 x)) pd l):RdIn (w.setCell ⟨pr,3,none⟩ (.int .i64 x)) pr pd gl gk l L K x:=by
 have hk:K1 pr w (w.setCell ⟨pr,3,none⟩ (.int .i64 x)):=Qg _ _;refine⟨?_,hd,h.lv.k1T hk h.blk (by decide),h.kd.k1T hk h.blk (by decide),h.ll,h.kl,h.kb⟩;exact Qk h.blk 3 (.int .i64 x)
def kdK(l:List DS)(L:List Bool)(n:Nat):List Int:=(Yh l L).take n++List.replicate ((Yh l L).length-n) 0
theorem kdK_len(l:List DS)(L:List Bool){n:Nat}(h:n≤l.length):(kdK l L n).length=l.length:=by
 unfold kdK;rw[fill_len _ _ (by rw[kind0_len];exact h),kind0_len]
theorem kdK_set(l:List DS)(L:List Bool){n:Nat}(h:n<l.length)(h':n<(Yh l L).length):(kdK l L n).set n (Yh l L)[n]=kdK l L (n+1):=fill_set _ _ h'
theorem kdK_at(l:List DS)(L:List Bool){n:Nat}(h:n<l.length):(kdK l L n)[n]? =some 0:=by
 have hk:=kind0_len l L;unfold kdK;rw[List.getElem?_append_right (by rw[List.length_take];omega),List.length_take,Nat.min_eq_left (by omega),Nat.sub_self,List.getElem?_replicate,if_pos (by omega)]
theorem kdK_v(l:List DS)(L:List Bool){n:Nat}(h:n<l.length)(h':n<(Yh l L).length):(kdK l L (n+1)).getD n 0=(Yh l L)[n]:=by
 rw[←kdK_set l L h h',List.getD_eq_getElem?_getD,List.getElem?_set_self (by rw[kdK_len l L (Nat.le_of_lt h)];exact h)];rfl
theorem kdK_full(l:List DS)(L:List Bool):kdK l L l.length=Yh l L:=by
 unfold kdK;rw[List.take_of_length_le (by rw[kind0_len];exact Nat.le_refl _),kind0_len,Nat.sub_self,List.replicate_zero,List.append_nil]
theorem wpList_putb{w:World}{t:TypeId}{b:Nat}{m:List Int}{ops:Array Oper}{rest:List Oper}{o:Oper}{a:Act}{Q:Exit→Act→World→Prop}(hg:o.guard=none)(mo xo vo:Operand)(hop:o.op=Op.mapUpdate t mo xo vo)
  (ht:Tryz.prog.underlying t=some (.map 3 4)) (hm:a.eval mo= .map (some b)) (h:MapA w 3 b (fstM m)) (x:Int) (hx:a.eval xo= .int .i64 x) (hv:a.eval vo= .bool true) (hx1: -1000000000≤x∧x≤1000000000)
  (hK:∀w',MapA w' 3 b (fstM (addK m x))→K1 b w w'→wpList Tryz.prog ops Q rest (a.put o.dst undef) w'):wpList Tryz.prog ops Q (o::rest) a w:=by
 have hk:keyOf Tryz.prog 3 (.int .i64 x)=some (.int .i64 x):=keyOf_int_mk Tryz.underlying3 (by
  simp[Lit.wf,IntKind.min,IntKind.max,IntKind.signed,IntKind.bits];omega)
 by_cases hin:x∈m
 ·have hmem:(Value.int .i64 x,Value.bool true)∈fstM m:=List.mem_map.2 ⟨x,hin,rfl⟩;refine wpList_put1 hg mo xo vo hop (int_keyed Tryz.underlying3) ht hm h _ (.bool true) _ hx hv hk (.bool true) hmem ?_;intro w' j hj h1 h2;rw[set_same hj] at h1;exact hK w' (by unfold addK;rw[if_pos hin];exact h1) h2
 ·refine wpList_put0 hg mo xo vo hop (int_keyed Tryz.underlying3) ht hm h _ (.bool true) _ hx hv hk (fun p hp e=> ?_) ?_
  ·obtain⟨y,hy,rfl⟩:=List.mem_map.1 hp;injection e with _ e;subst e;exact hin hy
  ·intro w' h1 h2;exact hK w' (by unfold addK;rw[if_neg hin];unfold fstM at h1⊢;rw[List.map_append];exact h1) h2
theorem kinds_c{pd gl:Nat}{l:List DS}{L:List Bool}{w:World}(h:DfaAt w pd l)(hl:DL l)(hL:RowV w 4 gl (bV L))(hll:L.length=l.length):
  Calls Tryz.prog 220 #[ptr pd,.slice (some ⟨gl,0,none⟩) l.length l.length] w fun e w'=>∃gk:Nat,e= .returned (.slice (some ⟨gk,0,none⟩) l.length l.length)∧
   RowV w' 3 gk (iV (kindGo l L (l.length+1) (Yh l L) (dist (Yh l L)).length))∧(kindGo l L (l.length+1) (Yh l L) (dist (Yh l L)).length).length=l.length∧(∀x∈kindGo l L (l.length+1) (Yh l L) (dist (Yh l L)).length,0≤x∧x≤2000000)∧Kn w w':=by
 have HS:=Qh (DStates_c pd l w h);have HD:=Qh h;have HL:=Qh hl;have HLR:=Qh hL;have hlen:=hl.len;have hgl:=hL.lt;have hk0:=kind0_len l L;have HK0:=Qh (kind0_lt hl L);obtain⟨i0,hi,hz0,hz1,hz2⟩:=info_parts info_int;have HI:=Qh (And.intro hi (And.intro hz0 (And.intro hz1 hz2)));have hmm:= @run_makeMap Tryz.prog;have HDA:=Qh (fun n=>hl.dac_lt n);clear h hl hL hi hz0 hz1 hz2;go_enter Tryz.func220,Tryz.ntmps220;go_wp2_with fail
 refine HS.out.mono ?_;rintro e w' ⟨rfl,rfl⟩;go_wp2_with (first|(at_make;go_must (refine wpList_make_v _ rfl (.tmp 11) (.tmp 11) 28 rfl 3 i0 (.int .i64 0) Tryz.underlying28 HI.out.1 HI.out.2.1 HI.out.2.2.1 rfl l.length rfl rfl (by rw[HI.out.2.2.2];omega) (by simp only[maxLen];omega) ?_;intro w1 hrow1 hk1)))
 obtain⟨g0,hg0⟩:∃z,z=w'.heap.size:=⟨_,rfl⟩;obtain⟨bm,hbm⟩:∃z,z=w1.heap.size+1:=⟨_,rfl⟩;obtain⟨pr,hpr⟩:∃z,z=w1.heap.size:=⟨_,rfl⟩;rw[←hg0] at hrow1;obtain⟨W,hW⟩:∃z,z=(w1.alloc (.cells #[ptr pd,.slice (some ⟨gl,0,none⟩) l.length l.length,.slice (some ⟨g0,0,none⟩) l.length l.length,.int .i64 0] TRd)).alloc (.map #[] 0):=⟨_,rfl⟩;have hkW1:Kn w1 W:=by rw[hW];exact((Qb _ _).alloc _).alloc _
 have hkW:=hk1.trans hkW1;have hb1:W.heap[pr]? =some (.cells #[ptr pd,.slice (some ⟨gl,0,none⟩) l.length l.length,.slice (some ⟨g0,0,none⟩) l.length l.length,.int .i64 0] TRd (0,0)):=by rw[hW,hpr];exact Qm (Qf _ _) _
 have hm1:MapA W 3 bm (fstM []):=by
  have:=MapA.new (w1.alloc (.cells #[ptr pd,.slice (some ⟨gl,0,none⟩) l.length l.length,.slice (some ⟨g0,0,none⟩) l.length l.length,.int .i64 0] TRd)) 3;rw[size_alloc',←hbm] at this;rw[hW];exact this
 have n1:gl<g0:=by omega
 have n2:g0<pr:=by have:=hrow1.lt;omega
 have n3:pr<bm:=by omega
 have n0:w'.heap.size≤g0:=by omega
 rw[←hbm,←hpr,←hg0,←hW];have HRI:Hid (RdIn W pr pd gl g0 l L (kdK l L 0) 0):=Qh ⟨hb1,HD.out.kn hkW,HLR.out.kn hkW,by
  have:=hrow1.kn hkW1;simpa[kdK,hk0] using this,hll,kdK_len l L (Nat.zero_le _),fun x hx=>by
  simp[kdK] at hx;omega⟩
 have HM1:=Qh hm1;clear hW hb1 hm1 hrow1 hk1 hkW1 hg0 hbm hpr;go_loopw [21] (fun i wr=>∃n:Nat,n≤l.length∧i= .int .i64 n∧Hid (RdIn wr pr pd gl g0 l L (kdK l L n) 0)∧Hid (MapA wr 3 bm (fstM (dist ((Yh l L).take n))))∧Kn w' wr) (fun i _=>l.length-(intOf i).toNat)
 case atStart=>exact⟨0,Nat.zero_le _,rfl,HRI,HM1,hkW⟩
 case round=>
  clear HRI HM1 hkW;obtain⟨n,hn,rfl,hri,hmp,hkn⟩:=hrel;obtain⟨c0,c1,c2,c3⟩:=hri.out.cells;by_cases hlt:n<l.length
  ·have hnk:n<(Yh l L).length:=by omega
   have hcl:=hri.out.lv.bcell (i:=n) (by omega);obtain⟨y,hy⟩:∃y,y=(Yh l L)[n]:=⟨_,rfl⟩;have hyb:=HK0.out _ (List.getElem_mem hnk);have hyk:=kind0_get l L n hnk;have HDS:=Qh (dist_succ (Yh l L) hnk);have HKS:=Qh (kdK_set l L hlt hnk);rw[←hy] at hyb hyk HDS HKS;have HYE:=Qh hy.symm;clear hy;have hda:=HDA.out n;obtain⟨z,hz⟩:∃z,z=dac l n:=⟨_,rfl⟩;have HAC:=Qh (DAccept_c pd n l);rw[←hz] at hda hyk HAC;clear hz;obtain⟨hda1,hda2⟩:=hda;have HYB:=Qh hyb;clear hyb;have HKL:=Qh (kdK_len l L hn);obtain⟨bv,hbv⟩:∃bv,bv=L.getD n false:=⟨_,rfl⟩;rw[←hbv] at hcl hyk;clear hbv;cases bv with
   |false=>
    have hy0:y=0:=by simpa using hyk
    have e:kdK l L n=kdK l L (n+1):=by
     have:=HKS.out;rw[hy0,set_same (kdK_at l L hlt)] at this;exact this
    rw[e] at hri;clear e hyk hy0;have hmp2:=hmp;have hx8:=hri.out.kd.icell (i:=n) (by rw[kdK_len l L (by omega)];exact hlt);have hx9:=hri.out.cells.2.2.1;have hkv:=kdK_v l L hlt hnk;rw[HYE.out] at hkv;rw[hkv] at hx8;clear hkv;go_wp2_with (at_mapUpdate;refine wpList_putb rfl (.tmp 38) (.tmp 45) (.const (.bool true)) rfl Tryz.underlying103 rfl hmp2.out y rfl rfl (by have:=HYB.out;omega) ?_;intro w5 hm5 hk5)
    have HM5:=Qh hm5;rw[←HDS.out] at HM5;have hkn5:=hkn.trans' hk5 (fun i hi e=>by omega);have HRI5:=Qh (hri.out.move hk5 (HD.out.kn hkn5) (by omega) (by omega) (by omega));clear hm5 hk5;go_roundw
    case rel=>exact⟨n+1,by omega,by go_num,HRI5,HM5,hkn5⟩
    case measure=>simp[intOf];omega
   |true=>
    have hyz:y=z+2:=by simpa using hyk
    subst hyz;clear hyk;have hwr:IntKind.i64.wrap (z+2)=z+2:=by
     unfold IntKind.wrap;simp[IntKind.signed,IntKind.bits];omega
    go_upto_region 7 with fail
    refine wp_region_held_drew (S:=fun w'=>w'.cell? ⟨pr,2,none⟩=some (.slice (some ⟨g0,0,none⟩) l.length l.length)) (by kernel_rfl) (Qc ((Qb _ _).drew) c2) (fun hHeld=> ?_);obtain⟨wd,hwd⟩:∃z,z=wr.drew:=⟨_,rfl⟩;have hkd:Kn wr wd:=by rw[hwd];exact(Qb _ _).drew
    have hknd:=hkn.trans hkd;have HDD:=Qh (HD.out.kn hknd);have HRD:=Qh (hri.out.kn hkd);have HMD:=Qh (hmp.out.kn hkd);rw[←hwd] at hHeld⊢;clear hwd c0 c1 c2 c3 hcl hkd;refine TW 0 28 ?_;refine TW 1 29 ?_;refine TW 2 30 ?_;refine TH 3 31 ?_;refine TW 4 32 ?_;refine TW 5 33 ?_;refine TW 6 34 ?_;refine RH 7 (fun K hK=> ?_);go_simp
    go_at_call 222
    refine(HAC.out wd HDD.out hlt).mono ?_;rintro e u1 ⟨rfl,rfl⟩;dsimp only;refine hK.out _ _ hHeld (fun hHeld=> ?_);clear hK K
    try simp only[PP]
    refine TW 8 36 ?_;refine TW 9 37 ?_;refine RH 10 (fun K hK=> ?_);have hs1:=HRD.out.kd.icell (i:=n) (by have:=HKL.out;omega);have hs2:=HRD.out.kd.fr n;go_simp;obtain⟨u2,hu2⟩:∃zz,zz=u1.setCell ⟨g0,n,none⟩ (.int .i64 (z+2)):=⟨_,rfl⟩;have hk2:K1 g0 u1 u2:=by rw[hu2];exact Qg _ _
    have hkn2:=hknd.trans' hk2 (fun i hi e=>by omega);have hR2:=HRD.out.kset n (z+2) HYB.out (by rw[←hu2];exact HD.out.kn hkn2) (by omega) (by omega);rw[←hu2] at hR2⊢;have HR2:=Qh hR2;have HM2:=Qh (HMD.out.kp hk2 (by omega));refine hK.out _ _ HR2.out.cells.2.2.1 (fun hHeld=> ?_);clear hK K hs1 hs2 hu2 hR2
    try simp only[PP]
    refine RD ?_;have hri:=HR2;rw[HKS.out] at hri;have hmp2:=HM2;have hx8:=hri.out.kd.icell (i:=n) (by rw[kdK_len l L (by omega)];exact hlt);have hx9:=hri.out.cells.2.2.1;have hkv:=kdK_v l L hlt hnk;rw[HYE.out] at hkv;rw[hkv] at hx8;clear hkv;go_wp2_with (at_mapUpdate;refine wpList_putb rfl (.tmp 38) (.tmp 45) (.const (.bool true)) rfl Tryz.underlying103 rfl hmp2.out (z+2) rfl rfl (by have:=HYB.out;omega) ?_;intro w5 hm5 hk5)
    have HM5:=Qh hm5;rw[←HDS.out] at HM5;have hkn5:=hkn2.trans' hk5 (fun i hi e=>by omega);have HRI5:=Qh (hri.out.move hk5 (HD.out.kn hkn5) (by omega) (by omega) (by omega));clear hm5 hk5;go_roundw
    case rel=>exact⟨n+1,by omega,by go_num,HRI5,HM5,hkn5⟩
    case measure=>simp[intOf];omega
  ·obtain rfl:n=l.length:=by omega
   have hr1:=hri.out;have hm1:=hmp.out;rw[kdK_full] at hr1;rw[List.take_of_length_le (by omega)] at hm1;have hln:=hm1.len Tryz.underlying103 3;rw[fstM_len] at hln;have hf3:=Qd hr1.blk 3;have hdl:=dist_len (Yh l L) l.length (by omega);rw[List.take_of_length_le (by omega)] at hdl;obtain⟨m,hm⟩:∃m,m=(dist (Yh l L)).length:=⟨_,rfl⟩;have HRES:=Qh hm;rw[←hm] at hln hdl;have HR1:=Qh hr1;clear hri hmp hr1 hm1 hm;go_wp2_with fail
   obtain⟨w3,hw3⟩:∃zz,zz=wr.setCell ⟨pr,3,none⟩ (.int .i64 (m:Nat)):=⟨_,rfl⟩;have hk3:K1 pr wr w3:=by rw[hw3];exact Qg _ _
   have hkn3:=hkn.trans' hk3 (fun i hi e=>by omega);have hR3:=HR1.out.cset (m:Nat) (by rw[←hw3];exact HD.out.kn hkn3);rw[←hw3] at hR3⊢;have HR3:=Qh hR3;clear hw3 hR3 hk3 c0 c1 c2 c3 hln hf3;go_loopg [] (l.length+1) (fun f wr=>∃(K:List Int) (c gk:Nat),Hid (RdIn wr pr pd gl gk l L K (c:Nat))∧c≤l.length∧l.length-c<f∧Hid (kindGo l L f K c=kindGo l L (l.length+1) (Yh l L) m)∧Kn w' wr)
   case atStart=>exact⟨_,m,g0,HR3,hdl,by omega,Qh rfl,hkn3⟩
   case round=>
    obtain⟨K,c,gK,hrd,hcl,hcf,hgo,hkr⟩:=hrel;have hag:=agK_len l L K l.length;have HAG:=Qh (again_c hrd.out HL.out (by omega));obtain⟨f,rfl⟩:∃f,gk=f+1:=⟨gk-1,by omega⟩;have hgo2:=hgo.out;rw[kindGo] at hgo2;have HGO:=Qh hgo2;have hag1:=hag.1;have hag2:=hag.2.1;clear hgo hgo2 hag;obtain⟨r,hr⟩:∃r,r=agK l L K l.length:=⟨_,rfl⟩;rw[←hr] at HGO hag1 hag2;have HAR:=Qh hr;clear hr;by_cases hcm:c<r.1.length
    ·have hd2:decide ((c:Int)<(r.1.length:Nat))=true:=by rw[decide_eq_true_eq];omega
     go_wp2_with fail
     refine HAG.out.mono ?_;rintro e w5 ⟨rfl,hk5,gk5,hr5⟩;rw[←HAR.out] at hr5⊢;rw[hd2];have HR5:=Qh hr5;have hkr5:=hkr.trans' hk5 (fun i hi e=>by omega);clear hr5;go_wp2_with fail
     go_roundg f
     case measure=>omega
     case rel=>exact⟨r.2,r.1.length,gk5,HR5,hag2,by omega,Qh (by have:=HGO.out;rw[if_pos hcm] at this;exact this),hkr5⟩
    ·have hd2:decide ((c:Int)<(r.1.length:Nat))=false:=by rw[decide_eq_false_iff_not];omega
     go_wp2_with fail
     refine HAG.out.mono ?_;rintro e w5 ⟨rfl,hk5,gk5,hr5⟩;rw[←HAR.out] at hr5⊢;rw[hd2];have HR5:=Qh hr5;have hx2:=hr5.cells.2.2.1;have hkr5:=hkr.trans' hk5 (fun i hi e=>by omega);clear hr5;go_wp2_with fail
     go_ret;have e:=HGO.out;rw[if_neg hcm] at e;refine⟨gk5,rfl,?_,?_,?_,hkr5⟩
     ·rw[←HRES.out,←e];exact HR5.out.kd
     ·rw[←HRES.out,←e];exact HR5.out.kl
     ·rw[←HRES.out,←e];exact HR5.out.kb
def lsB(l:List DS)(L:List Bool)(K:List Int)(n:Nat)(r:List Nat×List Int)(b:Nat):List Nat×List Int:=
 if hit l L n b=true then
  match r.1.findIdx? (fun q=>decide (K.getD q 0=K.getD (dnx l n b).toNat 0)) with
  |some j=>(r.1,r.2++[(j:Int)])
  |none=>(r.1++[(dnx l n b).toNat],r.2++[(r.1.length:Int)])
 else(r.1,r.2++[-1])
def lsK(l:List DS)(L:List Bool)(K:List Int)(n:Nat)(F:List Nat)(b:Nat):List Nat×List Int:=(List.range b).foldl (lsB l L K n) (F,[])
def lsGo(l:List DS)(L:List Bool)(K:List Int):Nat→Nat→List Nat→List (List Int×Int)→List (List Int×Int)
 |0,_,_,out=>out
 |f+1,i,F,out=>match F[i]? with|some n=>lsGo l L K f (i+1) (lsK l L K n F 256).1 (out++[((lsK l L K n F 256).2,dac l n)])|none=>out
def leastF(l:List DS):List (List Int×Int):=lsGo l (liveF l) (kindF l) (l.length+1) 0 [0] []
theorem lsK_succ(l:List DS)(L:List Bool)(K:List Int)(n:Nat)(F:List Nat)(b:Nat):lsK l L K n F (b+1)=lsB l L K n (lsK l L K n F b) b:=by
 unfold lsK;rw[List.range_succ,List.foldl_append];try rfl
structure FOk (n:Nat) (K:List Int) (F:List Nat):Prop where
 lt:∀q∈F,q<n
 nd:(F.map (fun q=>K.getD q 0)).Nodup
theorem nodup_len2:∀(n:Nat) (F:List Nat),F.Nodup→(∀q∈F,q<n)→F.length≤n
 |0,F,_,h=>by
  cases F with
  |nil=>exact Nat.le_refl _
  |cons x F=>exact absurd (h x List.mem_cons_self) (Nat.not_lt_zero _)
 |n+1,F,hd,h=>by
  have ih:=nodup_len2 n (F.erase n) (hd.erase n) (fun q hq=>by
   have h1:=h q (List.mem_of_mem_erase hq);have h2:q≠n:=fun e=>by
    subst e;exact(List.Nodup.not_mem_erase hd) hq
   omega)
  have:=List.length_erase (a:=n) (l:=F);split at this<;>omega
theorem FOk.len{n:Nat}{K:List Int}{F:List Nat}(h:FOk n K F):F.length≤n:=by
 refine nodup_len2 n F ?_ h.lt;have:=h.nd;unfold List.Nodup at this⊢;rw[List.pairwise_map] at this;exact this.imp (fun hab e=>hab (by rw[e]))
theorem FOk.snoc{n:Nat}{K:List Int}{F:List Nat}(h:FOk n K F){q:Nat}(hq:q<n)(hf:F.findIdx? (fun p=>decide (K.getD p 0=K.getD q 0))=none):FOk n K (F++[q]):=by
 refine⟨fun p hp=> ?_,?_⟩
 ·rcases List.mem_append.1 hp with h1|h1
  ·exact h.lt p h1
  ·simp at h1;subst h1;exact hq
 ·rw[List.map_append,List.nodup_append];refine⟨h.nd,by simp,fun a ha b hb e=> ?_⟩;simp at hb;subst hb;subst e;obtain⟨p,hp,hpe⟩:=List.mem_map.1 ha;have:=List.findIdx?_eq_none_iff.1 hf p hp;exact absurd hpe (of_decide_eq_false this)
theorem lsK_ok{l:List DS}{L:List Bool}{K:List Int}{n:Nat}{F:List Nat}(hl:DL l)(h:FOk l.length K F):∀b,FOk l.length K (lsK l L K n F b).1∧F.length≤(lsK l L K n F b).1.length∧(∃G,(lsK l L K n F b).1=F++G)∧(lsK l L K n F b).2.length=b∧∀x∈(lsK l L K n F b).2,-1≤x∧x<(lsK l L K n F b).1.length
 |0=>⟨h,Nat.le_refl _,⟨[],by simp[lsK]⟩,rfl,fun x hx=>by cases hx⟩
 |b+1=>by
  obtain⟨h1,h2,⟨G,h3⟩,h4,h5⟩:=lsK_ok hl h (L:=L) (n:=n) b;rw[lsK_succ];unfold lsB;split
  ·rename_i hh;have hd:=hl.dnx_lt n b;have hq:(dnx l n b).toNat<l.length:=by
    have h6:dnx l n b≠-1:=by
     unfold hit at hh;rw[Bool.and_eq_true,decide_eq_true_eq] at hh;exact hh.1
    omega
   cases hf:(lsK l L K n F b).1.findIdx? (fun q=>decide (K.getD q 0=K.getD (dnx l n b).toNat 0)) with
   |some j=>
    obtain⟨hj,_⟩:=List.findIdx?_eq_some_iff_getElem.1 hf;refine⟨h1,h2,⟨G,h3⟩,by simp[h4],fun x hx=> ?_⟩;rcases List.mem_append.1 hx with hx|hx
    ·exact h5 x hx
    ·simp at hx;subst hx;dsimp only;omega
   |none=>
    refine⟨h1.snoc hq hf,by simp;omega,⟨G++[(dnx l n b).toNat],by simp[h3]⟩,by simp[h4],fun x hx=> ?_⟩;rcases List.mem_append.1 hx with hx|hx
    ·have:=h5 x hx;simp;omega
    ·simp at hx;subst hx;simp;omega
  ·refine⟨h1,h2,⟨G,h3⟩,by simp[h4],fun x hx=> ?_⟩;rcases List.mem_append.1 hx with hx|hx
   ·exact h5 x hx
   ·simp at hx;subst hx;dsimp only;omega
abbrev TL:TypeId:=365
abbrev TLs:TypeId:=367
def plM(K:List Int)(F:List Nat):KV:=F.zipIdx.map (fun p=>(Value.int .i64 (K.getD p.1 0),Value.int .i64 (p.2:Nat)))
theorem plM_snoc(K:List Int)(F:List Nat)(q:Nat):plM K (F++[q])=plM K F++[(.int .i64 (K.getD q 0),.int .i64 (F.length:Nat))]:=by
 unfold plM;rw[List.zipIdx_append,List.map_append];simp
theorem plM_mem{K:List Int}{F:List Nat}{p:Value×Value} :p∈plM K F↔∃i,∃h:i<F.length,p=(.int .i64 (K.getD F[i] 0),.int .i64 (i:Nat)):=by
 unfold plM;rw[List.mem_map];constructor
 ·rintro⟨q,hq,rfl⟩;obtain⟨j,hj,rfl⟩:=List.getElem_of_mem hq;have hj':j<F.length:=by simpa using hj
  exact⟨j,hj',by simp⟩
 ·rintro⟨i,h,rfl⟩;refine⟨(F[i],i),?_,rfl⟩;exact List.mem_iff_getElem.2 ⟨i,by simp;omega,by simp⟩
def rwN(nx:List Int)(acc:Int):List Value:=iV (nx++List.replicate (256-nx.length) 0)++[Value.int .i64 acc]
theorem rwN_len{nx:List Int}(h:nx.length≤256)(acc:Int):(rwN nx acc).length=257:=by
 unfold rwN;rw[List.length_append,List.length_map,List.length_append,List.length_replicate];simp;omega
theorem rwN_set{nx:List Int}(h:nx.length<256)(acc x:Int):(rwN nx acc).set nx.length (.int .i64 x)=rwN (nx++[x]) acc:=by
 unfold rwN;rw[List.set_append_left _ _ (by rw[List.length_map,List.length_append,List.length_replicate];omega),←List.map_set,List.set_append_right _ _ (Nat.le_refl _),Nat.sub_self];have e:256-nx.length=(256-(nx++[x]).length)+1:=by simp;omega
 rw[e,List.replicate_succ,List.set_cons_zero];simp
theorem rwN_full{nx:List Int}(h:nx.length=256)(acc:Int):(rwN nx acc).toArray=rowC (nx,acc):=by
 unfold rwN rowC;rw[h];simp
theorem rwN_one(nx:List Int)(acc:Int):(rwN nx acc).toArray.all (·.oneCell')=true:=by
 rw[Array.all_eq_true_iff_forall_mem];intro u hu;simp only[rwN,List.mem_toArray,List.mem_append,List.mem_map,List.mem_singleton] at hu;rcases hu with⟨y,_,h⟩|h<;>subst h<;>rfl
def lsC(x:List Int×Int):List Value:=(rowC x).toList
structure LIn (w:World) (pl gof n:Nat) (vout:Value) (out:List (List Int×Int)) (zs:List Int):Prop where
 blk:w.heap[pl]? =some (.cells #[vout,.slice (some ⟨gof,0,none⟩) n n] TL (0,0))
 row:OwnK w pl TLs 257 vout (out.map lsC)
 of_:RowV w 3 gof (iV zs)
 zl:zs.length=n
 nl:∀x∈out,x.1.length=256
theorem LIn.kn{w w':World}{pl gof n:Nat}{vout:Value}{out:List (List Int×Int)}{zs:List Int}(h:LIn w pl gof n vout out zs)(hk:Kn w w'):LIn w' pl gof n vout out zs:=
 ⟨hk.blk h.blk (fun x=>x),h.row.kn hk,h.of_.kn hk,h.zl,h.nl⟩
theorem LIn.kp{S:Nat→Prop}{w w':World}{pl gof n:Nat}{vout:Value}{out:List (List Int×Int)}{zs:List Int}(h:LIn w pl gof n vout out zs)(hk:Kp S w w')(h1:¬S pl)(h2:¬S gof)(h3:∀g,vout.ownBlock=some g→¬S g):LIn w' pl gof n vout out zs:=
 ⟨hk.blk h.blk h1,h.row.kp hk h3,h.of_.kp hk h2,h.zl,h.nl⟩
theorem ls_info:∃ie,Tryz.prog.info? TLs=some ie∧ie.zero=some (.agg Tryz.zeroCells367)∧ie.size=257∧ie.bytes=2056:=by
 have h:(Tryz.prog.info? TLs).map (fun i=>(i.zero,i.size,i.bytes))=some (some (.agg Tryz.zeroCells367),257,2056):=by kernel_rfl
 obtain⟨i0,h1,h2,h3,h4⟩:=info_parts h;exact⟨i0,h1,h2,h3,h4⟩
theorem wp_slice_ls{o:Oper}{a:Act}{w:World}{K:Act→World→Prop}{Q:Exit→Act→World→Prop}(x:Operand)(C:Array Value)(ho:o.op= .buildSlice 363 1 #[(0,x)])(hx:a.eval x= .agg C)(hC:C.size=257)
  (h:K (a.put o.dst (.slice (some ⟨w.heap.size,0,none⟩) 1 1)) (w.alloc (.cells C TLs))):o.wp Tryz.prog a w K Q:=by
 obtain⟨ie,h1,h2,h3,_⟩:=ls_info;refine wp_buildSlice 363 TLs 1 _ ho C ie _ Tryz.underlying363 h1 h2 (by rw[h3];decide) (by rw[h3];decide) ?_ h;have:=Great.fill_whole (s:=257) (by decide) [.agg C] ((Array.range (1*ie.size)).map ((Value.agg Tryz.zeroCells367).cells[·%(Value.agg Tryz.zeroCells367).cells.size]!)) (by
  intro v hv;simp at hv;subst hv;exact hC) (by simp[h3])
 rw[h3] at this⊢;simp only[List.zipIdx_cons,List.zipIdx_nil,List.map_cons,List.map_nil,List.flatMap_cons,List.flatMap_nil,List.append_nil,Array.toArray_toList] at this
 first
  |exact this
  |(simp only[List.map_toArray,List.map_cons,List.map_nil,hx];exact this)
theorem step_slice_ls{ops:Array Oper}{o:Oper}{a:Act}{w:World}{K:Act→World→Prop}{Q:Exit→Act→World→Prop}{E:Prop}(hgd:o.guard=none)(x:Operand)(C:Array Value)(ho:o.op= .buildSlice 363 1 #[(0,x)])(hx:a.eval x= .agg C)(hC:C.size=257)
  (h:K (a.put o.dst (.slice (some ⟨w.heap.size,0,none⟩) 1 1)) (w.alloc (.cells C TLs))):if Region.wanted o (yielded ops a.tmps)=true then Oper.wp Tryz.prog o a w K Q else E:=by
 have hw:Region.wanted o (yielded ops a.tmps)=true:=by simp[Region.wanted,hgd]
 rw[if_pos hw];exact wp_slice_ls x C ho hx hC h
theorem Qn{w:World}{g:Nat}{C D:Array Value}{T U:TypeId}{f f':Nat×Nat}(h:w.heap[g]? =some (.cells C T f))(h':w.heap[g]? =some (.cells D U f'))(hT:T≠U):False:=by
 rw[h] at h';injection h' with h';injection h' with _ h' _;exact hT h'
theorem LIn.snoc{W w1:World}{pl gof n:Nat}{vout v1:Value}{out:List (List Int×Int)}{zs:List Int}(h:LIn W pl gof n vout out zs){x:List Int×Int}(hx:x.1.length=256)
  (hown:OwnK w1 pl TLs 257 v1 (out.map lsC++[(rowC x).toList])) (hk:Kp (fun k=>some k=vout.ownBlock) W w1):LIn (w1.setCell ⟨pl,0,none⟩ v1) pl gof n v1 (out++[x]) zs:=by
 have hk1:K1 pl w1 (w1.setCell ⟨pl,0,none⟩ v1):=Qg _ _;have hpb:=hk.blk h.blk (fun e=>by obtain⟨cur,h1⟩:=h.row.blkT e.symm;exact Qn h.blk h1 (by decide));have hof:RowV w1 3 gof (iV zs):=h.of_.kp hk (fun e=>by obtain⟨cur,h1⟩:=h.row.blkT e.symm;exact Qn h.of_ h1 (by decide));refine⟨Qk hpb 0 v1,?_,hof.kp hk1 (fun e=>by subst e;exact Qn hpb hof (by decide)),h.zl,fun y hy=> ?_⟩
 ·rw[List.map_append];exact hown.kp hk1 (fun g hg e=>by subst e;obtain⟨cur,h1⟩:=hown.blkT hg;exact Qn hpb h1 (by decide))
 ·rcases List.mem_append.1 hy with h1|h1
  ·exact h.nl y h1
  ·simp at h1;subst h1;exact hx
end Go.Proofs.YtiehgcfckhepaaaGreatDoor
