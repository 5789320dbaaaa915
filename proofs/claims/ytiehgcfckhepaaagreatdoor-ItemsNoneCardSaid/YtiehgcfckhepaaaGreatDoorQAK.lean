/-
  Texts of this claim, laid together: GRuls, TNew, TAcc, UProd, UPure, USize, URound, KMark, UNew. Conditions: none.
-/
import Derived.Test.YtiehgcfckhepaaaGreatDoorQAJ
import Derived.Test.YtiehgcfckhepaaaGreatDoorQAI
import Derived.Test.YtiehgcfckhepaaaGreatDoorQAA
set_option linter.unusedVariables false
set_option linter.unusedSimpArgs false
set_option maxRecDepth 100000
set_option maxHeartbeats 16000000
namespace Go.Proofs.YtiehgcfckhepaaaGreatDoor
open Go.RowKit Go.Maps
theorem zip_ru_set(rs:List GR)(vk:List Value)(k:Nat)(v:Value)(hk:k<(List.zipWith ruL rs vk).length):
  (List.zipWith ruL rs vk).set k ((List.zipWith ruL rs vk)[k].set 3 v)=List.zipWith ruL rs (vk.set k v):=by
 apply List.ext_getElem
 ·simp
 ·intro i h1 h2;rw[List.getElem_set];split
  ·subst_vars;simp[ruL]
  ·rename_i hne;simp only[List.getElem_zipWith];rw[List.getElem_set_ne hne]
def RulesPost(w:World)(rs:List GR)(e:Ending)(w':World):Prop:=∃v vps,e= .returned v∧RuAt w' w.heap.size v rs vps∧Kn w w'
theorem rules_c{B p kb:Nat}{R:RS}{A:RA}{rs:List GR}{vps:List Value}{br:List (Nat×Nat)}{w:World}(h:LkAt w B p R A kb rs vps br)(hrl:rs.length≤120)(hpz:∀r∈rs,r.parts.length≤1000000):
  Calls Tryz.prog 55 #[ptr p] w (RulesPost w rs):=by
 have h4:∀vk:List Value,∀C∈List.zipWith ruL rs vk,C.length=4:=fun vk C hC=>by obtain⟨i,hi,rfl⟩:=List.getElem_of_mem hC;simp[ruL]
 have hlen:=h.ru.len;have hon1:∀u∈(List.zipWith ruL rs vps).flatten,u.oneCell'=true:=by
  intro u hu;obtain⟨C,hC,hu⟩:=List.mem_flatten.1 hu;obtain⟨i,hi,rfl⟩:=List.getElem_of_mem hC;have hi2:i<rs.length∧i<vps.length:=by rw[List.length_zipWith] at hi;omega
  have hp:=h.ru.parts i hi2.2 hi2.1;obtain⟨a,c,hv,_⟩:=hp.row (k:=4) (fun C hC=>by obtain⟨x,_,rfl⟩:=List.mem_map.1 hC;rfl);simp only[List.getElem_zipWith,ruL,hv] at hu;simp at hu;rcases hu with rfl|rfl|rfl|rfl<;>rfl
 have HCL:=Qh (CloneR_c w (by rw[List.length_zipWith];omega) (h4 vps) hon1 h.ru.row);have HP:=Qh (fun(wr:World) (hk:Kn w wr) (i:Nat) (h1:i<rs.length) (h2:i<vps.length)=>
  CloneP_c wr (by rw[List.length_map];exact hpz _ (List.getElem_mem h1)) (fun C hC=>by obtain⟨x,_,rfl⟩:=List.mem_map.1 hC;rfl) (fun u hu=>by
   obtain⟨C,hC,hu⟩:=List.mem_flatten.1 hu;obtain⟨x,_,rfl⟩:=List.mem_map.1 hC;simp[paL] at hu;rcases hu with rfl|rfl|rfl|rfl<;>rfl) ((h.ru.parts i h2 h1).kn hk))
 obtain⟨_,_,_,q3,_⟩:=h.rd.cells;have hpl:=h.rd.lt;clear h hon1;go_enter Tryz.func55,Tryz.ntmps55;go_wp2_with fail
 refine HCL.out.mono ?_;rintro e w1 ⟨v,rfl,hown,hk1⟩;obtain⟨a,c,rfl,hc1,hc2,hg⟩:=hown.row (h4 vps);have HX:=Qh hg;have hzl:(List.zipWith ruL rs vps).length=rs.length:=by rw[List.length_zipWith,hlen,Nat.min_self]
 rw[hzl] at hown hc1⊢;have HOW:=Qh hown;have HLN:=Qh hlen;clear hg hown HCL q3 hzl hlen;go_wp2_with fail
 go_loopw [14] (fun s14 wr=>∃(k:Nat) (vk:List Value),s14= .int .i64 k∧k≤rs.length∧Hid (OwnK wr w.heap.size TRu 4 (.slice a rs.length c) (List.zipWith ruL rs vk))∧Hid (vk.length=rs.length)∧Hid (∀i (h1:i<vk.length) (h2:i<rs.length),i<k→OwnK wr w.heap.size TPa 4 vk[i] (rs[i].parts.map paL))∧Hid (∀i,k≤i→vk[i]? =vps[i]?)∧Kn w wr) (fun s14 _=>rs.length-(intOf s14).toNat)
 case atStart=>exact⟨0,vps,rfl,Nat.zero_le _,HOW,HLN,Qh (fun i _ _ h=>absurd h (Nat.not_lt_zero _)),Qh (fun _ _=>rfl),hk1⟩
 case round=>
  clear HOW hk1;obtain⟨k,vk,rfl,hk,HO,HV,HPA,HR,hkn⟩:=hrel;by_cases hlt:k<rs.length
  ·have hvk:=HV.out;obtain⟨a',c',hv,_,_,hg⟩:=HO.out.row (h4 vk);have hzl:(List.zipWith ruL rs vk).length=rs.length:=by rw[List.length_zipWith,hvk,Nat.min_self]
   obtain⟨g,rfl,hgH,_,hc⟩:=hg (fun e=>by rw[e] at hzl;simp at hzl;omega);obtain rfl:a=some ⟨g,0,none⟩:=by injection hv
   have c3:wr.cell? ⟨g,k*4+3,none⟩=some (vk[k]'(by omega)):=by
    have:=(hc k (by omega) 3 (by omega)).1;rw[show 0+4*k+3=k*4+3 by omega] at this;rw[this];simp[ruL]
   have f3:wr.frozen? ⟨g,k*4+3,none⟩=false:=by
    have:=(hc k (by omega) 3 (by omega)).2;rwa[show 0+4*k+3=k*4+3 by omega] at this
   have hlv:k<vps.length:=by have:=HLN.out;omega
   have hvv:vk[k]'(by omega)=vps[k]:=by
    have:=HR.out k (Nat.le_refl _);rw[List.getElem?_eq_getElem (by omega),List.getElem?_eq_getElem hlv] at this;exact Option.some.inj this
   rw[hvv] at c3;have HPC:=Qh (HP.out wr hkn k hlt hlv);obtain⟨vp,hvp⟩:∃x,x=vps[k]:=⟨_,rfl⟩;rw[←hvp] at HPC c3;have HZL:=Qh hzl;have HGH:=Qh hgH;obtain⟨cur,hgb⟩:=OwnK.blkT HO.out (g:=g) rfl;have hgl:g<wr.heap.size:=by
    rcases Nat.lt_or_ge g wr.heap.size with h|h
    ·exact h
    ·rw[Array.getElem?_eq_none h] at hgb;cases hgb
   clear hv hg hc hvv hvp hzl hvk hgb hgH;go_wp2_with fail
   refine HPC.out.mono ?_;rintro e w2 ⟨v',rfl,hov,hk2⟩;have f32:w2.frozen? ⟨g,k*4+3,none⟩=false:=by
    obtain⟨cur,hgb⟩:=OwnK.blkT (HO.out.kn hk2) (g:=g) rfl;exact Qd hgb _
   obtain⟨a2,c2,rfl,_⟩:=hov.row (k:=4) (fun C hC=>by obtain⟨x,_,rfl⟩:=List.mem_map.1 hC;rfl);have hml:(List.map paL rs[k].parts).length=rs[k].parts.length:=List.length_map ..
   rw[hml] at hov⊢;clear hml;have HOV:=Qh hov;have HK2:=Qh hk2;have c32:=Qc hk2 c3;clear f3 c3 hov hk2;go_wp2_with fail
   go_roundw
   case rel=>
    have hkn2:=hkn.trans HK2.out;have hvk:=HV.out;have hkz:k<(List.zipWith ruL rs vk).length:=by have:=HZL.out;omega
    have hkv:k<vk.length:=by omega
    have hk3:K1 g w2 (w2.setCell ⟨g,k*4+3,none⟩ (.slice a2 rs[k].parts.length c2)):=Qg _ _;have hset:=OwnK.set (HO.out.kn HK2.out) (h4 vk) (g:=g) rfl k 3 hkz (by omega) (.slice a2 rs[k].parts.length c2);rw[zip_ru_set,show 0+4*k+3=k*4+3 by omega] at hset;obtain⟨cur,hgb⟩:=OwnK.blkT (HO.out.kn HK2.out) (g:=g) rfl;have hS:=QK hgb;refine⟨k+1,vk.set k (.slice a2 rs[k].parts.length c2),by go_num,by omega,Qh hset,Qh (by rw[List.length_set];exact HV.out),Qh ?_,Qh ?_,?_⟩
    ·intro i h1 h2 hi;rw[List.length_set] at h1;by_cases e:k=i
     ·subst e;rw[List.getElem_set_self];exact Ql (OwnK.base HOV.out (by have:=hkn.size;omega)) hk3 hS (by decide)
     ·rw[List.getElem_set_ne e];exact Ql ((HPA.out i h1 h2 (by omega)).kn HK2.out) hk3 hS (by decide)
    ·intro i hi;rw[List.getElem?_set_ne (by omega)];exact HR.out i (by omega)
    ·exact hkn2.trans' hk3 (fun i hi e=>by have:=HGH.out;omega)
   case measure=>simp[intOf];omega
  ·obtain rfl:k=rs.length:=by omega
   go_wp2_with fail
   go_ret;exact⟨_,vk,rfl,⟨HO.out,HV.out,fun i h1 h2=>HPA.out i h1 h2 h2⟩,hkn⟩
theorem step_make_v{P:Program}(w:World){x:Value}{ops:Array Oper}{o:Oper}{a:Act}{K:Act→World→Prop}{Q:Exit→Act→World→Prop}{E:Prop}
  (hg:o.guard=none) (l c:Operand) (t:TypeId) (hop:o.op=Op.makeSlice t l c) (e:TypeId) (i:TypeInfo) (z:Value) (h1:P.underlying t=some (.slice e)) (h2:P.info? e=some i) (h3:i.zero=some z) (h4:i.size=1) (hz:z.cells= #[x])
  (n:Nat) (hl:a.eval l= .int .i64 n) (hc:a.eval c= .int .i64 n) (b2:i.bytes*n≤281474976710656) (b3:n≤maxLen)
  (hK:∀w',RowV w' e w.heap.size (List.replicate n x)→Kn w w'→K (a.put o.dst (.slice (some ⟨w.heap.size,0,none⟩) n n)) w'):
  if Region.wanted o (yielded ops a.tmps)=true then Oper.wp P o a w K Q else E:=by
 have hw:Region.wanted o (yielded ops a.tmps)=true:=by simp[Region.wanted,hg]
 rw[if_pos hw];obtain⟨w',hr,h5,h6⟩:=run_make_full (P:=P) w 0 t e i z 1 h1 h2 h3 h4 .i64 .i64 n b2 b3 (Nat.zero_le _);rw[hz] at h5;have h7:=hK w' (RowV.of_made h5) (QT (S:=fun _=>False) h6 (fun k e _=>by cases e));unfold Oper.wp;simp[execOp,hop,hl,hc,hr,Result.andThen];exact h7
theorem info_bi:(Tryz.prog.info? TBi).map (fun i=>(i.zero,i.size,i.bytes))=some (some (.agg #[.int .u64 0]),1,8):=by kernel_rfl
structure NewI (w0 w:World) (p n:Nat) (c:SA) (o4 o6 o8:Option Nat):Prop where
 blk:w.heap[p]? =some (.cells (seC c) TSt (0,0))
 kp:K1 p w0 w
 r4:∀g,o4=some g→RowV w 4 g (List.replicate n (.bool false))∧w0.heap.size≤g∧g≠p
 r6:∀g,o6=some g→RowV w TBi g (List.replicate n (.int .u64 0))∧w0.heap.size≤g∧g≠p
 r8:∀g,o8=some g→RowV w TBi g (List.replicate n (.int .u64 0))∧w0.heap.size≤g∧g≠p
 ne:∀g h,o6=some g→o8=some h→g≠h
section
variable {w0 w w':World} {p n:Nat} {c:SA} {o4 o6 o8:Option Nat}
theorem NewI.kn(h:NewI w0 w p n c o4 o6 o8)(hk:Kn w w'):NewI w0 w' p n c o4 o6 o8:=⟨hk.blk h.blk (fun x=>x),h.kp.trans (Kp.weak hk),fun g e=>⟨(h.r4 g e).1.kn hk,(h.r4 g e).2⟩,fun g e=>⟨(h.r6 g e).1.kn hk,(h.r6 g e).2⟩,fun g e=>⟨(h.r8 g e).1.kn hk,(h.r8 g e).2⟩,h.ne⟩
theorem NewI.m4(h:NewI w0 w p n c none o6 o8)(hr:RowV w' 4 w.heap.size (List.replicate n (.bool false)))(hk:Kn w w'):NewI w0 w' p n c (some w.heap.size) o6 o8:=
 ⟨hk.blk h.blk (fun x=>x),h.kp.trans (Kp.weak hk),fun g e=>by injection e with e;subst e;exact⟨hr,h.kp.size,fun e=>absurd (Qj h.blk) (by omega)⟩,(h.kn hk).r6,(h.kn hk).r8,h.ne⟩
theorem NewI.m6(h:NewI w0 w p n c o4 none o8)(hr:RowV w' TBi w.heap.size (List.replicate n (.int .u64 0)))(hk:Kn w w'):NewI w0 w' p n c o4 (some w.heap.size) o8:=
 ⟨hk.blk h.blk (fun x=>x),h.kp.trans (Kp.weak hk),(h.kn hk).r4,fun g e=>by injection e with e;subst e;exact⟨hr,h.kp.size,fun e=>absurd (Qj h.blk) (by omega)⟩,(h.kn hk).r8,fun a b e1 e2=>by injection e1 with e1;subst e1;have:=(h.r8 b e2).1.lt;omega⟩
theorem NewI.m8(h:NewI w0 w p n c o4 o6 none)(hr:RowV w' TBi w.heap.size (List.replicate n (.int .u64 0)))(hk:Kn w w'):NewI w0 w' p n c o4 o6 (some w.heap.size):=
 ⟨hk.blk h.blk (fun x=>x),h.kp.trans (Kp.weak hk),(h.kn hk).r4,(h.kn hk).r6,fun g e=>by injection e with e;subst e;exact⟨hr,h.kp.size,fun e=>absurd (Qj h.blk) (by omega)⟩,fun a b e1 e2=>by injection e2 with e2;subst e2;have:=(h.r6 a e1).1.lt;omega⟩
theorem NewI.st{c':SA}{j:Nat}{v:Value}(h:NewI w0 w p n c o4 o6 o8)(hc:(seC c).setIfInBounds j v=seC c'):NewI w0 (w.setCell ⟨p,j,none⟩ v) p n c' o4 o6 o8:=by
 have hk:K1 p w (w.setCell ⟨p,j,none⟩ v):=Qg _ _;exact⟨by rw[Qk h.blk,hc],h.kp.trans hk,fun g e=>⟨(h.r4 g e).1.kp hk (h.r4 g e).2.2,(h.r4 g e).2⟩,fun g e=>⟨(h.r6 g e).1.kp hk (h.r6 g e).2.2,(h.r6 g e).2⟩,fun g e=>⟨(h.r8 g e).1.kp hk (h.r8 g e).2.2,(h.r8 g e).2⟩,h.ne⟩
theorem NewI.c5(h:NewI w0 w p n c o4 o6 o8):w.cell? ⟨p,5,none⟩=some c.ve:=by rw[Qa h.blk];try rfl
theorem NewI.c6(h:NewI w0 w p n c o4 o6 o8):w.cell? ⟨p,6,none⟩=some c.vf:=by rw[Qa h.blk];try rfl
theorem NewI.c7(h:NewI w0 w p n c o4 o6 o8):w.cell? ⟨p,7,none⟩=some c.vw:=by rw[Qa h.blk];try rfl
theorem NewI.fr(h:NewI w0 w p n c o4 o6 o8)(i:Nat):w.frozen? ⟨p,i,none⟩=false:=Qd h.blk i
end
def SetsIn(w:World)(p:Nat)(X:SX):Prop:=∃B A ge gf gw,StAt w B p X.b A X.empty X.first X.follow ge gf gw∧SBok X.b∧A.fin=X.fin
theorem SetsIn.kn{w w':World}{p:Nat}{X:SX}(h:SetsIn w p X)(hk:Kn w w'):SetsIn w' p X:=by
 obtain⟨B,A,ge,gf,gw,h1,h2⟩:=h;exact⟨B,A,ge,gf,gw,h1.kn hk,h2⟩
theorem setsNew_c{pg:Nat}{R:RS}{rs:List GR}{br:List (Nat×Nat)}{w:World}(h:GrAt w pg R rs br)(ok:RulesOk rs):
  Calls Tryz.prog 22 #[ptr pg] w fun e w'=>∃(ps:Nat) (X:SX),e= .returned (.tuple #[ptr ps,.int .i64 0])∧SetsIn w' ps X∧IsSets rs (QD R).length X∧Kn w w':=by
 have hmm:= @run_makeMap Tryz.prog;have hmf:∀(fn:Fn) (first cap:Array Value) (w:World),(Instr.makeFunc fn first cap).run Tryz.prog w= .ok (.func fn first cap) w:=fun _ _ _ _=>rfl
 obtain⟨⟨B0,A0,kb,vps0,hlk,-,-⟩,hok,hrl⟩:=h;obtain⟨w1,hw1⟩:∃z,z=w.alloc (.map #[] 0):=⟨_,rfl⟩;have hk1:Kn w w1:=by rw[hw1];exact(Qb _ _).alloc _
 obtain⟨bm,hbm⟩:∃z,z=w.heap.size:=⟨_,rfl⟩;have hm1:MapA w1 TPc bm []:=by rw[hw1,hbm];exact MapA.new w TPc
 have HCL:=Qh (classes_c (hlk.rd.kn hk1) hok);have HLK:=Qh hlk;have HW1:=Qh (And.intro hw1 hbm);have HK1:=Qh hk1;have HM1:=Qh hm1;have HOK:=Qh ok;have HRO:=Qh hok;have hcl80:(QD R).length≤80:=by
  unfold QD;rw[List.length_append,Yn];have:=hok.lits;have:=hok.cls;omega
 obtain⟨m,hm⟩:∃m,m=(QD R).length:=⟨_,rfl⟩;have HME:=Qh hm;have hpgl:=hlk.lt;clear ok hlk hw1 hk1 hm1 hok hbm hm;have HRL:=Qh hrl;go_enter Tryz.func22,Tryz.ntmps22;go_upto_region 3 with fail
 go_wp2_with (first|(go_at_call 56;go_must (rw[←HW1.out.1,←HW1.out.2];refine HCL.out.mono ?_;rintro e w2 ⟨v,rfl,hov,hk2⟩;obtain⟨ac,cc,hv,_⟩:=hov.row (fun C hC=>by {obtain⟨x,_,rfl⟩:=List.mem_map.1 hC;rfl});rw[List.length_map,←HME.out] at hv;subst hv;have HK2:=Qh (HK1.out.trans hk2);have HM2:=Qh (HM1.out.kn hk2);clear hov hk2 HCL HM1)))
 obtain⟨p,hp⟩:∃z,z=w2.heap.size:=⟨_,rfl⟩;obtain⟨w3,hw3⟩:∃z,z=w2.alloc (.cells (seC ⟨.slice none 0 0,.slice none 0 0,.slice none 0 0,.slice none 0 0,.slice none 0 0,.slice none 0 0,bm,m,[],[]⟩) TSt):=⟨_,rfl⟩;rw[show(.cells #[.slice none 0 0,.map (some bm),.slice none 0 0,.slice none 0 0,.int .i64 (m:Nat),.slice none 0 0,.slice none 0 0,.slice none 0 0] TSt:Obj)= .cells (seC ⟨.slice none 0 0,.slice none 0 0,.slice none 0 0,.slice none 0 0,.slice none 0 0,.slice none 0 0,bm,m,[],[]⟩) TSt from rfl,←hw3,←hp];have hk3:Kn w2 w3:=by rw[hw3];exact(Qb _ _).alloc _
 have hbp:w3.heap[p]? =some (.cells (seC ⟨.slice none 0 0,.slice none 0 0,.slice none 0 0,.slice none 0 0,.slice none 0 0,.slice none 0 0,bm,m,[],[]⟩) TSt (0,0)):=by rw[hw3,hp];exact Qf _ _
 have HRU:=Qh (rules_c (HLK.out.kn (HK2.out.trans hk3)) HRL.out (fun r hr=>by have:=HOK.out.pl r hr;omega));have hpw:w.heap.size≤p:=by rw[hp];exact HK2.out.size
 have HK3:=Qh (HK2.out.trans hk3);have HM3:=Qh (HM2.out.kn hk3);have HBP:=Qh hbp;have hbmw:w.heap.size≤bm:=by have:=HW1.out.2;omega
 clear hw3 hp hk3 hbp HK2 HM2;refine HRU.out.mono ?_;rintro e w4 ⟨v,vps,rfl,hru,hk4⟩;obtain⟨ar,cr,rfl,hrr⟩:=RuR.of hru;have hbd:BdAt w4 w.heap.size p ⟨[],[],[]⟩ ⟨.slice none 0 0,.slice none 0 0,.slice none 0 0,.slice none 0 0,.slice none 0 0,.slice none 0 0,bm,m,[],[]⟩:=
  ⟨hk4.blk HBP.out (fun x=>x),OwnK.nil,HM3.out.kn hk4,⟨OwnK.nil,rfl,fun i h=>by simp at h⟩,⟨OwnK.nil,rfl,fun i h=>by simp at h⟩,hpw,hbmw⟩
 have HBC:=Qh (build_c (c:=cr) hbd hrr HOK.out);have HK4:=Qh (HK3.out.trans hk4);clear hru hk4 hrr hbd HRU HBP HM3 HK3;go_wp2_with (first|(go_at_call 65;go_must (refine HBC.out.mono ?_;rintro e w5 ⟨rfl,A5,hb5,hak5,hkb5⟩;have HB5:=Qh hb5;have HAK5:=Qh hak5;have hkn5:Kn w w5:=hkb5.old HK4.out rfl (Nat.le_refl _) hpw hbmw;have HK5:=Qh hkn5;obtain⟨ap5,cp5,p5,_⟩:=hb5.pcell;clear hb5 hak5 hkb5 HBC hkn5)))
 obtain⟨X,hX⟩:∃z,z=YJ rs:=⟨_,rfl⟩;rw[←hX] at HB5 p5⊢;have HX:=Qh hX;have hbok:=buildF_ok HOK.out;rw[←hX] at hbok;have HBO:=Qh hbok;have hXle:=hbok.le;have hXpos:=hbok.pos;obtain⟨n,hn⟩:∃z,z=X.places.length:=⟨_,rfl⟩;rw[←hn] at p5 hXle hXpos⊢;have HN:=Qh hn;clear hX hbok hn;obtain⟨ib,hi,hz0,hz1,hz2⟩:=info_parts info_bool;have HIB:=Qh (And.intro hi (And.intro hz0 (And.intro hz1 hz2)));obtain⟨iu,hi,hz0,hz1,hz2⟩:=info_parts info_bi;have HIU:=Qh (And.intro hi (And.intro hz0 (And.intro hz1 hz2)));have hpb:=HB5.out.blk;have hve5:A5.ve= .slice none 0 0:=HAK5.out.ve;have hvf5:A5.vf= .slice none 0 0:=HAK5.out.vf;have hvw5:A5.vw= .slice none 0 0:=HAK5.out.vw;have HVE:=Qh (And.intro hve5 (And.intro hvf5 hvw5));have hmx:n≤maxLen:=by simp only[maxLen];omega
 have hbB:Hid (ib.bytes*n≤281474976710656):=Qh (by rw[HIB.out.2.2.2];omega);have hbU:Hid (iu.bytes*n≤281474976710656):=Qh (by rw[HIU.out.2.2.2];omega);have HI0:Hid (NewI w5 w5.drew p n A5 none none none):=Qh ⟨hpb,(Qb _ _).drew,fun g e=>(by cases e),fun g e=>(by cases e),fun g e=>(by cases e),fun a b e _=>(by cases e)⟩;clear hi hz0 hz1 hz2 hpb hve5 hvf5 hvw5;go_upto_region 6 with fail
 go_cut [] (fun wc=>∃ge gf gw:Nat,Hid (NewI w5 wc p n {A5 with ve:= .slice (some ⟨ge,0,none⟩) n n,vf:= .slice (some ⟨gf,0,none⟩) n n,vw:= .slice (some ⟨gw,0,none⟩) n n} (some ge) (some gf) (some gw)))
 case first=>
  refine rgn (fun _=>True) (X:=[]) trivial (fun hX hHeld=> ?_);obtain⟨v0,hv0⟩:∃z,z=w5.drew:=⟨_,rfl⟩;rw[←hv0] at HI0⊢;clear hv0;have HI:=HI0;clear HI0;refine tw 0 23 ?_;refine tw 1 24 ?_;refine tw 2 25 ?_;refine tw 3 26 ?_;refine tw 5 28 ?_;refine tw 7 30 ?_
  repeat' (first
   |((with_reducible show RG _ _ _ _ _ _ (Array.setIfInBounds _ 7 true) _ _);refine ro3 4 6 8 (fun K hK=> ?_) (fun K hK=> ?_) (fun K hK=> ?_))
   |((with_reducible show RG _ _ _ _ _ _ (Array.setIfInBounds (Array.setIfInBounds _ 7 true) 8 true) _ _);refine ro2 4 6 (fun K hK=> ?_) (fun K hK=> ?_))
   |((with_reducible show RG _ _ _ _ _ _ (Array.setIfInBounds (Array.setIfInBounds (Array.setIfInBounds _ 7 true) 8 true) 6 true) _ _);refine ro 4 (fun K hK=> ?_))
   |((with_reducible show RG _ _ _ _ _ _ (Array.setIfInBounds _ 4 true) _ _);refine tw 9 32 ?_)
   |((with_reducible show RG _ _ _ _ _ _ (Array.setIfInBounds _ 9 true) _ _);refine tw 10 33 ?_)
   |((with_reducible show RG _ _ _ _ _ _ (Array.setIfInBounds (Array.setIfInBounds (Array.setIfInBounds (Array.setIfInBounds (Array.setIfInBounds _ 8 true) 6 true) 4 true) 9 true) 10 true) _ _);refine ro 11 (fun K hK=> ?_))
   |((with_reducible show RG _ _ _ _ _ _ (Array.setIfInBounds (Array.setIfInBounds (Array.setIfInBounds (Array.setIfInBounds (Array.setIfInBounds _ 6 true) 4 true) 9 true) 10 true) 11 true) _ _);refine tw 12 34 ?_)
   |((with_reducible show RG _ _ _ _ _ _ (Array.setIfInBounds _ 12 true) _ _);refine tw 13 35 ?_)
   |((with_reducible show RG _ _ _ _ _ _ (Array.setIfInBounds (Array.setIfInBounds (Array.setIfInBounds (Array.setIfInBounds (Array.setIfInBounds (Array.setIfInBounds (Array.setIfInBounds (Array.setIfInBounds _ 8 true) 6 true) 4 true) 9 true) 10 true) 11 true) 12 true) 13 true) _ _);refine ro 14 (fun K hK=> ?_))
   |((with_reducible show RG _ _ _ _ _ _ (Array.setIfInBounds (Array.setIfInBounds (Array.setIfInBounds (Array.setIfInBounds (Array.setIfInBounds (Array.setIfInBounds (Array.setIfInBounds (Array.setIfInBounds (Array.setIfInBounds _ 8 true) 6 true) 4 true) 9 true) 10 true) 11 true) 12 true) 13 true) 14 true) _ _);refine tw 15 36 ?_)
   |((with_reducible show RG _ _ _ _ _ _ (Array.setIfInBounds _ 15 true) _ _);refine tw 16 37 ?_)
   |((with_reducible show RG _ _ _ _ _ _ (Array.setIfInBounds _ 16 true) _ _);refine re 17 (fun K hK=> ?_))
   |((with_reducible show RG _ _ _ _ _ _ (Array.setIfInBounds (Array.setIfInBounds (Array.setIfInBounds (Array.setIfInBounds (Array.setIfInBounds _ 7 true) 8 true) 4 true) 9 true) 10 true) _ _);refine ro2 6 11 (fun K hK=> ?_) (fun K hK=> ?_))
   |((with_reducible show RG _ _ _ _ _ _ (Array.setIfInBounds (Array.setIfInBounds (Array.setIfInBounds (Array.setIfInBounds (Array.setIfInBounds (Array.setIfInBounds _ 7 true) 8 true) 4 true) 9 true) 10 true) 11 true) _ _);refine ro 6 (fun K hK=> ?_))
   |((with_reducible show RG _ _ _ _ _ _ (Array.setIfInBounds (Array.setIfInBounds _ 11 true) 6 true) _ _);refine tw 12 34 ?_)
   |((with_reducible show RG _ _ _ _ _ _ (Array.setIfInBounds (Array.setIfInBounds (Array.setIfInBounds (Array.setIfInBounds (Array.setIfInBounds (Array.setIfInBounds (Array.setIfInBounds (Array.setIfInBounds _ 8 true) 4 true) 9 true) 10 true) 11 true) 6 true) 12 true) 13 true) _ _);refine ro 14 (fun K hK=> ?_))
   |((with_reducible show RG _ _ _ _ _ _ (Array.setIfInBounds (Array.setIfInBounds (Array.setIfInBounds (Array.setIfInBounds (Array.setIfInBounds (Array.setIfInBounds (Array.setIfInBounds (Array.setIfInBounds (Array.setIfInBounds _ 8 true) 4 true) 9 true) 10 true) 11 true) 6 true) 12 true) 13 true) 14 true) _ _);refine tw 15 36 ?_)
   |((with_reducible show RG _ _ _ _ _ _ (Array.setIfInBounds (Array.setIfInBounds (Array.setIfInBounds (Array.setIfInBounds (Array.setIfInBounds _ 8 true) 4 true) 9 true) 10 true) 6 true) _ _);refine ro 11 (fun K hK=> ?_))
   |((with_reducible show RG _ _ _ _ _ _ (Array.setIfInBounds (Array.setIfInBounds _ 6 true) 11 true) _ _);refine tw 12 34 ?_)
   |((with_reducible show RG _ _ _ _ _ _ (Array.setIfInBounds (Array.setIfInBounds (Array.setIfInBounds (Array.setIfInBounds (Array.setIfInBounds (Array.setIfInBounds (Array.setIfInBounds (Array.setIfInBounds _ 8 true) 4 true) 9 true) 10 true) 6 true) 11 true) 12 true) 13 true) _ _);refine ro 14 (fun K hK=> ?_))
   |((with_reducible show RG _ _ _ _ _ _ (Array.setIfInBounds (Array.setIfInBounds (Array.setIfInBounds (Array.setIfInBounds (Array.setIfInBounds (Array.setIfInBounds (Array.setIfInBounds (Array.setIfInBounds (Array.setIfInBounds _ 8 true) 4 true) 9 true) 10 true) 6 true) 11 true) 12 true) 13 true) 14 true) _ _);refine tw 15 36 ?_)
   |((with_reducible show RG _ _ _ _ _ _ (Array.setIfInBounds (Array.setIfInBounds _ 7 true) 6 true) _ _);refine ro2 4 8 (fun K hK=> ?_) (fun K hK=> ?_))
   |((with_reducible show RG _ _ _ _ _ _ (Array.setIfInBounds (Array.setIfInBounds (Array.setIfInBounds _ 7 true) 6 true) 8 true) _ _);refine ro 4 (fun K hK=> ?_))
   |((with_reducible show RG _ _ _ _ _ _ (Array.setIfInBounds (Array.setIfInBounds (Array.setIfInBounds (Array.setIfInBounds (Array.setIfInBounds _ 6 true) 8 true) 4 true) 9 true) 10 true) _ _);refine ro 11 (fun K hK=> ?_))
   |((with_reducible show RG _ _ _ _ _ _ (Array.setIfInBounds (Array.setIfInBounds (Array.setIfInBounds (Array.setIfInBounds (Array.setIfInBounds (Array.setIfInBounds _ 6 true) 8 true) 4 true) 9 true) 10 true) 11 true) _ _);refine tw 12 34 ?_)
   |((with_reducible show RG _ _ _ _ _ _ (Array.setIfInBounds (Array.setIfInBounds (Array.setIfInBounds (Array.setIfInBounds (Array.setIfInBounds (Array.setIfInBounds (Array.setIfInBounds _ 8 true) 4 true) 9 true) 10 true) 11 true) 12 true) 13 true) _ _);refine ro 14 (fun K hK=> ?_))
   |((with_reducible show RG _ _ _ _ _ _ (Array.setIfInBounds (Array.setIfInBounds (Array.setIfInBounds (Array.setIfInBounds (Array.setIfInBounds (Array.setIfInBounds (Array.setIfInBounds (Array.setIfInBounds _ 8 true) 4 true) 9 true) 10 true) 11 true) 12 true) 13 true) 14 true) _ _);refine tw 15 36 ?_)
   |((with_reducible show RG _ _ _ _ _ _ (Array.setIfInBounds (Array.setIfInBounds (Array.setIfInBounds (Array.setIfInBounds (Array.setIfInBounds _ 7 true) 6 true) 4 true) 9 true) 10 true) _ _);refine ro2 8 11 (fun K hK=> ?_) (fun K hK=> ?_))
   |((with_reducible show RG _ _ _ _ _ _ (Array.setIfInBounds (Array.setIfInBounds (Array.setIfInBounds (Array.setIfInBounds (Array.setIfInBounds (Array.setIfInBounds (Array.setIfInBounds (Array.setIfInBounds _ 7 true) 6 true) 4 true) 9 true) 10 true) 11 true) 12 true) 13 true) _ _);refine ro2 8 14 (fun K hK=> ?_) (fun K hK=> ?_))
   |((with_reducible show RG _ _ _ _ _ _ (Array.setIfInBounds (Array.setIfInBounds (Array.setIfInBounds (Array.setIfInBounds (Array.setIfInBounds (Array.setIfInBounds (Array.setIfInBounds (Array.setIfInBounds (Array.setIfInBounds _ 7 true) 6 true) 4 true) 9 true) 10 true) 11 true) 12 true) 13 true) 14 true) _ _);refine ro 8 (fun K hK=> ?_))
   |((with_reducible show RG _ _ _ _ _ _ (Array.setIfInBounds (Array.setIfInBounds _ 14 true) 8 true) _ _);refine tw 15 36 ?_)
   |((with_reducible show RG _ _ _ _ _ _ (Array.setIfInBounds (Array.setIfInBounds _ 13 true) 8 true) _ _);refine ro 14 (fun K hK=> ?_))
   |((with_reducible show RG _ _ _ _ _ _ (Array.setIfInBounds (Array.setIfInBounds _ 8 true) 14 true) _ _);refine tw 15 36 ?_)
   |((with_reducible show RG _ _ _ _ _ _ (Array.setIfInBounds (Array.setIfInBounds (Array.setIfInBounds (Array.setIfInBounds (Array.setIfInBounds _ 6 true) 4 true) 9 true) 10 true) 8 true) _ _);refine ro 11 (fun K hK=> ?_))
   |((with_reducible show RG _ _ _ _ _ _ (Array.setIfInBounds (Array.setIfInBounds (Array.setIfInBounds (Array.setIfInBounds (Array.setIfInBounds (Array.setIfInBounds _ 6 true) 4 true) 9 true) 10 true) 8 true) 11 true) _ _);refine tw 12 34 ?_)
   |((with_reducible show RG _ _ _ _ _ _ (Array.setIfInBounds (Array.setIfInBounds (Array.setIfInBounds (Array.setIfInBounds _ 8 true) 11 true) 12 true) 13 true) _ _);refine ro 14 (fun K hK=> ?_))
   |((with_reducible show RG _ _ _ _ _ _ (Array.setIfInBounds (Array.setIfInBounds (Array.setIfInBounds (Array.setIfInBounds (Array.setIfInBounds _ 8 true) 11 true) 12 true) 13 true) 14 true) _ _);refine tw 15 36 ?_)
   |((with_reducible show RG _ _ _ _ _ _ (Array.setIfInBounds (Array.setIfInBounds (Array.setIfInBounds (Array.setIfInBounds _ 7 true) 4 true) 9 true) 10 true) _ _);refine ro3 6 8 11 (fun K hK=> ?_) (fun K hK=> ?_) (fun K hK=> ?_))
   |((with_reducible show RG _ _ _ _ _ _ (Array.setIfInBounds (Array.setIfInBounds (Array.setIfInBounds (Array.setIfInBounds (Array.setIfInBounds _ 7 true) 4 true) 9 true) 10 true) 11 true) _ _);refine ro2 6 8 (fun K hK=> ?_) (fun K hK=> ?_))
   |((with_reducible show RG _ _ _ _ _ _ (Array.setIfInBounds (Array.setIfInBounds _ 11 true) 8 true) _ _);refine ro 6 (fun K hK=> ?_))
   |((with_reducible show RG _ _ _ _ _ _ (Array.setIfInBounds (Array.setIfInBounds (Array.setIfInBounds _ 11 true) 8 true) 6 true) _ _);refine tw 12 34 ?_)
   |((with_reducible show RG _ _ _ _ _ _ (Array.setIfInBounds (Array.setIfInBounds (Array.setIfInBounds (Array.setIfInBounds _ 8 true) 6 true) 12 true) 13 true) _ _);refine ro 14 (fun K hK=> ?_))
   |((with_reducible show RG _ _ _ _ _ _ (Array.setIfInBounds (Array.setIfInBounds (Array.setIfInBounds (Array.setIfInBounds (Array.setIfInBounds _ 8 true) 6 true) 12 true) 13 true) 14 true) _ _);refine tw 15 36 ?_)
   |((with_reducible show RG _ _ _ _ _ _ (Array.setIfInBounds (Array.setIfInBounds (Array.setIfInBounds (Array.setIfInBounds (Array.setIfInBounds (Array.setIfInBounds (Array.setIfInBounds (Array.setIfInBounds _ 7 true) 4 true) 9 true) 10 true) 11 true) 6 true) 12 true) 13 true) _ _);refine ro2 8 14 (fun K hK=> ?_) (fun K hK=> ?_))
   |((with_reducible show RG _ _ _ _ _ _ (Array.setIfInBounds (Array.setIfInBounds (Array.setIfInBounds (Array.setIfInBounds (Array.setIfInBounds (Array.setIfInBounds (Array.setIfInBounds (Array.setIfInBounds (Array.setIfInBounds _ 7 true) 4 true) 9 true) 10 true) 11 true) 6 true) 12 true) 13 true) 14 true) _ _);refine ro 8 (fun K hK=> ?_))
   |((with_reducible show RG _ _ _ _ _ _ (Array.setIfInBounds (Array.setIfInBounds (Array.setIfInBounds (Array.setIfInBounds (Array.setIfInBounds _ 7 true) 4 true) 9 true) 10 true) 8 true) _ _);refine ro2 6 11 (fun K hK=> ?_) (fun K hK=> ?_))
   |((with_reducible show RG _ _ _ _ _ _ (Array.setIfInBounds (Array.setIfInBounds (Array.setIfInBounds (Array.setIfInBounds (Array.setIfInBounds (Array.setIfInBounds _ 7 true) 4 true) 9 true) 10 true) 8 true) 11 true) _ _);refine ro 6 (fun K hK=> ?_))
   |((with_reducible show RG _ _ _ _ _ _ (Array.setIfInBounds (Array.setIfInBounds (Array.setIfInBounds (Array.setIfInBounds (Array.setIfInBounds _ 8 true) 11 true) 6 true) 12 true) 13 true) _ _);refine ro 14 (fun K hK=> ?_))
   |((with_reducible show RG _ _ _ _ _ _ (Array.setIfInBounds (Array.setIfInBounds (Array.setIfInBounds (Array.setIfInBounds (Array.setIfInBounds (Array.setIfInBounds _ 8 true) 11 true) 6 true) 12 true) 13 true) 14 true) _ _);refine tw 15 36 ?_)
   |((with_reducible show RG _ _ _ _ _ _ (Array.setIfInBounds (Array.setIfInBounds (Array.setIfInBounds _ 10 true) 8 true) 6 true) _ _);refine ro 11 (fun K hK=> ?_))
   |((with_reducible show RG _ _ _ _ _ _ (Array.setIfInBounds (Array.setIfInBounds (Array.setIfInBounds (Array.setIfInBounds (Array.setIfInBounds _ 8 true) 6 true) 11 true) 12 true) 13 true) _ _);refine ro 14 (fun K hK=> ?_))
   |((with_reducible show RG _ _ _ _ _ _ (Array.setIfInBounds (Array.setIfInBounds (Array.setIfInBounds (Array.setIfInBounds (Array.setIfInBounds (Array.setIfInBounds _ 8 true) 6 true) 11 true) 12 true) 13 true) 14 true) _ _);refine tw 15 36 ?_)
   |((with_reducible show RG _ _ _ _ _ _ (Array.setIfInBounds (Array.setIfInBounds (Array.setIfInBounds (Array.setIfInBounds (Array.setIfInBounds _ 7 true) 4 true) 9 true) 10 true) 6 true) _ _);refine ro2 8 11 (fun K hK=> ?_) (fun K hK=> ?_))
   |((with_reducible show RG _ _ _ _ _ _ (Array.setIfInBounds (Array.setIfInBounds (Array.setIfInBounds (Array.setIfInBounds (Array.setIfInBounds (Array.setIfInBounds (Array.setIfInBounds (Array.setIfInBounds _ 7 true) 4 true) 9 true) 10 true) 6 true) 11 true) 12 true) 13 true) _ _);refine ro2 8 14 (fun K hK=> ?_) (fun K hK=> ?_))
   |((with_reducible show RG _ _ _ _ _ _ (Array.setIfInBounds (Array.setIfInBounds (Array.setIfInBounds (Array.setIfInBounds (Array.setIfInBounds (Array.setIfInBounds (Array.setIfInBounds (Array.setIfInBounds (Array.setIfInBounds _ 7 true) 4 true) 9 true) 10 true) 6 true) 11 true) 12 true) 13 true) 14 true) _ _);refine ro 8 (fun K hK=> ?_))
   |((with_reducible show RG _ _ _ _ _ _ (Array.setIfInBounds (Array.setIfInBounds (Array.setIfInBounds _ 10 true) 6 true) 8 true) _ _);refine ro 11 (fun K hK=> ?_))
   |((with_reducible show RG _ _ _ _ _ _ (Array.setIfInBounds (Array.setIfInBounds (Array.setIfInBounds _ 6 true) 8 true) 11 true) _ _);refine tw 12 34 ?_)
   |(with_reducible show if Region.wanted (Oper.mk (some 27) _ _ _ _ _) _=true then _ else _
     refine step_make_v v0 (by rfl) (.tmp 26) (.tmp 26) 141 (by rfl) 4 ib (.bool false) Tryz.underlying141 HIB.out.1 HIB.out.2.1 HIB.out.2.2.1 (x:= .bool false) (by rfl) n (by rfl) (by rfl) hbB.out hmx ?_;obtain⟨g4,hg⟩:∃z,z=v0.heap.size:=⟨_,rfl⟩;intro v0 hr hk
     replace HI:=Qh (HI.out.m4 hr hk)
     rw[←hg] at HI⊢;clear hr hk hg;refine hK.out _ _ hHeld (fun hHeld=> ?_);clear hK K
     try simp only[PP])
   |(with_reducible show if Region.wanted (Oper.mk (some 29) _ _ _ _ _) _=true then _ else _
     refine step_make_v v0 (by rfl) (.tmp 28) (.tmp 28) 142 (by rfl) TBi iu (.agg #[.int .u64 0]) Tryz.underlying142 HIU.out.1 HIU.out.2.1 HIU.out.2.2.1 (x:= .int .u64 0) (by rfl) n (by rfl) (by rfl) hbU.out hmx ?_;obtain⟨g6,hg⟩:∃z,z=v0.heap.size:=⟨_,rfl⟩;intro v0 hr hk
     replace HI:=Qh (HI.out.m6 hr hk)
     rw[←hg] at HI⊢;clear hr hk hg;refine hK.out _ _ hHeld (fun hHeld=> ?_);clear hK K
     try simp only[PP])
   |(with_reducible show if Region.wanted (Oper.mk (some 31) _ _ _ _ _) _=true then _ else _
     refine step_make_v v0 (by rfl) (.tmp 30) (.tmp 30) 142 (by rfl) TBi iu (.agg #[.int .u64 0]) Tryz.underlying142 HIU.out.1 HIU.out.2.1 HIU.out.2.2.1 (x:= .int .u64 0) (by rfl) n (by rfl) (by rfl) hbU.out hmx ?_;obtain⟨g8,hg⟩:∃z,z=v0.heap.size:=⟨_,rfl⟩;intro v0 hr hk
     replace HI:=Qh (HI.out.m8 hr hk)
     rw[←hg] at HI⊢;clear hr hk hg;refine hK.out _ _ hHeld (fun hHeld=> ?_);clear hK K
     try simp only[PP])
   |(with_reducible show if Region.wanted (Oper.mk none (Op.store _ (Operand.tmp 33) _) _ _ _ _) _=true then _ else _
     have c:=HI.out.c5;have f:=HI.out.fr 5;go_simp
     replace HI:=Qh (HI.out.st (j:=5) (c':= {A5 with ve:= .slice (some ⟨g4,0,none⟩) n n}) (v:= .slice (some ⟨g4,0,none⟩) n n) rfl)
     obtain⟨v0,hw⟩:∃z,z=v0.setCell ⟨p,5,none⟩ (.slice (some ⟨g4,0,none⟩) n n):=⟨_,rfl⟩;rw[←hw] at HI⊢;clear hw c f;refine hK.out _ _ hHeld (fun hHeld=> ?_);clear hK K
     try simp only[PP])
   |(with_reducible show if Region.wanted (Oper.mk none (Op.store _ (Operand.tmp 35) _) _ _ _ _) _=true then _ else _
     have c:=HI.out.c6;have f:=HI.out.fr 6;go_simp
     replace HI:=Qh (HI.out.st (j:=6) (c':= {A5 with ve:= .slice (some ⟨g4,0,none⟩) n n,vf:= .slice (some ⟨g6,0,none⟩) n n}) (v:= .slice (some ⟨g6,0,none⟩) n n) rfl)
     obtain⟨v0,hw⟩:∃z,z=v0.setCell ⟨p,6,none⟩ (.slice (some ⟨g6,0,none⟩) n n):=⟨_,rfl⟩;rw[←hw] at HI⊢;clear hw c f;refine hK.out _ _ hHeld (fun hHeld=> ?_);clear hK K
     try simp only[PP])
   |(with_reducible show if Region.wanted (Oper.mk none (Op.store _ (Operand.tmp 37) _) _ _ _ _) _=true then _ else _
     have c:=HI.out.c7;have f:=HI.out.fr 7;go_simp
     replace HI:=Qh (HI.out.st (j:=7) (c':= {A5 with ve:= .slice (some ⟨g4,0,none⟩) n n,vf:= .slice (some ⟨g6,0,none⟩) n n,vw:= .slice (some ⟨g8,0,none⟩) n n}) (v:= .slice (some ⟨g8,0,none⟩) n n) rfl)
     obtain⟨v0,hw⟩:∃z,z=v0.setCell ⟨p,7,none⟩ (.slice (some ⟨g8,0,none⟩) n n):=⟨_,rfl⟩;rw[←hw] at HI⊢;clear hw c f;refine hK.out _ _ ?_;clear hK K))
  all_goals (go_wp2_with fail)
  all_goals go_meet
  all_goals exact⟨g4,g6,g8,HI⟩
 case rest=>
  obtain⟨ge,gf,gw,hni⟩:=hcut;have hst:StAt wc w.heap.size p X {A5 with ve:= .slice (some ⟨ge,0,none⟩) n n,vf:= .slice (some ⟨gf,0,none⟩) n n,vw:= .slice (some ⟨gw,0,none⟩) n n} (List.replicate n false) (List.replicate n 0) (List.replicate n 0) ge gf gw:=by
   have h1:=hni.out;have hS:=QK HB5.out.blk;obtain⟨r4,b4,_⟩:=h1.r4 ge rfl;obtain⟨r6,b6,_⟩:=h1.r6 gf rfl;obtain⟨r8,b8,_⟩:=h1.r8 gw rfl;have hz:=HK5.out.size;refine⟨h1.blk,Ql HB5.out.pl h1.kp hS (by decide),HB5.out.pr.off h1.kp (Qv hS (by decide)) (Qv hS (by decide)),HB5.out.of_.off h1.kp (Qv hS (by decide)) (Qv hS (by decide)),by rw[←HN.out],by rw[←HN.out],by rw[←HN.out],?_,?_,?_,by rw[List.length_replicate,HN.out],by rw[List.length_replicate,HN.out],by rw[List.length_replicate,HN.out],?_,?_,h1.ne _ _ rfl rfl,HB5.out.pB.1,by omega,by omega,by omega⟩
   ·rw[show bV (List.replicate n false)=List.replicate n (.bool false) from List.map_replicate];exact r4
   ·rw[show biV (List.replicate n 0)=List.replicate n (.int .u64 0) from List.map_replicate];exact r6
   ·rw[show biV (List.replicate n 0)=List.replicate n (.int .u64 0) from List.map_replicate];exact r8
   ·intro x hx;rw[List.eq_of_mem_replicate hx];decide
   ·intro x hx;rw[List.eq_of_mem_replicate hx];decide
  have hkc:Kn w wc:=HK5.out.trans' hni.out.kp (fun i hi e=>by omega);have HKC:=Qh hkc;have HGE:Hid (w.heap.size≤ge∧w.heap.size≤gf∧w.heap.size≤gw):=Qh ⟨hst.pB.2.1,hst.pB.2.2.1,hst.pB.2.2.2⟩;have HR1:=Qh (rounds1_c hst HBO.out);clear hni hkc hst p5 HIB HIU hbB hbU HB5 HVE;go_wp2_with (first|(go_at_call 66;go_must (refine HR1.out.mono ?_;rintro e w6 ⟨rfl,E1,F1,hfin,hst6,hk6⟩;have HF1:=Qh hfin;have HS6:=Qh hst6;have HK6:Hid (Kn w w6):=Qh (HKC.out.trans' hk6 (fun i hi e=>by have:=HGE.out;omega));clear hfin hst6 hk6 HR1 HKC)))
  have c7:=HS6.out.c7;rw[←HN.out] at c7;have c4:w6.cell? ⟨p,4,none⟩=some (.int .i64 (m:Nat)):=by rw[HS6.out.cell 4];show some (Value.int .i64 (A5.fin:Nat))=_;rw[HAK5.out.fin]
  have hom:=oneB_lt (m:Int);have hn0:0<X.places.length:=by rw[←HN.out];exact hXpos
  refine rgn (fun w'=>w'.cell? ⟨p,7,none⟩=some (.slice (some ⟨gw,0,none⟩) n n)∧w'.cell? ⟨p,4,none⟩=some (.int .i64 (m:Nat))) (X:=[]) ⟨Qc ((Qb _ _).drew) c7,Qc ((Qb _ _).drew) c4⟩ (fun hX hHeld=> ?_);refine tw 0 41 ?_;refine tw 1 42 ?_;refine tw 2 43 ?_;refine tk 3 44 ?_;refine tw 4 45 ?_;refine tw 5 46 ?_;refine tw 6 47 ?_;refine tk 7 48 ?_;refine ro 8 (fun K hK=> ?_);obtain⟨v6,hv6⟩:∃z,z=w6.drew:=⟨_,rfl⟩;have hk6:Kn w6 v6:=by rw[hv6];exact(Qb _ _).drew
  have HSD:=Qh (HS6.out.kn hk6);have HKD:=Qh (HK6.out.trans hk6);rw[←hv6] at hHeld⊢;clear hv6 hk6;go_simp
  go_at_call 68
  refine(sone_c (m:Int) _).mono ?_;rintro e v7 ⟨rfl,hk7⟩;have HS7:=Qh (HSD.out.kn hk7);have HK7:=Qh (HKD.out.trans hk7);have e0:=HS7.out.wcell hn0;have f0:=HS7.out.rw_.fr 0;refine hK.out _ _ (⟨Qc hk7 hHeld.1,Qc hk7 hHeld.2⟩) (fun hHeld=> ?_);clear hk7 HSD HKD HS6 HK6 c7 c4;unfold bV1;clear hK K
  try simp only[PP]
  refine tw 9 50 ?_;refine re 10 (fun K hK=> ?_);go_simp;obtain⟨w8,hw8⟩:∃z,z=v7.setCell ⟨gw,0,none⟩ (.int .u64 (YG (m:Int):Nat)):=⟨_,rfl⟩;have HS8:=Qh (HS7.out.setW 0 (YG (m:Int)) hom);have HK8:Hid (Kn w w8):=Qh (by rw[hw8];exact HK7.out.setCell (fun hp=>absurd hp (by have:=HGE.out;show¬gw<_;omega)) _);rw[←hw8] at HS8⊢;clear hw8 e0 f0 HS7 HK7 hHeld;refine hK.out _ _ ?_;clear hK K;have HR2:=Qh (rounds2_c HS8.out HBO.out);go_wp2_with (first|(go_at_call 66;go_must (refine HR2.out.mono ?_;rintro e w9 ⟨rfl,W1,hfin,hst9,hk9⟩;have HF2:=Qh hfin;have HS9:=Qh hst9;have HK9:Hid (Kn w w9):=Qh (HK8.out.trans' hk9 (fun i hi e=>by have:=HGE.out;omega));clear hfin hst9 hk9 HR2 HK8)))
  go_ret2
  refine⟨p,⟨X,m,E1,F1,W1⟩,rfl,⟨_,_,ge,gf,gw,HS9.out,HBO.out,HAK5.out.fin⟩,⟨HX.out,HME.out,?_,?_⟩,HK9.out⟩
  ·show Fin (fstF X.l) (List.replicate X.places.length false,List.replicate X.places.length 0) (E1,F1);rw[←HN.out];exact HF1.out
  ·show Fin (flwF E1 F1 X.l) ((List.replicate X.places.length 0).set 0 (YG (QD R).length)) W1;rw[←HN.out,←HME.out];exact HF2.out
theorem new_nil(w:World):Calls Tryz.prog 22 #[.pointer none] w fun e w'=>e= .returned (.tuple #[.pointer none,.int .i64 1])∧w=w':=by
 go_enter Tryz.func22,Tryz.ntmps22;go_wp2_with fail
 go_ret2
 exact⟨rfl,rfl⟩
section
variable {w:World} {B p ge gf gw:Nat} {S:SB} {A:SA} {E:List Bool} {F W:List Nat}
theorem has_c(n:Int)(h:StAt w B p S A E F W ge gf gw)(h0:0≤n)(h1:n<S.places.length):Calls Tryz.prog 177 #[ptr p,.int .i64 n] w fun e w'=>e= .returned (.bool true)∧w=w':=by
 obtain⟨a,c,hc⟩:=h.pcs;clear h;go_enter Tryz.func177,Tryz.ntmps177;go_wp2_with fail
 go_ret;exact⟨rfl,rfl⟩
theorem end_c(h:StAt w B p S A E F W ge gf gw):Calls Tryz.prog 78 #[ptr p] w fun e w'=>e= .returned (.int .i64 (A.fin:Nat))∧w=w':=by
 have c4:w.cell? ⟨p,4,none⟩=some (.int .i64 (A.fin:Nat)):=h.cell 4;clear h;go_enter Tryz.func78,Tryz.ntmps78;go_wp2_with fail
 go_ret;exact⟨rfl,rfl⟩
theorem ClonePc_c{v:Value}{Cs:List (List Value)}(w:World){B:Nat}(hbig:Cs.length≤1000000)(h3:∀C∈Cs,C.length=2)(h1:∀u∈Cs.flatten,u.oneCell'=true)(h:OwnK w B TPc 2 v Cs):
  Calls Tryz.prog 96 #[v] w fun e w'=>∃v',e= .returned v'∧OwnK w' w.heap.size TPc 2 v' Cs∧Kn w w':=by
 obtain⟨i0,hi,hz0,hz1,hz2⟩:=info_parts info_pc;have HI:=Qh (And.intro hi (And.intro hz0 (And.intro hz1 hz2)));have q24:∀(w:World) (a:Option Addr) (n c n' c':Nat),(binOp .eql 101 (.slice a n c) (.slice none n' c')).run Tryz.prog w= .ok (.bool a.isNone) w:=fun w a n c n' c'=>Lib.run_eql_slice_nil w _ _ a n c n' c' Tryz.underlying101
 have HC:=Qh h;have H1:=Qh h1;have hfl:=YD h3;rcases h.2 with⟨hv,hcs⟩|⟨g,cap,cur,hv,hg,_,hc1,hc2,_⟩
 ·have hn:Cs=[]:=by simpa using hcs
  subst hv hn;clear hi hz0 hz1 hz2 h h1;go_enter Tryz.func96,Tryz.ntmps96;go_wp2_with fail
  go_ret;exact⟨_,rfl,OwnK.nil,Qb _ _⟩
 ·subst hv;obtain⟨n,hn⟩:∃n,n=Cs.length:=⟨_,rfl⟩;have HN:=Qh hn;rw[←hn] at HC hc1 hbig hfl⊢;have HF:=Qh hfl;clear hi hz0 hz1 hz2 h h1 hn hfl h3;go_enter Tryz.func96,Tryz.ntmps96;go_wp2_with (at_builtin;refine wpList_append_own _ rfl _ _ 101 rfl w.heap.size TPc i0 _ 2 16 Tryz.underlying101 HI.out.1 HI.out.2.1 HI.out.2.2.1 HI.out.2.2.2 rfl (by decide) _ _ _ rfl (World.ownsRow_made w #[] 0 (Nat.le_refl _) (Nat.zero_le _) rfl) ⟨g,0,none⟩ n cap Cs.flatten rfl ?qc1 ?qc2 ?qc3 ?qc4 ?qc5 ?qc6 ?_)
  case qc1=>exact HF.out
  case qc2=>
   intro j u hj;exact Lib.cell?_alloc_some _ (HC.out.cells rfl j u hj)
  case qc3=>exact H1.out
  case qc4=>unfold maxLen;omega
  case qc5=>omega
  case qc6=>simp
  intro v' w1 hown hgrow hnil;go_wp2_with fail
  go_ret;refine⟨v',rfl,by unfold OwnK;rw[←HN.out];simpa using hown,?_⟩;exact QB (((Below.refl _ w).alloc (Nat.le_refl _) _).grown hgrow (by simp) (by intro k hk;simp[Value.ownBlock] at hk;omega))
theorem places_c(h:StAt w B p S A E F W ge gf gw)(hl:S.places.length≤1000):Calls Tryz.prog 51 #[ptr p] w fun e w'=>∃v,e= .returned v∧OwnK w' w.heap.size TPc 2 v (S.places.map pcL)∧Kn w w':=by
 have c0:w.cell? ⟨p,0,none⟩=some A.vp:=h.cell 0;have HC:=Qh (ClonePc_c w (by rw[List.length_map];omega) (fun C hC=>by obtain⟨x,_,rfl⟩:=List.mem_map.1 hC;rfl) (fun u hu=>by
  obtain⟨C,hC,hu⟩:=List.mem_flatten.1 hu;obtain⟨x,_,rfl⟩:=List.mem_map.1 hC;simp[pcL] at hu;rcases hu with rfl|rfl<;>rfl) h.pl)
 obtain⟨a,c,hv,_⟩:=h.pl.row (fun C hC=>by obtain⟨x,_,rfl⟩:=List.mem_map.1 hC;rfl);rw[List.length_map] at hv;rw[hv] at c0 HC;clear h hv;go_enter Tryz.func51,Tryz.ntmps51;go_wp2_with fail
 refine HC.out.mono ?_;rintro e w' ⟨v,rfl,hv,hk⟩;have HV:=Qh (And.intro hv hk);clear hv hk;go_wp2_with fail
 go_ret;exact⟨v,rfl,HV.out.1,HV.out.2⟩
end
theorem CloneSy_c{B:Nat}{v:Value}{Cs:List (List Value)}(w:World)(hbig:Cs.length≤1000000)(h3:∀C∈Cs,C.length=2)(h1:∀u∈Cs.flatten,u.oneCell'=true)(h:OwnK w B TSy 2 v Cs):
  Calls Tryz.prog 95 #[v] w fun e w'=>∃v',e= .returned v'∧OwnK w' w.heap.size TSy 2 v' Cs∧Kn w w':=by
 obtain⟨i0,hi,hz0,hz1,hz2⟩:=info_parts info_sy;have HI:=Qh (And.intro hi (And.intro hz0 (And.intro hz1 hz2)));have q24:∀(w:World) (a:Option Addr) (n c n' c':Nat),(binOp .eql 104 (.slice a n c) (.slice none n' c')).run Tryz.prog w= .ok (.bool a.isNone) w:=fun w a n c n' c'=>Lib.run_eql_slice_nil w _ _ a n c n' c' Tryz.underlying104
 have HC:=Qh h;have H1:=Qh h1;have hfl:=YD h3;rcases h.2 with⟨hv,hcs⟩|⟨g,cap,cur,hv,hg,_,hc1,hc2,_⟩
 ·have hn:Cs=[]:=by simpa using hcs
  subst hv hn;clear hi hz0 hz1 hz2 h h1;go_enter Tryz.func95,Tryz.ntmps95;go_wp2_with fail
  go_ret;exact⟨_,rfl,OwnK.nil,Qb _ _⟩
 ·subst hv;obtain⟨n,hn⟩:∃n,n=Cs.length:=⟨_,rfl⟩;have HN:=Qh hn;rw[←hn] at HC hc1 hbig hfl⊢;have HF:=Qh hfl;clear hi hz0 hz1 hz2 h h1 hn hfl h3;go_enter Tryz.func95,Tryz.ntmps95;go_wp2_with (at_builtin;refine wpList_append_own _ rfl _ _ 104 rfl w.heap.size TSy i0 _ 2 16 Tryz.underlying104 HI.out.1 HI.out.2.1 HI.out.2.2.1 HI.out.2.2.2 rfl (by decide) _ _ _ rfl (World.ownsRow_made w #[] 0 (Nat.le_refl _) (Nat.zero_le _) rfl) ⟨g,0,none⟩ n cap Cs.flatten rfl ?qc1 ?qc2 ?qc3 ?qc4 ?qc5 ?qc6 ?_)
  case qc1=>exact HF.out
  case qc2=>
   intro j u hj;exact Lib.cell?_alloc_some _ (HC.out.cells rfl j u hj)
  case qc3=>exact H1.out
  case qc4=>unfold maxLen;omega
  case qc5=>omega
  case qc6=>simp
  intro v' w1 hown hgrow hnil;go_wp2_with fail
  go_ret;refine⟨v',rfl,by unfold OwnK;rw[←HN.out];simpa using hown,?_⟩;exact QB (((Below.refl _ w).alloc (Nat.le_refl _) _).grown hgrow (by simp) (by intro k hk;simp[Value.ownBlock] at hk;omega))
theorem ClonePr_c{B:Nat}{v:Value}{Cs:List (List Value)}(w:World)(hbig:Cs.length≤1000000)(h3:∀C∈Cs,C.length=3)(h1:∀u∈Cs.flatten,u.oneCell'=true)(h:OwnK w B TPr 3 v Cs):
  Calls Tryz.prog 94 #[v] w fun e w'=>∃v',e= .returned v'∧OwnK w' w.heap.size TPr 3 v' Cs∧Kn w w':=by
 obtain⟨i0,hi,hz0,hz1,hz2⟩:=info_parts info_pr;have HI:=Qh (And.intro hi (And.intro hz0 (And.intro hz1 hz2)));have q24:∀(w:World) (a:Option Addr) (n c n' c':Nat),(binOp .eql 97 (.slice a n c) (.slice none n' c')).run Tryz.prog w= .ok (.bool a.isNone) w:=fun w a n c n' c'=>Lib.run_eql_slice_nil w _ _ a n c n' c' Tryz.underlying97
 have HC:=Qh h;have H1:=Qh h1;have hfl:=YD h3;rcases h.2 with⟨hv,hcs⟩|⟨g,cap,cur,hv,hg,_,hc1,hc2,_⟩
 ·have hn:Cs=[]:=by simpa using hcs
  subst hv hn;clear hi hz0 hz1 hz2 h h1;go_enter Tryz.func94,Tryz.ntmps94;go_wp2_with fail
  go_ret;exact⟨_,rfl,OwnK.nil,Qb _ _⟩
 ·subst hv;obtain⟨n,hn⟩:∃n,n=Cs.length:=⟨_,rfl⟩;have HN:=Qh hn;rw[←hn] at HC hc1 hbig hfl⊢;have HF:=Qh hfl;clear hi hz0 hz1 hz2 h h1 hn hfl h3;go_enter Tryz.func94,Tryz.ntmps94;go_wp2_with (at_builtin;refine wpList_append_own _ rfl _ _ 97 rfl w.heap.size TPr i0 _ 3 40 Tryz.underlying97 HI.out.1 HI.out.2.1 HI.out.2.2.1 HI.out.2.2.2 rfl (by decide) _ _ _ rfl (World.ownsRow_made w #[] 0 (Nat.le_refl _) (Nat.zero_le _) rfl) ⟨g,0,none⟩ n cap Cs.flatten rfl ?qc1 ?qc2 ?qc3 ?qc4 ?qc5 ?qc6 ?_)
  case qc1=>exact HF.out
  case qc2=>
   intro j u hj;exact Lib.cell?_alloc_some _ (HC.out.cells rfl j u hj)
  case qc3=>exact H1.out
  case qc4=>unfold maxLen;omega
  case qc5=>omega
  case qc6=>simp
  intro v' w1 hown hgrow hnil;go_wp2_with fail
  go_ret;refine⟨v',rfl,by unfold OwnK;rw[←HN.out];simpa using hown,?_⟩;exact QB (((Below.refl _ w).alloc (Nat.le_refl _) _).grown hgrow (by simp) (by intro k hk;simp[Value.ownBlock] at hk;omega))
theorem zip_pr_set(rs:List PR)(vk:List Value)(k:Nat)(v:Value)(hk:k<(List.zipWith prL rs vk).length):
  (List.zipWith prL rs vk).set k ((List.zipWith prL rs vk)[k].set 2 v)=List.zipWith prL rs (vk.set k v):=by
 apply List.ext_getElem
 ·simp
 ·intro i h1 h2;rw[List.getElem_set];split
  ·subst_vars;simp[prL]
  ·rename_i hne;simp only[List.getElem_zipWith];rw[List.getElem_set_ne hne]
def ProdsPost(w:World)(rs:List PR)(e:Ending)(w':World):Prop:=∃v vps,e= .returned v∧PrAt w' w.heap.size v rs vps∧Kn w w'
theorem prods_c{B p ge gf gw:Nat}{S:SB}{A:SA}{E:List Bool}{F W:List Nat}{w:World}(h:StAt w B p S A E F W ge gf gw)(hrl:S.l.length≤60000)(hpz:∀r∈S.l,r.syms.length≤1000000):
  Calls Tryz.prog 50 #[ptr p] w (ProdsPost w S.l):=by
 obtain⟨rs,hrs⟩:∃x,x=S.l:=⟨_,rfl⟩;obtain⟨vps,hvps⟩:∃x,x=A.vls:=⟨_,rfl⟩;obtain⟨q3,hpr,hpl⟩:w.cell? ⟨p,2,none⟩=some A.vl∧PrAt w B A.vl S.l A.vls∧p<w.heap.size:=⟨h.cell 2,h.pr,h.lt⟩;rw[←hrs] at hrl hpz hpr⊢;rw[←hvps] at hpr;clear h hrs hvps;have h4:∀vk:List Value,∀C∈List.zipWith prL rs vk,C.length=3:=fun vk C hC=>by obtain⟨i,hi,rfl⟩:=List.getElem_of_mem hC;simp[prL]
 have hlen:=hpr.len;have hon1:∀u∈(List.zipWith prL rs vps).flatten,u.oneCell'=true:=by
  intro u hu;obtain⟨C,hC,hu⟩:=List.mem_flatten.1 hu;obtain⟨i,hi,rfl⟩:=List.getElem_of_mem hC;have hi2:i<rs.length∧i<vps.length:=by rw[List.length_zipWith] at hi;omega
  have hp:=hpr.syms i hi2.2 hi2.1;obtain⟨a,c,hv,_⟩:=hp.row (k:=2) (fun C hC=>by obtain⟨x,_,rfl⟩:=List.mem_map.1 hC;rfl);simp only[List.getElem_zipWith,prL,hv] at hu;simp at hu;rcases hu with rfl|rfl|rfl<;>rfl
 have HCL:=Qh (ClonePr_c w (by rw[List.length_zipWith];omega) (h4 vps) hon1 hpr.row);have HP:=Qh (fun(wr:World) (hk:Kn w wr) (i:Nat) (h1:i<rs.length) (h2:i<vps.length)=>
  CloneSy_c wr (by rw[List.length_map];exact hpz _ (List.getElem_mem h1)) (fun C hC=>by obtain⟨x,_,rfl⟩:=List.mem_map.1 hC;rfl) (fun u hu=>by
   obtain⟨C,hC,hu⟩:=List.mem_flatten.1 hu;obtain⟨x,_,rfl⟩:=List.mem_map.1 hC;simp[syL] at hu;rcases hu with rfl|rfl<;>rfl) ((hpr.syms i h2 h1).kn hk))
 obtain⟨a0,c0,hv0,_⟩:=hpr.row.row (h4 vps);rw[hv0] at HCL q3;have hzl:(List.zipWith prL rs vps).length=rs.length:=by rw[List.length_zipWith,hlen,Nat.min_self]
 rw[hzl] at HCL q3;clear hpr hon1 hv0;go_enter Tryz.func50,Tryz.ntmps50;go_wp2_with fail
 refine HCL.out.mono ?_;rintro e w1 ⟨v,rfl,hown,hk1⟩;obtain⟨a,c,rfl,hc1,hc2,hg⟩:=hown.row (h4 vps);have HX:=Qh hg;rw[hzl] at hown hc1⊢;have HOW:=Qh hown;have HLN:=Qh hlen;clear hg hown HCL q3 hzl hlen;go_wp2_with fail
 go_loopw [14] (fun s14 wr=>∃(k:Nat) (vk:List Value),s14= .int .i64 k∧k≤rs.length∧Hid (OwnK wr w.heap.size TPr 3 (.slice a rs.length c) (List.zipWith prL rs vk))∧Hid (vk.length=rs.length)∧Hid (∀i (h1:i<vk.length) (h2:i<rs.length),i<k→OwnK wr w.heap.size TSy 2 vk[i] (rs[i].syms.map syL))∧Hid (∀i,k≤i→vk[i]? =vps[i]?)∧Kn w wr) (fun s14 _=>rs.length-(intOf s14).toNat)
 case atStart=>exact⟨0,vps,rfl,Nat.zero_le _,HOW,HLN,Qh (fun i _ _ h=>absurd h (Nat.not_lt_zero _)),Qh (fun _ _=>rfl),hk1⟩
 case round=>
  clear HOW hk1;obtain⟨k,vk,rfl,hk,HO,HV,HPA,HR,hkn⟩:=hrel;by_cases hlt:k<rs.length
  ·have hvk:=HV.out;obtain⟨a',c',hv,_,_,hg⟩:=HO.out.row (h4 vk);have hzl:(List.zipWith prL rs vk).length=rs.length:=by rw[List.length_zipWith,hvk,Nat.min_self]
   obtain⟨g,rfl,hgH,_,hc⟩:=hg (fun e=>by rw[e] at hzl;simp at hzl;omega);obtain rfl:a=some ⟨g,0,none⟩:=by injection hv
   have c3:wr.cell? ⟨g,k*3+2,none⟩=some (vk[k]'(by omega)):=by
    have:=(hc k (by omega) 2 (by omega)).1;rw[show 0+3*k+2=k*3+2 by omega] at this;rw[this];simp[prL]
   have f3:wr.frozen? ⟨g,k*3+2,none⟩=false:=by
    have:=(hc k (by omega) 2 (by omega)).2;rwa[show 0+3*k+2=k*3+2 by omega] at this
   have hlv:k<vps.length:=by have:=HLN.out;omega
   have hvv:vk[k]'(by omega)=vps[k]:=by
    have:=HR.out k (Nat.le_refl _);rw[List.getElem?_eq_getElem (by omega),List.getElem?_eq_getElem hlv] at this;exact Option.some.inj this
   rw[hvv] at c3;have HPC:=Qh (HP.out wr hkn k hlt hlv);obtain⟨vp,hvp⟩:∃x,x=vps[k]:=⟨_,rfl⟩;rw[←hvp] at HPC c3;have HZL:=Qh hzl;have HGH:=Qh hgH;obtain⟨cur,hgb⟩:=OwnK.blkT HO.out (g:=g) rfl;have hgl:g<wr.heap.size:=by
    rcases Nat.lt_or_ge g wr.heap.size with h|h
    ·exact h
    ·rw[Array.getElem?_eq_none h] at hgb;cases hgb
   clear hv hg hc hvv hvp hzl hvk hgb hgH;go_wp2_with fail
   refine HPC.out.mono ?_;rintro e w2 ⟨v',rfl,hov,hk2⟩;have f32:w2.frozen? ⟨g,k*3+2,none⟩=false:=by
    obtain⟨cur,hgb⟩:=OwnK.blkT (HO.out.kn hk2) (g:=g) rfl;exact Qd hgb _
   obtain⟨a2,c2,rfl,_⟩:=hov.row (k:=2) (fun C hC=>by obtain⟨x,_,rfl⟩:=List.mem_map.1 hC;rfl);have hml:(List.map syL rs[k].syms).length=rs[k].syms.length:=List.length_map ..
   rw[hml] at hov⊢;clear hml;have HOV:=Qh hov;have HK2:=Qh hk2;have c32:=Qc hk2 c3;clear f3 c3 hov hk2;go_wp2_with fail
   go_roundw
   case rel=>
    have hkn2:=hkn.trans HK2.out;have hvk:=HV.out;have hkz:k<(List.zipWith prL rs vk).length:=by have:=HZL.out;omega
    have hkv:k<vk.length:=by omega
    have hk3:K1 g w2 (w2.setCell ⟨g,k*3+2,none⟩ (.slice a2 rs[k].syms.length c2)):=Qg _ _;have hset:=OwnK.set (HO.out.kn HK2.out) (h4 vk) (g:=g) rfl k 2 hkz (by omega) (.slice a2 rs[k].syms.length c2);rw[zip_pr_set,show 0+3*k+2=k*3+2 by omega] at hset;obtain⟨cur,hgb⟩:=OwnK.blkT (HO.out.kn HK2.out) (g:=g) rfl;have hS:=QK hgb;refine⟨k+1,vk.set k (.slice a2 rs[k].syms.length c2),by go_num,by omega,Qh hset,Qh (by rw[List.length_set];exact HV.out),Qh ?_,Qh ?_,?_⟩
    ·intro i h1 h2 hi;rw[List.length_set] at h1;by_cases e:k=i
     ·subst e;rw[List.getElem_set_self];exact Ql (OwnK.base HOV.out (by have:=hkn.size;omega)) hk3 hS (by decide)
     ·rw[List.getElem_set_ne e];exact Ql ((HPA.out i h1 h2 (by omega)).kn HK2.out) hk3 hS (by decide)
    ·intro i hi;rw[List.getElem?_set_ne (by omega)];exact HR.out i (by omega)
    ·exact hkn2.trans' hk3 (fun i hi e=>by have:=HGH.out;omega)
   case measure=>simp[intOf];omega
  ·obtain rfl:k=rs.length:=by omega
   go_wp2_with fail
   go_ret;exact⟨_,vk,rfl,⟨HO.out,HV.out,fun i h1 h2=>HPA.out i h1 h2 h2⟩,hkn⟩
end Go.Proofs.YtiehgcfckhepaaaGreatDoor
namespace Go.Proofs.YtiehgcfckhepaaaGreatDoor
def M6:Int:=1000000
def nU(z:List Int)(y:SY):Int:=if y.place=true then z.getD y.n.toNat 0 else 1
def YA(z:List Int):List SY→Int→Int
 |[],s=>s
 |y::l,s=>if nU z y= -1 then-1 else YA z l (min (s+nU z y) M6)
structure US where
 z:List Int
 b:List Int
 more:Bool
def stepU(i:Nat)(p:PR)(s:US):US:=
 if YA s.z p.syms 0≠-1∧(s.z.getD p.place 0= -1∨YA s.z p.syms 0<s.z.getD p.place 0) then⟨s.z.set p.place (YA s.z p.syms 0),s.b.set p.place i,true⟩ else s
def UK(l:List PR)(s:US):Nat→US
 |0=>s
 |k+1=>match l[k]? with|some p=>stepU k p (UK l s k)|none=>UK l s k
theorem UK_succ{l:List PR}{k:Nat}(s:US)(hk:k<l.length):UK l s (k+1)=stepU k l[k] (UK l s k):=by
 show(match l[k]? with|some p=>stepU k p (UK l s k)|none=>UK l s k)=_;rw[List.getElem?_eq_getElem hk]
def rndF(l:List PR)(s:List Int×List Int):(List Int×List Int)×Bool:=(((UK l ⟨s.1,s.2,false⟩ l.length).z,(UK l ⟨s.1,s.2,false⟩ l.length).b),(UK l ⟨s.1,s.2,false⟩ l.length).more)
def okZ(z:List Int):Prop:=∀x∈z,-1≤x∧x≤M6
theorem okZ.get{z:List Int}(h:okZ z)(i:Nat): -1≤z.getD i 0∧z.getD i 0≤M6:=by
 rw[List.getD_eq_getElem?_getD];rcases Nat.lt_or_ge i z.length with hi|hi
 ·rw[List.getElem?_eq_getElem hi];exact h _ (List.getElem_mem hi)
 ·rw[List.getElem?_eq_none hi];simp[M6]
theorem okZ.set{z:List Int}(h:okZ z)(i:Nat)(x:Int)(hx: -1≤x∧x≤M6):okZ (z.set i x):=fun y hy=>by
 rcases List.mem_or_eq_of_mem_set hy with hy|rfl
 ·exact h y hy
 ·exact hx
theorem nU_ok{z:List Int}(h:okZ z)(y:SY): -1≤nU z y∧nU z y≤M6:=by
 unfold nU;split
 ·exact h.get _
 ·simp[M6]
theorem sizeF_ok{z:List Int}(h:okZ z):∀(l:List SY) (s:Int),0≤s→s≤M6→-1≤YA z l s∧YA z l s≤M6
 |[],s,h0,h1=>⟨by unfold YA;omega,h1⟩
 |y::l,s,h0,h1=>by
  have hy:=nU_ok h y;unfold YA;split
  ·simp[M6]
  ·exact sizeF_ok h l _ (by unfold M6 at*;omega) (by unfold M6 at*;omega)
def wU(x:Int):Nat:=if x= -1 then 1000001 else x.toNat
def MU(z:List Int):Nat:=(z.map wU).sum
theorem MU_set(z:List Int)(i:Nat)(x:Int)(hi:i<z.length):MU (z.set i x)+wU (z.getD i 0)=MU z+wU x:=by
 have h:=sum_set (z.map wU) i (wU x) (by simpa using hi);unfold MU;rw[List.map_set];rw[show(z.map wU).getD i 0=wU (z.getD i 0) by rw[List.getD_eq_getElem?_getD,List.getD_eq_getElem?_getD,List.getElem?_map];cases z[i]? <;>rfl] at h
 exact h
structure UOk (n:Nat) (s:US):Prop where
 zl:s.z.length=n
 bl:s.b.length=n
 z:okZ s.z
theorem stepU_ok{n i:Nat}{p:PR}{s:US}(h:UOk n s):UOk n (stepU i p s):=by
 unfold stepU;split
 ·exact⟨by simp[h.zl],by simp[h.bl],h.z.set _ _ (sizeF_ok h.z _ _ (by omega) (by simp[M6]))⟩
 ·exact h
theorem stepU_mu{n i:Nat}{p:PR}{s:US}(h:UOk n s)(hp:p.place<n):MU (stepU i p s).z≤MU s.z∧((stepU i p s).more=true→s.more=true∨MU (stepU i p s).z<MU s.z):=by
 unfold stepU;split
 ·next hc=>
  have e:=MU_set s.z p.place (YA s.z p.syms 0) (by rw[h.zl];exact hp);have h1:=h.z.get p.place;have h2:=sizeF_ok h.z p.syms 0 (by omega) (by simp[M6]);have:wU (YA s.z p.syms 0)<wU (s.z.getD p.place 0):=by
   unfold wU;rw[if_neg hc.1];unfold M6 at*;split
   ·omega
   ·rcases hc.2 with h|h<;>omega
  exact⟨by dsimp only;omega,fun _=> .inr (by dsimp only;omega)⟩
 ·exact⟨Nat.le_refl _,fun h=> .inl h⟩
theorem UK_ok{n:Nat}{l:List PR}{s:US}(h:UOk n s):∀k,UOk n (UK l s k)
 |0=>h
 |k+1=>by
  show UOk n (match l[k]? with|some p=>stepU k p (UK l s k)|none=>UK l s k);split
  ·exact stepU_ok (UK_ok h k)
  ·exact UK_ok h k
theorem UK_mu{n:Nat}{l:List PR}{s:US}(h:UOk n s)(hl:∀p∈l,p.place<n):∀k,MU (UK l s k).z≤MU s.z∧((UK l s k).more=true→s.more=true∨MU (UK l s k).z<MU s.z)
 |0=>⟨Nat.le_refl _,fun h=> .inl h⟩
 |k+1=>by
  have ih:=UK_mu h hl k;rcases Nat.lt_or_ge k l.length with hk|hk
  ·rw[UK_succ s hk];have st:=stepU_mu (i:=k) (UK_ok (l:=l) h k) (hl _ (List.getElem_mem hk));refine⟨by omega,fun hm=> ?_⟩;rcases st.2 hm with h1|h1
   ·rcases ih.2 h1 with h2|h2
    ·exact .inl h2
    ·exact .inr (by omega)
   ·exact .inr (by omega)
  ·have e:UK l s (k+1)=UK l s k:=by
    show(match l[k]? with|some p=>stepU k p (UK l s k)|none=>UK l s k)=_;rw[List.getElem?_eq_none hk]
   rw[e];exact ih
def voidF(z:List Int):List Nat:=(List.range z.length).filter (fun n=>z.getD n 0= -1)
def zV(z:List Int):List (List Value):=z.map (fun x=>[Value.int .i64 x])
theorem zV_len(z:List Int):(zV z).length=z.length:=by simp[zV]
theorem zV_set(z:List Int)(i:Nat)(x:Int):(zV z).set i [Value.int .i64 x]=zV (z.set i x):=by simp[zV,List.map_set]
open Go.RowKit Go.Maps
abbrev TUs:TypeId:=100
structure UsAt (w:World) (B p st n:Nat) (l:List PR) (vl:Value) (vls:List Value) (z b:List Int) (gz gb cz cb:Nat):Prop where
 blk:w.heap[p]? =some (.cells #[ptr st,vl,.slice (some ⟨gz,0,none⟩) n cz,.slice (some ⟨gb,0,none⟩) n cb] TUs (0,0))
 pr:PrAt w B vl l vls
 rz:OwnK w B 3 1 (.slice (some ⟨gz,0,none⟩) n cz) (zV z)
 rb:OwnK w B 3 1 (.slice (some ⟨gb,0,none⟩) n cb) (zV b)
 zl:z.length=n
 bl:b.length=n
 ne:gz≠gb
 pB:B≤p
theorem zV_one(z:List Int):∀C∈zV z,C.length=1:=fun C hC=>by obtain⟨x,_,rfl⟩:=List.mem_map.1 hC;rfl
theorem zV_cell{w:World}{B g n c:Nat}{z:List Int}(h:OwnK w B 3 1 (.slice (some ⟨g,0,none⟩) n c) (zV z)){i:Nat}(hi:i<z.length):w.cell? ⟨g,i,none⟩=some (.int .i64 (z.getD i 0))∧w.frozen? ⟨g,i,none⟩=false:=by
 obtain⟨a,c',hv,_,_,hg⟩:=h.row (zV_one z);obtain⟨g',ha,_,_,hc⟩:=hg (fun e=>by have:=congrArg List.length e;rw[zV_len,List.length_nil] at this;omega);injection hv with e1 _ _;rw[ha] at e1;obtain rfl:g=g':=by injection e1 with e1;injection e1
 have h1:=hc i (by rw[zV_len];exact hi) 0 (by omega);rw[show 0+1*i+0=i by omega] at h1;refine⟨by rw[h1.1];simp[zV,List.getD_eq_getElem?_getD,List.getElem?_eq_getElem hi],h1.2⟩
section
variable {w w':World} {B p st n gz gb cz cb:Nat} {l:List PR} {vl:Value} {vls:List Value} {z b:List Int}
theorem UsAt.cell(h:UsAt w B p st n l vl vls z b gz gb cz cb)(i:Nat):w.cell? ⟨p,i,none⟩= #[ptr st,vl,.slice (some ⟨gz,0,none⟩) n cz,.slice (some ⟨gb,0,none⟩) n cb][i]? :=Qa h.blk i
theorem UsAt.kn(h:UsAt w B p st n l vl vls z b gz gb cz cb)(hk:Kn w w'):UsAt w' B p st n l vl vls z b gz gb cz cb:=⟨hk.blk h.blk (fun x=>x),h.pr.kn hk,h.rz.kn hk,h.rb.kn hk,h.zl,h.bl,h.ne,h.pB⟩
theorem UsAt.lt(h:UsAt w B p st n l vl vls z b gz gb cz cb):p<w.heap.size:=Qj h.blk
end
theorem sizeF_step(z:List Int)(s:Int)(l:List SY)(k:Nat)(hk:k<l.length):YA z (l.drop k) s=if nU z l[k]= -1 then-1 else YA z (l.drop (k+1)) (min (s+nU z l[k]) 1000000):=by
 rw[List.drop_eq_getElem_cons hk];try rfl
theorem size_c{w:World}{B p st n gz gb cz cb c:Nat}{l:List PR}{vl:Value}{vls:List Value}{z b:List Int}{a:Option Addr}(q1 q2:Value)(h:UsAt w B p st n l vl vls z b gz gb cz cb)(ok:okZ z)(hn:n≤1000000)
  (ys:List SY) (hl:SyS w a ys) (hll:ys.length≤1000000) (hy:∀y∈ys,y.place=true→0≤y.n∧y.n<n) (h1:q1.oneCell'=true) (h2:q2.oneCell'=true):
  Calls Tryz.prog 54 #[ptr p,.agg #[q1,q2,.slice a ys.length c]] w fun e w'=>e= .returned (.int .i64 (YA z ys 0))∧Kn w w':=by
 have hpl:=h.lt;have H:=Qh h;have HL:=Qh hl;have HOK:=Qh ok;have HY:=Qh hy;obtain⟨b3,hb3⟩:∃z,z=w.heap.size:=⟨_,rfl⟩;obtain⟨w1,hw1⟩:∃z,z=w.alloc (.cells #[q1,q2,.slice a ys.length c] 106):=⟨_,rfl⟩;have hk1:Kn w w1:=by rw[hw1];exact(Qb _ _).alloc _
 have hB3:w1.heap[b3]? =some (.cells #[q1,q2,.slice a ys.length c] 106 (0,0)):=by rw[hw1,hb3];exact Qf _ _
 have q2':w1.cell? ⟨b3,2,none⟩=some (.slice a ys.length c):=by rw[Qa hB3];try rfl
 have HW:=Qh (And.intro hw1 hb3);clear h hl ok hy hw1 hb3 hB3;go_enter Tryz.func54,Tryz.ntmps54;go_upto_region 1 with fail
 rw[←HW.out.1,←HW.out.2];go_wp2_with fail
 go_loopw [5,12] (fun s5 s12 wr=>∃(k:Nat) (s:Int),s5= .int .i64 s∧s12= .int .i64 k∧k≤ys.length∧Hid (YA z (ys.drop k) s=YA z ys 0)∧0≤s∧s≤1000000∧Kn w wr) (fun _ s12 _=>ys.length-(intOf s12).toNat)
 case atStart=>exact⟨0,0,rfl,rfl,Nat.zero_le _,Qh rfl,by omega,by omega,hk1⟩
 case round=>
  clear hk1 HW q2';obtain⟨k,s,rfl,rfl,hk,hsf,hs0,hs1,hkn⟩:=hrel;by_cases hlt:k<ys.length
  ·obtain⟨g,off,rfl,hc⟩:=HL.out (fun e=>by rw[e] at hlt;simp at hlt);obtain⟨c0,c1⟩:=hc k hlt;have x0:=Qc hkn c0;have x1:=Qc hkn c1;have HST:=Qh (sizeF_step z s ys k hlt);have hyr:=HY.out _ (List.getElem_mem hlt);have hyo:=nU_ok HOK.out ys[k];obtain⟨y,hy⟩:∃y,y=ys[k]:=⟨_,rfl⟩;rw[←hy] at x0 x1 HST hyr hyo;have hgl:=World.block_lt_of_cell? wr _ x0;obtain⟨w2,hw2⟩:∃z,z=wr.alloc (.cells #[.bool y.place,.int .i64 y.n] TSy):=⟨_,rfl⟩;have hk2:Kn wr w2:=by rw[hw2];exact(Qb _ _).alloc _
   obtain⟨b8,hb8⟩:∃z,z=wr.heap.size:=⟨_,rfl⟩;have hB8:w2.heap[b8]? =some (.cells #[.bool y.place,.int .i64 y.n] TSy (0,0)):=by rw[hw2,hb8];exact Qf _ _
   have y0:w2.cell? ⟨b8,0,none⟩=some (.bool y.place):=by rw[Qa hB8];try rfl
   have y1:w2.cell? ⟨b8,1,none⟩=some (.int .i64 y.n):=by rw[Qa hB8];try rfl
   have hkn2:=hkn.trans hk2;have HU2:=Qh (H.out.kn hkn2);have HW2:=Qh (And.intro hw2 hb8);have HB8:=Qh hB8;clear hy hc c0 c1 hw2 hb8 hk2 hB8 hkn;go_upto_region 5 with fail
   rw[←HW2.out.1,←HW2.out.2];clear x0 x1 HW2 hgl;cases hyp:y.place with
   |false=>
    rw[hyp] at y0;have hN:nU z y=1:=by unfold nU;rw[hyp];try rfl
    have HF:Hid (YA z (ys.drop (k+1)) (min (s+1) 1000000)=YA z ys 0):=Qh (by rw[←hsf.out,HST.out,hN,if_neg (by omega)]);clear hyp HST hsf hN hyr hyo;go_wp2_with fail
    go_roundw
    case rel=>exact⟨k+1,min (s+1) 1000000,by go_num,by go_num,by omega,HF,by omega,by omega,hkn2⟩
    case measure=>simp[intOf];omega
   |true=>
    rw[hyp] at y0;have hyr:=hyr hyp;obtain⟨m,hm⟩:∃m:Nat,y.n=m:=⟨y.n.toNat,by omega⟩;rw[hm] at y1;have hN:nU z y=z.getD m 0:=by unfold nU;rw[hyp,if_pos rfl,hm];try rfl
    rw[hN] at HST hyo;have hmn:m<n:=by omega
    have u2:w2.cell? ⟨p,2,none⟩=some (.slice (some ⟨gz,0,none⟩) n cz):=HU2.out.cell 2;have u3:=(zV_cell HU2.out.rz (i:=m) (by rw[HU2.out.zl];exact hmn)).1;obtain⟨x,hx⟩:∃x,x=z.getD m 0:=⟨_,rfl⟩;rw[←hx] at u3 HST hyo;obtain⟨hy0,hy1⟩:=hyo;clear hyp hN hm hyr hx;by_cases hx1:x= -1
    ·subst hx1;have HF:Hid (YA z ys 0= -1):=Qh (by rw[←hsf.out,HST.out,if_pos rfl]);clear HST hsf;go_wp2_with fail
     go_quiet (fail)
     go_wp2_with fail
     go_ret;exact⟨by rw[HF.out];try rfl,hkn2.drewN _⟩
    ·have HF:Hid (YA z (ys.drop (k+1)) (min (s+x) 1000000)=YA z ys 0):=Qh (by rw[←hsf.out,HST.out,if_neg hx1]);have hx2:x≤1000000:=hy1;clear HST hsf hy1;go_wp2_with fail
     go_quiet (fail)
     go_wp2_with fail
     go_roundw
     case rel=>exact⟨k+1,min (s+x) 1000000,by go_num,by go_num,by omega,HF,by omega,by omega,hkn2.drewN _⟩
     case measure=>simp[intOf];omega
  ·obtain rfl:k=ys.length:=by omega
   have HF:Hid (s=YA z ys 0):=Qh (by rw[←hsf.out,List.drop_length];try rfl);clear hsf;go_wp2_with fail
   go_ret;exact⟨by rw[←HF.out];try rfl,hkn⟩
theorem PrAt.prod{w:World}{B:Nat}{v:Value}{l:List PR}{vs:List Value}(h:PrAt w B v l vs):∃a c,v= .slice a l.length c∧(l≠[]→∃g,a=some ⟨g,0,none⟩∧
  ∀k (hk:k<l.length),w.cell? ⟨g,k*3,none⟩=some (.int .i64 (l[k].place:Nat))∧w.cell? ⟨g,k*3+1,none⟩=some (.int .i64 (l[k].rule:Nat))∧∃asy cs,w.cell? ⟨g,k*3+2,none⟩=some (.slice asy l[k].syms.length cs)∧l[k].syms.length≤cs∧cs≤maxLen∧
   (l[k].syms≠[]→∃gs,asy=some ⟨gs,0,none⟩∧SyR w gs 0 l[k].syms∧∃cur,w.heap[gs]? =some (.cells cur TSy (0,0)))):=by
 obtain⟨a,c,hv,_,_,hg⟩:=h.row.row (fun C hC=>by obtain⟨i,hi,rfl⟩:=List.getElem_of_mem hC;simp[prL]);have hlen:=h.len;rw[List.length_zipWith,hlen,Nat.min_self] at hv;refine⟨a,c,hv,fun hne=> ?_⟩;obtain⟨g,ha,_,_,hc⟩:=hg (fun e=>hne (by have h2:=congrArg List.length e;rw[List.length_zipWith,hlen,Nat.min_self] at h2;exact List.eq_nil_of_length_eq_zero h2));refine⟨g,ha,fun k hk=> ?_⟩;have hc3:=hc k (by rw[List.length_zipWith,hlen,Nat.min_self];exact hk);have e0:=(hc3 0 (by omega)).1;have e1:=(hc3 1 (by omega)).1;have e2:=(hc3 2 (by omega)).1;rw[show 0+3*k+0=k*3 by omega] at e0;rw[show 0+3*k+1=k*3+1 by omega] at e1;rw[show 0+3*k+2=k*3+2 by omega] at e2;obtain⟨asy,cs,hvs,h1,h2,h3⟩:=SyS.of (h.syms k (by omega) hk);refine⟨by rw[e0];simp[prL],by rw[e1];simp[prL],asy,cs,by rw[e2];simp[prL,hvs],h1,h2,h3⟩
theorem zV_set'(z:List Int)(i:Nat)(x:Int)(h:i<(zV z).length):(zV z).set i ((zV z)[i].set 0 (.int .i64 x))=zV (z.set i x):=by
 rw[←zV_set];congr 1;simp[zV]
section
variable {w w':World} {B p st n gz gb cz cb:Nat} {l:List PR} {vl:Value} {vls:List Value} {z b:List Int}
theorem UsAt.setZ(h:UsAt w B p st n l vl vls z b gz gb cz cb){i:Nat}(hi:i<n)(x:Int):UsAt (w.setCell ⟨gz,i,none⟩ (.int .i64 x)) B p st n l vl vls (z.set i x) b gz gb cz cb:=by
 have hk:K1 gz w (w.setCell ⟨gz,i,none⟩ (.int .i64 x)):=Qg _ _;obtain⟨cur,hgb⟩:=OwnK.blkT h.rz (g:=gz) rfl;have hset:=OwnK.set h.rz (zV_one z) (g:=gz) rfl i 0 (by rw[zV_len,h.zl];exact hi) (by omega) (.int .i64 x);rw[zV_set',show 0+1*i+0=i by omega] at hset;exact⟨hk.blk h.blk (fun e=>by subst e;exact Qn hgb h.blk (by decide)),h.pr.off hk (Qv (QK hgb) (by decide)) (Qv (QK hgb) (by decide)),hset,h.rb.kp hk (fun g hg e=>h.ne (e.symm.trans (Option.some.inj hg).symm)),by simp[h.zl],h.bl,h.ne,h.pB⟩
theorem UsAt.setB(h:UsAt w B p st n l vl vls z b gz gb cz cb){i:Nat}(hi:i<n)(x:Int):UsAt (w.setCell ⟨gb,i,none⟩ (.int .i64 x)) B p st n l vl vls z (b.set i x) gz gb cz cb:=by
 have hk:K1 gb w (w.setCell ⟨gb,i,none⟩ (.int .i64 x)):=Qg _ _;obtain⟨cur,hgb⟩:=OwnK.blkT h.rb (g:=gb) rfl;have hset:=OwnK.set h.rb (zV_one b) (g:=gb) rfl i 0 (by rw[zV_len,h.bl];exact hi) (by omega) (.int .i64 x);rw[zV_set',show 0+1*i+0=i by omega] at hset;exact⟨hk.blk h.blk (fun e=>by subst e;exact Qn hgb h.blk (by decide)),h.pr.off hk (Qv (QK hgb) (by decide)) (Qv (QK hgb) (by decide)),h.rz.kp hk (fun g hg e=>h.ne ((Option.some.inj hg).trans e)),hset,h.zl,by simp[h.bl],h.ne,h.pB⟩
end
structure LUk (n:Nat) (l:List PR):Prop where
 nn:n≤1000000
 ll:l.length≤60000
 pp:∀q∈l,q.place<n∧q.syms.length≤1000000∧∀y∈q.syms,y.place=true→0≤y.n∧y.n<n
abbrev ZSt(gz gb:Nat):World→World→Prop:=Kp (fun k=>k=gz∨k=gb)
theorem round_c{w:World}{B p st n gz gb cz cb:Nat}{l:List PR}{vl:Value}{vls:List Value}{z b:List Int}(h:UsAt w B p st n l vl vls z b gz gb cz cb)(ok:UOk n ⟨z,b,false⟩)(lk:LUk n l):
  Calls Tryz.prog 52 #[ptr p] w fun e w'=>e= .returned (.bool (rndF l (z,b)).2)∧UsAt w' B p st n l vl vls (rndF l (z,b)).1.1 (rndF l (z,b)).1.2 gz gb cz cb∧ZSt gz gb w w':=by
 have hpl:=h.lt;have H:=Qh h;have HOK:=Qh ok;have HLK:=Qh lk;obtain⟨al,cl,hvl,hg⟩:=h.pr.prod;have q2:w.cell? ⟨p,1,none⟩=some vl:=h.cell 1;rw[hvl] at q2;have HVL:=Qh hvl;have hll:=lk.ll;have hnl:=lk.nn;clear h ok lk hg hvl;go_enter Tryz.func52,Tryz.ntmps52;go_wp2_with fail
 go_loopw [3,13] (fun s3 s13 wr=>∃(k:Nat) (s:US),s3= .bool s.more∧s13= .int .i64 k∧k≤l.length∧Hid (s=UK l ⟨z,b,false⟩ k)∧Hid (UsAt wr B p st n l vl vls s.z s.b gz gb cz cb)∧ZSt gz gb w wr) (fun _ s13 _=>l.length-(intOf s13).toNat)
 case atStart=>exact⟨0,⟨z,b,false⟩,rfl,rfl,Nat.zero_le _,Qh rfl,H,Qb _ _⟩
 case round=>
  obtain⟨k,s,rfl,rfl,hk,hsk,hst,hkp⟩:=hrel;by_cases hlt:k<l.length
  ·obtain⟨ar,cr,hv2,hgr⟩:=hst.out.pr.prod;obtain⟨rfl,rfl⟩:ar=al∧cr=cl:=by
    have h9:=hv2.symm.trans HVL.out;injection h9 with e1 e2 e3;exact⟨e1,e3⟩
   obtain⟨g,rfl,hcs⟩:=hgr (fun e=>by rw[e] at hlt;simp at hlt);obtain⟨c0,c1,asy,cs,c2,hcs1,hcs2,hsy⟩:=hcs k hlt;obtain⟨hpp,hps,hpy⟩:=HLK.out.pp _ (List.getElem_mem hlt);have HST:=Qh (UK_succ ⟨z,b,false⟩ hlt);have HSO:=Qh (UK_ok (l:=l) HOK.out k);rw[←hsk.out] at HSO;obtain⟨pr,hpre⟩:∃z,z=l[k]:=⟨_,rfl⟩;rw[←hpre] at c0 c1 c2 hcs1 hsy hpp hps hpy HST;rw[←hsk.out] at HST;have hgl3:=World.block_lt_of_cell? wr _ c0;obtain⟨w2,hw2⟩:∃z,z=wr.alloc (.cells #[.int .i64 (pr.place:Nat),.int .i64 (pr.rule:Nat),.slice asy pr.syms.length cs] TPr):=⟨_,rfl⟩;have hk2:Kn wr w2:=by rw[hw2];exact(Qb _ _).alloc _
   obtain⟨b5,hb5⟩:∃z,z=wr.heap.size:=⟨_,rfl⟩;have hB5:w2.heap[b5]? =some (.cells #[.int .i64 (pr.place:Nat),.int .i64 (pr.rule:Nat),.slice asy pr.syms.length cs] TPr (0,0)):=by rw[hw2,hb5];exact Qf _ _
   have y0:w2.cell? ⟨b5,0,none⟩=some (.int .i64 (pr.place:Nat)):=by rw[Qa hB5];try rfl
   have y1:w2.cell? ⟨b5,1,none⟩=some (.int .i64 (pr.rule:Nat)):=by rw[Qa hB5];try rfl
   have y2:w2.cell? ⟨b5,2,none⟩=some (.slice asy pr.syms.length cs):=by rw[Qa hB5];try rfl
   have HS2:=Qh (hst.out.kn hk2);have hkp2:=hkp.trans (Kp.weak hk2);have HSZ:=Qh (fun(w3:World) (hk3:Kn w2 w3)=>size_c (c:=cs) (a:=asy) (.int .i64 (pr.place:Nat)) (.int .i64 (pr.rule:Nat)) (HS2.out.kn hk3) HSO.out.z hnl pr.syms (fun hne=>by obtain⟨gs,hgs,hr,_⟩:=hsy hne;exact⟨gs,0,hgs,fun i hi=>⟨Qc (hk2.trans hk3) (hr i hi).1,Qc (hk2.trans hk3) (hr i hi).2⟩⟩) hps hpy rfl rfl);obtain⟨m,hm⟩:∃m,m=YA s.z pr.syms 0:=⟨_,rfl⟩;obtain⟨o,ho⟩:∃o,o=s.z.getD pr.place 0:=⟨_,rfl⟩;have HSU:Hid (stepU k pr s=if m≠-1∧(o= -1∨m<o) then⟨s.z.set pr.place m,s.b.set pr.place k,true⟩ else s):=Qh (by rw[hm,ho];try rfl);have u2:w2.cell? ⟨p,2,none⟩=some (.slice (some ⟨gz,0,none⟩) n cz):=HS2.out.cell 2;have u3:=(zV_cell HS2.out.rz (i:=pr.place) (by rw[HSO.out.zl];exact hpp)).1;rw[←hm] at HSZ;rw[←ho] at u3;have HW2:=Qh (And.intro hw2 hb5);have HPB:Hid (b5≠gz∧b5≠gb):=Qh (by
    obtain⟨_,h1⟩:=OwnK.blkT hst.out.rz (g:=gz) rfl;obtain⟨_,h2⟩:=OwnK.blkT hst.out.rb (g:=gb) rfl;have h1:=Qj h1;have h2:=Qj h2;omega)
   have HB5:=Qh hB5;have hsm:=sizeF_ok HSO.out.z pr.syms 0 (by omega) (by simp[M6]);rw[←hm] at hsm;have hoo:=HSO.out.z.get pr.place;rw[←ho] at hoo;obtain⟨hsm0,hsm1⟩:=hsm;obtain⟨hoo0,hoo1⟩:=hoo;clear hw2 hb5 hB5 hk2 hpre hm ho hcs hgr hsy hpy hst hkp;go_upto_region 5 with fail
   rw[←HW2.out.1,←HW2.out.2];clear c0 c1 c2 HW2 hgl3 q2 hv2;refine rgn (fun w'=>w'.cell? ⟨b5,0,none⟩=some (.int .i64 (pr.place:Nat))∧w'.cell? ⟨b5,1,none⟩=some (.int .i64 (pr.rule:Nat))∧w'.cell? ⟨b5,2,none⟩=some (.slice asy pr.syms.length cs)∧w'.cell? ⟨p,2,none⟩=some (.slice (some ⟨gz,0,none⟩) n cz)∧w'.cell? ⟨gz,pr.place,none⟩=some (.int .i64 o)) (X:=[]) ⟨Qc ((Qb _ _).drew) y0,Qc ((Qb _ _).drew) y1,Qc ((Qb _ _).drew) y2,Qc ((Qb _ _).drew) u2,Qc ((Qb _ _).drew) u3⟩ (fun hX hHeld=> ?_);refine tw 0 18 ?_;refine tk 1 19 ?_;refine tw 3 21 ?_;refine tw 4 22 ?_;refine tw 5 23 ?_;refine tk 6 24 ?_;refine tw 7 25 ?_;refine tk 8 26 ?_;refine tw 9 27 ?_;refine tk 10 28 ?_;refine ro 2 (fun K hK=> ?_);go_simp
   go_at_call 54
   refine(HSZ.out _ ((Qb _ _).drew)).mono ?_;rintro e w3 ⟨rfl,hk3⟩;have HK3:Hid (Kn w2 w3):=Qh (((Qb _ _).drew).trans hk3);refine hK.out _ _ (⟨Qc hk3 hHeld.1,Qc hk3 hHeld.2.1,Qc hk3 hHeld.2.2.1,Qc hk3 hHeld.2.2.2.1,Qc hk3 hHeld.2.2.2.2⟩) (fun hHeld=> ?_);clear hk3;clear hK K
   try simp only[PP]
   refine ro 11 (fun K hK=> ?_);go_simp;refine hK.out _ _ hHeld (fun hHeld=> ?_);clear hK K
   try simp only[PP]
   refine re 12 (fun K hK=> ?_);go_simp;clear hHeld;refine hK.out _ _ ?_;clear hK K
   replace HS2:=Qh (HS2.out.kn HK3.out)
   replace hkp2:=hkp2.trans (Kp.weak HK3.out)
   replace HB5:=Qh (HK3.out.blk HB5.out (fun x=>x))
   clear HK3 HSZ y0 y1 y2 u2 u3;obtain⟨cd,hcd⟩:∃cd,cd=decide (m≠-1∧(o= -1∨m<o)):=⟨_,rfl⟩;have HSV:Hid (stepU k pr s=if cd=true then⟨s.z.set pr.place m,s.b.set pr.place k,true⟩ else s):=Qh (by rw[HSU.out,hcd];simp only[decide_eq_true_eq]);have HCD:=Qh hcd;clear HSU hcd;go_upto_region 6 with fail
   go_cut [39] (fun s39 wc=>s39= .bool cd∧wc=w3)
   case first=>
    by_cases hm:m= -1
    ·have hcd:cd=false:=by rw[HCD.out,decide_eq_false (fun h=>h.1 hm)]
     subst hm;go_wp2_with fail
     go_meet
     case rel=>exact⟨by rw[hcd],rfl⟩
    ·by_cases ho:o= -1
     ·have hcd:cd=true:=by rw[HCD.out,decide_eq_true ⟨hm,.inl ho⟩]
      subst ho;go_wp2_with fail
      go_meet
      case rel=>exact⟨by rw[hcd];simp[hm],rfl⟩
     ·by_cases hlo:m<o
      ·have hcd:cd=true:=by rw[HCD.out,decide_eq_true ⟨hm,.inr hlo⟩]
       go_wp2_with fail
       go_meet
       case rel=>exact⟨by rw[hcd];simp[hm],rfl⟩
      ·have hcd:cd=false:=by rw[HCD.out,decide_eq_false (fun h=>h.2.elim ho hlo)]
       go_wp2_with fail
       go_meet
       case rel=>exact⟨by rw[hcd];simp[hm,ho],rfl⟩
   case rest=>
    obtain⟨rfl,rfl⟩:=hcut;cases cd with
    |false=>
     go_wp2_with fail
     go_roundw
     case rel=>exact⟨k+1,s,rfl,by go_num,by omega,Qh (by rw[HST.out,HSV.out];try rfl),HS2,hkp2⟩
     case measure=>simp[intOf];omega
    |true=>
     have v0:wc.cell? ⟨b5,0,none⟩=some (.int .i64 (pr.place:Nat)):=by rw[Qa HB5.out];try rfl
     have v2:wc.cell? ⟨p,2,none⟩=some (.slice (some ⟨gz,0,none⟩) n cz):=HS2.out.cell 2;have v3:wc.cell? ⟨p,3,none⟩=some (.slice (some ⟨gb,0,none⟩) n cb):=HS2.out.cell 3;have f2:=(zV_cell HS2.out.rz (i:=pr.place) (by rw[HSO.out.zl];exact hpp)).2;have f3:=(zV_cell HS2.out.rb (i:=pr.place) (by rw[HSO.out.bl];exact hpp)).2;have e2:=(zV_cell HS2.out.rz (i:=pr.place) (by rw[HSO.out.zl];exact hpp)).1;have e3:=(zV_cell HS2.out.rb (i:=pr.place) (by rw[HSO.out.bl];exact hpp)).1;have HS3:=Qh (((HS2.out.kn (w':=wc.drew) (Qb _ _).drew).setZ hpp m).setB hpp k);have HKP3:Hid (ZSt gz gb w ((wc.drew.setCell ⟨gz,pr.place,none⟩ (.int .i64 m)).setCell ⟨gb,pr.place,none⟩ (.int .i64 (k:Nat)))):=Qh (((hkp2.drew).trans ((Qg _ _).mono (fun i hi e=>Or.inl e))).trans ((Qg _ _).mono (fun i hi e=>Or.inr e)));have HGG:Hid (p≠gz∧b5≠gz∧gb≠gz∧p≠gb):=Qh ⟨fun e=>by
      obtain⟨_,h1⟩:=OwnK.blkT HS2.out.rz (g:=gz) rfl;have h2:=HS2.out.blk;subst e;exact Qn h1 h2 (by decide),HPB.out.1,fun e=>HS2.out.ne e.symm,fun e=>by
      obtain⟨_,h1⟩:=OwnK.blkT HS2.out.rb (g:=gb) rfl;have h2:=HS2.out.blk;subst e;exact Qn h1 h2 (by decide)⟩
     go_wp2_with fail
     refine rgn (fun w'=>w'.cell? ⟨b5,0,none⟩=some (.int .i64 (pr.place:Nat))∧w'.cell? ⟨p,2,none⟩=some (.slice (some ⟨gz,0,none⟩) n cz)∧w'.cell? ⟨p,3,none⟩=some (.slice (some ⟨gb,0,none⟩) n cb)∧w'.frozen? ⟨gb,pr.place,none⟩=false) (X:=[]) ⟨Qc ((Qb _ _).drew) v0,Qc ((Qb _ _).drew) v2,Qc ((Qb _ _).drew) v3,f3⟩ (fun hX hHeld=> ?_);refine tw 0 40 ?_;refine tw 1 41 ?_;refine tw 2 42 ?_;refine tk 3 43 ?_;refine tw 4 44 ?_;refine tk 5 45 ?_;refine tw 6 46 ?_;refine tw 7 47 ?_;refine tw 8 48 ?_;refine tk 9 49 ?_;refine tw 10 50 ?_;refine tk 11 51 ?_;refine tw 12 52 ?_;refine tw 13 53 ?_;refine tw 14 54 ?_;refine ro 15 (fun K hK=> ?_);go_simp;have hk9:K1 gz wc.drew (wc.drew.setCell ⟨gz,pr.place,none⟩ (.int .i64 m)):=Qg _ _;have f4:=(zV_cell ((HS2.out.kn (w':=wc.drew) (Qb _ _).drew).setZ hpp m).rb (i:=pr.place) (by rw[HSO.out.bl];exact hpp)).2;refine hK.out _ _ (⟨Qi hk9 hHeld.1 HGG.out.2.1,Qi hk9 hHeld.2.1 HGG.out.1,Qi hk9 hHeld.2.2.1 HGG.out.1,f4⟩) (fun hHeld=> ?_);clear f4;have f4:(wc.setCell ⟨gz,pr.place,none⟩ (.int .i64 m)).drew.frozen? ⟨gb,pr.place,none⟩=false:=hHeld.2.2.2;have e4:(wc.setCell ⟨gz,pr.place,none⟩ (.int .i64 m)).drew.cell? ⟨gb,pr.place,none⟩=some (.int .i64 (s.b.getD pr.place 0)):=Qi hk9 (Qc ((Qb _ _).drew) e3) HGG.out.2.2.1;clear hk9;clear hK K
     try simp only[PP]
     refine tw 16 55 ?_;refine ro 17 (fun K hK=> ?_);go_simp;have hk9:K1 gb (wc.drew.setCell ⟨gz,pr.place,none⟩ (.int .i64 m)) ((wc.drew.setCell ⟨gz,pr.place,none⟩ (.int .i64 m)).setCell ⟨gb,pr.place,none⟩ (.int .i64 (k:Nat))):=Qg _ _;have f5:=(zV_cell HS3.out.rb (i:=pr.place) (by rw[HS3.out.bl];exact hpp)).2;refine hK.out _ _ (⟨Qi hk9 hHeld.1 HPB.out.2,Qi hk9 hHeld.2.1 HGG.out.2.2.2,Qi hk9 hHeld.2.2.1 HGG.out.2.2.2,f5⟩) (fun hHeld=> ?_);clear f4 f5 e4 hk9;clear hK K
     try simp only[PP]
     refine re 18 (fun K hK=> ?_);go_simp;clear hHeld;refine hK.out _ _ ?_;clear hK K;go_wp2_with fail
     go_roundw
     case rel=>exact⟨k+1,⟨s.z.set pr.place m,s.b.set pr.place k,true⟩,rfl,by go_num,by omega,Qh (by rw[HST.out,HSV.out];try rfl),HS3,HKP3.out⟩
     case measure=>simp[intOf];omega
  ·obtain rfl:k=l.length:=by omega
   go_wp2_with fail
   go_ret;have e:=hsk.out;exact⟨by rw[e];try rfl,by have:=hst.out;rw[e] at this;exact this,hkp⟩
end Go.Proofs.YtiehgcfckhepaaaGreatDoor
namespace Go.Proofs.YtiehgcfckhepaaaGreatDoor
open Go.RowKit
section
variable {P:Program} {ops:Array Oper} {Q:Exit→Act→World→Prop} {md:Region.Mode} {S:World→Prop} {X:List Nat} {m:Nat}
def sinkM(m:Nat)(md:Region.Mode)(ops:Array Oper)(X:List Nat):Bool:=
 (List.range m).all fun k=>X.contains k||(List.range (m+1)).any fun j=>decide (k<j)&& !X.contains j&&waits md ops j k
theorem sinkM_all{l:Array Bool}(hX:sinkM m md ops X=true)(hc:Closed md ops l)(hz:∀k,waits md ops (m) k=true→l.getD k false=true):∀n k,m-k≤n→k<m→k∉X→l.getD k false=true:=by
 intro n;induction n with
 |zero=>intro k h1 h2;omega
 |succ n ih=>
  intro k h1 h2 h3;have hk:=List.all_eq_true.1 hX k (List.mem_range.2 h2);simp only[Bool.or_eq_true,List.contains_eq_mem,decide_eq_true_eq,h3,false_or,List.any_eq_true,List.mem_range,Bool.and_eq_true,Bool.not_eq_true',decide_eq_false_iff_not] at hk;obtain⟨j,hj,⟨hkj,hjX⟩,hw⟩:=hk;rcases Decidable.em (j=m) with rfl|e
  ·exact hz k hw
  ·exact hc j k hw (ih j (by omega) (by omega) hjX)
def WM(m:Nat)(P:Program)(md:Region.Mode)(ops:Array Oper)(Q:Exit→Act→World→Prop)(S:World→Prop):Nat→Array Bool→Act→World→Prop
 |0,l,a,w=>Region.ready md ops l=[]∧Q .normal a w
 |f+1,l,a,w=>(Region.ready md ops l=[]→Q .normal a w)∧
  ∀i∈Region.ready md ops l,wpOp P ops Q i (fun a' w'=>((l.setIfInBounds i true).getD (m) false=false→S w')∧WM m P md ops Q S f (l.setIfInBounds i true) a' w') a w
theorem WM.any:∀(f:Nat) (l:Array Bool) (a:Act) (w:World),WM m P md ops Q S f l a w→wpAny P md ops Q f l a w
 |0,_,_,_,h=>h
 |f+1,_,_,_,h=>⟨h.1,fun i hi=>wpOp_mono (fun a' w' h'=>WM.any f _ a' w' h'.2) (h.2 i hi)⟩
theorem WM.first{T:World→Prop}{i:Nat}{o:Oper}{v:Value}(hi:ops[i]? =some o)(hil:i≠m)(hsel:Region.noSelect ops=true)(hQ:∀c a w,Q (.panic c) (a.put o.dst v) w→Q (.panic c) a w)
  (hT:∀l j w,Closed md ops l→i∈Region.ready md ops l→j∈Region.ready md ops l→j≠i→(((l.setIfInBounds j true).setIfInBounds i true).getD (m) false=false→S w)→T w):∀(f:Nat) (l:Array Bool) (a:Act) (w:World),Closed md ops l→
  (∀j oj,ops[j]? =some oj→j≠i→l.getD j true=false→(∀e∈oj.after,Region.binds md e=true→e.on≠i)→o.apart ops oj=true)→
  i∈Region.ready md ops l→YieldsIf P ops T o v a→T w→((l.setIfInBounds i true).getD (m) false=false→S w)→WM m P md ops Q S f (l.setIfInBounds i true) (a.put o.dst v) w→WM m P md ops Q S (f+1) l a w:=by
 intro f;induction f with
 |zero=>
  intro l a w _ _ hr hy ht hS H;refine⟨fun h=>absurd hr (by rw[h];exact List.not_mem_nil),fun j hj=> ?_⟩;rcases Decidable.em (j=i) with rfl|hne
  ·exact hy.wpOp hi ht ⟨hS,H⟩
  ·exact absurd (ready_mono hj hne) (by rw[H.1];exact List.not_mem_nil)
 |succ f ih=>
  intro l a w hc hfree hr hy ht hS H;refine⟨fun h=>absurd hr (by rw[h];exact List.not_mem_nil),fun j hj=> ?_⟩;rcases Decidable.em (j=i) with rfl|hne
  ·exact hy.wpOp hi ht ⟨hS,H⟩
  obtain⟨hju,oj,hoj,hall⟩:=mem_ready.1 hj;have hno:∀e∈oj.after,Region.binds md e=true→e.on≠i:=fun e he hb heq=>by
   have h1:=hall e he hb;rw[heq,unlisted hr] at h1;cases h1
  have hri:=ready_mono hr (Ne.symm hne);refine wpOp_mono (fun a' w' h3=> ?_) (wpOp_putIf hoj (hfree j oj hoj hne hju hno) (fun cs b=>Region.noSelect_spec hsel i o cs b hi) (fun cs b=>Region.noSelect_spec hsel j oj cs b hoj) hQ hy (H.2 j (ready_mono hj hne)));have hcm:(l.setIfInBounds i true).setIfInBounds j true=(l.setIfInBounds j true).setIfInBounds i true:=Array.setIfInBounds_comm _ _ (Ne.symm hne);obtain⟨hy3,hS3,H3⟩:=h3;rw[hcm] at H3 hS3;refine⟨fun hl=>hS3 ?_,ih _ a' w' (hc.set hj) (fun k ok hk hki hun hno2=>hfree k ok hk hki (by
    rcases Decidable.em (j=k) with e|e
    ·rw[←e];exact hju
    ·rw[getD_set_ne true e] at hun;exact hun) hno2) hri hy3 (hT l j w' hc hr hj hne hS3) hS3 H3⟩
  rw[getD_set_ne false hil];exact hl
theorem WM.take{T:World→Prop}{i:Nat}{o:Oper}{v:Value}{f:Nat}{l:Array Bool}{a:Act}{w:World}(hi:ops[i]? =some o)(hil:(i==m)=false)(hs:Region.noSelect ops=true)(hf:Region.free md ops l i=true)(hr:(Region.ready md ops l).contains i=true)
  (hQ:∀c a w,Q (.panic c) (a.put o.dst v) w→Q (.panic c) a w)
  (hT:∀l j w,Closed md ops l→i∈Region.ready md ops l→j∈Region.ready md ops l→j≠i→(((l.setIfInBounds j true).setIfInBounds i true).getD (m) false=false→S w)→T w)
  (hy:YieldsIf P ops T o v a) (ht:T w) (hS:S w) (H:Closed md ops (l.setIfInBounds i true)→WM m P md ops Q S f (l.setIfInBounds i true) (a.put o.dst v) w) (hc:Closed md ops l):WM m P md ops Q S (f+1) l a w:=
 WM.first hi (by simpa using hil) hs hQ hT f l a w hc (Region.free_spec hi hf) (by simpa using hr) hy ht (fun _=>hS) (H (hc.set (by simpa using hr)))
theorem hM_true{i:Nat} :∀l j w,Closed md ops l→i∈Region.ready md ops l→j∈Region.ready md ops l→j≠i→(((l.setIfInBounds j true).setIfInBounds i true).getD (m) false=false→S w)→(fun _:World=>True) w:=fun _ _ _ _ _ _ _ _=>trivial
theorem hM_S{i:Nat}(hX:sinkM m md ops X=true)(hi:i<m)(hiX:i∉X):∀l j w,Closed md ops l→i∈Region.ready md ops l→j∈Region.ready md ops l→j≠i→(((l.setIfInBounds j true).setIfInBounds i true).getD (m) false=false→S w)→S w:=fun l j w hc hri hrj hne h=>by
 have hu:=unlisted hri;refine h ?_;rcases Decidable.em (j=m) with e|e
 ·subst e;have:=sinkM_all hX hc (fun k hk=>ready_waits hrj hk) j i (by omega) hi hiX;rw[this] at hu;cases hu
 ·rw[getD_set_ne false (by omega),getD_set_ne false e];cases hl:l.getD (m) false with
  |false=>rfl
  |true=>
   have:=sinkM_all hX hc (fun k hk=>hc _ k hk hl) m i (by omega) hi hiX;rw[this] at hu;cases hu
def RM(m:Nat)(P:Program)(md:Region.Mode)(ops:Array Oper)(Q:Exit→Act→World→Prop)(S:World→Prop)(f:Nat)(l:Array Bool)(a:Act)(w:World):Prop:=Closed md ops l→WM m P md ops Q S f l a w
theorem rgm(m:Nat)(S:World→Prop){X:List Nat}{id:Nat}{a:Act}{w:World}(hS:S w.drew)(h:sinkM m .any ops X=true→S w.drew→RM m P .any ops Q S ops.size (Array.replicate ops.size false) a w.drew)(hX:sinkM m .any ops X=true:=by kernel_rfl)(hm:P.follows .mixedOrders=true:=by kernel_rfl):(Code.region id ops true).wp P Q a w:=
 wp_region_any hm (WM.any _ _ _ _ (h hX hS (fun k j _ hk=>by
  simp only[Array.getD_eq_getD_getElem?,Array.getElem?_replicate] at hk;split at hk<;>cases hk)))
theorem tkm(i d:Nat){op:Op}{ty:TypeId}{pos:String}{after:Array Edge}{gd:Option (Nat×Bool)}{v:Value}{f:Nat}{l:Array Bool}{a a':Act}{w:World}(h:RM m P md ops Q S f (l.setIfInBounds i true) a' w)
  (hi:ops[i]? =some (Oper.mk (some d) op ty pos after gd):=by rfl) (hs:Region.noSelect ops=true:=by kernel_rfl) (hf:Region.free md ops l i=true:=by kernel_rfl) (hr:(Region.ready md ops l).contains i=true:=by kernel_rfl)
  (hS:S w:=by assumption) (hX:sinkM m md ops X=true:=by assumption) (hiX:(decide (i<m)&& !X.contains i)=true:=by kernel_rfl)
  (hw:Region.wanted (Oper.mk (some d) op ty pos after gd) (yielded ops a.tmps)=true:=by rfl)
  (hy:∀w,S w→(execOp a.eval (Oper.mk (some d) op ty pos after gd)).run P w= .ok (.value v) w:=by(intro w hSw;(try dsimp only at hSw);go_split_ands;go_simp;try with_reducible rfl))
  (ha:a.put (some d) v=a':=by(simp only[Act.put,List.setIfInBounds_toArray,List.set_cons_zero,List.set_cons_succ];rfl))
  (hQ:∀c a w,Q (.panic c) (a.put (some d) v) w→Q (.panic c) a w:=by exact fun _ _ _ h=>h):RM m P md ops Q S (f+1) l a w:=by
 subst ha;simp only[Bool.and_eq_true,decide_eq_true_eq,Bool.not_eq_true',List.contains_eq_mem,decide_eq_false_iff_not] at hiX;exact WM.take hi (by simp;omega) hs hf hr hQ (hM_S hX hiX.1 hiX.2) (Or.inl ⟨hw,hy⟩) hS hS h
theorem twm(i d:Nat){op:Op}{ty:TypeId}{pos:String}{after:Array Edge}{gd:Option (Nat×Bool)}{v:Value}{f:Nat}{l:Array Bool}{a a':Act}{w:World}(h:RM m P md ops Q S f (l.setIfInBounds i true) a' w)
  (hi:ops[i]? =some (Oper.mk (some d) op ty pos after gd):=by rfl) (hs:Region.noSelect ops=true:=by kernel_rfl) (hf:Region.free md ops l i=true:=by kernel_rfl) (hr:(Region.ready md ops l).contains i=true:=by kernel_rfl)
  (hS:S w:=by assumption) (hil:(i==m)=false:=by kernel_rfl)
  (hw:Region.wanted (Oper.mk (some d) op ty pos after gd) (yielded ops a.tmps)=true:=by rfl)
  (hy:∀w,(execOp a.eval (Oper.mk (some d) op ty pos after gd)).run P w= .ok (.value v) w:=by(intro w;go_simp;try with_reducible rfl))
  (ha:a.put (some d) v=a':=by(simp only[Act.put,List.setIfInBounds_toArray,List.set_cons_zero,List.set_cons_succ];rfl))
  (hQ:∀c a w,Q (.panic c) (a.put (some d) v) w→Q (.panic c) a w:=by exact fun _ _ _ h=>h):RM m P md ops Q S (f+1) l a w:=by
 subst ha;exact WM.take hi hil hs hf hr hQ hM_true (Or.inl ⟨hw,fun w _=>hy w⟩) trivial hS h
theorem rom(i:Nat){d:Option Tmp}{op:Op}{ty:TypeId}{pos:String}{after:Array Edge}{gd:Option (Nat×Bool)}{f:Nat}{l:Array Bool}{a:Act}{w:World}
  (h:∀K':Act→World→Prop,Shut (∀a w,S w→(S w→RM m P md ops Q S f (l.setIfInBounds i true) a w)→K' a w)→if Region.wanted (Oper.mk d op ty pos after gd) (yielded ops a.tmps)=true then Oper.wp P (Oper.mk d op ty pos after gd) a w K' Q else K' (a.put d undef) w)
  (hi:ops[i]? =some (Oper.mk d op ty pos after gd):=by rfl) (hr:Region.ready md ops l=[i]:=by kernel_rfl):RM m P md ops Q S (f+1) l a w:=fun hc=>by
 have hm:i∈Region.ready md ops l:=by rw[hr];exact List.mem_singleton.2 rfl
 refine⟨fun e=>(by rw[hr] at e;cases e),fun j hj=> ?_⟩;rw[hr] at hj;cases List.mem_singleton.1 hj;exact wpOp_step hi (fun K' hK=>h K' (fun a w hS hW=>hK a w ⟨fun _=>hS,hW hS (hc.set hm)⟩))
theorem rmm(i:Nat){d:Option Tmp}{op:Op}{ty:TypeId}{pos:String}{after:Array Edge}{gd:Option (Nat×Bool)}{f:Nat}{l:Array Bool}{a:Act}{w:World}
  (h:∀K':Act→World→Prop,Shut (∀a w,RM m P md ops Q S f (l.setIfInBounds i true) a w→K' a w)→if Region.wanted (Oper.mk d op ty pos after gd) (yielded ops a.tmps)=true then Oper.wp P (Oper.mk d op ty pos after gd) a w K' Q else K' (a.put d undef) w)
  (hi:ops[i]? =some (Oper.mk d op ty pos after gd):=by rfl) (hr:Region.ready md ops l=[i]:=by kernel_rfl)
  (hl:(l.setIfInBounds i true).getD m false=true:=by kernel_rfl):RM m P md ops Q S (f+1) l a w:=fun hc=>by
 have hm:i∈Region.ready md ops l:=by rw[hr];exact List.mem_singleton.2 rfl
 refine⟨fun e=>(by rw[hr] at e;cases e),fun j hj=> ?_⟩;rw[hr] at hj;cases List.mem_singleton.1 hj;exact wpOp_step hi (fun K' hK=>h K' (fun a w hW=>hK a w ⟨fun e=>(by rw[hl] at e;cases e),hW (hc.set hm)⟩))
theorem rme(i:Nat){d:Option Tmp}{op:Op}{ty:TypeId}{pos:String}{after:Array Edge}{gd:Option (Nat×Bool)}{f:Nat}{l:Array Bool}{a:Act}{w:World}
  (h:∀K':Act→World→Prop,Shut (∀a w,Q .normal a w→K' a w)→if Region.wanted (Oper.mk d op ty pos after gd) (yielded ops a.tmps)=true then Oper.wp P (Oper.mk d op ty pos after gd) a w K' Q else K' (a.put d undef) w)
  (hi:ops[i]? =some (Oper.mk d op ty pos after gd):=by rfl) (hr:Region.ready md ops l=[i]:=by kernel_rfl) (hr2:Region.ready md ops (l.setIfInBounds i true)=[]:=by kernel_rfl)
  (hl:(l.setIfInBounds i true).getD (m) false=true:=by kernel_rfl):RM m P md ops Q S (f+1) l a w:=fun hc=>by
 refine⟨fun e=>(by rw[hr] at e;cases e),fun j hj=> ?_⟩;rw[hr] at hj;cases List.mem_singleton.1 hj;refine wpOp_step hi (fun K' hK=>h K' (fun a w hQ=>hK a w ⟨fun e=>(by rw[hl] at e;cases e),?_⟩));cases f with
 |zero=>exact⟨hr2,hQ⟩
 |succ f=>exact⟨fun _=>hQ,fun k hk=>(by rw[hr2] at hk;cases hk)⟩
theorem rom2(i j:Nat){d d2:Option Tmp}{op op2:Op}{ty ty2:TypeId}{pos pos2:String}{after after2:Array Edge}{gd gd2:Option (Nat×Bool)}{f:Nat}{l:Array Bool}{a:Act}{w:World}
  (h:∀K':Act→World→Prop,Shut (∀a w,S w→(S w→RM m P md ops Q S f (l.setIfInBounds i true) a w)→K' a w)→if Region.wanted (Oper.mk d op ty pos after gd) (yielded ops a.tmps)=true then Oper.wp P (Oper.mk d op ty pos after gd) a w K' Q else K' (a.put d undef) w)
  (h2:∀K':Act→World→Prop,Shut (∀a w,S w→(S w→RM m P md ops Q S f (l.setIfInBounds j true) a w)→K' a w)→if Region.wanted (Oper.mk d2 op2 ty2 pos2 after2 gd2) (yielded ops a.tmps)=true then Oper.wp P (Oper.mk d2 op2 ty2 pos2 after2 gd2) a w K' Q else K' (a.put d2 undef) w)
  (hi:ops[i]? =some (Oper.mk d op ty pos after gd):=by rfl) (hj:ops[j]? =some (Oper.mk d2 op2 ty2 pos2 after2 gd2):=by rfl) (hr:Region.ready md ops l=[i,j]:=by kernel_rfl):RM m P md ops Q S (f+1) l a w:=fun hc=>by
 have hm:i∈Region.ready md ops l:=by rw[hr];exact List.mem_cons_self
 have hm2:j∈Region.ready md ops l:=by rw[hr];exact List.mem_cons_of_mem _ (List.mem_singleton.2 rfl)
 refine⟨fun e=>(by rw[hr] at e;cases e),fun k hk=> ?_⟩;rw[hr] at hk;rcases List.mem_cons.1 hk with e|hk
 ·subst e;exact wpOp_step hi (fun K' hK=>h K' (fun a w hS hW=>hK a w ⟨fun _=>hS,hW hS (hc.set hm)⟩))
 ·cases List.mem_singleton.1 hk;exact wpOp_step hj (fun K' hK=>h2 K' (fun a w hS hW=>hK a w ⟨fun _=>hS,hW hS (hc.set hm2)⟩))
end
open Go.RowKit Go.Maps
structure NwAt (w:World) (B p st:Nat) (l:List PR) (vl:Value) (vls:List Value) (z b:List Int) (vz vb:Value):Prop where
 blk:w.heap[p]? =some (.cells #[ptr st,vl,vz,vb] TUs (0,0))
 pr:PrAt w B vl l vls
 rz:OwnK w B 3 1 vz (zV z)
 rb:OwnK w B 3 1 vb (zV b)
 ne:∀g,vz.ownBlock=some g→vb.ownBlock=some g→False
 pB:B≤p
theorem zV_snoc(z:List Int)(x:Int):zV (z++[x])=zV z++[#[Value.int .i64 x].toList]:=by simp[zV]
structure UX (w0:World) (B p:Nat) (z1 z2:Value) (z b:List Int) (wn:World) (vz vb:Value):Prop where
 rz:OwnK wn B 3 1 vz (zV z)
 rb:OwnK wn B 3 1 vb (zV b)
 ne:∀g,vz.ownBlock=some g→vb.ownBlock=some g→False
 kp:Kp (fun k=>some k=z1.ownBlock∨some k=z2.ownBlock) w0 wn
 oz:∀g,vz.ownBlock=some g→some g=z1.ownBlock∨w0.heap.size≤g
 ob:∀g,vb.ownBlock=some g→some g=z2.ownBlock∨w0.heap.size≤g
 np:vz.ownBlock≠some p∧vb.ownBlock≠some p
 n0:z1.ownBlock≠some p∧z2.ownBlock≠some p
 pl:p<w0.heap.size
def Lone(wn:World)(vz vb:Value)(g:Nat):Prop:=wn.heap[g]? =some (.cells #[.int .i64 (-1)] 3 (0,0))∧vz.ownBlock≠some g∧vb.ownBlock≠some g
section
variable {w0 wn w':World} {B p g:Nat} {z1 z2 vz vb v':Value} {z b:List Int}
theorem UX.kn(h:UX w0 B p z1 z2 z b wn vz vb)(hk:Kn wn w'):UX w0 B p z1 z2 z b w' vz vb:=⟨h.rz.kn hk,h.rb.kn hk,h.ne,h.kp.trans (Kp.weak hk),h.oz,h.ob,h.np,h.n0,h.pl⟩
theorem UX.lone(h:UX w0 B p z1 z2 z b wn vz vb):Lone (wn.alloc (.cells #[.int .i64 (-1)] 3)) vz vb wn.heap.size:=
 ⟨Qf _ _,fun e=>by obtain⟨_,h1⟩:=OwnK.blkT h.rz e;exact absurd (Qj h1) (Nat.lt_irrefl _),fun e=>by obtain⟨_,h1⟩:=OwnK.blkT h.rb e;exact absurd (Qj h1) (Nat.lt_irrefl _)⟩
theorem Lone.kn(h:Lone wn vz vb g)(hk:Kn wn w'):Lone w' vz vb g:=⟨hk.blk h.1 (fun x=>x),h.2⟩
theorem Lone.app(h:Lone wn vz vb g)(hk:Kp (fun k=>some k=vz.ownBlock) wn w')(ho:v'.ownBlock=vz.ownBlock∨v'.ownBlock=some wn.heap.size):Lone w' v' vb g:=
 ⟨hk.blk h.1 (fun e=>h.2.1 e.symm),fun e=>by
  rcases ho with ho|ho<;>rw[ho] at e
  ·exact h.2.1 e
  ·have:=Qj h.1;injection e with e;omega,h.2.2⟩
theorem UX.appZ(h:UX w0 B p z1 z2 z b wn vz vb)(hr:OwnK w' B 3 1 v' (zV z++[#[Value.int .i64 (-1)].toList]))(hk:Kp (fun k=>some k=vz.ownBlock) wn w')(ho:v'.ownBlock=vz.ownBlock∨v'.ownBlock=some wn.heap.size):UX w0 B p z1 z2 (z++[-1]) b w' v' vb:=by
 refine⟨by rw[zV_snoc];exact hr,h.rb.kp hk (fun g hg e=>h.ne g e.symm hg),fun g h1 h2=> ?_,Kp.trans' h.kp hk (fun i hi e=> ?_),fun g hg=> ?_,h.ob,⟨fun e=> ?_,h.np.2⟩,h.n0,h.pl⟩
 ·rcases ho with ho|ho<;>rw[ho] at h1
  ·exact h.ne g h1 h2
  ·obtain⟨_,h3⟩:=OwnK.blkT h.rb h2;have:=Qj h3;injection h1 with h1;omega
 ·rcases h.oz i e.symm with h1|h1
  ·exact .inl h1
  ·omega
 ·rcases ho with ho|ho<;>rw[ho] at hg
  ·exact h.oz g hg
  ·have:=h.kp.size;injection hg with hg;exact .inr (by omega)
 ·rcases ho with ho|ho<;>rw[ho] at e
  ·exact h.np.1 e
  ·have:=h.kp.size;have:=h.pl;injection e with e;omega
theorem UX.appB(h:UX w0 B p z1 z2 z b wn vz vb)(hr:OwnK w' B 3 1 v' (zV b++[#[Value.int .i64 (-1)].toList]))(hk:Kp (fun k=>some k=vb.ownBlock) wn w')(ho:v'.ownBlock=vb.ownBlock∨v'.ownBlock=some wn.heap.size):UX w0 B p z1 z2 z (b++[-1]) w' vz v':=by
 refine⟨h.rz.kp hk (fun g hg e=>h.ne g hg e.symm),by rw[zV_snoc];exact hr,fun g h1 h2=> ?_,Kp.trans' h.kp hk (fun i hi e=> ?_),h.oz,fun g hg=> ?_,⟨h.np.1,fun e=> ?_⟩,h.n0,h.pl⟩
 ·rcases ho with ho|ho<;>rw[ho] at h2
  ·exact h.ne g h1 h2
  ·obtain⟨_,h3⟩:=OwnK.blkT h.rz h1;have:=Qj h3;injection h2 with h2;omega
 ·rcases h.ob i e.symm with h1|h1
  ·exact .inr h1
  ·omega
 ·rcases ho with ho|ho<;>rw[ho] at hg
  ·exact h.ob g hg
  ·have:=h.kp.size;injection hg with hg;exact .inr (by omega)
 ·rcases ho with ho|ho<;>rw[ho] at e
  ·exact h.np.2 e
  ·have:=h.kp.size;have:=h.pl;injection e with e;omega
theorem UX.blk{o:Obj}(h:UX w0 B p z1 z2 z b wn vz vb)(hb:w0.heap[p]? =some o):wn.heap[p]? =some o:=by
 rw[h.kp.block p h.pl (fun e=>e.elim (fun e=>h.n0.1 e.symm) (fun e=>h.n0.2 e.symm))];exact hb
theorem NwAt.ux{st:Nat}{l:List PR}{vl:Value}{vls:List Value}(h:NwAt w0 B p st l vl vls z b z1 z2)(hk:Kn w0 wn):UX w0 B p z1 z2 z b wn z1 z2:=by
 have hp:=Qj h.blk;have n1:z1.ownBlock≠some p:=fun e=>by obtain⟨_,h1⟩:=OwnK.blkT h.rz e;exact Qn h1 h.blk (by decide)
 have n2:z2.ownBlock≠some p:=fun e=>by obtain⟨_,h1⟩:=OwnK.blkT h.rb e;exact Qn h1 h.blk (by decide)
 exact⟨h.rz.kn hk,h.rb.kn hk,h.ne,Kp.weak hk,fun g hg=> .inl hg.symm,fun g hg=> .inl hg.symm,⟨n1,n2⟩,⟨n1,n2⟩,hp⟩
theorem UX.done{st:Nat}{l:List PR}{vl:Value}{vls:List Value}{za ba:List Int}(h:UX w0 B p z1 z2 z b wn vz vb)(h0:NwAt w0 B p st l vl vls za ba z1 z2):
  NwAt ((wn.setCell ⟨p,2,none⟩ vz).setCell ⟨p,3,none⟩ vb) B p st l vl vls z b vz vb∧Kp (fun k=>B≤k) w0 ((wn.setCell ⟨p,2,none⟩ vz).setCell ⟨p,3,none⟩ vb):=by
 have hb:=h.blk h0.blk;have hk:K1 p wn ((wn.setCell ⟨p,2,none⟩ vz).setCell ⟨p,3,none⟩ vb):=(Qg _ _).trans (Qg _ _);have hty:∀T:TypeId,T≠3→T≠TUs→∀g (c:Array Value),w0.heap[g]? =some (.cells c T (0,0))→¬(some g=z1.ownBlock∨some g=z2.ownBlock∨g=p):=fun T h1 h2 g c hg e=>by
  rcases e with e|e|e
  ·obtain⟨_,h3⟩:=OwnK.blkT h0.rz e.symm;exact Qn h3 hg (Ne.symm h1)
  ·obtain⟨_,h3⟩:=OwnK.blkT h0.rb e.symm;exact Qn h3 hg (Ne.symm h1)
  ·subst e;exact Qn h0.blk hg (Ne.symm h2)
 have hK:Kp (fun k=>some k=z1.ownBlock∨some k=z2.ownBlock∨k=p) w0 ((wn.setCell ⟨p,2,none⟩ vz).setCell ⟨p,3,none⟩ vb):=(h.kp.mono (fun i hi e=>e.elim .inl (fun e=> .inr (.inl e)))).trans (hk.mono (fun i hi e=> .inr (.inr e)));refine⟨⟨Qk (Qk hb 2 _) 3 _,h0.pr.off hK (hty _ (by decide) (by decide)) (hty _ (by decide) (by decide)),h.rz.kp hk (fun g hg e=>h.np.1 (by rw[hg,e])),h.rb.kp hk (fun g hg e=>h.np.2 (by rw[hg,e])),h.ne,h0.pB⟩,hK.mono (fun i hi e=> ?_)⟩;rcases e with e|e|e
 ·exact(h0.rz.lt i e.symm).1
 ·exact(h0.rb.lt i e.symm).1
 ·rw[e];exact h0.pB
end
def rpU(n:Nat):List Int:=List.replicate n (-1)
theorem rpU_succ(n:Nat):rpU (n+1)=rpU n++[-1]:=by unfold rpU;rw[List.replicate_succ']
theorem SBok.lu{S:SB}(h:SBok S):LUk S.places.length S.l:=⟨by have:=h.le;omega,h.ll,fun q hq=>⟨(h.pr q hq).1,by have:=(h.pr q hq).2.2.1;omega,fun y hy hp=>by have:=(h.pr q hq).2.2.2 y hy;rw[if_pos hp] at this;exact this⟩⟩
theorem NwAt.us{w:World}{B p st n:Nat}{l:List PR}{vl:Value}{vls:List Value}{z b:List Int}{vz vb:Value}(h:NwAt w B p st l vl vls z b vz vb)(hz:z.length=n)(hb:b.length=n)(hn:0<n):
  ∃gz gb cz cb,vz= .slice (some ⟨gz,0,none⟩) n cz∧vb= .slice (some ⟨gb,0,none⟩) n cb∧UsAt w B p st n l vl vls z b gz gb cz cb:=by
 obtain⟨a,c,h1,_,_,hg⟩:=h.rz.row (zV_one z);obtain⟨a2,c2,h2,_,_,hg2⟩:=h.rb.row (zV_one b);obtain⟨gz,rfl,_⟩:=hg (fun e=>by have:=congrArg List.length e;rw[zV_len,List.length_nil] at this;omega);obtain⟨gb,rfl,_⟩:=hg2 (fun e=>by have:=congrArg List.length e;rw[zV_len,List.length_nil] at this;omega);rw[zV_len,hz] at h1;rw[zV_len,hb] at h2;subst h1 h2;exact⟨gz,gb,c,c2,rfl,rfl,h.blk,h.pr,h.rz,h.rb,hz,hb,fun e=>h.ne gz rfl (by rw[e];try rfl),h.pB⟩
theorem unew_c{w:World}{B s ge gf gw:Nat}{S:SB}{A:SA}{E:List Bool}{F W:List Nat}(h:StAt w B s S A E F W ge gf gw)(ok:SBok S):
  Calls Tryz.prog 9 #[ptr s] w fun e w'=>∃p vl vls z b gz gb cz cb,e= .returned (.tuple #[ptr p,.int .i64 0])∧UsAt w' w.heap.size p s S.places.length S.l vl vls z b gz gb cz cb∧Fin (rndF S.l) (rpU S.places.length,rpU S.places.length) (z,b)∧Kn w w':=by
 have hpl:=h.lt;have hle:=ok.le;have H:=Qh h;have HOK:=Qh ok;have HP:=Qh (prods_c h ok.ll (fun r hr=>by have:=(ok.pr r hr).2.2.1;omega));clear h ok;go_enter Tryz.func9,Tryz.ntmps9;go_wp2_with (first|(go_at_call 50;go_must (refine HP.out.mono ?_;rintro e w1 ⟨vl,vls,rfl,hpr,hk1⟩;obtain⟨av,cv,rfl,_⟩:=hpr.prod;have HPR:=Qh hpr;have HK1:=Qh hk1;clear hpr hk1 HP))|(go_at_call 51;go_must (obtain⟨w2,hw2⟩:∃z,z=w1.alloc (.cells #[ptr s,.slice av S.l.length cv,.slice none 0 0,.slice none 0 0] TUs):=⟨_,rfl⟩;have hk2:Kn w1 w2:=(by rw[hw2];exact(Qb _ _).alloc _);obtain⟨p,hp⟩:∃z,z=w1.heap.size:=⟨_,rfl⟩;have hB:w2.heap[p]? =some (.cells #[ptr s,.slice av S.l.length cv,.slice none 0 0,.slice none 0 0] TUs (0,0)):=(by rw[hw2,hp];exact Qf _ _);rw[←hw2,←hp];have HPB:Hid (w.heap.size≤p):=Qh (by have:=HK1.out.size;omega);have HK2:=Qh (HK1.out.trans hk2);have HPR2:=Qh (HPR.out.kn hk2);have HB:=Qh hB;clear hw2 hk2 hp hB HK1 HPR;refine(places_c (H.out.kn HK2.out) (by omega)).mono ?_;rintro e w3 ⟨v3,rfl,hv3,hk3⟩;obtain⟨a3,c3,rfl,_⟩:=hv3.row (fun C hC=>by obtain⟨x,_,rfl⟩:=List.mem_map.1 hC;rfl);replace HPR2:=Qh (HPR2.out.kn hk3);replace HB:=Qh (hk3.blk HB.out (fun x=>x));replace HK2:=Qh (HK2.out.trans hk3);rw[List.length_map];clear hv3 hk3)))
 have HNW:Hid (NwAt w3 w.heap.size p s S.l (.slice av S.l.length cv) vls (rpU 0) (rpU 0) (.slice none 0 0) (.slice none 0 0)):=Qh ⟨HB.out,HPR2.out,OwnK.nil,OwnK.nil,fun g hg=>(by cases hg),HPB.out⟩;obtain⟨ie,hi,hz0,hz1,hz2⟩:=info_parts info_int;have HI:=Qh (And.intro hi (And.intro hz0 (And.intro hz1 hz2)));clear hi hz0 hz1 hz2 HB HPR2 HPB;go_loopw [15] (fun s15 wr=>∃(k:Nat) (vz vb:Value),s15= .int .i64 k∧k≤S.places.length∧Hid (NwAt wr w.heap.size p s S.l (.slice av S.l.length cv) vls (rpU k) (rpU k) vz vb)∧Hid (Kn w wr)) (fun s15 _=>S.places.length-(intOf s15).toNat)
 case atStart=>exact⟨0,_,_,rfl,Nat.zero_le _,HNW,HK2⟩
 case round=>
  clear HNW HK2;obtain⟨k,vz,vb,rfl,hk,HN,hkn⟩:=hrel;by_cases hlt:k<S.places.length
  ·go_wp2_with fail
   have p2:wr.cell? ⟨p,2,none⟩=some vz:=Qa HN.out.blk 2;have p3:wr.cell? ⟨p,3,none⟩=some vb:=Qa HN.out.blk 3;have HX:=Qh (HN.out.ux (wn:=wr.drew) (Qb _ _).drew);have HSB:Hid (w.heap.size≤wr.heap.size):=Qh hkn.out.size;have hrl:(zV (rpU k)).length=k:=by rw[zV_len];simp[rpU]
   have HRL:=Qh hrl;clear hrl;refine rgm 16 (fun w'=>w'.cell? ⟨p,2,none⟩=some vz∧w'.cell? ⟨p,3,none⟩=some vb) (X:=[1]) ⟨Qc ((Qb _ _).drew) p2,Qc ((Qb _ _).drew) p3⟩ (fun hX hHeld=> ?_);obtain⟨wn,hwn⟩:∃zz,zz=wr.drew:=⟨_,rfl⟩;rw[←hwn] at HX hHeld⊢;clear hwn p2 p3;refine twm 0 17 ?_;refine twm 1 18 ?_;refine twm 2 19 ?_;refine twm 3 20 ?_;refine twm 4 21 ?_;refine tkm 5 22 ?_;refine twm 8 25 ?_;refine twm 9 26 ?_;refine twm 10 27 ?_;refine tkm 11 28 ?_
   repeat' (first
    |((with_reducible show RM _ _ _ _ _ _ _ (Array.setIfInBounds _ 11 true) _ _);refine rom2 6 12 (fun K hK=> ?_) (fun K hK=> ?_))
    |((with_reducible show RM _ _ _ _ _ _ _ (Array.setIfInBounds (Array.setIfInBounds _ 11 true) 12 true) _ _);refine rom 6 (fun K hK=> ?_))
    |((with_reducible show RM _ _ _ _ _ _ _ (Array.setIfInBounds (Array.setIfInBounds _ 12 true) 6 true) _ _);refine rom 7 (fun K hK=> ?_))
    |((with_reducible show RM _ _ _ _ _ _ _ (Array.setIfInBounds (Array.setIfInBounds (Array.setIfInBounds _ 12 true) 6 true) 7 true) _ _);refine rom 13 (fun K hK=> ?_))
    |((with_reducible show RM _ _ _ _ _ _ _ (Array.setIfInBounds _ 13 true) _ _);refine twm 14 31 ?_)
    |((with_reducible show RM _ _ _ _ _ _ _ (Array.setIfInBounds _ 14 true) _ _);refine twm 15 32 ?_)
    |((with_reducible show RM _ _ _ _ _ _ _ (Array.setIfInBounds _ 15 true) _ _);refine rmm 16 (fun K hK=> ?_))
    |((with_reducible show RM _ _ _ _ _ _ _ (Array.setIfInBounds _ 16 true) _ _);refine rmm 17 (fun K hK=> ?_))
    |((with_reducible show RM _ _ _ _ _ _ _ (Array.setIfInBounds _ 17 true) _ _);refine rmm 18 (fun K hK=> ?_))
    |((with_reducible show RM _ _ _ _ _ _ _ (Array.setIfInBounds _ 18 true) _ _);refine rme 19 (fun K hK=> ?_))
    |((with_reducible show RM _ _ _ _ _ _ _ (Array.setIfInBounds (Array.setIfInBounds _ 11 true) 6 true) _ _);refine rom2 7 12 (fun K hK=> ?_) (fun K hK=> ?_))
    |((with_reducible show RM _ _ _ _ _ _ _ (Array.setIfInBounds (Array.setIfInBounds _ 6 true) 12 true) _ _);refine rom 7 (fun K hK=> ?_))
    |((with_reducible show RM _ _ _ _ _ _ _ (Array.setIfInBounds (Array.setIfInBounds _ 12 true) 7 true) _ _);refine rom 13 (fun K hK=> ?_))
    |((with_reducible show RM _ _ _ _ _ _ _ (Array.setIfInBounds (Array.setIfInBounds (Array.setIfInBounds _ 11 true) 6 true) 7 true) _ _);refine rom 12 (fun K hK=> ?_))
    |((with_reducible show RM _ _ _ _ _ _ _ (Array.setIfInBounds (Array.setIfInBounds _ 7 true) 12 true) _ _);refine rom 13 (fun K hK=> ?_))
    |(with_reducible show if Region.wanted (Oper.mk (some 23) _ _ _ _ _) _=true then _ else _
      go_simp;have hka:Kn wn (wn.alloc (.cells #[.int .i64 (-1)] 3)):=(Qb _ _).alloc _;have HL6:=Qh HX.out.lone;obtain⟨g6,hg6⟩:∃zz,zz=wn.heap.size:=⟨_,rfl⟩;rw[←hg6] at HL6⊢;clear hg6
      (try replace HL12:=Qh (HL12.out.kn hka))
      replace HX:=Qh (HX.out.kn hka)
      obtain⟨wn,hwn⟩:∃zz,zz=wn.alloc (.cells #[.int .i64 (-1)] 3):=⟨_,rfl⟩;rw[←hwn] at HX hka HL6⊢
      (try rw[←hwn] at HL12)
      clear hwn;refine hK.out _ _ (⟨Qc hka hHeld.1,Qc hka hHeld.2⟩) (fun hHeld=> ?_);clear hka;clear hK K
      try simp only[PP])
    |(with_reducible show if Region.wanted (Oper.mk (some 24) _ _ _ _ _) _=true then _ else _
      refine Qq wn (by rfl) _ _ 28 (by rfl) w.heap.size 3 ie (.int .i64 0) 1 8 Tryz.underlying28 HI.out.1 HI.out.2.1 HI.out.2.2.1 HI.out.2.2.2 (by rfl) (by decide) vz (zV (rpU k)) (by rfl) HX.out.rz g6 1 (by rfl) #[.int .i64 (-1)] 3 (0,0) HL6.out.1 (by rfl) (by simp[Value.oneCell']) (by rw[HRL.out];simp only[maxLen];omega) (by rw[HRL.out];omega) (by have:=HX.out.kp.size;have:=HSB.out;omega) ?_;intro v1 wn hown hka hat;obtain⟨av1,cv1,hqv1,_⟩:=hown.row (k:=1) (fun D hD=>by rw[←zV_snoc] at hD;exact zV_one _ D hD);obtain⟨nv1,hv1⟩:∃n,v1= .slice av1 n cv1:=⟨_,hqv1⟩;have Hv1:=Qh hv1;clear hv1 hqv1;have HXo:=HX
      replace HX:=Qh (HX.out.appZ hown hka hat)
      (try replace HL12:=Qh (HL12.out.app hka hat))
      clear hown hat HL6;refine hK.out _ _ (⟨Qi hka hHeld.1 (fun e=>HXo.out.np.1 e.symm),Qi hka hHeld.2 (fun e=>HXo.out.np.1 e.symm)⟩) (fun hHeld=> ?_);clear hka HXo;clear hK K
      try simp only[PP])
    |(with_reducible show if Region.wanted (Oper.mk (some 29) _ _ _ _ _) _=true then _ else _
      go_simp;have hka:Kn wn (wn.alloc (.cells #[.int .i64 (-1)] 3)):=(Qb _ _).alloc _;have HL12:=Qh HX.out.lone;obtain⟨g12,hg12⟩:∃zz,zz=wn.heap.size:=⟨_,rfl⟩;rw[←hg12] at HL12⊢;clear hg12
      (try replace HL6:=Qh (HL6.out.kn hka))
      replace HX:=Qh (HX.out.kn hka)
      obtain⟨wn,hwn⟩:∃zz,zz=wn.alloc (.cells #[.int .i64 (-1)] 3):=⟨_,rfl⟩;rw[←hwn] at HX hka HL12⊢
      (try rw[←hwn] at HL6)
      clear hwn;refine hK.out _ _ (⟨Qc hka hHeld.1,Qc hka hHeld.2⟩) (fun hHeld=> ?_);clear hka;clear hK K
      try simp only[PP])
    |(with_reducible show if Region.wanted (Oper.mk (some 30) _ _ _ _ _) _=true then _ else _
      refine Qq wn (by rfl) _ _ 28 (by rfl) w.heap.size 3 ie (.int .i64 0) 1 8 Tryz.underlying28 HI.out.1 HI.out.2.1 HI.out.2.2.1 HI.out.2.2.2 (by rfl) (by decide) vb (zV (rpU k)) (by rfl) HX.out.rb g12 1 (by rfl) #[.int .i64 (-1)] 3 (0,0) HL12.out.1 (by rfl) (by simp[Value.oneCell']) (by rw[HRL.out];simp only[maxLen];omega) (by rw[HRL.out];omega) (by have:=HX.out.kp.size;have:=HSB.out;omega) ?_;intro v2 wn hown hka hat;obtain⟨av2,cv2,hqv2,_⟩:=hown.row (k:=1) (fun D hD=>by rw[←zV_snoc] at hD;exact zV_one _ D hD);obtain⟨nv2,hv2⟩:∃n,v2= .slice av2 n cv2:=⟨_,hqv2⟩;have Hv2:=Qh hv2;clear hv2 hqv2;have HXo:=HX
      replace HX:=Qh (HX.out.appB hown hka hat)
      clear hown hat HL12;refine hK.out _ _ (⟨Qi hka hHeld.1 (fun e=>HXo.out.np.2 e.symm),Qi hka hHeld.2 (fun e=>HXo.out.np.2 e.symm)⟩) (fun hHeld=> ?_);clear hka HXo;clear hK K
      try simp only[PP])
    |(with_reducible show if Region.wanted (Oper.mk none (Op.store _ (Operand.tmp 32) _) _ _ _ _) _=true then _ else _
      have HD:=Qh (HX.out.done HN.out);have hpb:=HX.out.blk HN.out.blk;have x2:=Qd hpb 2;have y2:wn.cell? ⟨p,2,none⟩=some vz:=Qa hpb 2;rw[Hv1.out];go_simp;rw[←Hv1.out];obtain⟨wa,hwa⟩:∃zz,zz=wn.setCell ⟨p,2,none⟩ v1:=⟨_,rfl⟩;have hpc:=Qk hpb 2 v1;rw[←hwa] at HD hpc⊢;have x3:=Qd hpc 3;have y3:wa.cell? ⟨p,3,none⟩=some vb:=Qa hpc 3;clear hwa hpb hpc x2 y2 hHeld;refine hK.out _ _ ?_;clear hK K
      try simp only[PP])
    |(with_reducible show if Region.wanted (Oper.mk (some 33) _ _ _ _ _) _=true then _ else _
      go_simp;refine hK.out _ _ ?_;clear hK K
      try simp only[PP])
    |(with_reducible show if Region.wanted (Oper.mk (some 34) _ _ _ _ _) _=true then _ else _
      go_simp;refine hK.out _ _ ?_;clear hK K
      try simp only[PP])
    |(with_reducible show if Region.wanted (Oper.mk none (Op.store _ (Operand.tmp 34) _) _ _ _ _) _=true then _ else _
      rw[Hv2.out];go_simp;rw[←Hv2.out];clear x3 y3;refine hK.out _ _ ?_;clear hK K))
   all_goals (go_wp2_with fail)
   all_goals go_roundw
   all_goals first|exact⟨k+1,v1,v2,by go_num,by omega,Qh (by rw[rpU_succ];exact HD.out.1),Qh (hkn.out.trans' HD.out.2 (fun i hi e=>by omega))⟩|(simp[intOf];omega)
  ·obtain rfl:k=S.places.length:=by omega
   obtain⟨gz,gb,cz,cb,rfl,rfl,hus⟩:=HN.out.us (n:=S.places.length) (by simp[rpU]) (by simp[rpU]) HOK.out.pos;have HUS:=Qh hus;have HLU:Hid (LUk S.places.length S.l):=Qh (HOK.out.lu);have HGB:Hid (w.heap.size≤gz∧w.heap.size≤gb):=Qh ⟨(hus.rz.lt gz rfl).1,(hus.rb.lt gb rfl).1⟩;obtain⟨n,hn⟩:∃n,n=S.places.length:=⟨_,rfl⟩;rw[←hn] at HUS HLU hle⊢;have HNQ:=Qh hn;obtain⟨N,hN⟩:∃N,N=MU (rpU n):=⟨_,rfl⟩;have HNN:=Qh hN;clear hus HN HI hn hN;go_wp2_with fail
   go_loopg [] (N+1) (fun f wr=>∃(k:Nat) (z b:List Int),Hid ((z,b)=itF (rndF S.l) k (rpU n,rpU n)∧∀j,j<k→(rndF S.l (itF (rndF S.l) j (rpU n,rpU n))).2=true)∧Hid (MU z<f)∧Hid (UOk n ⟨z,b,false⟩)∧Hid (UsAt wr w.heap.size p s n S.l (.slice av S.l.length cv) vls z b gz gb cz cb)∧Hid (Kn w wr))
   case atStart=>exact⟨0,rpU n,rpU n,Qh ⟨rfl,fun j hj=>absurd hj (Nat.not_lt_zero _)⟩,Qh (by rw[←HNN.out];omega),Qh ⟨by simp[rpU],by simp[rpU],fun x hx=>by have:=List.eq_of_mem_replicate hx;unfold M6;omega⟩,HUS,hkn⟩
   case round=>
    clear HUS hkn HNN;obtain⟨k,z,b,hit,hgh,huo,hu,hkn⟩:=hrel;have HRC:=Qh (round_c hu.out huo.out HLU.out);have HMU:=Qh (UK_mu huo.out (fun q hq=>(HLU.out.pp q hq).1) S.l.length);have HUO:=Qh (UK_ok (l:=S.l) huo.out S.l.length);obtain⟨r,hr⟩:∃r,r=UK S.l ⟨z,b,false⟩ S.l.length:=⟨_,rfl⟩;have HFE:Hid (rndF S.l (itF (rndF S.l) k (rpU n,rpU n))=((r.z,r.b),r.more)):=Qh (by rw[←hit.out.1,hr];try rfl);have hrf:rndF S.l (z,b)=((r.z,r.b),r.more):=by rw[hr];try rfl
    rw[hrf] at HRC;rw[←hr] at HMU HUO;clear hr hrf;have HGK:Hid (gk≠0):=Qh (by have:=hgh.out;omega);cases hmr:r.more with
    |false=>
     rw[hmr] at HRC HFE;clear hmr HMU;go_wp2_with (first|(go_at_call 52;go_must (refine HRC.out.mono ?_;rintro e w4 ⟨rfl,hs2,hk2⟩;have HS2:=Qh hs2;have HK2:=Qh (hkn.out.trans' hk2 (fun i hi e=>by have:=HGB.out;rcases e with e|e<;>omega));clear hs2 hk2 HRC)))
     go_ret2
     have e:=HNQ.out;subst e;exact⟨p,_,vls,r.z,r.b,gz,gb,cz,cb,rfl,HS2.out,⟨k,by rw[HFE.out],by rw[HFE.out],hit.out.2⟩,HK2.out⟩
    |true=>
     rw[hmr] at HRC HFE HMU;clear hmr;go_wp2_with (first|(go_at_call 52;go_must (refine HRC.out.mono ?_;rintro e w4 ⟨rfl,hs2,hk2⟩;have HS2:=Qh hs2;have HK2:=Qh (hkn.out.trans' hk2 (fun i hi e=>by have:=HGB.out;rcases e with e|e<;>omega));clear hs2 hk2 HRC)))
     go_roundg (gk-1)
     case measure=>have:=HGK.out;omega
     case rel=>exact⟨k+1,r.z,r.b,Qh ⟨by show _=(rndF S.l (itF (rndF S.l) k (rpU n,rpU n))).1;rw[HFE.out],fun j hj=>by
      rcases Nat.lt_succ_iff_lt_or_eq.1 hj with h|h
      ·exact hit.out.2 j h
      ·rw[h,HFE.out]⟩,Qh (by have h1:=hgh.out;have h2:=HMU.out.2 trivial;have h3:=HGK.out;rcases h2 with h2|h2;cases h2;omega),Qh ⟨HUO.out.zl,HUO.out.bl,HUO.out.z⟩,HS2,HK2⟩
end Go.Proofs.YtiehgcfckhepaaaGreatDoor
