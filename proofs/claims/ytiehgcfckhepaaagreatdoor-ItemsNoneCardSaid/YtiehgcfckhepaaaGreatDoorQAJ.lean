/-
  Texts of this claim, laid together: TBdMem, TBuild, TRounds, GLink, GBuild, GEsc, GItoa, GClasses, GFin, GRules, GClR. Conditions: none.
-/
import Derived.Test.YtiehgcfckhepaaaGreatDoorQAI
import Derived.Test.YtiehgcfckhepaaaGreatDoorQAA
import Derived.Shelf.Strings.BuilderK
import Derived.Laws.BytesArg
import Derived.Laws.AppendOwnNone
set_option linter.unusedVariables false
set_option linter.unusedSimpArgs false
set_option maxRecDepth 100000
set_option maxHeartbeats 16000000
namespace Go.Proofs.YtiehgcfckhepaaaGreatDoor
open Go.RowKit Go.Maps
def BSt(w:World)(B p bm:Nat):Nat→Prop:=fun k=>k=p∨k=bm∨B≤k∧∃(cs:Array Value) (T:TypeId),w.heap[k]? =some (.cells cs T (0,0))∧(T=TPc∨T=TPr∨T=TIs)
abbrev KB(B p bm:Nat)(w w':World):Prop:=Kp (BSt w B p bm) w w'
section
variable {w w' w1 w2:World} {B p bm:Nat} {S:SB} {A A':SA}
theorem KB.trans(h:KB B p bm w w1)(k:KB B p bm w1 w2):KB B p bm w w2:=Kp.trans' h k (fun i hi e=>by
 rcases e with e|e|⟨hB,cs,T,e,hT⟩
 ·exact .inl e
 ·exact .inr (.inl e)
 ·refine Classical.byContradiction (fun hn=>hn (.inr (.inr ⟨hB,cs,T,?_,hT⟩)));rw[←h.block i hi hn];exact e)
theorem KB.of{T:TypeId}{k n:Nat}{v:Value}{cs:List Value}(h:Kp (fun k=>some k=v.ownBlock) w w1)(hr:w.ownsRow B T k v n cs)(hT:T=TPc∨T=TPr∨T=TIs):KB B p bm w w1:=h.mono (fun i hi e=>by obtain⟨c,hc⟩:=QH hr e.symm;exact .inr (.inr ⟨(hr.lt i e.symm).1,c,T,hc,hT⟩))
theorem PlKeep.kb(h:PlKeep w w1 p A A')(hb:BdAt w B p S A):KB B p A.bm w w1:=h.kp.mono (fun i hi e=>by
 rcases e with e|e|e
 ·exact .inl e
 ·exact .inr (.inl e)
 ·obtain⟨cs,hc⟩:=QH hb.pl e.symm;exact .inr (.inr ⟨(hb.pl.lt i e.symm).1,cs,TPc,hc,.inl rfl⟩))
theorem KB.blk{k:Nat}{cs:Array Value}{T:TypeId}{f:Nat×Nat}(h:KB B p bm w w1)(hb:BdAt w B p S A)(hbm:A.bm=bm)(hk:w.heap[k]? =some (.cells cs T f))(h1:TSt≠T)(h2:TPc≠T)(h3:TPr≠T)(h4:TIs≠T):w1.heap[k]? =some (.cells cs T f):=Kp.blk h hk (fun e=>by
 rcases e with e|e|⟨_,c,U,e,hU⟩
 ·subst e;exact Qn hb.blk hk h1
 ·subst e;obtain⟨es,cl,hm,_⟩:=hb.mt;rw[hbm,hk] at hm;injection hm with hm;cases hm
 ·rcases hU with rfl|rfl|rfl
  ·exact Qn e hk h2
  ·exact Qn e hk h3
  ·exact Qn e hk h4)
theorem KB.old{b:Nat}(h:KB B p bm w1 w2)(hk:Kn w w1)(h1:b=w.heap.size)(h2:b≤B)(h3:b≤p)(h4:b≤bm):Kn w w2:=
 Kp.trans' hk h (fun i hi e=>by rcases e with e|e|⟨e,_⟩<;>omega)
theorem KB.grow{B2 k:Nat}{T:TypeId}{v:Value}{n:Nat}{cs:List Value}(h:KB B p bm w w1)(hk:Kp (fun k=>some k=v.ownBlock) w1 w2)(hr:w1.ownsRow B2 T k v n cs)(hB:w.heap.size≤B2):KB B p bm w w2:=
 Kp.trans' h hk (fun i hi e=>by have:=(hr.lt i e.symm).1;omega)
theorem BdAt.putProd{P:PR}{vs v1:Value}(h:BdAt w B p S A)(hs:OwnK w B TSy 2 vs (P.syms.map syL))(hr:OwnK w1 B TPr 3 v1 (List.zipWith prL S.l A.vls++[prL P vs]))(hk:Kp (fun k=>some k=A.vl.ownBlock) w w1):
  BdAt (w1.setCell ⟨p,2,none⟩ v1) B p {S with l:=S.l++[P]} {A with vl:=v1,vls:=A.vls++[vs]} ∧KB B p A.bm w (w1.setCell ⟨p,2,none⟩ v1):=by
 have hS:=QL h.pr.row;have hb:=Qw h.blk hk hS (by decide);have hk1:K1 p w1 (w1.setCell ⟨p,2,none⟩ v1):=Qg _ _;have hS1:=QK hb;have hlen:=h.pr.len;refine⟨⟨by have:=Qk hb 2 v1;simpa[seC] using this,Ql (Ql h.pl hk hS (by decide)) hk1 hS1 (by decide),Qs (Qs h.mt hk hS) hk1 hS1,⟨?_,by simp[hlen],fun i a b=> ?_⟩,(h.of_.off hk (Qv hS (by decide)) (Qv hS (by decide))).off hk1 (Qv hS1 (by decide)) (Qv hS1 (by decide)),h.pB⟩,(KB.of hk h.pr.row (.inr (.inl rfl))).trans (hk1.mono (fun i hi e=> .inl e))⟩
 ·have:=Ql hr hk1 hS1 (by decide);have e:List.zipWith prL (S.l++[P]) (A.vls++[vs])=List.zipWith prL S.l A.vls++[prL P vs]:=by rw[List.zipWith_append hlen.symm];try rfl
  show OwnK _ B TPr 3 v1 (List.zipWith prL (S.l++[P]) (A.vls++[vs]));rw[e];exact this
 ·dsimp only at a b⊢;by_cases hi:i<A.vls.length
  ·have:=Ql (Ql (h.pr.syms i hi (by omega)) hk hS (by decide)) hk1 hS1 (by decide);rw[List.getElem_append_left hi];simp only[List.getElem_append_left (show i<S.l.length by omega)];exact this
  ·have ei:i=A.vls.length:=by simp at a;omega
   subst ei;have:=Ql (Ql hs hk hS (by decide)) hk1 hS1 (by decide);rw[List.getElem_append_right (Nat.le_refl _)];simp only[List.getElem_append_right (show S.l.length≤A.vls.length by omega),Nat.sub_self,List.getElem_singleton,show A.vls.length-S.l.length=0 by omega];exact this
theorem BdAt.putOwn{o:List Nat}{vo v1:Value}(h:BdAt w B p S A)(hs:OwnI w B vo o)(hr:OwnK w1 B TIs 1 v1 (A.vos.map (fun x=>[x])++[[vo]]))(hk:Kp (fun k=>some k=A.vo.ownBlock) w w1):
  BdAt (w1.setCell ⟨p,3,none⟩ v1) B p {S with own:=S.own++[o]} {A with vo:=v1,vos:=A.vos++[vo]} ∧KB B p A.bm w (w1.setCell ⟨p,3,none⟩ v1):=by
 have hS:=QL h.of_.row;have hb:=Qw h.blk hk hS (by decide);have hk1:K1 p w1 (w1.setCell ⟨p,3,none⟩ v1):=Qg _ _;have hS1:=QK hb;have hlen:=h.of_.len;refine⟨⟨by have:=Qk hb 3 v1;simpa[seC] using this,Ql (Ql h.pl hk hS (by decide)) hk1 hS1 (by decide),Qs (Qs h.mt hk hS) hk1 hS1,(h.pr.off hk (Qv hS (by decide)) (Qv hS (by decide))).off hk1 (Qv hS1 (by decide)) (Qv hS1 (by decide)),⟨?_,by simp[hlen],fun i a b=> ?_⟩,h.pB⟩,(KB.of hk h.of_.row (.inr (.inr rfl))).trans (hk1.mono (fun i hi e=> .inl e))⟩
 ·have:=Ql hr hk1 hS1 (by decide);show OwnK _ B TIs 1 v1 ((A.vos++[vo]).map (fun x=>[x]));rw[List.map_append];exact this
 ·dsimp only at a b⊢;by_cases hi:i<A.vos.length
  ·have:=Ql (Ql (h.of_.nums i hi (by omega)) hk hS (by decide)) hk1 hS1 (by decide);rw[List.getElem_append_left hi];simp only[List.getElem_append_left (show i<S.own.length by omega)];exact this
  ·have ei:i=A.vos.length:=by simp at a;omega
   subst ei;have:=Ql (Ql hs hk hS (by decide)) hk1 hS1 (by decide);rw[List.getElem_append_right (Nat.le_refl _)];simp only[List.getElem_append_right (show S.own.length≤A.vos.length by omega),Nat.sub_self,List.getElem_singleton,show A.vos.length-S.own.length=0 by omega];exact this
end
structure AKeep (A A':SA):Prop where
 bm:A'.bm=A.bm
 fin:A'.fin=A.fin
 ve:A'.ve=A.ve
 vf:A'.vf=A.vf
 vw:A'.vw=A.vw
theorem AKeep.refl(A:SA):AKeep A A:=⟨rfl,rfl,rfl,rfl,rfl⟩
theorem AKeep.trans{A A1 A2:SA}(h:AKeep A A1)(k:AKeep A1 A2):AKeep A A2:=⟨k.bm.trans h.bm,k.fin.trans h.fin,k.ve.trans h.ve,k.vf.trans h.vf,k.vw.trans h.vw⟩
theorem PlKeep.ak{w w':World}{p:Nat}{A A':SA}(h:PlKeep w w' p A A'):AKeep A A':=by rw[h.rest];exact⟨rfl,rfl,rfl,rfl,rfl⟩
structure RuR (w:World) (g:Nat) (rs:List GR) (vps:List Value):Prop where
 blk:∃cur,w.heap[g]? =some (.cells cur TRu (0,0))
 len:vps.length=rs.length
 row:∀i (h:i<rs.length) (h':i<vps.length),w.cell? ⟨g,i*4,none⟩=some (.int .i64 (rs[i].sort:Nat))∧w.cell? ⟨g,i*4+1,none⟩=some (.string rs[i].cons)∧w.cell? ⟨g,i*4+2,none⟩=some (.int .i64 (rs[i].level:Nat))∧w.cell? ⟨g,i*4+3,none⟩=some vps[i]
 parts:∀i (h:i<rs.length) (h':i<vps.length),∃B,OwnK w B TPa 4 vps[i] (rs[i].parts.map paL)
theorem RuR.of{w:World}{B:Nat}{v:Value}{rs:List GR}{vps:List Value}(h:RuAt w B v rs vps):∃a c,v= .slice a rs.length c∧(rs≠[]→∃g,a=some ⟨g,0,none⟩∧RuR w g rs vps):=by
 obtain⟨a,c,hv,_,_,hg⟩:=h.row.row (fun C hC=>by obtain⟨i,hi,rfl⟩:=List.getElem_of_mem hC;simp[ruL]);have hlen:=h.len;rw[List.length_zipWith,hlen,Nat.min_self] at hv;refine⟨a,c,hv,fun hne=> ?_⟩;obtain⟨g,ha,_,ho,hc⟩:=hg (fun e=>hne (by have h2:=congrArg List.length e;rw[List.length_zipWith,hlen,Nat.min_self] at h2;exact List.eq_nil_of_length_eq_zero h2));refine⟨g,ha,QH h.row ho,hlen,fun i hi hi'=> ?_,fun i hi hi'=>⟨B,h.parts i hi' hi⟩⟩;have h4:=hc i (by rw[List.length_zipWith,hlen,Nat.min_self];exact hi);have e0:=(h4 0 (by omega)).1;have e1:=(h4 1 (by omega)).1;have e2:=(h4 2 (by omega)).1;have e3:=(h4 3 (by omega)).1;rw[show 0+4*i+0=i*4 by omega] at e0;rw[show 0+4*i+1=i*4+1 by omega] at e1;rw[show 0+4*i+2=i*4+2 by omega] at e2;rw[show 0+4*i+3=i*4+3 by omega] at e3;rw[e0,e1,e2,e3];simp[ruL]
theorem info_pr:(Tryz.prog.info? TPr).map (fun i=>(i.zero,i.size,i.bytes))=some (some (.agg #[.int .i64 0,.int .i64 0,.slice none 0 0]),3,40):=by kernel_rfl
theorem info_is:(Tryz.prog.info? TIs).map (fun i=>(i.zero,i.size,i.bytes))=some (some (.slice none 0 0),1,24):=by kernel_rfl
theorem BdAt.pcell{w:World}{B p:Nat}{S:SB}{A:SA}(h:BdAt w B p S A):∃a c,w.cell? ⟨p,0,none⟩=some (.slice a S.places.length c)∧(S.places≠[]→∃g,a=some ⟨g,0,none⟩∧∀i (hi:i<S.places.length),w.cell? ⟨g,i*2,none⟩=some (.int .i64 (S.places[i].1:Nat))∧w.cell? ⟨g,i*2+1,none⟩=some (.int .i64 (S.places[i].2:Nat))):=by
 obtain⟨a,c,hv,_,_,hg⟩:=h.pl.row (fun C hC=>by obtain⟨x,_,rfl⟩:=List.mem_map.1 hC;rfl);rw[List.length_map] at hv;refine⟨a,c,by rw[h.cell 0,←hv];try rfl,fun hne=> ?_⟩;obtain⟨g,ha,_,_,hc⟩:=hg (by simpa using hne);refine⟨g,ha,fun i hi=> ?_⟩;have e0:=(hc i (by simpa using hi) 0 (by omega)).1;have e1:=(hc i (by simpa using hi) 1 (by omega)).1;rw[show 0+2*i+0=i*2 by omega] at e0;rw[show 0+2*i+1=i*2+1 by omega] at e1;rw[e0,e1];simp[pcL]
theorem BdAt.lcell{w:World}{B p:Nat}{S:SB}{A:SA}(h:BdAt w B p S A):∃a c,A.vl= .slice a S.l.length c∧w.cell? ⟨p,2,none⟩=some (.slice a S.l.length c):=by
 obtain⟨a,c,hv,_⟩:=h.pr.row.row (fun C hC=>by obtain⟨i,hi,rfl⟩:=List.getElem_of_mem hC;simp[prL]);have hlen:=h.pr.len;rw[List.length_zipWith,hlen,Nat.min_self] at hv;exact⟨a,c,hv,by rw[h.cell 2,←hv];try rfl⟩
theorem BdAt.ocell{w:World}{B p:Nat}{S:SB}{A:SA}(h:BdAt w B p S A):∃a c,A.vo= .slice a S.own.length c∧w.cell? ⟨p,3,none⟩=some (.slice a S.own.length c):=by
 obtain⟨a,c,hv,_⟩:=h.of_.row.row (k:=1) (fun C hC=>by obtain⟨x,_,rfl⟩:=List.mem_map.1 hC;rfl);rw[List.length_map,h.of_.len] at hv;exact⟨a,c,hv,by rw[h.cell 3,←hv];try rfl⟩
theorem bd_own{w w':World}{B B2 p:Nat}{S:SB}{A:SA}{v:Value}{l:List Nat}(h:BdAt w B p S A)(hr:OwnI w B2 v l)(hk:Kp (fun k=>some k=v.ownBlock) w w')(hlt:∀x∈A.vos,∀g,x.ownBlock=some g→g<B2):BdAt w' B p S A:=by
 have hS:=QL hr;refine⟨Qw h.blk hk hS (by decide),Ql h.pl hk hS (by decide),Qs h.mt hk hS,h.pr.off hk (Qv hS (by decide)) (Qv hS (by decide)),⟨Ql h.of_.row hk hS (by decide),h.of_.len,fun i a b=>QC (h.of_.nums i a b) hk (fun g hg e=> ?_)⟩,h.pB⟩;have h1:=hlt _ (List.getElem_mem a) g hg;have h2:=(hr.lt g e.symm).1;omega
theorem BdAt.olt{w:World}{B p:Nat}{S:SB}{A:SA}(h:BdAt w B p S A):∀x∈A.vos,∀g,x.ownBlock=some g→g<w.heap.size:=fun x hx g hg=>by
 obtain⟨i,hi,rfl⟩:=List.getElem_of_mem hx;exact((h.of_.nums i hi (by rw[←h.of_.len];exact hi)).lt g hg).2
theorem own_base{w:World}{B B2 k n:Nat}{T:TypeId}{v:Value}{cs:List Value}(h:w.ownsRow B T k v n cs)(hB:B2≤B):w.ownsRow B2 T k v n cs:=by
 refine⟨h.1,?_⟩;rcases h.2 with h1|⟨g,cap,cur,h1,h2,h3⟩
 ·exact .inl h1
 ·exact .inr ⟨g,cap,cur,h1,Nat.le_trans hB h2,h3⟩
theorem getD_get{ps:PL}{n:Nat}(h:n<ps.length):ps.getD n (0,0)=ps[n]:=by rw[List.getD_eq_getElem?_getD,List.getElem?_eq_getElem h];try rfl
def BuildPost(B p:Nat)(rs:List GR)(A:SA)(w:World)(e:Ending)(w':World):Prop:=e= .returned (.tuple #[])∧∃A',BdAt w' B p (YJ rs) A'∧AKeep A A'∧KB B p A.bm w w'
theorem build_c{B p c:Nat}{a:Option Addr}{A:SA}{rs:List GR}{vps:List Value}{w:World}(h:BdAt w B p ⟨[],[],[]⟩ A)(hr:rs≠[]→∃g,a=some ⟨g,0,none⟩∧RuR w g rs vps)(ok:RulesOk rs):
  Calls Tryz.prog 65 #[ptr p,.slice a rs.length c] w (BuildPost B p rs A w):=by
 have hpl:=h.lt;have H:=Qh h;have HR:=Qh hr;have HOK:=Qh ok;have hrl:=ok.len;have HPC:Hid (Calls Tryz.prog 113 #[ptr p,.agg #[.int .i64 0,.int .i64 0]] w fun e w'=>e= .returned (.int .i64 0)∧∃A',BdAt w' B p ⟨[(0,0)],[],[]⟩ A'∧PlKeep w w' p A A'):=Qh (splace_c (0,0) h (by decide) (by decide) (by decide));obtain⟨ip,hi,hz0,hz1,hz2⟩:=info_parts info_pr;have HIP:=Qh (And.intro hi (And.intro hz0 (And.intro hz1 hz2)));obtain⟨io,hi,hz0,hz1,hz2⟩:=info_parts info_is;have HIO:=Qh (And.intro hi (And.intro hz0 (And.intro hz1 hz2)));have HBF:Hid (buildGo rs 501 0 ⟨[(0,0)],[],[]⟩=YJ rs):=Qh rfl;have hbB:=h.pB;clear h hr ok hi hz0 hz1 hz2;go_enter Tryz.func65,Tryz.ntmps65;go_wp2_with fail
 refine HPC.out.mono ?_;rintro e w1 ⟨rfl,A1,hb1,hk1⟩;have HB1:=Qh hb1;have hak1:=hk1.ak;have hkb1:=hk1.kb H.out;clear hb1 hk1 HPC;go_wp2_with fail
 go_loopw [4] (fun s4 wr=>∃(n:Nat) (S:SB) (A':SA),s4= .int .i64 n∧n≤400∧n≤S.places.length∧Hid (buildGo rs (501-n) n S=YJ rs)∧Hid (LOkB S.places S.l (120*n)∧S.own.length=n)∧Hid (BdAt wr B p S A')∧AKeep A A'∧KB B p A.bm w wr) (fun s4 _=>501-(intOf s4).toNat)
 case atStart=>exact⟨0,_,A1,rfl,by omega,Nat.zero_le _,HBF,Qh ⟨LOkB.start,rfl⟩,HB1,hak1,hkb1⟩
 case round=>
  clear HB1 hak1 hkb1 HBF;obtain⟨n,S,A',rfl,hn4,hnl,hgo,hlo,hbd,hak,hkb⟩:=hrel;obtain⟨ap,cp,p0,hgp⟩:=hbd.out.pcell;have h400:=hlo.out.1.pl.len;by_cases hlt:n<S.places.length
  ·have HGN:Hid (buildGo rs (501-(n+1)) (n+1) ⟨(rowS rs n S).places,(rowS rs n S).l,S.own++[(rowS rs n S).own]⟩=YJ rs):=Qh (by
    rw[←hgo.out,show 501-n=(501-(n+1))+1 by omega]
    conv=>rhs;unfold buildGo
    rw[if_pos hlt])
   have HOL:=Qh hbd.out.olt;obtain⟨wo,hwo⟩:∃z,z=wr:=⟨_,rfl⟩;subst hwo;obtain⟨Bo,hBo⟩:∃z,z=wo.heap.size:=⟨_,rfl⟩;rw[←hBo] at HOL;have hBo1:Bo≤wo.heap.size:=by omega
   have hBo2:w.heap.size≤Bo:=by rw[hBo];exact hkb.size
   have HL0:=Qh hlo.out.1;have HOW:=Qh hlo.out.2;clear hgp hgo hlo hBo;go_wp2_with fail
   go_loopw [5,22] (fun s5 s22 wi=>∃(i:Nat) (v:Value) (A2:SA),v=s5∧s22= .int .i64 i∧i≤rs.length∧Hid (OwnI wi Bo v (RK rs n S i).own)∧Hid (BdAt wi B p ⟨(RK rs n S i).places,(RK rs n S i).l,S.own⟩ A2)∧AKeep A A2∧A2.vos=A'.vos∧KB B p A.bm w wi∧Bo≤wi.heap.size) (fun _ s22 _=>rs.length-(intOf s22).toNat)
   case atStart=>exact⟨0,_,A',rfl,rfl,Nat.zero_le _,Qh (World.ownsRow_nil _ _ _ _),hbd,hak,rfl,hkb,hBo1⟩
   case round=>
    clear hbd hak hkb hBo1 p0;obtain⟨i,v,A2,rfl,rfl,hi,hov,hbd,hak,hvo,hkb,hbs⟩:=hrel;obtain⟨hok1,hok2,hok3,hok4⟩:=RK_ok HOK.out HL0.out hlt i hi;by_cases hil:i<rs.length
    ·have HRS:=Qh (RK_succ (n:=n) (S:=S) hil);have hpl2:=HOK.out.pl _ (List.getElem_mem hil);have hpa:=HOK.out.pa _ (List.getElem_mem hil);have hrlv:=HOK.out.rl _ (List.getElem_mem hil);obtain⟨X,hX⟩:∃z,z=RK rs n S i:=⟨_,rfl⟩;rw[←hX] at hov hbd hok1 hok2 hok3 hok4 HRS;obtain⟨g,rfl,hru⟩:=HR.out (fun e=>by rw[e] at hil;simp at hil);obtain⟨cu,hcu⟩:=hru.blk;have hgb:=hkb.blk H.out rfl hcu (by decide) (by decide) (by decide) (by decide);have hvl:i<vps.length:=by rw[hru.len];exact hil
     obtain⟨r0,r1,r2,r3⟩:=hru.row i hil hvl;have hgo2:∀ {x:Value} {j:Nat},w.cell? ⟨g,j,none⟩=some x→wr.cell? ⟨g,j,none⟩=some x:=fun {x j} hc=>by
      rw[Qa hgb,←Qa hcu];exact hc
     have x0:=hgo2 r0;have x1:=hgo2 r1;have x2:=hgo2 r2;have x3:=hgo2 r3;obtain⟨Bq,hpq⟩:=hru.parts i hil hvl;obtain⟨aq,cq,hvq,hgq⟩:=PaR.of hpq;obtain⟨r,hr⟩:∃z,z=rs[i]:=⟨_,rfl⟩;obtain⟨vq,hvqe⟩:∃z,z=vps[i]:=⟨_,rfl⟩;rw[←hr] at x0 x1 x2 hpl2 hpa hrlv HRS hpq hvq hgq;rw[←hvqe] at x3 hpq hvq;subst hvq;have HPQ:Hid (r.parts≠[]→∃gq,aq=some ⟨gq,0,none⟩∧(∃cs,wr.heap[gq]? =some (.cells cs TPa (0,0)))∧PaR wr gq r.parts):=Qh (fun hne=>by
      obtain⟨gq,hq,_,hpr⟩:=hgq hne;obtain⟨cq2,hcq2⟩:=QH hpq (g:=gq) (by rw[hq];try rfl);have hq2:=hkb.blk H.out rfl hcq2 (by decide) (by decide) (by decide) (by decide);refine⟨gq,hq,⟨_,hq2⟩,fun j hj=> ?_⟩;obtain⟨a0,a1,a2,a3⟩:=hpr j hj;refine⟨?_,?_,?_,?_⟩
      ·rw[Qa hq2,←Qa hcq2];exact a0
      ·rw[Qa hq2,←Qa hcq2];exact a1
      ·rw[Qa hq2,←Qa hcq2];exact a2
      ·rw[Qa hq2,←Qa hcq2];exact a3)
     have hgl:=Qj hgb;obtain⟨w2,hw2⟩:∃z,z=wr.alloc (.cells #[.int .i64 (r.sort:Nat),.string r.cons,.int .i64 (r.level:Nat),.slice aq r.parts.length cq] TRu):=⟨_,rfl⟩;have hk2:Kn wr w2:=by rw[hw2];exact(Qb _ _).alloc _
     obtain⟨b7,hb7⟩:∃z,z=wr.heap.size:=⟨_,rfl⟩;have hB7:w2.heap[b7]? =some (.cells #[.int .i64 (r.sort:Nat),.string r.cons,.int .i64 (r.level:Nat),.slice aq r.parts.length cq] TRu (0,0)):=by rw[hw2,hb7];exact Qf _ _
     have y0:w2.cell? ⟨b7,0,none⟩=some (.int .i64 (r.sort:Nat)):=by rw[Qa hB7];try rfl
     have y2:w2.cell? ⟨b7,2,none⟩=some (.int .i64 (r.level:Nat)):=by rw[Qa hB7];try rfl
     have HB7:=Qh hB7;have HBD2:=Qh (hbd.out.kn hk2);have HOV2:Hid (OwnI w2 Bo v X.own):=Qh (QC hov.out hk2 (fun _ _ x=>x));have HKB2:Hid (KB B p A.bm w w2):=Qh (hkb.trans (Kp.weak hk2));have HK2:=Qh hk2;have hbs2:=Nat.le_trans hbs hk2.size;have HW2:=Qh (And.intro hw2 hb7);have hnX:n<X.places.length:=by omega
     obtain⟨ax,cx,u0,hux⟩:=HBD2.out.pcell;obtain⟨gx,rfl,hux2⟩:=hux (fun e=>by dsimp only at e;rw[e] at hnX;simp at hnX);obtain⟨ux,uy⟩:=hux2 n hnX;dsimp only at u0 ux uy;have hqq:=getD_get hnX;obtain⟨q,hq⟩:∃z,z=X.places[n]:=⟨_,rfl⟩;rw[←hq] at ux uy hqq;have HQQ:=Qh hqq;have h4x:=hok1.pl.len;have HO1:=Qh hok1;have HPA:Hid (∀q∈r.parts,SPaOk q):=Qh (fun z hz=>by
      have h9:=(hpa z hz).so;have h8:=(hpa z hz).lv;exact⟨by omega,by omega⟩)
     have hll2:=hok1.ll;have HXE:=Qh hX;clear hX hr hvqe hpa hgq hpq r0 r1 r2 r3 hgo2 hru hcu hgb hw2 hb7 hB7 hk2 hbd hov hkb hux hux2 hq hqq hok1 hok2 hok4;go_upto_region 8 with fail
     rw[←HW2.out.1,←HW2.out.2];clear x0 x1 x2 x3 HW2 hgl;by_cases hs:r.sort=q.1
     ·have i1:(r.sort:Int)=q.1:=by omega
      rw[←i1] at ux;by_cases hv:q.2≤r.level
      ·have j1:(q.2:Int)≤r.level:=by omega
       have HRT:Hid (RK rs n S (i+1)=⟨(Yi X.places r.parts).1,X.l++[⟨n,i,(Yi X.places r.parts).2⟩],X.own++[X.l.length]⟩):=Qh (by
        rw[HRS.out];unfold sruleS isOf;dsimp only;rw[HQQ.out,if_pos (by simp[hs,hv])])
       clear HRS hs hv;go_wp2_with fail
       go_quiet (fail)
       obtain⟨w3,hw3⟩:∃z,z=w2.drewN nq:=⟨_,rfl⟩;have hk3:Kn w2 w3:=by rw[hw3];exact(Qb _ _).drewN _
       rw[←hw3];have HBD3:=Qh (HBD2.out.kn hk3);have HOV3:Hid (OwnI w3 Bo v X.own):=Qh (QC HOV2.out hk3 (fun _ _ x=>x));have HKB3:Hid (KB B p A.bm w w3):=Qh (HKB2.out.trans (Kp.weak hk3));have HK3:=Qh (HK2.out.trans hk3);have HB73:=Qh (hk3.blk HB7.out (fun x=>x));have hbs3:=Nat.le_trans hbs2 hk3.size;obtain⟨al,cl,hvl2,l3⟩:=HBD3.out.lcell;have HVL2:=Qh hvl2;clear hw3 hk3 y0 y2 ux uy u0 HBD2 HOV2 HKB2 HK2 HB7 i1 j1 hvl2;dsimp only at l3;have hll3:X.l.length≤60000:=by omega
       go_wp2_with (at_builtin;refine QG rfl (.tmp 51) (.tmp 57) rfl Bo w3.heap.size v _ _ [X.l.length] rfl rfl (QC HOV3.out (Kp.alloc (S:=fun _=>False) (Qb _ _) _) (fun _ _ x=>x)) (OwnI.one _ _) (by rw[List.length_singleton];omega) (by rw[size_alloc'];omega) ?_;intro v4 w4 hro hk4)
       have hkA:Kn w3 (w3.alloc (.cells #[.int .i64 (X.l.length:Nat)] 3)):=(Qb _ _).alloc _;have hovA:OwnI (w3.alloc (.cells #[.int .i64 (X.l.length:Nat)] 3)) Bo v X.own:=QC HOV3.out hkA (fun _ _ x=>x);have hS4:=QL hovA;have HBD4:=Qh (bd_own (HBD3.out.kn hkA) hovA hk4 (by rw[hvo];exact HOL.out));have HOV4:=Qh hro;have HKB4:Hid (KB B p A.bm w w4):=Qh ((HKB3.out.trans (Kp.weak hkA)).grow hk4 hovA hBo2);have HB74:=Qh (Qw (hkA.blk HB73.out (fun x=>x)) hk4 hS4 (by decide));have hbs4:=Nat.le_trans hbs3 (Nat.le_trans hkA.size hk4.size);have HPQ4:Hid (r.parts≠[]→∃gq,aq=some ⟨gq,0,none⟩∧(∃cs,w4.heap[gq]? =some (.cells cs TPa (0,0)))∧PaR w4 gq r.parts):=Qh (fun hne=>by
        obtain⟨gq,hq,⟨cs,hcs⟩,hpr⟩:=HPQ.out hne;have h5:=Qw (hkA.blk (HK3.out.blk hcs (fun x=>x)) (fun x=>x)) hk4 hS4 (by decide);refine⟨gq,hq,⟨_,h5⟩,fun j hj=> ?_⟩;obtain⟨a0,a1,a2,a3⟩:=hpr j hj;refine⟨?_,?_,?_,?_⟩
        ·rw[Qa h5,←Qa hcs];exact a0
        ·rw[Qa h5,←Qa hcs];exact a1
        ·rw[Qa h5,←Qa hcs];exact a2
        ·rw[Qa h5,←Qa hcs];exact a3)
       have l4:w4.cell? ⟨p,2,none⟩=some (.slice al X.l.length cl):=by rw[HBD4.out.cell 2];exact congrArg some HVL2.out
       have z3:w4.cell? ⟨b7,3,none⟩=some (.slice aq r.parts.length cq):=by rw[Qa HB74.out];try rfl
       clear hkA hovA hS4 hk4 hro HBD3 HOV3 HKB3 HB73 l3 HPQ HK3;go_wp2_with fail
       refine rgn (fun w'=>w'.cell? ⟨p,2,none⟩=some (.slice al X.l.length cl)∧w'.cell? ⟨b7,3,none⟩=some (.slice aq r.parts.length cq)) (X:=[]) ⟨Qc ((Qb _ _).drew) l4,Qc ((Qb _ _).drew) z3⟩ (fun hX hHeld=> ?_);refine tw 0 59 ?_;refine tw 1 60 ?_;refine tw 2 61 ?_;refine tw 3 62 ?_;refine tk 4 63 ?_;refine tw 5 64 ?_;refine tw 6 65 ?_;refine tw 7 66 ?_;refine tw 8 67 ?_;refine tk 9 68 ?_;refine ro 10 (fun K hK=> ?_);obtain⟨wd,hwd⟩:∃z,z=w4.drew:=⟨_,rfl⟩;have hkd:Kn w4 wd:=by rw[hwd];exact(Qb _ _).drew
       have HBDd:=Qh (HBD4.out.kn hkd);have HOVd:Hid (OwnI wd Bo v4 (X.own++[X.l.length])):=Qh (QC HOV4.out hkd (fun _ _ x=>x));have HKBd:Hid (KB B p A.bm w wd):=Qh (HKB4.out.trans (Kp.weak hkd));have HB7d:=Qh (hkd.blk HB74.out (fun x=>x));have HPQd:Hid (r.parts≠[]→∃gq,aq=some ⟨gq,0,none⟩∧(∃cs,wd.heap[gq]? =some (.cells cs TPa (0,0)))∧PaR wd gq r.parts):=by rw[hwd];exact HPQ4
       have hbsd:=Nat.le_trans hbs4 hkd.size;rw[←hwd] at hHeld⊢;clear hwd hkd l4 z3 HBD4 HOV4 HKB4 HB74 HPQ4;go_simp
       go_at_call 114
       refine(symbols_c r.parts HBDd.out HPQd.out HPA.out (by dsimp only;omega)).mono ?_;rintro e w5 ⟨vs,A5,rfl,hrow5,hbd5,hk5⟩;dsimp only at hrow5 hbd5;have HBD5:=Qh hbd5;have HRW5:=Qh (hrow5.base (B':=B) (by have:=hbB.1;have:=HKBd.out.size;omega));have HKB5:Hid (KB B p A.bm w w5):=Qh (HKBd.out.trans (by have h9:=hk5.kb HBDd.out;rwa[hak.bm] at h9));have HOV5:Hid (OwnI w5 Bo v4 (X.own++[X.l.length])):=Qh (row_off HOVd.out hk5.kp (HBDd.out.other (by decide) (by decide)));have hak5:=hak.trans hk5.ak;have hvo5:A5.vos=A'.vos:=by rw[hk5.rest];exact hvo
       have hbs5:=Nat.le_trans hbsd hk5.kp.size;have HVL5:Hid (A5.vl= .slice al X.l.length cl):=Qh (by rw[hk5.rest];exact HVL2.out);have hls5:A5.vls.length=X.l.length:=hbd5.pr.len;have HB75:=Qh (hk5.kp.blk HB7d.out (HBDd.out.other (by decide) (by decide) _ _ HB7d.out));refine hK.out _ _ (⟨by rw[hbd5.cell 2];exact congrArg some HVL5.out,Qi hk5.kp hHeld.2 (HBDd.out.other (by decide) (by decide) _ _ HB7d.out)⟩) (fun hHeld=> ?_);obtain⟨avs,cvs,hvs,_⟩:=hrow5.row (k:=2) (fun C hC=>by obtain⟨x,_,rfl⟩:=List.mem_map.1 hC;rfl);rw[List.length_map] at hvs;subst hvs;have hOne:(Value.slice avs (Yi X.places r.parts).2.length cvs).oneCell'=true:=rfl;obtain⟨ns,hns⟩:∃z,z=(Yi X.places r.parts).2.length:=⟨_,rfl⟩;rw[←hns] at HRW5 hOne⊢;clear hrow5 hbd5 hk5 HBDd HOVd HKBd HB7d HPQd hns;clear hK K
       try simp only[PP]
       refine tw 11 70 ?_;refine ro 12 (fun K hK=> ?_);go_simp;obtain⟨w6,hw6⟩:∃z,z=w5.alloc (.cells #[.int .i64 (n:Nat),.int .i64 (i:Nat),.slice avs ns cvs] TPr):=⟨_,rfl⟩;obtain⟨ge,hge⟩:∃z,z=w5.heap.size:=⟨_,rfl⟩;have GE:w6.heap[ge]? =some (.cells #[.int .i64 (n:Nat),.int .i64 (i:Nat),.slice avs ns cvs] TPr (0,0)):=by rw[hw6,hge];exact Qf _ _
       have hk6:Kn w5 w6:=by rw[hw6];exact(Qb _ _).alloc _
       have HBD6:=Qh (HBD5.out.kn hk6);have HRW6:=Qh (HRW5.out.kn hk6);have HKB6:Hid (KB B p A.bm w w6):=Qh (HKB5.out.trans (Kp.weak hk6));have HOV6:Hid (OwnI w6 Bo v4 (X.own++[X.l.length])):=Qh (QC HOV5.out hk6 (fun _ _ x=>x));have hbs6:=Nat.le_trans hbs5 hk6.size;have HB76:=Qh (hk6.blk HB75.out (fun x=>x));rw[←hw6,←hge];refine hK.out _ _ (⟨Qc hk6 hHeld.1,Qc hk6 hHeld.2⟩) (fun hHeld=> ?_);clear hw6 hge hk6 HBD5 HRW5 HKB5 HOV5;clear hK K
       try simp only[PP]
       refine ro 13 (fun K hK=> ?_);have hownO:OwnK w6 B TPr 3 (.slice al X.l.length cl) (List.zipWith prL X.l A5.vls):=by have h1:=HBD6.out.pr.row;rw[HVL5.out] at h1;exact h1
       have hzl:(List.zipWith prL X.l A5.vls).length=X.l.length:=by rw[List.length_zipWith,hls5,Nat.min_self]
       refine Qq w6 (by rfl) _ _ 97 (by rfl) B TPr ip (.agg #[.int .i64 0,.int .i64 0,.slice none 0 0]) 3 40 Tryz.underlying97 HIP.out.1 HIP.out.2.1 HIP.out.2.2.1 HIP.out.2.2.2 (by rfl) (by decide) (.slice al X.l.length cl) (List.zipWith prL X.l A5.vls) (by rfl) hownO ge 1 (by rfl) #[.int .i64 (n:Nat),.int .i64 (i:Nat),.slice avs ns cvs] TPr (0,0) GE (by rfl) (by simp[Value.oneCell']) (by rw[hzl];simp only[maxLen];omega) (by rw[hzl];omega) (by have:=hbB.1;have:=HKB6.out.size;omega) ?_;intro v1 w7 hown7 hka hat;obtain⟨av1,cv1,hv1,_⟩:=hown7.row (k:=3) (fun D hD=>by rcases List.mem_append.1 hD with h|h;obtain⟨i,hi,rfl⟩:=List.getElem_of_mem h;simp[prL];simp at h;rw[h];try rfl);obtain⟨nl1,hv1⟩:∃n,v1= .slice av1 n cv1:=⟨_,hv1⟩;have HV1:=Qh hv1;have HBP:=Qh (BdAt.putProd (P:=⟨n,i,(Yi X.places r.parts).2⟩) HBD6.out HRW6.out hown7 (by rw[HVL5.out];exact hka));have hS7:=QL hownO;have hb7':=Qw HBD6.out.blk hka hS7 (by decide);have l7:w7.cell? ⟨p,2,none⟩=some (.slice al X.l.length cl):=by rw[Qa hb7'];exact congrArg some HVL5.out
       have f7:=Qd hb7' 2;have HOV7:Hid (OwnI w7 Bo v4 (X.own++[X.l.length])):=Qh (Ql HOV6.out hka hS7 (by decide));have hbs7:=Nat.le_trans hbs6 hka.size;refine hK.out _ _ (⟨l7,Qi hka hHeld.2 (fun e=>by obtain⟨cur,h1⟩:=QH hownO e.symm;exact Qn HB76.out h1 (by decide))⟩) (fun hHeld=> ?_);clear hown7 hka hat hv1 hownO hzl hS7 GE HOV6 hbs6;clear hK K
       try simp only[PP]
       refine tw 14 73 ?_;refine tw 15 74 ?_;refine re 16 (fun K hK=> ?_);rw[HV1.out];go_simp;rw[←HV1.out];obtain⟨w9,hw9⟩:∃z,z=w7.setCell ⟨p,2,none⟩ v1:=⟨_,rfl⟩;have hk9:K1 p w7 w9:=by rw[hw9];exact Qg _ _
       rw[←hw9] at HBP⊢;have HBD9:=HBP;have HKB9:Hid (KB B p A.bm w w9):=Qh (HKB6.out.trans (by have h9:=HBP.out.2;rwa[hak5.bm] at h9));have HOV9:Hid (OwnI w9 Bo v4 (X.own++[X.l.length])):=Qh (Ql HOV7.out hk9 (QK hb7') (by decide));have hbs9:=Nat.le_trans hbs7 hk9.size;have HAK9:Hid (AKeep A {A5 with vl:=v1,vls:=A5.vls++[.slice avs ns cvs]} ∧({A5 with vl:=v1,vls:=A5.vls++[.slice avs ns cvs]} :SA).vos=A'.vos):=Qh ⟨⟨hak5.bm,hak5.fin,hak5.ve,hak5.vf,hak5.vw⟩,hvo5⟩;clear hw9 hk9 hHeld l7 f7 hb7';refine hK.out _ _ ?_;clear hK K;go_wp2_with fail
       go_roundw
       case rel=>exact⟨i+1,v4, {A5 with vl:=v1,vls:=A5.vls++[.slice avs ns cvs]},rfl,by go_num,by omega,Qh (by rw[HRT.out];exact HOV9.out),Qh (by rw[HRT.out];exact HBD9.out.1),HAK9.out.1,HAK9.out.2,HKB9.out,hbs9⟩
       case measure=>simp[intOf];omega
      ·have j1:¬(q.2:Int)≤r.level:=by omega
       have HRT:Hid (RK rs n S (i+1)=X):=Qh (by
        rw[HRS.out];unfold sruleS isOf;dsimp only;rw[HQQ.out,if_neg (by simp[hv])])
       clear HRS hs hv;go_wp2_with fail
       go_quiet (fail)
       go_wp2_with fail
       go_roundw
       case rel=>exact⟨i+1,v,A2,rfl,by go_num,by omega,Qh (by rw[HRT.out];exact HOV2.out),Qh (by rw[HRT.out];exact HBD2.out.kn ((Qb _ _).drewN _)),hak,hvo,HKB2.out.drewN _,hbs2⟩
       case measure=>simp[intOf];omega
     ·have i1:¬(r.sort:Int)=q.1:=by omega
      have HRT:Hid (RK rs n S (i+1)=X):=Qh (by
       rw[HRS.out];unfold sruleS isOf;dsimp only;rw[HQQ.out,if_neg (by simp[hs])])
      clear HRS hs;go_wp2_with fail
      go_quiet (fail)
      go_wp2_with fail
      go_roundw
      case rel=>exact⟨i+1,v,A2,rfl,by go_num,by omega,Qh (by rw[HRT.out];exact HOV2.out),Qh (by rw[HRT.out];exact HBD2.out.kn ((Qb _ _).drewN _)),hak,hvo,HKB2.out.drewN _,hbs2⟩
      case measure=>simp[intOf];omega
    ·obtain rfl:i=rs.length:=by omega
     rw[RK_all] at hov hbd hok1 hok2 hok3 hok4;obtain⟨R,hR⟩:∃z,z=rowS rs n S:=⟨_,rfl⟩;rw[←hR] at hov hbd hok1 hok2 hok3 hok4 HGN;have HO1:=Qh hok1;obtain⟨ao,co,hvo2,o3⟩:=hbd.out.ocell;dsimp only at o3 hvo2;rw[HOW.out] at o3 hvo2;have HVO2:=Qh hvo2;have fr3:=hbd.out.fr 3;have hvo4:=hbd.out.of_.len;dsimp only at hvo4;have HOWK:Hid (OwnK wr B TIs 1 (.slice ao n co) (A2.vos.map (fun x=>[x]))):=Qh (by
      have h1:=hbd.out.of_.row;rw[HVO2.out] at h1;exact h1)
     have HVL9:Hid ((A2.vos.map (fun x=>[x])).length=n):=Qh (by rw[List.length_map,hvo4,HOW.out]);clear hvo4;obtain⟨av,cv,rfl,_⟩:=hov.out.look;obtain⟨nr,hnr⟩:∃z,z=R.own.length:=⟨_,rfl⟩;have HVI:Hid (OwnI wr B (.slice av nr cv) R.own):=Qh (by
      have h9:=hov.out;rw[hnr];exact own_base h9 (by have:=hbB.1;omega))
     rw[←hnr];clear hnr;have hwB:B≤wr.heap.size:=by have:=hbB.1;have:=hkb.size;omega
     obtain⟨w2,hw2⟩:∃z,z=wr.alloc (.cells #[.slice av nr cv] TIs):=⟨_,rfl⟩;have hk2:Kn wr w2:=by rw[hw2];exact(Qb _ _).alloc _
     have HW2:=Qh hw2;have HK2:=Qh hk2;have HBL:Hid (w2.heap[wr.heap.size]? =some (.cells #[.slice av nr cv] TIs (0,0))):=Qh (by rw[hw2];exact Qf _ _);have hwB2:B≤w2.heap.size:=Nat.le_trans hwB hk2.size;clear hw2 hk2 hov hR hvo2;have HGO:=Qh HGN.out;go_wp2_with (at_builtin;go_must (rw[←HW2.out];refine QA w2 rfl (.tmp 80) (.tmp 82) 140 rfl B TIs io (.slice none 0 0) 1 24 Tryz.underlying140 HIO.out.1 HIO.out.2.1 HIO.out.2.2.1 HIO.out.2.2.2 (by rfl) (by decide) (.slice ao n co) (A2.vos.map (fun x=>[x])) rfl (HOWK.out.kn HK2.out) wr.heap.size 1 rfl #[.slice av nr cv] TIs (0,0) HBL.out rfl (by simp[Value.oneCell']) (by rw[HVL9.out];simp only[maxLen];omega) (by rw[HVL9.out];omega) hwB2 ?_;intro v1 w5 hown5 hka hat;have HX:=Qh (And.intro hown5 hka);have hb5:=Qw (HK2.out.blk hbd.out.blk (fun x=>x)) hka (QL (HOWK.out.kn HK2.out)) (by decide);have o5:w5.cell? ⟨p,3,none⟩=some (.slice ao n co):=by {rw[Qa hb5];exact congrArg some HVO2.out};have f5:=Qd hb5 3;obtain⟨av1,cv1,hv1,_⟩:=hown5.row (k:=1) (fun D hD=>by {rcases List.mem_append.1 hD with h|h; {obtain⟨x,_,rfl⟩:=List.mem_map.1 h;rfl}; {simp at h;rw[h];try rfl} });replace hv1:v1= .slice av1 (n+1) cv1:=by {rw[hv1,List.length_append,HVL9.out];try rfl};subst hv1;clear hown5 hka hat hb5))
     have HBP:=Qh (BdAt.putOwn (hbd.out.kn HK2.out) (QC HVI.out HK2.out (fun _ _ x=>x)) HX.out.1 (by rw[HVO2.out];exact HX.out.2));have hkb9:KB B p A.bm w _:=(hkb.trans (Kp.weak HK2.out)).trans (by have h9:=HBP.out.2;rwa[hak.bm] at h9);go_roundw
     case rel=>exact⟨n+1,_,_,by go_num,by omega,by dsimp only;omega,HGO,Qh ⟨⟨HO1.out.pl,HO1.out.pos,by have:=HO1.out.ll;dsimp only;omega,HO1.out.pr⟩,by simp[HOW.out]⟩,Qh HBP.out.1,⟨hak.bm,hak.fin,hak.ve,hak.vf,hak.vw⟩,hkb9⟩
     case measure=>simp[intOf];omega
  ·have hge:n=S.places.length:=by omega
   have hbf:YJ rs=S:=by
    rw[←hgo.out,show 501-n=(501-(n+1))+1 by omega];unfold buildGo;rw[if_neg hlt]
   have HBF:=Qh hbf;clear hbf hgp;go_wp2_with fail
   refine bodyPost_end (results_none rfl _ _ _) rfl ?_;exact⟨rfl,A',by rw[HBF.out];exact hbd.out,hak,hkb⟩
theorem MF_le{w:World}{B p ge gf gw:Nat}{S:SB}{A:SA}{E:List Bool}{F W:List Nat}(h:StAt w B p S A E F W ge gf gw):MF E F≤S.places.length*M41+S.places.length*2:=by
 have h1:=sum_lt F h.fz;have h2:=sum_lt (bN E) (bN_lt E);rw[h.fl] at h1;rw[bN_len,h.el] at h2;unfold MF;omega
theorem rounds1_c{B p ge gf gw:Nat}{S:SB}{A:SA}{E:List Bool}{F W:List Nat}{w:World}(h:StAt w B p S A E F W ge gf gw)(ok:SBok S):
  Calls Tryz.prog 66 #[.func (.func 67) #[ptr p] #[]] w fun e w'=>e= .returned (.tuple #[])∧∃E' F',Fin (fstF S.l) (E,F) (E',F')∧StAt w' B p S A E' F' W ge gf gw∧FSt ge gf w w':=by
 have H:=Qh h;have HOK:=Qh ok;have hm:=MF_le h;obtain⟨N,hN⟩:∃N,N=S.places.length*M41+S.places.length*2:=⟨_,rfl⟩;rw[←hN] at hm;have HN:=Qh hN;have HM:=Qh hm;clear h ok hN hm;go_enter Tryz.func66,Tryz.ntmps66;go_wp2_with fail
 go_loopg [3] (N+1) (fun f s3 wr=>∃(k:Nat) (E1:List Bool) (F1:List Nat),Hid ((E1,F1)=itF (fstF S.l) k (E,F)∧∀j,j<k→(fstF S.l (itF (fstF S.l) j (E,F))).2=true)∧Hid (N<MF E1 F1+f)∧Hid (StAt wr B p S A E1 F1 W ge gf gw)∧Hid (FSt ge gf w wr))
 case atStart=>exact⟨0,E,F,Qh ⟨rfl,fun j hj=>absurd hj (Nat.not_lt_zero _)⟩,Qh (by omega),H,Qh (Qb _ _)⟩
 case round=>
  clear HM;obtain⟨k,E1,F1,hit,hgh,hst,hkp⟩:=hrel;have HFC:=Qh (firsts_c hst.out HOK.out);have hmn:=firstP_mono S.l ⟨E1,F1,false⟩ (fun q hq=>by have h9:=(HOK.out.pr q hq).1;have:=hst.out.el;have:=hst.out.fl;dsimp only;omega);have HMN:=Qh hmn;clear hmn;obtain⟨r,hr⟩:∃r,r=YX S.l (E1,F1):=⟨_,rfl⟩;change Hid (MF E1 F1≤MF (YX S.l (E1,F1)).empty (YX S.l (E1,F1)).first∧((YX S.l (E1,F1)).more=true→false=true∨MF E1 F1<MF (YX S.l (E1,F1)).empty (YX S.l (E1,F1)).first)) at HMN;rw[←hr] at HFC HMN;have HFE:Hid (fstF S.l (itF (fstF S.l) k (E,F))=((r.empty,r.first),r.more)):=Qh (by rw[←hit.out.1];unfold fstF;rw[←hr]);clear hr;have hgk:=hgh.out;have hle:=MF_le hst.out;rw[←HN.out] at hle;have HGK:Hid (gk≠0):=Qh (by omega);clear hgk hle;cases hmr:r.more with
  |false=>
   rw[hmr] at HFC HFE;clear hmr HMN;go_wp2_with (first|(go_at_call 67;go_must (refine HFC.out.mono ?_;rintro e w2 ⟨rfl,hs2,hk2⟩;have HS2:=Qh hs2;have HKP2:=Qh (hkp.out.trans hk2);clear hs2 hk2 HFC)))
   refine bodyPost_end (results_none rfl _ _ _) rfl ?_;exact⟨rfl,r.empty,r.first,⟨k,by rw[HFE.out],by rw[HFE.out],hit.out.2⟩,HS2.out,HKP2.out⟩
  |true=>
   rw[hmr] at HFC HFE HMN;clear hmr;go_wp2_with (first|(go_at_call 67;go_must (refine HFC.out.mono ?_;rintro e w2 ⟨rfl,hs2,hk2⟩;have HS2:=Qh hs2;have HKP2:=Qh (hkp.out.trans hk2);clear hs2 hk2 HFC)))
   go_roundg (gk-1)
   case measure=>have:=HGK.out;omega
   case rel=>exact⟨k+1,r.empty,r.first,Qh ⟨by show _=(fstF S.l (itF (fstF S.l) k (E,F))).1;rw[HFE.out],fun j hj=>by
    rcases Nat.lt_succ_iff_lt_or_eq.1 hj with h|h
    ·exact hit.out.2 j h
    ·rw[h,HFE.out]⟩,Qh (by have h1:=hgh.out;have h2:=HMN.out.2 trivial;have h3:=HGK.out;rcases h2 with h2|h2;cases h2;omega),HS2,HKP2⟩
theorem sumW_le{w:World}{B p ge gf gw:Nat}{S:SB}{A:SA}{E:List Bool}{F W:List Nat}(h:StAt w B p S A E F W ge gf gw):W.sum≤S.places.length*M41:=by
 have h1:=sum_lt W h.wz;rw[h.wl] at h1;exact h1
theorem rounds2_c{B p ge gf gw:Nat}{S:SB}{A:SA}{E:List Bool}{F W:List Nat}{w:World}(h:StAt w B p S A E F W ge gf gw)(ok:SBok S):
  Calls Tryz.prog 66 #[.func (.func 69) #[ptr p] #[]] w fun e w'=>e= .returned (.tuple #[])∧∃W',Fin (flwF E F S.l) W W'∧StAt w' B p S A E F W' ge gf gw∧K1 gw w w':=by
 have H:=Qh h;have HOK:=Qh ok;have hm:=sumW_le h;obtain⟨N,hN⟩:∃N,N=S.places.length*M41:=⟨_,rfl⟩;rw[←hN] at hm;have HN:=Qh hN;have HM:=Qh hm;clear h ok hN hm;go_enter Tryz.func66,Tryz.ntmps66;go_wp2_with fail
 go_loopg [3] (N+1) (fun f s3 wr=>∃(k:Nat) (W1:List Nat),Hid (W1=itF (flwF E F S.l) k W∧∀j,j<k→(flwF E F S.l (itF (flwF E F S.l) j W)).2=true)∧Hid (N<W1.sum+f)∧Hid (StAt wr B p S A E F W1 ge gf gw)∧Hid (K1 gw w wr))
 case atStart=>exact⟨0,W,Qh ⟨rfl,fun j hj=>absurd hj (Nat.not_lt_zero _)⟩,Qh (by omega),H,Qh (Qb _ _)⟩
 case round=>
  clear HM;obtain⟨k,W1,hit,hgh,hst,hkp⟩:=hrel;have HFC:=Qh (follows_c hst.out HOK.out);have hmn:=followP_mono E F S.l ⟨W1,false⟩ (fun q hq y hy hyp=>by have h9:=(HOK.out.pr q hq).2.2.2 y hy;rw[if_pos hyp] at h9;have:=hst.out.wl;dsimp only;omega);change W1.sum≤(followP E F S.l W1).follow.sum∧((followP E F S.l W1).more=true→false=true∨W1.sum<(followP E F S.l W1).follow.sum)∧_ at hmn;have HMN:=Qh hmn;clear hmn;obtain⟨r,hr⟩:∃r,r=followP E F S.l W1:=⟨_,rfl⟩;rw[←hr] at HFC HMN;have HFE:Hid (flwF E F S.l (itF (flwF E F S.l) k W)=(r.follow,r.more)):=Qh (by rw[←hit.out.1];unfold flwF;rw[←hr]);clear hr;have hgk:=hgh.out;have hle:=sumW_le hst.out;rw[←HN.out] at hle;have HGK:Hid (gk≠0):=Qh (by omega);clear hgk hle;cases hmr:r.more with
  |false=>
   rw[hmr] at HFC HFE;clear hmr HMN;go_wp2_with (first|(go_at_call 69;go_must (refine HFC.out.mono ?_;rintro e w2 ⟨rfl,hs2,hk2⟩;have HS2:=Qh hs2;have HKP2:=Qh (hkp.out.trans hk2);clear hs2 hk2 HFC)))
   refine bodyPost_end (results_none rfl _ _ _) rfl ?_;exact⟨rfl,r.follow,⟨k,by rw[HFE.out],by rw[HFE.out],hit.out.2⟩,HS2.out,HKP2.out⟩
  |true=>
   rw[hmr] at HFC HFE HMN;clear hmr;go_wp2_with (first|(go_at_call 69;go_must (refine HFC.out.mono ?_;rintro e w2 ⟨rfl,hs2,hk2⟩;have HS2:=Qh hs2;have HKP2:=Qh (hkp.out.trans hk2);clear hs2 hk2 HFC)))
   go_roundg (gk-1)
   case measure=>have:=HGK.out;omega
   case rel=>exact⟨k+1,r.follow,Qh ⟨by show _=(flwF E F S.l (itF (flwF E F S.l) k W)).1;rw[HFE.out],fun j hj=>by
    rcases Nat.lt_succ_iff_lt_or_eq.1 hj with h|h
    ·exact hit.out.2 j h
    ·rw[h,HFE.out]⟩,Qh (by have h1:=hgh.out;have h2:=HMN.out.2.1 trivial;have h3:=HGK.out;rcases h2 with h2|h2;cases h2;omega),HS2,HKP2⟩
theorem info_pa:(Tryz.prog.info? TPa).map (fun i=>(i.zero,i.size,i.bytes))=some (some (.agg #[.int .i64 0,.int .i64 0,.int .i64 0,.bool false]),4,32):=by kernel_rfl
theorem info_ru:(Tryz.prog.info? TRu).map (fun i=>(i.zero,i.size,i.bytes))=some (some (.agg #[.int .i64 0,.string ByteArray.empty,.int .i64 0,.slice none 0 0]),4,56):=by kernel_rfl
theorem parts_step{R:RS}{ws:List GW}{ps:List GP}{k:Nat}(h:R.parts ws=match R.parts (ws.drop k) with|some r=>some (ps++r)|none=>none)(hk:k<ws.length):
  R.parts ws=match R.part ws[k] with|some x=>(match R.parts (ws.drop (k+1)) with|some r=>some ((ps++[x])++r)|none=>none)|none=>none:=by
 rw[h,List.drop_eq_getElem_cons hk,RS.parts];cases R.part ws[k] with
 |none=>rfl
 |some x=>
  dsimp only;cases R.parts (ws.drop (k+1)) with
  |none=>rfl
  |some r=>simp
theorem parts_end{R:RS}{ws:List GW}{ps:List GP}(h:R.parts ws=match R.parts (ws.drop ws.length) with|some r=>some (ps++r)|none=>none):R.parts ws=some ps:=by
 rw[h,List.drop_length];simp[RS.parts]
theorem linkGo_step{R:RS}{xs:List GL}{k:Nat}{rs:List GR}{br:List (Nat×Nat)}{Z:Option (List GR×List (Nat×Nat))}(h:R.linkGo (xs.drop k) rs br=Z)(hk:k<xs.length):
  Z=match R.ruleOf xs[k] with|some r=>R.linkGo (xs.drop (k+1)) (rs++[r]) (if xs[k].round=true then brPut br r.sort rs.length else br)|none=>none:=by
 rw[←h,List.drop_eq_getElem_cons hk];try rfl
theorem linkGo_end{R:RS}{xs:List GL}{rs:List GR}{br:List (Nat×Nat)}{Z:Option (List GR×List (Nat×Nat))}(h:R.linkGo (xs.drop xs.length) rs br=Z):Z=some (rs,br):=by
 rw[←h,List.drop_length];try rfl
theorem idxS_lt(ss:List ByteArray)(x:ByteArray): -1≤Lib.idxOfS ss x∧Lib.idxOfS ss x<ss.length:=by
 have gen:∀(zs:List ByteArray) (i:Nat),-1≤Lib.idxFromS zs x i∧Lib.idxFromS zs x i<(i+zs.length:Nat):=by
  intro zs;induction zs with
  |nil=>intro i;simp[Lib.idxFromS];omega
  |cons z zs ih=>
   intro i;unfold Lib.idxFromS;split
   ·simp;omega
   ·have:=ih (i+1);simp at this⊢;omega
 have:=gen ss 0;unfold Lib.idxOfS;simpa using this
def LinkPost(B p:Nat)(R:RS)(A0:RA)(w:World)(e:Ending)(w':World):Prop:=
 ∃k n:Int,e= .returned (.tuple #[.int .i64 k,.int .i64 n])∧Kp (fun i=>B≤i) w w'∧match R.linkGo R.lines [] [] with
 |some (rs,br)=>n=0∧∃A kb vps,LkAt w' B p R A kb rs vps br∧rs.length≤120∧A.sc=A0.sc
 |none=>n≠0
theorem glink_c{B p:Nat}{R:RS}{A0:RA}{w:World}(h:RdAt w B p R A0)(ok:RSok R)(hvr:A0.vr= .slice none 0 0):
  Calls Tryz.prog 111 #[ptr p] w (LinkPost B p R A0 w):=by
 have hmm:= @run_makeMap Tryz.prog;have hpl:=h.lt;have hpB:=h.pB.1;obtain⟨_,_,_,_,q4,_⟩:=h.cells;have f4:=h.fr 4;obtain⟨kb,hkb⟩:∃z,z=w.heap.size:=⟨_,rfl⟩;obtain⟨w1,hw1⟩:∃z,z=w.alloc (.map #[] 0):=⟨_,rfl⟩;have hk1:Kn w w1:=by rw[hw1];exact(Qb _ _).alloc _
 have hm1:MapA w1 TI kb (brM []):=by rw[hw1,hkb];exact MapA.new w _
 obtain⟨A,hA⟩:∃A:RA,A= {A0 with bb:= .map (some kb)} :=⟨_,rfl⟩;have HAS:Hid (A.sc=A0.sc):=Qh (by rw[hA]);obtain⟨w2,hw2⟩:∃z,z=w1.setCell ⟨p,4,none⟩ (.map (some kb)):=⟨_,rfl⟩;have hk2:K1 p w1 w2:=by rw[hw2];exact Qg _ _
 have hr1:=h.kn hk1;have hlk:LkAt w2 B p R A kb [] [] []:=by
  refine⟨by rw[hw2,hA];exact hr1.setBb _,by rw[hA],hm1.kp hk2 (by omega),⟨?_,rfl,fun i a b=>by simp at a⟩,?_⟩
  ·rw[hA];show OwnK w2 B TRu 4 A0.vr _;rw[hvr];exact OwnK.nil
  ·rw[hA];refine⟨by omega,?_,?_,?_⟩
   ·have:=h.names.lt;show kb≠A0.bn;omega
   ·have:=h.cons.lt;show kb≠A0.bc;omega
   ·have:=h.rounds.lt;show kb≠A0.br;omega
 have hkw2:Kp (fun i=>B≤i) w w2:=(Yj hk1).trans (hk2.mono (fun i hi e=>by omega));have HLK:=Qh hlk;have HOK:=Qh ok;have HKW:=Qh hkw2;have HW:=Qh (And.intro hw2 (And.intro hw1 hkb));obtain⟨al,cl,hvl,_⟩:=lines_cells hlk.rd.lines hlk.rd.wl;have hll:=ok.lines;have HVL:=Qh hvl;obtain⟨_,_,_,_,_,_,_,_,_,q9⟩:=hlk.rd.cells;rw[hvl] at q9;obtain⟨ip,hi,hz0,hz1,hz2⟩:=info_parts info_pa;have HIP:=Qh (And.intro hi (And.intro hz0 (And.intro hz1 hz2)));obtain⟨ir,hi,hz0,hz1,hz2⟩:=info_parts info_ru;have HIR:=Qh (And.intro hi (And.intro hz0 (And.intro hz1 hz2)));clear h ok hvr hA hw1 hm1 hw2 hk2 hr1 hlk hkw2 hvl hi hz0 hz1 hz2 hk1 hkb;go_enter Tryz.func111,Tryz.ntmps111;go_upto_region 2 with fail
 rw[←HW.out.2.2,←World.setCell_alloc_past _ _ _ _ hpl,←HW.out.2.1,←HW.out.1];clear q4 f4;go_wp2_with fail
 go_loopw [22] (fun s22 wr=>∃(k:Nat) (v:Value) (rs:List GR) (vps:List Value) (br:List (Nat×Nat)),s22= .int .i64 k∧k≤R.lines.length∧Hid (R.linkGo (R.lines.drop k) rs br=R.linkGo R.lines [] [])∧Hid (rs.length=k)∧Hid (LkAt wr B p R {A with vr:=v} kb rs vps br)∧Hid (Kp (fun i=>B≤i) w wr)) (fun s22 _=>R.lines.length-(intOf s22).toNat)
 case atStart=>exact⟨0,A.vr,[],[],[],rfl,Nat.zero_le _,Qh rfl,Qh rfl,HLK,HKW⟩
 case round=>
  clear HLK HKW q9 hpl;obtain⟨k,v,rs,vps,br,rfl,hk,hgo,hrl,hlk,hkw⟩:=hrel;by_cases hlt:k<R.lines.length
  ·have hst:=linkGo_step hgo.out hlt;have hwl:=hlk.out.rd.wl;obtain⟨a2,c2,hve,hcs⟩:=lines_cells hlk.out.rd.lines hwl;change A.vn=_ at hve;rw[HVL.out] at hve;injection hve with e1 e2 e3;subst e1;subst e3;clear e2;have hkv:k<A.vws.length:=by have:A.vws.length=R.lines.length:=hwl;omega
   obtain⟨g,rfl,c0,c1,c2',c3,c4,c5⟩:=hcs k hlt hkv;have hwrd:=hlk.out.rd.words k hkv hlt;have hwb:=HOK.out.words _ (List.getElem_mem hlt);obtain⟨aw,cw,hvw,_⟩:=words_cells hwrd;obtain⟨x,hx⟩:∃x,x=R.lines[k]:=⟨_,rfl⟩;change OwnK wr B TWd 4 (A.vws[k]'hkv) _ at hwrd;change (A.vws[k]'hkv)=_ at hvw;change wr.cell? _=some (A.vws[k]'hkv) at c4;rw[hvw] at c4 hwrd;rw[←hx] at c0 c1 c2' c3 c4 c5 hwrd hst hwb;have HST:=Qh hst;have HWR:=Qh hwrd;have HX:=Qh hx;have hxw:=hwb.1;have hx2:=hwb.2.1;have hx3:=hwb.2.2;obtain⟨os,oc,hv2,_⟩:=hlk.out.rd.sorts.look;obtain⟨_,_,q2,_⟩:=hlk.out.rd.cells;change A.vs=_ at hv2;change wr.cell? _=some A.vs at q2;rw[hv2] at q2;have hos:=hlk.out.rd.sorts;change OwnT wr B A.vs R.sorts at hos;rw[hv2] at hos;obtain⟨b5,hb5⟩:∃z,z=wr.heap.size:=⟨_,rfl⟩;obtain⟨w3,hw3⟩:∃z,z=wr.alloc (.cells #[.int .i64 x.number,.string x.sort,.string x.cons,.int .i64 x.level,.slice aw x.words.length cw,.bool x.round] TLn):=⟨_,rfl⟩;have hk3:Kn wr w3:=by rw[hw3];exact(Qb _ _).alloc _
   have hbb:w3.heap[b5]? =some (.cells #[.int .i64 x.number,.string x.sort,.string x.cons,.int .i64 x.level,.slice aw x.words.length cw,.bool x.round] TLn (0,0)):=by rw[hw3,hb5];exact Qf _ _
   have HW3:=Qh (And.intro hw3 hb5);have r2:=Qc hk3 q2;have d1:w3.cell? ⟨b5,1,none⟩=some (.string x.sort):=by rw[Qa hbb];try rfl
   have HIS:=Qh (fun W (hk:Kn w3 W)=>index_c (w:=W) (QC (QC hos hk3 (fun _ _ x=>x)) hk (fun _ _ x=>x)) x.sort (by have:=HOK.out.sorts;omega));have hix2:=idxS_lt R.sorts x.sort;have hsl:=HOK.out.sorts;have hRO:Hid (R.ruleOf x=if Lib.idxOfS R.sorts x.sort<0 then none else match R.parts x.words with|some ps=>some ⟨(Lib.idxOfS R.sorts x.sort).toNat,x.cons,x.level,ps⟩|none=>none):=Qh rfl;obtain⟨ix,hix⟩:∃z,z=Lib.idxOfS R.sorts x.sort:=⟨_,rfl⟩;rw[←hix] at HIS hix2 hRO;have HBB:=Qh hbb;have HK3:=Qh hk3;have hb5l:=Qj hbb;clear hst hwrd hx hvw hcs hwl hwb hos hw3 hb5 hk3 hbb hix q2 hv2;go_upto_region 5 with fail
   rw[←HW3.out.2,←HW3.out.1];clear c0 c1 c2' c3 c4 c5;refine wp_region_held_drew (S:=fun w'=>w'.cell? ⟨p,2,none⟩=some (.slice os R.sorts.length oc)∧w'.cell? ⟨b5,1,none⟩=some (.string x.sort)) (by kernel_rfl) ⟨Qc ((Qb _ _).drew) r2,Qc ((Qb _ _).drew) d1⟩ (fun hHeld=> ?_);obtain⟨wd,hwd⟩:∃zz,zz=w3.drew:=⟨_,rfl⟩;have hkd:Kn w3 wd:=by rw[hwd];exact(Qb _ _).drew
   rw[←hwd] at hHeld⊢;clear hwd;refine TW 0 26 ?_;refine TW 1 27 ?_;refine TW 2 28 ?_;refine TW 3 29 ?_;refine TH 4 30 ?_;refine TW 5 31 ?_;refine TH 6 32 ?_;refine RH 7 (fun K hK=> ?_);go_simp
   go_at_call 159
   refine(HIS.out wd hkd).mono ?_;rintro e9 w9 ⟨rfl,hw9⟩;rw[hw9];clear hw9 w9;dsimp only;refine hK.out _ _ hHeld (fun hHeld=> ?_);clear hK K
   try simp only[PP]
   refine TW 8 6 ?_;refine RD ?_;clear hHeld;have hkd1:=HK3.out.trans hkd;have HBd:=Qh (hkd.blk HBB.out (fun x=>x));have HLd:=Qh (hlk.out.kn hkd1);have HKd:=Qh (hkw.out.trans (Yj hkd1));have HWd:=Qh (HWR.out.kn hkd1);have e0:wd.cell? ⟨b5,0,none⟩=some (.int .i64 x.number):=by rw[Qa HBd.out];try rfl
   have e2:wd.cell? ⟨b5,2,none⟩=some (.string x.cons):=by rw[Qa HBd.out];try rfl
   have e3:wd.cell? ⟨b5,3,none⟩=some (.int .i64 x.level):=by rw[Qa HBd.out];try rfl
   have e4:wd.cell? ⟨b5,4,none⟩=some (.slice aw x.words.length cw):=by rw[Qa HBd.out];try rfl
   have e5:wd.cell? ⟨b5,5,none⟩=some (.bool x.round):=by rw[Qa HBd.out];try rfl
   have hb5d:=Qj HBd.out;clear r2 d1 hkd HK3 HBB hlk HWR;by_cases hneg:ix<0
   ·have hF:Hid (R.linkGo R.lines [] []=none):=Qh (by rw[HST.out,hRO.out,if_pos hneg]);go_wp2_with fail
    go_ret2
    refine⟨_,9,rfl,HKd.out,?_⟩;rw[hF.out];exact(by decide:(9:Int)≠0)
   ·have HRO:Hid (R.ruleOf x=match R.parts x.words with|some ps=>some ⟨ix.toNat,x.cons,x.level,ps⟩|none=>none):=Qh (by rw[hRO.out,if_neg hneg]);obtain⟨sn,hsn⟩:∃sn:Nat,(sn:Int)=ix:=⟨ix.toNat,by omega⟩;have hsn2:ix.toNat=sn:=by omega
    rw[hsn2] at HRO;clear hsn2;subst hsn;have hsn40:sn<R.sorts.length:=by omega
    clear hneg hix2 hRO;obtain⟨b7,hb7⟩:∃z,z=wd.heap.size:=⟨_,rfl⟩;obtain⟨w4,hw4⟩:∃z,z=wd.alloc (.cells #[.int .i64 (sn:Nat),.string x.cons,.int .i64 x.level,.slice none 0 0] TRu):=⟨_,rfl⟩;have hk4:Kn wd w4:=by rw[hw4];exact(Qb _ _).alloc _
    have HB7:Hid (w4.heap[b7]? =some (.cells #[.int .i64 (sn:Nat),.string x.cons,.int .i64 x.level,.slice none 0 0] TRu (0,0))):=Qh (by rw[hw4,hb7];exact Qf _ _);have HW4:=Qh (And.intro hw4 hb7);have g4:=Qc hk4 e4;have HK4:=Qh hk4;have hb57:b5<b7:=by omega
    have HSZ4:Hid (wd.heap.size≤w4.heap.size∧w4.heap.size=b7+1):=Qh ⟨hk4.size,by rw[HW4.out.1,size_alloc',HW4.out.2]⟩;have hwdl:wd.heap.size≤b7:=by omega
    clear hw4 hb7 e0 hk4;go_upto_region 9 with fail
    rw[←HW4.out.1,←HW4.out.2];clear e2 e3 e4 e5;go_wp2_with fail
    obtain⟨wo,hwo⟩:∃z,z=wr:=⟨_,rfl⟩;subst hwo;go_loopw [47] (fun s47 wi=>∃(j:Nat) (ps:List GP) (vp:Value),s47= .int .i64 j∧j≤x.words.length∧Hid (R.parts x.words=match R.parts (x.words.drop j) with|some r=>some (ps++r)|none=>none)∧Hid (ps.length=j)∧Hid (OwnK wi w4.heap.size TPa 4 vp (ps.map paL))∧Hid (wi.heap[b7]? =some (.cells #[.int .i64 (sn:Nat),.string x.cons,.int .i64 x.level,vp] TRu (0,0)))∧Kn wd wi) (fun s47 _=>x.words.length-(intOf s47).toNat)
    case atStart=>exact⟨0,[],_,rfl,Nat.zero_le _,Qh (by rw[List.drop_zero];cases R.parts x.words<;>rfl),Qh rfl,Qh OwnK.nil,HB7,HK4.out⟩
    case round=>
     clear HB7 g4;obtain⟨j,ps,vp,rfl,hj,hpa,hpl,hvp,hb7,hkn⟩:=hrel;have HKi:=Qh (HKd.out.trans (Yj hkn));have HB5i:=Qh (hkn.blk HBd.out (fun x=>x));have hb7l:=Qj hb7.out;have hwi:=hkn.size;by_cases hlj:j<x.words.length
     ·obtain⟨a3,c3,hve3,hcs3⟩:=words_cells (HWd.out.kn hkn);injection hve3 with e1 e2 e3;subst e1;subst e3;clear e2;obtain⟨gw,rfl,k0,k1,k2,k3⟩:=hcs3 j hlj;have hps:=parts_step hpa.out hlj;obtain⟨y,hy⟩:∃y,y=x.words[j]:=⟨_,rfl⟩;rw[←hy] at k0 k1 k2 k3 hps;have HPST:=Qh hps;obtain⟨w6,hw6⟩:∃z,z=wr.alloc (.cells #[.string y.lit,.string y.name,.int .i64 y.level,.bool y.sort] TWd):=⟨_,rfl⟩;have hk6:Kn wr w6:=by rw[hw6];exact(Qb _ _).alloc _
      obtain⟨b9,hb9⟩:∃z,z=wr.heap.size:=⟨_,rfl⟩;have hb9b:w6.heap[b9]? =some (.cells #[.string y.lit,.string y.name,.int .i64 y.level,.bool y.sort] TWd (0,0)):=by rw[hw6,hb9];exact Qf _ _
      have m0:w6.cell? ⟨b9,0,none⟩=some (.string y.lit):=by rw[Qa hb9b];try rfl
      have m1:w6.cell? ⟨b9,1,none⟩=some (.string y.name):=by rw[Qa hb9b];try rfl
      have m2:w6.cell? ⟨b9,2,none⟩=some (.int .i64 y.level):=by rw[Qa hb9b];try rfl
      have m3:w6.cell? ⟨b9,3,none⟩=some (.bool y.sort):=by rw[Qa hb9b];try rfl
      have HW6:=Qh (And.intro hw6 hb9);have hkn6:=hkn.trans hk6;have HPA:=Qh (part2_c y (HLd.out.rd.kn hkn6) HOK.out);obtain⟨av,cv,hvp2,_⟩:=hvp.out.row (fun C hC=>by obtain⟨z,_,rfl⟩:=List.mem_map.1 hC;rfl);rw[List.length_map] at hvp2;subst hvp2;have HB76:=Qh (hk6.blk hb7.out (fun x=>x));have HVP6:=Qh (hvp.out.kn hk6);have hb96:=Qj hb9b;clear hps hy hcs3 hw6 hb9 hb9b;go_upto_region 12 with fail
      rw[←HW6.out.2,←HW6.out.1];clear k0 k1 k2 k3;go_wp2_with fail
      refine HPA.out.mono ?_;rintro e9 w7 ⟨hk7,q,okk,rfl,hmt⟩;have hkn7:=hkn6.trans hk7;obtain⟨w8,hw8⟩:∃z,z=w7.alloc (.cells #[.int .i64 q.cls,.int .i64 q.sort,.int .i64 q.level,.bool q.fixed] TPa):=⟨_,rfl⟩;have hk8:Kn w7 w8:=by rw[hw8];exact(Qb _ _).alloc _
      obtain⟨b10,hb10⟩:∃z,z=w7.heap.size:=⟨_,rfl⟩;have hbw:w8.heap[b10]? =some (.cells #[.int .i64 q.cls,.int .i64 q.sort,.int .i64 q.level,.bool q.fixed] TPa (0,0)):=by rw[hw8,hb10];exact Qf _ _
      have HW8:=Qh (And.intro hw8 hb10);have hkn8:=hkn7.trans hk8;have v0:w8.cell? ⟨b10,0,none⟩=some (.int .i64 q.cls):=by rw[Qa hbw];try rfl
      have v1:w8.cell? ⟨b10,1,none⟩=some (.int .i64 q.sort):=by rw[Qa hbw];try rfl
      have v2:w8.cell? ⟨b10,2,none⟩=some (.int .i64 q.level):=by rw[Qa hbw];try rfl
      have v3:w8.cell? ⟨b10,3,none⟩=some (.bool q.fixed):=by rw[Qa hbw];try rfl
      have hbl8:=Qj hbw;have HB78:=Qh ((hk7.trans hk8).blk HB76.out (fun x=>x));have HV8:=Qh ((HVP6.out.kn hk7).kn hk8);have HB58:=Qh (((hk6.trans hk7).trans hk8).blk HB5i.out (fun x=>x));have r3:w8.cell? ⟨b7,3,none⟩=some (.slice av ps.length cv):=by rw[Qa HB78.out];try rfl
      have o0:w8.cell? ⟨b5,0,none⟩=some (.int .i64 x.number):=by rw[Qa HB58.out];try rfl
      have hb78:=Qj HB78.out;have HK8:=Qh (HKd.out.trans (Yj hkn8));clear hw8 hb10 hk8 hbw m0 m1 m2 m3 hk6;cases hpf2:R.part y with
      |none=>
       rw[hpf2] at hmt;dsimp only at hmt;subst hmt;have hF5:Hid (R.linkGo R.lines [] []=none):=Qh (by rw[HST.out,HRO.out,HPST.out,hpf2]);clear hpf2;go_upto_region 13 with fail
       rw[←HW8.out.1,←HW8.out.2];go_wp2_with fail
       go_ret2
       refine⟨_,9,rfl,HK8.out,?_⟩;rw[hF5.out];exact(by decide:(9:Int)≠0)
      |some q'=>
       rw[hpf2] at hmt;dsimp only at hmt;obtain⟨rfl,rfl⟩:=hmt;have HPF6:Hid (R.parts x.words=match R.parts (x.words.drop (j+1)) with|some r=>some ((ps++[q])++r)|none=>none):=Qh (by rw[HPST.out,hpf2]);have HKL:Hid (Kn w8 (w8.alloc (.cells #[.int .i64 q.cls,.int .i64 q.sort,.int .i64 q.level,.bool q.fixed] TPa))):=Qh ((Qb _ _).alloc _);have HV9:=Qh (HV8.out.kn HKL.out);have HBL:Hid ((w8.alloc (.cells #[.int .i64 q.cls,.int .i64 q.sort,.int .i64 q.level,.bool q.fixed] TPa)).heap[w8.heap.size]? =some (.cells #[.int .i64 q.cls,.int .i64 q.sort,.int .i64 q.level,.bool q.fixed] TPa (0,0))):=Qh (Qf _ _);have HB79:=Qh (HKL.out.blk HB78.out (fun x=>x));have hpsl:=hpl.out;have HSZ8:Hid (w4.heap.size≤w8.heap.size):=Qh (by have h2:=HSZ4.out.2;have h4:=hb78;omega);have HPSL:=Qh hpsl;clear hpf2 hpsl;go_upto_region 13 with fail
       rw[←HW8.out.1,←HW8.out.2];go_upto_region 16 with(first|(at_builtin;go_must (refine QA _ rfl (.tmp 62) (.tmp 64) 208 rfl w4.heap.size TPa ip (.agg #[.int .i64 0,.int .i64 0,.int .i64 0,.bool false]) 4 32 Tryz.underlying208 HIP.out.1 HIP.out.2.1 HIP.out.2.2.1 HIP.out.2.2.2 (by rfl) (by decide) (.slice av ps.length cv) (ps.map paL) rfl HV9.out w8.heap.size 1 rfl #[.int .i64 q.cls,.int .i64 q.sort,.int .i64 q.level,.bool q.fixed] TPa (0,0) HBL.out rfl (by simp[Value.oneCell']) (by rw[List.length_map,HPSL.out];simp only[maxLen];omega) (by rw[List.length_map,HPSL.out];omega) (by have h1:=HSZ8.out;rw[size_alloc'];omega) ?_;intro v1 w9 hown hka hat;obtain⟨av1,cv1,hv1,_⟩:=hown.row (k:=4) (fun D hD=>by simp only[List.mem_append,List.mem_map,List.mem_singleton] at hD;rcases hD with⟨y,_,rfl⟩|rfl<;>rfl);obtain⟨nl1,hv1⟩:∃n,v1= .slice av1 n cv1:=⟨_,hv1⟩;subst hv1;have HKA:=Qh (hka.mono (T:=fun i=>w4.heap.size≤i) (fun i hi e=>(HV9.out.lt i e.symm).1));have HOW:=Qh hown;have hb79:=Qw HB79.out hka (QL HV9.out) (by decide);have r49:w9.cell? ⟨b7,3,none⟩=some (.slice av ps.length cv):=(by rw[Qa hb79];try rfl);have f49:=Qd hb79 3;have HBX:=Qh hb79;clear hb79 hown hka hat)))
       obtain⟨vN,hvN⟩:∃z,z=Value.slice av1 (ps.length+1) cv1:=⟨_,rfl⟩;obtain⟨w10,hw10⟩:∃z,z=w9.setCell ⟨b7,3,none⟩ vN:=⟨_,rfl⟩;rw[←hvN,←hw10];have HO2:Hid (OwnK w9 w4.heap.size TPa 4 vN ((ps++[q]).map paL)):=Qh (by
        have h1:=HOW.out;rw[List.length_append,List.length_map,List.length_singleton,←hvN] at h1;rw[List.map_append];exact h1)
       have hk9:K1 b7 w9 w10:=by rw[hw10];exact Qg _ _
       have hkn10:Kn wd w10:=((hkn8.trans HKL.out).trans' HKA.out (fun i hi e=>by have h2:=HSZ4.out.1;omega)).trans' hk9 (fun i hi e=>by omega);have HB10:=Qh (Qk HBX.out 3 vN);rw[←hw10] at HB10;have HO10:=Qh (HO2.out.kp hk9 (fun g hg e=>by subst e;obtain⟨cur,h1⟩:=QH HO2.out hg;exact Qn HBX.out h1 (by decide)));clear hvN hw10 HOW HKA;go_wp2_with fail
       go_roundw
       case rel=>exact⟨j+1,ps++[q],vN,by go_num,by omega,HPF6,Qh (by simp[hpl.out]),HO10,HB10,hkn10⟩
       case measure=>simp[intOf];omega
     ·obtain rfl:j=x.words.length:=by omega
      have hpe:=parts_end hpa.out;obtain⟨ap,cp,hvp2,_⟩:=hvp.out.row (fun C hC=>by obtain⟨z,_,rfl⟩:=List.mem_map.1 hC;rfl);rw[List.length_map] at hvp2;subst hvp2;have HROS:Hid (R.ruleOf x=some ⟨sn,x.cons,x.level,ps⟩):=Qh (by rw[HRO.out,hpe]);have HLi:=Qh (HLd.out.kn hkn);have o5:wr.cell? ⟨b5,5,none⟩=some (.bool x.round):=by rw[Qa HB5i.out];try rfl
      have HPB:=Qh (OwnK.base (B':=B) hvp.out (by have h1:=HLd.out.rd.pB.1;have h2:=HLd.out.rd.lt;have h3:=HSZ4.out.1;omega));obtain⟨og,ocg,hvg,_⟩:=HLi.out.ru.row.row (fun C hC=>by obtain⟨i,hi,rfl⟩:=List.getElem_of_mem hC;simp[ruL]);rw[List.length_zipWith,HLi.out.ru.len,Nat.min_self] at hvg;change v=_ at hvg;have HVG:=Qh hvg;have hrk:=hrl.out;have HNB7:Hid (∀g,v.ownBlock=some g→g≠b7):=Qh (fun g hg=>by have h1:=(HLd.out.ru.row.lt g hg).2;omega);have HNP7:Hid (b7≠p):=Qh (fun e=>by have h1:=HLd.out.rd.lt;omega);have HRSL:=Qh hrk;clear hpe hvg hrk;cases hro:x.round with
      |true=>
       rw[hro] at o5;have hF:Hid (R.linkGo (R.lines.drop (k+1)) (rs++[⟨sn,x.cons,x.level,ps⟩]) (brPut br sn rs.length)=R.linkGo R.lines [] []):=Qh (by rw[HST.out,HROS.out];simp only[hro];rfl);obtain⟨_,_,_,q3,q4,_⟩:=HLi.out.rd.cells;change wr.cell? _=some v at q3;rw[HVG.out] at q3;have hbbk:=HLi.out.bb;rw[hbbk] at q4;clear hro hbbk;go_upto_region 18 with fail
       refine wp_region_held_drew (S:=fun w'=>w'.cell? ⟨p,4,none⟩=some (.map (some kb))∧w'.cell? ⟨p,3,none⟩=some (.slice og rs.length ocg)) (by kernel_rfl) ⟨Qc ((Qb _ _).drew) q4,Qc ((Qb _ _).drew) q3⟩ (fun hHeld=> ?_);obtain⟨wp,hwp⟩:∃zz,zz=wr.drew:=⟨_,rfl⟩;have hkp:Kn wr wp:=by rw[hwp];exact(Qb _ _).drew
       rw[←hwp] at hHeld⊢;clear hwp;refine TW 0 70 ?_;refine TW 1 71 ?_;refine TW 2 72 ?_;refine TW 3 73 ?_;refine TH 4 74 ?_;refine TW 5 75 ?_;refine TW 6 76 ?_;refine TW 7 77 ?_;refine TW 8 78 ?_;refine TW 9 79 ?_;refine TH 10 80 ?_;refine TW 11 81 ?_;refine RH 12 (fun K hK=> ?_);refine step_putbr (by rfl) (.tmp 74) (.tmp 75) (.tmp 81) (by rfl) (by rfl) (HLi.out.brk.kn hkp) sn rs.length (by omega) (by rfl) (by rfl) ?_;intro w11 hm11 hk11;have HL11:=Qh ((HLi.out.kn hkp).putBr hm11 hk11);have hSm:=Zc (HLi.out.brk.kn hkp);have HB11:=Qh (Yv (hkp.blk hb7.out (fun x=>x)) hk11 hSm);have HP11:=Qh (Qy (HPB.out.kn hkp) hk11 hSm);have KW11:=(HKi.out.trans (Yj hkp)).trans (hk11.mono (fun i hi e=>by have h1:=HLi.out.ne.1;omega));have hX1:w11.cell? ⟨p,4,none⟩=some (.map (some kb)):=by obtain⟨_,_,_,_,q,_⟩:=HL11.out.rd.cells;rw[HL11.out.bb] at q;exact q
       have hX2:w11.cell? ⟨p,3,none⟩=some (.slice og rs.length ocg):=by obtain⟨_,_,_,q,_⟩:=HL11.out.rd.cells;change w11.cell? _=some v at q;rw[HVG.out] at q;exact q
       clear hm11 hk11 hSm;dsimp only;refine hK.out _ _ ⟨hX1,hX2⟩ (fun hHeld=> ?_);clear hK K hX1 hX2;refine RD ?_;clear hHeld q3 q4;have n0:w11.cell? ⟨b7,0,none⟩=some (.int .i64 (sn:Nat)):=by rw[Qa HB11.out];try rfl
       have n1:w11.cell? ⟨b7,1,none⟩=some (.string x.cons):=by rw[Qa HB11.out];try rfl
       have n2:w11.cell? ⟨b7,2,none⟩=some (.int .i64 x.level):=by rw[Qa HB11.out];try rfl
       have n3:w11.cell? ⟨b7,3,none⟩=some (.slice ap ps.length cp):=by rw[Qa HB11.out];try rfl
       go_upto_region 19 with fail
       refine rgn (fun w'=>w'.cell? ⟨p,3,none⟩=some (.slice og rs.length ocg)∧w'.cell? ⟨b7,0,none⟩=some (.int .i64 (sn:Nat))∧w'.cell? ⟨b7,1,none⟩=some (.string x.cons)∧w'.cell? ⟨b7,2,none⟩=some (.int .i64 x.level)∧w'.cell? ⟨b7,3,none⟩=some (.slice ap ps.length cp)) (X:=[]) ⟨Qc ((Qb _ _).drew) ((Qa HL11.out.blk 3).trans (congrArg some HVG.out)),Qc ((Qb _ _).drew) n0,Qc ((Qb _ _).drew) n1,Qc ((Qb _ _).drew) n2,Qc ((Qb _ _).drew) n3⟩ (fun hX hHeld=> ?_);refine tw 0 82 ?_;refine tw 1 83 ?_;refine tw 2 84 ?_;refine tw 3 85 ?_;refine tw 4 86 ?_;refine tk 5 87 ?_;refine tk 6 88 ?_;refine ro 7 (fun K hK=> ?_);obtain⟨wd,hwd⟩:∃zz,zz=w11.drew:=⟨_,rfl⟩;have KN0:Kn w11 wd:=by rw[hwd];exact(Qb _ _).drew
       have KW0:=KW11.trans (Kp.weak (S:=fun k=>B≤k) KN0);have RH0:=Qh (HL11.out.kn KN0);rw[←hwd] at hHeld⊢;clear hwd;go_simp;obtain⟨y1,hw1⟩:∃zz,zz=wd.alloc (.cells #[.int .i64 (sn:Nat),.string x.cons,.int .i64 x.level,.slice ap ps.length cp] TRu):=⟨_,rfl⟩;have hk1:Kn wd y1:=by rw[hw1];exact(Qb _ _).alloc _
       obtain⟨ge,hge⟩:∃zz,zz=wd.heap.size:=⟨_,rfl⟩;have GE:y1.heap[ge]? =some (.cells #[.int .i64 (sn:Nat),.string x.cons,.int .i64 x.level,.slice ap ps.length cp] TRu (0,0)):=by rw[hw1,hge];exact Qf _ _
       have RH1:=Qh (RH0.out.kn hk1);have KW1:=KW0.trans (Kp.weak hk1);have KN1:=KN0.trans hk1;rw[←hw1,←hge];refine hK.out _ _ (⟨Qc hk1 hHeld.1,Qc hk1 hHeld.2.1,Qc hk1 hHeld.2.2.1,Qc hk1 hHeld.2.2.2.1,Qc hk1 hHeld.2.2.2.2⟩) (fun hHeld=> ?_);clear hw1 hge hk1;clear hK K
       try simp only[PP]
       refine ro 8 (fun K hK=> ?_);have hownO:OwnK y1 B TRu 4 (.slice og rs.length ocg) (List.zipWith ruL rs vps):=by have h1:=RH1.out.ru.row;rw[HVG.out] at h1;exact h1
       refine Qq y1 (by rfl) _ _ 108 (by rfl) B TRu ir (.agg #[.int .i64 0,.string ByteArray.empty,.int .i64 0,.slice none 0 0]) 4 56 Tryz.underlying108 HIR.out.1 HIR.out.2.1 HIR.out.2.2.1 HIR.out.2.2.2 (by rfl) (by decide) (.slice og rs.length ocg) (List.zipWith ruL rs vps) (by rfl) hownO ge 1 (by rfl) #[.int .i64 (sn:Nat),.string x.cons,.int .i64 x.level,.slice ap ps.length cp] TRu (0,0) GE (by rfl) (by simp[Value.oneCell']) (by rw[List.length_zipWith,RH1.out.ru.len,Nat.min_self,HRSL.out];simp only[maxLen];omega) (by rw[List.length_zipWith,RH1.out.ru.len,Nat.min_self,HRSL.out];omega) (by have:=RH1.out.pB.1;have:=RH1.out.lt;omega) ?_;intro v1 y2 hown hka hat;have hke:Kp (fun k=>B≤k) y1 y2:=hka.mono (fun i hi e=>(hownO.lt i e.symm).1);have KX:=KW1.trans hke;obtain⟨av1,cv1,hv1,_⟩:=hown.row (k:=4) (fun D hD=>by simp only[List.mem_append,List.mem_map,List.mem_singleton] at hD;(first|(rcases hD with⟨y,_,rfl⟩|rfl<;>rfl)|(exact(by rcases hD with hD|rfl;obtain⟨i,hi,rfl⟩:=List.getElem_of_mem hD;simp[ruL];rfl))))
       obtain⟨nl1,hv1⟩:∃n,v1= .slice av1 n cv1:=⟨_,hv1⟩;have HV1:=Qh hv1;have HWD:=QC HP11.out KN1 (fun _ _ x=>x);have RHP:=Qh (LkAt.putRule (r:=⟨sn,x.cons,x.level,ps⟩) (vp:= .slice ap ps.length cp) RH1.out HWD hown (by show Kp (fun k=>some k=v.ownBlock) _ _;rw[HVG.out];exact hka));have hpb:y2.heap[p]? =some (.cells (rdC {A with vr:=v}) TGr (0,0)):=Qw RH1.out.blk hka (QL hownO) (by decide);have xp1:=Qd hpb 3;have xq1:y2.cell? ⟨p,3,none⟩=some (.slice og rs.length ocg):=by rw[Qa hpb];exact congrArg some HVG.out
       refine hK.out _ _ (⟨xq1,Qi hka hHeld.2.1 (fun e=>HNB7.out b7 (by rw[HVG.out];exact e.symm) rfl),Qi hka hHeld.2.2.1 (fun e=>HNB7.out b7 (by rw[HVG.out];exact e.symm) rfl),Qi hka hHeld.2.2.2.1 (fun e=>HNB7.out b7 (by rw[HVG.out];exact e.symm) rfl),Qi hka hHeld.2.2.2.2 (fun e=>HNB7.out b7 (by rw[HVG.out];exact e.symm) rfl)⟩) (fun hHeld=> ?_);clear hown hka hat hv1 hke hownO;clear hK K
       try simp only[PP]
       refine tw 9 91 ?_;refine tw 10 92 ?_;refine tw 11 93 ?_;refine re 12 (fun K hK=> ?_);rw[HV1.out];go_simp;rw[←HV1.out];obtain⟨w9,hw9⟩:∃zz,zz=y2.setCell ⟨p,3,none⟩ v1:=⟨_,rfl⟩;have hk9:K1 p y2 w9:=by rw[hw9];exact Qg _ _
       rw[←hw9] at RHP⊢;have KX9:=KX.trans (hk9.mono (fun i hi e=>by have:=RHP.out.pB.1;omega));clear xp1 xq1 hpb hw9 hk9 KX hHeld;refine hK.out _ _ ?_;clear hK K;go_wp2_with fail
       go_roundw
       case rel=>exact⟨k+1,v1,rs++[⟨sn,x.cons,x.level,ps⟩],vps++[.slice ap ps.length cp],brPut br sn rs.length,by go_num,by omega,hF,Qh (by rw[List.length_append,HRSL.out];try rfl),RHP,Qh KX9⟩
       case measure=>simp[intOf];omega
      |false=>
       rw[hro] at o5;have hF:Hid (R.linkGo (R.lines.drop (k+1)) (rs++[⟨sn,x.cons,x.level,ps⟩]) br=R.linkGo R.lines [] []):=Qh (by rw[HST.out,HROS.out];simp only[hro];rfl);have n0:wr.cell? ⟨b7,0,none⟩=some (.int .i64 (sn:Nat)):=by rw[Qa hb7.out];try rfl
       have n1:wr.cell? ⟨b7,1,none⟩=some (.string x.cons):=by rw[Qa hb7.out];try rfl
       have n2:wr.cell? ⟨b7,2,none⟩=some (.int .i64 x.level):=by rw[Qa hb7.out];try rfl
       have n3:wr.cell? ⟨b7,3,none⟩=some (.slice ap ps.length cp):=by rw[Qa hb7.out];try rfl
       have KWi:=HKi.out;clear hro;go_upto_region 19 with fail
       refine rgn (fun w'=>w'.cell? ⟨p,3,none⟩=some (.slice og rs.length ocg)∧w'.cell? ⟨b7,0,none⟩=some (.int .i64 (sn:Nat))∧w'.cell? ⟨b7,1,none⟩=some (.string x.cons)∧w'.cell? ⟨b7,2,none⟩=some (.int .i64 x.level)∧w'.cell? ⟨b7,3,none⟩=some (.slice ap ps.length cp)) (X:=[]) ⟨Qc ((Qb _ _).drew) ((Qa HLi.out.blk 3).trans (congrArg some HVG.out)),Qc ((Qb _ _).drew) n0,Qc ((Qb _ _).drew) n1,Qc ((Qb _ _).drew) n2,Qc ((Qb _ _).drew) n3⟩ (fun hX hHeld=> ?_);refine tw 0 82 ?_;refine tw 1 83 ?_;refine tw 2 84 ?_;refine tw 3 85 ?_;refine tw 4 86 ?_;refine tk 5 87 ?_;refine tk 6 88 ?_;refine ro 7 (fun K hK=> ?_);obtain⟨wd,hwd⟩:∃zz,zz=wr.drew:=⟨_,rfl⟩;have KN0:Kn wr wd:=by rw[hwd];exact(Qb _ _).drew
       have KW0:=KWi.trans (Kp.weak (S:=fun k=>B≤k) KN0);have RH0:=Qh (HLi.out.kn KN0);rw[←hwd] at hHeld⊢;clear hwd;go_simp;obtain⟨y1,hw1⟩:∃zz,zz=wd.alloc (.cells #[.int .i64 (sn:Nat),.string x.cons,.int .i64 x.level,.slice ap ps.length cp] TRu):=⟨_,rfl⟩;have hk1:Kn wd y1:=by rw[hw1];exact(Qb _ _).alloc _
       obtain⟨ge,hge⟩:∃zz,zz=wd.heap.size:=⟨_,rfl⟩;have GE:y1.heap[ge]? =some (.cells #[.int .i64 (sn:Nat),.string x.cons,.int .i64 x.level,.slice ap ps.length cp] TRu (0,0)):=by rw[hw1,hge];exact Qf _ _
       have RH1:=Qh (RH0.out.kn hk1);have KW1:=KW0.trans (Kp.weak hk1);have KN1:=KN0.trans hk1;rw[←hw1,←hge];refine hK.out _ _ (⟨Qc hk1 hHeld.1,Qc hk1 hHeld.2.1,Qc hk1 hHeld.2.2.1,Qc hk1 hHeld.2.2.2.1,Qc hk1 hHeld.2.2.2.2⟩) (fun hHeld=> ?_);clear hw1 hge hk1;clear hK K
       try simp only[PP]
       refine ro 8 (fun K hK=> ?_);have hownO:OwnK y1 B TRu 4 (.slice og rs.length ocg) (List.zipWith ruL rs vps):=by have h1:=RH1.out.ru.row;rw[HVG.out] at h1;exact h1
       refine Qq y1 (by rfl) _ _ 108 (by rfl) B TRu ir (.agg #[.int .i64 0,.string ByteArray.empty,.int .i64 0,.slice none 0 0]) 4 56 Tryz.underlying108 HIR.out.1 HIR.out.2.1 HIR.out.2.2.1 HIR.out.2.2.2 (by rfl) (by decide) (.slice og rs.length ocg) (List.zipWith ruL rs vps) (by rfl) hownO ge 1 (by rfl) #[.int .i64 (sn:Nat),.string x.cons,.int .i64 x.level,.slice ap ps.length cp] TRu (0,0) GE (by rfl) (by simp[Value.oneCell']) (by rw[List.length_zipWith,RH1.out.ru.len,Nat.min_self,HRSL.out];simp only[maxLen];omega) (by rw[List.length_zipWith,RH1.out.ru.len,Nat.min_self,HRSL.out];omega) (by have:=RH1.out.pB.1;have:=RH1.out.lt;omega) ?_;intro v1 y2 hown hka hat;have hke:Kp (fun k=>B≤k) y1 y2:=hka.mono (fun i hi e=>(hownO.lt i e.symm).1);have KX:=KW1.trans hke;obtain⟨av1,cv1,hv1,_⟩:=hown.row (k:=4) (fun D hD=>by simp only[List.mem_append,List.mem_map,List.mem_singleton] at hD;(first|(rcases hD with⟨y,_,rfl⟩|rfl<;>rfl)|(exact(by rcases hD with hD|rfl;obtain⟨i,hi,rfl⟩:=List.getElem_of_mem hD;simp[ruL];rfl))))
       obtain⟨nl1,hv1⟩:∃n,v1= .slice av1 n cv1:=⟨_,hv1⟩;have HV1:=Qh hv1;have HWD:=QC HPB.out KN1 (fun _ _ x=>x);have RHP:=Qh (LkAt.putRule (r:=⟨sn,x.cons,x.level,ps⟩) (vp:= .slice ap ps.length cp) RH1.out HWD hown (by show Kp (fun k=>some k=v.ownBlock) _ _;rw[HVG.out];exact hka));have hpb:y2.heap[p]? =some (.cells (rdC {A with vr:=v}) TGr (0,0)):=Qw RH1.out.blk hka (QL hownO) (by decide);have xp1:=Qd hpb 3;have xq1:y2.cell? ⟨p,3,none⟩=some (.slice og rs.length ocg):=by rw[Qa hpb];exact congrArg some HVG.out
       refine hK.out _ _ (⟨xq1,Qi hka hHeld.2.1 (fun e=>HNB7.out b7 (by rw[HVG.out];exact e.symm) rfl),Qi hka hHeld.2.2.1 (fun e=>HNB7.out b7 (by rw[HVG.out];exact e.symm) rfl),Qi hka hHeld.2.2.2.1 (fun e=>HNB7.out b7 (by rw[HVG.out];exact e.symm) rfl),Qi hka hHeld.2.2.2.2 (fun e=>HNB7.out b7 (by rw[HVG.out];exact e.symm) rfl)⟩) (fun hHeld=> ?_);clear hown hka hat hv1 hke hownO;clear hK K
       try simp only[PP]
       refine tw 9 91 ?_;refine tw 10 92 ?_;refine tw 11 93 ?_;refine re 12 (fun K hK=> ?_);rw[HV1.out];go_simp;rw[←HV1.out];obtain⟨w9,hw9⟩:∃zz,zz=y2.setCell ⟨p,3,none⟩ v1:=⟨_,rfl⟩;have hk9:K1 p y2 w9:=by rw[hw9];exact Qg _ _
       rw[←hw9] at RHP⊢;have KX9:=KX.trans (hk9.mono (fun i hi e=>by have:=RHP.out.pB.1;omega));clear xp1 xq1 hpb hw9 hk9 KX hHeld;refine hK.out _ _ ?_;clear hK K;go_wp2_with fail
       go_roundw
       case rel=>exact⟨k+1,v1,rs++[⟨sn,x.cons,x.level,ps⟩],vps++[.slice ap ps.length cp],br,by go_num,by omega,hF,Qh (by rw[List.length_append,HRSL.out];try rfl),RHP,Qh KX9⟩
       case measure=>simp[intOf];omega
  ·obtain rfl:k=R.lines.length:=by omega
   have he:=linkGo_end hgo.out;have HE:=Qh he;have h120:rs.length≤120:=by have:=hrl.out;omega
   clear he;go_wp2_with fail
   go_ret2
   refine⟨0,0,rfl,hkw.out,?_⟩;rw[HE.out];exact⟨rfl,_,kb,vps,hlk.out,h120,HAS.out⟩
end Go.Proofs.YtiehgcfckhepaaaGreatDoor
namespace Go.Proofs.YtiehgcfckhepaaaGreatDoor
open Go.Shelf Go.RowKit
abbrev TB:TypeId:=244
abbrev TU8:TypeId:=5
theorem xB:(Tryz.prog.info? TB).map (·.size)=some 2:=by kernel_rfl
theorem info_u8:(Tryz.prog.info? TU8).map (fun i=>(i.zero,i.size,i.bytes))=some (some (.int .u8 0),1,1):=by kernel_rfl
theorem copyCheck_used(b:Nat)(w:World)(h0:w.cell? ⟨b,0,none⟩=some (.pointer (some ⟨b,0,none⟩))):
  Calls Tryz.prog 181 #[.pointer (some ⟨b,0,none⟩)] w fun e w'=>e= .returned (.tuple #[])∧w'=w:=by
 obtain⟨j,hj,_⟩:=Option.map_eq_some_iff.1 xB;go_enter Tryz.func181,Tryz.ntmps181;go_wp2_with fail
 try rw[Lib.run_neq_ptr_same w _ Tryz.underlying241 hj]
 go_wp2_with fail
 go_end0
 exact⟨rfl,rfl⟩
theorem copyCheck_fresh(b:Nat)(w:World)(h0:w.cell? ⟨b,0,none⟩=some (.pointer none))(hsh:w.shape? b=some (TB,2))(hfz:w.frozen? ⟨b,0,none⟩=false):
  Calls Tryz.prog 181 #[.pointer (some ⟨b,0,none⟩)] w fun e w'=>e= .returned (.tuple #[])∧w'=w.setCell ⟨b,0,none⟩ (.pointer (some ⟨b,0,none⟩)):=by
 obtain⟨j,hj,hjs⟩:=Option.map_eq_some_iff.1 xB;go_enter Tryz.func181,Tryz.ntmps181;go_wp2_with fail
 rw[Lib.run_to_unsafe w ⟨b,0,none⟩ Tryz.underlying241 Tryz.underlying376 hj (by rw[hjs];decide) hsh (Nat.zero_lt_succ 1)];simp only[Result.andThen];rw[Oper.upon_value];go_wp2_with fail
 rw[run_callFunc_extern Tryz.func231 (by kernel_rfl) (by kernel_rfl) (by kernel_rfl) (e:=Extern.AbiNoEscape.same) (by kernel_rfl)];rw[Lib.run_noEscape];simp only[Result.andThen];rw[Oper.upon_value];go_wp2_with fail
 rw[Lib.run_from_unsafe w ⟨b,0,none⟩ Tryz.underlying376 Tryz.underlying241 hj hsh Tryz.Builder_Extra_169.liesBuilder];simp only[Result.andThen];rw[Oper.upon_value];go_wp2_with fail
 go_end0
 exact⟨rfl,rfl⟩
theorem copyCheck_k(B b:Nat)(bs:List Value)(w:World)(h:Lib.IsBuilderF TB TU8 B b bs w):
  Calls Tryz.prog 181 #[.pointer (some ⟨b,0,none⟩)] w fun e w'=>e= .returned (.tuple #[])∧(Lib.BuilderAtF TB TU8 B b (.pointer (some ⟨b,0,none⟩)) bs w'∧Below B w w'):=by
 rcases h with h|h
 ·refine(copyCheck_fresh b w h.cell0 h.shape h.frozen0).mono ?_;rintro e w' ⟨rfl,rfl⟩;exact⟨rfl,h.used _,(Below.refl B w).setCell (p:=⟨b,0,none⟩) h.1 _⟩
 ·refine(copyCheck_used b w h.cell0).mono ?_;rintro e w' ⟨rfl,rfl⟩;exact⟨rfl,h,Below.refl B _⟩
theorem WriteByte_k(B b:Nat)(bs:List Value)(c:Int)(w:World)(h:Lib.IsBuilderF TB TU8 B b bs w)(hlen:bs.length+1≤140737488355328)(hBw:B≤w.heap.size):
  Calls Tryz.prog 126 #[.pointer (some ⟨b,0,none⟩),.int .u8 c] w fun e w'=>e= .returned .nilIface∧(Lib.BuilderAtF TB TU8 B b (.pointer (some ⟨b,0,none⟩)) (bs++[.int .u8 c]) w'∧Below B w w'):=by
 obtain⟨i0,hi,hz0,hz1,hz2⟩:=info_parts info_u8;have HCC:=Qh (copyCheck_k B b bs w h);go_enter Tryz.func126,Tryz.ntmps126;go_wp2_with fail
 refine HCC.out.mono ?_;rintro e w1 ⟨rfl,h1,hb1⟩;obtain⟨hB,v,hbk,hown,hne⟩:=h1;have c0:w1.cell? ⟨b,0,none⟩=some (.pointer (some ⟨b,0,none⟩)):=by rw[Lib.cell_of_heap hbk];try rfl
 have c1:w1.cell? ⟨b,1,none⟩=some v:=by rw[Lib.cell_of_heap hbk];try rfl
 go_wp2_with (at_builtin;refine wpList_append_ownF _ rfl _ _ 242 rfl B TU8 i0 (.int .u8 0) 1 1 Tryz.underlying242 hi hz0 hz1 hz2 rfl (by decide) _ _ _ rfl (hown.alloc _) ⟨w1.heap.size,0,none⟩ 1 1 [.int .u8 c] rfl rfl ?c1 ?c2 ?c3 ?c4 ?c5 ?_)
 case c1=>
  intro j u hj
  match j,hj with
  |0,hj=>simp at hj;subst hj;simp[Addr.add]
 case c2=>intro u hu;simp at hu;subst hu;rfl
 case c3=>unfold maxLen;omega
 case c4=>omega
 case c5=>have:=hb1.size;simp;omega
 intro v' w2 hown' hgrow _;have hlt:b<w1.heap.size:=Qj hbk;have hb2:w2.heap[b]? =some (.cells #[.pointer (some ⟨b,0,none⟩),v] TB (0,0)):=by
  rw[hgrow.block b (by simp;omega) (fun e=>hne e.symm),Lib.alloc_old w1 _ b hlt];exact hbk
 have d0:w2.cell? ⟨b,0,none⟩=some (.pointer (some ⟨b,0,none⟩)):=by rw[Lib.cell_of_heap hb2];try rfl
 have d1:w2.cell? ⟨b,1,none⟩=some v:=by rw[Lib.cell_of_heap hb2];try rfl
 have f1:w2.frozen? ⟨b,1,none⟩=false:=Lib.frozen_of_heap hb2 1;obtain⟨g,cap,rfl⟩:∃g cap,v'= .slice (some ⟨g,0,none⟩) (bs.length+1) cap:=by
  rcases hown'.2 with⟨_,h0⟩|⟨g,cap,cur,fz,hv,_⟩
  ·omega
  ·exact⟨g,cap,hv⟩
 go_wp2_with fail
 go_ret;refine⟨rfl,?_,?_⟩
 ·exact Lib.BuilderAtF.put (T:=TB) (e:=TU8) hB hb2 (bs':=bs++[.int .u8 c]) (by simpa using hown') (by decide)
 ·exact((hb1.alloc (by have:=hb1.size;omega) _).grown hgrow (by have:=hb1.size;simp;omega) (fun k hk=>(hown.lt k hk).1)).setCell (p:=⟨b,1,none⟩) hB _
theorem WriteString_k(B b:Nat)(bs:List Value)(s:ByteArray)(w:World)(h:Lib.IsBuilderF TB TU8 B b bs w)(hlen:bs.length+s.size≤140737488355328)(hBw:B≤w.heap.size):
  Calls Tryz.prog 125 #[.pointer (some ⟨b,0,none⟩),.string s] w fun e w'=>e= .returned (.tuple #[.int .i64 s.size,.nilIface])∧(Lib.BuilderAtF TB TU8 B b (.pointer (some ⟨b,0,none⟩)) (bs++Lib.strCells s) w'∧Below B w w'):=by
 obtain⟨i0,hi,hz0,hz1,hz2⟩:=info_parts info_u8;have HCC:=Qh (copyCheck_k B b bs w h);go_enter Tryz.func125,Tryz.ntmps125;go_wp2_with fail
 refine HCC.out.mono ?_;rintro e w1 ⟨rfl,h1,hb1⟩;obtain⟨hB,v,hbk,hown,hne⟩:=h1;have c0:w1.cell? ⟨b,0,none⟩=some (.pointer (some ⟨b,0,none⟩)):=by rw[Lib.cell_of_heap hbk];try rfl
 have c1:w1.cell? ⟨b,1,none⟩=some v:=by rw[Lib.cell_of_heap hbk];try rfl
 go_wp2_with (at_builtin;refine Lib.wpList_append_own_stringF _ rfl _ _ 242 9 rfl B TU8 i0 Tryz.underlying242 Tryz.underlying9 hi hz0 hz1 hz2 _ _ _ rfl hown s rfl ?c3 ?c4 ?c5 ?_)
 case c3=>unfold maxLen;omega
 case c4=>omega
 case c5=>have:=hb1.size;omega
 intro v' w2 hown' hgrow _;have hlt:b<w1.heap.size:=Qj hbk;have hb2:w2.heap[b]? =some (.cells #[.pointer (some ⟨b,0,none⟩),v] TB (0,0)):=by
  rw[hgrow.block b hlt (fun e=>hne e.symm)];exact hbk
 have d0:w2.cell? ⟨b,0,none⟩=some (.pointer (some ⟨b,0,none⟩)):=by rw[Lib.cell_of_heap hb2];try rfl
 have d1:w2.cell? ⟨b,1,none⟩=some v:=by rw[Lib.cell_of_heap hb2];try rfl
 have f1:w2.frozen? ⟨b,1,none⟩=false:=Lib.frozen_of_heap hb2 1;obtain⟨ao,n',cap,rfl⟩:∃ao n' cap,v'= .slice ao n' cap:=by
  rcases hown'.2 with⟨hv,_⟩|⟨g,cap,cur,fz,hv,_⟩
  ·exact⟨_,_,_,hv⟩
  ·exact⟨_,_,_,hv⟩
 go_wp2_with fail
 go_ret2
 refine⟨rfl,?_,?_⟩
 ·exact Lib.BuilderAtF.put (T:=TB) (e:=TU8) hB hb2 (bs':=bs++Lib.strCells s) (by simpa[Lib.strCells_length] using hown') (by decide)
 ·exact(hb1.grown hgrow (by have:=hb1.size;omega) (fun k hk=>(hown.lt k hk).1)).setCell (p:=⟨b,1,none⟩) hB _
def hx(d:Nat):UInt8:=hexs.data.toList.getD d 0
def escL(c:Nat):List UInt8:=if inS QF c=true then[92,c.toUInt8] else if 32<c∧c<127 then[c.toUInt8] else[92,120,hx (c/16),hx (c%16)]
def YM(s:ByteArray)(k:Nat):List UInt8:=(List.range k).flatMap (fun i=>escL (bt s i))
def escF(s:ByteArray):ByteArray:=⟨(YM s s.size).toArray⟩
theorem escTo_succ(s:ByteArray)(k:Nat):YM s (k+1)=YM s k++escL (bt s k):=by
 unfold YM;rw[List.range_succ,List.flatMap_append];simp
theorem escL_len(c:Nat):(escL c).length≤4:=by
 unfold escL;split
 ·simp
 ·split<;>simp
theorem escTo_len(s:ByteArray):∀k,(YM s k).length≤4*k
 |0=>by simp[YM]
 |k+1=>by have:=escTo_len s k;have:=escL_len (bt s k);rw[escTo_succ,List.length_append];omega
theorem byteCells_app(a b:List UInt8):Lib.byteCells (a++b)=Lib.byteCells a++Lib.byteCells b:=by simp[Lib.byteCells]
theorem byteCells_len(l:List UInt8):(Lib.byteCells l).length=l.length:=by simp[Lib.byteCells]
theorem and15(c:Nat)(h:c<256):bits BinOp.and IntKind.u8 (c:Int) 15=((c%16:Nat):Int):=by
 have key:∀c:_root_.Fin 256,bits BinOp.and IntKind.u8 ((c.val:Nat):Int) 15=((c.val%16:Nat):Int):=by decide+kernel
 exact key ⟨c,h⟩
theorem hx_get(d:Nat)(h:d<16):hx d=(⟨#[48,49,50,51,52,53,54,55,56,57,97,98,99,100,101,102]⟩:ByteArray)[d]'h:=by
 have key:∀d:_root_.Fin 16,hx d.val=(⟨#[48,49,50,51,52,53,54,55,56,57,97,98,99,100,101,102]⟩:ByteArray)[d.val]'d.isLt:=by decide+kernel
 exact key ⟨d,h⟩
theorem hxi(d:Nat)(h:d<16){i:Nat}(hi:i<16)(hp:i<(⟨#[48,49,50,51,52,53,54,55,56,57,97,98,99,100,101,102]⟩:ByteArray).size)(e:i=d):(((⟨#[48,49,50,51,52,53,54,55,56,57,97,98,99,100,101,102]⟩:ByteArray)[i]'hp).toNat:Int)=((hx d).toNat:Nat):=by
 subst e;rw[hx_get i h]
theorem Kp.below'{w w':World}{B:Nat}(hk:Kn w w')(hB:B≤w.heap.size):Below B w w':=⟨hk.os,hk.tape,hk.output,hk.size,fun k hk2=>hk.block k (Nat.lt_of_lt_of_le hk2 hB) (fun x=>x)⟩
theorem isB_kn{w w':World}{B b:Nat}{bs:List Value}(h:Lib.IsBuilderF TB TU8 B b bs w)(hk:Kn w w'):Lib.IsBuilderF TB TU8 B b bs w':=by
 have key:∀p,Lib.BuilderAtF TB TU8 B b p bs w→Lib.BuilderAtF TB TU8 B b p bs w':=fun p h=>by
  obtain⟨h1,v,h2,h3,h4⟩:=h;refine⟨h1,v,hk.blk h2 (fun x=>x),⟨h3.1,?_⟩,h4⟩;rcases h3.2 with h5|⟨g,cap,cur,fz,h5,h6,h7,h8⟩
  ·exact .inl h5
  ·exact .inr ⟨g,cap,cur,fz,h5,h6,hk.blk h7 (fun x=>x),h8⟩
 exact h.imp (key _) (key _)
theorem strOf4_le(a b:Int):((⟨#[92,120]⟩:ByteArray)++strOfNums [a,b]).size=4:=by
 show((⟨#[92,120]⟩:ByteArray)++strOfNums [a,b]).data.size=4;rw[ByteArray.data_append];simp[strOfNums]
theorem esc4{a b:Int}{x y:UInt8}(ha:a=(x.toNat:Nat))(hb:b=(y.toNat:Nat)):Lib.strCells ((⟨#[92,120]⟩:ByteArray)++strOfNums [a,b])=Lib.byteCells [92,120,x,y]:=by
 subst ha;subst hb;unfold Lib.strCells;rw[ByteArray.data_append];simp[strOfNums,Lib.byteCells]
theorem strOf2_le(c:Nat):((⟨#[92]⟩:ByteArray)++strOfNums [(c:Int)]).size=2:=by
 show((⟨#[92]⟩:ByteArray)++strOfNums [(c:Int)]).data.size=2;rw[ByteArray.data_append];simp[strOfNums]
theorem esc2(c:Nat)(h:c<256):Lib.strCells ((⟨#[92]⟩:ByteArray)++strOfNums [(c:Int)])=Lib.byteCells [92,c.toUInt8]:=by
 unfold Lib.strCells;rw[ByteArray.data_append];simp[strOfNums,Lib.byteCells]
theorem esc1(c:Nat)(h:c<256):Lib.byteCells [c.toUInt8]=[.int .u8 (c:Int)]:=by
 simp[Lib.byteCells];omega
theorem escape_c(s:ByteArray)(w:World)(hs:s.size≤1000000):
  Calls Tryz.prog 100 #[.string s] w fun e w'=>e= .returned (.string (escF s))∧Kn w w':=by
 have HI:=Qh (fun c W=>Tryz.strings_IndexByte ⟨#[124,42,43,63,40,41,91,93,46,92]⟩ c W);have HEF:Hid (escF s=⟨(YM s s.size).toArray⟩):=Qh rfl;go_enter Tryz.func100,Tryz.ntmps100;go_wp2_with fail
 obtain⟨w1,hw1⟩:∃z,z=w.alloc (.cells #[.pointer none,.slice none 0 0] TB):=⟨_,rfl⟩;obtain⟨b,hb⟩:∃z,z=w.heap.size:=⟨_,rfl⟩;have hb0:w1.heap[b]? =some (.cells #[.pointer none,.slice none 0 0] TB (0,0)):=by rw[hw1,hb];exact Qf _ _
 have hB0:Lib.IsBuilderF TB TU8 b b (Lib.byteCells (YM s 0)) w1:= .inl ⟨Nat.le_refl _,_,hb0,⟨by simp[YM,Lib.byteCells],.inl ⟨rfl,rfl⟩⟩,by simp[Value.ownBlock]⟩;have hbel:Below b w w1:=by rw[hw1,hb];exact(Below.refl _ w).alloc (Nat.le_refl _) _
 rw[←hw1,←hb];have HB0:=Qh hB0;have HBE:=Qh hbel;have hbs:b≤w.heap.size:=by omega
 have hFIN:Hid (∀w',Below b w w'→Kn w w'):=Qh (fun w' h=>by rw[hb] at h;exact QB h);clear hw1 hb hb0 hB0 hbel;go_loopw [8] (fun i wr=>∃k:Nat,k≤s.size∧i= .int .i64 k∧Hid (Lib.IsBuilderF TB TU8 b b (Lib.byteCells (YM s k)) wr)∧Hid (Below b w wr)) (fun i _=>s.size-(intOf i).toNat)
 case atStart=>exact⟨0,Nat.zero_le _,rfl,HB0,HBE⟩
 case round=>
  clear HB0 HBE;obtain⟨k,hk,rfl,hbi,hbe⟩:=hrel;by_cases hlt:k<s.size
  ·have hlt':(k:Int)<s.size:=by omega
   have hE:=bt_in hlt;have hc:=bt_lt s k;have HES:=Qh (escTo_succ s k);have hel:=escTo_len s k;by_cases h1:inS QF (bt s k)=true
   ·have hIx:0≤Lib.indexByte (⟨#[124,42,43,63,40,41,91,93,46,92]⟩:ByteArray).data.toList (((s[k].toNat:Nat):Int).toNat.toUInt8):=by
     rw[hE] at h1;simpa[inS,QF] using h1
    have HL:Hid (escL (bt s k)=[92,(bt s k).toUInt8]):=Qh (by unfold escL;rw[if_pos h1]);have HE:=Qh hE;obtain⟨ix,hix⟩:∃ix,ix=Lib.indexByte (⟨#[124,42,43,63,40,41,91,93,46,92]⟩:ByteArray).data.toList (((s[k].toNat:Nat):Int).toNat.toUInt8):=⟨_,rfl⟩;have HIX:=Qh hix;rw[←hix] at hIx;clear hE h1 hix;go_wp2_with fail
    refine(HI.out _ _).mono ?_;rintro e w' ⟨rfl,rfl⟩;rw[←HIX.out];go_wp2_with fail
    rw[run_convert_bytes_arg _ 242 TU8 Tryz.underlying242 Tryz.underlying5 w'.heap.size 0 1 1 [((s[k].toNat:Nat):Int)] rfl (fun i hi=>by
     have e:i=0:=by omega
     subst e;rw[Qa (Qf w' _)];try rfl) 9 Tryz.underlying9]
    simp only[Result.andThen];rw[Oper.upon_value];go_wp2_with fail
    refine(WriteString_k b b _ _ _ (hbi.out.alloc _) (by have:=byteCells_len (YM s k);have:=strOf2_le s[k].toNat;omega) (by have:=hbe.out.size;simp;omega)).mono ?_;rintro e w2 ⟨rfl,hb2,he2⟩;have HB2:Hid (Lib.IsBuilderF TB TU8 b b (Lib.byteCells (YM s (k+1))) w2):=Qh (.inr (by
     rw[HES.out,HL.out,byteCells_app,←esc2 _ hc,HE.out];exact hb2))
    have HE2:=Qh ((hbe.out.alloc (by have:=hbe.out.size;omega) _).trans he2);clear hb2 he2;go_wp2_with fail
    go_roundw
    case rel=>exact⟨k+1,by omega,by go_num,HB2,HE2⟩
    case measure=>simp[intOf];omega
   ·have hIx:¬0≤Lib.indexByte (⟨#[124,42,43,63,40,41,91,93,46,92]⟩:ByteArray).data.toList (((s[k].toNat:Nat):Int).toNat.toUInt8):=by
     rw[hE] at h1;simpa[inS,QF] using h1
    obtain⟨ix,hix⟩:∃ix,ix=Lib.indexByte (⟨#[124,42,43,63,40,41,91,93,46,92]⟩:ByteArray).data.toList (((s[k].toNat:Nat):Int).toNat.toUInt8):=⟨_,rfl⟩;have HIX:=Qh hix;rw[←hix] at hIx;clear hix;by_cases h2:32<bt s k∧bt s k<127
    ·have i1:(32:Int)<((s[k].toNat:Nat):Int):=by have:=h2.1;omega
     have i2:((s[k].toNat:Nat):Int)<127:=by have:=h2.2;omega
     have HL:Hid (escL (bt s k)=[(bt s k).toUInt8]):=Qh (by unfold escL;rw[if_neg h1,if_pos h2]);have HE:=Qh hE;clear hE h1 h2;go_wp2_with fail
     refine(HI.out _ _).mono ?_;rintro e w' ⟨rfl,rfl⟩;rw[←HIX.out];go_wp2_with fail
     refine(WriteByte_k b b _ _ _ hbi.out (by have:=byteCells_len (YM s k);omega) (by have:=hbe.out.size;omega)).mono ?_;rintro e w2 ⟨rfl,hb2,he2⟩;have HB2:Hid (Lib.IsBuilderF TB TU8 b b (Lib.byteCells (YM s (k+1))) w2):=Qh (.inr (by
      rw[HES.out,HL.out,byteCells_app,esc1 _ hc,HE.out];exact hb2))
     have HE2:=Qh (hbe.out.trans he2);clear hb2 he2;go_wp2_with fail
     go_roundw
     case rel=>exact⟨k+1,by omega,by go_num,HB2,HE2⟩
     case measure=>simp[intOf];omega
    ·have i1:(32:Int)<((s[k].toNat:Nat):Int)→¬((s[k].toNat:Nat):Int)<127:=by intro h;omega
     have HL:Hid (escL (bt s k)=[92,120,hx (bt s k/16),hx (bt s k%16)]):=Qh (by unfold escL;rw[if_neg h1,if_neg h2]);have HE:=Qh hE;clear h1 i1;have hx1:0≤((s[k].toNat:Nat):Int)/16∧((s[k].toNat:Nat):Int)/16<16:=by omega
     have hx2:0≤bits BinOp.and IntKind.u8 ((s[k].toNat:Nat):Int) 15∧bits BinOp.and IntKind.u8 ((s[k].toNat:Nat):Int) 15<16:=by rw[and15 _ (by omega)];omega
     obtain⟨a1,ha1⟩:∃a:Int,a=(((⟨#[48,49,50,51,52,53,54,55,56,57,97,98,99,100,101,102]⟩:ByteArray)[(((s[k].toNat:Nat):Int)/16).toNat]'(by show _<16;omega)).toNat:Nat):=⟨_,rfl⟩;obtain⟨a2,ha2⟩:∃a:Int,a=(((⟨#[48,49,50,51,52,53,54,55,56,57,97,98,99,100,101,102]⟩:ByteArray)[(bits BinOp.and IntKind.u8 ((s[k].toNat:Nat):Int) 15).toNat]'(by show _<16;omega)).toNat:Nat):=⟨_,rfl⟩;have HA1v:=Qh ha1;have HA2v:=Qh ha2;have HX1:=Qh hx1;have HX2:=Qh hx2;have HA1:Hid (a1=((hx (bt s k/16)).toNat:Nat)):=Qh (by rw[ha1];exact hxi (bt s k/16) (by omega) (by omega) _ (by rw[hE];omega));have HA2:Hid (a2=((hx (bt s k%16)).toNat:Nat)):=Qh (by rw[ha2];exact hxi (bt s k%16) (by omega) (by omega) _ (by rw[and15 _ (by omega),hE];omega));clear ha1 ha2;have hso:(strOfNums [a1,a2]).size=2:=by show(strOfNums [a1,a2]).data.size=2;simp[strOfNums]
     by_cases h3:32<bt s k
     ·have i1:(32:Int)<((s[k].toNat:Nat):Int):=by omega
      have i2:¬((s[k].toNat:Nat):Int)<127:=by omega
      clear hE h2 h3;go_upto_region 6 with(first|(go_at_call 138;refine(HI.out _ _).mono ?_;rintro e w' ⟨rfl,rfl⟩;rw[←HIX.out]))
      refine wp_region_held_drew (S:=fun w'=>True) (by kernel_rfl) trivial (fun hHeld=> ?_);obtain⟨wd,hwd⟩:∃zz,zz=w'.drew:=⟨_,rfl⟩;have hkd:Kn w' wd:=by rw[hwd];exact(Qb _ _).drew
      rw[←hwd];clear hwd;refine TW 0 14 ?_;refine TW 1 15 ?_;refine TH 2 16 ?_ (hy:=by(intro w hs1;go_simp;exact congrArg (Value.int IntKind.u8) HA1v.out.symm;try with_reducible rfl));refine TW 3 17 ?_;refine TW 4 18 ?_;refine TH 5 19 ?_ (hy:=by(intro w hs1;go_simp;exact congrArg (Value.int IntKind.u8) HA2v.out.symm;try with_reducible rfl));refine RH 6 (fun K hK=> ?_);go_simp;refine hK.out _ _ trivial (fun hHeld=> ?_);clear hK K
      try simp only[PP]
      refine RH 7 (fun K hK=> ?_);go_simp;rw[run_convert_bytes_arg _ 242 TU8 Tryz.underlying242 Tryz.underlying5 wd.heap.size 0 2 2 [a1,a2] rfl (fun i hi=>by
       rw[Qa (Qf wd _),Nat.zero_add];rcases i with _|_|i
       ·rfl
       ·rfl
       ·omega) 9 Tryz.underlying9]
      simp only[Result.andThen];rw[Oper.upon_value];refine hK.out _ _ trivial (fun hHeld=> ?_);clear hK K
      try simp only[PP]
      refine TW 8 22 ?_;refine RH 9 (fun K hK=> ?_);go_simp
      go_at_call 125
      refine(WriteString_k b b _ _ _ ((isB_kn hbi.out hkd).alloc _) (by have:=byteCells_len (YM s k);have:=strOf4_le a1 a2;omega) (by have:=hbe.out.size;have:=hkd.size;simp;omega)).mono ?_;rintro e w2 ⟨rfl,hb2,he2⟩;have HB2:Hid (Lib.IsBuilderF TB TU8 b b (Lib.byteCells (YM s (k+1))) w2):=Qh (.inr (by rw[HES.out,HL.out,byteCells_app,←esc4 HA1.out HA2.out];exact hb2));have HE2:=Qh (((hbe.out.trans (Kp.below' hkd (by have:=hbe.out.size;omega))).alloc (by have:=hbe.out.size;have:=hkd.size;omega) _).trans he2);clear hb2 he2;dsimp only;refine hK.out _ _ trivial (fun hHeld=> ?_);clear hK K;refine RD ?_;go_wp2_with fail
      go_roundw
      case rel=>exact⟨k+1,by omega,by go_num,HB2,HE2⟩
      case measure=>simp[intOf];omega
     ·have i1:¬(32:Int)<((s[k].toNat:Nat):Int):=by omega
      clear hE h2 h3;go_upto_region 6 with(first|(go_at_call 138;refine(HI.out _ _).mono ?_;rintro e w' ⟨rfl,rfl⟩;rw[←HIX.out]))
      refine wp_region_held_drew (S:=fun w'=>True) (by kernel_rfl) trivial (fun hHeld=> ?_);obtain⟨wd,hwd⟩:∃zz,zz=w'.drew:=⟨_,rfl⟩;have hkd:Kn w' wd:=by rw[hwd];exact(Qb _ _).drew
      rw[←hwd];clear hwd;refine TW 0 14 ?_;refine TW 1 15 ?_;refine TH 2 16 ?_ (hy:=by(intro w hs1;go_simp;exact congrArg (Value.int IntKind.u8) HA1v.out.symm;try with_reducible rfl));refine TW 3 17 ?_;refine TW 4 18 ?_;refine TH 5 19 ?_ (hy:=by(intro w hs1;go_simp;exact congrArg (Value.int IntKind.u8) HA2v.out.symm;try with_reducible rfl));refine RH 6 (fun K hK=> ?_);go_simp;refine hK.out _ _ trivial (fun hHeld=> ?_);clear hK K
      try simp only[PP]
      refine RH 7 (fun K hK=> ?_);go_simp;rw[run_convert_bytes_arg _ 242 TU8 Tryz.underlying242 Tryz.underlying5 wd.heap.size 0 2 2 [a1,a2] rfl (fun i hi=>by
       rw[Qa (Qf wd _),Nat.zero_add];rcases i with _|_|i
       ·rfl
       ·rfl
       ·omega) 9 Tryz.underlying9]
      simp only[Result.andThen];rw[Oper.upon_value];refine hK.out _ _ trivial (fun hHeld=> ?_);clear hK K
      try simp only[PP]
      refine TW 8 22 ?_;refine RH 9 (fun K hK=> ?_);go_simp
      go_at_call 125
      refine(WriteString_k b b _ _ _ ((isB_kn hbi.out hkd).alloc _) (by have:=byteCells_len (YM s k);have:=strOf4_le a1 a2;omega) (by have:=hbe.out.size;have:=hkd.size;simp;omega)).mono ?_;rintro e w2 ⟨rfl,hb2,he2⟩;have HB2:Hid (Lib.IsBuilderF TB TU8 b b (Lib.byteCells (YM s (k+1))) w2):=Qh (.inr (by rw[HES.out,HL.out,byteCells_app,←esc4 HA1.out HA2.out];exact hb2));have HE2:=Qh (((hbe.out.trans (Kp.below' hkd (by have:=hbe.out.size;omega))).alloc (by have:=hbe.out.size;have:=hkd.size;omega) _).trans he2);clear hb2 he2;dsimp only;refine hK.out _ _ trivial (fun hHeld=> ?_);clear hK K;refine RD ?_;go_wp2_with fail
      go_roundw
      case rel=>exact⟨k+1,by omega,by go_num,HB2,HE2⟩
      case measure=>simp[intOf];omega
  ·obtain rfl:k=s.size:=by omega
   have hST:=Tryz.Builder_String_any_k b b (YM s s.size) wr hbi.out (by have:=hbe.out.size;omega);have HST:=Qh hST;clear hST;go_wp2_with fail
   refine HST.out.mono ?_;rintro e w2 ⟨rfl,_,he2,_⟩;have he3:=hFIN.out _ (hbe.out.trans he2);go_wp2_with fail
   go_ret;exact⟨by rw[HEF.out];try rfl,he3⟩
theorem formatInt_c(i:Nat)(hi:i<100)(w:World):
  Calls Tryz.prog 193 #[.int .i64 i,.int .i64 10] w fun e w'=>e= .returned (.string ⟨(Lib.decDigits i).toArray⟩)∧w'=w:=by
 have HS:=Qh (fun W=>Tryz.internal_strconv_small i hi W);have h1:(i:Int)<100:=by omega
 have h0:(0:Int)≤i:=by omega
 go_enter Tryz.func193,Tryz.ntmps193;go_wp2_with fail
 refine(HS.out _).mono ?_;rintro e w' ⟨rfl,rfl⟩;go_wp2_with fail
 go_ret;exact⟨rfl,rfl⟩
theorem itoa1_c(i:Nat)(hi:i<100)(w:World):
  Calls Tryz.prog 137 #[.int .i64 i] w fun e w'=>e= .returned (.string ⟨(Lib.decDigits i).toArray⟩)∧w'=w:=by
 have HS:=Qh (formatInt_c i hi w);go_enter Tryz.func137,Tryz.ntmps137;go_wp2_with fail
 refine HS.out.mono ?_;rintro e w' ⟨rfl,rfl⟩;go_wp2_with fail
 go_ret;exact⟨rfl,rfl⟩
theorem itoa_c(i:Nat)(hi:i<100)(w:World):
  Calls Tryz.prog 99 #[.int .i64 i] w fun e w'=>e= .returned (.string ⟨(Lib.decDigits i).toArray⟩)∧w'=w:=by
 have HS:=Qh (itoa1_c i hi w);go_enter Tryz.func99,Tryz.ntmps99;go_wp2_with fail
 refine HS.out.mono ?_;rintro e w' ⟨rfl,rfl⟩;go_wp2_with fail
 go_ret;exact⟨rfl,rfl⟩
end Go.Proofs.YtiehgcfckhepaaaGreatDoor
namespace Go.Proofs.YtiehgcfckhepaaaGreatDoor
open Go.RowKit Go.Maps
def decB(i:Nat):ByteArray:=⟨(Lib.decDigits i).toArray⟩
def litC(R:RS):List GC:=R.lits.zipIdx.map (fun p=>⟨(⟨#[108,105,116]⟩:ByteArray)++decB p.2,escF p.1,false⟩)
def QD(R:RS):List GC:=litC R++R.cls
theorem Yn(R:RS):(litC R).length=R.lits.length:=by simp[litC]
theorem litC_get(R:RS)(i:Nat)(h:i<R.lits.length):(litC R)[i]'(by rw[Yn];exact h)=⟨(⟨#[108,105,116]⟩:ByteArray)++decB i,escF R.lits[i],false⟩:=by simp[litC]
theorem decB_le(i:Nat)(h:i<100):(decB i).size≤2:=by
 show(Lib.decDigits i).toArray.size≤2;rw[List.size_toArray];unfold Lib.decDigits;split
 ·simp
 ·rw[List.length_append];unfold Lib.decDigits;rw[dif_pos (by omega)];simp
theorem escF_le(s:ByteArray):(escF s).size≤4*s.size:=by
 show(YM s s.size).toArray.size≤_;rw[List.size_toArray];exact escTo_len s s.size
theorem classes_c{B p:Nat}{R:RS}{A:RA}{w:World}(h:RdAt w B p R A)(ok:RSok R):
  Calls Tryz.prog 56 #[ptr p] w fun e w'=>∃v,e= .returned v∧OwnK w' w.heap.size TCl 3 v ((QD R).map clL)∧Kn w w':=by
 obtain⟨oa,oc,hv0,_,_,hg⟩:=h.lits.look;obtain⟨a1,c1,hv1,_,_,hg1⟩:=h.cls.row (fun C hC=>by obtain⟨x,_,rfl⟩:=List.mem_map.1 hC;rfl);rw[List.length_map] at hv1;obtain⟨q0,q1,_⟩:=h.cells;rw[hv0] at q0;rw[hv1] at q1;have hl40:=ok.lits;have hc40:=ok.cls;obtain⟨ie,hi,hz0,hz1,hz2⟩:=info_parts info_cl;have HIE:=Qh (And.intro hi (And.intro hz0 (And.intro hz1 hz2)));have HZ:=Qh ok.litz;have HC:=Qh h.cls;have HV1:=Qh hv1;have HG1:=Qh hg1;have HG:=Qh hg;clear h ok hv0 hv1 hi hz0 hz1 hz2 hg hg1;go_enter Tryz.func56,Tryz.ntmps56;go_wp2_with fail
 go_loopw [3,13] (fun s3 s13 wr=>∃(k:Nat) (v:Value),v=s3∧s13= .int .i64 k∧k≤R.lits.length∧Hid (OwnK wr w.heap.size TCl 3 v (((litC R).take k).map clL))∧Kn w wr) (fun _ s13 _=>R.lits.length-(intOf s13).toNat)
 case atStart=>exact⟨0,_,rfl,rfl,Nat.zero_le _,Qh OwnK.nil,Qb _ _⟩
 case round=>
  obtain⟨k,v,rfl,rfl,hk,hov,hkn⟩:=hrel;by_cases hlt:k<R.lits.length
  ·obtain⟨g,rfl,_,_,hc⟩:=HG.out (fun e=>by rw[e] at hlt;simp at hlt);have hck:=Qc hkn (hc k hlt);have hsz:=HZ.out _ (List.getElem_mem hlt);have hlg:=litC_get R k hlt;obtain⟨s,hs⟩:∃s,s=R.lits[k]:=⟨_,rfl⟩;rw[←hs] at hck hsz hlg;have HLG:=Qh hlg;have HIT:=Qh (itoa_c k (by omega) wr);have hdl:=decB_le k (by omega);change Hid (Calls Tryz.prog 99 #[.int .i64 k] wr fun e w'=>e= .returned (.string (decB k))∧w'=wr) at HIT;obtain⟨t,ht⟩:∃t,t=decB k:=⟨_,rfl⟩;rw[←ht] at HIT hdl HLG;have HES:=Qh (escape_c s wr (by omega));obtain⟨es,hes⟩:∃es,es=escF s:=⟨_,rfl⟩;rw[←hes] at HES HLG;have hno:¬(9223372036854775807:Nat)<3+t.size:=by omega
   clear hlg hs hc ht hes;go_wp2_with fail
   refine HIT.out.mono ?_;rintro e w3 ⟨rfl,hw3⟩;rw[hw3];clear hw3 w3;go_wp2_with fail
   refine HES.out.mono ?_;rintro e w4 ⟨rfl,hk4⟩;have hkn4:=hkn.trans hk4;obtain⟨nm,hnm⟩:∃nm,nm=(⟨#[108,105,116]⟩:ByteArray)++t:=⟨_,rfl⟩;rw[←hnm] at HLG⊢;have hka:Kn w4 (w4.alloc (.cells #[.string nm,.string es,.bool false] TCl)):=(Qb _ _).alloc _;have HO4:=Qh ((hov.out.kn hk4).kn hka);have HBL:Hid ((w4.alloc (.cells #[.string nm,.string es,.bool false] TCl)).heap[w4.heap.size]? =some (.cells #[.string nm,.string es,.bool false] TCl (0,0))):=Qh (Qf _ _);have HKA:=Qh hka;have hw4:=hkn4.size;clear hnm hov hka;go_wp2_with (first|(at_builtin;go_must (refine QA _ rfl (.tmp 18) (.tmp 25) 110 rfl w.heap.size TCl ie (.agg #[.string ByteArray.empty,.string ByteArray.empty,.bool false]) 3 40 Tryz.underlying110 HIE.out.1 HIE.out.2.1 HIE.out.2.2.1 HIE.out.2.2.2 (by rfl) (by decide) v (((litC R).take k).map clL) rfl HO4.out w4.heap.size 1 rfl #[.string nm,.string es,.bool false] TCl (0,0) HBL.out rfl (by simp[Value.oneCell']) (by rw[List.length_map,List.length_take,Yn];simp only[maxLen];omega) (by rw[List.length_map,List.length_take,Yn];omega) (by rw[size_alloc'];omega) ?_;intro v1 w5 hown hkap hat;have HOW:=Qh hown;have HKP:=Qh (hkap.mono (T:=fun i=>w.heap.size≤i) (fun i hi e=>(HO4.out.lt i e.symm).1));clear hown hkap hat)))
   have hkn5:Kn w _:=(hkn4.trans HKA.out).trans' HKP.out (fun i hi e=>by omega);have HO5:Hid (OwnK w5 w.heap.size TCl 3 v1 (((litC R).take (k+1)).map clL)):=Qh (by
    rw[List.take_succ_eq_append_getElem (by rw[Yn];exact hlt),List.map_append,HLG.out];exact HOW.out)
   go_roundw
   case rel=>exact⟨k+1,v1,rfl,by go_num,by omega,HO5,hkn5⟩
   case measure=>simp[intOf];omega
  ·obtain rfl:k=R.lits.length:=by omega
   have ho:=hov.out;rw[List.take_of_length_le (by rw[Yn];exact Nat.le_refl _)] at ho;have HO:=Qh ho;have q1r:=Qc hkn q1;have hcr:=HC.out.kn hkn;rw[HV1.out] at hcr;have HCR:=Qh hcr;have hws:=hkn.size;clear hov ho q1 hcr;by_cases hc0:R.cls=[]
   ·have hE:Hid (QD R=litC R):=Qh (by unfold QD;rw[hc0,List.append_nil]);have ha1:(Value.slice a1 R.cls.length c1)= .slice none 0 0∨∃g,a1=some ⟨g,0,none⟩:=by
     rcases HCR.out.2 with⟨h1,_⟩|⟨g,cap,cur,h1,_⟩
     ·exact .inl h1
     ·injection h1 with h1;exact .inr ⟨g,h1⟩
    rcases ha1 with ha1|⟨g,rfl⟩
    ·rw[ha1] at q1r;clear hc0;go_wp2_with (first|(at_builtin;go_must (refine wpList_append_own_none rfl (.tmp 28) (.tmp 32) 110 rfl w.heap.size TCl ie 3 Tryz.underlying110 HIE.out.1 v _ _ rfl HO.out rfl ?_)))
     go_ret;exact⟨v,rfl,by rw[hE.out];exact HO.out,hkn⟩
    ·have hcl0:R.cls.length=0:=by rw[hc0];try rfl
     clear hc0;go_wp2_with (first|(at_builtin;go_must (refine wpList_append_own _ rfl (.tmp 28) (.tmp 32) 110 rfl w.heap.size TCl ie (.agg #[.string ByteArray.empty,.string ByteArray.empty,.bool false]) 3 40 Tryz.underlying110 HIE.out.1 HIE.out.2.1 HIE.out.2.2.1 HIE.out.2.2.2 (by rfl) (by decide) v _ _ rfl HO.out ⟨g,0,none⟩ 0 c1 [] rfl rfl (fun j u hj=>by simp at hj) (fun u hu=>by cases hu) (by rw[List.length_map,Yn];simp only[maxLen];omega) (by rw[List.length_map,Yn];omega) hws ?_;intro v1 w5 hown hgr hnn;have HOW:=Qh hown;have HGR:=Qh hgr;clear hown hgr hnn)))
     go_ret;refine⟨v1,rfl,?_,hkn.trans' (Kp.grownK HGR.out) (fun i hi e=>by have:=(HO.out.lt i e.symm).1;omega)⟩;rw[hE.out];have:=HOW.out;rw[List.append_nil] at this;exact this
   ·obtain⟨g,rfl,_,_,hcc⟩:=HG1.out (fun e=>hc0 (List.map_eq_nil_iff.1 e));have HNW:Hid (∀j u,(clC R.cls)[j]? =some u→wr.cell? ((⟨g,0,none⟩:Addr).add j)=some u):=Qh (fun j u hj=>HCR.out.cells rfl j u hj);clear hc0 hcc;go_wp2_with (first|(at_builtin;go_must (refine wpList_append_own _ rfl (.tmp 28) (.tmp 32) 110 rfl w.heap.size TCl ie (.agg #[.string ByteArray.empty,.string ByteArray.empty,.bool false]) 3 40 Tryz.underlying110 HIE.out.1 HIE.out.2.1 HIE.out.2.2.1 HIE.out.2.2.2 (by rfl) (by decide) v _ _ rfl HO.out ⟨g,0,none⟩ R.cls.length c1 (clC R.cls) rfl (clC_len _) HNW.out (clC_one _) (by rw[List.length_map,Yn];simp only[maxLen];omega) (by rw[List.length_map,Yn];omega) hws ?_;intro v1 w5 hown hgr hnn;have HOW:=Qh hown;have HGR:=Qh hgr;clear hown hgr hnn)))
    go_ret;refine⟨v1,rfl,?_,hkn.trans' (Kp.grownK HGR.out) (fun i hi e=>by have:=(HO.out.lt i e.symm).1;omega)⟩;have h1:=HOW.out;unfold OwnK QD;have e9:(R.cls.map clL).length=R.cls.length:=List.length_map _;rw[List.map_append,List.flatten_append,List.length_append,e9];exact h1
def finF(R:RS):Option (List GR×List (Nat×Nat)):=
 match R.linkGo R.lines [] [] with
 |none=>none
 |some r=>if R.sorts.length=0∨r.1.length=0 then none else if(QD R).length=0 then some r else if(Yo (QD R)).isSome=true then some r else none
structure GrAt (w:World) (p:Nat) (R:RS) (rs:List GR) (br:List (Nat×Nat)):Prop where
 lk:∃B A kb vps,LkAt w B p R A kb rs vps br∧((QD R).length=0→A.sc= .pointer none)∧∀r,Yo (QD R)=some r→∃ps:Nat,A.sc=ptr ps∧ScanAt w ps (QD R) r.2
 ok:RSok R
 rlen:rs.length≤120
theorem GrAt.kn{w w':World}{p:Nat}{R:RS}{rs:List GR}{br:List (Nat×Nat)}(h:GrAt w p R rs br)(hk:Kn w w'):GrAt w' p R rs br:=by
 obtain⟨⟨B,A,kb,vps,h1,h2,h3⟩,h4,h5⟩:=h;exact⟨⟨B,A,kb,vps,h1.kn hk,h2,fun r hr=>by obtain⟨ps,a,b⟩:=h3 r hr;exact⟨ps,a,b.kn hk⟩⟩,h4,h5⟩
theorem ScanAt.k1g{w w':World}{p ps:Nat}{cs:List GC}{l:List DS}{C:Array Value}(h:ScanAt w ps cs l)(hb:w.heap[p]? =some (.cells C TGr (0,0)))(hk:K1 p w w'):ScanAt w' ps cs l:=by
 have hS:=QK hb;obtain⟨pl,bn,vcl,B,h1,gof,n,vout,zs,h2,h3⟩:=h;refine⟨pl,bn,vcl,B,⟨Qw h1.blk hk hS (by decide),Ql h1.row hk hS (by decide),Qs h1.nms hk hS⟩,gof,n,vout,zs,h2.kp hk (fun e=> ?_) (fun e=> ?_) (fun g hg e=> ?_),h3⟩
 ·subst e;exact Qn hb h2.blk (by decide)
 ·subst e;have:=h2.of_;exact Qn hb this (by decide)
 ·subst e;obtain⟨cur,h4⟩:=h2.row.blkT hg;exact Qn hb h4 (by decide)
theorem LkAt.setSc{w:World}{B p:Nat}{R:RS}{A:RA}{kb:Nat}{rs:List GR}{vps:List Value}{br:List (Nat×Nat)}(h:LkAt w B p R A kb rs vps br)(v:Value):LkAt (w.setCell ⟨p,5,none⟩ v) B p R {A with sc:=v} kb rs vps br:=by
 have hk1:K1 p w (w.setCell ⟨p,5,none⟩ v):=Qg _ _;have hS1:=QK h.rd.blk;exact⟨h.rd.setSc v,h.bb,Qs h.brk hk1 hS1,h.ru.ty hk1 hS1 (by decide) (by decide),h.ne⟩
theorem clsOf_ok{R:RS}(ok:RSok R):∀x∈QD R,x.name.size≤1000000∧x.regex.size≤1099511627776:=by
 intro x hx;unfold QD at hx;rcases List.mem_append.1 hx with h|h
 ·obtain⟨i,hi,rfl⟩:=List.getElem_of_mem h;rw[Yn] at hi;have h1:=decB_le i (by have:=ok.lits;omega);have h2:=escF_le R.lits[i];have h3:=ok.litz _ (List.getElem_mem hi);rw[litC_get R i hi];refine⟨?_,?_⟩
  ·show((⟨#[108,105,116]⟩:ByteArray)++decB i).size≤_;rw[ByteArray.size_append];have:(⟨#[108,105,116]⟩:ByteArray).size=3:=rfl;omega
  ·show(escF R.lits[i]).size≤_;omega
 ·have:=ok.clz x h;omega
theorem clsR_own{w:World}{B g n c:Nat}{cs:List GC}(h:OwnK w B TCl 3 (.slice (some ⟨g,0,none⟩) n c) (cs.map clL)):ClsR w g cs:=by
 intro j u hj;have:=h.cells rfl j u hj;have hadd:(⟨g,0,none⟩:Addr).add j=⟨g,j,none⟩:=by unfold Addr.add;split<;>simp_all
 rwa[hadd] at this
def FinPost(B p:Nat)(R:RS)(w:World)(e:Ending)(w':World):Prop:=
 ∃k n:Int,e= .returned (.tuple #[.int .i64 k,.int .i64 n])∧Kp (fun i=>B≤i) w w'∧match finF R with|some r=>k=0∧n=0∧GrAt w' p R r.1 r.2|none=>n≠0
theorem finish_c{B p:Nat}{R:RS}{A0:RA}{w:World}(h:RdAt w B p R A0)(ok:RSok R)(hvr:A0.vr= .slice none 0 0)(hsc:A0.sc= .pointer none):
  Calls Tryz.prog 64 #[ptr p] w (FinPost B p R w):=by
 have HLN:=Qh (glink_c h ok hvr);have HF:Hid (finF R=match R.linkGo R.lines [] [] with
  |none=>none
  |some r=>if R.sorts.length=0∨r.1.length=0 then none else if(QD R).length=0 then some r else if(Yo (QD R)).isSome=true then some r else none):=Qh rfl
 have HOK:=Qh ok;have HSC:=Qh hsc;clear h ok hvr hsc;go_enter Tryz.func64,Tryz.ntmps64;go_wp2_with fail
 refine HLN.out.mono ?_;rintro e w1 ⟨k,n,rfl,hk1,hm⟩;cases hl:R.linkGo R.lines [] [] with
 |none=>
  rw[hl] at hm;dsimp only at hm;have hn2:(n==0)=false:=by rw[beq_eq_false_iff_ne];exact hm
  have hF2:Hid (finF R=none):=Qh (by rw[HF.out,hl]);have HN0:=Qh hm;have HK1:=Qh hk1;clear hl hm hk1;go_wp2_with fail
  go_ret2
  refine⟨k,n,rfl,HK1.out,?_⟩;rw[hF2.out];exact HN0.out
 |some r=>
  rw[hl] at hm;obtain⟨rs,br⟩:=r;dsimp only at hm;obtain⟨rfl,A,kb,vps,hlk,h120,hsc⟩:=hm;have HF2:Hid (finF R=if R.sorts.length=0∨rs.length=0 then none else if(QD R).length=0 then some (rs,br) else if(Yo (QD R)).isSome=true then some (rs,br) else none):=Qh (by rw[HF.out,hl]);have HL:=Qh hlk;have HA:=Qh (hsc.trans HSC.out);have HK1:=Qh hk1;obtain⟨os,oc,hv2,_⟩:=hlk.rd.sorts.look;obtain⟨og,ocg,hvg,_⟩:=hlk.ru.row.row (fun C hC=>by obtain⟨i,hi,rfl⟩:=List.getElem_of_mem hC;simp[ruL]);rw[List.length_zipWith,hlk.ru.len,Nat.min_self] at hvg;obtain⟨_,_,q2,q3,_⟩:=hlk.rd.cells;rw[hv2] at q2;rw[hvg] at q3;clear hl hlk hsc hk1 hv2 hvg HF HLN;by_cases h0:R.sorts.length=0
  ·have i0:((R.sorts.length:Int)==0)=true:=by simp[h0]
   have i0':(R.sorts.length:Int)=0:=by omega
   have hF3:Hid (finF R=none):=Qh (by rw[HF2.out,if_pos (.inl h0)]);clear h0 HF2;go_wp2_with fail
   go_ret2
   refine⟨0,12,rfl,HK1.out,?_⟩;rw[hF3.out];exact(by decide:(12:Int)≠0)
  ·have i0:((R.sorts.length:Int)==0)=false:=by rw[beq_eq_false_iff_ne];omega
   have i0':¬(R.sorts.length:Int)=0:=by omega
   by_cases h1:rs.length=0
   ·have j0:((rs.length:Int)==0)=true:=by simp[h1]
    have hF3:Hid (finF R=none):=Qh (by rw[HF2.out,if_pos (.inr h1)]);clear h0 h1 HF2;go_wp2_with fail
    go_ret2
    refine⟨0,12,rfl,HK1.out,?_⟩;rw[hF3.out];exact(by decide:(12:Int)≠0)
   ·have j0:((rs.length:Int)==0)=false:=by rw[beq_eq_false_iff_ne];omega
    have HF3:Hid (finF R=if(QD R).length=0 then some (rs,br) else if(Yo (QD R)).isSome=true then some (rs,br) else none):=Qh (by rw[HF2.out,if_neg (by rintro(h|h);exact h0 h;exact h1 h)]);have HC1:=Qh (classes_c HL.out.rd HOK.out);have hcl:(QD R).length≤80:=by
     unfold QD;rw[List.length_append,Yn];have:=HOK.out.lits;have:=HOK.out.cls;omega
    clear h0 h1 HF2;go_wp2_with fail
    refine HC1.out.mono ?_;rintro e w2 ⟨v,rfl,hov,hk2⟩;obtain⟨a,c,rfl,_⟩:=hov.row (fun C hC=>by obtain⟨x,_,rfl⟩:=List.mem_map.1 hC;rfl);rw[List.length_map];have HK2:=Qh (HK1.out.trans (Yj hk2));have HL2:=Qh (HL.out.kn hk2);clear hov hk2;by_cases h9:(QD R).length=0
    ·have k9:¬(0:Int)<(QD R).length:=by omega
     have k9':¬0<(QD R).length:=by omega
     have hF4:Hid (finF R=some (rs,br)):=Qh (by rw[HF3.out,if_pos h9]);have hS:Hid (Yo (QD R)=none):=Qh (by unfold Yo;rw[if_pos h9]);clear h9 HF3;go_wp2_with fail
     go_ret2
     refine⟨0,0,rfl,HK2.out,?_⟩;rw[hF4.out];exact⟨rfl,rfl,⟨B,A,kb,vps,HL2.out,fun _=>HA.out,fun r hr=>by rw[hS.out] at hr;cases hr⟩,HOK.out,h120⟩
    ·have k9:(0:Int)<(QD R).length:=by omega
     have k9':0<(QD R).length:=by omega
     have HF4:Hid (finF R=if(Yo (QD R)).isSome=true then some (rs,br) else none):=Qh (by rw[HF3.out,if_neg h9]);have HN9:=Qh h9;have HC2:=Qh (classes_c HL2.out.rd HOK.out);clear h9 HF3;go_wp2_with fail
     refine HC2.out.mono ?_;rintro e w3 ⟨v,rfl,hov,hk3⟩;obtain⟨a3,c3,rfl,_,_,hg3⟩:=hov.row (fun C hC=>by obtain⟨x,_,rfl⟩:=List.mem_map.1 hC;rfl);obtain⟨g,rfl,_⟩:=hg3 (fun e=>HN9.out (by rw[List.map_eq_nil_iff.1 e];try rfl));have hcr:=clsR_own hov;have HSN:=Qh (scanNew_c g c3 (QD R) w3 hcr (by omega) (clsOf_ok HOK.out));rw[List.length_map];have HK3:=Qh (HK2.out.trans (Yj hk3));have HL3:=Qh (HL2.out.kn hk3);clear hov hk3 hg3 hcr;go_wp2_with fail
     refine HSN.out.mono ?_;rintro e w4 ⟨hk4,hp⟩;have HK4:=Qh (HK3.out.trans (Yj hk4));have HL4:=Qh (HL3.out.kn hk4);cases hsf:Yo (QD R) with
     |none=>
      rw[hsf] at hp;dsimp only at hp;obtain⟨k,n,hn,rfl⟩:=hp;have hn2:(n==0)=false:=by rw[beq_eq_false_iff_ne];exact hn
      have hF5:Hid (finF R=none):=Qh (by rw[HF4.out,hsf];try rfl);clear hsf hn HF4;go_wp2_with fail
      go_ret2
      refine⟨0,3,rfl,HK4.out,?_⟩;rw[hF5.out];exact(by decide:(3:Int)≠0)
     |some r=>
      rw[hsf] at hp;dsimp only at hp;obtain⟨ps,rfl,_,hsa⟩:=hp;have hF5:Hid (finF R=some (rs,br)):=Qh (by rw[HF4.out,hsf];try rfl);have HSF:=Qh hsf;have HSA:=Qh hsa;have q5:w4.cell? ⟨p,5,none⟩=some (.pointer none):=by obtain⟨_,_,_,_,_,q,_⟩:=HL4.out.rd.cells;rw[HA.out] at q;exact q
      have f5:=HL4.out.rd.fr 5;clear hsf hsa HF4 q2 q3;go_wp2_with fail
      go_ret2
      obtain⟨w5,hw5⟩:∃z,z=w4.setCell ⟨p,5,none⟩ (ptr ps):=⟨_,rfl⟩;have hk5:K1 p w4 w5:=by rw[hw5];exact Qg _ _
      have hL5:=HL4.out.setSc (ptr ps);rw[←hw5] at hL5⊢;refine⟨0,0,rfl,HK4.out.trans (hk5.mono (fun i hi e=>by have:=HL4.out.rd.pB.1;omega)),?_⟩;rw[hF5.out];refine⟨rfl,rfl,⟨B,_,kb,vps,hL5,fun h=>absurd h HN9.out,fun r2 hr2=>⟨ps,rfl,?_⟩⟩,HOK.out,h120⟩;rw[HSF.out] at hr2;injection hr2 with hr2;subst hr2;exact HSA.out.k1g HL4.out.rd.blk hk5
open Go.Shelf Go.RowKit Go.Maps
end Go.Proofs.YtiehgcfckhepaaaGreatDoor
namespace Go.Proofs.YtiehgcfckhepaaaGreatDoor
open Go.RowKit Go.Maps
theorem CloneP_c{B:Nat}{v:Value}{Cs:List (List Value)}(w:World)(hbig:Cs.length≤1000000)(h3:∀C∈Cs,C.length=4)(h1:∀u∈Cs.flatten,u.oneCell'=true)(h:OwnK w B TPa 4 v Cs):
  Calls Tryz.prog 98 #[v] w fun e w'=>∃v',e= .returned v'∧OwnK w' w.heap.size TPa 4 v' Cs∧Kn w w':=by
 obtain⟨i0,hi,hz0,hz1,hz2⟩:=info_parts info_pa;have HI:=Qh (And.intro hi (And.intro hz0 (And.intro hz1 hz2)));have q24:∀(w:World) (a:Option Addr) (n c n' c':Nat),(binOp .eql 208 (.slice a n c) (.slice none n' c')).run Tryz.prog w= .ok (.bool a.isNone) w:=fun w a n c n' c'=>Lib.run_eql_slice_nil w _ _ a n c n' c' Tryz.underlying208
 have HC:=Qh h;have H1:=Qh h1;have hfl:=YD h3;rcases h.2 with⟨hv,hcs⟩|⟨g,cap,cur,hv,hg,_,hc1,hc2,_⟩
 ·have hn:Cs=[]:=by simpa using hcs
  subst hv hn;clear hi hz0 hz1 hz2 h h1;go_enter Tryz.func98,Tryz.ntmps98;go_wp2_with fail
  go_ret;exact⟨_,rfl,OwnK.nil,Qb _ _⟩
 ·subst hv;obtain⟨n,hn⟩:∃n,n=Cs.length:=⟨_,rfl⟩;have HN:=Qh hn;rw[←hn] at HC hc1 hbig hfl⊢;have HF:=Qh hfl;clear hi hz0 hz1 hz2 h h1 hn hfl h3;go_enter Tryz.func98,Tryz.ntmps98;go_wp2_with (at_builtin;refine wpList_append_own _ rfl _ _ 208 rfl w.heap.size TPa i0 _ 4 32 Tryz.underlying208 HI.out.1 HI.out.2.1 HI.out.2.2.1 HI.out.2.2.2 rfl (by decide) _ _ _ rfl (World.ownsRow_made w #[] 0 (Nat.le_refl _) (Nat.zero_le _) rfl) ⟨g,0,none⟩ n cap Cs.flatten rfl ?qc1 ?qc2 ?qc3 ?qc4 ?qc5 ?qc6 ?_)
  case qc1=>exact HF.out
  case qc2=>
   intro j u hj;exact Lib.cell?_alloc_some _ (HC.out.cells rfl j u hj)
  case qc3=>exact H1.out
  case qc4=>unfold maxLen;omega
  case qc5=>omega
  case qc6=>simp
  intro v' w1 hown hgrow hnil;go_wp2_with fail
  go_ret;refine⟨v',rfl,by unfold OwnK;rw[←HN.out];simpa using hown,?_⟩;exact QB (((Below.refl _ w).alloc (Nat.le_refl _) _).grown hgrow (by simp) (by intro k hk;simp[Value.ownBlock] at hk;omega))
theorem CloneR_c{B:Nat}{v:Value}{Cs:List (List Value)}(w:World)(hbig:Cs.length≤1000000)(h3:∀C∈Cs,C.length=4)(h1:∀u∈Cs.flatten,u.oneCell'=true)(h:OwnK w B TRu 4 v Cs):
  Calls Tryz.prog 97 #[v] w fun e w'=>∃v',e= .returned v'∧OwnK w' w.heap.size TRu 4 v' Cs∧Kn w w':=by
 obtain⟨i0,hi,hz0,hz1,hz2⟩:=info_parts info_ru;have HI:=Qh (And.intro hi (And.intro hz0 (And.intro hz1 hz2)));have q24:∀(w:World) (a:Option Addr) (n c n' c':Nat),(binOp .eql 108 (.slice a n c) (.slice none n' c')).run Tryz.prog w= .ok (.bool a.isNone) w:=fun w a n c n' c'=>Lib.run_eql_slice_nil w _ _ a n c n' c' Tryz.underlying108
 have HC:=Qh h;have H1:=Qh h1;have hfl:=YD h3;rcases h.2 with⟨hv,hcs⟩|⟨g,cap,cur,hv,hg,_,hc1,hc2,_⟩
 ·have hn:Cs=[]:=by simpa using hcs
  subst hv hn;clear hi hz0 hz1 hz2 h h1;go_enter Tryz.func97,Tryz.ntmps97;go_wp2_with fail
  go_ret;exact⟨_,rfl,OwnK.nil,Qb _ _⟩
 ·subst hv;obtain⟨n,hn⟩:∃n,n=Cs.length:=⟨_,rfl⟩;have HN:=Qh hn;rw[←hn] at HC hc1 hbig hfl⊢;have HF:=Qh hfl;clear hi hz0 hz1 hz2 h h1 hn hfl h3;go_enter Tryz.func97,Tryz.ntmps97;go_wp2_with (at_builtin;refine wpList_append_own _ rfl _ _ 108 rfl w.heap.size TRu i0 _ 4 56 Tryz.underlying108 HI.out.1 HI.out.2.1 HI.out.2.2.1 HI.out.2.2.2 rfl (by decide) _ _ _ rfl (World.ownsRow_made w #[] 0 (Nat.le_refl _) (Nat.zero_le _) rfl) ⟨g,0,none⟩ n cap Cs.flatten rfl ?qc1 ?qc2 ?qc3 ?qc4 ?qc5 ?qc6 ?_)
  case qc1=>exact HF.out
  case qc2=>
   intro j u hj;exact Lib.cell?_alloc_some _ (HC.out.cells rfl j u hj)
  case qc3=>exact H1.out
  case qc4=>unfold maxLen;omega
  case qc5=>omega
  case qc6=>simp
  intro v' w1 hown hgrow hnil;go_wp2_with fail
  go_ret;refine⟨v',rfl,by unfold OwnK;rw[←HN.out];simpa using hown,?_⟩;exact QB (((Below.refl _ w).alloc (Nat.le_refl _) _).grown hgrow (by simp) (by intro k hk;simp[Value.ownBlock] at hk;omega))
end Go.Proofs.YtiehgcfckhepaaaGreatDoor
