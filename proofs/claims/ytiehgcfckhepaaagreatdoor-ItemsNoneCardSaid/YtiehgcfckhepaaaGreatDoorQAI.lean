/-
  Texts of this claim, laid together: GLkMem, TMem, TPlace, TBits, TSt, TBegin, TFirst, TFollow, TFix, TSym, TOk. Conditions: none.
-/
import Derived.Test.YtiehgcfckhepaaaGreatDoorQAH
import Derived.Test.YtiehgcfckhepaaaGreatDoorQAG
import Derived.Test.YtiehgcfckhepaaaGreatDoorQAC
set_option linter.unusedVariables false
set_option linter.unusedSimpArgs false
set_option maxRecDepth 100000
set_option maxHeartbeats 16000000
namespace Go.Proofs.YtiehgcfckhepaaaGreatDoor
open Go.RowKit Go.Maps
def paL(q:GP):List Value:=[.int .i64 q.cls,.int .i64 q.sort,.int .i64 q.level,.bool q.fixed]
def ruL(r:GR)(v:Value):List Value:=[.int .i64 r.sort,.string r.cons,.int .i64 r.level,v]
def brM(m:List (Nat×Nat)):KV:=m.map (fun p=>(Value.int .i64 (p.1:Nat),Value.int .i64 (p.2:Nat)))
abbrev TI:TypeId:=3
theorem brM_mem{m:List (Nat×Nat)}{p:Value×Value} :p∈brM m↔∃q∈m,p=(.int .i64 (q.1:Nat),.int .i64 (q.2:Nat)):=by
 unfold brM;rw[List.mem_map];exact⟨fun⟨s,h,e⟩=>⟨s,h,e.symm⟩,fun⟨s,h,e⟩=>⟨s,h,e.symm⟩⟩
theorem int_keyOf(x:Nat)(h:x≤1000000):∃l,keyOf Tryz.prog TI (.int .i64 (x:Nat))=some l:=⟨_,keyOf_int_mk Tryz.underlying3 (by
 simp[Lit.wf,IntKind.min,IntKind.max,IntKind.signed,IntKind.bits];omega)⟩
theorem brPut_map{w:World}{kb:Nat}{m:List (Nat×Nat)}(x v:Nat)(hx:x≤1000000)(h:MapA w TI kb (brM m)):
  ∃w',(Instr.mapUpdate 129 (.map (some kb)) (.int .i64 (x:Nat)) (.int .i64 (v:Nat))).run Tryz.prog w= .ok () w'∧MapA w' TI kb (brM (brPut m x v))∧K1 kb w w':=by
 obtain⟨lx,hlx⟩:=int_keyOf x hx;unfold brPut;cases hf:m.findIdx? (fun p=>decide (p.1=x)) with
 |none=>
  have hn:∀p∈brM m,p.1≠Value.int .i64 (x:Nat):=by
   intro p hp e;obtain⟨q,hq,rfl⟩:=brM_mem.1 hp;have h1:=List.findIdx?_eq_none_iff.1 hf q hq;have e2:((q.1:Nat):Int)=(x:Nat):=by injection e
   exact absurd (by omega:q.1=x) (of_decide_eq_false h1)
  obtain⟨w',h1,h2,h3⟩:=h.put0 (int_keyed Tryz.underlying3) Tryz.underlying129 hlx hn (.int .i64 (v:Nat));exact⟨w',h1,by simpa[brM] using h2,h3⟩
 |some j=>
  obtain⟨hj,he,_⟩:=List.findIdx?_eq_some_iff_getElem.1 hf;have he2:m[j].1=x:=of_decide_eq_true he;have hmem:(Value.int .i64 (x:Nat),Value.int .i64 (m[j].2:Nat))∈brM m:=brM_mem.2 ⟨m[j],List.getElem_mem hj,by rw[he2]⟩;have hnd:((brM m).map (·.1)).Nodup:=by obtain⟨_,_,_,_,hd,_⟩:=h;exact hd
  obtain⟨w',j2,h1,h2,h3,h4⟩:=h.put1 (int_keyed Tryz.underlying3) Tryz.underlying129 hlx hmem (.int .i64 (v:Nat));have hj2:j2=j:=by
   have hl2:j2<(brM m).length:=(List.getElem?_eq_some_iff.1 h2).1;have e1:((brM m).map (·.1))[j2]? =some (.int .i64 (x:Nat)):=by rw[List.getElem?_map,h2];try rfl
   have e2:((brM m).map (·.1))[j]? =some (.int .i64 (x:Nat)):=by
    rw[List.getElem?_map];unfold brM;rw[List.getElem?_map,List.getElem?_eq_getElem hj];simp[he2]
   exact(List.getElem?_inj (by simpa using hl2) hnd).1 (e1.trans e2.symm)
  subst hj2;exact⟨w',h1,by simpa[brM,List.map_set] using h3,h4⟩
structure RuAt (w:World) (B:Nat) (vr:Value) (rs:List GR) (vps:List Value):Prop where
 row:OwnK w B TRu 4 vr (List.zipWith ruL rs vps)
 len:vps.length=rs.length
 parts:∀i (h:i<vps.length) (h':i<rs.length),OwnK w B TPa 4 vps[i] (rs[i].parts.map paL)
theorem RuAt.kn{w w':World}{B:Nat}{vr:Value}{rs:List GR}{vps:List Value}(h:RuAt w B vr rs vps)(hk:Kn w w'):RuAt w' B vr rs vps:=⟨h.row.kn hk,h.len,fun i a b=>(h.parts i a b).kn hk⟩
theorem RuAt.ty{S:Nat→Prop}{X:TypeId}{w w':World}{B:Nat}{vr:Value}{rs:List GR}{vps:List Value}(h:RuAt w B vr rs vps)(hk:Kp S w w')(hS:Ty S w X)(h1:X≠TRu)(h2:X≠TPa):RuAt w' B vr rs vps:=⟨Ql h.row hk hS h1,h.len,fun i a b=>Ql (h.parts i a b) hk hS h2⟩
theorem RuAt.tym{S:Nat→Prop}{w w':World}{B:Nat}{vr:Value}{rs:List GR}{vps:List Value}(h:RuAt w B vr rs vps)(hk:Kp S w w')(hS:TyM S w):RuAt w' B vr rs vps:=⟨Qy h.row hk hS,h.len,fun i a b=>Qy (h.parts i a b) hk hS⟩
theorem RuAt.snoc{w w1:World}{B:Nat}{vr v1 vp:Value}{rs:List GR}{vps:List Value}(h:RuAt w B vr rs vps){r:GR}(hp:OwnK w B TPa 4 vp (r.parts.map paL))(hr:OwnK w1 B TRu 4 v1 (List.zipWith ruL rs vps++[ruL r vp]))(hk:Kp (fun k=>some k=vr.ownBlock) w w1):
  RuAt w1 B v1 (rs++[r]) (vps++[vp]):=by
 have hS:=QL h.row;refine⟨?_,by simp[h.len],fun i a b=> ?_⟩
 ·have e:List.zipWith ruL (rs++[r]) (vps++[vp])=List.zipWith ruL rs vps++[ruL r vp]:=by rw[List.zipWith_append h.len.symm];try rfl
  rw[e];exact hr
 ·have hl:=h.len;by_cases hi:i<vps.length
  ·have:=Ql (h.parts i hi (by omega)) hk hS (by decide);rw[List.getElem_append_left hi];simp only[List.getElem_append_left (show i<rs.length by omega)];exact this
  ·have ei:i=vps.length:=by simp at a;omega
   subst ei;have:=Ql hp hk hS (by decide);rw[List.getElem_append_right (Nat.le_refl _)];simp only[List.getElem_append_right (show rs.length≤vps.length by omega),Nat.sub_self,List.getElem_singleton,show vps.length-rs.length=0 by omega];exact this
structure LkAt (w:World) (B p:Nat) (R:RS) (A:RA) (kb:Nat) (rs:List GR) (vps:List Value) (br:List (Nat×Nat)):Prop where
 rd:RdAt w B p R A
 bb:A.bb= .map (some kb)
 brk:MapA w TI kb (brM br)
 ru:RuAt w B A.vr rs vps
 ne:B≤kb∧kb≠A.bn∧kb≠A.bc∧kb≠A.br
theorem LkAt.kn{w w':World}{B p:Nat}{R:RS}{A:RA}{kb:Nat}{rs:List GR}{vps:List Value}{br:List (Nat×Nat)}(h:LkAt w B p R A kb rs vps br)(hk:Kn w w'):LkAt w' B p R A kb rs vps br:=⟨h.rd.kn hk,h.bb,h.brk.kn hk,h.ru.kn hk,h.ne⟩
theorem LkAt.blk{w:World}{B p:Nat}{R:RS}{A:RA}{kb:Nat}{rs:List GR}{vps:List Value}{br:List (Nat×Nat)}(h:LkAt w B p R A kb rs vps br):w.heap[p]? =some (.cells (rdC A) TGr (0,0)):=h.rd.blk
theorem LkAt.lt{w:World}{B p:Nat}{R:RS}{A:RA}{kb:Nat}{rs:List GR}{vps:List Value}{br:List (Nat×Nat)}(h:LkAt w B p R A kb rs vps br):p<w.heap.size:=h.rd.lt
theorem LkAt.pB{w:World}{B p:Nat}{R:RS}{A:RA}{kb:Nat}{rs:List GR}{vps:List Value}{br:List (Nat×Nat)}(h:LkAt w B p R A kb rs vps br):B≤p∧B≤A.bn∧B≤A.bc∧B≤A.br:=h.rd.pB
theorem step_putbr{w:World}{kb:Nat}{m:List (Nat×Nat)}{ops:Array Oper}{o:Oper}{a:Act}{K:Act→World→Prop}{Q:Exit→Act→World→Prop}{E:Prop}(hg:o.guard=none)(mo xo vo:Operand)(hop:o.op=Op.mapUpdate 129 mo xo vo)
  (hm:a.eval mo= .map (some kb)) (h:MapA w TI kb (brM m)) (x v:Nat) (hx9:x≤1000000) (hx:a.eval xo= .int .i64 (x:Nat)) (hv:a.eval vo= .int .i64 (v:Nat))
  (hK:∀w',MapA w' TI kb (brM (brPut m x v))→K1 kb w w'→K (a.put o.dst undef) w'):if Region.wanted o (yielded ops a.tmps)=true then Oper.wp Tryz.prog o a w K Q else E:=by
 have hw:Region.wanted o (yielded ops a.tmps)=true:=by simp[Region.wanted,hg]
 rw[if_pos hw];obtain⟨w',hr,h1,h2⟩:=brPut_map x v hx9 h;unfold Oper.wp;simp[execOp,hop,hm,hx,hv,hr,Result.andThen];exact hK w' h1 h2
theorem RdAt.setVr{w:World}{B p:Nat}{R:RS}{A:RA}(h:RdAt w B p R A)(v:Value):RdAt (w.setCell ⟨p,3,none⟩ v) B p R {A with vr:=v} :=by
 have hk1:K1 p w (w.setCell ⟨p,3,none⟩ v):=Qg _ _;have hS1:=QK h.blk;exact⟨by have:=Qk h.blk 3 v;simpa[rdC] using this,Ql h.lits hk1 hS1 (by decide),Ql h.cls hk1 hS1 (by decide),Ql h.sorts hk1 hS1 (by decide),Qs h.names hk1 hS1,Qs h.cons hk1 hS1,Qs h.rounds hk1 hS1,
  Ql h.lines hk1 hS1 (by decide),h.wl,fun i a b=>Ql (h.words i a b) hk1 hS1 (by decide),h.ne1,h.ne2,h.pB⟩
theorem RdAt.setBb{w:World}{B p:Nat}{R:RS}{A:RA}(h:RdAt w B p R A)(v:Value):RdAt (w.setCell ⟨p,4,none⟩ v) B p R {A with bb:=v} :=by
 have hk1:K1 p w (w.setCell ⟨p,4,none⟩ v):=Qg _ _;have hS1:=QK h.blk;exact⟨by have:=Qk h.blk 4 v;simpa[rdC] using this,Ql h.lits hk1 hS1 (by decide),Ql h.cls hk1 hS1 (by decide),Ql h.sorts hk1 hS1 (by decide),Qs h.names hk1 hS1,Qs h.cons hk1 hS1,Qs h.rounds hk1 hS1,
  Ql h.lines hk1 hS1 (by decide),h.wl,fun i a b=>Ql (h.words i a b) hk1 hS1 (by decide),h.ne1,h.ne2,h.pB⟩
theorem RdAt.setSc{w:World}{B p:Nat}{R:RS}{A:RA}(h:RdAt w B p R A)(v:Value):RdAt (w.setCell ⟨p,5,none⟩ v) B p R {A with sc:=v} :=by
 have hk1:K1 p w (w.setCell ⟨p,5,none⟩ v):=Qg _ _;have hS1:=QK h.blk;exact⟨by have:=Qk h.blk 5 v;simpa[rdC] using this,Ql h.lits hk1 hS1 (by decide),Ql h.cls hk1 hS1 (by decide),Ql h.sorts hk1 hS1 (by decide),Qs h.names hk1 hS1,Qs h.cons hk1 hS1,Qs h.rounds hk1 hS1,
  Ql h.lines hk1 hS1 (by decide),h.wl,fun i a b=>Ql (h.words i a b) hk1 hS1 (by decide),h.ne1,h.ne2,h.pB⟩
theorem RdAt.ty{S:Nat→Prop}{X:TypeId}{w w':World}{B p:Nat}{R:RS}{A:RA}(h:RdAt w B p R A)(hk:Kp S w w')(hS:Ty S w X)(h1:X≠TGr)(h2:X≠TS)(h3:X≠TCl)(h4:X≠TLn)(h5:X≠TWd):RdAt w' B p R A:=
 ⟨Qw h.blk hk hS h1,Ql h.lits hk hS h2,Ql h.cls hk hS h3,Ql h.sorts hk hS h2,Qs h.names hk hS,Qs h.cons hk hS,Qs h.rounds hk hS,Ql h.lines hk hS h4,h.wl,fun i a b=>Ql (h.words i a b) hk hS h5,h.ne1,h.ne2,h.pB⟩
theorem RdAt.tym{w w':World}{B p kb:Nat}{R:RS}{A:RA}{m:KV}(h:RdAt w B p R A)(hk:K1 kb w w')(hm:MapA w TI kb m)(hn:kb≠A.bn∧kb≠A.bc∧kb≠A.br):RdAt w' B p R A:=by
 have hS:=Zc hm;exact⟨Yv h.blk hk hS,Qy h.lits hk hS,Qy h.cls hk hS,Qy h.sorts hk hS,h.names.kp hk (fun e=>hn.1 e.symm),h.cons.kp hk (fun e=>hn.2.1 e.symm),h.rounds.kp hk (fun e=>hn.2.2 e.symm),Qy h.lines hk hS,h.wl,fun i a b=>Qy (h.words i a b) hk hS,h.ne1,h.ne2,h.pB⟩
theorem LkAt.putRule{w w1:World}{B p:Nat}{R:RS}{A:RA}{kb:Nat}{rs:List GR}{vps:List Value}{br:List (Nat×Nat)}{v1 vp:Value}{r:GR}(h:LkAt w B p R A kb rs vps br)(hp:OwnK w B TPa 4 vp (r.parts.map paL))(hr:OwnK w1 B TRu 4 v1 (List.zipWith ruL rs vps++[ruL r vp]))(hk:Kp (fun k=>some k=A.vr.ownBlock) w w1):
  LkAt (w1.setCell ⟨p,3,none⟩ v1) B p R {A with vr:=v1} kb (rs++[r]) (vps++[vp]) br:=by
 have hS:=QL h.ru.row;have h1:=h.rd.ty hk hS (by decide) (by decide) (by decide) (by decide) (by decide);have hk1:K1 p w1 (w1.setCell ⟨p,3,none⟩ v1):=Qg _ _;have hS1:=QK h1.blk;exact⟨h1.setVr v1,h.bb,Qs (Qs h.brk hk hS) hk1 hS1,(h.ru.snoc hp hr hk).ty hk1 hS1 (by decide) (by decide),h.ne⟩
theorem LkAt.putBr{w w':World}{B p:Nat}{R:RS}{A:RA}{kb:Nat}{rs:List GR}{vps:List Value}{br:List (Nat×Nat)}{br':List (Nat×Nat)}(h:LkAt w B p R A kb rs vps br)(hm:MapA w' TI kb (brM br'))(hk:K1 kb w w'):LkAt w' B p R A kb rs vps br':=
 ⟨h.rd.tym hk h.brk h.ne.2,h.bb,hm,h.ru.tym hk (Zc h.brk),h.ne⟩
theorem lines_cells{w:World}{B:Nat}{v:Value}{xs:List GL}{vws:List Value}(h:OwnK w B TLn 6 v (List.zipWith lnL xs vws))(hl:vws.length=xs.length):∃a c,v= .slice a xs.length c∧∀i (hi:i<xs.length) (hv:i<vws.length),∃g,a=some ⟨g,0,none⟩∧
  w.cell? ⟨g,i*6,none⟩=some (.int .i64 xs[i].number)∧w.cell? ⟨g,i*6+1,none⟩=some (.string xs[i].sort)∧w.cell? ⟨g,i*6+2,none⟩=some (.string xs[i].cons)∧w.cell? ⟨g,i*6+3,none⟩=some (.int .i64 xs[i].level)∧w.cell? ⟨g,i*6+4,none⟩=some vws[i]∧w.cell? ⟨g,i*6+5,none⟩=some (.bool xs[i].round):=by
 obtain⟨a,c,hv,_,_,h1⟩:=h.row (fun C hC=>by obtain⟨i,hi,rfl⟩:=List.getElem_of_mem hC;simp[lnL]);rw[List.length_zipWith,hl,Nat.min_self] at hv;refine⟨a,c,hv,fun i hi hv2=> ?_⟩;obtain⟨g,ha,_,_,h2⟩:=h1 (fun e=>by have:=congrArg List.length e;simp[hl] at this;subst this;simp at hi);have h3:=h2 i (by simp[hl];omega);have key:∀j,j<6→w.cell? ⟨g,i*6+j,none⟩=(lnL xs[i] vws[i])[j]? :=fun j hj=>by
  have:=(h3 j hj).1;rw[show 0+6*i+j=i*6+j by omega] at this;rw[this];simp
 exact⟨g,ha,(key 0 (by omega)).trans rfl,(key 1 (by omega)).trans rfl,(key 2 (by omega)).trans rfl,(key 3 (by omega)).trans rfl,(key 4 (by omega)).trans rfl,(key 5 (by omega)).trans rfl⟩
abbrev TSt:TypeId:=144
abbrev TPc:TypeId:=206
abbrev TSy:TypeId:=64
abbrev TPr:TypeId:=106
abbrev TBi:TypeId:=149
abbrev TIs:TypeId:=28
def pcV(p:Nat×Nat):Value:= .agg #[.int .i64 (p.1:Nat),.int .i64 (p.2:Nat)]
def pcL(p:Nat×Nat):List Value:=[.int .i64 (p.1:Nat),.int .i64 (p.2:Nat)]
def syL(y:SY):List Value:=[.bool y.place,.int .i64 y.n]
def prL(p:PR)(v:Value):List Value:=[.int .i64 (p.place:Nat),.int .i64 (p.rule:Nat),v]
def biV(l:List Nat):List Value:=l.map (fun x:Nat=>Value.int .u64 (x:Nat))
def pcM(ps:PL):KV:=ps.zipIdx.map (fun p=>(pcV p.1,Value.int .i64 (p.2:Nat)))
theorem pcM_mem{ps:PL}{p:Value×Value} :p∈pcM ps↔∃q i,ps[i]? =some q∧p=(pcV q,.int .i64 (i:Nat)):=by
 unfold pcM;rw[List.mem_map];constructor
 ·rintro⟨⟨q,i⟩,h,rfl⟩;exact⟨q,i,List.mem_zipIdx_iff_getElem?.1 h,rfl⟩
 ·rintro⟨q,i,h,rfl⟩;exact⟨(q,i),List.mem_zipIdx_iff_getElem?.2 h,rfl⟩
theorem pcM_snoc(ps:PL)(q:Nat×Nat):pcM (ps++[q])=pcM ps++[(pcV q,.int .i64 (ps.length:Nat))]:=by
 simp[pcM,List.zipIdx_append]
theorem pcV_inj{p q:Nat×Nat}(h:pcV p=pcV q):p=q:=by
 unfold pcV at h;injection h with h;have h2:=congrArg Array.toList h;simp at h2;exact Prod.ext (by omega) (by omega)
structure PrAt (w:World) (B:Nat) (v:Value) (l:List PR) (vs:List Value):Prop where
 row:OwnK w B TPr 3 v (List.zipWith prL l vs)
 len:vs.length=l.length
 syms:∀i (h:i<vs.length) (h':i<l.length),OwnK w B TSy 2 vs[i] (l[i].syms.map syL)
structure OfAt (w:World) (B:Nat) (v:Value) (o:List (List Nat)) (vs:List Value):Prop where
 row:OwnK w B TIs 1 v (vs.map (fun x=>[x]))
 len:vs.length=o.length
 nums:∀i (h:i<vs.length) (h':i<o.length),OwnI w B vs[i] o[i]
section
variable {S:Nat→Prop} {w w' w1:World} {B:Nat} {v v1:Value} {l:List PR} {o:List (List Nat)} {vs:List Value} {X:TypeId}
theorem PrAt.kn(h:PrAt w B v l vs)(hk:Kn w w'):PrAt w' B v l vs:=⟨h.row.kn hk,h.len,fun i a b=>(h.syms i a b).kn hk⟩
theorem OfAt.kn(h:OfAt w B v o vs)(hk:Kn w w'):OfAt w' B v o vs:=⟨h.row.kn hk,h.len,fun i a b=>QC (h.nums i a b) hk (fun _ _ x=>x)⟩
theorem row_off{T:TypeId}{k n:Nat}{cs:List Value}(h:w.ownsRow B T k v n cs)(hk:Kp S w w')(hS:∀g (c:Array Value),w.heap[g]? =some (.cells c T (0,0))→¬S g):w'.ownsRow B T k v n cs:=
 QC h hk (fun g hg e=>by obtain⟨cur,h1⟩:=QH h hg;exact hS g cur h1 e)
theorem PrAt.off(h:PrAt w B v l vs)(hk:Kp S w w')(h1:∀g (c:Array Value),w.heap[g]? =some (.cells c TPr (0,0))→¬S g)(h2:∀g (c:Array Value),w.heap[g]? =some (.cells c TSy (0,0))→¬S g):PrAt w' B v l vs:=
 ⟨row_off h.row hk h1,h.len,fun i a b=>row_off (h.syms i a b) hk h2⟩
theorem OfAt.off(h:OfAt w B v o vs)(hk:Kp S w w')(h1:∀g (c:Array Value),w.heap[g]? =some (.cells c TIs (0,0))→¬S g)(h2:∀g (c:Array Value),w.heap[g]? =some (.cells c 3 (0,0))→¬S g):OfAt w' B v o vs:=
 ⟨row_off h.row hk h1,h.len,fun i a b=>row_off (h.nums i a b) hk h2⟩
theorem Qv{T:TypeId}(hS:Ty S w X)(hX:X≠T):∀g (c:Array Value),w.heap[g]? =some (.cells c T (0,0))→¬S g:=fun g c h e=>by obtain⟨c1,h1⟩:=hS g e;exact Qn h1 h hX
end
structure SA where
 vp:Value
 vl:Value
 vo:Value
 ve:Value
 vf:Value
 vw:Value
 bm:Nat
 fin:Nat
 vls:List Value
 vos:List Value
def seC(A:SA):Array Value:= #[A.vp,.map (some A.bm),A.vl,A.vo,.int .i64 (A.fin:Nat),A.ve,A.vf,A.vw]
structure BdAt (w:World) (B p:Nat) (S:SB) (A:SA):Prop where
 blk:w.heap[p]? =some (.cells (seC A) TSt (0,0))
 pl:OwnK w B TPc 2 A.vp (S.places.map pcL)
 mt:MapA w TPc A.bm (pcM S.places)
 pr:PrAt w B A.vl S.l A.vls
 of_:OfAt w B A.vo S.own A.vos
 pB:B≤p∧B≤A.bm
def PSt(A:SA)(p:Nat):Nat→Prop:=fun k=>k=p∨k=A.bm∨some k=A.vp.ownBlock
structure PlKeep (w w':World) (p:Nat) (A A':SA):Prop where
 kp:Kp (PSt A p) w w'
 vp:∀k,A'.vp.ownBlock=some k→A.vp.ownBlock=some k∨w.heap.size≤k
 rest:A'= {A with vp:=A'.vp}
section
variable {w w' w1:World} {B p:Nat} {S:SB} {A A' A2:SA}
theorem BdAt.cell(h:BdAt w B p S A)(i:Nat):w.cell? ⟨p,i,none⟩=(seC A)[i]? :=Qa h.blk i
theorem BdAt.fr(h:BdAt w B p S A)(i:Nat):w.frozen? ⟨p,i,none⟩=false:=Qd h.blk i
theorem BdAt.lt(h:BdAt w B p S A):p<w.heap.size:=Qj h.blk
theorem BdAt.kn(h:BdAt w B p S A)(hk:Kn w w'):BdAt w' B p S A:=⟨hk.blk h.blk (fun x=>x),h.pl.kn hk,h.mt.kn hk,h.pr.kn hk,h.of_.kn hk,h.pB⟩
theorem BdAt.other(h:BdAt w B p S A){T:TypeId}(h1:TSt≠T)(h2:TPc≠T):∀g (c:Array Value),w.heap[g]? =some (.cells c T (0,0))→¬PSt A p g:=by
 rintro g c hg (rfl|rfl|e)
 ·exact Qn h.blk hg h1
 ·obtain⟨es,cl,hb,_⟩:=h.mt;rw[hg] at hb;injection hb with hb;cases hb
 ·obtain⟨cur,hb⟩:=QH h.pl e.symm;exact Qn hb hg h2
theorem PlKeep.refl(w:World)(p:Nat)(A:SA):PlKeep w w p A A:=⟨Qb _ _,fun _ h=> .inl h,rfl⟩
theorem PlKeep.kn(h:PlKeep w w' p A A')(hk:Kn w' w1):PlKeep w w1 p A A':=⟨h.kp.trans (Kp.weak hk),h.vp,h.rest⟩
theorem PlKeep.trans(h:PlKeep w w' p A A')(k:PlKeep w' w1 p A' A2):PlKeep w w1 p A A2:=by
 have hr:=h.rest;refine⟨h.kp.trans' k.kp (fun i hi e=> ?_),fun j hj=> ?_,by rw[k.rest,hr]⟩
 ·rcases e with e|e|e
  ·exact .inl e
  ·rw[hr] at e;exact .inr (.inl e)
  ·rcases h.vp i e.symm with h1|h1
   ·exact .inr (.inr h1.symm)
   ·omega
 ·rcases k.vp j hj with h1|h1
  ·exact h.vp j h1
  ·exact .inr (Nat.le_trans h.kp.size h1)
theorem Kn.pl(hk:Kn w w')(k:PlKeep w' w1 p A A')(hp:p<w.heap.size)(hv:∀g,A.vp.ownBlock=some g→g<w.heap.size):PlKeep w w1 p A A':=by
 refine⟨(Kp.weak hk).trans k.kp,fun j hj=> ?_,k.rest⟩;rcases k.vp j hj with h1|h1
 ·exact .inl h1
 ·exact .inr (Nat.le_trans hk.size h1)
theorem BdAt.putPlace{q:Nat×Nat}{v1:Value}{w2:World}(h:BdAt w B p S A)(hm:MapA w1 TPc A.bm (pcM S.places++[(pcV q,.int .i64 (S.places.length:Nat))]))(hk1:K1 A.bm w w1)
  (hr:OwnK w2 B TPc 2 v1 (S.places.map pcL++[pcL q])) (hk2:Kp (fun k=>some k=A.vp.ownBlock) w1 w2) (hat:v1.ownBlock=A.vp.ownBlock∨∃z,v1.ownBlock=some z∧w.heap.size≤z):
  BdAt (w2.setCell ⟨p,0,none⟩ v1) B p {S with places:=S.places++[q]} {A with vp:=v1} ∧PlKeep w (w2.setCell ⟨p,0,none⟩ v1) p A {A with vp:=v1} :=by
 have hS1:=Zc h.mt;have hb1:=Yv h.blk hk1 hS1;have hpl1:=Qy h.pl hk1 hS1;have hS2:=QL hpl1;have hb2:=Qw hb1 hk2 hS2 (by decide);have hk3:K1 p w2 (w2.setCell ⟨p,0,none⟩ v1):=Qg _ _;have hS3:=QK hb2;have hpr:=((h.pr.off hk1 (fun g c hg e=>by subst e;obtain⟨es,cl,hb,_⟩:=h.mt;rw[hg] at hb;injection hb with hb;cases hb) (fun g c hg e=>by subst e;obtain⟨es,cl,hb,_⟩:=h.mt;rw[hg] at hb;injection hb with hb;cases hb)).off hk2 (Qv hS2 (by decide)) (Qv hS2 (by decide))).off hk3 (Qv hS3 (by decide)) (Qv hS3 (by decide));have hof:=((h.of_.off hk1 (fun g c hg e=>by subst e;obtain⟨es,cl,hb,_⟩:=h.mt;rw[hg] at hb;injection hb with hb;cases hb) (fun g c hg e=>by subst e;obtain⟨es,cl,hb,_⟩:=h.mt;rw[hg] at hb;injection hb with hb;cases hb)).off hk2 (Qv hS2 (by decide)) (Qv hS2 (by decide))).off hk3 (Qv hS3 (by decide)) (Qv hS3 (by decide));refine⟨⟨by have:=Qk hb2 0 v1;simpa[seC] using this,?_,?_,hpr,hof,h.pB⟩,?_,?_,rfl⟩
 ·have:=Ql hr hk3 hS3 (by decide);rw[List.map_append];exact this
 ·rw[pcM_snoc];exact Qs (Qs hm hk2 hS2) hk3 hS3
 ·exact(((hk1.mono (fun i hi e=>Or.inr (Or.inl e))).trans' hk2 (fun i hi e=>Or.inr (Or.inr e))).trans' hk3 (fun i hi e=>Or.inl e))
 ·intro k hk;rcases hat with e|⟨z,e,hz⟩
  ·exact .inl (e▸hk)
  ·rw[show({A with vp:=v1} :SA).vp=v1 from rfl,e] at hk;injection hk with hk;subst hk;exact .inr hz
end
theorem pc_key:Keyed Tryz.prog TPc:=Keyed.of_law (deep_law (m:=4) (by decide) (by kernel_rfl) (by kernel_rfl) (by kernel_rfl))
theorem pc_fit(q:Nat×Nat)(h1:q.1≤1000000)(h2:q.2≤1000000):∃lx,keyOf Tryz.prog TPc (pcV q)=some lx:=by
 have hkt:Tryz.prog.keyType TPc=true:=by kernel_rfl
 have hc:Tryz.prog.cellsOf TPc=2:=by kernel_rfl
 have hi:Tryz.prog.cellsOf 3=1:=by kernel_rfl
 have h2':decide (2≤Tryz.prog.types.size)=true:=by kernel_rfl
 have h3:=of_decide_eq_true h2';obtain⟨d,hd⟩:∃d,Tryz.prog.types.size=d+2:=⟨Tryz.prog.types.size-2,by omega⟩;obtain⟨la,hla⟩:=int_lits (d+1) ((q.1:Nat):Int) (by omega);obtain⟨lb,hlb⟩:=int_lits (d+1) ((q.2:Nat):Int) (by omega);have hfo:(pcV q).formed Tryz.prog TPc=true:=by
  unfold Value.formed pcV;simp only[Tryz.underlying206,hc];rfl
 refine⟨.string (keyBytes [la,lb].flatten),?_⟩;unfold keyOf;simp only[Tryz.underlying206,hkt,hfo,Bool.and_self,if_true,hd];unfold pcV;simp only[Value.cells];unfold Program.keyLits;simp only[Tryz.underlying206,hc];simp[hi,hla,hlb]
theorem info_pc:(Tryz.prog.info? TPc).map (fun i=>(i.zero,i.size,i.bytes))=some (some (.agg #[.int .i64 0,.int .i64 0]),2,16):=by kernel_rfl
def SPlacePost(B p:Nat)(S:SB)(A:SA)(q:Nat×Nat)(w:World)(e:Ending)(w':World):Prop:=
 e= .returned (.int .i64 ((Ys S.places q).2:Nat))∧∃A',BdAt w' B p {S with places:=(Ys S.places q).1} A'∧PlKeep w w' p A A'
theorem look_pc1{w:World}{b:Nat}{ps:PL}{q:Nat×Nat}{j:Nat}(h1:q.1≤1000000)(h2:q.2≤1000000)(hm:MapA w TPc b (pcM ps))(hj:placeI ps q=some j):
  (Instr.lookup 139 (.map (some b)) (pcV q) true).run Tryz.prog w= .ok (.tuple #[.int .i64 (j:Nat),.bool true]) w:=by
 obtain⟨l,hl⟩:=pc_fit q h1 h2;obtain⟨hjl,hx,_⟩:=List.findIdx?_eq_some_iff_getElem.1 hj;exact hm.look1 pc_key Tryz.underlying139 hl (pcM_mem.2 ⟨ps[j],j,List.getElem?_eq_getElem hjl,by rw[of_decide_eq_true hx]⟩) true
theorem pcM_not{ps:PL}{q:Nat×Nat}(hj:placeI ps q=none):∀p∈pcM ps,p.1≠pcV q:=by
 intro p hp e;obtain⟨z,i,hz,rfl⟩:=pcM_mem.1 hp;have:=List.findIdx?_eq_none_iff.1 hj z (List.mem_of_getElem? hz);exact absurd (pcV_inj e) (of_decide_eq_false this)
theorem szero_int(w:World):(zeroValue 3).run Tryz.prog w= .ok (.int .i64 0) w:=Tryz.zeroValue3 w
theorem look_pc0{w:World}{b:Nat}{ps:PL}{q:Nat×Nat}(h1:q.1≤1000000)(h2:q.2≤1000000)(hm:MapA w TPc b (pcM ps))(hj:placeI ps q=none):
  (Instr.lookup 139 (.map (some b)) (pcV q) true).run Tryz.prog w= .ok (.tuple #[.int .i64 0,.bool false]) w:=by
 obtain⟨l,hl⟩:=pc_fit q h1 h2;exact hm.look0 pc_key Tryz.underlying139 (szero_int w) hl (pcM_not hj) true
theorem put_pc{w:World}{b n:Nat}{ps:PL}{q:Nat×Nat}(h1:q.1≤1000000)(h2:q.2≤1000000)(hm:MapA w TPc b (pcM ps))(hj:placeI ps q=none):
  ∃w',(Instr.mapUpdate 139 (.map (some b)) (pcV q) (.int .i64 (n:Nat))).run Tryz.prog w= .ok () w'∧MapA w' TPc b (pcM ps++[(pcV q,.int .i64 (n:Nat))])∧K1 b w w':=by
 obtain⟨l,hl⟩:=pc_fit q h1 h2;exact hm.put0 pc_key Tryz.underlying139 hl (pcM_not hj) _
theorem splace_c{B p:Nat}{S:SB}{A:SA}{w:World}(q:Nat×Nat)(h:BdAt w B p S A)(h1:q.1≤1000000)(h2:q.2≤1000000)(hl:S.places.length≤1000):
  Calls Tryz.prog 113 #[ptr p,pcV q] w (SPlacePost B p S A q w):=by
 obtain⟨x,y⟩:=q;dsimp only at h1 h2;have hpl:=h.lt;obtain⟨w1,hw1⟩:∃z,z=w.alloc (.cells #[.int .i64 (x:Nat),.int .i64 (y:Nat)] TPc):=⟨_,rfl⟩;have hk1:Kn w w1:=by rw[hw1];exact(Qb _ _).alloc _
 obtain⟨b3,hb3⟩:∃z,z=w.heap.size:=⟨_,rfl⟩;have hbb:w1.heap[b3]? =some (.cells #[.int .i64 (x:Nat),.int .i64 (y:Nat)] TPc (0,0)):=by rw[hw1,hb3];exact Qf _ _
 have hr1:=h.kn hk1;have y0:w1.cell? ⟨b3,0,none⟩=some (.int .i64 (x:Nat)):=by rw[Qa hbb];try rfl
 have y1:w1.cell? ⟨b3,1,none⟩=some (.int .i64 (y:Nat)):=by rw[Qa hbb];try rfl
 obtain⟨a0,c0,hv0,hc1,hc2,hg⟩:=h.pl.row (fun C hC=>by obtain⟨x,_,rfl⟩:=List.mem_map.1 hC;rfl);rw[List.length_map] at hv0;have x0:=hr1.cell 0;have x1:=hr1.cell 1;change w1.cell? ⟨p,0,none⟩=some A.vp at x0;change w1.cell? ⟨p,1,none⟩=some (.map (some A.bm)) at x1;rw[hv0] at x0;have H:=Qh h;have HR1:=Qh hr1;have HK1:=Qh hk1;have HV:=Qh hv0;have HW:=Qh (And.intro hw1 hb3);have HBB:=Qh hbb;cases hj:placeI S.places (x,y) with
 |some j=>
  have hlk:∀n,(Instr.lookup 139 (.map (some A.bm)) (.agg #[.int .i64 (x:Nat),.int .i64 (y:Nat)]) true).run Tryz.prog (w1.drewN n)= .ok (.tuple #[.int .i64 (j:Nat),.bool true]) (w1.drewN n):=fun n=>look_pc1 h1 h2 (HR1.out.mt.kn ((Qb _ _).drewN n)) hj
  have hF:Hid (Ys S.places (x,y)=(S.places,j)):=Qh (by unfold Ys;rw[hj]);clear h hr1 hk1 hv0 hw1 hb3 hbb hj hg;unfold pcV;go_enter Tryz.func113,Tryz.ntmps113;go_upto_region 1 with fail
  rw[←HW.out.1,←HW.out.2];go_quiet (fail)
  go_wp2_with fail
  go_ret;exact⟨by rw[hF.out];try rfl,A,by rw[hF.out];exact HR1.out.kn ((Qb _ _).drewN _),(PlKeep.refl _ _ _).kn (HK1.out.drewN _)⟩
 |none=>
  have hlk:∀n,(Instr.lookup 139 (.map (some A.bm)) (.agg #[.int .i64 (x:Nat),.int .i64 (y:Nat)]) true).run Tryz.prog (w1.drewN n)= .ok (.tuple #[.int .i64 0,.bool false]) (w1.drewN n):=fun n=>look_pc0 h1 h2 (HR1.out.mt.kn ((Qb _ _).drewN n)) hj
  have hF:Hid (Ys S.places (x,y)=(S.places++[(x,y)],S.places.length)):=Qh (by unfold Ys;rw[hj]);have HJ:=Qh hj;clear h hr1 hk1 hv0 hw1 hb3 hbb hj hg;unfold pcV;go_enter Tryz.func113,Tryz.ntmps113;go_upto_region 1 with fail
  rw[←HW.out.1,←HW.out.2];go_quiet (fail)
  clear hlk;obtain⟨w2,hw2⟩:∃z,z=w1.drewN nq:=⟨_,rfl⟩;have hk2:Kn w1 w2:=by rw[hw2];exact(Qb _ _).drewN _
  rw[←hw2];have z0:=Qc hk2 x0;have z1:=Qc hk2 x1;have u0:=Qc hk2 y0;have u1:=Qc hk2 y1;have HK2:=Qh hk2;clear x0 x1 y0 y1 hw2 hk2;go_wp2_with fail
  refine rgn (fun w'=>w'.cell? ⟨p,1,none⟩=some (.map (some A.bm))∧w'.cell? ⟨b3,0,none⟩=some (.int .i64 (x:Nat))∧w'.cell? ⟨b3,1,none⟩=some (.int .i64 (y:Nat))) (X:=[]) ⟨Qc ((Qb _ _).drew) z1,Qc ((Qb _ _).drew) u0,Qc ((Qb _ _).drew) u1⟩ (fun hX hHeld=> ?_);refine tw 0 23 ?_;refine tw 1 24 ?_;refine tw 2 25 ?_;refine tk 3 26 ?_;refine tk 4 27 ?_;refine tw 5 28 ?_;refine re 6 (fun K hK=> ?_);obtain⟨wd,hwd⟩:∃z,z=w2.drew:=⟨_,rfl⟩;have hk3:Kn w2 wd:=by rw[hwd];exact(Qb _ _).drew
  have HK3:=Qh hk3;have HB3:=Qh (HR1.out.kn (HK2.out.trans hk3));obtain⟨w3,hrun,hm3,hk4⟩:=put_pc (n:=S.places.length) h1 h2 HB3.out.mt HJ.out;unfold pcV at hrun;dsimp only at hrun;rw[←hwd] at hHeld⊢;clear hwd;go_simp;refine hK.out _ _ ?_;have q0:=Qi hk4 (Qc hk3 z0) (fun e=>by obtain⟨es,cl,hb,_⟩:=HB3.out.mt;have h9:=HB3.out.blk;rw[show p=A.bm from e] at h9;rw[h9] at hb;injection hb with hb;cases hb);have u30:=Qi hk4 (Qc hk3 u0) (fun e=>by obtain⟨es,cl,hb,_⟩:=HB3.out.mt;have h9:=HBB.out;rw[show b3=A.bm from e] at h9;have h8:=(HK2.out.trans hk3).blk h9 (fun x=>x);rw[h8] at hb;injection hb with hb;cases hb);have u31:=Qi hk4 (Qc hk3 u1) (fun e=>by obtain⟨es,cl,hb,_⟩:=HB3.out.mt;have h9:=HBB.out;rw[show b3=A.bm from e] at h9;have h8:=(HK2.out.trans hk3).blk h9 (fun x=>x);rw[h8] at hb;injection hb with hb;cases hb);have HM3:=Qh (And.intro hm3 hk4);clear hrun hm3 hk4 hk3 z0 z1 u0 u1 hHeld;clear hK K;go_wp2_with fail
  refine rgn (fun w'=>w'.cell? ⟨p,0,none⟩=some (.slice a0 S.places.length c0)∧w'.cell? ⟨b3,0,none⟩=some (.int .i64 (x:Nat))∧w'.cell? ⟨b3,1,none⟩=some (.int .i64 (y:Nat))) (X:=[]) ⟨Qc ((Qb _ _).drew) q0,Qc ((Qb _ _).drew) u30,Qc ((Qb _ _).drew) u31⟩ (fun hX hHeld=> ?_);refine tw 0 29 ?_;refine tw 1 30 ?_;refine tw 2 31 ?_;refine tw 3 32 ?_;refine tk 4 33 ?_;refine tk 5 34 ?_;refine ro 6 (fun K hK=> ?_);obtain⟨w4,hw4⟩:∃z,z=w3.drew:=⟨_,rfl⟩;have hk4:Kn w3 w4:=by rw[hw4];exact(Qb _ _).drew
  rw[←hw4] at hHeld⊢;clear hw4;go_simp;obtain⟨w5,hw5⟩:∃z,z=w4.alloc (.cells #[.int .i64 (x:Nat),.int .i64 (y:Nat)] TPc):=⟨_,rfl⟩;obtain⟨ge,hge⟩:∃z,z=w4.heap.size:=⟨_,rfl⟩;have GE:w5.heap[ge]? =some (.cells #[.int .i64 (x:Nat),.int .i64 (y:Nat)] TPc (0,0)):=by rw[hw5,hge];exact Qf _ _
  have hk5:Kn w4 w5:=by rw[hw5];exact(Qb _ _).alloc _
  have HK5:=Qh (hk4.trans hk5);rw[←hw5,←hge];refine hK.out _ _ (⟨Qc hk5 hHeld.1,Qc hk5 hHeld.2.1,Qc hk5 hHeld.2.2⟩) (fun hHeld=> ?_);clear hk4 hw5 hk5 hge q0 u30 u31;clear hK K
  try simp only[PP]
  refine ro 7 (fun K hK=> ?_);have hown:OwnK w5 B TPc 2 (.slice a0 S.places.length c0) (S.places.map pcL):=by have h9:=(Qy HB3.out.pl HM3.out.2 (Zc HB3.out.mt));rw[HV.out] at h9;exact OwnK.kn h9 HK5.out
  obtain⟨ie,hi,hz0,hz1,hz2⟩:=info_parts info_pc;refine Qq w5 (by rfl) _ _ 101 (by rfl) B TPc ie (.agg #[.int .i64 0,.int .i64 0]) 2 16 Tryz.underlying101 hi hz0 hz1 hz2 (by rfl) (by decide) (.slice a0 S.places.length c0) (S.places.map pcL) (by rfl) hown ge 1 (by rfl) #[.int .i64 (x:Nat),.int .i64 (y:Nat)] TPc (0,0) GE (by rfl) (by simp[Value.oneCell']) (by rw[List.length_map];simp only[maxLen];omega) (by rw[List.length_map];omega) (by have:=H.out.pB.1;have:=H.out.lt;have:=(HK1.out.trans (HK2.out.trans HK3.out)).size;have:=HM3.out.2.size;have:=HK5.out.size;omega) ?_;intro v1 w6 hown1 hka hat;have hp6:w6.heap[p]? =some (.cells (seC A) TSt (0,0)):=Qw (HK5.out.blk (Yv HB3.out.blk HM3.out.2 (Zc HB3.out.mt)) (fun x=>x)) hka (QL hown) (by decide);have hq6:w6.cell? ⟨p,0,none⟩=some (.slice a0 S.places.length c0):=by rw[Qa hp6,←HV.out];try rfl
  have hf6:=Qd hp6 0;obtain⟨av,cv,hv1,_⟩:=hown1.row (k:=2) (fun C hC=>by rcases List.mem_append.1 hC with h|h;obtain⟨x,_,rfl⟩:=List.mem_map.1 h;rfl;simp at h;rw[h];try rfl);have hv1:v1= .slice av (S.places.length+1) cv:=by rw[hv1,List.length_append,List.length_map];try rfl
  have HV1:=Qh hv1;have HP:=Qh (BdAt.putPlace (w:=wd) (q:=(x,y)) HB3.out HM3.out.1 HM3.out.2 hown1 ((Kp.weak HK5.out).trans (by rw[HV.out];exact hka)) (by rw[HV.out];rcases hat with e|e;exact .inl e;exact .inr ⟨_,e,Nat.le_trans HM3.out.2.size HK5.out.size⟩));have hb39:∀i:Nat,¬some (⟨b3,i,none⟩:Addr).block=(Value.slice a0 S.places.length c0).ownBlock:=fun i e=>by have:=(H.out.pl.lt b3 (by rw[HV.out];exact e.symm)).2;have:=HW.out.2;omega
  refine hK.out _ _ (⟨hq6,Qi hka hHeld.2.1 (hb39 0),Qi hka hHeld.2.2 (hb39 1)⟩) (fun hHeld=> ?_);clear hb39 hown hown1 hka hat hi hz0 hz1 hz2 hv1 hp6 GE;clear hK K
  try simp only[PP]
  refine tw 8 37 ?_;refine tw 9 38 ?_;refine re 10 (fun K hK=> ?_);rw[HV1.out];go_simp;rw[←HV1.out];refine hK.out _ _ ?_;clear hHeld hq6 hf6;clear hK K;go_wp2_with fail
  go_ret;have HP2:=HP.out;rw[HV1.out] at HP2;exact⟨by rw[hF.out];try rfl,_,by rw[hF.out];exact HP2.1,Kn.pl (HK1.out.trans (HK2.out.trans HK3.out)) HP2.2 H.out.lt (fun g hg=>(H.out.pl.lt g hg).2)⟩
abbrev M41:Nat:=2199023255552
def bV1(x:Nat):Value:= .agg #[.int .u64 (x:Nat)]
theorem or_lt{x y:Nat}(hx:x<M41)(hy:y<M41):x|||y<M41:=Nat.or_lt_two_pow (n:=41) hx hy
theorem or_u64{x y:Nat}(hx:x<M41)(hy:y<M41):bits .or .u64 (x:Int) (y:Int)=((x|||y:Nat):Int):=by
 have e:M41=2199023255552:=rfl;rw[u64_or _ _ (by omega) (by omega) (by omega) (by omega)];simp
theorem pow_u64{m:Nat}(h:m≤40):IntKind.u64.wrap ((2:Int)^m)=((2^m:Nat):Int):=by
 have h1:(2:Nat)^m≤2^40:=Nat.pow_le_pow_right (by omega) h;have e:((2:Int)^m)=((2^m:Nat):Int):=by simp
 rw[IntKind.wrap_u64,e];generalize (2:Nat)^m=z at*;omega
theorem oneB_lt(n:Int):YG n<M41:=by
 unfold YG;split
 ·decide
 ·have h:n.toNat<41:=by omega
  exact Nat.pow_lt_pow_right (by omega) h
theorem resB{fn:Func}{t:Tmp}{tmps:Array Value}{W:World}{b:Nat}{x:Value}(h:fn.results= #[.cell t TBi])(ht:tmps[t]?.getD undef=ptr b)(hb:W.cell? ⟨b,0,none⟩=some x):(results fn tmps).run Tryz.prog W= .ok (.agg #[x]) W:=by
 simp[results,h,ht,go_sem,hb]
theorem resBT{fn:Func}{t u:Tmp}{tmps:Array Value}{W:World}{b:Nat}{x y:Value}(h:fn.results= #[.cell t TBi,.tmp u])(ht:tmps[t]?.getD undef=ptr b)(hu:tmps[u]?.getD undef=y)(hb:W.cell? ⟨b,0,none⟩=some x):(results fn tmps).run Tryz.prog W= .ok (.tuple #[.agg #[x],y]) W:=by
 simp[results,h,ht,hu,go_sem,hb]
theorem new_cell(w:World)(x:Value)(T:TypeId):(w.alloc (.cells #[x] T)).cell? ⟨w.heap.size,0,none⟩=some x:=by rw[Qa (Qf w _)];try rfl
theorem QI{w:World}{b:Nat}{a v:Value}{T:TypeId}{fr:Nat×Nat}(hb:w.heap[b]? =some (.cells #[a] T fr)):(w.setCell ⟨b,0,none⟩ v).cell? ⟨b,0,none⟩=some v:=by rw[Qa (Qk hb 0 v)];try rfl
theorem sone_c(n:Int)(w:World):Calls Tryz.prog 68 #[.int .i64 n] w fun e w'=>e= .returned (bV1 (YG n))∧Kn w w':=by
 by_cases h0:n<0
 ·have hF:YG n=0:=by unfold YG;rw[if_pos (.inl h0)]
  have HF:=Qh hF;clear hF;go_enter Tryz.func68,Tryz.ntmps68;go_wp2_with fail
  refine bodyPost_ret (v:=bV1 (YG n)) (resB rfl rfl ?_) rfl ⟨rfl,(Qb _ _).alloc _⟩;rw[new_cell,HF.out];try rfl
 ·by_cases h1:40<n
  ·have hF:YG n=0:=by unfold YG;rw[if_pos (.inr h1)]
   have HF:=Qh hF;clear hF;go_enter Tryz.func68,Tryz.ntmps68;go_wp2_with fail
   refine bodyPost_ret (v:=bV1 (YG n)) (resB rfl rfl ?_) rfl ⟨rfl,(Qb _ _).alloc _⟩;rw[new_cell,HF.out];try rfl
  ·obtain⟨m,rfl⟩:=Int.eq_ofNat_of_zero_le (show 0≤n by omega);have hm:m≤40:=by omega
   have hF:YG (m:Int)=2^m:=by unfold YG;rw[if_neg (by omega)];simp
   have HF:=Qh hF;clear hF;go_enter Tryz.func68,Tryz.ntmps68;go_wp2_with fail
   refine bodyPost_ret (v:=bV1 (YG m)) (resB rfl rfl ?_) rfl ⟨rfl,(Qb _ _).alloc _⟩;rw[new_cell,HF.out,pow_u64 hm]
theorem swith_c(x y:Nat)(hx:x<M41)(hy:y<M41)(w:World):Calls Tryz.prog 116 #[.agg #[.int .u64 (x:Nat)],.agg #[.int .u64 (y:Nat)]] w fun e w'=>e= .returned (.agg #[.int .u64 ((x|||y:Nat):Int)])∧Kn w w':=by
 have HO:=Qh (or_u64 hx hy);clear hx hy;go_enter Tryz.func116,Tryz.ntmps116;go_wp2_with fail
 refine bodyPost_ret (v:= .agg #[.int .u64 ((x|||y:Nat):Int)]) (resB rfl rfl ?_) rfl ⟨rfl,(((Qb _ _).alloc _).alloc _).alloc _⟩;have:=new_cell ((w.alloc (.cells #[.int .u64 (x:Nat)] TBi)).alloc (.cells #[.int .u64 (y:Nat)] TBi)) (.int .u64 (bits .or .u64 (x:Int) (y:Int))) TBi;rw[size_alloc',size_alloc'] at this;rw[this,HO.out]
theorem listB_step(x k:Nat):(List.range (k+1)).filter (fun n=>x.testBit n)=if x.testBit k=true then(List.range k).filter (fun n=>x.testBit n)++[k] else(List.range k).filter (fun n=>x.testBit n):=by
 rw[List.range_succ,List.filter_append];split
 ·rename_i h;simp[h]
 ·rename_i h;simp[h]
theorem bit_x{x:Nat}(hx:x<M41)(k:Nat):(bits .and .u64 ((x:Int)/2^k) 1==1)=x.testBit k:=by
 have e:((x:Int)/2^k)=((x/2^k:Nat):Int):=by simp
 have e2:M41=2199023255552:=rfl;have hlt:x/2^k<18446744073709551616:=Nat.lt_of_le_of_lt (Nat.div_le_self _ _) (by omega);rw[e,Nat.testBit_eq_decide_div_mod_eq];generalize x/2^k=m at*;have:=u64_and_nat m 1 hlt (by omega);rw[show((1:Nat):Int)=1 from rfl] at this;rw[this,Nat.and_one_is_mod,Bool.eq_iff_iff];simp only[beq_iff_eq,decide_eq_true_eq];omega
theorem list_c(x:Nat)(hx:x<M41)(w:World):Calls Tryz.prog 176 #[.agg #[.int .u64 (x:Nat)]] w fun e w'=>∃v,e= .returned v∧OwnI w' w.heap.size v (listB x)∧Kn w w':=by
 obtain⟨b1,hb1⟩:∃z,z=w.heap.size:=⟨_,rfl⟩;obtain⟨w1,hw1⟩:∃z,z=w.alloc (.cells #[.int .u64 (x:Nat)] TBi):=⟨_,rfl⟩;have hk1:Kn w w1:=by rw[hw1];exact(Qb _ _).alloc _
 have hc1:w1.cell? ⟨b1,0,none⟩=some (.int .u64 (x:Nat)):=by rw[hw1,hb1];exact new_cell _ _ _
 have HW:=Qh (And.intro hw1 hb1);obtain⟨i0,hi,hz0,hz1,hz2⟩:=info_parts info_int;have HI:=Qh (And.intro hi (And.intro hz0 (And.intro hz1 hz2)));have hBB:w1.heap[b1]? =some (.cells #[.int .u64 (x:Nat)] TBi (0,0)):=by rw[hw1,hb1];exact Qf _ _
 have HBB:=Qh hBB;clear hw1 hb1 hi hz0 hz1 hz2 hBB;go_enter Tryz.func176,Tryz.ntmps176;go_upto_region 1 with fail
 rw[←HW.out.1,←HW.out.2];go_wp2_with fail
 go_loopw [3,5] (fun s3 s5 wr=>∃(k:Nat) (v:Value),v=s3∧s5= .int .i64 k∧k≤41∧Hid (OwnI wr w.heap.size v ((List.range k).filter (fun n=>x.testBit n)))∧Kn w wr∧Hid (wr.heap[b1]? =some (.cells #[.int .u64 (x:Nat)] TBi (0,0)))) (fun _ s5 _=>41-(intOf s5).toNat)
 case atStart=>exact⟨0,_,rfl,rfl,Nat.zero_le _,Qh (World.ownsRow_nil _ _ _ _),hk1,HBB⟩
 case round=>
  obtain⟨k,v,rfl,rfl,hk,hov,hkn,hB⟩:=hrel;have hc:wr.cell? ⟨b1,0,none⟩=some (.int .u64 (x:Nat)):=by rw[Qa hB.out];try rfl
  by_cases hlt:k<41
  ·have hbi:(k:Int)<41:=by omega
   have hST:=listB_step x k;have hkw:=hkn.size;have hll:((List.range k).filter (fun n=>x.testBit n)).length≤41:=Nat.le_trans (List.length_filter_le _ _) (by rw[List.length_range];omega);cases hb:x.testBit k with
   |false=>
    rw[hb,if_neg (by simp)] at hST;have HST:=Qh hST;have hbx:=(bit_x hx k).trans hb;clear hST hb;go_wp2_with fail
    go_roundw
    case rel=>exact⟨k+1,v,rfl,by go_num,by omega,Qh (by rw[HST.out];exact hov.out),hkn,hB⟩
    case measure=>simp[intOf];omega
   |true=>
    rw[hb,if_pos rfl] at hST;have HST:=Qh hST;have hbx:=(bit_x hx k).trans hb;clear hST hb;go_wp2_with (at_builtin;refine QG rfl (.tmp 14) (.tmp 16) rfl w.heap.size wr.heap.size v _ _ [k] rfl rfl (QC hov.out (Kp.alloc (S:=fun _=>False) (Qb _ _) _) (fun _ _ x=>x)) (OwnI.one _ _) (by rw[List.length_singleton];omega) (by rw[size_alloc'];omega) ?_;intro v' w' hro hk';have HB2:=Qh (hk'.blk (Qm hB.out (.cells #[.int .i64 (k:Nat)] 3)) (fun e=>by obtain⟨cur,h9⟩:=QH hov.out e.symm;exact Qn hB.out h9 (by decide))))
    go_roundw
    case rel=>exact⟨k+1,v',rfl,by go_num,by omega,Qh (by rw[HST.out];exact hro),(hkn.alloc _).trans' hk' (fun i hi e=>by have:=(hov.out.lt i e.symm).1;omega),HB2⟩
    case measure=>simp[intOf];omega
  ·obtain rfl:k=41:=by omega
   go_wp2_with fail
   go_ret;exact⟨v,rfl,hov.out,hkn⟩
structure SBok (S:SB):Prop where
 pos:0<S.places.length
 le:S.places.length≤500
 ll:S.l.length≤60000
 pr:∀p∈S.l,p.place<S.places.length∧p.rule≤1000000∧p.syms.length≤20∧∀y∈p.syms,if y.place=true then 0≤y.n∧y.n<S.places.length else 0≤y.n∧y.n≤1000
 own:S.own.length=S.places.length
structure StAt (w:World) (B p:Nat) (S:SB) (A:SA) (E:List Bool) (F W:List Nat) (ge gf gw:Nat):Prop where
 blk:w.heap[p]? =some (.cells (seC A) TSt (0,0))
 pl:OwnK w B TPc 2 A.vp (S.places.map pcL)
 pr:PrAt w B A.vl S.l A.vls
 of_:OfAt w B A.vo S.own A.vos
 ve:A.ve= .slice (some ⟨ge,0,none⟩) S.places.length S.places.length
 vf:A.vf= .slice (some ⟨gf,0,none⟩) S.places.length S.places.length
 vw:A.vw= .slice (some ⟨gw,0,none⟩) S.places.length S.places.length
 re:RowV w 4 ge (bV E)
 rf:RowV w TBi gf (biV F)
 rw_:RowV w TBi gw (biV W)
 el:E.length=S.places.length
 fl:F.length=S.places.length
 wl:W.length=S.places.length
 fz:∀x∈F,x<M41
 wz:∀x∈W,x<M41
 ne:gf≠gw
 pB:B≤p∧B≤ge∧B≤gf∧B≤gw
theorem biV_get{L:List Nat}{i:Nat}(hi:i<L.length):(biV L)[i]'(by simpa[biV] using hi)= .int .u64 (L.getD i 0:Nat):=by
 simp[biV,List.getD_eq_getElem?_getD,List.getElem?_eq_getElem hi]
theorem biV_len(L:List Nat):(biV L).length=L.length:=by simp[biV]
theorem biV_set(L:List Nat)(i x:Nat):(biV L).set i (.int .u64 (x:Nat))=biV (L.set i x):=by simp[biV,List.map_set]
theorem getD_lt{L:List Nat}{M:Nat}(h:∀x∈L,x<M)(hM:0<M)(i:Nat):L.getD i 0<M:=by
 rw[List.getD_eq_getElem?_getD];rcases Nat.lt_or_ge i L.length with hi|hi
 ·rw[List.getElem?_eq_getElem hi];exact h _ (List.getElem_mem hi)
 ·rw[List.getElem?_eq_none hi];exact hM
theorem set_lt{L:List Nat}{M:Nat}(h:∀x∈L,x<M)(i x:Nat)(hx:x<M):∀y∈L.set i x,y<M:=fun y hy=>by
 rcases List.mem_or_eq_of_mem_set hy with h1|rfl
 ·exact h y h1
 ·exact hx
section
variable {w w':World} {B p:Nat} {S:SB} {A:SA} {E:List Bool} {F W:List Nat} {ge gf gw:Nat}
theorem StAt.cell(h:StAt w B p S A E F W ge gf gw)(i:Nat):w.cell? ⟨p,i,none⟩=(seC A)[i]? :=Qa h.blk i
theorem StAt.fr(h:StAt w B p S A E F W ge gf gw)(i:Nat):w.frozen? ⟨p,i,none⟩=false:=Qd h.blk i
theorem StAt.lt(h:StAt w B p S A E F W ge gf gw):p<w.heap.size:=Qj h.blk
theorem StAt.kn(h:StAt w B p S A E F W ge gf gw)(hk:Kn w w'):StAt w' B p S A E F W ge gf gw:=
 ⟨hk.blk h.blk (fun x=>x),h.pl.kn hk,h.pr.kn hk,h.of_.kn hk,h.ve,h.vf,h.vw,h.re.kn hk,h.rf.kn hk,h.rw_.kn hk,h.el,h.fl,h.wl,h.fz,h.wz,h.ne,h.pB⟩
theorem StAt.pcs(h:StAt w B p S A E F W ge gf gw):∃a c,w.cell? ⟨p,0,none⟩=some (.slice a S.places.length c):=by
 obtain⟨a,c,hv,_⟩:=h.pl.row (fun C hC=>by obtain⟨x,_,rfl⟩:=List.mem_map.1 hC;rfl);rw[List.length_map] at hv;exact⟨a,c,by rw[h.cell 0,←hv];try rfl⟩
theorem StAt.c5(h:StAt w B p S A E F W ge gf gw):w.cell? ⟨p,5,none⟩=some (.slice (some ⟨ge,0,none⟩) S.places.length S.places.length):=by rw[h.cell 5,←h.ve];try rfl
theorem StAt.c6(h:StAt w B p S A E F W ge gf gw):w.cell? ⟨p,6,none⟩=some (.slice (some ⟨gf,0,none⟩) S.places.length S.places.length):=by rw[h.cell 6,←h.vf];try rfl
theorem StAt.c7(h:StAt w B p S A E F W ge gf gw):w.cell? ⟨p,7,none⟩=some (.slice (some ⟨gw,0,none⟩) S.places.length S.places.length):=by rw[h.cell 7,←h.vw];try rfl
theorem StAt.ecell(h:StAt w B p S A E F W ge gf gw){i:Nat}(hi:i<S.places.length):w.cell? ⟨ge,i,none⟩=some (.bool (E.getD i false)):=h.re.bcell (by rw[h.el];exact hi)
theorem StAt.fcell(h:StAt w B p S A E F W ge gf gw){i:Nat}(hi:i<S.places.length):w.cell? ⟨gf,i,none⟩=some (.int .u64 (F.getD i 0:Nat)):=by
 rw[h.rf.cell (by rw[biV_len,h.fl];exact hi),biV_get (by rw[h.fl];exact hi)]
theorem StAt.wcell(h:StAt w B p S A E F W ge gf gw){i:Nat}(hi:i<S.places.length):w.cell? ⟨gw,i,none⟩=some (.int .u64 (W.getD i 0:Nat)):=by
 rw[h.rw_.cell (by rw[biV_len,h.wl];exact hi),biV_get (by rw[h.wl];exact hi)]
theorem StAt.setE(h:StAt w B p S A E F W ge gf gw)(i:Nat)(b:Bool):StAt (w.setCell ⟨ge,i,none⟩ (.bool b)) B p S A (E.set i b) F W ge gf gw:=by
 have hk:K1 ge w (w.setCell ⟨ge,i,none⟩ (.bool b)):=Qg _ _;have hS:Ty (fun k=>k=ge) w 4:=QK h.re;exact⟨Qw h.blk hk hS (by decide),Ql h.pl hk hS (by decide),h.pr.off hk (Qv hS (by decide)) (Qv hS (by decide)),h.of_.off hk (Qv hS (by decide)) (Qv hS (by decide)),h.ve,h.vf,h.vw,h.re.bset i b,
  Qw h.rf hk hS (by decide),Qw h.rw_ hk hS (by decide),by rw[List.length_set];exact h.el,h.fl,h.wl,h.fz,h.wz,h.ne,h.pB⟩
theorem StAt.setF(h:StAt w B p S A E F W ge gf gw)(i x:Nat)(hx:x<M41):StAt (w.setCell ⟨gf,i,none⟩ (.int .u64 (x:Nat))) B p S A E (F.set i x) W ge gf gw:=by
 have hk:K1 gf w (w.setCell ⟨gf,i,none⟩ (.int .u64 (x:Nat))):=Qg _ _;have hS:Ty (fun k=>k=gf) w TBi:=QK h.rf;have hn:=h.ne;exact⟨Qw h.blk hk hS (by decide),Ql h.pl hk hS (by decide),h.pr.off hk (Qv hS (by decide)) (Qv hS (by decide)),h.of_.off hk (Qv hS (by decide)) (Qv hS (by decide)),h.ve,h.vf,h.vw,
  Qw h.re hk hS (by decide),by have:=h.rf.set i (.int .u64 (x:Nat));rwa[biV_set] at this,h.rw_.kp hk (fun e=>hn e.symm),h.el,by rw[List.length_set];exact h.fl,h.wl,set_lt h.fz i x hx,h.wz,h.ne,h.pB⟩
theorem StAt.setW(h:StAt w B p S A E F W ge gf gw)(i x:Nat)(hx:x<M41):StAt (w.setCell ⟨gw,i,none⟩ (.int .u64 (x:Nat))) B p S A E F (W.set i x) ge gf gw:=by
 have hk:K1 gw w (w.setCell ⟨gw,i,none⟩ (.int .u64 (x:Nat))):=Qg _ _;have hS:Ty (fun k=>k=gw) w TBi:=QK h.rw_;have hn:=h.ne;exact⟨Qw h.blk hk hS (by decide),Ql h.pl hk hS (by decide),h.pr.off hk (Qv hS (by decide)) (Qv hS (by decide)),h.of_.off hk (Qv hS (by decide)) (Qv hS (by decide)),h.ve,h.vf,h.vw,
  Qw h.re hk hS (by decide),h.rf.kp hk (fun e=>hn e),by have:=h.rw_.set i (.int .u64 (x:Nat));rwa[biV_set] at this,h.el,h.fl,by rw[List.length_set];exact h.wl,h.fz,set_lt h.wz i x hx,h.ne,h.pB⟩
end
def SyR(w:World)(g off:Nat)(l:List SY):Prop:=∀i (h:i<l.length),w.cell? ⟨g,off+i*2,none⟩=some (.bool l[i].place)∧w.cell? ⟨g,off+i*2+1,none⟩=some (.int .i64 l[i].n)
def SyS(w:World)(a:Option Addr)(l:List SY):Prop:=l≠[]→∃g off,a=some ⟨g,off,none⟩∧SyR w g off l
theorem SyS.kn{w w':World}{a:Option Addr}{l:List SY}(h:SyS w a l)(hk:Kn w w'):SyS w' a l:=fun hne=>by
 obtain⟨g,off,ha,h1⟩:=h hne;exact⟨g,off,ha,fun i hi=>⟨Qc hk (h1 i hi).1,Qc hk (h1 i hi).2⟩⟩
theorem SyS.of{w:World}{B:Nat}{v:Value}{l:List SY}(h:OwnK w B TSy 2 v (l.map syL)):∃a c,v= .slice a l.length c∧l.length≤c∧c≤maxLen∧(l≠[]→∃g,a=some ⟨g,0,none⟩∧SyR w g 0 l∧∃cur,w.heap[g]? =some (.cells cur TSy (0,0))):=by
 obtain⟨a,c,hv,h1,h2,hg⟩:=h.row (fun C hC=>by obtain⟨x,_,rfl⟩:=List.mem_map.1 hC;rfl);rw[List.length_map] at hv h1;refine⟨a,c,hv,h1,h2,fun hne=> ?_⟩;obtain⟨g,ha,_,ho,hc⟩:=hg (by simpa using hne);refine⟨g,ha,fun i hi=> ?_,QH h ho⟩;have e0:=(hc i (by simpa using hi) 0 (by omega)).1;have e1:=(hc i (by simpa using hi) 1 (by omega)).1;rw[show 0+2*i+0=0+i*2 by omega] at e0;rw[show 0+2*i+1=0+i*2+1 by omega] at e1;rw[e0,e1];simp[syL]
theorem beginsF_lt{E:List Bool}{F:List Nat}(hF:∀x∈F,x<M41):∀(l:List SY) (x:Nat),x<M41→(Qx E F x l).1<M41
 |[],x,h=>h
 |y::l,x,h=>by
  unfold Qx;split
  ·exact or_lt h (oneB_lt _)
  ·split
   ·exact h
   ·have h1:=or_lt h (getD_lt hF (by decide) y.n.toNat);split
    ·exact beginsF_lt hF l _ h1
    ·exact h1
theorem with_kn(x y:Nat)(hx:x<M41)(hy:y<M41)(w:World):Calls Tryz.prog 116 #[.agg #[.int .u64 (x:Nat)],.agg #[.int .u64 (y:Nat)]] w fun e w'=>e= .returned (.agg #[.int .u64 ((x|||y:Nat):Int)])∧Kn w w':=swith_c x y hx hy w
theorem beginsF_step(E:List Bool)(F:List Nat)(x:Nat)(l:List SY)(k:Nat)(hk:k<l.length):Qx E F x (l.drop k)=if l[k].place=false then(x|||YG l[k].n,false) else if l[k].n<0∨(E.length:Int)≤l[k].n then(x,false)
  else if E.getD l[k].n.toNat false=true then Qx E F (x|||F.getD l[k].n.toNat 0) (l.drop (k+1)) else(x|||F.getD l[k].n.toNat 0,false):=by
 rw[List.drop_eq_getElem_cons hk];try rfl
theorem begins_c{B p c ge gf gw:Nat}{a:Option Addr}{S:SB}{A:SA}{E:List Bool}{F W:List Nat}{w:World}(l:List SY)(h:StAt w B p S A E F W ge gf gw)(hS:S.places.length≤500)(hl:SyS w a l)(hll:l.length≤1000000):
  Calls Tryz.prog 115 #[ptr p,.slice a l.length c] w fun e w'=>e= .returned (.tuple #[.agg #[.int .u64 ((Qx E F 0 l).1:Nat)],.bool (Qx E F 0 l).2])∧Kn w w':=by
 have HEL:=h.el;have hFl:=h.fz;have hpl:=h.lt;have H:=Qh h;have HL:=Qh hl;obtain⟨b4,hb4⟩:∃z,z=w.heap.size:=⟨_,rfl⟩;obtain⟨b6,hb6⟩:∃z,z=w.heap.size+1:=⟨_,rfl⟩;obtain⟨w1,hw1⟩:∃z,z=(w.alloc (.cells #[.int .u64 0] TBi)).alloc (.cells #[.int .u64 0] TBi):=⟨_,rfl⟩;have hk1:Kn w w1:=by rw[hw1];exact((Qb _ _).alloc _).alloc _
 have hB4:w1.heap[b4]? =some (.cells #[.int .u64 0] TBi (0,0)):=by rw[hw1,hb4];exact Qm (Qf _ _) _
 have hB6:w1.heap[b6]? =some (.cells #[.int .u64 0] TBi (0,0)):=by
  have:=Qf (w.alloc (.cells #[.int .u64 0] TBi)) (.cells #[.int .u64 0] TBi);rw[size_alloc',←hb6,←hw1] at this;exact this
 have n46:b4≠b6:=by omega
 have hb4w:w.heap.size≤b4:=by omega
 have hb6w:w.heap.size≤b6:=by omega
 have HW:=Qh (And.intro hw1 (And.intro hb4 hb6));have HB4:=Qh hB4;have HB6:=Qh hB6;have HZ0:Hid ((0:Nat)<M41):=Qh (by decide);clear h hl hw1 hb4 hb6 hB4 hB6;go_enter Tryz.func115,Tryz.ntmps115;go_upto_region 2 with fail
 rw[←HW.out.1,←HW.out.2.2,←HW.out.2.1];go_wp2_with fail
 go_loopw [11] (fun s11 wr=>∃(k x:Nat),s11= .int .i64 k∧k≤l.length∧Hid (Qx E F x (l.drop k)=Qx E F 0 l)∧x<M41∧Hid (wr.heap[b6]? =some (.cells #[.int .u64 (x:Nat)] TBi (0,0)))∧Hid (wr.heap[b4]? =some (.cells #[.int .u64 0] TBi (0,0)))∧Kn w wr) (fun s11 _=>l.length-(intOf s11).toNat)
 case atStart=>exact⟨0,0,rfl,Nat.zero_le _,Qh rfl,HZ0.out,HB6,HB4,hk1⟩
 case round=>
  clear HB4 HB6 hk1 HW;obtain⟨k,x,rfl,hk,hbf,hx,hb6,hb4,hkn⟩:=hrel;have c6:wr.cell? ⟨b6,0,none⟩=some (.int .u64 (x:Nat)):=by rw[Qa hb6.out];try rfl
  have c4:wr.cell? ⟨b4,0,none⟩=some (.int .u64 0):=by rw[Qa hb4.out];try rfl
  have f4:=Qd hb4.out 0;have l4:=Qj hb4.out;have l6:=Qj hb6.out;by_cases hlt:k<l.length
  ·obtain⟨g,off,rfl,hc⟩:=HL.out (fun e=>by rw[e] at hlt;simp at hlt);obtain⟨c0,c1⟩:=hc k hlt;have x0:=Qc hkn c0;have x1:=Qc hkn c1;have HST:=Qh (beginsF_step E F x l k hlt);obtain⟨y,hy⟩:∃y,y=l[k]:=⟨_,rfl⟩;rw[←hy] at x0 x1 HST;have hgl:=World.block_lt_of_cell? wr _ x0;obtain⟨w2,hw2⟩:∃z,z=wr.alloc (.cells #[.bool y.place,.int .i64 y.n] TSy):=⟨_,rfl⟩;have hk2:Kn wr w2:=by rw[hw2];exact(Qb _ _).alloc _
   obtain⟨b8,hb8⟩:∃z,z=wr.heap.size:=⟨_,rfl⟩;have hB8:w2.heap[b8]? =some (.cells #[.bool y.place,.int .i64 y.n] TSy (0,0)):=by rw[hw2,hb8];exact Qf _ _
   have n84:b8≠b4:=by omega
   have n86:b8≠b6:=by omega
   have y0:w2.cell? ⟨b8,0,none⟩=some (.bool y.place):=by rw[Qa hB8];try rfl
   have y1:w2.cell? ⟨b8,1,none⟩=some (.int .i64 y.n):=by rw[Qa hB8];try rfl
   have hkn2:=hkn.trans hk2;have d6:=Qc hk2 c6;have d4:=Qc hk2 c4;have f42:=Qd (hk2.blk hb4.out (fun x=>x)) 0;have HB42:=Qh (hk2.blk hb4.out (fun x=>x));have HB62:=Qh (hk2.blk hb6.out (fun x=>x));have HW2:=Qh (And.intro hw2 hb8);clear hy hc c0 c1 hw2 hb8 hk2 hB8;go_upto_region 5 with fail
   rw[←HW2.out.1,←HW2.out.2];clear x0 x1 HW2 c6 c4 f4 hgl hb6 hb4 hkn;cases hyp:y.place with
   |false=>
    rw[hyp] at y0;have hF:Hid (Qx E F 0 l=(x|||YG y.n,false)):=Qh (by rw[←hbf.out,HST.out,if_pos hyp]);have ho:=oneB_lt y.n;clear hyp HST hbf;go_wp2_with fail
    refine rgn (fun w'=>w'.cell? ⟨b6,0,none⟩=some (.int .u64 (x:Nat))∧w'.cell? ⟨b8,1,none⟩=some (.int .i64 y.n)) (X:=[]) ⟨Qc ((Qb _ _).drew) d6,Qc ((Qb _ _).drew) y1⟩ (fun hX hHeld=> ?_);refine tk 0 18 ?_;refine tw 1 19 ?_;refine tk 2 20 ?_;refine ro 3 (fun K hK=> ?_);go_simp
    go_at_call 68
    refine(sone_c y.n _).mono ?_;rintro e w4 ⟨rfl,hk4⟩;refine hK.out _ _ (⟨Qc hk4 hHeld.1,Qc hk4 hHeld.2⟩) (fun hHeld=> ?_);clear hK K
    try simp only[PP]
    refine ro 4 (fun K hK=> ?_);go_simp
    go_at_call 116
    refine(with_kn x (YG y.n) hx ho _).mono ?_;rintro e w5 ⟨rfl,hk5⟩;have hk25:Kn w2 w5:=(((Qb _ _).drew).trans hk4).trans hk5;have g4:=Qc hk25 d4;have fr4:=Qd (hk25.blk HB42.out (fun x=>x)) 0;refine hK.out _ _ (⟨Qc hk5 hHeld.1,Qc hk5 hHeld.2⟩) (fun hHeld=> ?_);clear hK K
    try simp only[PP]
    refine ro 5 (fun K hK=> ?_);go_simp;obtain⟨w9,hw9⟩:∃z,z=w5.setCell ⟨b4,0,none⟩ (.int .u64 ((x|||YG y.n:Nat):Int)):=⟨_,rfl⟩;have hk9:K1 b4 w5 w9:=by rw[hw9];exact Qg _ _
    have HK9:=Qh ((hkn2.trans hk25).trans' hk9 (fun i hi e=>by omega));have r4:w9.cell? ⟨b4,0,none⟩=some (.int .u64 ((x|||YG y.n:Nat):Int)):=by rw[hw9,Qa (Qk (hk25.blk HB42.out (fun x=>x)) 0 _)];try rfl
    rw[←hw9];refine hK.out _ _ (⟨Qi hk9 hHeld.1 (fun e=>n46 e.symm),Qi hk9 hHeld.2 n84⟩) (fun hHeld=> ?_);clear hk25 hk4 hk5 hw9 hk9 g4 fr4;clear hK K
    try simp only[PP]
    refine re 6 (fun K hK=> ?_);go_simp;clear hHeld;refine hK.out _ _ ?_;clear hK K;go_wp2_with fail
    (try simp only[Exit.inBlock,Exit.then])
    refine bodyPost_ret (resBT rfl rfl rfl ?_) rfl ⟨by rw[hF.out];try rfl,HK9.out⟩
    first|exact r4|exact QI HB42.out|exact QI HB49.out|exact QI hb4.out
   |true=>
    rw[hyp] at y0;have hST2:Hid (Qx E F 0 l=if y.n<0∨(E.length:Int)≤y.n then(x,false) else if E.getD y.n.toNat false=true then Qx E F (x|||F.getD y.n.toNat 0) (l.drop (k+1)) else(x|||F.getD y.n.toNat 0,false)):=Qh (by rw[←hbf.out,HST.out,if_neg (by rw[hyp];simp)]);obtain⟨ap,cp,p0⟩:=(H.out.kn hkn2).pcs;clear hyp HST hbf;by_cases hn:y.n<0∨(E.length:Int)≤y.n
    ·have hF:Hid (Qx E F 0 l=(x,false)):=Qh (by rw[hST2.out,if_pos hn]);have hn2:y.n<0∨¬y.n<0∧(S.places.length:Int)≤y.n:=by omega
     clear hST2 hn;rcases hn2 with hn|⟨hn,hn2⟩
     ·go_wp2_with fail
      go_quiet (fail)
      go_wp2_with fail
      (try simp only[Exit.inBlock,Exit.then])
      refine bodyPost_ret (resBT rfl rfl rfl ?_) rfl ⟨by rw[hF.out];try rfl,(hkn2.drewN _).setCell (fun hp=>absurd hp (by show¬b4<_;omega)) _⟩
      first|exact r4|exact QI HB42.out|exact QI HB49.out|exact QI hb4.out
     ·go_wp2_with fail
      go_quiet (fail)
      go_wp2_with fail
      (try simp only[Exit.inBlock,Exit.then])
      refine bodyPost_ret (resBT rfl rfl rfl ?_) rfl ⟨by rw[hF.out];try rfl,(hkn2.drewN _).setCell (fun hp=>absurd hp (by show¬b4<_;omega)) _⟩
      first|exact r4|exact QI HB42.out|exact QI HB49.out|exact QI hb4.out
    ·have hn1:¬y.n<0:=fun h=>hn (.inl h)
     have hn2:¬(S.places.length:Int)≤y.n:=fun h=>hn (.inr (by omega))
     obtain⟨m,hm⟩:=Int.eq_ofNat_of_zero_le (show 0≤y.n by omega);rw[hm] at y1 hn1 hn2;have hST3:Hid (Qx E F 0 l=if E.getD m false=true then Qx E F (x|||F.getD m 0) (l.drop (k+1)) else(x|||F.getD m 0,false)):=Qh (by rw[hST2.out,if_neg hn,hm];try rfl);have hml:m<S.places.length:=by omega
     clear hST2 hn;go_wp2_with fail
     go_quiet (fail)
     obtain⟨w3,hw3⟩:∃z,z=w2.drewN nq:=⟨_,rfl⟩;have hk3:Kn w2 w3:=by rw[hw3];exact(Qb _ _).drewN _
     rw[←hw3];have e6:=Qc hk3 d6;have e1:=Qc hk3 y1;have hkn3:=hkn2.trans hk3;have HB43:=Qh (hk3.blk HB42.out (fun x=>x));have HB63:=Qh (hk3.blk HB62.out (fun x=>x));have H3:=H.out.kn hkn3;have e0:=H3.c6;have ef:=H3.fcell hml;have hfm:=getD_lt hFl (by decide) m;obtain⟨fm,hfe⟩:∃z,z=F.getD m 0:=⟨_,rfl⟩;rw[←hfe] at ef hfm hST3;clear hw3 hk3 d6 d4 f42 y0 y1 p0 HB42 HB62 hfe H3;go_wp2_with fail
     refine rgn (fun w'=>w'.cell? ⟨b6,0,none⟩=some (.int .u64 (x:Nat))∧w'.cell? ⟨b8,1,none⟩=some (.int .i64 (m:Nat))∧w'.cell? ⟨p,6,none⟩=some (.slice (some ⟨gf,0,none⟩) S.places.length S.places.length)∧w'.cell? ⟨gf,m,none⟩=some (.int .u64 (fm:Nat))) (X:=[]) ⟨Qc ((Qb _ _).drew) e6,Qc ((Qb _ _).drew) e1,Qc ((Qb _ _).drew) e0,Qc ((Qb _ _).drew) ef⟩ (fun hX hHeld=> ?_);refine tk 0 37 ?_;refine tw 1 38 ?_;refine tw 2 39 ?_;refine tw 3 40 ?_;refine tk 4 41 ?_;refine tw 5 42 ?_;refine tk 6 43 ?_;refine tw 7 44 ?_;refine tk 8 45 ?_;refine ro 9 (fun K hK=> ?_);go_simp
     go_at_call 116
     refine(with_kn x fm hx hfm _).mono ?_;rintro e w5 ⟨rfl,hk5⟩;have hk35:Kn w3 w5:=((Qb _ _).drew).trans hk5;have HB45:=Qh (hk35.blk HB43.out (fun x=>x));have HB65:=Qh (hk35.blk HB63.out (fun x=>x));have fr6:=Qd HB65.out 0;have HK5:=Qh (hkn3.trans hk35);have z1:=Qh (Qc hk35 e1);refine hK.out _ _ (⟨Qc hk5 hHeld.1,Qc hk5 hHeld.2.1,Qc hk5 hHeld.2.2.1,Qc hk5 hHeld.2.2.2⟩) (fun hHeld=> ?_);clear hk35 hk5 e0 e1 e6 ef;clear hK K
     try simp only[PP]
     refine re 10 (fun K hK=> ?_);go_simp;obtain⟨w9,hw9⟩:∃z,z=w5.setCell ⟨b6,0,none⟩ (.int .u64 ((x|||fm:Nat):Int)):=⟨_,rfl⟩;have hk9:K1 b6 w5 w9:=by rw[hw9];exact Qg _ _
     have HK9:=Qh (HK5.out.trans' hk9 (fun i hi e=>by omega));have HB49:=Qh (hk9.blk HB45.out n46);have HB69:Hid (w9.heap[b6]? =some (.cells #[.int .u64 ((x|||fm:Nat):Int)] TBi (0,0))):=Qh (by rw[hw9];exact Qk HB65.out 0 _)
     replace z1:=Qh (Qi hk9 z1.out n86)
     rw[←hw9];clear hw9 hk9 hHeld fr6;refine hK.out _ _ ?_;clear hK K;have H5:=H.out.kn HK9.out;have e5:=H5.c5;have ee:=H5.ecell hml;have s1:=z1.out;have g4:w9.cell? ⟨b4,0,none⟩=some (.int .u64 0):=by rw[Qa HB49.out];try rfl
     have g6:w9.cell? ⟨b6,0,none⟩=some (.int .u64 ((x|||fm:Nat):Int)):=by rw[Qa HB69.out];try rfl
     have fr4:=Qd HB49.out 0;have hxf:=or_lt hx hfm;have l49:=Qj HB49.out;clear H5;cases hE:E.getD m false with
     |false=>
      rw[hE] at ee;have hF:Hid (Qx E F 0 l=(x|||fm,false)):=Qh (by rw[hST3.out,if_neg (by rw[hE];simp)]);clear hE hST3;go_wp2_with fail
      go_quiet (fail)
      go_wp2_with fail
      (try simp only[Exit.inBlock,Exit.then])
      refine bodyPost_ret (resBT rfl rfl rfl ?_) rfl ⟨by rw[hF.out];try rfl,(HK9.out.drewN _).setCell (fun hp=>absurd hp (by show¬b4<_;omega)) _⟩
      first|exact r4|exact QI HB42.out|exact QI HB49.out|exact QI hb4.out
     |true=>
      rw[hE] at ee;have hF:Hid (Qx E F (x|||fm) (l.drop (k+1))=Qx E F 0 l):=Qh (by rw[hST3.out,if_pos hE]);have hkd:∀n,Kn w9 (w9.drewN n):=fun n=>(Qb _ _).drewN n
      have HKD:=Qh hkd;clear hE hST3 hkd;go_wp2_with fail
      go_quiet (fail)
      go_wp2_with fail
      go_roundw
      case rel=>exact⟨k+1,x|||fm,by go_num,by omega,hF,hxf,Qh ((HKD.out _).blk HB69.out (fun x=>x)),Qh ((HKD.out _).blk HB49.out (fun x=>x)),HK9.out.drewN _⟩
      case measure=>simp[intOf];omega
  ·obtain rfl:k=l.length:=by omega
   have hF:Hid (Qx E F 0 l=(x,true)):=Qh (by rw[←hbf.out,List.drop_length];try rfl);go_wp2_with fail
   (try simp only[Exit.inBlock,Exit.then])
   refine bodyPost_ret (resBT rfl rfl rfl ?_) rfl ⟨by rw[hF.out];try rfl,hkn.setCell (fun hp=>absurd hp (by show¬b4<_;omega)) _⟩
   first|exact r4|exact QI HB42.out|exact QI HB49.out|exact QI hb4.out
theorem StAt.prod{w:World}{B p ge gf gw:Nat}{S:SB}{A:SA}{E:List Bool}{F W:List Nat}(h:StAt w B p S A E F W ge gf gw):∃a c,A.vl= .slice a S.l.length c∧w.cell? ⟨p,2,none⟩=some (.slice a S.l.length c)∧(S.l≠[]→∃g,a=some ⟨g,0,none⟩∧
  ∀k (hk:k<S.l.length),w.cell? ⟨g,k*3,none⟩=some (.int .i64 (S.l[k].place:Nat))∧w.cell? ⟨g,k*3+1,none⟩=some (.int .i64 (S.l[k].rule:Nat))∧∃asy cs,w.cell? ⟨g,k*3+2,none⟩=some (.slice asy S.l[k].syms.length cs)∧S.l[k].syms.length≤cs∧cs≤maxLen∧
   (S.l[k].syms≠[]→∃gs,asy=some ⟨gs,0,none⟩∧SyR w gs 0 S.l[k].syms∧∃cur,w.heap[gs]? =some (.cells cur TSy (0,0)))):=by
 obtain⟨a,c,hv,_,_,hg⟩:=h.pr.row.row (fun C hC=>by obtain⟨i,hi,rfl⟩:=List.getElem_of_mem hC;simp[prL]);have hlen:=h.pr.len;rw[List.length_zipWith,hlen,Nat.min_self] at hv;refine⟨a,c,hv,by rw[h.cell 2,←hv];try rfl,fun hne=> ?_⟩;obtain⟨g,ha,_,_,hc⟩:=hg (fun e=>hne (by have h2:=congrArg List.length e;rw[List.length_zipWith,hlen,Nat.min_self] at h2;exact List.eq_nil_of_length_eq_zero h2));refine⟨g,ha,fun k hk=> ?_⟩;have hc3:=hc k (by rw[List.length_zipWith,hlen,Nat.min_self];exact hk);have e0:=(hc3 0 (by omega)).1;have e1:=(hc3 1 (by omega)).1;have e2:=(hc3 2 (by omega)).1;rw[show 0+3*k+0=k*3 by omega] at e0;rw[show 0+3*k+1=k*3+1 by omega] at e1;rw[show 0+3*k+2=k*3+2 by omega] at e2;obtain⟨asy,cs,hvs,h1,h2,h3⟩:=SyS.of (h.pr.syms k (by omega) hk);refine⟨by rw[e0];simp[prL],by rw[e1];simp[prL],asy,cs,by rw[e2];simp[prL,hvs],h1,h2,h3⟩
def FK(l:List PR)(a:FS)(k:Nat):FS:=(l.take k).foldl QZ a
theorem FK_succ{l:List PR}{k:Nat}(a:FS)(hk:k<l.length):FK l a (k+1)=QZ (FK l a k) l[k]:=by
 unfold FK;rw[List.take_succ_eq_append_getElem hk,List.foldl_append];try rfl
abbrev FSt(ge gf:Nat):World→World→Prop:=Kp (fun k=>k=ge∨k=gf)
theorem firsts_c{B p ge gf gw:Nat}{S:SB}{A:SA}{E:List Bool}{F W:List Nat}{w:World}(h:StAt w B p S A E F W ge gf gw)(ok:SBok S):
  Calls Tryz.prog 67 #[ptr p] w fun e w'=>e= .returned (.bool (YX S.l (E,F)).more)∧StAt w' B p S A (YX S.l (E,F)).empty (YX S.l (E,F)).first W ge gf gw∧FSt ge gf w w':=by
 have hpl:=h.lt;have H:=Qh h;have HOK:=Qh ok;have hle:=ok.le;obtain⟨al,cl,hvl,q2,hg⟩:=h.prod;have HVL:=Qh hvl;have hll:=ok.ll;have HG:=Qh hg;have HTT:Hid (∀(x y:Bool),(x==y)=decide (x=y)):=Qh (by decide);clear h ok hg hvl;go_enter Tryz.func67,Tryz.ntmps67;go_wp2_with fail
 go_loopw [3,13] (fun s3 s13 wr=>∃(k:Nat) (a:FS),s3= .bool a.more∧s13= .int .i64 k∧k≤S.l.length∧Hid (a=FK S.l ⟨E,F,false⟩ k)∧Hid (StAt wr B p S A a.empty a.first W ge gf gw)∧FSt ge gf w wr) (fun _ s13 _=>S.l.length-(intOf s13).toNat)
 case atStart=>exact⟨0,⟨E,F,false⟩,rfl,rfl,Nat.zero_le _,Qh rfl,H,Qb _ _⟩
 case round=>
  obtain⟨k,a,rfl,rfl,hk,hak,hst,hkp⟩:=hrel;by_cases hlt:k<S.l.length
  ·obtain⟨ar,cr,hv2,q2r,hgr⟩:=hst.out.prod;obtain⟨rfl,rfl⟩:ar=al∧cr=cl:=by
    have h9:=hv2.symm.trans HVL.out;injection h9 with e1 e2 e3;exact⟨e1,e3⟩
   obtain⟨g,rfl,hcs⟩:=hgr (fun e=>by rw[e] at hlt;simp at hlt);obtain⟨c0,c1,asy,cs,c2,hcs1,hcs2,hsy⟩:=hcs k hlt;obtain⟨hpp,hpr,hps,hpy⟩:=HOK.out.pr _ (List.getElem_mem hlt);have HST:=Qh (FK_succ ⟨E,F,false⟩ hlt);obtain⟨pr,hpre⟩:∃z,z=S.l[k]:=⟨_,rfl⟩;rw[←hpre] at c0 c1 c2 hcs1 hsy hpp hps HST;rw[←hak.out] at HST;have hgl3:=World.block_lt_of_cell? wr _ c0;obtain⟨w2,hw2⟩:∃z,z=wr.alloc (.cells #[.int .i64 (pr.place:Nat),.int .i64 (pr.rule:Nat),.slice asy pr.syms.length cs] TPr):=⟨_,rfl⟩;have hk2:Kn wr w2:=by rw[hw2];exact(Qb _ _).alloc _
   obtain⟨b5,hb5⟩:∃z,z=wr.heap.size:=⟨_,rfl⟩;have hB5:w2.heap[b5]? =some (.cells #[.int .i64 (pr.place:Nat),.int .i64 (pr.rule:Nat),.slice asy pr.syms.length cs] TPr (0,0)):=by rw[hw2,hb5];exact Qf _ _
   have y0:w2.cell? ⟨b5,0,none⟩=some (.int .i64 (pr.place:Nat)):=by rw[Qa hB5];try rfl
   have y2:w2.cell? ⟨b5,2,none⟩=some (.slice asy pr.syms.length cs):=by rw[Qa hB5];try rfl
   have HS2:=Qh (hst.out.kn hk2);have hkp2:=hkp.trans (Kp.weak hk2);have HBG:=Qh (begins_c (c:=cs) (a:=asy) pr.syms HS2.out hle (fun hne=>by obtain⟨gs,hgs,hr,_⟩:=hsy hne;exact⟨gs,0,hgs,fun i hi=>⟨Qc hk2 (hr i hi).1,Qc hk2 (hr i hi).2⟩⟩) (by omega));have hrl:=beginsF_lt (E:=a.empty) hst.out.fz pr.syms 0 (by decide);obtain⟨r,hr⟩:∃z,z=Qx a.empty a.first 0 pr.syms:=⟨_,rfl⟩;rw[←hr] at HBG hrl;have HF2:Hid (QZ a pr=⟨a.empty.set pr.place (r.2||a.empty.getD pr.place false),a.first.set pr.place (r.1|||a.first.getD pr.place 0),
    a.more||(decide (r.1|||a.first.getD pr.place 0≠a.first.getD pr.place 0)||(r.2&& !a.empty.getD pr.place false))⟩):=Qh (by rw[hr];try rfl)
   have hfm:=getD_lt hst.out.fz (by decide) pr.place;have HW2:=Qh (And.intro hw2 hb5);have HG5:Hid (b5≠ge∧b5≠gf):=Qh (by have h1:=Qj hst.out.re;have h2:=Qj hst.out.rf;omega);clear hw2 hb5 hB5 hk2 hpre hr hcs hgr hsy;go_upto_region 5 with fail
   rw[←HW2.out.1,←HW2.out.2];clear c0 c1 c2 HW2 hgl3 q2r hv2;go_wp2_with (first|(go_at_call 115;go_must (refine HBG.out.mono ?_;rintro e w3 ⟨rfl,hk3⟩;have z0:=Qc hk3 y0;have HS3:=Qh (HS2.out.kn hk3);have hkp3:=hkp2.trans (Kp.weak hk3);clear HBG y2 y0 hk3 HS2 hkp2)))
   obtain⟨w4,hw4⟩:∃z,z=w3.alloc (.cells #[.int .u64 (r.1:Nat)] TBi):=⟨_,rfl⟩;have hk4:Kn w3 w4:=by rw[hw4];exact(Qb _ _).alloc _
   obtain⟨b6,hb6⟩:∃z,z=w3.heap.size:=⟨_,rfl⟩;have hB6:w4.heap[b6]? =some (.cells #[.int .u64 (r.1:Nat)] TBi (0,0)):=by rw[hw4,hb6];exact Qf _ _
   have e6:w4.cell? ⟨b6,0,none⟩=some (.int .u64 (r.1:Nat)):=by rw[Qa hB6];try rfl
   have e0:=Qc hk4 z0;have hb56:b5≠b6:=by have:=World.block_lt_of_cell? w3 _ z0;have:b5<w3.heap.size:=this;omega
   rw[←hw4,←hb6];have HB6:=Qh hB6;have HK34:=Qh hk4;have HS4:=HS3.out.kn hk4;have c6:=HS4.c6;have ef:=HS4.fcell hpp;obtain⟨fm,hfe⟩:∃z,z=a.first.getD pr.place 0:=⟨_,rfl⟩;rw[←hfe] at ef hfm HF2;have HFE:=Qh hfe;have hb6l:w3.heap.size≤b6:=by omega
   have HG6:Hid (b6≠gf):=Qh (by have h2:=Qj HS3.out.rf;omega);clear hw4 hk4 hB6 z0 hfe HS4 hb6;refine rgn (fun w'=>w'.cell? ⟨b6,0,none⟩=some (.int .u64 (r.1:Nat))∧w'.cell? ⟨b5,0,none⟩=some (.int .i64 (pr.place:Nat))∧w'.cell? ⟨p,6,none⟩=some (.slice (some ⟨gf,0,none⟩) S.places.length S.places.length)∧w'.cell? ⟨gf,pr.place,none⟩=some (.int .u64 (fm:Nat))) (X:=[]) ⟨Qc ((Qb _ _).drew) e6,Qc ((Qb _ _).drew) e0,Qc ((Qb _ _).drew) c6,Qc ((Qb _ _).drew) ef⟩ (fun hX hHeld=> ?_);refine tk 0 24 ?_;refine tw 1 25 ?_;refine tw 2 26 ?_;refine tw 3 27 ?_;refine tk 4 28 ?_;refine tw 5 29 ?_;refine tk 6 30 ?_;refine tw 7 31 ?_;refine tk 8 32 ?_;refine ro 9 (fun K hK=> ?_);go_simp
   go_at_call 116
   refine(with_kn r.1 fm hrl hfm _).mono ?_;rintro e v3 ⟨rfl,hk5⟩;have hk35:Kn w4 v3:=((Qb _ _).drew).trans hk5;have HB63:=Qh (hk35.blk HB6.out (fun x=>x));have fr6:=Qd HB63.out 0;have z1:=Qh (Qc hk35 e0);have HK35:=Qh (HK34.out.trans hk35);refine hK.out _ _ (⟨Qc hk5 hHeld.1,Qc hk5 hHeld.2.1,Qc hk5 hHeld.2.2.1,Qc hk5 hHeld.2.2.2⟩) (fun hHeld=> ?_);clear hk35 hk5 e0 e6 c6 ef;clear hK K
   try simp only[PP]
   refine re 10 (fun K hK=> ?_);go_simp;obtain⟨w5,hw5⟩:∃z,z=v3.setCell ⟨b6,0,none⟩ (.int .u64 ((r.1|||fm:Nat):Int)):=⟨_,rfl⟩;have hk9:K1 b6 v3 w5:=by rw[hw5];exact Qg _ _
   have HB65:Hid (w5.heap[b6]? =some (.cells #[.int .u64 ((r.1|||fm:Nat):Int)] TBi (0,0))):=Qh (by rw[hw5];exact Qk HB63.out 0 _);have hk5:Kn w3 w5:=HK35.out.trans' hk9 (fun i hi e=>by omega);have HS5:=Qh (HS3.out.kn hk5);have HKP5:=Qh (hkp3.trans (Kp.weak hk5))
   replace z1:=Qh (Qi hk9 z1.out hb56)
   rw[←hw5];clear hw5 hk9 hk5 hHeld fr6;refine hK.out _ _ ?_;clear hK K;obtain⟨x1,hx1⟩:∃z,z=r.1|||fm:=⟨_,rfl⟩;rw[←hx1] at HF2 HB65;have hx1l:=or_lt hrl hfm;rw[←hx1] at hx1l;have c6:=HS5.out.c6;have c5:=HS5.out.c5;have ef:=HS5.out.fcell hpp;rw[←HFE.out] at ef;have ee:=HS5.out.ecell hpp;have e6:w5.cell? ⟨b6,0,none⟩=some (.int .u64 (x1:Nat)):=by rw[Qa HB65.out];try rfl
   have ez:=z1.out;obtain⟨em,hem⟩:∃z,z=a.empty.getD pr.place false:=⟨_,rfl⟩;rw[←hem] at ee HF2;obtain⟨al,hal⟩:∃z,z=r.2:=⟨_,rfl⟩;rw[←hal] at HF2⊢;obtain⟨cd,hcd⟩:∃z,z=(decide (x1≠fm)||(al&& !em)):=⟨_,rfl⟩;rw[←hcd] at HF2;have HCD:=Qh hcd;have HEM:=Qh hem;clear hx1 hem hcd hal;go_upto_region 7 with fail
   go_cut [57] (fun s57 wc=>s57= .bool cd∧Kn w5 wc)
   case first=>
    by_cases hx:x1=fm
    ·subst hx;have hcd:cd=(al&& !em):=by rw[HCD.out,decide_eq_false (fun h=>h rfl)];try rfl
     cases al with
     |false=>
      go_quiet (fail)
      go_wp2_with fail
      go_meet
      case rel=>exact⟨by rw[hcd];try rfl,(Qb _ _).drewN _⟩
     |true=>
      go_quiet (fail)
      go_wp2_with fail
      go_meet
      case rel=>exact⟨by rw[hcd];try rfl,(Qb _ _).drewN _⟩
    ·have hx2:¬(x1:Int)=fm:=by omega
     have hcd:cd=true:=by rw[HCD.out,decide_eq_true hx];try rfl
     clear hx;go_quiet (fail)
     go_wp2_with fail
     go_meet
     case rel=>exact⟨by rw[hcd],(Qb _ _).drewN _⟩
   case rest=>
    obtain⟨rfl,hkc⟩:=hcut;have HS6:=Qh (HS5.out.kn hkc);have HKP6:=Qh (HKP5.out.trans (Kp.weak hkc));have HB66:=Qh (hkc.blk HB65.out (fun x=>x));have z6:=Qh (Qc hkc ez);clear HS5 HKP5 HB65 c6 c5 ef ee e6 ez z1 hkc;obtain⟨w6,hw6⟩:∃z,z=wc:=⟨_,rfl⟩;subst hw6
    go_upto_if 57 with fail
    go_cut [3] (fun s3 wc=>s3= .bool (a.more||cd)∧wc=w6)
    case first=>
     cases cd with
     |true=>
      go_wp2_with fail
      go_meet
      case rel=>exact⟨by simp,rfl⟩
     |false=>
      go_wp2_with fail
      go_meet
      case rel=>exact⟨by simp,rfl⟩
    case rest=>
     obtain⟨rfl,rfl⟩:=hcut;have c6:=HS6.out.c6;have c5:=HS6.out.c5;have ee:=HS6.out.ecell hpp;rw[←HEM.out] at ee;have e6:wc.cell? ⟨b6,0,none⟩=some (.int .u64 (x1:Nat)):=by rw[Qa HB66.out];try rfl
     have ez:=z6.out;have hfr:∀i:Nat,wc.frozen? ⟨gf,i,none⟩=false:=fun i=>HS6.out.rf.fr i
     have hcf:=HS6.out.fcell hpp;have hfre:=HS6.out.re.fr pr.place;have hgeq:gf≠ge:=fun e=>by have h1:=HS6.out.rf;have h2:=HS6.out.re;rw[e] at h1;exact Qn h1 h2 (by decide)
     clear HB66 z6;go_wp2_with fail
     have HS7:=Qh ((HS6.out.kn (w':=wc.drew) (Qb _ _).drew).setF pr.place x1 hx1l);have HS8:=Qh (HS7.out.setE pr.place (al||em));have HKP8:Hid (FSt ge gf w ((wc.drew.setCell ⟨gf,pr.place,none⟩ (.int .u64 (x1:Nat))).setCell ⟨ge,pr.place,none⟩ (.bool (al||em)))):=Qh (((HKP6.out.drew).trans ((Qg _ _).mono (fun i hi e=>Or.inr e))).trans ((Qg _ _).mono (fun i hi e=>Or.inl e)));have HFN:Hid (QZ a pr=⟨a.empty.set pr.place (al||em),a.first.set pr.place x1,a.more||cd⟩):=HF2;have HNG:Hid (p≠gf∧b5≠gf∧b6≠gf):=Qh ⟨fun e=>by have h1:=HS6.out.blk;have h2:=HS6.out.rf;rw[e] at h1;exact Qn h1 h2 (by decide),HG5.out.2,HG6.out⟩;clear HCD HF2;cases al with
     |false=>
      rw[Bool.false_or] at HS8 HKP8 HFN;refine rgn (fun w'=>w'.cell? ⟨p,6,none⟩=some (.slice (some ⟨gf,0,none⟩) S.places.length S.places.length)∧w'.cell? ⟨p,5,none⟩=some (.slice (some ⟨ge,0,none⟩) S.places.length S.places.length)∧w'.cell? ⟨b5,0,none⟩=some (.int .i64 (pr.place:Nat))∧w'.cell? ⟨b6,0,none⟩=some (.int .u64 (x1:Nat))∧w'.cell? ⟨ge,pr.place,none⟩=some (.bool em)) (X:=[]) ⟨Qc ((Qb _ _).drew) c6,Qc ((Qb _ _).drew) c5,Qc ((Qb _ _).drew) ez,Qc ((Qb _ _).drew) e6,Qc ((Qb _ _).drew) ee⟩ (fun hX hHeld=> ?_);refine tw 0 58 ?_;refine tw 1 59 ?_;refine tw 2 60 ?_;refine tk 3 61 ?_;refine tw 4 62 ?_;refine tk 5 63 ?_;refine tw 6 64 ?_;refine tw 7 65 ?_;refine tw 8 66 ?_;refine tk 9 67 ?_;refine tw 10 68 ?_;refine tk 11 69 ?_;refine tk 12 70 ?_;refine tw 13 71 ?_;refine tw 14 72 ?_;refine tw 15 73 ?_;refine tw 16 74 ?_;refine tw 17 75 ?_;refine tk 18 76 ?_;refine tw 19 77 ?_;refine tk 20 78 ?_;refine tw 21 79 ?_;refine tk 22 80 ?_;refine tw 23 81 ?_;refine tw 24 82 ?_;refine ro 25 (fun K hK=> ?_);go_simp;have hk9:K1 gf wc.drew (wc.drew.setCell ⟨gf,pr.place,none⟩ (.int .u64 (x1:Nat))):=Qg _ _;refine hK.out _ _ (⟨Qi hk9 hHeld.1 HNG.out.1,Qi hk9 hHeld.2.1 HNG.out.1,Qi hk9 hHeld.2.2.1 HNG.out.2.1,Qi hk9 hHeld.2.2.2.1 HNG.out.2.2,Qi hk9 hHeld.2.2.2.2 hgeq.symm⟩) (fun hHeld=> ?_);have e9:=hHeld.2.2.2.2;clear hk9;clear hK K
      try simp only[PP]
      refine tw 26 83 ?_;refine re 27 (fun K hK=> ?_);go_simp;clear hHeld;refine hK.out _ _ ?_;clear hK K;go_wp2_with fail
      go_roundw
      case rel=>exact⟨k+1,QZ a pr,by rw[HFN.out],by go_num,by omega,Qh HST.out.symm,Qh (by rw[HFN.out];exact HS8.out),HKP8.out⟩
      case measure=>simp[intOf];omega
     |true=>
      rw[Bool.true_or] at HS8 HKP8 HFN;refine rgn (fun w'=>w'.cell? ⟨p,6,none⟩=some (.slice (some ⟨gf,0,none⟩) S.places.length S.places.length)∧w'.cell? ⟨p,5,none⟩=some (.slice (some ⟨ge,0,none⟩) S.places.length S.places.length)∧w'.cell? ⟨b5,0,none⟩=some (.int .i64 (pr.place:Nat))∧w'.cell? ⟨b6,0,none⟩=some (.int .u64 (x1:Nat))∧w'.cell? ⟨ge,pr.place,none⟩=some (.bool em)) (X:=[]) ⟨Qc ((Qb _ _).drew) c6,Qc ((Qb _ _).drew) c5,Qc ((Qb _ _).drew) ez,Qc ((Qb _ _).drew) e6,Qc ((Qb _ _).drew) ee⟩ (fun hX hHeld=> ?_);refine tw 0 58 ?_;refine tw 1 59 ?_;refine tw 2 60 ?_;refine tk 3 61 ?_;refine tw 4 62 ?_;refine tk 5 63 ?_;refine tw 6 64 ?_;refine tw 7 65 ?_;refine tw 8 66 ?_;refine tk 9 67 ?_;refine tw 10 68 ?_;refine tk 11 69 ?_;refine tk 12 70 ?_;refine tw 13 71 ?_;refine tw 14 72 ?_;refine tu 15 73 ?_;refine tu 16 74 ?_;refine tu 17 75 ?_;refine tu 18 76 ?_;refine tu 19 77 ?_;refine tu 20 78 ?_;refine tu 21 79 ?_;refine tu 22 80 ?_;refine tw 23 81 ?_;refine tw 24 82 ?_;refine ro 25 (fun K hK=> ?_);go_simp;have hk9:K1 gf wc.drew (wc.drew.setCell ⟨gf,pr.place,none⟩ (.int .u64 (x1:Nat))):=Qg _ _;refine hK.out _ _ (⟨Qi hk9 hHeld.1 HNG.out.1,Qi hk9 hHeld.2.1 HNG.out.1,Qi hk9 hHeld.2.2.1 HNG.out.2.1,Qi hk9 hHeld.2.2.2.1 HNG.out.2.2,Qi hk9 hHeld.2.2.2.2 hgeq.symm⟩) (fun hHeld=> ?_);have e9:=hHeld.2.2.2.2;clear hk9;clear hK K
      try simp only[PP]
      refine tw 26 83 ?_;refine re 27 (fun K hK=> ?_);go_simp;clear hHeld;refine hK.out _ _ ?_;clear hK K;go_wp2_with fail
      go_roundw
      case rel=>exact⟨k+1,QZ a pr,by rw[HFN.out],by go_num,by omega,Qh HST.out.symm,Qh (by rw[HFN.out];exact HS8.out),HKP8.out⟩
      case measure=>simp[intOf];omega
  ·obtain rfl:k=S.l.length:=by omega
   have hfk:a=YX S.l (E,F):=by rw[hak.out];unfold FK YX;rw[List.take_length]
   have HFK:=Qh hfk;clear hfk;go_wp2_with fail
   go_ret;exact⟨by rw[HFK.out];try rfl,by rw[←HFK.out];exact hst.out,hkp⟩
def WK(E:List Bool)(F:List Nat)(l:List PR)(a:WS)(k:Nat):WS:=(l.take k).foldl (YF E F) a
theorem WK_succ{E:List Bool}{F:List Nat}{l:List PR}{k:Nat}(a:WS)(hk:k<l.length):WK E F l a (k+1)=YF E F (WK E F l a k) l[k]:=by
 unfold WK;rw[List.take_succ_eq_append_getElem hk,List.foldl_append];try rfl
def YK(E:List Bool)(F:List Nat)(p:PR)(a:WS)(j:Nat):WS:=(p.syms.zipIdx.take j).foldl (Yk E F p) a
theorem YK_succ{E:List Bool}{F:List Nat}{p:PR}{j:Nat}(a:WS)(hj:j<p.syms.length):YK E F p a (j+1)=Yk E F p (YK E F p a j) (p.syms[j],j):=by
 unfold YK;rw[List.take_succ_eq_append_getElem (by rw[List.length_zipIdx];exact hj),List.foldl_append];simp
theorem YK_all{E:List Bool}{F:List Nat}{p:PR}(a:WS):YK E F p a p.syms.length=YF E F a p:=by
 unfold YK YF;rw[List.take_of_length_le (by rw[List.length_zipIdx];exact Nat.le_refl _)]
theorem follows_c{B p ge gf gw:Nat}{S:SB}{A:SA}{E:List Bool}{F W:List Nat}{w:World}(h:StAt w B p S A E F W ge gf gw)(ok:SBok S):
  Calls Tryz.prog 69 #[ptr p] w fun e w'=>e= .returned (.bool (followP E F S.l W).more)∧StAt w' B p S A E F (followP E F S.l W).follow ge gf gw∧K1 gw w w':=by
 have hpl:=h.lt;have H:=Qh h;have HOK:=Qh ok;have hle:=ok.le;obtain⟨al,cl,hvl,q2,hg⟩:=h.prod;have HVL:=Qh hvl;have hll:=ok.ll;clear h ok hg hvl;go_enter Tryz.func69,Tryz.ntmps69;go_wp2_with fail
 go_loopw [3,15] (fun s3 s15 wr=>∃(k:Nat) (a:WS),s3= .bool a.more∧s15= .int .i64 k∧k≤S.l.length∧Hid (a=WK E F S.l ⟨W,false⟩ k)∧Hid (StAt wr B p S A E F a.follow ge gf gw)∧K1 gw w wr) (fun _ s15 _=>S.l.length-(intOf s15).toNat)
 case atStart=>exact⟨0,⟨W,false⟩,rfl,rfl,Nat.zero_le _,Qh rfl,H,Qb _ _⟩
 case round=>
  obtain⟨k,a,rfl,rfl,hk,hak,hst,hkp⟩:=hrel;by_cases hlt:k<S.l.length
  ·obtain⟨ar,cr,hv2,q2r,hgr⟩:=hst.out.prod;obtain⟨rfl,rfl⟩:ar=al∧cr=cl:=by
    have h9:=hv2.symm.trans HVL.out;injection h9 with e1 e2 e3;exact⟨e1,e3⟩
   obtain⟨g,rfl,hcs⟩:=hgr (fun e=>by rw[e] at hlt;simp at hlt);obtain⟨c0,c1,asy,cs,c2,hcs1,hcs2,hsy⟩:=hcs k hlt;obtain⟨hpp,hpr,hps,hpy⟩:=HOK.out.pr _ (List.getElem_mem hlt);have HST:=Qh (WK_succ (E:=E) (F:=F) ⟨W,false⟩ hlt);obtain⟨pr,hpre⟩:∃z,z=S.l[k]:=⟨_,rfl⟩;rw[←hpre] at c0 c1 c2 hcs1 hsy hpp hps hpy HST;rw[←hak.out] at HST;have hgl3:=World.block_lt_of_cell? wr _ c0;obtain⟨w2,hw2⟩:∃z,z=wr.alloc (.cells #[.int .i64 (pr.place:Nat),.int .i64 (pr.rule:Nat),.slice asy pr.syms.length cs] TPr):=⟨_,rfl⟩;have hk2:Kn wr w2:=by rw[hw2];exact(Qb _ _).alloc _
   obtain⟨b5,hb5⟩:∃z,z=wr.heap.size:=⟨_,rfl⟩;have hB5:w2.heap[b5]? =some (.cells #[.int .i64 (pr.place:Nat),.int .i64 (pr.rule:Nat),.slice asy pr.syms.length cs] TPr (0,0)):=by rw[hw2,hb5];exact Qf _ _
   have y0:w2.cell? ⟨b5,0,none⟩=some (.int .i64 (pr.place:Nat)):=by rw[Qa hB5];try rfl
   have y2:w2.cell? ⟨b5,2,none⟩=some (.slice asy pr.syms.length cs):=by rw[Qa hB5];try rfl
   have HS2:=Qh (hst.out.kn hk2);have HKP2:=Qh (hkp.trans (Kp.weak hk2));have HSY:Hid (pr.syms≠[]→∃gs,asy=some ⟨gs,0,none⟩∧SyR w2 gs 0 pr.syms∧gs≠gw):=Qh (fun hne=>by
    obtain⟨gs,hgs,hr,cur,hcur⟩:=hsy hne;exact⟨gs,hgs,fun i hi=>⟨Qc hk2 (hr i hi).1,Qc hk2 (hr i hi).2⟩,fun e=>by rw[e] at hcur;exact Qn hst.out.rw_ hcur (by decide)⟩)
   have HW2:=Qh (And.intro hw2 hb5);have HG5:Hid (b5≠gw):=Qh (by have h1:=Qj hst.out.rw_;omega);have HPY:=Qh hpy;have HB5:=Qh hB5;clear hw2 hb5 hB5 hk2 hpre hcs hgr hsy hpy;go_upto_region 5 with fail
   rw[←HW2.out.1,←HW2.out.2];clear c0 c1 c2 HW2 hgl3 q2r hv2;obtain⟨wo,hwo⟩:∃z,z=wr:=⟨_,rfl⟩;subst hwo;go_wp2_with fail
   go_loopw [3,22] (fun s3 s22 wi=>∃(j:Nat) (a2:WS),s3= .bool a2.more∧s22= .int .i64 j∧j≤pr.syms.length∧Hid (a2=YK E F pr a j)∧Hid (StAt wi B p S A E F a2.follow ge gf gw)∧K1 gw w2 wi) (fun _ s22 _=>pr.syms.length-(intOf s22).toNat)
   case atStart=>exact⟨0,a,rfl,rfl,Nat.zero_le _,Qh rfl,HS2,Qb _ _⟩
   case round=>
    clear HS2;obtain⟨j,a2,rfl,rfl,hj,haj,hs3,hk3⟩:=hrel;have z0:=Qi hk3 y0 HG5.out;have z2:=Qi hk3 y2 HG5.out;by_cases hjl:j<pr.syms.length
    ·obtain⟨gs,rfl,hsr,hgs⟩:=HSY.out (fun e=>by rw[e] at hjl;simp at hjl);have v0:=Qi hk3 (hsr j hjl).1 hgs;have v1:=Qi hk3 (hsr j hjl).2 hgs;rw[Nat.zero_add] at v0 v1;have HYS:=Qh (YK_succ (E:=E) (F:=F) (p:=pr) a hjl);rw[←haj.out] at HYS;have hyo:=HPY.out _ (List.getElem_mem hjl);obtain⟨y,hy⟩:∃z,z=pr.syms[j]:=⟨_,rfl⟩;rw[←hy] at v0 v1 HYS hyo;have hgl4:=World.block_lt_of_cell? wr _ v0;obtain⟨w3,hw3⟩:∃z,z=wr.alloc (.cells #[.bool y.place,.int .i64 y.n] TSy):=⟨_,rfl⟩;have hk33:Kn wr w3:=by rw[hw3];exact(Qb _ _).alloc _
     obtain⟨b7,hb7⟩:∃z,z=wr.heap.size:=⟨_,rfl⟩;have hB7:w3.heap[b7]? =some (.cells #[.bool y.place,.int .i64 y.n] TSy (0,0)):=by rw[hw3,hb7];exact Qf _ _
     have u0:w3.cell? ⟨b7,0,none⟩=some (.bool y.place):=by rw[Qa hB7];try rfl
     have u1:w3.cell? ⟨b7,1,none⟩=some (.int .i64 y.n):=by rw[Qa hB7];try rfl
     have HKK:=Qh hk33;have HS33:=Qh (hs3.out.kn hk33);have HKP3:=Qh (hk3.trans (Kp.weak hk33));have t0:=Qc hk33 z0;have t2:=Qc hk33 z2;have HW3:=Qh (And.intro hw3 hb7);have hb7w:b7≠gw:=by have h1:=Qj hs3.out.rw_;omega
     clear hw3 hb7 hB7 hk33 z0 z2 hs3 hy;cases hyp:y.place with
     |false=>
      rw[hyp] at u0 v0 HW3;have HF2:Hid (YK E F pr a (j+1)=a2):=Qh (by rw[HYS.out];unfold Yk;rw[if_pos hyp]);clear hyp HYS;go_upto_region 8 with fail
      rw[←HW3.out.1,←HW3.out.2];go_wp2_with fail
      go_roundw
      case rel=>exact⟨j+1,a2,rfl,by go_num,by omega,Qh HF2.out.symm,HS33,HKP3.out⟩
      case measure=>simp[intOf];omega
     |true=>
      rw[hyp] at u0 v0 HW3 hyo;obtain⟨m,hm⟩:=Int.eq_ofNat_of_zero_le (show 0≤y.n by simp at hyo;omega);have hml:m<S.places.length:=by simp at hyo;omega
      have hmt:y.n.toNat=m:=by omega
      rw[hm] at u1 v1 HW3;have HFY:Hid (YK E F pr a (j+1)=if followX E F pr a2 j y=a2.follow.getD m 0 then a2 else⟨a2.follow.set m (followX E F pr a2 j y),true⟩):=Qh (by rw[HYS.out];unfold Yk;rw[if_neg (by rw[hyp];simp)];dsimp only;rw[hmt]);have hMT:=Qh hmt;clear hyp HYS hyo hm hmt;have hdl:(pr.syms.drop (j+1)).length=pr.syms.length-(j+1):=List.length_drop ..
      have hjle:j+1≤pr.syms.length:=by omega
      obtain⟨r,hr⟩:∃z,z=Qx E F 0 (pr.syms.drop (j+1)):=⟨_,rfl⟩;have hrl:=beginsF_lt (E:=E) HS33.out.fz (pr.syms.drop (j+1)) 0 (by decide);have HBG:Hid (∀(a':Option Addr) (c':Nat),SyS w3 a' (pr.syms.drop (j+1))→Calls Tryz.prog 115 #[ptr p,.slice a' (pr.syms.length-(j+1)) c'] w3 fun e w'=>e= .returned (.tuple #[.agg #[.int .u64 (r.1:Nat)],.bool r.2])∧Kn w3 w'):=Qh (fun a' c' hs=>by
       have h9:=begins_c (c:=c') (a:=a') (pr.syms.drop (j+1)) HS33.out hle hs (by omega);rw[hdl,←hr] at h9;exact h9)
      have HSR:Hid (SyR w3 gs 0 pr.syms):=Qh (fun i hi=>⟨Qc HKK.out (Qi hk3 (hsr i hi).1 hgs),Qc HKK.out (Qi hk3 (hsr i hi).2 hgs)⟩);rw[←hr] at hrl;have HR:=Qh hr;clear hr hk3 hsr hdl;go_upto_region 8 with fail
      rw[←HW3.out.1,←HW3.out.2];clear v0 v1 hgl4 HW3;obtain⟨n,hn⟩:∃z,z=pr.syms.length:=⟨_,rfl⟩;rw[←hn] at t2 hjl hjle HBG hcs1⊢;have HN:=Qh hn;clear hn;go_upto_region 9 with fail
      have HJX:Hid (n=j+1→pr.syms.drop (j+1)=[]):=Qh (fun e=>List.drop_eq_nil_of_le (by rw[←HN.out];omega));go_cut [8,9] (fun s8 s9 wc=>∃b8:Nat,s8=ptr b8∧s9= .bool r.2∧w3.heap.size≤b8∧Hid (wc.heap[b8]? =some (.cells #[.int .u64 (r.1:Nat)] TBi (0,0)))∧Kn w3 wc)
      case first=>
       by_cases hz:cs=j+1
       ·obtain rfl:n=j+1:=by omega
        obtain rfl:cs=j+1:=by omega
        have hb2:=(HBG.out (some ⟨gs,0,none⟩) 0 (fun hne=>absurd (HJX.out rfl) hne));rw[Nat.sub_self] at hb2;have HB2:=Qh hb2;clear HBG HSR hb2;go_wp2_with (first|(go_at_call 115;go_must (with_reducible refine HB2.out.mono ?_;rintro e w4 ⟨rfl,hk4⟩)))
        go_meet
        case rel=>exact⟨_,rfl,rfl,hk4.size,Qh (Qf _ _),hk4.alloc _⟩
       ·have HB2:=Qh (HBG.out (some ⟨gs,(j+1)*2,none⟩) (cs-(j+1)) (fun _=>⟨gs,(j+1)*2,rfl,fun i hi=>by
         have h9:=HSR.out (j+1+i) (by rw[List.length_drop] at hi;have:=HN.out;omega);rw[show 0+(j+1+i)*2=(j+1)*2+i*2 by omega] at h9;rw[List.getElem_drop];exact h9⟩))
        clear HBG HSR;go_wp2_with (first|(go_at_call 115;go_must (with_reducible refine HB2.out.mono ?_;rintro e w4 ⟨rfl,hk4⟩)))
        go_meet
        case rel=>exact⟨_,rfl,rfl,hk4.size,Qh (Qf _ _),hk4.alloc _⟩
      case rest=>
       obtain⟨b8,rfl,rfl,hb8,hB8,hk8⟩:=hcut;obtain rfl:=HN.out;obtain⟨v4,hv4⟩:∃z,z=wc:=⟨_,rfl⟩;subst hv4;have HS4:=HS33.out.kn hk8;have HK8:=Qh hk8;have z0:=Qc hk8 t0;have z1:=Qc hk8 u1;have n58:b5≠b8:=by have h1:b5<w3.heap.size:=World.block_lt_of_cell? w3 _ t0;omega
       have n78:b7≠b8:=by have h1:b7<w3.heap.size:=World.block_lt_of_cell? w3 _ u1;omega
       have hfpl:=getD_lt HS4.wz (by decide) pr.place;have hfml:=getD_lt HS4.wz (by decide) m;have c7:=HS4.c7;have ep:=HS4.wcell hpp;obtain⟨al,hal⟩:∃z,z=r.2:=⟨_,rfl⟩;obtain⟨r1,hr1⟩:∃z,z=r.1:=⟨_,rfl⟩;obtain⟨x1,hx1⟩:∃z,z=r1|||(if al=true then a2.follow.getD pr.place 0 else 0):=⟨_,rfl⟩;have HFX:Hid (followX E F pr a2 j y=x1|||a2.follow.getD m 0):=Qh (by
        unfold followX;rw[←HR.out,←hal,←hr1,hMT.out,hx1])
       have hx1l:x1<M41:=by
        rw[hx1,hr1];refine or_lt hrl ?_;split
        ·exact hfpl
        ·decide
       rw[←hal];rw[←hr1] at hB8 hrl;have HX1:=Qh hx1;have HB8:=Qh hB8.out;clear hB8 hal hr1 hk8 t0 t2 u0 u1 HBG HSR HKK hx1 HR HS4;obtain⟨fp,hfp⟩:∃z,z=a2.follow.getD pr.place 0:=⟨_,rfl⟩;obtain⟨fm,hfm⟩:∃z,z=a2.follow.getD m 0:=⟨_,rfl⟩;rw[←hfp] at HX1 hfpl ep;rw[←hfm] at HFX HFY hfml;have HFM:=Qh hfm;clear hfp hfm;have e8:v4.cell? ⟨b8,0,none⟩=some (.int .u64 (r1:Nat)):=by rw[Qa HB8.out];try rfl
       go_upto_if 40 with fail
       go_cut [] (fun wc=>Hid (wc.heap[b8]? =some (.cells #[.int .u64 (x1:Nat)] TBi (0,0)))∧Kp (fun k=>k=b8) v4 wc)
       case first=>
        cases al with
        |false=>
         have hx:x1=r1:=by rw[HX1.out];simp
         have HX:=Qh hx;clear hx HX1;go_wp2_with fail
         go_meet
         case rel=>exact⟨Qh (by rw[HX.out];exact HB8.out),Qb _ _⟩
        |true=>
         have hx:x1=r1|||fp:=by rw[HX1.out];simp
         have HX:=Qh hx;clear hx HX1;go_wp2_with fail
         refine rgn (fun w'=>w'.cell? ⟨b8,0,none⟩=some (.int .u64 (r1:Nat))∧w'.cell? ⟨b5,0,none⟩=some (.int .i64 (pr.place:Nat))∧w'.cell? ⟨p,7,none⟩=some (.slice (some ⟨gw,0,none⟩) S.places.length S.places.length)∧w'.cell? ⟨gw,pr.place,none⟩=some (.int .u64 (fp:Nat))) (X:=[]) ⟨Qc ((Qb _ _).drew) e8,Qc ((Qb _ _).drew) z0,Qc ((Qb _ _).drew) c7,Qc ((Qb _ _).drew) ep⟩ (fun hX hHeld=> ?_);refine tk 0 41 ?_;refine tw 1 42 ?_;refine tw 2 43 ?_;refine tw 3 44 ?_;refine tk 4 45 ?_;refine tw 5 46 ?_;refine tk 6 47 ?_;refine tw 7 48 ?_;refine tk 8 49 ?_;refine ro 9 (fun K hK=> ?_);go_simp
         go_at_call 116
         refine(with_kn r1 fp hrl hfpl _).mono ?_;rintro e v3 ⟨rfl,hk5⟩;have hk35:Kn v4 v3:=((Qb _ _).drew).trans hk5;have HB83:=Qh (hk35.blk HB8.out (fun x=>x));have fr8:=Qd HB83.out 0;have HK35:=Qh hk35;refine hK.out _ _ (⟨Qc hk5 hHeld.1,Qc hk5 hHeld.2.1,Qc hk5 hHeld.2.2.1,Qc hk5 hHeld.2.2.2⟩) (fun hHeld=> ?_);clear hk35 hk5 e8 ep c7 z0 z1;clear hK K
         try simp only[PP]
         refine re 10 (fun K hK=> ?_);go_simp;obtain⟨w5,hw5⟩:∃z,z=v3.setCell ⟨b8,0,none⟩ (.int .u64 ((r1|||fp:Nat):Int)):=⟨_,rfl⟩;have hk9:K1 b8 v3 w5:=by rw[hw5];exact Qg _ _
         have HB85:Hid (w5.heap[b8]? =some (.cells #[.int .u64 ((r1|||fp:Nat):Int)] TBi (0,0))):=Qh (by rw[hw5];exact Qk HB83.out 0 _);have HK85:Hid (Kp (fun k=>k=b8) v4 w5):=Qh ((Kp.weak HK35.out).trans hk9);rw[←hw5];clear hw5 hk9 hHeld fr8;refine hK.out _ _ ?_;clear hK K;go_wp2_with fail
         go_meet
         case rel=>exact⟨Qh (by rw[HX.out];exact HB85.out),HK85.out⟩
       case rest=>
        obtain⟨hB85,hk5⟩:=hcut;obtain⟨v5,hv5⟩:∃z,z=wc:=⟨_,rfl⟩;subst hv5;have hkn5:Kn w3 v5:=HK8.out.trans' hk5 (fun i hi e=>by omega);have HS5:=HS33.out.kn hkn5;have c7':=HS5.c7;have em:=HS5.wcell hml;rw[←HFM.out] at em;have q1:=Qi hk5 z1 n78;have e8':v5.cell? ⟨b8,0,none⟩=some (.int .u64 (x1:Nat)):=by rw[Qa hB85.out];try rfl
        have HK5:=Qh hkn5;have HB85:=Qh hB85.out;clear hB85 hk5 hkn5 HS5 c7 ep e8 z0 z1 HK8 HB8 HX1;go_wp2_with fail
        refine rgn (fun w'=>w'.cell? ⟨b8,0,none⟩=some (.int .u64 (x1:Nat))∧w'.cell? ⟨b7,1,none⟩=some (.int .i64 (m:Nat))∧w'.cell? ⟨p,7,none⟩=some (.slice (some ⟨gw,0,none⟩) S.places.length S.places.length)∧w'.cell? ⟨gw,m,none⟩=some (.int .u64 (fm:Nat))) (X:=[]) ⟨Qc ((Qb _ _).drew) e8',Qc ((Qb _ _).drew) q1,Qc ((Qb _ _).drew) c7',Qc ((Qb _ _).drew) em⟩ (fun hX hHeld=> ?_);refine tk 0 51 ?_;refine tw 1 52 ?_;refine tw 2 53 ?_;refine tw 3 54 ?_;refine tk 4 55 ?_;refine tw 5 56 ?_;refine tk 6 57 ?_;refine tw 7 58 ?_;refine tk 8 59 ?_;refine ro 9 (fun K hK=> ?_);go_simp
        go_at_call 116
        refine(with_kn x1 fm hx1l hfml _).mono ?_;rintro e v3 ⟨rfl,hk5⟩;have hk35:Kn v5 v3:=((Qb _ _).drew).trans hk5;have HB83:=Qh (hk35.blk HB85.out (fun x=>x));have fr8:=Qd HB83.out 0;have z6:=Qh (Qc hk35 q1);have HK35:=Qh (HK5.out.trans hk35);refine hK.out _ _ (⟨Qc hk5 hHeld.1,Qc hk5 hHeld.2.1,Qc hk5 hHeld.2.2.1,Qc hk5 hHeld.2.2.2⟩) (fun hHeld=> ?_);clear hk35 hk5 e8' em c7' q1;clear hK K
        try simp only[PP]
        refine re 10 (fun K hK=> ?_);go_simp;obtain⟨v6,hv6⟩:∃z,z=v3.setCell ⟨b8,0,none⟩ (.int .u64 ((x1|||fm:Nat):Int)):=⟨_,rfl⟩;have hk9:K1 b8 v3 v6:=by rw[hv6];exact Qg _ _
        have HB86:Hid (v6.heap[b8]? =some (.cells #[.int .u64 ((x1|||fm:Nat):Int)] TBi (0,0))):=Qh (by rw[hv6];exact Qk HB83.out 0 _);have HK6:Hid (Kn w3 v6):=Qh (HK35.out.trans' hk9 (fun i hi e=>by omega))
        replace z6:=Qh (Qi hk9 z6.out n78)
        rw[←hv6];clear hv6 hk9 hHeld fr8;refine hK.out _ _ ?_;clear hK K;obtain⟨X,hX⟩:∃z,z=x1|||fm:=⟨_,rfl⟩;have hXl:=or_lt hx1l hfml;rw[←hX] at HFX hXl HB86;have HXX:=Qh hX;clear hX;have HS6:=Qh (HS33.out.kn HK6.out);have c76:=HS6.out.c7;have em6:=HS6.out.wcell hml;rw[←HFM.out] at em6;have q6:=z6.out;have e86:v6.cell? ⟨b8,0,none⟩=some (.int .u64 (X:Nat)):=by rw[Qa HB86.out];try rfl
        have HKP6:=Qh (HKP3.out.trans (Kp.weak HK6.out));have N86:Hid (b8≠gw∧p≠gw):=Qh ⟨by have h1:=Qj HS33.out.rw_;omega,fun e=>by have h1:=HS33.out.blk;rw[e] at h1;exact Qn h1 HS33.out.rw_ (by decide)⟩;clear z6 HB86;by_cases hxm:X=fm
        ·have HF3:Hid (YK E F pr a (j+1)=a2):=Qh (by rw[HFY.out,HFX.out,if_pos hxm]);subst hxm;go_wp2_with fail
         go_quiet (fail)
         go_wp2_with fail
         go_roundw
         case rel=>exact⟨j+1,a2,rfl,by go_num,by omega,Qh HF3.out.symm,Qh (HS6.out.kn ((Qb _ _).drewN _)),HKP6.out.drewN _⟩
         case measure=>simp[intOf];omega
        ·have HF3:Hid (YK E F pr a (j+1)=⟨a2.follow.set m X,true⟩):=Qh (by rw[HFY.out,HFX.out,if_neg hxm]);have hxm2:¬(X:Int)=fm:=by omega
         clear hxm;go_wp2_with fail
         go_quiet (fail)
         obtain⟨v7,hv7⟩:∃z,z=v6.drewN nq:=⟨_,rfl⟩;have hk7:Kn v6 v7:=by rw[hv7];exact(Qb _ _).drewN _
         rw[←hv7];have c77:=Qc hk7 c76;have q7:=Qc hk7 q6;have e87:=Qc hk7 e86;have HS7:=Qh (HS6.out.kn hk7);have HKP7:=Qh (HKP6.out.trans (Kp.weak hk7));clear hv7 hk7 c76 q6 e86 em6 HS6 HKP6;go_wp2_with fail
         refine rgn (fun w'=>w'.cell? ⟨b8,0,none⟩=some (.int .u64 (X:Nat))∧w'.cell? ⟨b7,1,none⟩=some (.int .i64 (m:Nat))∧w'.cell? ⟨p,7,none⟩=some (.slice (some ⟨gw,0,none⟩) S.places.length S.places.length)) (X:=[]) ⟨Qc ((Qb _ _).drew) e87,Qc ((Qb _ _).drew) q7,Qc ((Qb _ _).drew) c77⟩ (fun hX hHeld=> ?_);refine tw 0 71 ?_;refine tw 1 72 ?_;refine tw 2 73 ?_;refine tk 3 74 ?_;refine tw 4 75 ?_;refine tk 5 76 ?_;refine tk 6 77 ?_;refine tw 7 78 ?_;refine ro 8 (fun K hK=> ?_);obtain⟨vd,hvd⟩:∃z,z=v7.drew:=⟨_,rfl⟩;have HSD:=Qh (HS7.out.kn (w':=vd) (by rw[hvd];exact(Qb _ _).drew));have HKPD:Hid (K1 gw w2 vd):=Qh (by rw[hvd];exact HKP7.out.drew);have f7:=HSD.out.rw_.fr m;have em7:=HSD.out.wcell hml;rw[←hvd] at hHeld⊢;clear hvd;go_simp;obtain⟨v9,hv9⟩:∃z,z=vd.setCell ⟨gw,m,none⟩ (.int .u64 (X:Nat)):=⟨_,rfl⟩;have hk9:K1 gw vd v9:=by rw[hv9];exact Qg _ _
         have HS9:=Qh (HSD.out.setW m X hXl);have HKP9:Hid (K1 gw w2 v9):=Qh (HKPD.out.trans hk9);rw[←hv9] at HS9⊢;refine hK.out _ _ (⟨Qi hk9 hHeld.1 N86.out.1,Qi hk9 hHeld.2.1 hb7w,Qi hk9 hHeld.2.2 N86.out.2⟩) (fun hHeld=> ?_);clear hv9 hk9 c77 q7 e87 f7 em7;clear hK K
         try simp only[PP]
         refine re 9 (fun K hK=> ?_);go_simp;clear hHeld;refine hK.out _ _ ?_;clear hK K;go_wp2_with fail
         go_roundw
         case rel=>exact⟨j+1,⟨a2.follow.set m X,true⟩,rfl,by go_num,by omega,Qh HF3.out.symm,HS9,HKP9.out⟩
         case measure=>simp[intOf];omega
    ·obtain rfl:j=pr.syms.length:=by omega
     have HF4:Hid (WK E F S.l ⟨W,false⟩ (k+1)=a2):=Qh (by rw[HST.out,haj.out,YK_all]);go_wp2_with fail
     go_roundw
     case rel=>exact⟨k+1,a2,rfl,by go_num,by omega,Qh HF4.out.symm,hs3,HKP2.out.trans hk3⟩
     case measure=>simp[intOf];omega
  ·obtain rfl:k=S.l.length:=by omega
   have hfk:a=followP E F S.l W:=by rw[hak.out];unfold WK followP;rw[List.take_length]
   have HFK:=Qh hfk;clear hfk;go_wp2_with fail
   go_ret;exact⟨by rw[HFK.out];try rfl,by rw[←HFK.out];exact hst.out,hkp⟩
end Go.Proofs.YtiehgcfckhepaaaGreatDoor
namespace Go.Proofs.YtiehgcfckhepaaaGreatDoor
theorem sum_set:∀(l:List Nat) (i x:Nat),i<l.length→(l.set i x).sum+l.getD i 0=l.sum+x
 |[],i,x,h=>by simp at h
 |a::l,0,x,_=>by simp;omega
 |a::l,i+1,x,h=>by
  have:=sum_set l i x (by simpa using h);simp only[List.set_cons_succ,List.sum_cons,List.getD_cons_succ];omega
theorem sum_lt{M:Nat} :∀(l:List Nat),(∀x∈l,x<M)→l.sum≤l.length*M
 |[],_=>by simp
 |a::l,h=>by
  have h1:=h a List.mem_cons_self;have h2:=sum_lt l (fun x hx=>h x (List.mem_cons_of_mem _ hx));rw[List.sum_cons,List.length_cons,Nat.add_mul,Nat.one_mul];omega
def bN(E:List Bool):List Nat:=E.map Bool.toNat
theorem bN_getD(E:List Bool)(i:Nat):(bN E).getD i 0=(E.getD i false).toNat:=by
 unfold bN;rw[List.getD_eq_getElem?_getD,List.getD_eq_getElem?_getD,List.getElem?_map];cases E[i]? <;>rfl
theorem bN_set(E:List Bool)(i:Nat)(b:Bool):bN (E.set i b)=(bN E).set i b.toNat:=by unfold bN;rw[List.map_set]
theorem bN_len(E:List Bool):(bN E).length=E.length:=by simp[bN]
theorem bN_lt(E:List Bool):∀x∈bN E,x<2:=by
 intro x hx;obtain⟨b,_,rfl⟩:=List.mem_map.1 hx;cases b<;>decide
def MF(E:List Bool)(F:List Nat):Nat:=F.sum+(bN E).sum
theorem firstS_mono(a:FS)(p:PR)(h1:p.place<a.empty.length)(h2:p.place<a.first.length):
  MF a.empty a.first≤MF (QZ a p).empty (QZ a p).first∧((QZ a p).more=true→a.more=true∨MF a.empty a.first<MF (QZ a p).empty (QZ a p).first):=by
 obtain⟨r,hr⟩:∃r,r=Qx a.empty a.first 0 p.syms:=⟨_,rfl⟩;have hF:QZ a p=⟨a.empty.set p.place (r.2||a.empty.getD p.place false),a.first.set p.place (r.1|||a.first.getD p.place 0),
  a.more||(decide (r.1|||a.first.getD p.place 0≠a.first.getD p.place 0)||(r.2&& !a.empty.getD p.place false))⟩:=by rw[hr];try rfl
 rw[hF];unfold MF;dsimp only;have e1:=sum_set a.first p.place (r.1|||a.first.getD p.place 0) h2;have e2:=sum_set (bN a.empty) p.place (r.2||a.empty.getD p.place false).toNat (by rw[bN_len];exact h1);rw[bN_getD] at e2;rw[bN_set];have g1:a.first.getD p.place 0≤r.1|||a.first.getD p.place 0:=Nat.right_le_or;have g2:(a.empty.getD p.place false).toNat≤(r.2||a.empty.getD p.place false).toNat:=by
  cases r.2<;>cases a.empty.getD p.place false<;>decide
 refine⟨by omega,fun h=> ?_⟩;simp only[Bool.or_eq_true,decide_eq_true_eq,Bool.and_eq_true,Bool.not_eq_true'] at h;rcases h with h|h|⟨h,h3⟩
 ·exact .inl h
 ·exact .inr (by omega)
 ·rw[h,h3] at e2;have:(true||false).toNat=1:=rfl;have:false.toNat=0:=rfl;refine .inr ?_;rw[h,h3];omega
theorem firstS_len(a:FS)(p:PR):(QZ a p).empty.length=a.empty.length∧(QZ a p).first.length=a.first.length:=by
 unfold QZ;simp
theorem firstP_mono:∀(l:List PR) (a:FS),(∀p∈l,p.place<a.empty.length∧p.place<a.first.length)→
  MF a.empty a.first≤MF (l.foldl QZ a).empty (l.foldl QZ a).first∧((l.foldl QZ a).more=true→a.more=true∨MF a.empty a.first<MF (l.foldl QZ a).empty (l.foldl QZ a).first)
 |[],a,_=>⟨Nat.le_refl _,fun h=> .inl h⟩
 |p::l,a,h=>by
  have h1:=h p List.mem_cons_self;have hl:=firstS_len a p;obtain⟨m1,m2⟩:=firstS_mono a p h1.1 h1.2;obtain⟨n1,n2⟩:=firstP_mono l (QZ a p) (fun q hq=>by rw[hl.1,hl.2];exact h q (List.mem_cons_of_mem _ hq));rw[List.foldl_cons];refine⟨Nat.le_trans m1 n1,fun hm=> ?_⟩;rcases n2 hm with h3|h3
  ·rcases m2 h3 with h4|h4
   ·exact .inl h4
   ·exact .inr (by omega)
  ·exact .inr (by omega)
theorem followS_mono(E:List Bool)(F:List Nat)(p:PR)(a:WS)(z:SY×Nat)(h:z.1.place=true→z.1.n.toNat<a.follow.length):
  a.follow.sum≤(Yk E F p a z).follow.sum∧((Yk E F p a z).more=true→a.more=true∨a.follow.sum<(Yk E F p a z).follow.sum)∧(Yk E F p a z).follow.length=a.follow.length:=by
 unfold Yk;split
 ·exact⟨Nat.le_refl _,fun h=> .inl h,rfl⟩
 ·rename_i hp;split
  ·exact⟨Nat.le_refl _,fun h=> .inl h,rfl⟩
  ·rename_i hx;have e1:=sum_set a.follow z.1.n.toNat (followX E F p a z.2 z.1) (h (by simpa using hp));have g1:a.follow.getD z.1.n.toNat 0≤followX E F p a z.2 z.1:=Nat.right_le_or;dsimp only;exact⟨by omega,fun _=> .inr (by omega),by simp⟩
theorem followR_mono(E:List Bool)(F:List Nat)(p:PR):∀(l:List (SY×Nat)) (a:WS),(∀z∈l,z.1.place=true→z.1.n.toNat<a.follow.length)→
  a.follow.sum≤(l.foldl (Yk E F p) a).follow.sum∧((l.foldl (Yk E F p) a).more=true→a.more=true∨a.follow.sum<(l.foldl (Yk E F p) a).follow.sum)∧(l.foldl (Yk E F p) a).follow.length=a.follow.length
 |[],a,_=>⟨Nat.le_refl _,fun h=> .inl h,rfl⟩
 |z::l,a,h=>by
  obtain⟨m1,m2,m3⟩:=followS_mono E F p a z (h z List.mem_cons_self);obtain⟨n1,n2,n3⟩:=followR_mono E F p l (Yk E F p a z) (fun y hy=>by rw[m3];exact h y (List.mem_cons_of_mem _ hy));rw[List.foldl_cons];refine⟨Nat.le_trans m1 n1,fun hm=> ?_,n3.trans m3⟩;rcases n2 hm with h3|h3
  ·rcases m2 h3 with h4|h4
   ·exact .inl h4
   ·exact .inr (by omega)
  ·exact .inr (by omega)
theorem followP_mono(E:List Bool)(F:List Nat):∀(l:List PR) (a:WS),(∀p∈l,∀y∈p.syms,y.place=true→y.n.toNat<a.follow.length)→
  a.follow.sum≤(l.foldl (YF E F) a).follow.sum∧((l.foldl (YF E F) a).more=true→a.more=true∨a.follow.sum<(l.foldl (YF E F) a).follow.sum)∧(l.foldl (YF E F) a).follow.length=a.follow.length
 |[],a,_=>⟨Nat.le_refl _,fun h=> .inl h,rfl⟩
 |p::l,a,h=>by
  obtain⟨m1,m2,m3⟩:=followR_mono E F p p.syms.zipIdx a (fun z hz hzp=>h p List.mem_cons_self z.1 (by
   obtain⟨y,i⟩:=z;exact List.mem_of_getElem? (List.mem_zipIdx_iff_getElem?.1 hz)) hzp)
  obtain⟨n1,n2,n3⟩:=followP_mono E F l (YF E F a p) (fun q hq y hy hyp=>by
   unfold YF;rw[m3];exact h q (List.mem_cons_of_mem _ hq) y hy hyp)
  rw[List.foldl_cons];unfold YF at*;refine⟨Nat.le_trans m1 n1,fun hm=> ?_,n3.trans m3⟩;rcases n2 hm with h3|h3
  ·rcases m2 h3 with h4|h4
   ·exact .inl h4
   ·exact .inr (by omega)
  ·exact .inr (by omega)
open Go.RowKit Go.Maps
theorem info_sy:(Tryz.prog.info? TSy).map (fun i=>(i.zero,i.size,i.bytes))=some (some (.agg #[.bool false,.int .i64 0]),2,16):=by kernel_rfl
theorem symsF_step(ps:PL)(qs:List GP)(k:Nat)(hk:k<qs.length):Yi ps (qs.take (k+1))=symS (Yi ps (qs.take k)) qs[k]:=by
 unfold Yi;rw[List.take_succ_eq_append_getElem hk,List.foldl_append];try rfl
theorem placeF_le(ps:PL)(q:Nat×Nat):ps.length≤(Ys ps q).1.length∧(Ys ps q).1.length≤ps.length+1∧(Ys ps q).2<(Ys ps q).1.length:=by
 unfold Ys;cases h:placeI ps q with
 |none=>simp
 |some j=>
  obtain⟨hj,_⟩:=List.findIdx?_eq_some_iff_getElem.1 h;exact⟨Nat.le_refl _,Nat.le_succ _,hj⟩
theorem symF_le(ps:PL)(q:GP):ps.length≤(symF ps q).1.length∧(symF ps q).1.length≤ps.length+1:=by
 unfold symF;split
 ·exact⟨(placeF_le ps _).1,(placeF_le ps _).2.1⟩
 ·exact⟨Nat.le_refl _,Nat.le_succ _⟩
theorem symsF_len(ps:PL)(qs:List GP)(k:Nat)(hk:k≤qs.length):(Yi ps (qs.take k)).2.length=k∧ps.length≤(Yi ps (qs.take k)).1.length∧(Yi ps (qs.take k)).1.length≤ps.length+k:=by
 induction k with
 |zero=>simp[Yi]
 |succ k ih=>
  obtain⟨h1,h2,h3⟩:=ih (by omega);rw[symsF_step ps qs k (by omega)];have:=symF_le (Yi ps (qs.take k)).1 (qs[k]'(by omega));exact⟨by simp[symS,h1],by simp only[symS];omega,by simp only[symS];omega⟩
theorem bd_row{w w':World}{B B2 p:Nat}{S:SB}{A:SA}{v:Value}{l:List SY}(h:BdAt w B p S A)(hr:OwnK w B2 TSy 2 v (l.map syL))(hk:Kp (fun k=>some k=v.ownBlock) w w')(hlt:∀x∈A.vls,∀g,x.ownBlock=some g→g<B2):BdAt w' B p S A:=by
 have hS:=QL hr;refine⟨Qw h.blk hk hS (by decide),Ql h.pl hk hS (by decide),Qs h.mt hk hS,⟨Ql h.pr.row hk hS (by decide),h.pr.len,fun i a b=>QC (h.pr.syms i a b) hk (fun g hg e=> ?_)⟩,h.of_.off hk (Qv hS (by decide)) (Qv hS (by decide)),h.pB⟩;have h1:=hlt _ (List.getElem_mem a) g hg;have h2:=(hr.lt g e.symm).1;omega
theorem pk_row{w w1 w2:World}{p k:Nat}{T:TypeId}{A A':SA}{v:Value}{Cs:List (List Value)}(h:PlKeep w w1 p A A')(hr:OwnK w1 w.heap.size T k v Cs)(hk:Kp (fun k=>some k=v.ownBlock) w1 w2):PlKeep w w2 p A A':=
 ⟨h.kp.trans' hk (fun i hi e=>by have:=(hr.lt i e.symm).1;omega),h.vp,h.rest⟩
theorem BdAt.vlt{w:World}{B p:Nat}{S:SB}{A:SA}(h:BdAt w B p S A):∀x∈A.vls,∀g,x.ownBlock=some g→g<w.heap.size:=fun x hx g hg=>by
 obtain⟨i,hi,rfl⟩:=List.getElem_of_mem hx;exact((h.pr.syms i hi (by rw[←h.pr.len];exact hi)).lt g hg).2
def SPaOk(q:GP):Prop:=q.sort≤1000000∧q.level≤1000000
def PaR(w:World)(g:Nat)(qs:List GP):Prop:=∀i (h:i<qs.length),w.cell? ⟨g,i*4,none⟩=some (.int .i64 qs[i].cls)∧w.cell? ⟨g,i*4+1,none⟩=some (.int .i64 qs[i].sort)∧w.cell? ⟨g,i*4+2,none⟩=some (.int .i64 (qs[i].level:Nat))∧w.cell? ⟨g,i*4+3,none⟩=some (.bool qs[i].fixed)
theorem PaR.of{w:World}{B:Nat}{v:Value}{qs:List GP}(h:OwnK w B TPa 4 v (qs.map paL)):∃a c,v= .slice a qs.length c∧(qs≠[]→∃g,a=some ⟨g,0,none⟩∧B≤g∧PaR w g qs):=by
 obtain⟨a,c,hv,_,_,hg⟩:=h.row (fun C hC=>by obtain⟨x,_,rfl⟩:=List.mem_map.1 hC;rfl);rw[List.length_map] at hv;refine⟨a,c,hv,fun hne=> ?_⟩;obtain⟨g,ha,hB,_,hc⟩:=hg (by simpa using hne);refine⟨g,ha,hB,fun i hi=> ?_⟩;have h4:=hc i (by simpa using hi);have e0:=(h4 0 (by omega)).1;have e1:=(h4 1 (by omega)).1;have e2:=(h4 2 (by omega)).1;have e3:=(h4 3 (by omega)).1;rw[show 0+4*i+0=i*4 by omega] at e0;rw[show 0+4*i+1=i*4+1 by omega] at e1;rw[show 0+4*i+2=i*4+2 by omega] at e2;rw[show 0+4*i+3=i*4+3 by omega] at e3;rw[e0,e1,e2,e3];simp[paL]
def SymsPost(B p:Nat)(S:SB)(A:SA)(qs:List GP)(w:World)(e:Ending)(w':World):Prop:=
 ∃v A',e= .returned v∧OwnK w' w.heap.size TSy 2 v ((Yi S.places qs).2.map syL)∧BdAt w' B p {S with places:=(Yi S.places qs).1} A'∧PlKeep w w' p A A'
theorem symbols_c{B p c:Nat}{a:Option Addr}{S:SB}{A:SA}{w:World}(qs:List GP)(h:BdAt w B p S A)(hv:qs≠[]→∃g,a=some ⟨g,0,none⟩∧(∃cs,w.heap[g]? =some (.cells cs TPa (0,0)))∧PaR w g qs)(hok:∀q∈qs,SPaOk q)(hl:S.places.length+qs.length≤900):
  Calls Tryz.prog 114 #[ptr p,.slice a qs.length c] w (SymsPost B p S A qs w):=by
 obtain⟨ie,hi,hz0,hz1,hz2⟩:=info_parts info_sy;have HIE:=Qh (And.intro hi (And.intro hz0 (And.intro hz1 hz2)));have HV:=Qh hv;have HOK:=Qh hok;have H:=Qh h;have HVL:=Qh h.vlt;have hpl:=h.lt;clear hi hz0 hz1 hz2 hv hok h;go_enter Tryz.func114,Tryz.ntmps114;go_wp2_with fail
 go_loopw [5,10] (fun s5 s10 wr=>∃(k:Nat) (v:Value) (A':SA),v=s5∧s10= .int .i64 k∧k≤qs.length∧Hid (OwnK wr w.heap.size TSy 2 v ((Yi S.places (qs.take k)).2.map syL))∧Hid (BdAt wr B p {S with places:=(Yi S.places (qs.take k)).1} A')∧Hid (PlKeep w wr p A A')) (fun _ s10 _=>qs.length-(intOf s10).toNat)
 case atStart=>exact⟨0,_,A,rfl,rfl,Nat.zero_le _,Qh OwnK.nil,H,Qh (PlKeep.refl _ _ _)⟩
 case round=>
  obtain⟨k,v,A',rfl,rfl,hk,hov,hbd,hkp⟩:=hrel;have hsl:=symsF_len S.places qs k hk;by_cases hlt:k<qs.length
  ·obtain⟨g,rfl,⟨cs,hcs⟩,hc⟩:=HV.out (fun e=>by rw[e] at hlt;simp at hlt);have hgo:=H.out.other (T:=TPa) (by decide) (by decide) g cs hcs;obtain⟨c0,c1,c2,c3⟩:=hc k hlt;have x0:=Qi hkp.out.kp c0 hgo;have x1:=Qi hkp.out.kp c1 hgo;have x2:=Qi hkp.out.kp c2 hgo;have x3:=Qi hkp.out.kp c3 hgo;have hokk:=HOK.out _ (List.getElem_mem hlt);have HST:=Qh (symsF_step S.places qs k hlt);obtain⟨q,hq⟩:∃q,q=qs[k]:=⟨_,rfl⟩;rw[←hq] at x0 x1 x2 x3 hokk HST;obtain⟨r,hr⟩:∃r,r=Yi S.places (qs.take k):=⟨_,rfl⟩;rw[←hr] at hsl hov hbd HST;obtain⟨hq1,hq2⟩:=hokk;have hgl:=Qj hcs;have hgr:g<wr.heap.size:=Nat.lt_of_lt_of_le hgl hkp.out.kp.size;clear hq hr hc c0 c1 c2 c3 hcs hgl;obtain⟨w2,hw2⟩:∃z,z=wr.alloc (.cells #[.int .i64 q.cls,.int .i64 q.sort,.int .i64 (q.level:Nat),.bool q.fixed] TPa):=⟨_,rfl⟩;have hk2:Kn wr w2:=by rw[hw2];exact(Qb _ _).alloc _
   obtain⟨b7,hb7⟩:∃z,z=wr.heap.size:=⟨_,rfl⟩;have hbb:w2.heap[b7]? =some (.cells #[.int .i64 q.cls,.int .i64 q.sort,.int .i64 (q.level:Nat),.bool q.fixed] TPa (0,0)):=by rw[hw2,hb7];exact Qf _ _
   have y0:w2.cell? ⟨b7,0,none⟩=some (.int .i64 q.cls):=by rw[Qa hbb];try rfl
   have y1:w2.cell? ⟨b7,1,none⟩=some (.int .i64 q.sort):=by rw[Qa hbb];try rfl
   have y2:w2.cell? ⟨b7,2,none⟩=some (.int .i64 (q.level:Nat)):=by rw[Qa hbb];try rfl
   have HBD2:=Qh (hbd.out.kn hk2);have HKP2:=Qh (hkp.out.kn hk2);have HO2:=Qh (hov.out.kn hk2);have HW:=Qh (And.intro hw2 hb7);clear hw2 hk2 hb7 hov hbd hkp hbb hgo;by_cases h0:0≤q.sort
   ·obtain⟨so,hso⟩:=Int.eq_ofNat_of_zero_le h0;have hF:Hid (symS r q=((Ys r.1 (so,q.level)).1,r.2++[⟨true,((Ys r.1 (so,q.level)).2:Nat)⟩])):=Qh (by
     unfold symS symF;rw[if_pos h0,hso];simp)
    rw[hso] at x1 y1 HW hq1;have hso1:so≤1000000:=by omega
    have HPC:=Qh (splace_c (so,q.level) HBD2.out hso1 hq2 (by show r.1.length≤1000;omega));unfold pcV at HPC;dsimp only at HPC;obtain⟨z,hz⟩:∃z,z=Ys r.1 (so,q.level):=⟨_,rfl⟩;have hzl:=placeF_le r.1 (so,q.level);rw[←hz] at hF hzl;have HZ:=Qh hz;have hrl:=hsl.1;have hw2s:=HKP2.out.kp.size;clear hz h0;go_upto_region 6 with fail
    rw[←HW.out.1,←HW.out.2];go_wp2_with (first
     |(go_at_call 113;go_must (refine HPC.out.mono ?_;rintro e w3 ⟨rfl,A3,hb3,hk3⟩;rw[←HZ.out] at hb3⊢;have hO3:OwnK w3 w.heap.size TSy 2 v (r.2.map syL):=row_off HO2.out hk3.kp (HBD2.out.other (by decide) (by decide));have HB3:=Qh hb3;have HK3:=Qh (HKP2.out.trans hk3);have HO3:=Qh hO3;have hw3s:=hk3.kp.size;clear HPC hb3 hk3 hO3))
     |(at_builtin;go_must (refine QA _ rfl (.tmp 17) (.tmp 26) 104 rfl w.heap.size TSy ie (.agg #[.bool false,.int .i64 0]) 2 16 Tryz.underlying104 HIE.out.1 HIE.out.2.1 HIE.out.2.2.1 HIE.out.2.2.2 (by rfl) (by decide) v (r.2.map syL) rfl (HO3.out.kn ((Qb _ _).alloc (.cells #[.bool true,.int .i64 (z.2:Nat)] TSy))) w3.heap.size 1 rfl #[.bool true,.int .i64 (z.2:Nat)] TSy (0,0) (Qf _ _) rfl (by simp[Value.oneCell']) (by rw[List.length_map];simp only[maxLen];omega) (by rw[List.length_map];omega) (by rw[size_alloc'];omega) ?_;intro v1 w5 hown hka hat;have HX:=Qh (And.intro hown (And.intro hka hat));clear hown hka hat)))
    have hkA:Kn w3 (w3.alloc (.cells #[.bool true,.int .i64 (z.2:Nat)] TSy)):=(Qb _ _).alloc _;have HB5:=Qh (bd_row (HB3.out.kn hkA) (HO3.out.kn hkA) HX.out.2.1 (by rw[HK3.out.rest];exact HVL.out));have HK5:=Qh (pk_row (HK3.out.kn hkA) (HO3.out.kn hkA) HX.out.2.1);go_roundw
    case rel=>exact⟨k+1,v1,A3,rfl,by go_num,by omega,Qh (by rw[HST.out,hF.out];dsimp only;rw[List.map_append];exact HX.out.1),Qh (by rw[HST.out,hF.out];exact HB5.out),HK5⟩
    case measure=>simp[intOf];omega
   ·have hF:Hid (symS r q=(r.1,r.2++[⟨false,q.cls⟩])):=Qh (by unfold symS symF;rw[if_neg h0]);have hrl:=hsl.1;have hw2s:=HKP2.out.kp.size;have h0':q.sort<0:=by omega
    clear h0;go_upto_region 5 with fail
    rw[←HW.out.1,←HW.out.2];go_wp2_with (at_builtin;go_must (refine QA _ rfl (.tmp 28) (.tmp 32) 104 rfl w.heap.size TSy ie (.agg #[.bool false,.int .i64 0]) 2 16 Tryz.underlying104 HIE.out.1 HIE.out.2.1 HIE.out.2.2.1 HIE.out.2.2.2 (by rfl) (by decide) v (r.2.map syL) rfl (HO2.out.kn ((Qb _ _).alloc (.cells #[.bool false,.int .i64 q.cls] TSy))) w2.heap.size 1 rfl #[.bool false,.int .i64 q.cls] TSy (0,0) (Qf _ _) rfl (by simp[Value.oneCell']) (by rw[List.length_map];simp only[maxLen];omega) (by rw[List.length_map];omega) (by rw[size_alloc'];omega) ?_;intro v1 w5 hown hka hat;have HX:=Qh (And.intro hown (And.intro hka hat));clear hown hka hat))
    have hkA:Kn w2 (w2.alloc (.cells #[.bool false,.int .i64 q.cls] TSy)):=(Qb _ _).alloc _;have HB5:=Qh (bd_row (HBD2.out.kn hkA) (HO2.out.kn hkA) HX.out.2.1 (by rw[HKP2.out.rest];exact HVL.out));have HK5:=Qh (pk_row (HKP2.out.kn hkA) (HO2.out.kn hkA) HX.out.2.1);go_roundw
    case rel=>exact⟨k+1,v1,A',rfl,by go_num,by omega,Qh (by rw[HST.out,hF.out];dsimp only;rw[List.map_append];exact HX.out.1),Qh (by rw[HST.out,hF.out];exact HB5.out),HK5⟩
    case measure=>simp[intOf];omega
  ·obtain rfl:k=qs.length:=by omega
   rw[List.take_length] at hov hbd;go_wp2_with fail
   go_ret;exact⟨v,A',rfl,hov.out,hbd.out,hkp.out⟩
end Go.Proofs.YtiehgcfckhepaaaGreatDoor
namespace Go.Proofs.YtiehgcfckhepaaaGreatDoor
structure PartOk (q:GP):Prop where
 so:q.sort<40
 lv:q.level≤9
 cl:q.sort<0→0≤q.cls∧q.cls≤1000
structure RulesOk (rs:List GR):Prop where
 len:rs.length≤120
 pl:∀r∈rs,r.parts.length≤20
 pa:∀r∈rs,∀q∈r.parts,PartOk q
 rl:∀r∈rs,r.sort≤1000000∧r.level≤1000000
def PlOk(ps:PL):Prop:=ps.Nodup∧∀q∈ps,q.1<40∧q.2≤9
theorem PlOk.len{ps:PL}(h:PlOk ps):ps.length≤400:=by
 have h1:=nodup_len 400 (ps.map (fun q=>q.1*10+q.2)) (by
  unfold List.Nodup;rw[List.pairwise_map];refine h.1.imp_of_mem (fun {a b} ha hb hne e=>hne ?_);have:=h.2 a ha;have:=h.2 b hb;exact Prod.ext (by omega) (by omega)) (fun x hx=>by
  obtain⟨q,hq,rfl⟩:=List.mem_map.1 hx;have:=h.2 q hq;omega)
 simpa using h1
theorem PlOk.place{ps:PL}(h:PlOk ps){q:Nat×Nat}(hq:q.1<40∧q.2≤9):PlOk (Ys ps q).1:=by
 unfold Ys;cases hi:placeI ps q with
 |some j=>exact h
 |none=>
  have hn:q∉ps:=fun hm=>by
   have:=List.findIdx?_eq_none_iff.1 hi q hm;simp at this
  refine⟨?_,fun x hx=> ?_⟩
  ·rw[List.nodup_append];exact⟨h.1,by simp,fun a ha b hb=>by simp at hb;subst hb;exact fun e=>hn (e▸ha)⟩
  ·rcases List.mem_append.1 hx with h1|h1
   ·exact h.2 x h1
   ·simp at h1;subst h1;exact hq
def SymOk(N:Nat)(y:SY):Prop:=if y.place=true then 0≤y.n∧y.n<N else 0≤y.n∧y.n≤1000
theorem SymOk.mono{N M:Nat}{y:SY}(h:SymOk N y)(hNM:N≤M):SymOk M y:=by
 unfold SymOk at*;split
 ·rename_i hp;rw[if_pos hp] at h;omega
 ·rename_i hp;rw[if_neg hp] at h;exact h
theorem symF_ok{ps:PL}(h:PlOk ps){q:GP}(hq:PartOk q):PlOk (symF ps q).1∧SymOk (symF ps q).1.length (symF ps q).2:=by
 unfold symF;by_cases h0:0≤q.sort
 ·rw[if_pos h0];have h1:=hq.so;have h1':=hq.lv;have h2:=placeF_le ps (q.sort.toNat,q.level);refine⟨h.place (by dsimp only;omega),?_⟩;unfold SymOk;rw[if_pos rfl];dsimp only;omega
 ·rw[if_neg h0];refine⟨h,?_⟩;unfold SymOk;rw[if_neg (by simp)];exact hq.cl (by omega)
theorem symS_ok:∀(qs:List GP) (a:PL×List SY),PlOk a.1→(∀y∈a.2,SymOk a.1.length y)→(∀q∈qs,PartOk q)→
  PlOk (qs.foldl symS a).1∧(∀y∈(qs.foldl symS a).2,SymOk (qs.foldl symS a).1.length y)∧a.1.length≤(qs.foldl symS a).1.length∧(qs.foldl symS a).2.length=a.2.length+qs.length
 |[],a,h1,h2,_=>⟨h1,h2,Nat.le_refl _,rfl⟩
 |q::qs,a,h1,h2,h3=>by
  obtain⟨k1,k2⟩:=symF_ok h1 (h3 q List.mem_cons_self);have hle:=(symF_le a.1 q).1;obtain⟨m1,m2,m3,m4⟩:=symS_ok qs (symS a q) k1 (fun y hy=>by
   rcases List.mem_append.1 hy with h|h
   ·exact(h2 y h).mono hle
   ·simp at h;subst h;exact k2) (fun x hx=>h3 x (List.mem_cons_of_mem _ hx))
  rw[List.foldl_cons];exact⟨m1,m2,Nat.le_trans hle m3,by rw[m4];simp[symS];omega⟩
theorem symsF_ok{ps:PL}(h:PlOk ps){qs:List GP}(hq:∀q∈qs,PartOk q):PlOk (Yi ps qs).1∧(∀y∈(Yi ps qs).2,SymOk (Yi ps qs).1.length y)∧ps.length≤(Yi ps qs).1.length∧(Yi ps qs).2.length=qs.length:=by
 obtain⟨a,b,c,d⟩:=symS_ok qs (ps,[]) h (fun y hy=>by cases hy) hq;exact⟨a,b,c,by unfold Yi;rw[d];simp⟩
structure LOkB (ps:PL) (l:List PR) (m:Nat):Prop where
 pl:PlOk ps
 pos:0<ps.length
 ll:l.length≤m
 pr:∀p∈l,p.place<ps.length∧p.rule≤1000000∧p.syms.length≤20∧∀y∈p.syms,SymOk ps.length y
theorem ruleS_ok{n m:Nat}{a:RW}{x:GR×Nat}(h:LOkB a.places a.l m)(hn:n<a.places.length)(hp:x.1.parts.length≤20)(hq:∀q∈x.1.parts,PartOk q)(hx:x.2≤1000000):LOkB (sruleS n a x).places (sruleS n a x).l (m+1)∧a.places.length≤(sruleS n a x).places.length:=by
 unfold sruleS;split
 ·obtain⟨k1,k2,k3,k4⟩:=symsF_ok h.pl hq;refine⟨⟨k1,by have:=h.pos;dsimp only;omega,by have:=h.ll;simp;omega,fun p hp2=> ?_⟩,k3⟩;rcases List.mem_append.1 hp2 with h1|h1
  ·obtain⟨q1,q2,q3,q4⟩:=h.pr p h1;exact⟨by dsimp only;omega,q2,q3,fun y hy=>(q4 y hy).mono k3⟩
  ·simp at h1;subst h1;exact⟨by dsimp only;omega,hx,by dsimp only;omega,k2⟩
 ·exact⟨⟨h.pl,h.pos,by have:=h.ll;omega,h.pr⟩,Nat.le_refl _⟩
def RK(rs:List GR)(n:Nat)(S:SB)(i:Nat):RW:=(rs.zipIdx.take i).foldl (sruleS n) ⟨S.places,S.l,[]⟩
theorem RK_succ{rs:List GR}{n:Nat}{S:SB}{i:Nat}(hi:i<rs.length):RK rs n S (i+1)=sruleS n (RK rs n S i) (rs[i],i):=by
 unfold RK;rw[List.take_succ_eq_append_getElem (by rw[List.length_zipIdx];exact hi),List.foldl_append];simp
theorem RK_all(rs:List GR)(n:Nat)(S:SB):RK rs n S rs.length=rowS rs n S:=by
 unfold RK rowS;rw[List.take_of_length_le (by rw[List.length_zipIdx];exact Nat.le_refl _)]
theorem RK_ok{rs:List GR}(ok:RulesOk rs){n m:Nat}{S:SB}(h:LOkB S.places S.l m)(hn:n<S.places.length):∀i,i≤rs.length→LOkB (RK rs n S i).places (RK rs n S i).l (m+i)∧S.places.length≤(RK rs n S i).places.length∧(RK rs n S i).own.length≤i∧∀x∈(RK rs n S i).own,x<m+i:=by
 intro i;induction i with
 |zero=>intro _;exact⟨h,Nat.le_refl _,Nat.le_refl _,fun x hx=>by cases hx⟩
 |succ i ih=>
  intro hi;obtain⟨h1,h2,h3,h4⟩:=ih (by omega);have hl:=ok.len;obtain⟨k1,k2⟩:=ruleS_ok (n:=n) (a:=RK rs n S i) (x:=(rs[i],i)) h1 (by omega) (ok.pl _ (List.getElem_mem (by omega))) (ok.pa _ (List.getElem_mem (by omega))) (show i≤1000000 by omega);rw[RK_succ (show i<rs.length by omega)];refine⟨k1,Nat.le_trans h2 k2,?_,?_⟩
  ·unfold sruleS;split
   ·simp;omega
   ·omega
  ·unfold sruleS;split
   ·intro x hx;rcases List.mem_append.1 hx with h|h
    ·have:=h4 x h;omega
    ·simp at h;subst h;have:=h1.ll;omega
   ·intro x hx;have:=h4 x hx;omega
theorem buildGo_ok{rs:List GR}(ok:RulesOk rs):∀(f n:Nat) (S:SB),LOkB S.places S.l (120*n)→n≤S.places.length→S.own.length=n→401≤f+n→SBok (buildGo rs f n S)
 |0,n,S,h,h1,h2,h3=>by have:=h.pl.len;omega
 |f+1,n,S,h,h1,h2,h3=>by
  unfold buildGo;have hlen:=h.pl.len;split
  ·rename_i hlt;obtain⟨k1,k2,_⟩:=RK_ok ok h hlt rs.length (Nat.le_refl _);rw[RK_all] at k1 k2;have hl:=ok.len;refine buildGo_ok ok f (n+1) _ ⟨k1.pl,k1.pos,by have:=k1.ll;dsimp only;omega,k1.pr⟩ (by dsimp only;omega) (by simp[h2]) (by omega)
  ·have e:n=S.places.length:=by omega
   exact⟨h.pos,by omega,by have:=h.ll;omega,h.pr,by omega⟩
theorem LOkB.start:LOkB [(0,0)] [] 0:=⟨⟨by simp,fun q hq=>by simp at hq;subst hq;exact⟨by decide,by decide⟩⟩,by simp,by simp,fun p hp=>by cases hp⟩
theorem buildF_ok{rs:List GR}(ok:RulesOk rs):SBok (YJ rs):=buildGo_ok ok 501 0 _ LOkB.start (by simp) rfl (by omega)
end Go.Proofs.YtiehgcfckhepaaaGreatDoor
