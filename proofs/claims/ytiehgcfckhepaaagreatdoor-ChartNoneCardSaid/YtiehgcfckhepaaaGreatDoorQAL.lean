/-
  Texts of this claim, laid together: TNew, TAcc, UProd, UPure, USize, CMem, CWays, KMark, URound, CAgain, UNew, CNew, CAsk. Conditions: none.
-/
import Derived.Test.YtiehgcfckhepaaaGreatDoorQAK
import Derived.Test.YtiehgcfckhepaaaGreatDoorQAJ
import Derived.Test.YtiehgcfckhepaaaGreatDoorQAG
import Derived.Test.YtiehgcfckhepaaaGreatDoorQAA
import Derived.IntWalk
set_option linter.unusedVariables false
set_option linter.unusedSimpArgs false
set_option maxRecDepth 100000
set_option maxHeartbeats 16000000
namespace Go.Proofs.YtiehgcfckhepaaaGreatDoor
open Go.RowKit Go.Maps
theorem step_make_v{P:Program}(w:World){x:Value}{ops:Array Oper}{o:Oper}{a:Act}{K:Act→World→Prop}{Q:Exit→Act→World→Prop}{E:Prop}
  (hg:o.guard=none) (l c:Operand) (t:TypeId) (hop:o.op=Op.makeSlice t l c) (e:TypeId) (i:TypeInfo) (z:Value) (h1:P.underlying t=some (.slice e)) (h2:P.info? e=some i) (h3:i.zero=some z) (h4:i.size=1) (hz:z.cells= #[x])
  (n:Nat) (hl:a.eval l= .int .i64 n) (hc:a.eval c= .int .i64 n) (b2:i.bytes*n≤281474976710656) (b3:n≤maxLen)
  (hK:∀w',RowV w' e w.heap.size (List.replicate n x)→Kn w w'→K (a.put o.dst (.slice (some ⟨w.heap.size,0,none⟩) n n)) w'):
  if Region.wanted o (yielded ops a.tmps)=true then Oper.wp P o a w K Q else E:=by
 have hw:Region.wanted o (yielded ops a.tmps)=true:=by simp[Region.wanted,hg]
 rw[if_pos hw];obtain⟨w',hr,h5,h6⟩:=run_make_full (P:=P) w 0 t e i z 1 h1 h2 h3 h4 .i64 .i64 n b2 b3 (Nat.zero_le _);rw[hz] at h5;have h7:=hK w' (RowV.of_made h5) (QL (S:=fun _=>False) h6 (fun k e _=>by cases e));unfold Oper.wp;simp[execOp,hop,hl,hc,hr,Result.andThen];exact h7
theorem info_bi:(Tryz.prog.info? TBi).map (fun i=>(i.zero,i.size,i.bytes))=some (some (.agg #[.int .u64 0]),1,8):=by kernel_rfl
structure NewI (w0 w:World) (p n:Nat) (c:SA) (o4 o6 o8:Option Nat):Prop where
 blk:w.heap[p]? =some (.cells (seC c) TSt (0,0))
 kp:K1 p w0 w
 r4:∀g,o4=some g→RowV w 4 g (List.replicate n (.bool false))∧w0.heap.size≤g∧g≠p
 r6:∀g,o6=some g→RowV w TBi g (List.replicate n (.int .u64 0))∧w0.heap.size≤g∧g≠p
 r8:∀g,o8=some g→RowV w TBi g (List.replicate n (.int .u64 0))∧w0.heap.size≤g∧g≠p
 ne:∀g h,o6=some g→o8=some h→g≠h
section
variable {w0 w w':World} {p n:Nat} {c:SA} {o4 o6 o8:Option Nat}
theorem NewI.kn(h:NewI w0 w p n c o4 o6 o8)(hk:Kn w w'):NewI w0 w' p n c o4 o6 o8:=⟨hk.blk h.blk (fun x=>x),h.kp.trans (Kp.weak hk),fun g e=>⟨(h.r4 g e).1.kn hk,(h.r4 g e).2⟩,fun g e=>⟨(h.r6 g e).1.kn hk,(h.r6 g e).2⟩,fun g e=>⟨(h.r8 g e).1.kn hk,(h.r8 g e).2⟩,h.ne⟩
theorem NewI.m4(h:NewI w0 w p n c none o6 o8)(hr:RowV w' 4 w.heap.size (List.replicate n (.bool false)))(hk:Kn w w'):NewI w0 w' p n c (some w.heap.size) o6 o8:=
 ⟨hk.blk h.blk (fun x=>x),h.kp.trans (Kp.weak hk),fun g e=>by injection e with e;subst e;exact⟨hr,h.kp.size,fun e=>absurd (Ql h.blk) (by omega)⟩,(h.kn hk).r6,(h.kn hk).r8,h.ne⟩
theorem NewI.m6(h:NewI w0 w p n c o4 none o8)(hr:RowV w' TBi w.heap.size (List.replicate n (.int .u64 0)))(hk:Kn w w'):NewI w0 w' p n c o4 (some w.heap.size) o8:=
 ⟨hk.blk h.blk (fun x=>x),h.kp.trans (Kp.weak hk),(h.kn hk).r4,fun g e=>by injection e with e;subst e;exact⟨hr,h.kp.size,fun e=>absurd (Ql h.blk) (by omega)⟩,(h.kn hk).r8,fun a b e1 e2=>by injection e1 with e1;subst e1;have:=(h.r8 b e2).1.lt;omega⟩
theorem NewI.m8(h:NewI w0 w p n c o4 o6 none)(hr:RowV w' TBi w.heap.size (List.replicate n (.int .u64 0)))(hk:Kn w w'):NewI w0 w' p n c o4 o6 (some w.heap.size):=
 ⟨hk.blk h.blk (fun x=>x),h.kp.trans (Kp.weak hk),(h.kn hk).r4,(h.kn hk).r6,fun g e=>by injection e with e;subst e;exact⟨hr,h.kp.size,fun e=>absurd (Ql h.blk) (by omega)⟩,fun a b e1 e2=>by injection e2 with e2;subst e2;have:=(h.r6 a e1).1.lt;omega⟩
theorem NewI.st{c':SA}{j:Nat}{v:Value}(h:NewI w0 w p n c o4 o6 o8)(hc:(seC c).setIfInBounds j v=seC c'):NewI w0 (w.setCell ⟨p,j,none⟩ v) p n c' o4 o6 o8:=by
 have hk:K1 p w (w.setCell ⟨p,j,none⟩ v):=Qg _ _;exact⟨by rw[Qj h.blk,hc],h.kp.trans hk,fun g e=>⟨(h.r4 g e).1.kp hk (h.r4 g e).2.2,(h.r4 g e).2⟩,fun g e=>⟨(h.r6 g e).1.kp hk (h.r6 g e).2.2,(h.r6 g e).2⟩,fun g e=>⟨(h.r8 g e).1.kp hk (h.r8 g e).2.2,(h.r8 g e).2⟩,h.ne⟩
theorem NewI.c5(h:NewI w0 w p n c o4 o6 o8):w.cell? ⟨p,5,none⟩=some c.ve:=by rw[Qa h.blk];try rfl
theorem NewI.c6(h:NewI w0 w p n c o4 o6 o8):w.cell? ⟨p,6,none⟩=some c.vf:=by rw[Qa h.blk];try rfl
theorem NewI.c7(h:NewI w0 w p n c o4 o6 o8):w.cell? ⟨p,7,none⟩=some c.vw:=by rw[Qa h.blk];try rfl
theorem NewI.fr(h:NewI w0 w p n c o4 o6 o8)(i:Nat):w.frozen? ⟨p,i,none⟩=false:=Qd h.blk i
end
def SetsIn(w:World)(p:Nat)(X:SX):Prop:=∃B A ge gf gw,StAt w B p X.b A X.empty X.first X.follow ge gf gw∧SBok X.b∧A.fin=X.fin
theorem SetsIn.kn{w w':World}{p:Nat}{X:SX}(h:SetsIn w p X)(hk:Kn w w'):SetsIn w' p X:=by
 obtain⟨B,A,ge,gf,gw,h1,h2⟩:=h;exact⟨B,A,ge,gf,gw,h1.kn hk,h2⟩
theorem setsNew_c{pg:Nat}{R:RS}{rs:List GR}{br:List (Nat×Nat)}{w:World}(h:GrAt w pg R rs br)(ok:RulesOk rs):
  Calls Tryz.prog 22 #[ptr pg] w fun e w'=>∃(ps:Nat) (X:SX),e= .returned (.tuple #[ptr ps,.int .i64 0])∧SetsIn w' ps X∧IsSets rs (QJ R).length X∧Kn w w':=by
 have hmm:= @run_makeMap Tryz.prog;have hmf:∀(fn:Fn) (first cap:Array Value) (w:World),(Instr.makeFunc fn first cap).run Tryz.prog w= .ok (.func fn first cap) w:=fun _ _ _ _=>rfl
 obtain⟨⟨B0,A0,kb,vps0,hlk,-,-⟩,hok,hrl⟩:=h;obtain⟨w1,hw1⟩:∃z,z=w.alloc (.map #[] 0):=⟨_,rfl⟩;have hk1:Kn w w1:=by rw[hw1];exact(Qb _ _).alloc _
 obtain⟨bm,hbm⟩:∃z,z=w.heap.size:=⟨_,rfl⟩;have hm1:MapA w1 TPc bm []:=by rw[hw1,hbm];exact MapA.new w TPc
 have HCL:=Qh (classes_c (hlk.rd.kn hk1) hok);have HLK:=Qh hlk;have HW1:=Qh (And.intro hw1 hbm);have HK1:=Qh hk1;have HM1:=Qh hm1;have HOK:=Qh ok;have HRO:=Qh hok;have hcl80:(QJ R).length≤80:=by
  unfold QJ;rw[List.length_append,Yt];have:=hok.lits;have:=hok.cls;omega
 obtain⟨m,hm⟩:∃m,m=(QJ R).length:=⟨_,rfl⟩;have HME:=Qh hm;have hpgl:=hlk.lt;clear ok hlk hw1 hk1 hm1 hok hbm hm;have HRL:=Qh hrl;go_enter Tryz.func22,Tryz.ntmps22;go_upto_region 3 with fail
 go_wp2_with (first|(go_at_call 56;go_must (rw[←HW1.out.1,←HW1.out.2];refine HCL.out.mono ?_;rintro e w2 ⟨v,rfl,hov,hk2⟩;obtain⟨ac,cc,hv,_⟩:=hov.row (fun C hC=>by {obtain⟨x,_,rfl⟩:=List.mem_map.1 hC;rfl});rw[List.length_map,←HME.out] at hv;subst hv;have HK2:=Qh (HK1.out.trans hk2);have HM2:=Qh (HM1.out.kn hk2);clear hov hk2 HCL HM1)))
 obtain⟨p,hp⟩:∃z,z=w2.heap.size:=⟨_,rfl⟩;obtain⟨w3,hw3⟩:∃z,z=w2.alloc (.cells (seC ⟨.slice none 0 0,.slice none 0 0,.slice none 0 0,.slice none 0 0,.slice none 0 0,.slice none 0 0,bm,m,[],[]⟩) TSt):=⟨_,rfl⟩;rw[show(.cells #[.slice none 0 0,.map (some bm),.slice none 0 0,.slice none 0 0,.int .i64 (m:Nat),.slice none 0 0,.slice none 0 0,.slice none 0 0] TSt:Obj)= .cells (seC ⟨.slice none 0 0,.slice none 0 0,.slice none 0 0,.slice none 0 0,.slice none 0 0,.slice none 0 0,bm,m,[],[]⟩) TSt from rfl,←hw3,←hp];have hk3:Kn w2 w3:=by rw[hw3];exact(Qb _ _).alloc _
 have hbp:w3.heap[p]? =some (.cells (seC ⟨.slice none 0 0,.slice none 0 0,.slice none 0 0,.slice none 0 0,.slice none 0 0,.slice none 0 0,bm,m,[],[]⟩) TSt (0,0)):=by rw[hw3,hp];exact Qf _ _
 have HRU:=Qh (rules_c (HLK.out.kn (HK2.out.trans hk3)) HRL.out (fun r hr=>by have:=HOK.out.pl r hr;omega));have hpw:w.heap.size≤p:=by rw[hp];exact HK2.out.size
 have HK3:=Qh (HK2.out.trans hk3);have HM3:=Qh (HM2.out.kn hk3);have HBP:=Qh hbp;have hbmw:w.heap.size≤bm:=by have:=HW1.out.2;omega
 clear hw3 hp hk3 hbp HK2 HM2;refine HRU.out.mono ?_;rintro e w4 ⟨v,vps,rfl,hru,hk4⟩;obtain⟨ar,cr,rfl,hrr⟩:=RuR.of hru;have hbd:BdAt w4 w.heap.size p ⟨[],[],[]⟩ ⟨.slice none 0 0,.slice none 0 0,.slice none 0 0,.slice none 0 0,.slice none 0 0,.slice none 0 0,bm,m,[],[]⟩:=
  ⟨hk4.blk HBP.out (fun x=>x),OwnK.nil,HM3.out.kn hk4,⟨OwnK.nil,rfl,fun i h=>by simp at h⟩,⟨OwnK.nil,rfl,fun i h=>by simp at h⟩,hpw,hbmw⟩
 have HBC:=Qh (build_c (c:=cr) hbd hrr HOK.out);have HK4:=Qh (HK3.out.trans hk4);clear hru hk4 hrr hbd HRU HBP HM3 HK3;go_wp2_with (first|(go_at_call 65;go_must (refine HBC.out.mono ?_;rintro e w5 ⟨rfl,A5,hb5,hak5,hkb5⟩;have HB5:=Qh hb5;have HAK5:=Qh hak5;have hkn5:Kn w w5:=hkb5.old HK4.out rfl (Nat.le_refl _) hpw hbmw;have HK5:=Qh hkn5;obtain⟨ap5,cp5,p5,_⟩:=hb5.pcell;clear hb5 hak5 hkb5 HBC hkn5)))
 obtain⟨X,hX⟩:∃z,z=YX rs:=⟨_,rfl⟩;rw[←hX] at HB5 p5⊢;have HX:=Qh hX;have hbok:=buildF_ok HOK.out;rw[←hX] at hbok;have HBO:=Qh hbok;have hXle:=hbok.le;have hXpos:=hbok.pos;obtain⟨n,hn⟩:∃z,z=X.places.length:=⟨_,rfl⟩;rw[←hn] at p5 hXle hXpos⊢;have HN:=Qh hn;clear hX hbok hn;obtain⟨ib,hi,hz0,hz1,hz2⟩:=info_parts info_bool;have HIB:=Qh (And.intro hi (And.intro hz0 (And.intro hz1 hz2)));obtain⟨iu,hi,hz0,hz1,hz2⟩:=info_parts info_bi;have HIU:=Qh (And.intro hi (And.intro hz0 (And.intro hz1 hz2)));have hpb:=HB5.out.blk;have hve5:A5.ve= .slice none 0 0:=HAK5.out.ve;have hvf5:A5.vf= .slice none 0 0:=HAK5.out.vf;have hvw5:A5.vw= .slice none 0 0:=HAK5.out.vw;have HVE:=Qh (And.intro hve5 (And.intro hvf5 hvw5));have hmx:n≤maxLen:=by simp only[maxLen];omega
 have hbB:Hid (ib.bytes*n≤281474976710656):=Qh (by rw[HIB.out.2.2.2];omega);have hbU:Hid (iu.bytes*n≤281474976710656):=Qh (by rw[HIU.out.2.2.2];omega);have HI0:Hid (NewI w5 w5.drew p n A5 none none none):=Qh ⟨hpb,(Qb _ _).drew,fun g e=>(by cases e),fun g e=>(by cases e),fun g e=>(by cases e),fun a b e _=>(by cases e)⟩;clear hi hz0 hz1 hz2 hpb hve5 hvf5 hvw5;go_upto_region 6 with fail
 go_cut [] (fun wc=>∃ge gf gw:Nat,Hid (NewI w5 wc p n {A5 with ve:= .slice (some ⟨ge,0,none⟩) n n,vf:= .slice (some ⟨gf,0,none⟩) n n,vw:= .slice (some ⟨gw,0,none⟩) n n} (some ge) (some gf) (some gw)))
 case first=>
  refine rgn (fun _=>True) (X:=[]) trivial (fun hX hHeld=> ?_);obtain⟨v0,hv0⟩:∃z,z=w5.drew:=⟨_,rfl⟩;rw[←hv0] at HI0⊢;clear hv0;have HI:=HI0;clear HI0;refine tw 0 23 ?_;refine tw 1 24 ?_;refine tw 2 25 ?_;refine tw 3 26 ?_;refine tw 5 28 ?_;refine tw 7 30 ?_
  repeat' (first
   |((with_reducible show RG _ _ _ _ _ _ (Array.setIfInBounds _ 7 true) _ _);refine ro3 4 6 8 (fun K hK=> ?_) (fun K hK=> ?_) (fun K hK=> ?_))
   |((with_reducible show RG _ _ _ _ _ _ (Array.setIfInBounds (Array.setIfInBounds _ 7 true) 8 true) _ _);refine ro2 4 6 (fun K hK=> ?_) (fun K hK=> ?_))
   |((with_reducible show RG _ _ _ _ _ _ (Array.setIfInBounds (Array.setIfInBounds (Array.setIfInBounds _ 7 true) 8 true) 6 true) _ _);refine ro 4 (fun K hK=> ?_))
   |((with_reducible show RG _ _ _ _ _ _ (Array.setIfInBounds _ 4 true) _ _);refine tw 9 32 ?_)
   |((with_reducible show RG _ _ _ _ _ _ (Array.setIfInBounds _ 9 true) _ _);refine tw 10 33 ?_)
   |((with_reducible show RG _ _ _ _ _ _ (Array.setIfInBounds (Array.setIfInBounds (Array.setIfInBounds (Array.setIfInBounds (Array.setIfInBounds _ 8 true) 6 true) 4 true) 9 true) 10 true) _ _);refine ro 11 (fun K hK=> ?_))
   |((with_reducible show RG _ _ _ _ _ _ (Array.setIfInBounds (Array.setIfInBounds (Array.setIfInBounds (Array.setIfInBounds (Array.setIfInBounds _ 6 true) 4 true) 9 true) 10 true) 11 true) _ _);refine tw 12 34 ?_)
   |((with_reducible show RG _ _ _ _ _ _ (Array.setIfInBounds _ 12 true) _ _);refine tw 13 35 ?_)
   |((with_reducible show RG _ _ _ _ _ _ (Array.setIfInBounds (Array.setIfInBounds (Array.setIfInBounds (Array.setIfInBounds (Array.setIfInBounds (Array.setIfInBounds (Array.setIfInBounds (Array.setIfInBounds _ 8 true) 6 true) 4 true) 9 true) 10 true) 11 true) 12 true) 13 true) _ _);refine ro 14 (fun K hK=> ?_))
   |((with_reducible show RG _ _ _ _ _ _ (Array.setIfInBounds (Array.setIfInBounds (Array.setIfInBounds (Array.setIfInBounds (Array.setIfInBounds (Array.setIfInBounds (Array.setIfInBounds (Array.setIfInBounds (Array.setIfInBounds _ 8 true) 6 true) 4 true) 9 true) 10 true) 11 true) 12 true) 13 true) 14 true) _ _);refine tw 15 36 ?_)
   |((with_reducible show RG _ _ _ _ _ _ (Array.setIfInBounds _ 15 true) _ _);refine tw 16 37 ?_)
   |((with_reducible show RG _ _ _ _ _ _ (Array.setIfInBounds _ 16 true) _ _);refine re 17 (fun K hK=> ?_))
   |((with_reducible show RG _ _ _ _ _ _ (Array.setIfInBounds (Array.setIfInBounds (Array.setIfInBounds (Array.setIfInBounds (Array.setIfInBounds _ 7 true) 8 true) 4 true) 9 true) 10 true) _ _);refine ro2 6 11 (fun K hK=> ?_) (fun K hK=> ?_))
   |((with_reducible show RG _ _ _ _ _ _ (Array.setIfInBounds (Array.setIfInBounds (Array.setIfInBounds (Array.setIfInBounds (Array.setIfInBounds (Array.setIfInBounds _ 7 true) 8 true) 4 true) 9 true) 10 true) 11 true) _ _);refine ro 6 (fun K hK=> ?_))
   |((with_reducible show RG _ _ _ _ _ _ (Array.setIfInBounds (Array.setIfInBounds _ 11 true) 6 true) _ _);refine tw 12 34 ?_)
   |((with_reducible show RG _ _ _ _ _ _ (Array.setIfInBounds (Array.setIfInBounds (Array.setIfInBounds (Array.setIfInBounds (Array.setIfInBounds (Array.setIfInBounds (Array.setIfInBounds (Array.setIfInBounds _ 8 true) 4 true) 9 true) 10 true) 11 true) 6 true) 12 true) 13 true) _ _);refine ro 14 (fun K hK=> ?_))
   |((with_reducible show RG _ _ _ _ _ _ (Array.setIfInBounds (Array.setIfInBounds (Array.setIfInBounds (Array.setIfInBounds (Array.setIfInBounds (Array.setIfInBounds (Array.setIfInBounds (Array.setIfInBounds (Array.setIfInBounds _ 8 true) 4 true) 9 true) 10 true) 11 true) 6 true) 12 true) 13 true) 14 true) _ _);refine tw 15 36 ?_)
   |((with_reducible show RG _ _ _ _ _ _ (Array.setIfInBounds (Array.setIfInBounds (Array.setIfInBounds (Array.setIfInBounds (Array.setIfInBounds _ 8 true) 4 true) 9 true) 10 true) 6 true) _ _);refine ro 11 (fun K hK=> ?_))
   |((with_reducible show RG _ _ _ _ _ _ (Array.setIfInBounds (Array.setIfInBounds _ 6 true) 11 true) _ _);refine tw 12 34 ?_)
   |((with_reducible show RG _ _ _ _ _ _ (Array.setIfInBounds (Array.setIfInBounds (Array.setIfInBounds (Array.setIfInBounds (Array.setIfInBounds (Array.setIfInBounds (Array.setIfInBounds (Array.setIfInBounds _ 8 true) 4 true) 9 true) 10 true) 6 true) 11 true) 12 true) 13 true) _ _);refine ro 14 (fun K hK=> ?_))
   |((with_reducible show RG _ _ _ _ _ _ (Array.setIfInBounds (Array.setIfInBounds (Array.setIfInBounds (Array.setIfInBounds (Array.setIfInBounds (Array.setIfInBounds (Array.setIfInBounds (Array.setIfInBounds (Array.setIfInBounds _ 8 true) 4 true) 9 true) 10 true) 6 true) 11 true) 12 true) 13 true) 14 true) _ _);refine tw 15 36 ?_)
   |((with_reducible show RG _ _ _ _ _ _ (Array.setIfInBounds (Array.setIfInBounds _ 7 true) 6 true) _ _);refine ro2 4 8 (fun K hK=> ?_) (fun K hK=> ?_))
   |((with_reducible show RG _ _ _ _ _ _ (Array.setIfInBounds (Array.setIfInBounds (Array.setIfInBounds _ 7 true) 6 true) 8 true) _ _);refine ro 4 (fun K hK=> ?_))
   |((with_reducible show RG _ _ _ _ _ _ (Array.setIfInBounds (Array.setIfInBounds (Array.setIfInBounds (Array.setIfInBounds (Array.setIfInBounds _ 6 true) 8 true) 4 true) 9 true) 10 true) _ _);refine ro 11 (fun K hK=> ?_))
   |((with_reducible show RG _ _ _ _ _ _ (Array.setIfInBounds (Array.setIfInBounds (Array.setIfInBounds (Array.setIfInBounds (Array.setIfInBounds (Array.setIfInBounds _ 6 true) 8 true) 4 true) 9 true) 10 true) 11 true) _ _);refine tw 12 34 ?_)
   |((with_reducible show RG _ _ _ _ _ _ (Array.setIfInBounds (Array.setIfInBounds (Array.setIfInBounds (Array.setIfInBounds (Array.setIfInBounds (Array.setIfInBounds (Array.setIfInBounds _ 8 true) 4 true) 9 true) 10 true) 11 true) 12 true) 13 true) _ _);refine ro 14 (fun K hK=> ?_))
   |((with_reducible show RG _ _ _ _ _ _ (Array.setIfInBounds (Array.setIfInBounds (Array.setIfInBounds (Array.setIfInBounds (Array.setIfInBounds (Array.setIfInBounds (Array.setIfInBounds (Array.setIfInBounds _ 8 true) 4 true) 9 true) 10 true) 11 true) 12 true) 13 true) 14 true) _ _);refine tw 15 36 ?_)
   |((with_reducible show RG _ _ _ _ _ _ (Array.setIfInBounds (Array.setIfInBounds (Array.setIfInBounds (Array.setIfInBounds (Array.setIfInBounds _ 7 true) 6 true) 4 true) 9 true) 10 true) _ _);refine ro2 8 11 (fun K hK=> ?_) (fun K hK=> ?_))
   |((with_reducible show RG _ _ _ _ _ _ (Array.setIfInBounds (Array.setIfInBounds (Array.setIfInBounds (Array.setIfInBounds (Array.setIfInBounds (Array.setIfInBounds (Array.setIfInBounds (Array.setIfInBounds _ 7 true) 6 true) 4 true) 9 true) 10 true) 11 true) 12 true) 13 true) _ _);refine ro2 8 14 (fun K hK=> ?_) (fun K hK=> ?_))
   |((with_reducible show RG _ _ _ _ _ _ (Array.setIfInBounds (Array.setIfInBounds (Array.setIfInBounds (Array.setIfInBounds (Array.setIfInBounds (Array.setIfInBounds (Array.setIfInBounds (Array.setIfInBounds (Array.setIfInBounds _ 7 true) 6 true) 4 true) 9 true) 10 true) 11 true) 12 true) 13 true) 14 true) _ _);refine ro 8 (fun K hK=> ?_))
   |((with_reducible show RG _ _ _ _ _ _ (Array.setIfInBounds (Array.setIfInBounds _ 14 true) 8 true) _ _);refine tw 15 36 ?_)
   |((with_reducible show RG _ _ _ _ _ _ (Array.setIfInBounds (Array.setIfInBounds _ 13 true) 8 true) _ _);refine ro 14 (fun K hK=> ?_))
   |((with_reducible show RG _ _ _ _ _ _ (Array.setIfInBounds (Array.setIfInBounds _ 8 true) 14 true) _ _);refine tw 15 36 ?_)
   |((with_reducible show RG _ _ _ _ _ _ (Array.setIfInBounds (Array.setIfInBounds (Array.setIfInBounds (Array.setIfInBounds (Array.setIfInBounds _ 6 true) 4 true) 9 true) 10 true) 8 true) _ _);refine ro 11 (fun K hK=> ?_))
   |((with_reducible show RG _ _ _ _ _ _ (Array.setIfInBounds (Array.setIfInBounds (Array.setIfInBounds (Array.setIfInBounds (Array.setIfInBounds (Array.setIfInBounds _ 6 true) 4 true) 9 true) 10 true) 8 true) 11 true) _ _);refine tw 12 34 ?_)
   |((with_reducible show RG _ _ _ _ _ _ (Array.setIfInBounds (Array.setIfInBounds (Array.setIfInBounds (Array.setIfInBounds _ 8 true) 11 true) 12 true) 13 true) _ _);refine ro 14 (fun K hK=> ?_))
   |((with_reducible show RG _ _ _ _ _ _ (Array.setIfInBounds (Array.setIfInBounds (Array.setIfInBounds (Array.setIfInBounds (Array.setIfInBounds _ 8 true) 11 true) 12 true) 13 true) 14 true) _ _);refine tw 15 36 ?_)
   |((with_reducible show RG _ _ _ _ _ _ (Array.setIfInBounds (Array.setIfInBounds (Array.setIfInBounds (Array.setIfInBounds _ 7 true) 4 true) 9 true) 10 true) _ _);refine ro3 6 8 11 (fun K hK=> ?_) (fun K hK=> ?_) (fun K hK=> ?_))
   |((with_reducible show RG _ _ _ _ _ _ (Array.setIfInBounds (Array.setIfInBounds (Array.setIfInBounds (Array.setIfInBounds (Array.setIfInBounds _ 7 true) 4 true) 9 true) 10 true) 11 true) _ _);refine ro2 6 8 (fun K hK=> ?_) (fun K hK=> ?_))
   |((with_reducible show RG _ _ _ _ _ _ (Array.setIfInBounds (Array.setIfInBounds _ 11 true) 8 true) _ _);refine ro 6 (fun K hK=> ?_))
   |((with_reducible show RG _ _ _ _ _ _ (Array.setIfInBounds (Array.setIfInBounds (Array.setIfInBounds _ 11 true) 8 true) 6 true) _ _);refine tw 12 34 ?_)
   |((with_reducible show RG _ _ _ _ _ _ (Array.setIfInBounds (Array.setIfInBounds (Array.setIfInBounds (Array.setIfInBounds _ 8 true) 6 true) 12 true) 13 true) _ _);refine ro 14 (fun K hK=> ?_))
   |((with_reducible show RG _ _ _ _ _ _ (Array.setIfInBounds (Array.setIfInBounds (Array.setIfInBounds (Array.setIfInBounds (Array.setIfInBounds _ 8 true) 6 true) 12 true) 13 true) 14 true) _ _);refine tw 15 36 ?_)
   |((with_reducible show RG _ _ _ _ _ _ (Array.setIfInBounds (Array.setIfInBounds (Array.setIfInBounds (Array.setIfInBounds (Array.setIfInBounds (Array.setIfInBounds (Array.setIfInBounds (Array.setIfInBounds _ 7 true) 4 true) 9 true) 10 true) 11 true) 6 true) 12 true) 13 true) _ _);refine ro2 8 14 (fun K hK=> ?_) (fun K hK=> ?_))
   |((with_reducible show RG _ _ _ _ _ _ (Array.setIfInBounds (Array.setIfInBounds (Array.setIfInBounds (Array.setIfInBounds (Array.setIfInBounds (Array.setIfInBounds (Array.setIfInBounds (Array.setIfInBounds (Array.setIfInBounds _ 7 true) 4 true) 9 true) 10 true) 11 true) 6 true) 12 true) 13 true) 14 true) _ _);refine ro 8 (fun K hK=> ?_))
   |((with_reducible show RG _ _ _ _ _ _ (Array.setIfInBounds (Array.setIfInBounds (Array.setIfInBounds (Array.setIfInBounds (Array.setIfInBounds _ 7 true) 4 true) 9 true) 10 true) 8 true) _ _);refine ro2 6 11 (fun K hK=> ?_) (fun K hK=> ?_))
   |((with_reducible show RG _ _ _ _ _ _ (Array.setIfInBounds (Array.setIfInBounds (Array.setIfInBounds (Array.setIfInBounds (Array.setIfInBounds (Array.setIfInBounds _ 7 true) 4 true) 9 true) 10 true) 8 true) 11 true) _ _);refine ro 6 (fun K hK=> ?_))
   |((with_reducible show RG _ _ _ _ _ _ (Array.setIfInBounds (Array.setIfInBounds (Array.setIfInBounds (Array.setIfInBounds (Array.setIfInBounds _ 8 true) 11 true) 6 true) 12 true) 13 true) _ _);refine ro 14 (fun K hK=> ?_))
   |((with_reducible show RG _ _ _ _ _ _ (Array.setIfInBounds (Array.setIfInBounds (Array.setIfInBounds (Array.setIfInBounds (Array.setIfInBounds (Array.setIfInBounds _ 8 true) 11 true) 6 true) 12 true) 13 true) 14 true) _ _);refine tw 15 36 ?_)
   |((with_reducible show RG _ _ _ _ _ _ (Array.setIfInBounds (Array.setIfInBounds (Array.setIfInBounds _ 10 true) 8 true) 6 true) _ _);refine ro 11 (fun K hK=> ?_))
   |((with_reducible show RG _ _ _ _ _ _ (Array.setIfInBounds (Array.setIfInBounds (Array.setIfInBounds (Array.setIfInBounds (Array.setIfInBounds _ 8 true) 6 true) 11 true) 12 true) 13 true) _ _);refine ro 14 (fun K hK=> ?_))
   |((with_reducible show RG _ _ _ _ _ _ (Array.setIfInBounds (Array.setIfInBounds (Array.setIfInBounds (Array.setIfInBounds (Array.setIfInBounds (Array.setIfInBounds _ 8 true) 6 true) 11 true) 12 true) 13 true) 14 true) _ _);refine tw 15 36 ?_)
   |((with_reducible show RG _ _ _ _ _ _ (Array.setIfInBounds (Array.setIfInBounds (Array.setIfInBounds (Array.setIfInBounds (Array.setIfInBounds _ 7 true) 4 true) 9 true) 10 true) 6 true) _ _);refine ro2 8 11 (fun K hK=> ?_) (fun K hK=> ?_))
   |((with_reducible show RG _ _ _ _ _ _ (Array.setIfInBounds (Array.setIfInBounds (Array.setIfInBounds (Array.setIfInBounds (Array.setIfInBounds (Array.setIfInBounds (Array.setIfInBounds (Array.setIfInBounds _ 7 true) 4 true) 9 true) 10 true) 6 true) 11 true) 12 true) 13 true) _ _);refine ro2 8 14 (fun K hK=> ?_) (fun K hK=> ?_))
   |((with_reducible show RG _ _ _ _ _ _ (Array.setIfInBounds (Array.setIfInBounds (Array.setIfInBounds (Array.setIfInBounds (Array.setIfInBounds (Array.setIfInBounds (Array.setIfInBounds (Array.setIfInBounds (Array.setIfInBounds _ 7 true) 4 true) 9 true) 10 true) 6 true) 11 true) 12 true) 13 true) 14 true) _ _);refine ro 8 (fun K hK=> ?_))
   |((with_reducible show RG _ _ _ _ _ _ (Array.setIfInBounds (Array.setIfInBounds (Array.setIfInBounds _ 10 true) 6 true) 8 true) _ _);refine ro 11 (fun K hK=> ?_))
   |((with_reducible show RG _ _ _ _ _ _ (Array.setIfInBounds (Array.setIfInBounds (Array.setIfInBounds _ 6 true) 8 true) 11 true) _ _);refine tw 12 34 ?_)
   |(with_reducible show if Region.wanted (Oper.mk (some 27) _ _ _ _ _) _=true then _ else _
     refine step_make_v v0 (by rfl) (.tmp 26) (.tmp 26) 141 (by rfl) 4 ib (.bool false) Tryz.underlying141 HIB.out.1 HIB.out.2.1 HIB.out.2.2.1 (x:= .bool false) (by rfl) n (by rfl) (by rfl) hbB.out hmx ?_;obtain⟨g4,hg⟩:∃z,z=v0.heap.size:=⟨_,rfl⟩;intro v0 hr hk
     replace HI:=Qh (HI.out.m4 hr hk)
     rw[←hg] at HI⊢;clear hr hk hg;refine hK.out _ _ hHeld (fun hHeld=> ?_);clear hK K
     try simp only[PP])
   |(with_reducible show if Region.wanted (Oper.mk (some 29) _ _ _ _ _) _=true then _ else _
     refine step_make_v v0 (by rfl) (.tmp 28) (.tmp 28) 142 (by rfl) TBi iu (.agg #[.int .u64 0]) Tryz.underlying142 HIU.out.1 HIU.out.2.1 HIU.out.2.2.1 (x:= .int .u64 0) (by rfl) n (by rfl) (by rfl) hbU.out hmx ?_;obtain⟨g6,hg⟩:∃z,z=v0.heap.size:=⟨_,rfl⟩;intro v0 hr hk
     replace HI:=Qh (HI.out.m6 hr hk)
     rw[←hg] at HI⊢;clear hr hk hg;refine hK.out _ _ hHeld (fun hHeld=> ?_);clear hK K
     try simp only[PP])
   |(with_reducible show if Region.wanted (Oper.mk (some 31) _ _ _ _ _) _=true then _ else _
     refine step_make_v v0 (by rfl) (.tmp 30) (.tmp 30) 142 (by rfl) TBi iu (.agg #[.int .u64 0]) Tryz.underlying142 HIU.out.1 HIU.out.2.1 HIU.out.2.2.1 (x:= .int .u64 0) (by rfl) n (by rfl) (by rfl) hbU.out hmx ?_;obtain⟨g8,hg⟩:∃z,z=v0.heap.size:=⟨_,rfl⟩;intro v0 hr hk
     replace HI:=Qh (HI.out.m8 hr hk)
     rw[←hg] at HI⊢;clear hr hk hg;refine hK.out _ _ hHeld (fun hHeld=> ?_);clear hK K
     try simp only[PP])
   |(with_reducible show if Region.wanted (Oper.mk none (Op.store _ (Operand.tmp 33) _) _ _ _ _) _=true then _ else _
     have c:=HI.out.c5;have f:=HI.out.fr 5;go_simp
     replace HI:=Qh (HI.out.st (j:=5) (c':= {A5 with ve:= .slice (some ⟨g4,0,none⟩) n n}) (v:= .slice (some ⟨g4,0,none⟩) n n) rfl)
     obtain⟨v0,hw⟩:∃z,z=v0.setCell ⟨p,5,none⟩ (.slice (some ⟨g4,0,none⟩) n n):=⟨_,rfl⟩;rw[←hw] at HI⊢;clear hw c f;refine hK.out _ _ hHeld (fun hHeld=> ?_);clear hK K
     try simp only[PP])
   |(with_reducible show if Region.wanted (Oper.mk none (Op.store _ (Operand.tmp 35) _) _ _ _ _) _=true then _ else _
     have c:=HI.out.c6;have f:=HI.out.fr 6;go_simp
     replace HI:=Qh (HI.out.st (j:=6) (c':= {A5 with ve:= .slice (some ⟨g4,0,none⟩) n n,vf:= .slice (some ⟨g6,0,none⟩) n n}) (v:= .slice (some ⟨g6,0,none⟩) n n) rfl)
     obtain⟨v0,hw⟩:∃z,z=v0.setCell ⟨p,6,none⟩ (.slice (some ⟨g6,0,none⟩) n n):=⟨_,rfl⟩;rw[←hw] at HI⊢;clear hw c f;refine hK.out _ _ hHeld (fun hHeld=> ?_);clear hK K
     try simp only[PP])
   |(with_reducible show if Region.wanted (Oper.mk none (Op.store _ (Operand.tmp 37) _) _ _ _ _) _=true then _ else _
     have c:=HI.out.c7;have f:=HI.out.fr 7;go_simp
     replace HI:=Qh (HI.out.st (j:=7) (c':= {A5 with ve:= .slice (some ⟨g4,0,none⟩) n n,vf:= .slice (some ⟨g6,0,none⟩) n n,vw:= .slice (some ⟨g8,0,none⟩) n n}) (v:= .slice (some ⟨g8,0,none⟩) n n) rfl)
     obtain⟨v0,hw⟩:∃z,z=v0.setCell ⟨p,7,none⟩ (.slice (some ⟨g8,0,none⟩) n n):=⟨_,rfl⟩;rw[←hw] at HI⊢;clear hw c f;refine hK.out _ _ ?_;clear hK K))
  all_goals (go_wp2_with fail)
  all_goals go_meet
  all_goals exact⟨g4,g6,g8,HI⟩
 case rest=>
  obtain⟨ge,gf,gw,hni⟩:=hcut;have hst:StAt wc w.heap.size p X {A5 with ve:= .slice (some ⟨ge,0,none⟩) n n,vf:= .slice (some ⟨gf,0,none⟩) n n,vw:= .slice (some ⟨gw,0,none⟩) n n} (List.replicate n false) (List.replicate n 0) (List.replicate n 0) ge gf gw:=by
   have h1:=hni.out;have hS:=Yl HB5.out.blk;obtain⟨r4,b4,_⟩:=h1.r4 ge rfl;obtain⟨r6,b6,_⟩:=h1.r6 gf rfl;obtain⟨r8,b8,_⟩:=h1.r8 gw rfl;have hz:=HK5.out.size;refine⟨h1.blk,Qk HB5.out.pl h1.kp hS (by decide),HB5.out.pr.off h1.kp (Qx hS (by decide)) (Qx hS (by decide)),HB5.out.of_.off h1.kp (Qx hS (by decide)) (Qx hS (by decide)),by rw[←HN.out],by rw[←HN.out],by rw[←HN.out],?_,?_,?_,by rw[List.length_replicate,HN.out],by rw[List.length_replicate,HN.out],by rw[List.length_replicate,HN.out],?_,?_,h1.ne _ _ rfl rfl,HB5.out.pB.1,by omega,by omega,by omega⟩
   ·rw[show bV (List.replicate n false)=List.replicate n (.bool false) from List.map_replicate];exact r4
   ·rw[show biV (List.replicate n 0)=List.replicate n (.int .u64 0) from List.map_replicate];exact r6
   ·rw[show biV (List.replicate n 0)=List.replicate n (.int .u64 0) from List.map_replicate];exact r8
   ·intro x hx;rw[List.eq_of_mem_replicate hx];decide
   ·intro x hx;rw[List.eq_of_mem_replicate hx];decide
  have hkc:Kn w wc:=HK5.out.trans' hni.out.kp (fun i hi e=>by omega);have HKC:=Qh hkc;have HGE:Hid (w.heap.size≤ge∧w.heap.size≤gf∧w.heap.size≤gw):=Qh ⟨hst.pB.2.1,hst.pB.2.2.1,hst.pB.2.2.2⟩;have HR1:=Qh (rounds1_c hst HBO.out);clear hni hkc hst p5 HIB HIU hbB hbU HB5 HVE;go_wp2_with (first|(go_at_call 66;go_must (refine HR1.out.mono ?_;rintro e w6 ⟨rfl,E1,F1,hfin,hst6,hk6⟩;have HF1:=Qh hfin;have HS6:=Qh hst6;have HK6:Hid (Kn w w6):=Qh (HKC.out.trans' hk6 (fun i hi e=>by have:=HGE.out;omega));clear hfin hst6 hk6 HR1 HKC)))
  have c7:=HS6.out.c7;rw[←HN.out] at c7;have c4:w6.cell? ⟨p,4,none⟩=some (.int .i64 (m:Nat)):=by rw[HS6.out.cell 4];show some (Value.int .i64 (A5.fin:Nat))=_;rw[HAK5.out.fin]
  have hom:=oneB_lt (m:Int);have hn0:0<X.places.length:=by rw[←HN.out];exact hXpos
  refine rgn (fun w'=>w'.cell? ⟨p,7,none⟩=some (.slice (some ⟨gw,0,none⟩) n n)∧w'.cell? ⟨p,4,none⟩=some (.int .i64 (m:Nat))) (X:=[]) ⟨Qc ((Qb _ _).drew) c7,Qc ((Qb _ _).drew) c4⟩ (fun hX hHeld=> ?_);refine tw 0 41 ?_;refine tw 1 42 ?_;refine tw 2 43 ?_;refine tk 3 44 ?_;refine tw 4 45 ?_;refine tw 5 46 ?_;refine tw 6 47 ?_;refine tk 7 48 ?_;refine ro 8 (fun K hK=> ?_);obtain⟨v6,hv6⟩:∃z,z=w6.drew:=⟨_,rfl⟩;have hk6:Kn w6 v6:=by rw[hv6];exact(Qb _ _).drew
  have HSD:=Qh (HS6.out.kn hk6);have HKD:=Qh (HK6.out.trans hk6);rw[←hv6] at hHeld⊢;clear hv6 hk6;go_simp
  go_at_call 68
  refine(sone_c (m:Int) _).mono ?_;rintro e v7 ⟨rfl,hk7⟩;have HS7:=Qh (HSD.out.kn hk7);have HK7:=Qh (HKD.out.trans hk7);have e0:=HS7.out.wcell hn0;have f0:=HS7.out.rw_.fr 0;refine hK.out _ _ (⟨Qc hk7 hHeld.1,Qc hk7 hHeld.2⟩) (fun hHeld=> ?_);clear hk7 HSD HKD HS6 HK6 c7 c4;unfold bV1;clear hK K
  try simp only[PP]
  refine tw 9 50 ?_;refine re 10 (fun K hK=> ?_);go_simp;obtain⟨w8,hw8⟩:∃z,z=v7.setCell ⟨gw,0,none⟩ (.int .u64 (oneB (m:Int):Nat)):=⟨_,rfl⟩;have HS8:=Qh (HS7.out.setW 0 (oneB (m:Int)) hom);have HK8:Hid (Kn w w8):=Qh (by rw[hw8];exact HK7.out.setCell (fun hp=>absurd hp (by have:=HGE.out;show¬gw<_;omega)) _);rw[←hw8] at HS8⊢;clear hw8 e0 f0 HS7 HK7 hHeld;refine hK.out _ _ ?_;clear hK K;have HR2:=Qh (rounds2_c HS8.out HBO.out);go_wp2_with (first|(go_at_call 66;go_must (refine HR2.out.mono ?_;rintro e w9 ⟨rfl,W1,hfin,hst9,hk9⟩;have HF2:=Qh hfin;have HS9:=Qh hst9;have HK9:Hid (Kn w w9):=Qh (HK8.out.trans' hk9 (fun i hi e=>by have:=HGE.out;omega));clear hfin hst9 hk9 HR2 HK8)))
  go_ret2
  refine⟨p,⟨X,m,E1,F1,W1⟩,rfl,⟨_,_,ge,gf,gw,HS9.out,HBO.out,HAK5.out.fin⟩,⟨HX.out,HME.out,?_,?_⟩,HK9.out⟩
  ·show Fin (fstF X.l) (List.replicate X.places.length false,List.replicate X.places.length 0) (E1,F1);rw[←HN.out];exact HF1.out
  ·show Fin (flwF E1 F1 X.l) ((List.replicate X.places.length 0).set 0 (oneB (QJ R).length)) W1;rw[←HN.out,←HME.out];exact HF2.out
section
variable {w:World} {B p ge gf gw:Nat} {S:SB} {A:SA} {E:List Bool} {F W:List Nat}
end
theorem CloneSy_c{B:Nat}{v:Value}{Cs:List (List Value)}(w:World)(hbig:Cs.length≤1000000)(h3:∀C∈Cs,C.length=2)(h1:∀u∈Cs.flatten,u.oneCell'=true)(h:OwnK w B TSy 2 v Cs):
  Calls Tryz.prog 95 #[v] w fun e w'=>∃v',e= .returned v'∧OwnK w' w.heap.size TSy 2 v' Cs∧Kn w w':=by
 obtain⟨i0,hi,hz0,hz1,hz2⟩:=info_parts info_sy;have HI:=Qh (And.intro hi (And.intro hz0 (And.intro hz1 hz2)));have q24:∀(w:World) (a:Option Addr) (n c n' c':Nat),(binOp .eql 104 (.slice a n c) (.slice none n' c')).run Tryz.prog w= .ok (.bool a.isNone) w:=fun w a n c n' c'=>Lib.run_eql_slice_nil w _ _ a n c n' c' Tryz.underlying104
 have HC:=Qh h;have H1:=Qh h1;have hfl:=flat_len h3;rcases h.2 with⟨hv,hcs⟩|⟨g,cap,cur,hv,hg,_,hc1,hc2,_⟩
 ·have hn:Cs=[]:=by simpa using hcs
  subst hv hn;clear hi hz0 hz1 hz2 h h1;go_enter Tryz.func95,Tryz.ntmps95;go_wp2_with fail
  go_ret;exact⟨_,rfl,OwnK.nil,Qb _ _⟩
 ·subst hv;obtain⟨n,hn⟩:∃n,n=Cs.length:=⟨_,rfl⟩;have HN:=Qh hn;rw[←hn] at HC hc1 hbig hfl⊢;have HF:=Qh hfl;clear hi hz0 hz1 hz2 h h1 hn hfl h3;go_enter Tryz.func95,Tryz.ntmps95;go_wp2_with (at_builtin;refine wpList_append_own _ rfl _ _ 104 rfl w.heap.size TSy i0 _ 2 16 Tryz.underlying104 HI.out.1 HI.out.2.1 HI.out.2.2.1 HI.out.2.2.2 rfl (by decide) _ _ _ rfl (World.ownsRow_made w #[] 0 (Nat.le_refl _) (Nat.zero_le _) rfl) ⟨g,0,none⟩ n cap Cs.flatten rfl ?qc1 ?qc2 ?qc3 ?qc4 ?qc5 ?qc6 ?_)
  case qc1=>exact HF.out
  case qc2=>
   intro j u hj;exact Lib.cell?_alloc_some _ (HC.out.cells rfl j u hj)
  case qc3=>exact H1.out
  case qc4=>unfold maxLen;omega
  case qc5=>omega
  case qc6=>simp
  intro v' w1 hown hgrow hnil;go_wp2_with fail
  go_ret;refine⟨v',rfl,by unfold OwnK;rw[←HN.out];simpa using hown,?_⟩;exact Yd (((Below.refl _ w).alloc (Nat.le_refl _) _).grown hgrow (by simp) (by intro k hk;simp[Value.ownBlock] at hk;omega))
theorem ClonePr_c{B:Nat}{v:Value}{Cs:List (List Value)}(w:World)(hbig:Cs.length≤1000000)(h3:∀C∈Cs,C.length=3)(h1:∀u∈Cs.flatten,u.oneCell'=true)(h:OwnK w B TPr 3 v Cs):
  Calls Tryz.prog 94 #[v] w fun e w'=>∃v',e= .returned v'∧OwnK w' w.heap.size TPr 3 v' Cs∧Kn w w':=by
 obtain⟨i0,hi,hz0,hz1,hz2⟩:=info_parts info_pr;have HI:=Qh (And.intro hi (And.intro hz0 (And.intro hz1 hz2)));have q24:∀(w:World) (a:Option Addr) (n c n' c':Nat),(binOp .eql 97 (.slice a n c) (.slice none n' c')).run Tryz.prog w= .ok (.bool a.isNone) w:=fun w a n c n' c'=>Lib.run_eql_slice_nil w _ _ a n c n' c' Tryz.underlying97
 have HC:=Qh h;have H1:=Qh h1;have hfl:=flat_len h3;rcases h.2 with⟨hv,hcs⟩|⟨g,cap,cur,hv,hg,_,hc1,hc2,_⟩
 ·have hn:Cs=[]:=by simpa using hcs
  subst hv hn;clear hi hz0 hz1 hz2 h h1;go_enter Tryz.func94,Tryz.ntmps94;go_wp2_with fail
  go_ret;exact⟨_,rfl,OwnK.nil,Qb _ _⟩
 ·subst hv;obtain⟨n,hn⟩:∃n,n=Cs.length:=⟨_,rfl⟩;have HN:=Qh hn;rw[←hn] at HC hc1 hbig hfl⊢;have HF:=Qh hfl;clear hi hz0 hz1 hz2 h h1 hn hfl h3;go_enter Tryz.func94,Tryz.ntmps94;go_wp2_with (at_builtin;refine wpList_append_own _ rfl _ _ 97 rfl w.heap.size TPr i0 _ 3 40 Tryz.underlying97 HI.out.1 HI.out.2.1 HI.out.2.2.1 HI.out.2.2.2 rfl (by decide) _ _ _ rfl (World.ownsRow_made w #[] 0 (Nat.le_refl _) (Nat.zero_le _) rfl) ⟨g,0,none⟩ n cap Cs.flatten rfl ?qc1 ?qc2 ?qc3 ?qc4 ?qc5 ?qc6 ?_)
  case qc1=>exact HF.out
  case qc2=>
   intro j u hj;exact Lib.cell?_alloc_some _ (HC.out.cells rfl j u hj)
  case qc3=>exact H1.out
  case qc4=>unfold maxLen;omega
  case qc5=>omega
  case qc6=>simp
  intro v' w1 hown hgrow hnil;go_wp2_with fail
  go_ret;refine⟨v',rfl,by unfold OwnK;rw[←HN.out];simpa using hown,?_⟩;exact Yd (((Below.refl _ w).alloc (Nat.le_refl _) _).grown hgrow (by simp) (by intro k hk;simp[Value.ownBlock] at hk;omega))
theorem zip_pr_set(rs:List PR)(vk:List Value)(k:Nat)(v:Value)(hk:k<(List.zipWith prL rs vk).length):
  (List.zipWith prL rs vk).set k ((List.zipWith prL rs vk)[k].set 2 v)=List.zipWith prL rs (vk.set k v):=by
 apply List.ext_getElem
 ·simp
 ·intro i h1 h2;rw[List.getElem_set];split
  ·subst_vars;simp[prL]
  ·rename_i hne;simp only[List.getElem_zipWith];rw[List.getElem_set_ne hne]
def ProdsPost(w:World)(rs:List PR)(e:Ending)(w':World):Prop:=∃v vps,e= .returned v∧PrAt w' w.heap.size v rs vps∧Kn w w'
theorem prods_c{B p ge gf gw:Nat}{S:SB}{A:SA}{E:List Bool}{F W:List Nat}{w:World}(h:StAt w B p S A E F W ge gf gw)(hrl:S.l.length≤60000)(hpz:∀r∈S.l,r.syms.length≤1000000):
  Calls Tryz.prog 50 #[ptr p] w (ProdsPost w S.l):=by
 obtain⟨rs,hrs⟩:∃x,x=S.l:=⟨_,rfl⟩;obtain⟨vps,hvps⟩:∃x,x=A.vls:=⟨_,rfl⟩;obtain⟨q3,hpr,hpl⟩:w.cell? ⟨p,2,none⟩=some A.vl∧PrAt w B A.vl S.l A.vls∧p<w.heap.size:=⟨h.cell 2,h.pr,h.lt⟩;rw[←hrs] at hrl hpz hpr⊢;rw[←hvps] at hpr;clear h hrs hvps;have h4:∀vk:List Value,∀C∈List.zipWith prL rs vk,C.length=3:=fun vk C hC=>by obtain⟨i,hi,rfl⟩:=List.getElem_of_mem hC;simp[prL]
 have hlen:=hpr.len;have hon1:∀u∈(List.zipWith prL rs vps).flatten,u.oneCell'=true:=by
  intro u hu;obtain⟨C,hC,hu⟩:=List.mem_flatten.1 hu;obtain⟨i,hi,rfl⟩:=List.getElem_of_mem hC;have hi2:i<rs.length∧i<vps.length:=by rw[List.length_zipWith] at hi;omega
  have hp:=hpr.syms i hi2.2 hi2.1;obtain⟨a,c,hv,_⟩:=hp.row (k:=2) (fun C hC=>by obtain⟨x,_,rfl⟩:=List.mem_map.1 hC;rfl);simp only[List.getElem_zipWith,prL,hv] at hu;simp at hu;rcases hu with rfl|rfl|rfl<;>rfl
 have HCL:=Qh (ClonePr_c w (by rw[List.length_zipWith];omega) (h4 vps) hon1 hpr.row);have HP:=Qh (fun(wr:World) (hk:Kn w wr) (i:Nat) (h1:i<rs.length) (h2:i<vps.length)=>
  CloneSy_c wr (by rw[List.length_map];exact hpz _ (List.getElem_mem h1)) (fun C hC=>by obtain⟨x,_,rfl⟩:=List.mem_map.1 hC;rfl) (fun u hu=>by
   obtain⟨C,hC,hu⟩:=List.mem_flatten.1 hu;obtain⟨x,_,rfl⟩:=List.mem_map.1 hC;simp[syL] at hu;rcases hu with rfl|rfl<;>rfl) ((hpr.syms i h2 h1).kn hk))
 obtain⟨a0,c0,hv0,_⟩:=hpr.row.row (h4 vps);rw[hv0] at HCL q3;have hzl:(List.zipWith prL rs vps).length=rs.length:=by rw[List.length_zipWith,hlen,Nat.min_self]
 rw[hzl] at HCL q3;clear hpr hon1 hv0;go_enter Tryz.func50,Tryz.ntmps50;go_wp2_with fail
 refine HCL.out.mono ?_;rintro e w1 ⟨v,rfl,hown,hk1⟩;obtain⟨a,c,rfl,hc1,hc2,hg⟩:=hown.row (h4 vps);have HX:=Qh hg;rw[hzl] at hown hc1⊢;have HOW:=Qh hown;have HLN:=Qh hlen;clear hg hown HCL q3 hzl hlen;go_wp2_with fail
 go_loopw [14] (fun s14 wr=>∃(k:Nat) (vk:List Value),s14= .int .i64 k∧k≤rs.length∧Hid (OwnK wr w.heap.size TPr 3 (.slice a rs.length c) (List.zipWith prL rs vk))∧Hid (vk.length=rs.length)∧Hid (∀i (h1:i<vk.length) (h2:i<rs.length),i<k→OwnK wr w.heap.size TSy 2 vk[i] (rs[i].syms.map syL))∧Hid (∀i,k≤i→vk[i]? =vps[i]?)∧Kn w wr) (fun s14 _=>rs.length-(intOf s14).toNat)
 case atStart=>exact⟨0,vps,rfl,Nat.zero_le _,HOW,HLN,Qh (fun i _ _ h=>absurd h (Nat.not_lt_zero _)),Qh (fun _ _=>rfl),hk1⟩
 case round=>
  clear HOW hk1;obtain⟨k,vk,rfl,hk,HO,HV,HPA,HR,hkn⟩:=hrel;by_cases hlt:k<rs.length
  ·have hvk:=HV.out;obtain⟨a',c',hv,_,_,hg⟩:=HO.out.row (h4 vk);have hzl:(List.zipWith prL rs vk).length=rs.length:=by rw[List.length_zipWith,hvk,Nat.min_self]
   obtain⟨g,rfl,hgH,_,hc⟩:=hg (fun e=>by rw[e] at hzl;simp at hzl;omega);obtain rfl:a=some ⟨g,0,none⟩:=by injection hv
   have c3:wr.cell? ⟨g,k*3+2,none⟩=some (vk[k]'(by omega)):=by
    have:=(hc k (by omega) 2 (by omega)).1;rw[show 0+3*k+2=k*3+2 by omega] at this;rw[this];simp[prL]
   have f3:wr.frozen? ⟨g,k*3+2,none⟩=false:=by
    have:=(hc k (by omega) 2 (by omega)).2;rwa[show 0+3*k+2=k*3+2 by omega] at this
   have hlv:k<vps.length:=by have:=HLN.out;omega
   have hvv:vk[k]'(by omega)=vps[k]:=by
    have:=HR.out k (Nat.le_refl _);rw[List.getElem?_eq_getElem (by omega),List.getElem?_eq_getElem hlv] at this;exact Option.some.inj this
   rw[hvv] at c3;have HPC:=Qh (HP.out wr hkn k hlt hlv);obtain⟨vp,hvp⟩:∃x,x=vps[k]:=⟨_,rfl⟩;rw[←hvp] at HPC c3;have HZL:=Qh hzl;have HGH:=Qh hgH;obtain⟨cur,hgb⟩:=OwnK.blkT HO.out (g:=g) rfl;have hgl:g<wr.heap.size:=by
    rcases Nat.lt_or_ge g wr.heap.size with h|h
    ·exact h
    ·rw[Array.getElem?_eq_none h] at hgb;cases hgb
   clear hv hg hc hvv hvp hzl hvk hgb hgH;go_wp2_with fail
   refine HPC.out.mono ?_;rintro e w2 ⟨v',rfl,hov,hk2⟩;have f32:w2.frozen? ⟨g,k*3+2,none⟩=false:=by
    obtain⟨cur,hgb⟩:=OwnK.blkT (HO.out.kn hk2) (g:=g) rfl;exact Qd hgb _
   obtain⟨a2,c2,rfl,_⟩:=hov.row (k:=2) (fun C hC=>by obtain⟨x,_,rfl⟩:=List.mem_map.1 hC;rfl);have hml:(List.map syL rs[k].syms).length=rs[k].syms.length:=List.length_map ..
   rw[hml] at hov⊢;clear hml;have HOV:=Qh hov;have HK2:=Qh hk2;have c32:=Qc hk2 c3;clear f3 c3 hov hk2;go_wp2_with fail
   go_roundw
   case rel=>
    have hkn2:=hkn.trans HK2.out;have hvk:=HV.out;have hkz:k<(List.zipWith prL rs vk).length:=by have:=HZL.out;omega
    have hkv:k<vk.length:=by omega
    have hk3:K1 g w2 (w2.setCell ⟨g,k*3+2,none⟩ (.slice a2 rs[k].syms.length c2)):=Qg _ _;have hset:=OwnK.set (HO.out.kn HK2.out) (h4 vk) (g:=g) rfl k 2 hkz (by omega) (.slice a2 rs[k].syms.length c2);rw[zip_pr_set,show 0+3*k+2=k*3+2 by omega] at hset;obtain⟨cur,hgb⟩:=OwnK.blkT (HO.out.kn HK2.out) (g:=g) rfl;have hS:=Yl hgb;refine⟨k+1,vk.set k (.slice a2 rs[k].syms.length c2),by go_num,by omega,Qh hset,Qh (by rw[List.length_set];exact HV.out),Qh ?_,Qh ?_,?_⟩
    ·intro i h1 h2 hi;rw[List.length_set] at h1;by_cases e:k=i
     ·subst e;rw[List.getElem_set_self];exact Qk (OwnK.base HOV.out (by have:=hkn.size;omega)) hk3 hS (by decide)
     ·rw[List.getElem_set_ne e];exact Qk ((HPA.out i h1 h2 (by omega)).kn HK2.out) hk3 hS (by decide)
    ·intro i hi;rw[List.getElem?_set_ne (by omega)];exact HR.out i (by omega)
    ·exact hkn2.trans' hk3 (fun i hi e=>by have:=HGH.out;omega)
   case measure=>simp[intOf];omega
  ·obtain rfl:k=rs.length:=by omega
   go_wp2_with fail
   go_ret;exact⟨_,vk,rfl,⟨HO.out,HV.out,fun i h1 h2=>HPA.out i h1 h2 h2⟩,hkn⟩
end Go.Proofs.YtiehgcfckhepaaaGreatDoor
namespace Go.Proofs.YtiehgcfckhepaaaGreatDoor
def M6:Int:=1000000
structure US where
 z:List Int
 b:List Int
 more:Bool
def okZ(z:List Int):Prop:=∀x∈z,-1≤x∧x≤M6
theorem okZ.get{z:List Int}(h:okZ z)(i:Nat): -1≤z.getD i 0∧z.getD i 0≤M6:=by
 rw[List.getD_eq_getElem?_getD];rcases Nat.lt_or_ge i z.length with hi|hi
 ·rw[List.getElem?_eq_getElem hi];exact h _ (List.getElem_mem hi)
 ·rw[List.getElem?_eq_none hi];simp[M6]
theorem okZ.set{z:List Int}(h:okZ z)(i:Nat)(x:Int)(hx: -1≤x∧x≤M6):okZ (z.set i x):=fun y hy=>by
 rcases List.mem_or_eq_of_mem_set hy with hy|rfl
 ·exact h y hy
 ·exact hx
structure UOk (n:Nat) (s:US):Prop where
 zl:s.z.length=n
 bl:s.b.length=n
 z:okZ s.z
def zV(z:List Int):List (List Value):=z.map (fun x=>[Value.int .i64 x])
theorem zV_len(z:List Int):(zV z).length=z.length:=by simp[zV]
open Go.RowKit Go.Maps
abbrev TUs:TypeId:=100
structure UsAt (w:World) (B p st n:Nat) (l:List PR) (vl:Value) (vls:List Value) (z b:List Int) (gz gb cz cb:Nat):Prop where
 blk:w.heap[p]? =some (.cells #[ptr st,vl,.slice (some ⟨gz,0,none⟩) n cz,.slice (some ⟨gb,0,none⟩) n cb] TUs (0,0))
 pr:PrAt w B vl l vls
 rz:OwnK w B 3 1 (.slice (some ⟨gz,0,none⟩) n cz) (zV z)
 rb:OwnK w B 3 1 (.slice (some ⟨gb,0,none⟩) n cb) (zV b)
 zl:z.length=n
 bl:b.length=n
 ne:gz≠gb
 pB:B≤p
theorem zV_one(z:List Int):∀C∈zV z,C.length=1:=fun C hC=>by obtain⟨x,_,rfl⟩:=List.mem_map.1 hC;rfl
theorem zV_cell{w:World}{B g n c:Nat}{z:List Int}(h:OwnK w B 3 1 (.slice (some ⟨g,0,none⟩) n c) (zV z)){i:Nat}(hi:i<z.length):w.cell? ⟨g,i,none⟩=some (.int .i64 (z.getD i 0))∧w.frozen? ⟨g,i,none⟩=false:=by
 obtain⟨a,c',hv,_,_,hg⟩:=h.row (zV_one z);obtain⟨g',ha,_,_,hc⟩:=hg (fun e=>by have:=congrArg List.length e;rw[zV_len,List.length_nil] at this;omega);injection hv with e1 _ _;rw[ha] at e1;obtain rfl:g=g':=by injection e1 with e1;injection e1
 have h1:=hc i (by rw[zV_len];exact hi) 0 (by omega);rw[show 0+1*i+0=i by omega] at h1;refine⟨by rw[h1.1];simp[zV,List.getD_eq_getElem?_getD,List.getElem?_eq_getElem hi],h1.2⟩
section
variable {w w':World} {B p st n gz gb cz cb:Nat} {l:List PR} {vl:Value} {vls:List Value} {z b:List Int}
theorem UsAt.cell(h:UsAt w B p st n l vl vls z b gz gb cz cb)(i:Nat):w.cell? ⟨p,i,none⟩= #[ptr st,vl,.slice (some ⟨gz,0,none⟩) n cz,.slice (some ⟨gb,0,none⟩) n cb][i]? :=Qa h.blk i
theorem UsAt.kn(h:UsAt w B p st n l vl vls z b gz gb cz cb)(hk:Kn w w'):UsAt w' B p st n l vl vls z b gz gb cz cb:=⟨hk.blk h.blk (fun x=>x),h.pr.kn hk,h.rz.kn hk,h.rb.kn hk,h.zl,h.bl,h.ne,h.pB⟩
theorem UsAt.lt(h:UsAt w B p st n l vl vls z b gz gb cz cb):p<w.heap.size:=Ql h.blk
end
open Go.RowKit Go.Maps Go.ChangeMaps Go.MapKept
abbrev TCh:TypeId:=154
abbrev TRn:TypeId:=156
def rkV(p:RN):Value:= .agg #[.int .i64 (p.1:Nat),.int .i64 (p.2.1:Nat),.int .i64 (p.2.2:Nat)]
theorem rkV_inj{p q:RN}(h:rkV p=rkV q):p=q:=by
 unfold rkV at h;injection h with h;have h2:=congrArg Array.toList h;simp at h2;exact Prod.ext (by omega) (Prod.ext (by omega) (by omega))
theorem rn_key:Keyed Tryz.prog TRn:=Keyed.of_law (deep_law (m:=4) (by decide) (by kernel_rfl) (by kernel_rfl) (by kernel_rfl))
def okN(q:RN):Prop:=q.1≤1000000∧q.2.1≤1000000∧q.2.2≤1000000
theorem rn_fit(q:RN)(h:okN q):∃lx,keyOf Tryz.prog TRn (rkV q)=some lx:=by
 obtain⟨h1,h2,h4⟩:=h;have hkt:Tryz.prog.keyType TRn=true:=by kernel_rfl
 have hc:Tryz.prog.cellsOf TRn=3:=by kernel_rfl
 have hi:Tryz.prog.cellsOf 3=1:=by kernel_rfl
 have h2':decide (2≤Tryz.prog.types.size)=true:=by kernel_rfl
 have h3:=of_decide_eq_true h2';obtain⟨d,hd⟩:∃d,Tryz.prog.types.size=d+2:=⟨Tryz.prog.types.size-2,by omega⟩;obtain⟨la,hla⟩:=int_lits (d+1) ((q.1:Nat):Int) (by omega);obtain⟨lb,hlb⟩:=int_lits (d+1) ((q.2.1:Nat):Int) (by omega);obtain⟨lc,hlc⟩:=int_lits (d+1) ((q.2.2:Nat):Int) (by omega);have hfo:(rkV q).formed Tryz.prog TRn=true:=by
  unfold Value.formed rkV;simp only[Tryz.underlying156,hc];rfl
 refine⟨.string (keyBytes [la,lb,lc].flatten),?_⟩;unfold keyOf;simp only[Tryz.underlying156,hkt,hfo,Bool.and_self,if_true,hd];unfold rkV;simp only[Value.cells];unfold Program.keyLits;simp only[Tryz.underlying156,hc];simp[hi,hla,hlb,hlc]
def kvN(p:RN×Nat):Value×Value:=(rkV p.1,.int .i64 (p.2:Nat))
def TrAt(w:World)(b:Nat)(f:RN→Nat):Prop:=∃m:Yk,MapB w TRn b (m.map kvN)∧TOk m∧(∀k,Qv m k=f k)∧∀p∈m,okN p.1
section
variable {w w':World} {b:Nat} {f:RN→Nat} {q:RN} {S:Nat→Prop}
theorem TrAt.kp(h:TrAt w b f)(hk:Kp S w w')(hs:¬S b):TrAt w' b f:=by obtain⟨m,h1,h2⟩:=h;exact⟨m,h1.kp hk hs,h2⟩
theorem TrAt.kn(h:TrAt w b f)(hk:Kn w w'):TrAt w' b f:=h.kp hk (fun x=>x)
theorem TrAt.lt(h:TrAt w b f):b<w.heap.size:=by obtain⟨m,h1,_⟩:=h;exact h1.a.lt
theorem TrAt.congr{g:RN→Nat}(h:TrAt w b f)(he:∀k,f k=g k):TrAt w b g:=by obtain⟨m,h1,h2,h3,h4⟩:=h;exact⟨m,h1,h2,fun k=>(h3 k).trans (he k),h4⟩
theorem TrAt.mapBlk(h:TrAt w b f):∃es c,w.heap[b]? =some (.map es c):=by obtain⟨m,⟨es,c,hb,_⟩,_⟩:=h;exact⟨es,c,hb⟩
theorem kvN_not{m:Yk}(h:∀p∈m,p.1≠q):∀p∈m.map kvN,p.1≠rkV q:=by
 intro p hp e;obtain⟨z,hz,rfl⟩:=List.mem_map.1 hp;exact h z hz (rkV_inj e)
theorem getT_cases(m:Yk)(q:RN):(∃v,(q,v)∈m)∨∀p∈m,p.1≠q:=by
 by_cases h:∃v,(q,v)∈m
 ·exact .inl h
 ·exact .inr (fun p hp e=>h ⟨p.2,by rw[←e];exact hp⟩)
theorem TrAt.look(h:TrAt w b f)(hq:okN q):(Instr.lookup 152 (.map (some b)) (rkV q) false).run Tryz.prog w= .ok (.int .i64 (f q:Nat)) w:=by
 obtain⟨m,h1,h2,h3,_⟩:=h;obtain⟨l,hl⟩:=rn_fit q hq;rcases getT_cases m q with⟨v,hv⟩|hn
 ·have e:f q=v:=by rw[←h3];exact getT_mem h2.nd hv
  rw[e];exact h1.a.look1 rn_key Tryz.underlying152 hl (List.mem_map_of_mem (f:=kvN) hv) false
 ·have e:f q=0:=by rw[←h3];exact getT_none hn
  rw[e];exact h1.a.look0 rn_key Tryz.underlying152 (szero_int w) hl (kvN_not hn) false
theorem putT_at{m:Yk}(hnd:(m.map (·.1)).Nodup){j u v:Nat}(hj:(m.map kvN)[j]? =some (rkV q,.int .i64 (u:Nat))):putT m q v=m.set j (q,v):=by
 rw[List.getElem?_map] at hj;obtain⟨p,hp,hpe⟩:=Option.map_eq_some_iff.1 hj;obtain⟨hjl,hpj⟩:=List.getElem?_eq_some_iff.1 hp;have hpq:p.1=q:=rkV_inj (congrArg Prod.fst hpe);have:m.findIdx? (fun p=>decide (p.1=q))=some j:=by
  rw[List.findIdx?_eq_some_iff_getElem];refine⟨hjl,by rw[hpj];exact decide_eq_true hpq,fun i hi=> ?_⟩;simp only[decide_eq_true_eq];intro e;rw[List.Nodup,List.pairwise_iff_getElem] at hnd;have:=hnd i j (by simp;omega) (by simp;omega) hi;simp only[List.getElem_map] at this;exact this (by rw[e,hpj,hpq])
 unfold putT;rw[this]
theorem putT_new{m:Yk}(hn:∀p∈m,p.1≠q)(v:Nat):putT m q v=m++[(q,v)]:=by
 have:m.findIdx? (fun p=>decide (p.1=q))=none:=List.findIdx?_eq_none_iff.2 (fun p hp=>by simp[hn p hp]);unfold putT;rw[this]
theorem TrAt.put(h:TrAt w b f)(hq:okN q){v:Nat}(hv:0<v):∃w',(Instr.mapUpdate 152 (.map (some b)) (rkV q) (.int .i64 (v:Nat))).run Tryz.prog w= .ok () w'∧TrAt w' b (fun k=>if q=k then v else f k)∧K1 b w w':=by
 obtain⟨m,h1,h2,h3,h4⟩:=h;obtain⟨l,hl⟩:=rn_fit q hq;have hz:∀k,Qv (putT m q v) k=if q=k then v else f k:=fun k=>by rw[getT_putT,h3]
 have ho:∀p∈putT m q v,okN p.1:=fun p hp=>by rcases mem_putT hp with h|rfl;exact h4 p h;exact hq
 rcases getT_cases m q with⟨u,hu⟩|hn
 ·obtain⟨w',j,hr,hj,hm,hk⟩:=h1.put1 rn_key Tryz.underlying152 hl (List.mem_map_of_mem (f:=kvN) hu) (.int .i64 (v:Nat));refine⟨w',hr,⟨putT m q v,?_,h2.put q hv,hz,ho⟩,hk⟩;rw[putT_at h2.nd hj,List.map_set];exact hm
 ·obtain⟨w',hr,hm,hk⟩:=h1.put0 rn_key Tryz.underlying152 hl (kvN_not hn) (.int .i64 (v:Nat));refine⟨w',hr,⟨putT m q v,?_,h2.put q hv,hz,ho⟩,hk⟩;rw[putT_new hn,List.map_append];exact hm
theorem TrAt.entry(h:TrAt w b f)(hq:okN q){v:Nat}(hv:0<v):∃(w1 w2:World) (st:Nat) (u:Value),(Instr.mapEntry 152 (.map (some b)) (rkV q)).run Tryz.prog w= .ok (.tuple #[u,.int .i64 (st:Nat)]) w1∧K1 b w w1∧
  (Instr.entryStore 152 (.map (some b)) (.int .i64 (st:Nat)) (.int .i64 (v:Nat))).run Tryz.prog w1= .ok () w2∧K1 b w1 w2∧TrAt w2 b (fun k=>if q=k then v else f k):=by
 obtain⟨m,h1,h2,h3,h4⟩:=h;obtain⟨l,hl⟩:=rn_fit q hq;have hz:∀k,Qv (putT m q v) k=if q=k then v else f k:=fun k=>by rw[getT_putT,h3]
 have ho:∀p∈putT m q v,okN p.1:=fun p hp=>by rcases mem_putT hp with h|rfl;exact h4 p h;exact hq
 rcases getT_cases m q with⟨u,hu⟩|hn
 ·obtain⟨w1,w2,st,u1,j,r1,k1,r2,k2,hj,hm⟩:=h1.entry1 rn_key Tryz.underlying152 hl (List.mem_map_of_mem (f:=kvN) hu) (.int .i64 (v:Nat));refine⟨w1,w2,st,u1,r1,k1,r2,k2,putT m q v,?_,h2.put q hv,hz,ho⟩;rw[putT_at h2.nd hj,List.map_set];exact hm
 ·obtain⟨w1,w2,st,u1,r1,k1,r2,k2,hm⟩:=h1.entry0 rn_key Tryz.underlying152 hl (kvN_not hn) (szero_int w) (.int .i64 (v:Nat));refine⟨w1,w2,st,u1,r1,k1,r2,k2,putT m q v,?_,h2.put q hv,hz,ho⟩;rw[putT_new hn,List.map_append];exact hm
theorem TrAt.new(w:World):TrAt (w.alloc (.map #[] 0)) w.heap.size (Qv []):=⟨[],MapB.new w TRn,⟨by simp,by simp⟩,fun _=>rfl,by simp⟩
end
structure ChAt (w:World) (B pc ps:Nat) (l:List PR) (vl:Value) (vls:List Value) (tx:List Int) (gt:Option Addr) (ct bt:Nat) (f:RN→Nat):Prop where
 blk:w.heap[pc]? =some (.cells #[ptr ps,vl,.slice gt tx.length ct,.map (some bt)] TCh (0,0))
 pr:PrAt w B vl l vls
 tx:OwnK w B 3 1 (.slice gt tx.length ct) (zV tx)
 tr:TrAt w bt f
 pB:B≤pc∧B≤bt
section
variable {w w':World} {B pc ps:Nat} {l:List PR} {vl:Value} {vls:List Value} {tx:List Int} {gt:Option Addr} {ct bt:Nat} {f:RN→Nat}
theorem ChAt.kn(h:ChAt w B pc ps l vl vls tx gt ct bt f)(hk:Kn w w'):ChAt w' B pc ps l vl vls tx gt ct bt f:=⟨hk.blk h.blk (fun x=>x),h.pr.kn hk,h.tx.kn hk,h.tr.kn hk,h.pB⟩
theorem ChAt.tcell(h:ChAt w B pc ps l vl vls tx gt ct bt f){i:Nat}(hi:i<tx.length):∃g,gt=some ⟨g,0,none⟩∧tx.length≤ct∧w.cell? ⟨g,i,none⟩=some (.int .i64 (tx.getD i 0)):=by
 obtain⟨a,c,hv,hc,_,hg⟩:=h.tx.row (zV_one tx);obtain⟨g,ha,_⟩:=hg (fun e=>by have:=congrArg List.length e;rw[zV_len,List.length_nil] at this;omega);injection hv with e1 e2 e3;rw[zV_len] at hc;have ht:=h.tx;rw[e1,ha] at ht;exact⟨g,e1.trans ha,by omega,(zV_cell ht hi).1⟩
theorem ChAt.lt(h:ChAt w B pc ps l vl vls tx gt ct bt f):pc<w.heap.size:=Ql h.blk
end
end Go.Proofs.YtiehgcfckhepaaaGreatDoor
namespace Go.Proofs.YtiehgcfckhepaaaGreatDoor
open Go.RowKit Go.Maps
theorem sumW_step{T W:Nat→Nat}{t k s Z:Nat}(h:sumW T W (t+1-k) k s=Z)(hk:k≤t)(hs:s<2):sumW T W (t+1-(k+1)) (k+1) (if 0<T k then s+T k*W k else s)=Z:=by
 rw[show t+1-k=(t+1-(k+1))+1 by omega,sumW,if_pos hs] at h;exact h
theorem sumW_end{T W:Nat→Nat}{t k s Z:Nat}(h:sumW T W (t+1-k) k s=Z)(hk:¬(k≤t∧s<2)):Z=s:=by
 cases e:t+1-k with
 |zero=>rw[e,sumW] at h;exact h.symm
 |succ n=>
  rw[e,sumW,if_neg (by omega)] at h;exact h.symm
theorem ways_c{B pc ps:Nat}{pl:List PR}{vl:Value}{vls:List Value}{tx:List Int}{gt:Option Addr}{ct bt:Nat}{M:Yk}(hM:∀k,Qv M k≤2)(htl:tx.length≤1000):
  ∀(l:List SY) (a:Option Addr) (c f t:Nat) (w:World),ChAt w B pc ps pl vl vls tx gt ct bt (Qv M)→SyS w a l→l.length≤c→c≤maxLen→f≤t→t≤tx.length→(∀y∈l,y.place=true→0≤y.n∧y.n≤1000000)→l.length≤1000000→
  Calls Tryz.prog 117 #[ptr pc,.slice a l.length c,.int .i64 f,.int .i64 t] w fun e w'=>e= .returned (.int .i64 (Ys M tx l f t:Nat))∧Kn w w'
 |[],a,c,f,t,w,h,hS,hlc,hcm,hft,ht,hy,hl=>by
  have hpl:=h.lt;clear h hS hlc hy hl hM;by_cases e:f=t
  ·subst e;go_enter Tryz.func117,Tryz.ntmps117;go_wp2_with fail
   go_ret;exact⟨by simp[Ys],Qb _ _⟩
  ·have e2:((f:Int)==(t:Int))=false:=by rw[beq_eq_false_iff_ne];omega
   have HE:=Qh e;clear e;go_enter Tryz.func117,Tryz.ntmps117;go_wp2_with fail
   go_ret;exact⟨by simp[Ys,HE.out],Qb _ _⟩
 |y::l,a,c,f,t,w,h,hS,hlc,hcm,hft,ht,hy,hl=>by
  obtain⟨g,off,ha,hr⟩:=hS (by simp);subst ha;have r0:=hr 0 (by simp);simp only[Nat.zero_mul,Nat.add_zero,List.getElem_cons_zero] at r0;obtain⟨c0,c1⟩:=r0;have hpl:=h.lt;unfold maxLen at hcm;have hl2:l.length≤1000000:=by simp at hl;omega
  obtain⟨n,hn⟩:∃n,n=(y::l).length:=⟨_,rfl⟩;have hn1:n=l.length+1:=by rw[hn];simp
  rw[←hn] at hlc hl⊢;have hn0:(0:Int)<(n:Int):=by omega
  have hn2:((n:Int)==0)=false:=by rw[beq_eq_false_iff_ne];omega
  have hn3:0<n:=by omega
  have q1:w.cell? ⟨pc,2,none⟩=some (.slice gt tx.length ct):=by rw[Qa h.blk];try rfl
  have q3:w.cell? ⟨pc,3,none⟩=some (.map (some bt)):=by rw[Qa h.blk];try rfl
  have HH:=Qh h;have HR:=Qh hr;have HY:=Qh hy;have HM:=Qh hM;have HC:Hid (∀(f':Nat) (W:World) (a':Option Addr) (c':Nat),SyS w a' l→l.length≤c'→c'≤maxLen→Kn w W→f'≤t→Calls Tryz.prog 117 #[ptr pc,.slice a' (n-1) c',.int .i64 f',.int .i64 t] W fun e w'=>e= .returned (.int .i64 (Ys M tx l f' t:Nat))∧Kn W w'):=
   Qh (fun f' W a' c' h1 h2 h3 hk hf=>by
    have:=ways_c hM htl l a' c' f' t W (h.kn hk) (h1.kn hk) h2 h3 hf ht (fun z hz=>hy z (List.mem_cons_of_mem _ hz)) hl2;rwa[show l.length=n-1 by omega] at this)
  have hW2:∀f',Ys M tx l f' t≤2:=fun f'=>waysF_le M tx l f' t
  have HW2:=Qh hW2;clear h hr hy hM hn hW2 hS;have hcases:(c=1∧n=1∧Hid (∀(f':Nat) (W:World),Kn w W→f'≤t→Calls Tryz.prog 117 #[ptr pc,.slice (some ⟨g,off,none⟩) 0 0,.int .i64 f',.int .i64 t] W fun e w'=>e= .returned (.int .i64 (Ys M tx l f' t:Nat))∧Kn W w'))∨
    (¬c=1∧Hid (∀(f':Nat) (W:World),Kn w W→f'≤t→Calls Tryz.prog 117 #[ptr pc,.slice (some ⟨g,off+2,none⟩) (n-1) (c-1),.int .i64 f',.int .i64 t] W fun e w'=>e= .returned (.int .i64 (Ys M tx l f' t:Nat))∧Kn W w')):=by
   by_cases hz:c=1
   ·have hl0:l=[]:=List.eq_nil_of_length_eq_zero (by omega);refine .inl ⟨hz,by omega,Qh (fun f' W hk hf=> ?_)⟩;have:=HC.out f' W (some ⟨g,off,none⟩) 0 (fun hne=>absurd hl0 hne) (by rw[hl0];simp) (by simp[maxLen]) hk hf;rwa[show n-1=0 by omega] at this
   ·refine .inr ⟨hz,Qh (fun f' W hk hf=>HC.out f' W _ (c-1) (fun hne=>⟨g,off+2,rfl,fun i hi=> ?_⟩) (by omega) (by unfold maxLen;omega) hk hf)⟩;have h9:=HR.out (i+1) (by simp;omega);rw[show off+(i+1)*2=off+2+i*2 by omega] at h9;simpa using h9
  clear hn1;cases hp:y.place with
  |false=>
   rw[hp] at c0;have hF:Ys M tx (y::l) f t=if f<t∧tx.getD f 0=y.n then Ys M tx l (f+1) t else 0:=by rw[Ys,if_pos hp]
   by_cases hlt:f<t
   ·obtain⟨g2,hg2,hct,hcell⟩:=HH.out.tcell (i:=f) (by omega);subst hg2;have b1:(f:Int)<(tx.length:Int):=by omega
    have b2:(0:Int)≤(f:Int):=by omega
    obtain⟨v,hv⟩:∃v,v=tx.getD f 0:=⟨_,rfl⟩;obtain⟨u,hu⟩:∃u,u=y.n:=⟨_,rfl⟩;rw[←hv] at hcell hF;rw[←hu] at c1 hF;by_cases e:v=u
    ·have e2:(v==u)=true:=by simp[e]
     rw[if_pos ⟨hlt,e⟩] at hF;have HF:=Qh hF;clear hF hv hu e hp hct;rcases hcases with⟨rfl,rfl,HB⟩|⟨hz,HB⟩
     all_goals
      have HB2:=Qh (fun n'=>HB.out (f+1) (w.drewN n') ((Qb _ _).drewN _) (by omega));go_enter Tryz.func117,Tryz.ntmps117;go_wp2_with fail
      go_quiet (fail)
      go_wp2_with fail
      refine(HB2.out _).mono ?_;rintro e w' ⟨rfl,hk⟩;go_wp2_with fail
      go_ret;exact⟨by rw[HF.out];try rfl,((Qb _ _).drewN _).trans hk⟩
    ·have e2:(v==u)=false:=by simp[e]
     rw[if_neg (fun x=>e x.2)] at hF;have HF:=Qh hF;clear hF hv hu e hp hct hcases;go_enter Tryz.func117,Tryz.ntmps117;go_wp2_with fail
     go_quiet (fail)
     go_wp2_with fail
     go_ret;exact⟨by rw[HF.out];try rfl,(Qb _ _).drewN _⟩
   ·have hd:decide ((f:Int)<(t:Int))=false:=by simp;omega
    rw[if_neg (fun x=>hlt x.1)] at hF;have HF:=Qh hF;clear hF hp hcases;go_enter Tryz.func117,Tryz.ntmps117;go_wp2_with fail
    go_quiet (fail)
    go_wp2_with fail
    go_ret;exact⟨by rw[HF.out];try rfl,(Qb _ _).drewN _⟩
  |true=>
   rw[hp] at c0;obtain⟨hy0,hy1⟩:=HY.out y List.mem_cons_self hp;obtain⟨m,hm⟩:=Int.eq_ofNat_of_zero_le hy0;rw[hm] at c1;have hF:Ys M tx (y::l) f t=min (sumW (fun k=>Qv M (m,f,k)) (fun k=>Ys M tx l k t) (t+1-f) f 0) 2:=by
    rw[Ys,if_neg (by rw[hp];simp),hm];rfl
   have HF:=Qh hF;have hm1:m≤1000000:=by omega
   clear hF hp hm hy0 hy1;rcases hcases with⟨rfl,rfl,HB⟩|⟨hz,HB⟩
   all_goals
    go_enter Tryz.func117,Tryz.ntmps117;go_wp2_with fail
    go_loopw [9,10] (fun s9 s10 wr=>∃(s k:Nat),s9= .int .i64 s∧s10= .int .i64 k∧f≤k∧k≤t+1∧s≤5∧Hid (sumW (fun k=>Qv M (m,f,k)) (fun k=>Ys M tx l k t) (t+1-k) k s=sumW (fun k=>Qv M (m,f,k)) (fun k=>Ys M tx l k t) (t+1-f) f 0)∧Kn w wr) (fun _ s10 _=>t+1-(intOf s10).toNat)
    case atStart=>exact⟨0,f,rfl,rfl,Nat.le_refl _,by omega,by omega,Qh rfl,Qb _ _⟩
    case round=>
     obtain⟨s,k,rfl,rfl,hk1,hk2,hs5,hG,hkn⟩:=hrel;have d0:=Qc hkn c0;have d1:=Qc hkn c1;have p3:=Qc hkn q3;by_cases hc1:k≤t∧s<2
     ·obtain⟨hkt,hs2⟩:=hc1;have hst:=sumW_step hG.out hkt hs2;have hlk:∀n',(Instr.lookup 152 (.map (some bt)) (.agg #[.int .i64 (m:Nat),.int .i64 (f:Nat),.int .i64 (k:Nat)]) false).run Tryz.prog (wr.drewN n')= .ok (.int .i64 (Qv M (m,f,k):Nat)) (wr.drewN n'):=
       fun n'=>(HH.out.tr.kn (hkn.drewN n')).look (q:=(m,f,k)) ⟨hm1,by dsimp only;omega,by dsimp only;omega⟩
      have hv2:=HM.out (m,f,k);have hw2:=HW2.out k;obtain⟨v,hv⟩:∃v,v=Qv M (m,f,k):=⟨_,rfl⟩;obtain⟨u,hu⟩:∃u,u=Ys M tx l k t:=⟨_,rfl⟩
      try dsimp only at hst
      rw[←hv] at hlk hv2 hst;rw[←hu] at hst hw2;by_cases hv0:v=0
      ·subst hv0;rw[if_neg (by omega)] at hst;have HS:=Qh hst;clear hst hv hu hG;go_wp2_with fail
       go_quiet (fail)
       go_wp2_with fail
       go_roundw
       case rel=>exact⟨s,k+1,rfl,by go_num,by omega,by omega,by omega,HS,hkn.drewN _⟩
       case measure=>simp[intOf];omega
      ·rw[if_pos (by omega)] at hst;have HS:=Qh hst;have HCC:=Qh (fun n'=>by have:=HB.out k (wr.drewN n') (hkn.drewN n') hkt;rw[←hu] at this;exact this);clear hst hv hu hG;obtain rfl|rfl:v=1∨v=2:=by omega
       all_goals
        clear hv0 hv2;go_wp2_with fail
        go_quiet (fail)
        clear hlk;go_wp2_with fail
        refine(HCC.out _).mono ?_;rintro e w' ⟨rfl,hk⟩;go_wp2_with fail
        go_roundw
        case rel=>exact⟨_,k+1,by go_num,by go_num,by omega,by omega,by omega,HS,(hkn.drewN _).trans hk⟩
        case measure=>simp[intOf];omega
     ·have hE:=sumW_end hG.out hc1;have HE:=Qh hE;clear hE hG;by_cases hkt:k≤t
      ·have hs2:¬s<2:=fun x=>hc1 ⟨hkt,x⟩
       clear hc1;go_wp2_with fail
       go_ret;exact⟨by rw[HF.out,HE.out];go_num,hkn⟩
      ·clear hc1;go_wp2_with fail
       go_ret;exact⟨by rw[HF.out,HE.out];go_num,hkn⟩
end Go.Proofs.YtiehgcfckhepaaaGreatDoor
namespace Go.Proofs.YtiehgcfckhepaaaGreatDoor
open Go.RowKit
section
variable {P:Program} {ops:Array Oper} {Q:Exit→Act→World→Prop} {md:Region.Mode} {S:World→Prop} {X:List Nat} {m:Nat}
def WM(m:Nat)(P:Program)(md:Region.Mode)(ops:Array Oper)(Q:Exit→Act→World→Prop)(S:World→Prop):Nat→Array Bool→Act→World→Prop
 |0,l,a,w=>Region.ready md ops l=[]∧Q .normal a w
 |f+1,l,a,w=>(Region.ready md ops l=[]→Q .normal a w)∧
  ∀i∈Region.ready md ops l,wpOp P ops Q i (fun a' w'=>((l.setIfInBounds i true).getD (m) false=false→S w')∧WM m P md ops Q S f (l.setIfInBounds i true) a' w') a w
theorem WM.any:∀(f:Nat) (l:Array Bool) (a:Act) (w:World),WM m P md ops Q S f l a w→wpAny P md ops Q f l a w
 |0,_,_,_,h=>h
 |f+1,_,_,_,h=>⟨h.1,fun i hi=>wpOp_mono (fun a' w' h'=>WM.any f _ a' w' h'.2) (h.2 i hi)⟩
theorem WM.first{T:World→Prop}{i:Nat}{o:Oper}{v:Value}(hi:ops[i]? =some o)(hil:i≠m)(hsel:Region.noSelect ops=true)(hQ:∀c a w,Q (.panic c) (a.put o.dst v) w→Q (.panic c) a w)
  (hT:∀l j w,Closed md ops l→i∈Region.ready md ops l→j∈Region.ready md ops l→j≠i→(((l.setIfInBounds j true).setIfInBounds i true).getD (m) false=false→S w)→T w):∀(f:Nat) (l:Array Bool) (a:Act) (w:World),Closed md ops l→
  (∀j oj,ops[j]? =some oj→j≠i→l.getD j true=false→(∀e∈oj.after,Region.binds md e=true→e.on≠i)→o.apart ops oj=true)→
  i∈Region.ready md ops l→YieldsIf P ops T o v a→T w→((l.setIfInBounds i true).getD (m) false=false→S w)→WM m P md ops Q S f (l.setIfInBounds i true) (a.put o.dst v) w→WM m P md ops Q S (f+1) l a w:=by
 intro f;induction f with
 |zero=>
  intro l a w _ _ hr hy ht hS H;refine⟨fun h=>absurd hr (by rw[h];exact List.not_mem_nil),fun j hj=> ?_⟩;rcases Decidable.em (j=i) with rfl|hne
  ·exact hy.wpOp hi ht ⟨hS,H⟩
  ·exact absurd (ready_mono hj hne) (by rw[H.1];exact List.not_mem_nil)
 |succ f ih=>
  intro l a w hc hfree hr hy ht hS H;refine⟨fun h=>absurd hr (by rw[h];exact List.not_mem_nil),fun j hj=> ?_⟩;rcases Decidable.em (j=i) with rfl|hne
  ·exact hy.wpOp hi ht ⟨hS,H⟩
  obtain⟨hju,oj,hoj,hall⟩:=mem_ready.1 hj;have hno:∀e∈oj.after,Region.binds md e=true→e.on≠i:=fun e he hb heq=>by
   have h1:=hall e he hb;rw[heq,unlisted hr] at h1;cases h1
  have hri:=ready_mono hr (Ne.symm hne);refine wpOp_mono (fun a' w' h3=> ?_) (wpOp_putIf hoj (hfree j oj hoj hne hju hno) (fun cs b=>Region.noSelect_spec hsel i o cs b hi) (fun cs b=>Region.noSelect_spec hsel j oj cs b hoj) hQ hy (H.2 j (ready_mono hj hne)));have hcm:(l.setIfInBounds i true).setIfInBounds j true=(l.setIfInBounds j true).setIfInBounds i true:=Array.setIfInBounds_comm _ _ (Ne.symm hne);obtain⟨hy3,hS3,H3⟩:=h3;rw[hcm] at H3 hS3;refine⟨fun hl=>hS3 ?_,ih _ a' w' (hc.set hj) (fun k ok hk hki hun hno2=>hfree k ok hk hki (by
    rcases Decidable.em (j=k) with e|e
    ·rw[←e];exact hju
    ·rw[getD_set_ne true e] at hun;exact hun) hno2) hri hy3 (hT l j w' hc hr hj hne hS3) hS3 H3⟩
  rw[getD_set_ne false hil];exact hl
theorem WM.take{T:World→Prop}{i:Nat}{o:Oper}{v:Value}{f:Nat}{l:Array Bool}{a:Act}{w:World}(hi:ops[i]? =some o)(hil:(i==m)=false)(hs:Region.noSelect ops=true)(hf:Region.free md ops l i=true)(hr:(Region.ready md ops l).contains i=true)
  (hQ:∀c a w,Q (.panic c) (a.put o.dst v) w→Q (.panic c) a w)
  (hT:∀l j w,Closed md ops l→i∈Region.ready md ops l→j∈Region.ready md ops l→j≠i→(((l.setIfInBounds j true).setIfInBounds i true).getD (m) false=false→S w)→T w)
  (hy:YieldsIf P ops T o v a) (ht:T w) (hS:S w) (H:Closed md ops (l.setIfInBounds i true)→WM m P md ops Q S f (l.setIfInBounds i true) (a.put o.dst v) w) (hc:Closed md ops l):WM m P md ops Q S (f+1) l a w:=
 WM.first hi (by simpa using hil) hs hQ hT f l a w hc (Region.free_spec hi hf) (by simpa using hr) hy ht (fun _=>hS) (H (hc.set (by simpa using hr)))
end
open Go.RowKit Go.Maps
theorem PrAt.prod{w:World}{B:Nat}{v:Value}{l:List PR}{vs:List Value}(h:PrAt w B v l vs):∃a c,v= .slice a l.length c∧(l≠[]→∃g,a=some ⟨g,0,none⟩∧
  ∀k (hk:k<l.length),w.cell? ⟨g,k*3,none⟩=some (.int .i64 (l[k].place:Nat))∧w.cell? ⟨g,k*3+1,none⟩=some (.int .i64 (l[k].rule:Nat))∧∃asy cs,w.cell? ⟨g,k*3+2,none⟩=some (.slice asy l[k].syms.length cs)∧l[k].syms.length≤cs∧cs≤maxLen∧
   (l[k].syms≠[]→∃gs,asy=some ⟨gs,0,none⟩∧SyR w gs 0 l[k].syms∧∃cur,w.heap[gs]? =some (.cells cur TSy (0,0)))):=by
 obtain⟨a,c,hv,_,_,hg⟩:=h.row.row (fun C hC=>by obtain⟨i,hi,rfl⟩:=List.getElem_of_mem hC;simp[prL]);have hlen:=h.len;rw[List.length_zipWith,hlen,Nat.min_self] at hv;refine⟨a,c,hv,fun hne=> ?_⟩;obtain⟨g,ha,_,_,hc⟩:=hg (fun e=>hne (by have h2:=congrArg List.length e;rw[List.length_zipWith,hlen,Nat.min_self] at h2;exact List.eq_nil_of_length_eq_zero h2));refine⟨g,ha,fun k hk=> ?_⟩;have hc3:=hc k (by rw[List.length_zipWith,hlen,Nat.min_self];exact hk);have e0:=(hc3 0 (by omega)).1;have e1:=(hc3 1 (by omega)).1;have e2:=(hc3 2 (by omega)).1;rw[show 0+3*k+0=k*3 by omega] at e0;rw[show 0+3*k+1=k*3+1 by omega] at e1;rw[show 0+3*k+2=k*3+2 by omega] at e2;obtain⟨asy,cs,hvs,h1,h2,h3⟩:=SyS.of (h.syms k (by omega) hk);refine⟨by rw[e0];simp[prL],by rw[e1];simp[prL],asy,cs,by rw[e2];simp[prL,hvs],h1,h2,h3⟩
section
variable {w w':World} {B p st n gz gb cz cb:Nat} {l:List PR} {vl:Value} {vls:List Value} {z b:List Int}
end
structure LUk (n:Nat) (l:List PR):Prop where
 nn:n≤1000000
 ll:l.length≤60000
 pp:∀q∈l,q.place<n∧q.syms.length≤1000000∧∀y∈q.syms,y.place=true→0≤y.n∧y.n<n
def NK(M:Yk)(tx:List Int)(z:Nat)(l:List PR)(i:Nat):Yk:=(l.take i).foldl (nextP M tx z) []
def NI(M:Yk)(tx:List Int)(z:Nat)(p:PR)(N:Yk)(k:Nat):Yk:=(List.range k).foldl (nextS M tx z p) N
theorem NK_succ(M:Yk)(tx:List Int)(z:Nat)(l:List PR)(i:Nat)(h:i<l.length):NK M tx z l (i+1)=nextP M tx z (NK M tx z l i) l[i]:=by
 unfold NK;rw[List.take_succ_eq_append_getElem h,List.foldl_append];try rfl
theorem NI_succ(M:Yk)(tx:List Int)(z:Nat)(p:PR)(N:Yk)(k:Nat):NI M tx z p N (k+1)=nextS M tx z p (NI M tx z p N k) k:=by
 unfold NI;rw[List.range_succ,List.foldl_append];try rfl
def le2(N:Yk):Prop:=∀k,Qv N k≤2
theorem le2.nextS{M N:Yk}(h:le2 N)(tx:List Int)(z:Nat)(p:PR)(k:Nat):le2 (nextS M tx z p N k):=by
 intro q;unfold Go.Proofs.YtiehgcfckhepaaaGreatDoor.nextS;split
 ·rw[getT_putT];split
  ·omega
  ·exact h q
 ·exact h q
theorem le2.NI{M N:Yk}(h:le2 N)(tx:List Int)(z:Nat)(p:PR)(k:Nat):le2 (NI M tx z p N k):=
 foldl_ok (P:=le2) (fun b a hb=>hb.nextS tx z p a) _ _ h
theorem le2.NK{M:Yk}(tx:List Int)(z:Nat)(l:List PR)(i:Nat):le2 (NK M tx z l i):=
 foldl_ok (P:=le2) (fun b a hb=>hb.NI tx z a _) _ _ (fun _=>by simp[getT_nil])
def overG(M N L:Yk)(k:RN):Nat:=if 0<Qv L k then Qv M k else if 0<Qv N k then Qv N k else Qv M k
def moreG(M m L:Yk):Bool:=m.any (fun p=>decide (Qv L p.1=0)&&decide (Qv M p.1≠p.2))
theorem getT_cut{La Lb:Yk}{q:RN×Nat}(h:((La++q::Lb).map (·.1)).Nodup)(k:RN):Qv (La++Lb) k=if q.1=k then 0 else Qv (La++q::Lb) k:=by
 induction La with
 |nil=>
  rw[List.nil_append,List.nil_append,Yu];rw[List.nil_append,List.map_cons,List.nodup_cons] at h;by_cases e:q.1=k
  ·rw[if_pos e];exact getT_none (fun p hp e2=>h.1 (by rw[e,←e2];exact List.mem_map_of_mem hp))
  ·rw[if_neg e,if_neg e]
 |cons a La ih=>
  rw[List.cons_append,List.cons_append,Yu,Yu];rw[List.cons_append,List.map_cons,List.nodup_cons] at h;rw[ih h.2];by_cases e:a.1=k
  ·rw[if_pos e];have hne:¬q.1=k:=fun e2=>h.1 (by rw[e,←e2];exact List.mem_map_of_mem (List.mem_append_right _ List.mem_cons_self))
   rw[if_neg hne];simp[e]
  ·rw[if_neg e,if_neg e]
theorem getT_mid{La Lb:Yk}{q:RN×Nat}(h:((La++q::Lb).map (·.1)).Nodup):Qv (La++q::Lb) q.1=q.2:=getT_mem h (List.mem_append_right _ List.mem_cons_self)
section
variable {M m La Lb:Yk} {q:RN×Nat}
theorem overG_all(hm:TOk m)(k:RN):overG M m m k=Qv M k:=by unfold overG;split<;>rfl
theorem overG_cut(hm:TOk m)(hs:(La++q::Lb).Sublist m)(k:RN):overG M m (La++Lb) k=if q.1=k then q.2 else overG M m (La++q::Lb) k:=by
 have hn:=hm.nd.sublist (hs.map _);unfold overG;rw[getT_cut hn];have hq:q∈m:=hs.subset (List.mem_append_right _ List.mem_cons_self);by_cases e:q.1=k
 ·subst e;rw[if_pos rfl,if_pos rfl,if_neg (Nat.lt_irrefl _),getT_mem hm.nd hq,if_pos (hm.pos _ hq)]
 ·rw[if_neg e,if_neg e]
theorem overG_at(hm:TOk m)(hs:(La++q::Lb).Sublist m):overG M m (La++q::Lb) q.1=Qv M q.1:=by
 have hq:q∈m:=hs.subset (List.mem_append_right _ List.mem_cons_self);unfold overG;rw[getT_mid (hm.nd.sublist (hs.map _)),if_pos (hm.pos _ hq)]
theorem moreG_all(hm:TOk m):moreG M m m=false:=by
 unfold moreG;rw[List.any_eq_false];intro p hp;rw[getT_mem hm.nd hp];have:=hm.pos p hp;simp;omega
theorem moreG_cut(hm:TOk m)(hs:(La++q::Lb).Sublist m):moreG M m (La++Lb)=(moreG M m (La++q::Lb)||decide (Qv M q.1≠q.2)):=by
 have hn:=hm.nd.sublist (hs.map _);have hq:q∈m:=hs.subset (List.mem_append_right _ List.mem_cons_self);unfold moreG;rw[Bool.eq_iff_iff];simp only[List.any_eq_true,Bool.and_eq_true,decide_eq_true_eq,Bool.or_eq_true];constructor
 ·rintro⟨p,hp,h1,h2⟩;rw[getT_cut hn] at h1;by_cases e:q.1=p.1
  ·have hpq:p.2=q.2:=by rw[←getT_mem hm.nd hp,←getT_mem hm.nd hq,e]
   exact .inr (by rw[e,←hpq];exact h2)
  ·rw[if_neg e] at h1;exact .inl ⟨p,hp,h1,h2⟩
 ·rintro(⟨p,hp,h1,h2⟩|h)
  ·refine⟨p,hp,?_,h2⟩;rw[getT_cut hn];split
   ·rfl
   ·exact h1
  ·exact⟨q,hq,by rw[getT_cut hn,if_pos rfl],h⟩
theorem moreG_nil{N:Yk}(hm:TOk m)(hN:TOk N)(he:∀k,Qv m k=Qv N k):moreG M m []=N.any (fun p=>decide (Qv M p.1≠p.2)):=by
 have key:∀ {A B:Yk},TOk A→TOk B→(∀k,Qv A k=Qv B k)→∀p∈A,p∈B:=fun {A B} hA hB he p hp=>by
  have h1:=getT_mem hA.nd hp;rw[he] at h1;have:=getT_pos (m:=B) (k:=p.1) (by rw[h1];exact hA.pos p hp);rw[h1] at this;exact this
 unfold moreG;rw[Bool.eq_iff_iff];simp only[List.any_eq_true,Bool.and_eq_true,decide_eq_true_eq,getT_nil,true_and];constructor
 ·rintro⟨p,hp,h⟩;exact⟨p,key hm hN he p hp,h⟩
 ·rintro⟨p,hp,h⟩;exact⟨p,key hN hm (fun k=>(he k).symm) p hp,h⟩
end
def RgT(w:World)(b r:Nat)(m L:Yk):Prop:=RangB w TRn b r (m.map kvN) (L.map kvN)
theorem RgT.kp{w w':World}{b r:Nat}{m L:Yk}{S:Nat→Prop}(h:RgT w b r m L)(hk:Kp S w w')(h1:¬S b)(h2:¬S r):RgT w' b r m L:=RangB.kp h hk h1 h2
theorem wpList_nextT{w:World}{b r:Nat}{m L:Yk}{ops:Array Oper}{rest:List Oper}{o:Oper}{a:Act}{Q:Exit→Act→World→Prop}(hg:o.guard=none)(it:Operand)(hop:o.op=Op.next it false)(hit:a.eval it= .pointer (some ⟨r,0,none⟩))(h:RgT w b r m L)
  (hDone:Hid (L=[])→wpList Tryz.prog ops Q rest (a.put o.dst (.tuple #[.bool false])) w)
  (hMore:∀(x y z v:Nat) (La Lb:Yk) (w':World),Hid (L=La++((x,y,z),v)::Lb)→Hid (RgT w' b r m (La++Lb))→Hid (K1 r w w')→
   (Instr.entry (.pointer (some ⟨r,0,none⟩))).run Tryz.prog w'= .ok (.tuple #[.agg #[.int .i64 (x:Nat),.int .i64 (y:Nat),.int .i64 (z:Nat)],.int .i64 (v:Nat)]) w'→
   wpList Tryz.prog ops Q rest (a.put o.dst (.tuple #[.bool true,.agg #[.int .i64 (x:Nat),.int .i64 (y:Nat),.int .i64 (z:Nat)],.int .i64 (v:Nat)])) w'):wpList Tryz.prog ops Q (o::rest) a w:=by
 refine wpList_nextB hg it hop hit h (fun e=>hDone (Qh (List.map_eq_nil_iff.1 e))) (fun p L1 L2 w' hL _ hr hk hen=> ?_);obtain⟨La,L',rfl,rfl,h2⟩:=List.map_eq_append_iff.1 hL;obtain⟨q,Lb,rfl,rfl,rfl⟩:=List.map_eq_cons_iff.1 h2;obtain⟨⟨x,y,z⟩,v⟩:=q;rw[←List.map_append] at hr;exact hMore x y z v La Lb w' (Qh rfl) (Qh hr) (Qh hk) hen
structure PrsOk (l:List PR):Prop where
 len:l.length≤60000
 place:∀p∈l,p.place≤1000000
 sl:∀p∈l,p.syms.length≤1000000
 sy:∀p∈l,∀y∈p.syms,y.place=true→0≤y.n∧y.n≤1000000
theorem cagain_c{B pc ps:Nat}{l:List PR}{vl:Value}{vls:List Value}{tx:List Int}{gt:Option Addr}{ct bt:Nat}{M:Yk}{w:World}(hM:le2 M)(htl:tx.length≤1000)(z:Nat)(hz:z≤tx.length)
  (h:ChAt w B pc ps l vl vls tx gt ct bt (Qv M)) (ok:PrsOk l):
  Calls Tryz.prog 71 #[ptr pc,.int .i64 z] w fun e w'=>e= .returned (.bool (againF l tx z M).2)∧TrAt w' bt (Qv (againF l tx z M).1)∧Kp (fun j=>j=bt) w w':=by
 have hmm:= @run_makeMap Tryz.prog;obtain⟨av,cv,hvl,_⟩:=h.pr.row.row (fun C hC=>by obtain⟨i,hi,rfl⟩:=List.getElem_of_mem hC;simp[prL]);have hlz:(List.zipWith prL l vls).length=l.length:=by rw[List.length_zipWith,h.pr.len,Nat.min_self]
 rw[hlz] at hvl;subst hvl;have q1:w.cell? ⟨pc,1,none⟩=some (.slice av l.length cv):=by rw[Qa h.blk];try rfl
 have q2:w.cell? ⟨pc,2,none⟩=some (.slice gt tx.length ct):=by rw[Qa h.blk];try rfl
 have q3:w.cell? ⟨pc,3,none⟩=some (.map (some bt)):=by rw[Qa h.blk];try rfl
 have hpl:=h.lt;have hb:=h.tr.lt;have H:=Qh h;have HM:=Qh hM;have HOK:=Qh ok;obtain⟨n,hn⟩:∃n,n=l.length:=⟨_,rfl⟩;have hn6:=ok.len;rw[←hn] at q1 hn6;have HN:=Qh hn;clear h hM ok hlz hn;go_enter Tryz.func71,Tryz.ntmps71;go_upto_region 2 with fail
 obtain⟨w1,hw1⟩:∃z,z=w.alloc (.map #[] 0):=⟨_,rfl⟩;obtain⟨bn,hbn⟩:∃z,z=w.heap.size:=⟨_,rfl⟩;have hk1:Kn w w1:=by rw[hw1];exact(Qb _ _).alloc _
 have HT1:Hid (TrAt w1 bn (Qv [])):=Qh (by rw[hw1,hbn];exact TrAt.new w);rw[←hw1,←hbn];have HBN:Hid (w.heap.size≤bn):=Qh (by omega);have x1:=Qc hk1 q1;have x2:=Qc hk1 q2;have x3:=Qc hk1 q3;have HK1:=Qh hk1;clear hw1 hbn hk1 hmm;go_wp2_with fail
 have hzi:(z:Int)≤(tx.length:Int):=by omega
 have hti:(tx.length:Int)≤1000:=by omega
 go_loopw [20] (fun s20 wr=>∃i:Nat,s20= .int .i64 i∧i≤n∧Hid (TrAt wr bn (Qv (NK M tx z l i)))∧Hid (Kn w wr)) (fun s20 _=>n-(intOf s20).toNat)
 case atStart=>exact⟨0,rfl,Nat.zero_le _,HT1,HK1⟩
 case round=>
  clear x1 x2 x3 HT1 HK1;obtain⟨i,rfl,hi,HT,HKN⟩:=hrel;obtain⟨wo,rfl⟩:∃z,z=wr:=⟨_,rfl⟩;have x2:=Qc HKN.out q2;have x3:=Qc HKN.out q3;by_cases hlt:i<n
  ·have hlt':i<l.length:=by have:=HN.out;omega
   obtain⟨ar,cr,hv2,hgr⟩:=H.out.pr.prod;obtain⟨rfl,rfl⟩:av=ar∧cv=cr:=by injection hv2 with e1 e2 e3;exact⟨e1,e3⟩
   obtain⟨g,rfl,hcs⟩:=hgr (fun e=>by rw[e] at hlt';simp at hlt');obtain⟨c0,c1,asy,cs,c2,hcs1,hcs2,hsy⟩:=hcs i hlt';have c0:=Qc HKN.out c0;have c1:=Qc HKN.out c1;have c2:=Qc HKN.out c2;have hok1:=HOK.out.place _ (List.getElem_mem hlt');have hok2:=HOK.out.sl _ (List.getElem_mem hlt');have hok3:=HOK.out.sy _ (List.getElem_mem hlt');have HNS:=Qh (NK_succ M tx z l i hlt');obtain⟨pr,hpr⟩:∃p,p=l[i]:=⟨_,rfl⟩;rw[←hpr] at c0 c1 c2 hcs1 hsy hok1 hok2 hok3 HNS;have hlz:∀k,k+z≤tx.length→∀W,Kn w W→Calls Tryz.prog 117 #[ptr pc,.slice asy pr.syms.length cs,.int .i64 k,.int .i64 ((k:Int)+(z:Int))] W fun e w'=>e= .returned (.int .i64 (Ys M tx pr.syms k (k+z):Nat))∧Kn W w':=fun k hk W hW=>by
    have:=ways_c HM.out htl pr.syms asy cs k (k+z) W (H.out.kn hW) (fun hne=>by
     obtain⟨gs,hgs,hr,_⟩:=hsy hne;exact⟨gs,0,hgs,fun j hj=>⟨Qc hW (hr j hj).1,Qc hW (hr j hj).2⟩⟩) hcs1 hcs2 (by omega) hk hok3 hok2
    rwa[show((k:Int)+(z:Int))=((k+z:Nat):Int) by omega]
   have HWC:=Qh hlz;have HL2:Hid (∀k,le2 (NI M tx z pr (NK M tx z l i) k)):=Qh (fun k=>(le2.NK (M:=M) tx z l i).NI (M:=M) tx z pr k);have HP1:=Qh hok1;obtain⟨N,hN⟩:∃N,N=NK M tx z l i:=⟨_,rfl⟩;rw[←hN] at HT HNS HL2;obtain⟨w2,hw2⟩:∃z,z=wo.alloc (.cells #[.int .i64 (pr.place:Nat),.int .i64 (pr.rule:Nat),.slice asy pr.syms.length cs] TPr):=⟨_,rfl⟩;obtain⟨b7,hb7⟩:∃z,z=wo.heap.size:=⟨_,rfl⟩;have hk2:Kn wo w2:=by rw[hw2];exact(Qb _ _).alloc _
   have hB7:w2.heap[b7]? =some (.cells #[.int .i64 (pr.place:Nat),.int .i64 (pr.rule:Nat),.slice asy pr.syms.length cs] TPr (0,0)):=by rw[hw2,hb7];exact Qf _ _
   have y0:w2.cell? ⟨b7,0,none⟩=some (.int .i64 (pr.place:Nat)):=by rw[Qa hB7];try rfl
   have y2:w2.cell? ⟨b7,2,none⟩=some (.slice asy pr.syms.length cs):=by rw[Qa hB7];try rfl
   have hbb:¬b7=bn:=fun e=>by have:=HT.out.lt;omega
   have HT2:=Qh (HT.out.kn hk2);have HKN2:=Qh (HKN.out.trans hk2);have HW2:=Qh (And.intro hw2 hb7);have hlb7:=Ql hB7;have hgl:=World.block_lt_of_cell? _ _ c0;have x22:=Qc hk2 x2;clear hv2 hgr hcs hsy hlz hok1 hok2 hok3 hw2 hb7 hk2 hB7 hcs1 hcs2 hN hpr HT HKN;go_upto_region 5 with fail
   rw[←HW2.out.1,←HW2.out.2];clear c0 c1 c2 x2 x3;go_wp2_with fail
   go_loopw [8] (fun s8 wi=>∃k:Nat,s8= .int .i64 k∧k≤tx.length+1-z∧Hid (TrAt wi bn (Qv (NI M tx z pr N k)))∧Hid (K1 bn w2 wi)) (fun s8 _=>tx.length+1-z-(intOf s8).toNat)
   case atStart=>exact⟨0,rfl,Nat.zero_le _,HT2,Qh (Qb _ _)⟩
   case round=>
    clear HT2;obtain⟨k,rfl,hk,HT,HK⟩:=hrel;have hkw:Kn w wr:=HKN2.out.trans' HK.out (fun j hj e=>by have:=HBN.out;omega);have x2:=Qc hkw q2;have z0:=Qi HK.out y0 hbb;have z2:=Qi HK.out y2 hbb;have HKW:=Qh hkw;by_cases hkl:k+z≤tx.length
    ·have hw2:=waysF_le M tx pr.syms k (k+z);have hle:=HL2.out k (pr.place,k,k+z);have HC:=Qh (HWC.out k hkl wr hkw);have HNI:=Qh (NI_succ M tx z pr N k);obtain⟨N',hN'⟩:∃X,X=NI M tx z pr N k:=⟨_,rfl⟩;obtain⟨u,hu⟩:∃u,u=Ys M tx pr.syms k (k+z):=⟨_,rfl⟩;obtain⟨v0,hv0⟩:∃v,v=Qv N' (pr.place,k,k+z):=⟨_,rfl⟩;have HNS':Hid (nextS M tx z pr N' k=if 0<u then putT N' (pr.place,k,k+z) (min (v0+u) 2) else N'):=Qh (by rw[hu,hv0];try rfl);rw[←hN'] at HNI HT hle;rw[←hu] at HC hw2;rw[←hv0] at hle;have HV0:=Qh hv0;clear hu hv0 hN' hkw;by_cases hu0:u=0
     ·subst hu0;have HE:Hid (NI M tx z pr N (k+1)=N'):=Qh (by rw[HNI.out,HNS'.out];try rfl);clear hw2;go_wp2_with fail
      refine HC.out.mono ?_;rintro e w4 ⟨rfl,hk4⟩;have HK4:=Qh hk4;clear hk4;go_wp2_with fail
      go_roundw
      case rel=>exact⟨k+1,by go_num,by omega,Qh (by rw[HE.out];exact HT.out.kn HK4.out),Qh (HK.out.trans (Kp.weak HK4.out))⟩
      case measure=>simp[intOf];omega
     ·have hup:0<u:=by omega
      have hupi:(0:Int)<(u:Int):=by omega
      have HE:Hid (NI M tx z pr N (k+1)=putT N' (pr.place,k,k+z) (min (v0+u) 2)):=Qh (by rw[HNI.out,HNS'.out,if_pos hup]);clear hu0;go_wp2_with fail
      refine HC.out.mono ?_;rintro e w4 ⟨rfl,hk4⟩;have z04:=Qc hk4 z0;have HK4:=Qh hk4;obtain⟨w5,hw5⟩:∃x5,x5=w4.alloc (.cells #[.int .i64 (pr.place:Nat),.int .i64 (k:Nat),.int .i64 ((k:Int)+(z:Int))] TRn):=⟨_,rfl⟩;obtain⟨b10,hb10⟩:∃z,z=w4.heap.size:=⟨_,rfl⟩;have hk5:Kn w4 w5:=by rw[hw5];exact(Qb _ _).alloc _
      have hB10:w5.heap[b10]? =some (.cells #[.int .i64 (pr.place:Nat),.int .i64 (k:Nat),.int .i64 ((k:Int)+(z:Int))] TRn (0,0)):=by rw[hw5,hb10];exact Qf _ _
      have e0:w5.cell? ⟨b10,0,none⟩=some (.int .i64 (pr.place:Nat)):=by rw[Qa hB10];try rfl
      have e1:w5.cell? ⟨b10,1,none⟩=some (.int .i64 (k:Nat)):=by rw[Qa hB10];try rfl
      have e2:w5.cell? ⟨b10,2,none⟩=some (.int .i64 ((k:Int)+(z:Int))):=by rw[Qa hB10];try rfl
      have HW5:=Qh (And.intro hw5 hb10);have HK5:=Qh (hk4.trans hk5);have HT5:=Qh (HT.out.kn (hk4.trans hk5));clear hk4 hw5 hb10 hk5 hB10;go_upto_region 11 with fail
      rw[←HW5.out.1,←HW5.out.2];have hcast:rkV (pr.place,k,k+z)= .agg #[.int .i64 (pr.place:Nat),.int .i64 (k:Nat),.int .i64 ((k:Int)+(z:Int))]:=by unfold rkV;dsimp only;rw[Int.natCast_add]
      have hq:okN (pr.place,k,k+z):=⟨HP1.out,by dsimp only;omega,by dsimp only;omega⟩;have HLK:Hid (∀W,TrAt W bn (Qv N')→(Instr.lookup 152 (.map (some bn)) (.agg #[.int .i64 (pr.place:Nat),.int .i64 (k:Nat),.int .i64 ((k:Int)+(z:Int))]) false).run Tryz.prog W= .ok (.int .i64 (v0:Nat)) W):=Qh (fun W hW=>by have:=hW.look hq;rw[hcast,←HV0.out] at this;exact this);have HPU:Hid (∀W,TrAt W bn (Qv N')→∃w',(Instr.mapUpdate 152 (.map (some bn)) (.agg #[.int .i64 (pr.place:Nat),.int .i64 (k:Nat),.int .i64 ((k:Int)+(z:Int))]) (.int .i64 (min ((v0:Int)+(u:Int)) 2))).run Tryz.prog W= .ok () w'∧TrAt w' bn (Qv (putT N' (pr.place,k,k+z) (min (v0+u) 2)))∧K1 bn W w'):=Qh (fun W hW=>by
       obtain⟨w',h1,h2,h3⟩:=hW.put hq (v:=min (v0+u) 2) (by omega);rw[hcast,show((min (v0+u) 2:Nat):Int)=min ((v0:Int)+(u:Int)) 2 by omega] at h1;exact⟨w',h1,h2.congr (fun q=>(getT_putT _ _ _ _).symm),h3⟩)
      have hwr:IntKind.i64.wrap ((v0:Int)+(u:Int))=(v0:Int)+(u:Int):=IntWalk.i64_in _ (by omega);clear hcast hq;refine rgn (fun w'=>w'.cell? ⟨b10,0,none⟩=some (.int .i64 (pr.place:Nat))∧w'.cell? ⟨b10,1,none⟩=some (.int .i64 (k:Nat))∧w'.cell? ⟨b10,2,none⟩=some (.int .i64 ((k:Int)+(z:Int)))∧TrAt w' bn (Qv N')) (X:=[]) ⟨Qc ((Qb _ _).drew) e0,Qc ((Qb _ _).drew) e1,Qc ((Qb _ _).drew) e2,HT5.out.kn ((Qb _ _).drew)⟩ (fun hX hHeld=> ?_);refine tw 0 52 ?_;refine tk 1 53 ?_;refine tw 2 54 ?_;refine tk 3 55 ?_;refine tk 4 56 ?_ (hy:=by(intro w hSw;obtain⟨hs1,hs2,hs3,hs4⟩:=hSw;have hlk:=HLK.out w hs4;go_simp;try with_reducible rfl));refine tw 5 57 ?_;refine tw 6 58 ?_;refine ro 7 (fun K hK=> ?_);go_simp;refine hK.out _ _ hHeld (fun hHeld=> ?_);clear hK K
      try simp only[PP]
      refine re 8 (fun K hK=> ?_);obtain⟨w6,hw6⟩:∃x,x=w5.drew:=⟨_,rfl⟩;rw[←hw6] at hHeld⊢;have hk6:Kn w5 w6:=by rw[hw6];exact(Qb _ _).drew
      clear hw6;obtain⟨w7,hr7,ht7,hk7⟩:=HPU.out w6 hHeld.2.2.2;go_simp;refine hK.out _ _ ?_;have HT7:=Qh ht7;have HK7:=Qh ((HK.out.trans (Kp.weak (HK5.out.trans hk6))).trans hk7);clear hK K hHeld hr7 ht7 hk7 hk6 hwr;go_wp2_with fail
      go_roundw
      case rel=>exact⟨k+1,by go_num,by omega,Qh (by rw[HE.out];exact HT7.out),HK7⟩
      case measure=>simp[intOf];omega
    ·obtain rfl:k=tx.length+1-z:=by omega
     have HE:Hid (NK M tx z l (i+1)=NI M tx z pr N (tx.length+1-z)):=Qh HNS.out;have hkl2:¬((tx.length+1-z:Nat):Int)+(z:Int)≤(tx.length:Int):=by omega
     obtain⟨ke,hke⟩:∃ke,ke=tx.length+1-z:=⟨_,rfl⟩;rw[←hke] at HT HE hkl2⊢;have hke2:(ke:Int)≤1001:=by omega
     clear hke hkl hk hkw;go_wp2_with fail
     go_roundw
     case rel=>exact⟨i+1,by go_num,by omega,Qh (by rw[HE.out];exact HT.out),HKW⟩
     case measure=>simp[intOf];omega
  ·obtain rfl:i=n:=by omega
   have hNF:NK M tx z l i=nextF l tx z M:=by unfold NK nextF;rw[HN.out,List.take_length]
   rw[hNF] at HT;obtain⟨m,hmb,hmok,hmg,hmo⟩:=HT.out;have HMB:=Qh hmb;have HMK:=Qh hmok;have HMG:=Qh hmg;have HMO:=Qh hmo;have HBT:=Qh ((H.out.tr).kn HKN.out);have hbl:=HMB.out.a.lt;have hpl2:=HKN.out.lt hpl;have hbt2:=HKN.out.lt hb;have hbne:¬bn=bt:=fun e=>by have:=HBN.out;omega
   obtain⟨r,hr⟩:∃r,r=wo.heap.size:=⟨_,rfl⟩;have HR:=Qh hr;clear hmb hmok hmg hmo hNF x2 hlt hi;go_wp2_with (at_range;refine wpList_rangeB rfl (.tmp 61) rfl Tryz.underlying152 rfl HMB.out ?_;intro w0 hr0 hk0)
   go_frame
   rw[←HR.out] at hr0⊢;have HR0:Hid (RgT w0 bn r m m):=Qh hr0;have HK0:=Qh hk0;clear hr0 hk0 hr;go_loopg [11] (m.length+1) (fun f s11 wq=>∃(L:Yk) (mo:Bool),s11= .bool mo∧Hid (RgT wq bn r m L)∧Hid (L.Sublist m)∧L.length<f∧Hid (TrAt wq bt (overG M m L))∧Hid (mo=moreG M m L)∧Hid (Kp (fun j=>j=bt) wo wq))
   case atStart=>exact⟨m,false,rfl,HR0,Qh (List.Sublist.refl _),by omega,Qh ((HBT.out.kn HK0.out).congr (fun k=>(overG_all HMK.out k).symm)),Qh (moreG_all HMK.out).symm,Qh HK0.out.weak⟩
   case round=>
    clear HR0 HK0;obtain⟨L,mo,rfl,hR,hS,hf,hT,hmo,hK⟩:=hrel;go_wp2_with (at_next;refine wpList_nextT rfl (.tmp 62) rfl rfl hR.out ?_ ?_)
    ·intro HL;go_wp2_with fail
     go_ret;have hm2:=hmo.out;rw[HL.out,moreG_nil HMK.out (nextF_ok l tx z M) HMG.out] at hm2;refine⟨by rw[hm2];try rfl,?_,HKN.out.weak.trans hK.out⟩;have ht:=hT.out;rw[HL.out] at ht;exact ht.congr (fun k=>by unfold overG againF;dsimp only;rw[getT_over _ _ (nextF_ok l tx z M),getT_nil,if_neg (Nat.lt_irrefl _)];try rw[HMG.out])
    ·intro x y zz v La Lb w1 HL HR1 HK1 hen;have hSS:=hS.out;rw[HL.out] at hSS;have hqm:((x,y,zz),v)∈m:=hSS.subset (List.mem_append_right _ List.mem_cons_self);have hvp:0<v:=HMK.out.pos _ hqm;have hoq:okN (x,y,zz):=HMO.out _ hqm;have hlen:(La++Lb).length+1=L.length:=by rw[HL.out,List.length_append,List.length_append,List.length_cons];omega
     obtain⟨fu,rfl⟩:∃fu,gk=fu+1:=⟨gk-1,by omega⟩;have hat:=overG_at (M:=M) HMK.out hSS;have hct:=overG_cut (M:=M) HMK.out hSS;have hmc:=moreG_cut (M:=M) HMK.out hSS;rw[←HL.out] at hat hct hmc;rw[←hmo.out] at hmc;have hv2:=HM.out (x,y,zz);dsimp only at hat hct hmc;have HS2:Hid ((La++Lb).Sublist m):=Qh ((List.Sublist.append_left (List.sublist_cons_self _ Lb) La).trans hSS);have hbr:¬bt=r:=fun e=>by have:=hR.out.lt.1;have:=HR.out;omega
     have hT1:=hT.out.kp HK1.out hbr;have HKW1:Hid (Kp (fun j=>j=bt) wo w1):=Qh (hK.out.trans' HK1.out (fun j hj e=>by have:=HR.out;omega));have p3:=Qi HKW1.out x3 (fun e=>by have h8:=H.out.blk;obtain⟨es,cc,h9⟩:=H.out.tr.mapBlk;rw[show pc=bt from e] at h8;rw[h9] at h8;cases h8);obtain⟨v0,hv0⟩:∃v0,v0=Qv M (x,y,zz):=⟨_,rfl⟩;rw[←hv0] at hat hmc hv2;obtain⟨w3,hw3⟩:∃x5,x5=w1.alloc (.cells #[.int .i64 (x:Nat),.int .i64 (y:Nat),.int .i64 (zz:Nat)] TRn):=⟨_,rfl⟩;obtain⟨b12,hb12⟩:∃x5,x5=w1.heap.size:=⟨_,rfl⟩;have hk3:Kn w1 w3:=by rw[hw3];exact(Qb _ _).alloc _
     have hB12:w3.heap[b12]? =some (.cells #[.int .i64 (x:Nat),.int .i64 (y:Nat),.int .i64 (zz:Nat)] TRn (0,0)):=by rw[hw3,hb12];exact Qf _ _
     have e0:w3.cell? ⟨b12,0,none⟩=some (.int .i64 (x:Nat)):=by rw[Qa hB12];try rfl
     have e1:w3.cell? ⟨b12,1,none⟩=some (.int .i64 (y:Nat)):=by rw[Qa hB12];try rfl
     have e2:w3.cell? ⟨b12,2,none⟩=some (.int .i64 (zz:Nat)):=by rw[Qa hB12];try rfl
     have p33:=Qc hk3 p3;have HW3:=Qh (And.intro hw3 hb12);have HT3:=Qh (hT1.kn hk3);have HR3:=Qh (HR1.out.kp (S:=fun _=>False) hk3 (fun x=>x) (fun x=>x));have HKW3:=Qh (HKW1.out.trans (Kp.weak hk3));have HMC:=Qh hmc;have HCT:=Qh hct;have HVP:=Qh hvp;have HOQ:=Qh hoq;have hlk:∀nn,(Instr.lookup 152 (.map (some bt)) (.agg #[.int .i64 (x:Nat),.int .i64 (y:Nat),.int .i64 (zz:Nat)]) false).run Tryz.prog (w3.drewN nn)= .ok (.int .i64 (v0:Nat)) (w3.drewN nn):=fun nn=>by
      have:=(HT3.out.kn ((Qb _ _).drewN nn)).look HOQ.out;rw[hat] at this;exact this
     have HAT:=Qh hat;clear hSS hqm hvp hoq hat hct hmc hv0 hbr hT1 hw3 hb12 hk3 hB12;go_upto_region 17 with fail
     rw[←HW3.out.1,←HW3.out.2];clear p3 hen;go_quiet (fail)
     clear hlk;by_cases hvv:v0=v
     ·subst hvv;go_wp2_with fail
      go_roundg fu
      case measure=>omega
      case rel=>exact⟨La++Lb,mo,rfl,Qh (HR3.out.kp (S:=fun _=>False) ((Qb _ _).drewN _) (fun x=>x) (fun x=>x)),HS2,by omega,Qh ((HT3.out.kn ((Qb _ _).drewN _)).congr (fun k=>by rw[HCT.out k];split<;>first|rfl|(rename_i e;rw[←e,HAT.out]))),Qh (by rw[HMC.out];simp),Qh (HKW3.out.trans (Kp.weak ((Qb _ _).drewN _)))⟩
     ·have hne:((v0:Int)!=(v:Int))=true:=by simp;omega
      have hne2:((v0:Int)==(v:Int))=false:=by simp;omega
      have HNE:=Qh hvv;clear hvv;go_upto_region 18 with fail
      obtain⟨w4,hw4⟩:∃x5,x5=(w3.drewN nq).drew:=⟨_,rfl⟩;have hk4:Kn w3 w4:=by rw[hw4];exact((Qb _ _).drewN _).drew
      have HT4:=Qh (HT3.out.kn hk4);have HR4:=Qh (HR3.out.kp (S:=fun _=>False) hk4 (fun x=>x) (fun x=>x));have HKW4:=Qh (HKW3.out.trans (Kp.weak hk4));have hpb:¬pc=bt:=fun e=>by have h8:=H.out.blk;obtain⟨es,cc,h9⟩:=H.out.tr.mapBlk;rw[e] at h8;rw[h9] at h8;cases h8
      have hbb:¬b12=bt:=fun e=>by have:=HT3.out.mapBlk;obtain⟨es,cc,h9⟩:=this;rw[←e] at h9;have h8:=e0;unfold World.cell? at h8;rw[h9] at h8;simp at h8
      obtain⟨w5,w6,st,uu,hr5,hk5,hr6,hk6,ht6⟩:=HT4.out.entry HOQ.out HVP.out;unfold rkV at hr5;dsimp only at hr5;have HK56:=Qh (hk5.trans hk6);have HT6:=Qh ht6;have HK5:=Qh hk5;have HK6:=Qh hk6;clear hk5 hk6 ht6;refine rgn (fun w'=>w'.cell? ⟨pc,3,none⟩=some (.map (some bt))∧w'.cell? ⟨b12,0,none⟩=some (.int .i64 (x:Nat))∧w'.cell? ⟨b12,1,none⟩=some (.int .i64 (y:Nat))∧w'.cell? ⟨b12,2,none⟩=some (.int .i64 (zz:Nat))) (X:=[]) (by rw[←hw4];exact⟨Qc hk4 p33,Qc hk4 e0,Qc hk4 e1,Qc hk4 e2⟩) (fun hX hHeld=> ?_);rw[←hw4] at hHeld⊢;clear hw4 hk4 p33 e0 e1 e2;refine tw 0 76 ?_;refine tw 1 77 ?_;refine tw 2 78 ?_;refine tk 3 79 ?_;refine tk 4 80 ?_;refine tw 5 81 ?_;refine ro 6 (fun K hK=> ?_);go_simp;refine hK.out _ _ ⟨Qi HK5.out hHeld.1 hpb,Qi HK5.out hHeld.2.1 hbb,Qi HK5.out hHeld.2.2.1 hbb,Qi HK5.out hHeld.2.2.2 hbb⟩ (fun hHeld=> ?_);clear hK K hr5
      try simp only[PP]
      refine tw 7 83 ?_;refine ro 8 (fun K hK=> ?_);go_simp;refine hK.out _ _ ⟨Qi HK6.out hHeld.1 hpb,Qi HK6.out hHeld.2.1 hbb,Qi HK6.out hHeld.2.2.1 hbb,Qi HK6.out hHeld.2.2.2 hbb⟩ (fun hHeld=> ?_);clear hK K hr6
      try simp only[PP]
      refine re 9 (fun K hK=> ?_);go_simp;refine hK.out _ _ ?_;clear hK K hHeld;go_wp2_with fail
      go_roundg fu
      case measure=>omega
      case rel=>exact⟨La++Lb,true,rfl,Qh (HR4.out.kp HK56.out (fun e=>by have:=HBT.out.lt;exact hbne e) (fun e=>by have:=hR.out.lt.1;have:=HR.out;omega)),HS2,by omega,Qh (HT6.out.congr (fun k=>(HCT.out k).symm)),Qh (by rw[HMC.out];have:=HNE.out;simp[this]),Qh (HKW4.out.trans HK56.out)⟩
structure NwAt (w:World) (B p st:Nat) (l:List PR) (vl:Value) (vls:List Value) (z b:List Int) (vz vb:Value):Prop where
 blk:w.heap[p]? =some (.cells #[ptr st,vl,vz,vb] TUs (0,0))
 pr:PrAt w B vl l vls
 rz:OwnK w B 3 1 vz (zV z)
 rb:OwnK w B 3 1 vb (zV b)
 ne:∀g,vz.ownBlock=some g→vb.ownBlock=some g→False
 pB:B≤p
structure UX (w0:World) (B p:Nat) (z1 z2:Value) (z b:List Int) (wn:World) (vz vb:Value):Prop where
 rz:OwnK wn B 3 1 vz (zV z)
 rb:OwnK wn B 3 1 vb (zV b)
 ne:∀g,vz.ownBlock=some g→vb.ownBlock=some g→False
 kp:Kp (fun k=>some k=z1.ownBlock∨some k=z2.ownBlock) w0 wn
 oz:∀g,vz.ownBlock=some g→some g=z1.ownBlock∨w0.heap.size≤g
 ob:∀g,vb.ownBlock=some g→some g=z2.ownBlock∨w0.heap.size≤g
 np:vz.ownBlock≠some p∧vb.ownBlock≠some p
 n0:z1.ownBlock≠some p∧z2.ownBlock≠some p
 pl:p<w0.heap.size
def Lone(wn:World)(vz vb:Value)(g:Nat):Prop:=wn.heap[g]? =some (.cells #[.int .i64 (-1)] 3 (0,0))∧vz.ownBlock≠some g∧vb.ownBlock≠some g
section
variable {w0 wn w':World} {B p g:Nat} {z1 z2 vz vb v':Value} {z b:List Int}
theorem UX.kn(h:UX w0 B p z1 z2 z b wn vz vb)(hk:Kn wn w'):UX w0 B p z1 z2 z b w' vz vb:=⟨h.rz.kn hk,h.rb.kn hk,h.ne,h.kp.trans (Kp.weak hk),h.oz,h.ob,h.np,h.n0,h.pl⟩
theorem UX.lone(h:UX w0 B p z1 z2 z b wn vz vb):Lone (wn.alloc (.cells #[.int .i64 (-1)] 3)) vz vb wn.heap.size:=
 ⟨Qf _ _,fun e=>by obtain⟨_,h1⟩:=OwnK.blkT h.rz e;exact absurd (Ql h1) (Nat.lt_irrefl _),fun e=>by obtain⟨_,h1⟩:=OwnK.blkT h.rb e;exact absurd (Ql h1) (Nat.lt_irrefl _)⟩
theorem Lone.kn(h:Lone wn vz vb g)(hk:Kn wn w'):Lone w' vz vb g:=⟨hk.blk h.1 (fun x=>x),h.2⟩
theorem UX.blk{o:Obj}(h:UX w0 B p z1 z2 z b wn vz vb)(hb:w0.heap[p]? =some o):wn.heap[p]? =some o:=by
 rw[h.kp.block p h.pl (fun e=>e.elim (fun e=>h.n0.1 e.symm) (fun e=>h.n0.2 e.symm))];exact hb
theorem NwAt.ux{st:Nat}{l:List PR}{vl:Value}{vls:List Value}(h:NwAt w0 B p st l vl vls z b z1 z2)(hk:Kn w0 wn):UX w0 B p z1 z2 z b wn z1 z2:=by
 have hp:=Ql h.blk;have n1:z1.ownBlock≠some p:=fun e=>by obtain⟨_,h1⟩:=OwnK.blkT h.rz e;exact Qo h1 h.blk (by decide)
 have n2:z2.ownBlock≠some p:=fun e=>by obtain⟨_,h1⟩:=OwnK.blkT h.rb e;exact Qo h1 h.blk (by decide)
 exact⟨h.rz.kn hk,h.rb.kn hk,h.ne,Kp.weak hk,fun g hg=> .inl hg.symm,fun g hg=> .inl hg.symm,⟨n1,n2⟩,⟨n1,n2⟩,hp⟩
theorem UX.done{st:Nat}{l:List PR}{vl:Value}{vls:List Value}{za ba:List Int}(h:UX w0 B p z1 z2 z b wn vz vb)(h0:NwAt w0 B p st l vl vls za ba z1 z2):
  NwAt ((wn.setCell ⟨p,2,none⟩ vz).setCell ⟨p,3,none⟩ vb) B p st l vl vls z b vz vb∧Kp (fun k=>B≤k) w0 ((wn.setCell ⟨p,2,none⟩ vz).setCell ⟨p,3,none⟩ vb):=by
 have hb:=h.blk h0.blk;have hk:K1 p wn ((wn.setCell ⟨p,2,none⟩ vz).setCell ⟨p,3,none⟩ vb):=(Qg _ _).trans (Qg _ _);have hty:∀T:TypeId,T≠3→T≠TUs→∀g (c:Array Value),w0.heap[g]? =some (.cells c T (0,0))→¬(some g=z1.ownBlock∨some g=z2.ownBlock∨g=p):=fun T h1 h2 g c hg e=>by
  rcases e with e|e|e
  ·obtain⟨_,h3⟩:=OwnK.blkT h0.rz e.symm;exact Qo h3 hg (Ne.symm h1)
  ·obtain⟨_,h3⟩:=OwnK.blkT h0.rb e.symm;exact Qo h3 hg (Ne.symm h1)
  ·subst e;exact Qo h0.blk hg (Ne.symm h2)
 have hK:Kp (fun k=>some k=z1.ownBlock∨some k=z2.ownBlock∨k=p) w0 ((wn.setCell ⟨p,2,none⟩ vz).setCell ⟨p,3,none⟩ vb):=(h.kp.mono (fun i hi e=>e.elim .inl (fun e=> .inr (.inl e)))).trans (hk.mono (fun i hi e=> .inr (.inr e)));refine⟨⟨Qj (Qj hb 2 _) 3 _,h0.pr.off hK (hty _ (by decide) (by decide)) (hty _ (by decide) (by decide)),h.rz.kp hk (fun g hg e=>h.np.1 (by rw[hg,e])),h.rb.kp hk (fun g hg e=>h.np.2 (by rw[hg,e])),h.ne,h0.pB⟩,hK.mono (fun i hi e=> ?_)⟩;rcases e with e|e|e
 ·exact(h0.rz.lt i e.symm).1
 ·exact(h0.rb.lt i e.symm).1
 ·rw[e];exact h0.pB
end
theorem SBok.lu{S:SB}(h:SBok S):LUk S.places.length S.l:=⟨by have:=h.le;omega,h.ll,fun q hq=>⟨(h.pr q hq).1,by have:=(h.pr q hq).2.2.1;omega,fun y hy hp=>by have:=(h.pr q hq).2.2.2 y hy;rw[if_pos hp] at this;exact this⟩⟩
theorem mem_over{N M:Yk}{p:RN×Nat}(h:p∈overF N M):p∈M∨p∈N:=by
 unfold overF at h;induction N generalizing M with
 |nil=>exact .inl h
 |cons q N ih=>
  rw[List.foldl_cons] at h;rcases ih h with h1|h1
  ·rcases mem_putT h1 with h2|h2
   ·exact .inl h2
   ·exact .inr (by rw[h2];exact List.mem_cons_self)
  ·exact .inr (List.mem_cons_of_mem _ h1)
theorem TOk.over{N M:Yk}(hN:TOk N)(hM:TOk M):TOk (overF N M):=by
 refine⟨?_,fun p hp=>by rcases mem_over hp with h|h;exact hM.pos p h;exact hN.pos p h⟩;unfold overF;have key:∀(l:Yk) (m:Yk),(m.map (·.1)).Nodup→((l.foldl (fun m p=>putT m p.1 p.2) m).map (·.1)).Nodup:=by
  intro l;induction l with
  |nil=>intro m h;exact h
  |cons q l ih=>intro m h;exact ih _ (nodup_putT h _ _)
 exact key _ _ hM.nd
theorem again_tok{l:List PR}{tx:List Int}{z:Nat}{M:Yk}(h:TOk M):TOk (againF l tx z M).1:=(nextF_ok l tx z M).over h
theorem again_le2{l:List PR}{tx:List Int}{z:Nat}{M:Yk}(h:le2 M):le2 (againF l tx z M).1:=by
 intro k;have h1:le2 (nextF l tx z M):=by
  have:=le2.NK (M:=M) tx z l l.length;unfold NK at this;rw[List.take_length] at this;exact this
 show Qv (overF (nextF l tx z M) M) k≤2;rw[getT_over _ _ (nextF_ok l tx z M)];split
 ·exact h1 k
 ·exact h k
theorem ChAt.after{w w':World}{B pc ps:Nat}{l:List PR}{vl:Value}{vls:List Value}{tx:List Int}{gt:Option Addr}{ct bt:Nat}{f g:RN→Nat}(h:ChAt w B pc ps l vl vls tx gt ct bt f)(ht:TrAt w' bt g)(hk:Kp (fun j=>j=bt) w w'):ChAt w' B pc ps l vl vls tx gt ct bt g:=by
 have hS:TyM (fun j=>j=bt) w:=fun j e=>by subst e;exact h.tr.mapBlk
 have hno:∀(T:TypeId) g (c:Array Value),w.heap[g]? =some (.cells c T (0,0))→¬g=bt:=fun T g c hc e=>by subst e;obtain⟨es,cc,h9⟩:=h.tr.mapBlk;rw[h9] at hc;cases hc
 exact⟨blk_tym h.blk hk hS,h.pr.off hk (hno TPr) (hno TSy),Qy h.tx hk hS,ht,h.pB⟩
theorem chartF_step{l:List PR}{tx:List Int}{fuel n N:Nat}{M Z:Yk}(h:YO l tx fuel ((List.range N).drop n) M=some Z)(hn:n<N):∃M1,roundF (againF l tx n) fuel M=some M1∧YO l tx fuel ((List.range N).drop (n+1)) M1=some Z:=by
 rw[List.drop_eq_getElem_cons (by rw[List.length_range];exact hn),List.getElem_range,YO] at h;cases hr:roundF (againF l tx n) fuel M with
 |none=>rw[hr] at h;cases h
 |some M1=>rw[hr] at h;exact⟨M1,rfl,h⟩
theorem chartF_end{l:List PR}{tx:List Int}{fuel N:Nat}{M Z:Yk}(h:YO l tx fuel ((List.range N).drop N) M=some Z):M=Z:=by
 rw[List.drop_eq_nil_of_le (by rw[List.length_range];exact Nat.le_refl _),YO] at h;exact Option.some.inj h
theorem zV_flat:∀z:List Int,(zV z).flatten=z.map (Value.int .i64)
 |[]=>rfl
 |a::z=>by have:=zV_flat z;unfold zV at this⊢;rw[List.map_cons,List.flatten_cons,this];try rfl
def ChIn(w:World)(pc:Nat)(tx:List Int)(Z:Yk):Prop:=TOk Z∧le2 Z∧∃B ps l vl vls gt ct bt,ChAt w B pc ps l vl vls tx gt ct bt (Qv Z)
theorem ChIn.kn{w w':World}{pc:Nat}{tx:List Int}{Z:Yk}(h:ChIn w pc tx Z)(hk:Kn w w'):ChIn w' pc tx Z:=by
 obtain⟨h0,h1,B,ps,l,vl,vls,gt,ct,bt,h2⟩:=h;exact⟨h0,h1,B,ps,l,vl,vls,gt,ct,bt,h2.kn hk⟩
def ChNewPost(tx:List Int)(Z:Yk)(w:World)(e:Ending)(w':World):Prop:=∃pc:Nat,e= .returned (.tuple #[ptr pc,.int .i64 0])∧ChIn w' pc tx Z∧Kn w w'
theorem chNew_c{B p ge gf gw g c:Nat}{S:SB}{A:SA}{E:List Bool}{F W:List Nat}{w:World}(h:StAt w B p S A E F W ge gf gw)(ok:SBok S)(tx:List Int)(h0:0<tx.length)(h100:tx.length≤100)(hc:∀j,j<tx.length→w.cell? ⟨g,j,none⟩=some (.int .i64 (tx.getD j 0)))
  {fuel:Nat} {Z:Yk} (hz:YO S.l tx fuel (List.range (tx.length+1)) []=some Z):
  Calls Tryz.prog 23 #[ptr p,.slice (some ⟨g,0,none⟩) tx.length c] w (ChNewPost tx Z w):=by
 have hmm:= @run_makeMap Tryz.prog;have hpl:=h.lt;have hgl:=World.block_lt_of_cell? _ _ (hc 0 h0);have HP:=Qh (prods_c h (by have:=ok.lu.ll;omega) (fun r hr=>(ok.lu.pp r hr).2.1));have HPO:Hid (PrsOk S.l):=Qh ⟨ok.lu.ll,fun q hq=>by have:=(ok.lu.pp q hq).1;have:=ok.lu.nn;omega,fun q hq=>(ok.lu.pp q hq).2.1,fun q hq y hy hp=>by have h1:=(ok.lu.pp q hq).2.2 y hy hp;have:=ok.lu.nn;omega⟩;have HC:Hid (∀W,Kn w W→Calls Tryz.prog 70 #[.slice (some ⟨g,0,none⟩) tx.length c] W fun e w'=>∃v',e= .returned v'∧w'.ownsRow W.heap.size 3 1 v' tx.length ((tx.take tx.length).map (Value.int .i64))∧v'≠.slice none 0 0∧Below W.heap.size W w'):=
  Qh (fun W hk=>Tryz.slices_Clone_int g 0 tx.length c tx W (Nat.le_refl _) (by omega) (fun j hj=>by rw[Nat.zero_add];exact Qc hk (hc j hj)))
 have HZ:=Qh hz;obtain⟨n,hn⟩:∃n,n=tx.length:=⟨_,rfl⟩;rw[←hn] at h0 h100 HC⊢;have HN:=Qh hn;clear h ok hc hz hn;go_enter Tryz.func23,Tryz.ntmps23;go_wp2_with fail
 refine HP.out.mono ?_;rintro e w1 ⟨vl,vps,rfl,hpr,hk1⟩;obtain⟨av,cv,hvl,_⟩:=hpr.row.row (fun C hC=>by obtain⟨i,hi,rfl⟩:=List.getElem_of_mem hC;simp[prL]);obtain⟨m,hm⟩:∃m,m=(List.zipWith prL S.l vps).length:=⟨_,rfl⟩;rw[←hm] at hvl;subst hvl;have HPR:=Qh hpr;have HK1:=Qh hk1;have HC2:=Qh (HC.out w1 hk1);clear HP hpr hk1 hm HC;go_wp2_with fail
 refine HC2.out.mono ?_;rintro e w2 ⟨v',rfl,hown,_,hb2⟩;have hown2:OwnK w2 w1.heap.size 3 1 v' (zV tx):=by
  unfold OwnK;rw[zV_flat,zV_len,←HN.out];have h9:=hown;rwa[HN.out,List.take_length,←HN.out] at h9
 obtain⟨gt,ct,hv,_⟩:=hown2.row (zV_one tx);rw[zV_len,←HN.out] at hv;subst hv;have HOW:=Qh hown2;have HK2:=Qh (Yd hb2);clear HC2 hown hb2 hown2;go_upto_region 6 with fail
 obtain⟨w4,hw4⟩:∃x5,x5=(w2.alloc (.map #[] 0)).alloc (.cells #[ptr p,.slice av m cv,.slice gt n ct,.map (some w2.heap.size)] TCh):=⟨_,rfl⟩;obtain⟨bt,hbt⟩:∃x5,x5=w2.heap.size:=⟨_,rfl⟩;obtain⟨pc,hpc⟩:∃x5,x5=w2.heap.size+1:=⟨_,rfl⟩;have hk4:Kn w2 w4:=by rw[hw4];exact((Qb _ _).alloc _).alloc _
 have hch:ChAt w4 w.heap.size pc p S.l (.slice av m cv) vps tx gt ct bt (Qv []):=by
  have hB:w4.heap[pc]? =some (.cells #[ptr p,.slice av m cv,.slice gt n ct,.map (some bt)] TCh (0,0)):=by rw[hw4,hpc,hbt];exact blk_at _ _ (by simp)
  have h1:=HK1.out.size;have h2:=HK2.out.size;refine⟨by rw[←HN.out];exact hB,(HPR.out.kn HK2.out).kn hk4,by have:=(HOW.out.kn hk4).base h1;rwa[HN.out] at this,?_,by omega,by omega⟩;rw[hw4,hbt];exact(TrAt.new w2).kn ((Qb _ _).alloc _)
 rw[←hw4,←hpc];have HCH:=Qh hch;have HK4:=Qh ((HK1.out.trans HK2.out).trans hk4);have hpl4:=hch.lt;have HBT:Hid (w.heap.size≤bt):=Qh (by have h1:=HK1.out.size;have h2:=HK2.out.size;omega);clear hw4 hpc hbt hk4 hch HPR HOW HK1 HK2 hmm;go_wp2_with fail
 go_loopw [7] (fun s7 wr=>∃(k:Nat) (M:Yk),s7= .int .i64 k∧k≤n+1∧Hid (YO S.l tx fuel ((List.range (n+1)).drop k) M=some Z)∧Hid (le2 M∧TOk M)∧Hid (ChAt wr w.heap.size pc p S.l (.slice av m cv) vps tx gt ct bt (Qv M))∧Hid (Kn w wr)) (fun s7 _=>n+1-(intOf s7).toNat)
 case atStart=>exact⟨0,[],rfl,Nat.zero_le _,Qh (by rw[List.drop_zero,HN.out];exact HZ.out),Qh ⟨fun _=>by simp[getT_nil],⟨by simp,by simp⟩⟩,HCH,HK4⟩
 case round=>
  clear HCH HK4;obtain⟨k,M,rfl,hk,hZ,hM,hC,hK⟩:=hrel;obtain⟨wo,rfl⟩:∃z,z=wr:=⟨_,rfl⟩;by_cases hlt:k≤n
  ·obtain⟨M1,hr1,hz1⟩:=chartF_step hZ.out (by omega);have HR1:=Qh hr1;have HZ1:=Qh hz1;have hplo:=hC.out.lt;clear hr1 hz1;go_wp2_with fail
   go_loopg [] fuel (fun f wq=>∃M',Hid (roundF (againF S.l tx k) f M'=some M1)∧Hid (le2 M'∧TOk M')∧Hid (ChAt wq w.heap.size pc p S.l (.slice av m cv) vps tx gt ct bt (Qv M'))∧Hid (Kn w wq))
   case atStart=>exact⟨M,HR1,hM,hC,hK⟩
   case round=>
    clear HR1 hM hC hK;obtain⟨M',hr,hM,hC,hK⟩:=hrel;have HA:=Qh (cagain_c hM.out.1 (by have:=HN.out;omega) k (by have:=HN.out;omega) hC.out HPO.out);have hgk:gk≠0:=fun e=>by have:=hr.out;rw[e,roundF] at this;cases this
    obtain⟨fu,rfl⟩:∃fu,gk=fu+1:=⟨gk-1,by omega⟩;have hr2:=hr.out;rw[roundF] at hr2;have HM2:=Qh (And.intro (again_le2 (l:=S.l) (tx:=tx) (z:=k) hM.out.1) (again_tok (l:=S.l) (tx:=tx) (z:=k) hM.out.2));obtain⟨R,hR⟩:∃R,R=againF S.l tx k M':=⟨_,rfl⟩;rw[←hR] at HA hr2 HM2;obtain⟨M2,fl⟩:=R;dsimp only at HA hr2 HM2;clear hr hR hgk;cases fl with
    |false=>
     rw[if_neg (by simp)] at hr2;injection hr2 with hr2;subst hr2;go_wp2_with fail
     refine HA.out.mono ?_;rintro e w5 ⟨rfl,ht5,hk5⟩;have HC5:=Qh (hC.out.after ht5 hk5);have HK5:=Qh (hK.out.trans' hk5 (fun i hi e=>by have:=HBT.out;omega));clear ht5 hk5;go_wp2_with fail
     go_roundw
     case rel=>exact⟨k+1,M2,by go_num,by omega,HZ1,HM2,HC5,HK5⟩
     case measure=>simp[intOf];omega
    |true=>
     rw[if_pos rfl] at hr2;have HR2:=Qh hr2;clear hr2;go_wp2_with fail
     refine HA.out.mono ?_;rintro e w5 ⟨rfl,ht5,hk5⟩;have HC5:=Qh (hC.out.after ht5 hk5);have HK5:=Qh (hK.out.trans' hk5 (fun i hi e=>by have:=HBT.out;omega));clear ht5 hk5;go_wp2_with fail
     go_roundg fu
     case measure=>omega
     case rel=>exact⟨M2,HR2,HM2,HC5,HK5⟩
  ·obtain rfl:k=n+1:=by omega
   have HE:=Qh (chartF_end hZ.out);clear hZ;go_wp2_with fail
   go_ret2
   have h9:=hC.out;have h8:=hM.out;rw[HE.out] at h9 h8;exact⟨pc,rfl,⟨h8.2,h8.1,_,_,_,_,_,_,_,_,h9⟩,hK.out⟩
theorem many_c{pc:Nat}{tx:List Int}{Z:Yk}{w:World}(h:ChIn w pc tx Z)(p f t:Nat)(hq:okN (p,f,t)):
  Calls Tryz.prog 24 #[ptr pc,.int .i64 p,.int .i64 f,.int .i64 t] w fun e w'=>e= .returned (.int .i64 (Qv Z (p,f,t):Nat))∧w=w':=by
 obtain⟨_,_,B,ps,l,vl,vls,gt,ct,bt,hc⟩:=h;have hlk:∀W,w=W→(Instr.lookup 152 (.map (some bt)) (.agg #[.int .i64 (p:Nat),.int .i64 (f:Nat),.int .i64 (t:Nat)]) false).run Tryz.prog W= .ok (.int .i64 (Qv Z (p,f,t):Nat)) W:=fun W e=>by subst e;exact hc.tr.look hq
 have hlk2:=hlk w rfl;have q3:w.cell? ⟨pc,3,none⟩=some (.map (some bt)):=by rw[Qa hc.blk];try rfl
 have hpl:=hc.lt;obtain⟨v,hv⟩:∃v,v=Qv Z (p,f,t):=⟨_,rfl⟩;rw[←hv] at hlk2⊢;clear hc hlk hq hv;go_enter Tryz.func24,Tryz.ntmps24;go_wp2_with fail
 go_ret;exact⟨rfl,rfl⟩
theorem chlen_c{pc:Nat}{tx:List Int}{Z:Yk}{w:World}(h:ChIn w pc tx Z):
  Calls Tryz.prog 25 #[ptr pc] w fun e w'=>e= .returned (.int .i64 (tx.length:Nat))∧w=w':=by
 obtain⟨_,_,B,ps,l,vl,vls,gt,ct,bt,hc⟩:=h;have q2:w.cell? ⟨pc,2,none⟩=some (.slice gt tx.length ct):=by rw[Qa hc.blk];try rfl
 have hpl:=hc.lt;clear hc;go_enter Tryz.func25,Tryz.ntmps25;go_wp2_with fail
 go_ret;exact⟨rfl,rfl⟩
theorem trees_c{pc:Nat}{tx:List Int}{Z:Yk}{w:World}(h:ChIn w pc tx Z)(hl:tx.length≤1000):
  Calls Tryz.prog 27 #[ptr pc] w fun e w'=>e= .returned (.int .i64 (Qv Z (0,0,tx.length):Nat))∧w=w':=by
 have H1:=Qh (chlen_c h);have H2:=Qh (many_c h 0 0 tx.length ⟨Nat.zero_le _,Nat.zero_le _,by dsimp only;omega⟩);clear h;go_enter Tryz.func27,Tryz.ntmps27;go_wp2_with fail
 refine H1.out.mono ?_;rintro e w' ⟨rfl,rfl⟩;go_wp2_with fail
 refine H2.out.mono ?_;rintro e w' ⟨rfl,rfl⟩;go_wp2_with fail
 go_ret;exact⟨rfl,rfl⟩
def clearF(Z:Yk):Bool:=Z.all (fun p=>decide (p.2≤1))
theorem clear_eq{m Z:Yk}(hm:TOk m)(hZ:TOk Z)(he:∀k,Qv m k=Qv Z k):clearF m=clearF Z:=by
 have key:∀ {A B:Yk},TOk A→TOk B→(∀k,Qv A k=Qv B k)→∀p∈A,p∈B:=fun {A B} hA hB he p hp=>by
  have h1:=getT_mem hA.nd hp;rw[he] at h1;have:=getT_pos (m:=B) (k:=p.1) (by rw[h1];exact hA.pos p hp);rw[h1] at this;exact this
 unfold clearF;rw[Bool.eq_iff_iff];simp only[List.all_eq_true,decide_eq_true_eq];exact⟨fun h p hp=>h p (key hZ hm (fun k=>(he k).symm) p hp),fun h p hp=>h p (key hm hZ he p hp)⟩
theorem clear_c{pc:Nat}{tx:List Int}{Z:Yk}{w:World}(h:ChIn w pc tx Z):
  Calls Tryz.prog 28 #[ptr pc] w fun e w'=>e= .returned (.bool (clearF Z))∧Kn w w':=by
 obtain⟨hok,_,B,ps,l,vl,vls,gt,ct,bt,hc⟩:=h;obtain⟨m,hmb,hmok,hmg,hmo⟩:=hc.tr;have HCL:=Qh (clear_eq hmok hok hmg);have q3:w.cell? ⟨pc,3,none⟩=some (.map (some bt)):=by rw[Qa hc.blk];try rfl
 have hpl:=hc.lt;have HMB:=Qh hmb;obtain⟨r,hr⟩:∃r,r=w.heap.size:=⟨_,rfl⟩;have HR:=Qh hr;clear hc hok hmok hmg hmo hmb;go_enter Tryz.func28,Tryz.ntmps28;go_wp2_with (at_range;refine wpList_rangeB rfl (.tmp 10) rfl Tryz.underlying152 rfl HMB.out ?_;intro w0 hr0 hk0)
 go_frame
 rw[←HR.out] at hr0⊢;have HR0:Hid (RgT w0 bt r m m):=Qh hr0;have HK0:=Qh hk0;clear hr0 hk0 hr;go_loopg [] (m.length+1) (fun f wq=>∃L:Yk,Hid (RgT wq bt r m L)∧L.length<f∧Hid (clearF m=clearF L)∧Hid (Kn w wq))
 case atStart=>exact⟨m,HR0,by omega,Qh rfl,HK0⟩
 case round=>
  clear HR0 HK0;obtain⟨L,hR,hf,hC,hK⟩:=hrel;go_wp2_with (at_next;refine wpList_nextT rfl (.tmp 11) rfl rfl hR.out ?_ ?_)
  ·intro HL;go_wp2_with fail
   go_ret;refine⟨?_,hK.out⟩;rw[←HCL.out,hC.out,HL.out];try rfl
  ·intro x y zz v La Lb w1 HL HR1 HK1 hen;have hlen:(La++Lb).length+1=L.length:=by rw[HL.out,List.length_append,List.length_append,List.length_cons];omega
   have hcl:clearF L=(decide (v≤1)&&clearF (La++Lb)):=by
    rw[HL.out];unfold clearF;rw[List.all_append,List.all_cons,List.all_append];cases decide (v≤1)<;>cases La.all (fun p=>decide (p.2≤1))<;>rfl
   have HC2:=Qh hcl;have HK2:Hid (Kn w w1):=Qh (hK.out.trans' HK1.out (fun i hi e=>by have:=HR.out;omega));obtain⟨fu,rfl⟩:∃fu,gk=fu+1:=⟨gk-1,by omega⟩;clear hcl;by_cases hv:v≤1
   ·have h1:¬(1:Int)<(v:Int):=by omega
    go_wp2_with fail
    go_roundg fu
    case measure=>omega
    case rel=>exact⟨La++Lb,HR1,by omega,Qh (by rw[hC.out,HC2.out,decide_eq_true hv];try rfl),HK2⟩
   ·have h1:(1:Int)<(v:Int):=by omega
    go_wp2_with fail
    go_ret;refine⟨?_,HK2.out⟩;rw[←HCL.out,hC.out,HC2.out,decide_eq_false hv];try rfl
theorem chNew_nil(b n c:Nat)(w:World):Calls Tryz.prog 23 #[.pointer none,.slice (some ⟨b,0,none⟩) n c] w fun e w'=>e= .returned (.tuple #[.pointer none,.int .i64 1])∧w=w':=by
 go_enter Tryz.func23,Tryz.ntmps23;go_wp2_with fail
 go_ret2
 exact⟨rfl,rfl⟩
theorem chNew_long(ps b:Nat)(w:World):Calls Tryz.prog 23 #[ptr ps,.slice (some ⟨b,0,none⟩) 101 101] w fun e w'=>e= .returned (.tuple #[.pointer none,.int .i64 3])∧w=w':=by
 go_enter Tryz.func23,Tryz.ntmps23;go_wp2_with fail
 go_ret2
 exact⟨rfl,rfl⟩
theorem many_nil(a b c:Int)(w:World):Calls Tryz.prog 24 #[.pointer none,.int .i64 a,.int .i64 b,.int .i64 c] w fun e w'=>e= .returned (.int .i64 0)∧w=w':=by
 go_enter Tryz.func24,Tryz.ntmps24;go_wp2_with fail
 go_ret;exact⟨rfl,rfl⟩
theorem chlen_nil(w:World):Calls Tryz.prog 25 #[.pointer none] w fun e w'=>e= .returned (.int .i64 0)∧w=w':=by
 go_enter Tryz.func25,Tryz.ntmps25;go_wp2_with fail
 go_ret;exact⟨rfl,rfl⟩
theorem spans_nil(a:Int)(w:World):Calls Tryz.prog 26 #[.pointer none,.int .i64 a] w fun e w'=>e= .returned (.slice none 0 0)∧w=w':=by
 go_enter Tryz.func26,Tryz.ntmps26;go_wp2_with fail
 go_ret;exact⟨rfl,rfl⟩
theorem trees_nil(w:World):Calls Tryz.prog 27 #[.pointer none] w fun e w'=>e= .returned (.int .i64 0)∧w=w':=by
 have H1:=Qh (chlen_nil w);have H2:=Qh (many_nil 0 0 0 w);go_enter Tryz.func27,Tryz.ntmps27;go_wp2_with fail
 refine H1.out.mono ?_;rintro e w' ⟨rfl,rfl⟩;go_wp2_with fail
 refine H2.out.mono ?_;rintro e w' ⟨rfl,rfl⟩;go_wp2_with fail
 go_ret;exact⟨rfl,rfl⟩
theorem clear_nil(w:World):Calls Tryz.prog 28 #[.pointer none] w fun e w'=>e= .returned (.bool false)∧w=w':=by
 go_enter Tryz.func28,Tryz.ntmps28;go_wp2_with fail
 go_ret;exact⟨rfl,rfl⟩
end Go.Proofs.YtiehgcfckhepaaaGreatDoor
