/-
  Texts of this claim, laid together: PSpan, PClass, PTree, KApp, PAtom, PFac, POr, SNamed, NPure. Conditions: none.
-/
import Derived.Test.YtiehgcfckhepaaaGreatDoorQAA
import Derived.Deep.LoopGhost
set_option linter.unusedVariables false
set_option linter.unusedSimpArgs false
set_option maxRecDepth 100000
set_option maxHeartbeats 16000000
namespace Go.Proofs.YtiehgcfckhepaaaGreatDoor
open Go.RowKit
abbrev YH(s:W4):Array Value:= #[.int .u64 s.a,.int .u64 s.b,.int .u64 s.c,.int .u64 s.d]
def SetAt(w:World)(q:Nat)(s:W4):Prop:=w.heap[q]? =some (.cells (YH s) 404 (0,0))
theorem SetAt.get{w:World}{q:Nat}{s:W4}(h:SetAt w q s)(i:Nat)(hi:i<4):w.cell? ⟨q,i,none⟩=some (.int .u64 (s.get i)):=by
 rw[Qa h]
 match i,hi with
 |0,_=>rfl
 |1,_=>rfl
 |2,_=>rfl
 |3,_=>rfl
theorem SetAt.put{w:World}{q:Nat}{s:W4}(h:SetAt w q s)(i:Nat)(hi:i<4)(x:Int):SetAt (w.setCell ⟨q,i,none⟩ (.int .u64 x)) q (s.put i x):=by
 show _=_;rw[Qk h]
 match i,hi with
 |0,_=>rfl
 |1,_=>rfl
 |2,_=>rfl
 |3,_=>rfl
theorem SetAt.kp{S:Nat→Prop}{w w':World}{q:Nat}{s:W4}(h:SetAt w q s)(hk:Kp S w w')(hs:¬S q):SetAt w' q s:=hk.blk h hs
theorem put_ok{s:W4}(h:s.ok)(i:Nat)(x:Int)(h0:0≤x)(h1:x<18446744073709551616):(s.put i x).ok:=by
 obtain⟨ha,hb,hc,hd⟩:=h;unfold W4.put;split
 ·exact⟨⟨h0,h1⟩,hb,hc,hd⟩
 ·split
  ·exact⟨ha,⟨h0,h1⟩,hc,hd⟩
  ·split
   ·exact⟨ha,hb,⟨h0,h1⟩,hd⟩
   ·exact⟨ha,hb,hc,⟨h0,h1⟩⟩
theorem wrap_range(x:Int):0≤IntKind.u64.wrap x∧IntKind.u64.wrap x<18446744073709551616:=by
 rw[IntKind.wrap_u64];omega
theorem zero_ok:W4.zero.ok:=by unfold W4.ok W4.zero;simp
theorem one_ok(b:Nat):(W4.one b).ok:=put_ok zero_ok _ _ (wrap_range _).1 (wrap_range _).2
theorem or_range{x y:Int}(hx:0≤x∧x<18446744073709551616)(hy:0≤y∧y<18446744073709551616):0≤bits .or .u64 x y∧bits .or .u64 x y<18446744073709551616:=by
 rw[u64_or x y hx.1 hx.2 hy.1 hy.2];have h1:x.toNat<2^64:=by omega
 have h2:y.toNat<2^64:=by omega
 have:=Nat.or_lt_two_pow h1 h2;omega
theorem add_ok{s:W4}(h:s.ok)(b:Nat):(s.add b).ok:=by
 have hr:=or_range (get_range h (b/64)) (wrap_range (2^(b%64)));exact put_ok h _ _ hr.1 hr.2
def addN(s:W4)(lo n:Nat):W4:=(List.range' lo n).foldl W4.add s
theorem addN_succ(s:W4)(lo n:Nat):addN s lo (n+1)=(addN s lo n).add (lo+n):=by
 unfold addN;rw[List.range'_concat,List.foldl_append];simp
theorem addN_ok{s:W4}(h:s.ok)(lo n:Nat):(addN s lo n).ok:=by
 induction n with
 |zero=>exact h
 |succ n ih=>rw[addN_succ];exact add_ok ih _
theorem one_c(b:Nat)(hb:b<256)(w:World):
  Calls Tryz.prog 357 #[.int .u8 b] w fun e w'=>e= .returned (.agg (YH (W4.one b)))∧Kn w w':=by
 have key:∀(i:Nat),i<4→(b:Int)/64=i→Calls Tryz.prog 357 #[.int .u8 b] w fun e w'=>e= .returned (.agg (YH (W4.zero.put i (IntKind.u64.wrap (2^(b%64))))))∧Kn w w':=by
  intro i hi hq
  match i,hi with
  |0,_=>
   go_enter Tryz.func357,Tryz.ntmps357;go_wp2_with fail
   exact bodyPost_ret (v:= .agg (YH (W4.zero.put 0 (IntKind.u64.wrap (2^(b%64)))))) (by simp[results,Tryz.results357,go_sem];exact⟨rfl,rfl,rfl,rfl⟩) rfl ⟨rfl,((Qb _ w).alloc _).alloc _⟩
  |1,_=>
   go_enter Tryz.func357,Tryz.ntmps357;go_wp2_with fail
   exact bodyPost_ret (v:= .agg (YH (W4.zero.put 1 (IntKind.u64.wrap (2^(b%64)))))) (by simp[results,Tryz.results357,go_sem];exact⟨rfl,rfl,rfl,rfl⟩) rfl ⟨rfl,((Qb _ w).alloc _).alloc _⟩
  |2,_=>
   go_enter Tryz.func357,Tryz.ntmps357;go_wp2_with fail
   exact bodyPost_ret (v:= .agg (YH (W4.zero.put 2 (IntKind.u64.wrap (2^(b%64)))))) (by simp[results,Tryz.results357,go_sem];exact⟨rfl,rfl,rfl,rfl⟩) rfl ⟨rfl,((Qb _ w).alloc _).alloc _⟩
  |3,_=>
   go_enter Tryz.func357,Tryz.ntmps357;go_wp2_with fail
   exact bodyPost_ret (v:= .agg (YH (W4.zero.put 3 (IntKind.u64.wrap (2^(b%64)))))) (by simp[results,Tryz.results357,go_sem];exact⟨rfl,rfl,rfl,rfl⟩) rfl ⟨rfl,((Qb _ w).alloc _).alloc _⟩
 have h:=key (b/64) (by omega) (by omega);exact h
theorem spanHi_lt(s:ByteArray)(st:PS):QW s st<256:=by
 unfold QW;split<;>exact YU _ _ _
theorem span_c1(p q:Nat)(hne:q≠p)(s:ByteArray)(st:PS)(ws:W4)(w:World)(h:Pat w p s st)(hs:SetAt w q ws)(hR:QV s st=false)(hb:(Qp s Qe st).bad=true):
  Calls Tryz.prog 365 #[ptr p,ptr q] w fun e w'=>e= .returned (.tuple #[])∧Pat w' p s (Qz s st)∧SetAt w' q (Yg s st ws)∧Kp (fun k=>k=p∨k=q) w w':=by
 have hsz:=h.2.2;have hlo:=YU s Qe st;have hhi:=spanHi_lt s st;have hH:Hid (QW s st=QJ s Qe st):=Qh (by simp[QW,hR]);have hS:Hid (Qz s st=Qp s Qe st):=Qh (by simp[Qz,hR]);have hRR:=Qh hR;clear hR;have hWe:Hid (Yg s st ws=if(Qp s Qe st).bad then ws else ws.addTo (QJ s Qe st) (QJ s Qe st)):=Qh (by unfold Yg;rw[hS.out,hH.out]);have hBad:=Qh hb;have hW:Hid (Yg s st ws=ws):=Qh (by rw[hWe.out,hb];try rfl);clear hb;go_enter Tryz.func365,Tryz.ntmps365;go_wp2_with fail
 refine(YW p s Qe st w h).mono ?_;rintro e w1 ⟨rfl,hp1,hk1⟩;have hs1:=hs.kp hk1 (fun x=>hne x);have hk1':Kp (fun k=>k=p∨k=q) w w1:=hk1.mono (fun _ _ x=> .inl x);have hhi9:=YU s Qe (Qp s Qe st).next;generalize QJ s Qe (Qp s Qe st).next=hi at*;generalize QJ s Qe st=lo at*;obtain⟨x0,x1,x2,x3,x4,_,_,_,_⟩:=hp1.cells;rw[hBad.out] at x2;go_wp2_with fail
 clear x0 x1 x2 x3 x4;go_loopw [7] (fun b wr=>b= .int .i64 (lo:Int)∧Pat wr p s (Qz s st)∧SetAt wr q ws∧Kp (fun k=>k=p∨k=q) w wr) (fun _ _=>0)
 case atStart=>exact⟨rfl,by rw[hS.out];exact hp1,hs1,hk1'⟩
 case round=>
  obtain⟨rfl,PY,SY,KY⟩:=hrel;obtain⟨x0,x1,x2,x3,x4,_,_,_,_⟩:=PY.cells;rw[hS.out,hBad.out] at x2;go_wp2_with fail
  go_end0
  exact⟨rfl,PY,by rw[hW.out];exact SY,KY⟩
theorem span_c2(p q:Nat)(hne:q≠p)(s:ByteArray)(st:PS)(ws:W4)(w:World)(h:Pat w p s st)(hs:SetAt w q ws)(hR:QV s st=false)(hb:(Qp s Qe st).bad=false):
  Calls Tryz.prog 365 #[ptr p,ptr q] w fun e w'=>e= .returned (.tuple #[])∧Pat w' p s (Qz s st)∧SetAt w' q (Yg s st ws)∧Kp (fun k=>k=p∨k=q) w w':=by
 have hsz:=h.2.2;have hlo:=YU s Qe st;have hhi:=spanHi_lt s st;have hH:Hid (QW s st=QJ s Qe st):=Qh (by simp[QW,hR]);have hS:Hid (Qz s st=Qp s Qe st):=Qh (by simp[Qz,hR]);have hRR:=Qh hR;clear hR;have hWe:Hid (Yg s st ws=if(Qp s Qe st).bad then ws else ws.addTo (QJ s Qe st) (QJ s Qe st)):=Qh (by unfold Yg;rw[hS.out,hH.out]);have hBad:=Qh hb;have hW:Hid (Yg s st ws=ws.addTo (QJ s Qe st) (QJ s Qe st)):=Qh (by rw[hWe.out,hb];try rfl);have hI:Hid (isB s 45 (Qp s Qe st)=false):=Qh (by have:=hRR.out;simpa[QV,hb] using this);have hIS:Hid (isS s 45 (Qp s Qe st)=Qp s Qe st):=Qh (by simp[isS,hI.out]);clear hb;go_enter Tryz.func365,Tryz.ntmps365;go_wp2_with fail
 refine(YW p s Qe st w h).mono ?_;rintro e w1 ⟨rfl,hp1,hk1⟩;have hs1:=hs.kp hk1 (fun x=>hne x);have hk1':Kp (fun k=>k=p∨k=q) w w1:=hk1.mono (fun _ _ x=> .inl x);obtain⟨y0,y1,y2,y3,y4,_,_,_,_⟩:=hp1.cells;rw[hBad.out] at y2;go_wp2_with fail
 refine(YN 45 p s _ w1 hp1).mono ?_;rintro e w2 ⟨rfl,hp2,hk2⟩;rw[hI.out];rw[hIS.out] at hp2;have hs2:=hs1.kp hk2 (fun x=>hne x);have hk2':Kp (fun k=>k=p∨k=q) w w2:=hk1'.trans (hk2.mono (fun _ _ x=> .inl x));clear y0 y1 y2 y3 y4;generalize QJ s Qe st=lo at*;obtain⟨x0,x1,x2,x3,x4,_,_,_,_⟩:=hp2.cells;rw[hBad.out] at x2;go_wp2_with fail
 go_loopw [7] (fun b wr=>∃i:Nat,lo+i≤256∧(i=0∨lo+i≤lo+1)∧b= .int .i64 ((lo+i:Nat):Int)∧Pat wr p s (Qp s Qe st)∧SetAt wr q (addN ws lo i)∧Kp (fun k=>k=p∨k=q) w wr) (fun b _=>256-(intOf b).toNat)
 case atStart=>exact⟨0,by omega,.inl rfl,rfl,hp2,hs2,hk2'⟩
 case round=>
  clear x0 x1 x2 x3 x4;obtain⟨i,hi1,hi2,rfl,PY,SY,KY⟩:=hrel;obtain⟨x0,x1,x2,x3,x4,_,_,_,_⟩:=PY.cells;rw[hBad.out] at x2;by_cases hle:lo+i≤lo
  ·have hle':((lo+i:Nat):Int)≤lo:=by omega
   have hlt':((lo+i:Nat):Int)<256:=by omega
   have hg:=SY.get ((lo+i)/64) (by omega);have hfz:wr.frozen? ⟨q,(lo+i)/64,none⟩=false:=Qd SY _;have hsp:=SY.put ((lo+i)/64) (by omega) (bits .or .u64 ((addN ws lo i).get ((lo+i)/64)) (IntKind.u64.wrap (2^((lo+i)%64))));have hsu:Hid (addN ws lo (i+1)=(addN ws lo i).put ((lo+i)/64) (bits .or .u64 ((addN ws lo i).get ((lo+i)/64)) (IntKind.u64.wrap (2^((lo+i)%64))))):=Qh (addN_succ ws lo i);have hne':p≠q:=fun x=>hne x.symm
   obtain⟨j,hj⟩:∃j,j=lo+i:=⟨_,rfl⟩;rw[←hj] at hle' hlt' hg hfz hsp hsu;rw[←hj];have hj':=Qh hj;clear hj;have hjq:(j:Int)/64<4:=by omega
   have hjq0:(0:Int)≤(j:Int)/64:=by omega
   go_wp2_with fail
   go_region
   all_goals
    go_wp2_with fail
    go_roundw
    case rel=>
     have hjj:=hj'.out;refine⟨i+1,by omega,.inr (by omega),by rw[hjj];go_num,?_,?_,?_⟩
     ·exact⟨(Yd PY.1 hne' _ _),PY.2⟩
     ·rw[hsu.out];exact hsp
     ·exact(KY.drewN 1).setCell (p:=⟨q,j/64,none⟩) (fun _=> .inr rfl) _
    case measure=>simp[intOf];omega
  ·have hle':¬((lo+i:Nat):Int)≤lo:=by omega
   have hfi:Hid (addN ws lo i=ws.addTo lo lo):=Qh (by
    unfold addN W4.addTo;have:i=lo+1-lo:=by omega
    rw[this])
   go_wp2_with fail
   go_end0
   refine⟨rfl,?_,?_,KY⟩
   ·rw[hS.out];exact PY
   ·rw[hW.out,←hfi.out];exact SY
theorem span_c3(p q:Nat)(hne:q≠p)(s:ByteArray)(st:PS)(ws:W4)(w:World)(h:Pat w p s st)(hs:SetAt w q ws)(hR:QV s st=true)(hb:(Qp s Qe (Qp s Qe st).next).bad=true):
  Calls Tryz.prog 365 #[ptr p,ptr q] w fun e w'=>e= .returned (.tuple #[])∧Pat w' p s (Qz s st)∧SetAt w' q (Yg s st ws)∧Kp (fun k=>k=p∨k=q) w w':=by
 have hsz:=h.2.2;have hlo:=YU s Qe st;have hhi:=spanHi_lt s st;have hRb:(Qp s Qe st).bad=false∧isB s 45 (Qp s Qe st)=true:=by simpa[QV] using hR
 have hB1:=Qh hRb.1;have hI:=Qh hRb.2;have hH:Hid (QW s st=QJ s Qe (isS s 45 (Qp s Qe st))):=Qh (by simp[QW,hR]);have hIS:Hid (isS s 45 (Qp s Qe st)=(Qp s Qe st).next):=Qh (by simp[isS,hI.out]);have hSe:Hid (Qz s st=if !(Qp s Qe (Qp s Qe st).next).bad&&decide (QW s st<QJ s Qe st) then(Qp s Qe (Qp s Qe st).next).back ((Qp s Qe st).at_+1) else Qp s Qe (Qp s Qe st).next):=
  Qh (by simp only[Qz,hR,if_true,hIS.out])
 have hWe:Hid (Yg s st ws=if(Qz s st).bad then ws else ws.addTo (QJ s Qe st) (QW s st)):=Qh rfl;clear hR hRb;have hBad:=Qh hb;have hS:Hid (Qz s st=Qp s Qe (Qp s Qe st).next):=Qh (by rw[hSe.out,hb];try rfl);have hW:Hid (Yg s st ws=ws):=Qh (by rw[hWe.out,hS.out,hb];try rfl);clear hb;go_enter Tryz.func365,Tryz.ntmps365;go_wp2_with fail
 refine(YW p s Qe st w h).mono ?_;rintro e w1 ⟨rfl,hp1,hk1⟩;have hs1:=hs.kp hk1 (fun x=>hne x);have hk1':Kp (fun k=>k=p∨k=q) w w1:=hk1.mono (fun _ _ x=> .inl x);obtain⟨y0,y1,y2,y3,y4,_,_,_,_⟩:=hp1.cells;rw[hB1.out] at y2;go_wp2_with fail
 refine(YN 45 p s _ w1 hp1).mono ?_;rintro e w2 ⟨rfl,hp2,hk2⟩;rw[hI.out];rw[hIS.out] at hp2;have hs2:=hs1.kp hk2 (fun x=>hne x);have hk2':Kp (fun k=>k=p∨k=q) w w2:=hk1'.trans (hk2.mono (fun _ _ x=> .inl x));clear y0 y1 y2 y3 y4;obtain⟨z0,z1,z2,z3,z4,_,_,_,_⟩:=hp2.cells;go_wp2_with fail
 refine(YW p s Qe _ w2 hp2).mono ?_;rintro e w3 ⟨rfl,hp3,hk3⟩;have hs3:=hs2.kp hk3 (fun x=>hne x);have hk3':Kp (fun k=>k=p∨k=q) w w3:=hk2'.trans (hk3.mono (fun _ _ x=> .inl x));clear z0 z1 z2 z3 z4;have hhi9:=YU s Qe (Qp s Qe st).next;generalize QJ s Qe (Qp s Qe st).next=hi at*;generalize QJ s Qe st=lo at*;obtain⟨x0,x1,x2,x3,x4,_,_,_,_⟩:=hp3.cells;rw[hBad.out] at x2;go_wp2_with fail
 clear x0 x1 x2 x3 x4;go_loopw [7] (fun b wr=>b= .int .i64 (lo:Int)∧Pat wr p s (Qz s st)∧SetAt wr q ws∧Kp (fun k=>k=p∨k=q) w wr) (fun _ _=>0)
 case atStart=>exact⟨rfl,by rw[hS.out];exact hp3,hs3,hk3'⟩
 case round=>
  obtain⟨rfl,PY,SY,KY⟩:=hrel;obtain⟨x0,x1,x2,x3,x4,_,_,_,_⟩:=PY.cells;rw[hS.out,hBad.out] at x2;by_cases hlh:(lo:Int)≤hi
  ·first
   |(exfalso;omega)
   |(go_wp2_with fail
     go_end0
     exact⟨rfl,PY,by rw[hW.out];exact SY,KY⟩)
  ·go_wp2_with fail
   go_end0
   exact⟨rfl,PY,by rw[hW.out];exact SY,KY⟩
theorem span_c4(p q:Nat)(hne:q≠p)(s:ByteArray)(st:PS)(ws:W4)(w:World)(h:Pat w p s st)(hs:SetAt w q ws)(hR:QV s st=true)(hb:(Qp s Qe (Qp s Qe st).next).bad=false)(hlt:QW s st<QJ s Qe st):
  Calls Tryz.prog 365 #[ptr p,ptr q] w fun e w'=>e= .returned (.tuple #[])∧Pat w' p s (Qz s st)∧SetAt w' q (Yg s st ws)∧Kp (fun k=>k=p∨k=q) w w':=by
 have hsz:=h.2.2;have hlo:=YU s Qe st;have hhi:=spanHi_lt s st;have hRb:(Qp s Qe st).bad=false∧isB s 45 (Qp s Qe st)=true:=by simpa[QV] using hR
 have hB1:=Qh hRb.1;have hI:=Qh hRb.2;have hH:Hid (QW s st=QJ s Qe (isS s 45 (Qp s Qe st))):=Qh (by simp[QW,hR]);have hIS:Hid (isS s 45 (Qp s Qe st)=(Qp s Qe st).next):=Qh (by simp[isS,hI.out]);have hSe:Hid (Qz s st=if !(Qp s Qe (Qp s Qe st).next).bad&&decide (QW s st<QJ s Qe st) then(Qp s Qe (Qp s Qe st).next).back ((Qp s Qe st).at_+1) else Qp s Qe (Qp s Qe st).next):=
  Qh (by simp only[Qz,hR,if_true,hIS.out])
 have hWe:Hid (Yg s st ws=if(Qz s st).bad then ws else ws.addTo (QJ s Qe st) (QW s st)):=Qh rfl;clear hR hRb;have hB3:=Qh hb;have hS:Hid (Qz s st=(Qp s Qe (Qp s Qe st).next).back ((Qp s Qe st).at_+1)):=Qh (by rw[hSe.out,hb];simp[hlt]);have hBad:Hid (((Qp s Qe (Qp s Qe st).next).back ((Qp s Qe st).at_+1)).bad=true):=Qh rfl;have hW:Hid (Yg s st ws=ws):=Qh (by rw[hWe.out,hS.out];try rfl);have hlt':((QJ s Qe (Qp s Qe st).next:Nat):Int)<(QJ s Qe st:Nat):=by rw[←hIS.out,←hH.out];omega
 clear hb hlt;go_enter Tryz.func365,Tryz.ntmps365;go_wp2_with fail
 refine(YW p s Qe st w h).mono ?_;rintro e w1 ⟨rfl,hp1,hk1⟩;have hs1:=hs.kp hk1 (fun x=>hne x);have hk1':Kp (fun k=>k=p∨k=q) w w1:=hk1.mono (fun _ _ x=> .inl x);obtain⟨y0,y1,y2,y3,y4,_,_,_,_⟩:=hp1.cells;rw[hB1.out] at y2;go_wp2_with fail
 refine(YN 45 p s _ w1 hp1).mono ?_;rintro e w2 ⟨rfl,hp2,hk2⟩;rw[hI.out];rw[hIS.out] at hp2;have hs2:=hs1.kp hk2 (fun x=>hne x);have hk2':Kp (fun k=>k=p∨k=q) w w2:=hk1'.trans (hk2.mono (fun _ _ x=> .inl x));clear y0 y1 y2 y3 y4;obtain⟨z0,z1,z2,z3,z4,_,_,_,_⟩:=hp2.cells;go_wp2_with fail
 refine(YW p s Qe _ w2 hp2).mono ?_;rintro e w3 ⟨rfl,hp3,hk3⟩;have hs3:=hs2.kp hk3 (fun x=>hne x);have hk3':Kp (fun k=>k=p∨k=q) w w3:=hk2'.trans (hk3.mono (fun _ _ x=> .inl x));have hat:(Qp s Qe st).next.at_≤s.size:=hp2.2.1;clear z0 z1 z2 z3 z4;obtain⟨z0,z1,z2,z3,z4,zf,_,_,_⟩:=hp3.cells;rw[hB3.out] at z2;have hp4:=hp3.at (Qp s Qe st).next.at_ hat;have hs4:=hs3.kp (K1.set (p:=p) (o:=1) (.int .i64 (Qp s Qe st).next.at_)) (fun x=>hne x);go_wp2_with fail
 refine(YT p s _ _ hp4).mono ?_;rintro e w5 ⟨_,rfl,_,hp5,hk5⟩;have hs5:=hs4.kp hk5 (fun x=>hne x);have hk5':Kp (fun k=>k=p∨k=q) w w5:=(hk3'.setCell (p:=⟨p,1,none⟩) (fun _=> .inl rfl) _).trans (hk5.mono (fun _ _ x=> .inl x));have hp6:Pat w5 p s ((Qp s Qe (Qp s Qe st).next).back ((Qp s Qe st).at_+1)):=hp5;clear z0 z1 z2 z3 z4 zf;have hhi9:=YU s Qe (Qp s Qe st).next;generalize QJ s Qe (Qp s Qe st).next=hi at*;generalize QJ s Qe st=lo at*;obtain⟨x0,x1,x2,x3,x4,_,_,_,_⟩:=hp6.cells;rw[hBad.out] at x2;go_wp2_with fail
 clear x0 x1 x2 x3 x4;go_loopw [7] (fun b wr=>b= .int .i64 (lo:Int)∧Pat wr p s (Qz s st)∧SetAt wr q ws∧Kp (fun k=>k=p∨k=q) w wr) (fun _ _=>0)
 case atStart=>exact⟨rfl,by rw[hS.out];exact hp6,hs5,hk5'⟩
 case round=>
  obtain⟨rfl,PY,SY,KY⟩:=hrel;obtain⟨x0,x1,x2,x3,x4,_,_,_,_⟩:=PY.cells;rw[hS.out,hBad.out] at x2;by_cases hlh:(lo:Int)≤hi
  ·first
   |(exfalso;omega)
   |(go_wp2_with fail
     go_end0
     exact⟨rfl,PY,by rw[hW.out];exact SY,KY⟩)
  ·go_wp2_with fail
   go_end0
   exact⟨rfl,PY,by rw[hW.out];exact SY,KY⟩
theorem span_c5(p q:Nat)(hne:q≠p)(s:ByteArray)(st:PS)(ws:W4)(w:World)(h:Pat w p s st)(hs:SetAt w q ws)(hR:QV s st=true)(hb:(Qp s Qe (Qp s Qe st).next).bad=false)(hlt:¬QW s st<QJ s Qe st):
  Calls Tryz.prog 365 #[ptr p,ptr q] w fun e w'=>e= .returned (.tuple #[])∧Pat w' p s (Qz s st)∧SetAt w' q (Yg s st ws)∧Kp (fun k=>k=p∨k=q) w w':=by
 have hsz:=h.2.2;have hlo:=YU s Qe st;have hhi:=spanHi_lt s st;have hRb:(Qp s Qe st).bad=false∧isB s 45 (Qp s Qe st)=true:=by simpa[QV] using hR
 have hB1:=Qh hRb.1;have hI:=Qh hRb.2;have hH:Hid (QW s st=QJ s Qe (isS s 45 (Qp s Qe st))):=Qh (by simp[QW,hR]);have hIS:Hid (isS s 45 (Qp s Qe st)=(Qp s Qe st).next):=Qh (by simp[isS,hI.out]);have hSe:Hid (Qz s st=if !(Qp s Qe (Qp s Qe st).next).bad&&decide (QW s st<QJ s Qe st) then(Qp s Qe (Qp s Qe st).next).back ((Qp s Qe st).at_+1) else Qp s Qe (Qp s Qe st).next):=
  Qh (by simp only[Qz,hR,if_true,hIS.out])
 have hWe:Hid (Yg s st ws=if(Qz s st).bad then ws else ws.addTo (QJ s Qe st) (QW s st)):=Qh rfl;clear hR hRb;have hB3:=Qh hb;have hS:Hid (Qz s st=Qp s Qe (Qp s Qe st).next):=Qh (by rw[hSe.out];simp[hlt]);have hBad:=hB3;have hW:Hid (Yg s st ws=ws.addTo (QJ s Qe st) (QJ s Qe (Qp s Qe st).next)):=Qh (by rw[hWe.out,hS.out,hb,hH.out,hIS.out];try rfl);have hlt':¬((QJ s Qe (Qp s Qe st).next:Nat):Int)<(QJ s Qe st:Nat):=by rw[←hIS.out,←hH.out];omega
 have hhi':QJ s Qe (Qp s Qe st).next<256:=YU _ _ _;clear hb hlt;go_enter Tryz.func365,Tryz.ntmps365;go_wp2_with fail
 refine(YW p s Qe st w h).mono ?_;rintro e w1 ⟨rfl,hp1,hk1⟩;have hs1:=hs.kp hk1 (fun x=>hne x);have hk1':Kp (fun k=>k=p∨k=q) w w1:=hk1.mono (fun _ _ x=> .inl x);obtain⟨y0,y1,y2,y3,y4,_,_,_,_⟩:=hp1.cells;rw[hB1.out] at y2;go_wp2_with fail
 refine(YN 45 p s _ w1 hp1).mono ?_;rintro e w2 ⟨rfl,hp2,hk2⟩;rw[hI.out];rw[hIS.out] at hp2;have hs2:=hs1.kp hk2 (fun x=>hne x);have hk2':Kp (fun k=>k=p∨k=q) w w2:=hk1'.trans (hk2.mono (fun _ _ x=> .inl x));clear y0 y1 y2 y3 y4;obtain⟨z0,z1,z2,z3,z4,_,_,_,_⟩:=hp2.cells;go_wp2_with fail
 refine(YW p s Qe _ w2 hp2).mono ?_;rintro e w3 ⟨rfl,hp3,hk3⟩;have hs3:=hs2.kp hk3 (fun x=>hne x);have hk3':Kp (fun k=>k=p∨k=q) w w3:=hk2'.trans (hk3.mono (fun _ _ x=> .inl x));clear z0 z1 z2 z3 z4;generalize QJ s Qe (Qp s Qe st).next=hi at*;generalize QJ s Qe st=lo at*;obtain⟨x0,x1,x2,x3,x4,_,_,_,_⟩:=hp3.cells;rw[hBad.out] at x2;go_wp2_with fail
 go_loopw [7] (fun b wr=>∃i:Nat,lo+i≤256∧(i=0∨lo+i≤hi+1)∧b= .int .i64 ((lo+i:Nat):Int)∧Pat wr p s (Qp s Qe (Qp s Qe st).next)∧SetAt wr q (addN ws lo i)∧Kp (fun k=>k=p∨k=q) w wr) (fun b _=>256-(intOf b).toNat)
 case atStart=>exact⟨0,by omega,.inl rfl,rfl,hp3,hs3,hk3'⟩
 case round=>
  clear x0 x1 x2 x3 x4;obtain⟨i,hi1,hi2,rfl,PY,SY,KY⟩:=hrel;obtain⟨x0,x1,x2,x3,x4,_,_,_,_⟩:=PY.cells;rw[hBad.out] at x2;by_cases hle:lo+i≤hi
  ·have hle':((lo+i:Nat):Int)≤hi:=by omega
   have hlt':((lo+i:Nat):Int)<256:=by omega
   have hg:=SY.get ((lo+i)/64) (by omega);have hfz:wr.frozen? ⟨q,(lo+i)/64,none⟩=false:=Qd SY _;have hsp:=SY.put ((lo+i)/64) (by omega) (bits .or .u64 ((addN ws lo i).get ((lo+i)/64)) (IntKind.u64.wrap (2^((lo+i)%64))));have hsu:Hid (addN ws lo (i+1)=(addN ws lo i).put ((lo+i)/64) (bits .or .u64 ((addN ws lo i).get ((lo+i)/64)) (IntKind.u64.wrap (2^((lo+i)%64))))):=Qh (addN_succ ws lo i);have hne':p≠q:=fun x=>hne x.symm
   obtain⟨j,hj⟩:∃j,j=lo+i:=⟨_,rfl⟩;rw[←hj] at hle' hlt' hg hfz hsp hsu;rw[←hj];have hj':=Qh hj;clear hj;have hjq:(j:Int)/64<4:=by omega
   have hjq0:(0:Int)≤(j:Int)/64:=by omega
   go_wp2_with fail
   go_region
   all_goals
    go_wp2_with fail
    go_roundw
    case rel=>
     have hjj:=hj'.out;refine⟨i+1,by omega,.inr (by omega),by rw[hjj];go_num,?_,?_,?_⟩
     ·exact⟨(Yd PY.1 hne' _ _),PY.2⟩
     ·rw[hsu.out];exact hsp
     ·exact(KY.drewN 1).setCell (p:=⟨q,j/64,none⟩) (fun _=> .inr rfl) _
    case measure=>simp[intOf];omega
  ·have hle':¬((lo+i:Nat):Int)≤hi:=by omega
   have hfi:Hid (addN ws lo i=ws.addTo lo hi):=Qh (by
    unfold addN W4.addTo;have:i=hi+1-lo:=by omega
    rw[this])
   go_wp2_with fail
   go_end0
   refine⟨rfl,?_,?_,KY⟩
   ·rw[hS.out];exact PY
   ·rw[hW.out,←hfi.out];exact SY
theorem span_c(p q:Nat)(hne:q≠p)(s:ByteArray)(st:PS)(ws:W4)(w:World)(h:Pat w p s st)(hs:SetAt w q ws):
  Calls Tryz.prog 365 #[ptr p,ptr q] w fun e w'=>e= .returned (.tuple #[])∧Pat w' p s (Qz s st)∧SetAt w' q (Yg s st ws)∧Kp (fun k=>k=p∨k=q) w w':=by
 cases hR:QV s st with
 |false=>
  cases hb:(Qp s Qe st).bad with
  |true=>exact span_c1 p q hne s st ws w h hs hR hb
  |false=>exact span_c2 p q hne s st ws w h hs hR hb
 |true=>
  cases hb:(Qp s Qe (Qp s Qe st).next).bad with
  |true=>exact span_c3 p q hne s st ws w h hs hR hb
  |false=>
   by_cases hlt:QW s st<QJ s Qe st
   ·exact span_c4 p q hne s st ws w h hs hR hb hlt
   ·exact span_c5 p q hne s st ws w h hs hR hb hlt
end Go.Proofs.YtiehgcfckhepaaaGreatDoor
namespace Go.Proofs.YtiehgcfckhepaaaGreatDoor
open Go.RowKit
def QR(s:ByteArray):Nat→PS→W4→PS×W4
 |0,st,ws=>(st,ws)
 |n+1,st,ws=>if st.bad then(st,ws) else if isB s 93 st then(isS s 93 st,ws) else QR s n (Qz s st) (Yg s st ws)
theorem escS_next(s sp:ByteArray)(st:PS)(h:(escS s sp st).bad=false):st.at_+1≤(escS s sp st).at_:=by
 unfold escS at*;split at h
 ·rename_i h0;rw[if_pos h0];split at h
  ·rename_i h1;rw[if_pos h1];simp[PS.next]
  ·rename_i h1;rw[if_neg h1];split at h
   ·rename_i h2;rw[if_pos h2];simp[PS.next]
   ·rename_i h2;rw[if_neg h2];split at h
    ·rename_i h3;rw[if_pos h3];simp[PS.next]
    ·rename_i h3;rw[if_neg h3];split at h
     ·rename_i h4;rw[if_pos h4];split at h
      ·rename_i h5;rw[h5] at h;cases h
      ·rename_i h5;rw[if_neg h5];have h6:(hexS s st).at_=st.at_+2:=by
        have:(hexS s st).bad=false:=by simpa using h5
        unfold hexS digitS at*;split at this
        ·rename_i h7;rw[if_pos h7];simp[PS.next]
        ·simp[PS.fail] at this
       unfold digitS at*;split at h
       ·rename_i h7;rw[if_pos h7];simp[PS.next];omega
       ·simp[PS.fail] at h
     ·rename_i h4;rw[if_neg h4];split at h
      ·rename_i h5;rw[if_pos h5];simp[PS.next]
      ·simp[PS.fail] at h
 ·simp[PS.fail] at h
theorem letS_next(s sp:ByteArray)(st:PS)(h:(Qp s sp st).bad=false):st.at_+1≤(Qp s sp st).at_:=by
 unfold Qp at*;split at h
 ·rename_i h0;rw[if_pos h0];split at h
  ·rename_i h1;rw[if_pos h1];have:=escS_next s sp st.next h;simp[PS.next] at*;omega
  ·rename_i h1;rw[if_neg h1];split at h
   ·rename_i h2;rw[if_pos h2];simp[PS.next]
   ·simp[PS.fail] at h
 ·simp[PS.fail] at h
theorem spanS_next(s:ByteArray)(st:PS)(h:(Qz s st).bad=false):st.at_+1≤(Qz s st).at_:=by
 unfold Qz at*;simp only at h⊢;split at h
 ·rename_i h0;rw[if_pos h0];have h1:(Qp s Qe st).bad=false∧isB s 45 (Qp s Qe st)=true:=by simpa[QV] using h0
  have h2:=letS_next s Qe st h1.1;have h3:isS s 45 (Qp s Qe st)=(Qp s Qe st).next:=by simp[isS,h1.2]
  split at h
  ·simp[PS.back] at h
  ·rename_i h4;rw[if_neg h4];have h5:=letS_next s Qe _ h;rw[h3] at h5⊢;simp[PS.next] at*;omega
 ·rename_i h0;rw[if_neg h0];exact letS_next s Qe st h
theorem addTo_ok{s:W4}(h:s.ok)(lo hi:Nat):(s.addTo lo hi).ok:=addN_ok h lo _
theorem spanW_ok(s:ByteArray)(st:PS){ws:W4}(h:ws.ok):(Yg s st ws).ok:=by
 unfold Yg;split
 ·exact h
 ·exact addTo_ok h _ _
namespace W4
def flip(x:Int):Int:=18446744073709551615-x
def notN(s:W4)(k:Nat):W4:=⟨if 0<k then flip s.a else s.a,if 1<k then flip s.b else s.b,if 2<k then flip s.c else s.c,if 3<k then flip s.d else s.d⟩
def not(s:W4):W4:=⟨flip s.a,flip s.b,flip s.c,flip s.d⟩
theorem notN_zero(s:W4):s.notN 0=s:=by simp[notN]
theorem notN_succ(s:W4)(k:Nat)(h:k<4):s.notN (k+1)=(s.notN k).put k (flip (s.get k))∧(s.notN k).get k=s.get k:=by
 match k,h with
 |0,_=>exact⟨rfl,rfl⟩
 |1,_=>exact⟨rfl,rfl⟩
 |2,_=>exact⟨rfl,rfl⟩
 |3,_=>exact⟨rfl,rfl⟩
theorem not_ok{s:W4}(h:s.ok):s.not.ok:=by
 unfold ok not flip at*;simp only;omega
end W4
theorem SetAt.four{w:World}{q:Nat}{s:W4}(h:SetAt w q s):w.cell? ⟨q,0,none⟩=some (.int .u64 s.a)∧w.cell? ⟨q,1,none⟩=some (.int .u64 s.b)∧w.cell? ⟨q,2,none⟩=some (.int .u64 s.c)∧w.cell? ⟨q,3,none⟩=some (.int .u64 s.d):=
 ⟨Qa h 0,Qa h 1,Qa h 2,Qa h 3⟩
theorem xor_max(x:Int)(h:0≤x∧x<18446744073709551616):bits .xor .u64 (if IntKind.u64.signed=true then-1 else IntKind.u64.max) x=W4.flip x:=by
 obtain⟨n,rfl⟩:=Int.eq_ofNat_of_zero_le h.1;have hn:n<18446744073709551616:=by omega
 have e:(if IntKind.u64.signed=true then-1 else IntKind.u64.max)=((18446744073709551615:Nat):Int):=by decide
 rw[e,bits_xor_u64_nat _ _ (by omega) hn];have key:(18446744073709551615:Nat)^^^n=18446744073709551615-n:=by
  apply Nat.eq_of_testBit_eq;intro i;rw[Nat.testBit_xor];have h1:Nat.testBit 18446744073709551615 i=decide (i<64):=Nat.testBit_two_pow_sub_one 64 i;have h2:Nat.testBit (18446744073709551615-n) i=(decide (i<64)&& !Nat.testBit n i):=by
   have:=Nat.testBit_two_pow_sub_succ (n:=64) (x:=n) (by simpa using hn) i;rw[←this];congr 1;omega
  rw[h1,h2];by_cases hi:i<64
  ·simp[hi]
  ·have:Nat.testBit n i=false:=Nat.testBit_lt_two_pow (Nat.lt_of_lt_of_le hn (by have:=Nat.pow_le_pow_right (n:=2) (by decide) (show 64≤i by omega);omega));simp[hi,this]
 rw[key];unfold W4.flip;omega
theorem SetOf_c(ws:W4)(hok:ws.ok)(w:World):
  Calls Tryz.prog 329 #[.agg (YH ws)] w fun e w'=>∃q:Nat,e= .returned (ptr q)∧NodeAt w' (.set ws) q∧Kn w w':=
 (Set_c ws w).mono fun _ _ ⟨he,hw⟩=>⟨_,he,by
  rw[hw];refine⟨hok,?_⟩;have:=Qf (w.alloc (.cells (YH ws) 404)) (Yf 0 ws sl0);simpa using this,by rw[hw];exact((Qb _ w).alloc _).alloc _⟩
def clsR(s:ByteArray)(st:PS):PS×W4:=
 let st1:=isS s 94 st;let r:=QR s (s.size+2) (Qz s st1) (Yg s st1 W4.zero)
 (r.1,if isB s 94 st then r.2.not else r.2)
theorem class_c(p:Nat)(s:ByteArray)(st:PS)(w:World)(h:Pat w p s st):
  Calls Tryz.prog 358 #[ptr p] w fun e w'=>∃q:Nat,e= .returned (ptr q)∧NodeAt w' (.set (clsR s st).2) q∧Pat w' p s (clsR s st).1∧K1 p w w':=by
 have hpl:=h.lt;have hR:Hid ((clsR s st).1=(QR s (s.size+2) (Qz s (isS s 94 st)) (Yg s (isS s 94 st) W4.zero)).1):=Qh rfl;have hRW:Hid ((clsR s st).2=if isB s 94 st then(QR s (s.size+2) (Qz s (isS s 94 st)) (Yg s (isS s 94 st) W4.zero)).2.not else(QR s (s.size+2) (Qz s (isS s 94 st)) (Yg s (isS s 94 st) W4.zero)).2):=Qh rfl;go_enter Tryz.func358,Tryz.ntmps358;go_wp2_with fail
 refine(YN 94 p s st w h).mono ?_;rintro e w1 ⟨rfl,hp1,hk1⟩;have hpl1:p<w1.heap.size:=hk1.lt hpl;have hne:w1.heap.size≠p:=by omega
 have hs2:SetAt (w1.alloc (.cells (YH W4.zero) 404)) w1.heap.size W4.zero:=Qf w1 _;have hp2:=hp1.kn ((Qb _ w1).alloc (.cells (YH W4.zero) 404));have hk2:K1 p w (w1.alloc (.cells (YH W4.zero) 404)):=hk1.alloc _;go_wp2_with fail
 refine(span_c p w1.heap.size hne s _ W4.zero _ hp2 hs2).mono ?_;rintro e w3 ⟨rfl,hp3,hs3,hk3⟩;have hql:w.heap.size≤w1.heap.size:=hk1.size;have hk3':K1 p w w3:=hk2.trans' hk3 (fun i hi x=>x.elim id (fun e=>by omega));have hok3:=spanW_ok s (isS s 94 st) zero_ok;have hn3:(Qz s (isS s 94 st)).bad=true∨s.size-(Qz s (isS s 94 st)).at_<s.size+2:= .inr (by omega);generalize hg1:Qz s (isS s 94 st)=st3 at*;generalize hg2:Yg s (isS s 94 st) W4.zero=ws3 at*;clear hg1 hg2;obtain⟨B,hB⟩:∃B,B=w1.heap.size:=⟨_,rfl⟩;rw[←hB] at hs3 hql hne;rw[←hB];have hB':=Qh hB;clear hB hs2 hk2 hk3 hp2;go_wp2_with fail
 go_loopg [] (s.size+2) (fun n wr=>∃(st':PS) (ws':W4),Hid (QR s n st' ws'=QR s (s.size+2) st3 ws3)∧(st'.bad=true∨s.size-st'.at_<n)∧ws'.ok∧Pat wr p s st'∧SetAt wr B ws'∧K1 p w wr)
 case atStart=>exact⟨st3,ws3,Qh rfl,hn3,hok3,hp3,hs3,hk3'⟩
 case round=>
  obtain⟨st',ws',hcl,hn,hok,hp4,hs4,hk4⟩:=hrel;obtain⟨x0,x1,x2,x3,x4,_,_,_,_⟩:=hp4.cells;cases hbad:st'.bad with
  |true=>
   have hBad:=Qh hbad;have hE0:Hid ((st',ws')=QR s (s.size+2) st3 ws3):=Qh (by
    rw[←hcl.out];cases gk with
    |zero=>rfl
    |succ n=>simp[QR,hBad.out])
   rw[hbad] at x2;clear hbad hn;have PX:=hp4;have SX:=hs4;have KX:=hk4;have hE1:Hid ((clsR s st).1=st'):=Qh (by rw[hR.out,←hE0.out]);cases hnot:isB s 94 st with
   |false=>
    have hE2:Hid ((clsR s st).2=ws'):=Qh (by rw[hRW.out,←hE0.out,hnot];try rfl);obtain⟨v0,v1,v2,v3⟩:=SX.four;go_wp2_with fail
    refine(SetOf_c ws' hok _).mono ?_;rintro e w5 ⟨q5,rfl,hq5,hk5⟩;go_wp2_with fail
    go_ret;exact⟨q5,rfl,by rw[hE2.out];exact hq5,by rw[hE1.out];exact PX.kn hk5,KX.trans hk5.weak⟩
   |true=>
    have hE2:Hid ((clsR s st).2=(ws').not):=Qh (by rw[hRW.out,←hE0.out,hnot];try rfl);go_wp2_with fail
    go_loopw [27] (fun i wr=>∃k:Nat,k≤4∧i= .int .i64 k∧SetAt wr B ((ws').notN k)∧Pat wr p s st'∧K1 p w wr) (fun i _=>4-(intOf i).toNat)
    case atStart=>exact⟨0,by omega,rfl,by rw[W4.notN_zero];exact SX,PX,KX⟩
    case round=>
     obtain⟨k,hk4,rfl,SY,PY,KY⟩:=hrel;by_cases hlt:k<4
     ·have hlt':(k:Int)<4:=by omega
      obtain⟨hn1,hn2⟩:=W4.notN_succ ws' k hlt;have hg:=SY.get k hlt;rw[hn2] at hg;have hfz:wr.frozen? ⟨B,k,none⟩=false:=Qd SY _;have hsp:=SY.put k hlt (W4.flip ((ws').get k));rw[←hn1] at hsp;have hgr:=get_range hok k;clear hn1 hn2;generalize (ws').get k=x at*;go_wp2_with fail
      go_roundw
      case rel=>
       refine⟨k+1,by omega,by go_num,?_,?_,?_⟩
       ·rw[xor_max x hgr];exact hsp
       ·exact⟨Yd PY.1 (Ne.symm hne) _ _,PY.2⟩
       ·exact KY.setCell (p:=⟨B,k,none⟩) (fun hx=>absurd (show B<w.heap.size from hx) (by omega)) _
      case measure=>simp[intOf];omega
     ·have hk:k=4:=by omega
      have hE3:Hid ((ws').notN k=(ws').not):=Qh (by rw[hk];try rfl);rw[hE3.out] at SY;obtain⟨v0,v1,v2,v3⟩:=SY.four;go_wp2_with fail
      refine(SetOf_c (ws').not (W4.not_ok hok) _).mono ?_;rintro e w5 ⟨q5,rfl,hq5,hk5⟩;go_wp2_with fail
      go_ret;exact⟨q5,rfl,by rw[hE2.out];exact hq5,by rw[hE1.out];exact PY.kn hk5,KY.trans hk5.weak⟩
  |false=>
   have hBad:=Qh hbad;have hn':s.size-st'.at_<gk:=by
    rcases hn with h|h
    ·rw[hbad] at h;cases h
    ·exact h
   rw[hbad] at x2;clear hbad hn;obtain⟨m,hm⟩:∃m,gk=m+1:=⟨gk-1,by omega⟩;have hm':=Qh hm;clear hm;cases hi:isB s 93 st' with
   |true=>
    have hI:=Qh hi;have hE0:Hid ((isS s 93 st',ws')=QR s (s.size+2) st3 ws3):=Qh (by
     rw[←hcl.out,hm'.out];simp[QR,hBad.out,hI.out])
    clear hi;go_wp2_with fail
    refine(YN 93 p s st' wr hp4).mono ?_;rintro e w4 ⟨rfl,hp5,hk5⟩;rw[hI.out];have hs5:=hs4.kp hk5 (fun x=>hne x);have hk5':=hk4.trans hk5;clear x0 x1 x2 x3 x4;have PX:=hp5;have SX:=hs5;have KX:=hk5';have hE1:Hid ((clsR s st).1=(isS s 93 st')):=Qh (by rw[hR.out,←hE0.out]);cases hnot:isB s 94 st with
    |false=>
     have hE2:Hid ((clsR s st).2=ws'):=Qh (by rw[hRW.out,←hE0.out,hnot];try rfl);obtain⟨v0,v1,v2,v3⟩:=SX.four;go_wp2_with fail
     refine(SetOf_c ws' hok _).mono ?_;rintro e w5 ⟨q5,rfl,hq5,hk5⟩;go_wp2_with fail
     go_ret;exact⟨q5,rfl,by rw[hE2.out];exact hq5,by rw[hE1.out];exact PX.kn hk5,KX.trans hk5.weak⟩
    |true=>
     have hE2:Hid ((clsR s st).2=(ws').not):=Qh (by rw[hRW.out,←hE0.out,hnot];try rfl);go_wp2_with fail
     go_loopw [27] (fun i wr=>∃k:Nat,k≤4∧i= .int .i64 k∧SetAt wr B ((ws').notN k)∧Pat wr p s (isS s 93 st')∧K1 p w wr) (fun i _=>4-(intOf i).toNat)
     case atStart=>exact⟨0,by omega,rfl,by rw[W4.notN_zero];exact SX,PX,KX⟩
     case round=>
      obtain⟨k,hk4,rfl,SY,PY,KY⟩:=hrel;by_cases hlt:k<4
      ·have hlt':(k:Int)<4:=by omega
       obtain⟨hn1,hn2⟩:=W4.notN_succ ws' k hlt;have hg:=SY.get k hlt;rw[hn2] at hg;have hfz:wr.frozen? ⟨B,k,none⟩=false:=Qd SY _;have hsp:=SY.put k hlt (W4.flip ((ws').get k));rw[←hn1] at hsp;have hgr:=get_range hok k;clear hn1 hn2;generalize (ws').get k=x at*;go_wp2_with fail
       go_roundw
       case rel=>
        refine⟨k+1,by omega,by go_num,?_,?_,?_⟩
        ·rw[xor_max x hgr];exact hsp
        ·exact⟨Yd PY.1 (Ne.symm hne) _ _,PY.2⟩
        ·exact KY.setCell (p:=⟨B,k,none⟩) (fun hx=>absurd (show B<w.heap.size from hx) (by omega)) _
       case measure=>simp[intOf];omega
      ·have hk:k=4:=by omega
       have hE3:Hid ((ws').notN k=(ws').not):=Qh (by rw[hk];try rfl);rw[hE3.out] at SY;obtain⟨v0,v1,v2,v3⟩:=SY.four;go_wp2_with fail
       refine(SetOf_c (ws').not (W4.not_ok hok) _).mono ?_;rintro e w5 ⟨q5,rfl,hq5,hk5⟩;go_wp2_with fail
       go_ret;exact⟨q5,rfl,by rw[hE2.out];exact hq5,by rw[hE1.out];exact PY.kn hk5,KY.trans hk5.weak⟩
   |false=>
    have hI:=Qh hi;have hcl':Hid (QR s m (Qz s st') (Yg s st' ws')=QR s (s.size+2) st3 ws3):=Qh (by
     rw[←hcl.out,hm'.out];simp[QR,hBad.out,hI.out])
    have hIS:Hid (isS s 93 st'=st'):=Qh (by simp[isS,hI.out]);clear hi;go_wp2_with fail
    refine(YN 93 p s st' wr hp4).mono ?_;rintro e w4 ⟨rfl,hp5,hk5⟩;rw[hI.out];rw[hIS.out] at hp5;have hs5:=hs4.kp hk5 (fun x=>hne x);have hk5':=hk4.trans hk5;clear x0 x1 x2 x3 x4;go_wp2_with fail
    refine(span_c p B hne s st' ws' _ hp5 hs5).mono ?_;rintro e w6 ⟨rfl,hp6,hs6,hk6⟩;have hk6':K1 p w w6:=hk5'.trans' hk6 (fun i hi x=>x.elim id (fun e=>by omega));have hnx:(Qz s st').bad=true∨s.size-(Qz s st').at_<m:=by
     cases hx:(Qz s st').bad with
     |true=>exact .inl rfl
     |false=>
      have h1:=spanS_next s st' hx;have h2:=hp6.2.1;have h3:=hm'.out;exact .inr (by omega)
    have hnx':=Qh hnx;clear hnx;go_wp2_with fail
    go_roundg m
    case measure=>have h3:=hm'.out;omega
    case rel=>exact⟨Qz s st',Yg s st' ws',hcl',hnx'.out,spanW_ok s st' hok,hp6,hs6,hk6'⟩
end Go.Proofs.YtiehgcfckhepaaaGreatDoor
namespace Go.Proofs.YtiehgcfckhepaaaGreatDoor
open Go.RowKit
namespace PS
def deeper(st:PS):PS:= {st with deep:=st.deep+1}
def upper(st:PS):PS:= {st with deep:=st.deep-1}
end PS
def dotW:W4:=(W4.one 10).not
def atomF(orF:PS→Rw×PS)(s:ByteArray)(st:PS):Rw×PS:=
 if isB s 40 st then
  let st2:=st.next.deeper
  if 50<st2.deep then(.empty,st2.stop)
  else
   let r:=orF st2
   if r.2.bad then(r.1,r.2.upper)
   else if isB s 41 r.2 then(r.1,r.2.next.upper) else(.empty,r.2.fail)
 else if isB s 46 st then(.set dotW,st.next)
 else if isB s 91 st then(.set (clsR s st.next).2,(clsR s st.next).1)
 else(.set (W4.one (QJ s QF st)),Qp s QF st)
def QO(s:ByteArray):Nat→Rw→PS→Rw×PS
 |0,n,st=>(n,st)
 |k+1,n,st=>
  if st.bad then(n,st)
  else if isB s 42 st then(if 400<(Re.star n).size then(.empty,st.next.stop) else QO s k (.star n) st.next)
  else if isB s 43 st then(if 400<(Re.cat n (.star n)).size then(.empty,st.next.stop) else QO s k (.cat n (.star n)) st.next)
  else if isB s 63 st then(if 400<(Re.or n .empty).size then(.empty,st.next.stop) else QO s k (.or n .empty) st.next)
  else(n,st)
def facF(atF:PS→Rw×PS)(s:ByteArray)(st:PS):Rw×PS:=QO s (s.size+2) (atF st).1 (atF st).2
def catEnd(s:ByteArray)(st:PS):Bool:= !decide (st.at_<s.size)||decide (bt s st.at_=124)||decide (bt s st.at_=41)
def QQ(fcF:PS→Rw×PS)(s:ByteArray):Nat→List Rw→PS→List Rw×PS
 |0,l,st=>(l,st)
 |k+1,l,st=>if st.bad then(l,st) else if catEnd s st then(l,st) else QQ fcF s k (l++[(fcF st).1]) (fcF st).2
def catF(fcF:PS→Rw×PS)(s:ByteArray)(st:PS):Rw×PS:=(Re.two .cat .empty (QQ fcF s (s.size+2) [] st).1,(QQ fcF s (s.size+2) [] st).2)
def Ye(ctF:PS→Rw×PS)(s:ByteArray):Nat→List Rw→PS→List Rw×PS
 |0,l,st=>(l,st)
 |k+1,l,st=>if st.bad then(l,st) else if isB s 124 st then Ye ctF s k (l++[(ctF st.next).1]) (ctF st.next).2 else(l,st)
def orF(ctF:PS→Rw×PS)(s:ByteArray)(st:PS):Rw×PS:=(Re.two .or Rw.none (Ye ctF s (s.size+2) [(ctF st).1] (ctF st).2).1,(Ye ctF s (s.size+2) [(ctF st).1] (ctF st).2).2)
def orN(s:ByteArray):Nat→PS→Rw×PS
 |0,st=>(.empty,st)
 |n+1,st=>orF (catF (facF (atomF (orN s n) s) s) s) s st
abbrev atN(s:ByteArray)(n:Nat):PS→Rw×PS:=atomF (orN s n) s
abbrev fcN(s:ByteArray)(n:Nat):PS→Rw×PS:=facF (atN s n) s
abbrev ctN(s:ByteArray)(n:Nat):PS→Rw×PS:=catF (fcN s n) s
structure Kept9 (st:PS) (r:Rw×PS) (d e:Nat):Prop where
 lo:st.deep≤r.2.deep
 hi:r.2.deep≤st.deep+1
 ok:r.2.bad=false→r.2.deep=st.deep∧st.at_+d≤r.2.at_∧r.1.size+e≤402*(r.2.at_-st.at_)+1
def Good(s:ByteArray)(f:PS→Rw×PS)(d e:Nat):Prop:=∀st,st.bad=false→0≤st.deep→st.deep≤50→Kept9 st (f st) d e
theorem isB_next{s:ByteArray}{b:Nat}{st:PS}(h:isB s b st=true):isS s b st=st.next:=by simp[isS,h]
theorem isB_not{s:ByteArray}{b:Nat}{st:PS}(h:isB s b st=false):isS s b st=st:=by simp[isS,h]
theorem digitS_deep(s:ByteArray)(st:PS):(digitS s st).deep=st.deep:=by unfold digitS;split<;>rfl
theorem escS_deep(s sp:ByteArray)(st:PS):(escS s sp st).deep=st.deep:=by
 have h1:(hexS s st).deep=st.deep:=digitS_deep s st.next;have h2:=digitS_deep s (hexS s st);unfold escS
 (repeat' split)<;>first|rfl|exact h1|exact h2.trans h1
theorem letS_deep(s sp:ByteArray)(st:PS):(Qp s sp st).deep=st.deep:=by
 have h1:=escS_deep s sp st.next;unfold Qp
 (repeat' split)<;>first|rfl|exact h1
theorem isS_deep(s:ByteArray)(b:Nat)(st:PS):(isS s b st).deep=st.deep:=by unfold isS;split<;>rfl
theorem spanS_deep(s:ByteArray)(st:PS):(Qz s st).deep=st.deep:=by
 unfold Qz;simp only;split
 ·split
  ·show(Qp s Qe (isS s 45 (Qp s Qe st))).deep=_;rw[letS_deep,isS_deep,letS_deep]
  ·rw[letS_deep,isS_deep,letS_deep]
 ·exact letS_deep _ _ _
theorem clsLoop_deep(s:ByteArray)(n:Nat):∀(st:PS) (ws:W4),(QR s n st ws).1.deep=st.deep:=by
 induction n with
 |zero=>intro st ws;rfl
 |succ n ih=>
  intro st ws;rw[QR];split
  ·rfl
  ·split
   ·exact isS_deep _ _ _
   ·rw[ih,spanS_deep]
theorem clsR_deep(s:ByteArray)(st:PS):(clsR s st).1.deep=st.deep:=by
 unfold clsR;simp only;rw[clsLoop_deep,spanS_deep,isS_deep]
theorem isS_at(s:ByteArray)(b:Nat)(st:PS):st.at_≤(isS s b st).at_:=by unfold isS;split<;>simp[PS.next]
theorem clsLoop_at(s:ByteArray)(n:Nat):∀(st:PS) (ws:W4),(QR s n st ws).1.bad=false→st.bad=false∧st.at_≤(QR s n st ws).1.at_:=by
 induction n with
 |zero=>intro st ws h;exact⟨h,Nat.le_refl _⟩
 |succ n ih=>
  intro st ws h;rw[QR] at h⊢;split at h
  ·rename_i h1;rw[h] at h1;cases h1
  ·rename_i h1;rw[if_neg h1];have hb:st.bad=false:=by simpa using h1
   refine⟨hb,?_⟩;split at h
   ·rename_i h2;rw[if_pos h2];exact isS_at _ _ _
   ·rename_i h2;rw[if_neg h2];obtain⟨h3,h4⟩:=ih _ _ h;have:=spanS_next s st h3;omega
theorem clsR_at(s:ByteArray)(st:PS)(h:(clsR s st).1.bad=false):st.at_+1≤(clsR s st).1.at_:=by
 unfold clsR at*;simp only at h⊢;obtain⟨h1,h2⟩:=clsLoop_at s _ _ _ h;have:=spanS_next s _ h1;have:=isS_at s 94 st;omega
theorem atom_good{s:ByteArray}{g:PS→Rw×PS}(hg:Good s g 0 0):Good s (atomF g s) 1 2:=by
 intro st hb h0 h50;unfold atomF;split
 ·simp only;split
  ·exact⟨by simp[PS.stop,PS.deeper,PS.next];omega,by simp[PS.stop,PS.deeper,PS.next],fun h=>by simp[PS.stop] at h⟩
  ·rename_i h1;have h1':st.deep+1≤50:=by simp[PS.deeper,PS.next] at h1;omega
   have hk:=hg st.next.deeper hb (by simp[PS.deeper,PS.next];omega) (by simp[PS.deeper,PS.next];omega);have k1:=hk.lo;have k2:=hk.hi;simp only[PS.deeper,PS.next] at k1 k2;split
   ·rename_i h2;refine⟨by simp only[PS.upper,PS.deeper,PS.next];omega,by simp only[PS.upper,PS.deeper,PS.next];omega,fun h=> ?_⟩;simp only[PS.upper] at h;rw[h] at h2;cases h2
   ·rename_i h2;have h2':(g st.next.deeper).2.bad=false:=by simpa using h2
    obtain⟨k3,k4,k5⟩:=hk.ok h2';simp only[PS.deeper,PS.next] at k3 k4 k5;split
    ·refine⟨by simp only[PS.upper,PS.deeper,PS.next];omega,by simp only[PS.upper,PS.deeper,PS.next];omega,fun h=>⟨?_,?_,?_⟩⟩
     ·simp only[PS.upper,PS.deeper,PS.next];omega
     ·simp only[PS.upper,PS.deeper,PS.next];omega
     ·simp only[PS.upper,PS.deeper,PS.next];omega
    ·refine⟨by simp only[PS.fail,PS.deeper,PS.next];omega,by simp only[PS.fail,PS.deeper,PS.next];omega,fun h=>by simp[PS.fail] at h⟩
 ·split
  ·exact⟨Int.le_refl _,by simp only[PS.next];omega,fun _=>⟨rfl,by simp[PS.next],by simp[PS.next,Re.size]⟩⟩
  ·split
   ·have e:=clsR_deep s st.next;have e':st.next.deep=st.deep:=rfl;refine⟨by show _≤(clsR s st.next).1.deep;omega,by show(clsR s st.next).1.deep≤_;omega,fun h=> ?_⟩;have:=clsR_at s st.next h;have e'':st.next.at_=st.at_+1:=rfl;exact⟨by show(clsR s st.next).1.deep=_;omega,by show _≤(clsR s st.next).1.at_;omega,by simp only[Re.size];omega⟩
   ·have e:=letS_deep s QF st;refine⟨by show _≤(Qp s QF st).deep;omega,by show(Qp s QF st).deep≤_;omega,fun h=> ?_⟩;have:=letS_next s QF st h;exact⟨e,this,by simp only[Re.size];omega⟩
theorem facLoop_good(s:ByteArray)(k:Nat):∀(n:Rw) (st st0:PS),Kept9 st0 (n,st) 1 2→Kept9 st0 (QO s k n st) 1 2:=by
 induction k with
 |zero=>intro n st st0 h;exact h
 |succ k ih=>
  intro n st st0 h;have h1:=h.lo;have h2:=h.hi;simp only at h1 h2;rw[QO];split
  ·exact h
  ·rename_i hb;have hb':st.bad=false:=by simpa using hb
   obtain⟨k3,k4,k5⟩:=h.ok hb';simp only at k3 k4 k5;have hstop:∀(t:Rw),Kept9 st0 (t,st.next.stop) 1 2:=fun t=>⟨h1,h2,fun h=>by simp[PS.stop] at h⟩
   have hgo:∀(t:Rw),¬400<t.size→Kept9 st0 (t,st.next) 1 2:=fun t ht=>⟨h1,h2,fun _=>⟨k3,by simp only[PS.next];omega,by simp only[PS.next];omega⟩⟩
   split
   ·split
    ·exact hstop _
    ·rename_i h400;exact ih _ _ _ (hgo _ h400)
   ·split
    ·split
     ·exact hstop _
     ·rename_i h400;exact ih _ _ _ (hgo _ h400)
    ·split
     ·split
      ·exact hstop _
      ·rename_i h400;exact ih _ _ _ (hgo _ h400)
     ·exact h
theorem fac_good{s:ByteArray}{g:PS→Rw×PS}(hg:Good s g 1 2):Good s (facF g s) 1 2:=by
 intro st hb h0 h50;exact facLoop_good s _ _ _ st (hg st hb h0 h50)
theorem two_size(f:Rw→Rw→Rw)(hf:∀x y,(f x y).size=1+x.size+y.size)(z:Rw):∀(l:List Rw),(Re.two f z l).size+1≤(l.map (fun t=>t.size+1)).sum+(if l=[] then z.size+1 else 0)
 |[]=>by simp[Re.two]
 |[x]=>by simp[Re.two]
 |x::y::l=>by
  have ih:=two_size f hf z (y::l);simp only[Re.two,hf];simp only[List.map_cons,List.sum_cons] at ih⊢;simp at ih⊢;omega
def wt(l:List Rw):Nat:=(l.map (fun t=>t.size+1)).sum
theorem wt_snoc(l:List Rw)(t:Rw):wt (l++[t])=wt l+(t.size+1):=by simp[wt]
theorem catLoop_good{s:ByteArray}{g:PS→Rw×PS}(hg:Good s g 1 2)(k:Nat):∀(l:List Rw) (st st0:PS),0≤st0.deep→st0.deep≤50→st0.deep≤st.deep→st.deep≤st0.deep+1→
  (st.bad=false→st.deep=st0.deep∧st0.at_≤st.at_∧wt l≤402*(st.at_-st0.at_))→
  (let r:=QQ g s k l st;st0.deep≤r.2.deep∧r.2.deep≤st0.deep+1∧(r.2.bad=false→r.2.deep=st0.deep∧st0.at_≤r.2.at_∧wt r.1≤402*(r.2.at_-st0.at_))):=by
 induction k with
 |zero=>intro l st st0 _ _ h1 h2 h3;exact⟨h1,h2,h3⟩
 |succ k ih=>
  intro l st st0 h0 h50 h1 h2 h3;rw[QQ];split
  ·exact⟨h1,h2,h3⟩
  ·rename_i hb;have hb':st.bad=false:=by simpa using hb
   obtain⟨k3,k4,k5⟩:=h3 hb';split
   ·exact⟨h1,h2,h3⟩
   ·have hk:=hg st hb' (by omega) (by omega);refine ih _ _ _ h0 h50 (by have:=hk.lo;omega) (by have:=hk.hi;omega) (fun hx=> ?_);obtain⟨q1,q2,q3⟩:=hk.ok hx;rw[wt_snoc];exact⟨by omega,by omega,by omega⟩
theorem cat_good{s:ByteArray}{g:PS→Rw×PS}(hg:Good s g 1 2):Good s (catF g s) 0 0:=by
 intro st hb h0 h50;obtain⟨a1,a2,a3⟩:=catLoop_good hg (s.size+2) [] st st h0 h50 (Int.le_refl _) (by omega) (fun _=>⟨rfl,Nat.le_refl _,by simp[wt]⟩);refine⟨a1,a2,fun hx=> ?_⟩;obtain⟨q1,q2,q3⟩:=a3 hx;refine⟨q1,q2,?_⟩;have hs:=two_size .cat (fun _ _=>rfl) .empty (QQ g s (s.size+2) [] st).1;unfold wt at q3;show(Re.two .cat .empty (QQ g s (s.size+2) [] st).1).size+0≤402*((QQ g s (s.size+2) [] st).2.at_-st.at_)+1;have hz:(Re.empty:Rw).size=1:=rfl;split at hs<;>omega
theorem orLoop_good{s:ByteArray}{g:PS→Rw×PS}(hg:Good s g 0 0)(k:Nat):∀(l:List Rw) (st st0:PS),0≤st0.deep→st0.deep≤50→st0.deep≤st.deep→st.deep≤st0.deep+1→
  (st.bad=false→st.deep=st0.deep∧st0.at_≤st.at_∧wt l≤402*(st.at_-st0.at_)+2)→
  (let r:=Ye g s k l st;st0.deep≤r.2.deep∧r.2.deep≤st0.deep+1∧(r.2.bad=false→r.2.deep=st0.deep∧st0.at_≤r.2.at_∧wt r.1≤402*(r.2.at_-st0.at_)+2)):=by
 induction k with
 |zero=>intro l st st0 _ _ h1 h2 h3;exact⟨h1,h2,h3⟩
 |succ k ih=>
  intro l st st0 h0 h50 h1 h2 h3;rw[Ye];split
  ·exact⟨h1,h2,h3⟩
  ·rename_i hb;have hb':st.bad=false:=by simpa using hb
   obtain⟨k3,k4,k5⟩:=h3 hb';split
   ·have hk:=hg st.next hb' (by simp only[PS.next];omega) (by simp only[PS.next];omega);have j1:=hk.lo;have j2:=hk.hi;simp only[PS.next] at j1 j2;refine ih _ _ _ h0 h50 (by simp only[PS.next];omega) (by simp only[PS.next];omega) (fun hx=> ?_);obtain⟨q1,q2,q3⟩:=hk.ok hx;simp only[PS.next] at q1 q2 q3;rw[wt_snoc];simp only[PS.next];exact⟨by omega,by omega,by omega⟩
   ·exact⟨h1,h2,h3⟩
theorem or_good{s:ByteArray}{g:PS→Rw×PS}(hg:Good s g 0 0):Good s (orF g s) 0 0:=by
 intro st hb h0 h50;have hk:=hg st hb h0 h50;obtain⟨a1,a2,a3⟩:=orLoop_good hg (s.size+2) [(g st).1] (g st).2 st h0 h50 hk.lo hk.hi (fun hx=>by
  obtain⟨q1,q2,q3⟩:=hk.ok hx;exact⟨q1,by omega,by simp[wt];omega⟩)
 refine⟨a1,a2,fun hx=> ?_⟩;obtain⟨q1,q2,q3⟩:=a3 hx;refine⟨q1,q2,?_⟩;have hs:=two_size .or (fun _ _=>rfl) Rw.none (Ye g s (s.size+2) [(g st).1] (g st).2).1;unfold wt at q3;show(Re.two .or Rw.none (Ye g s (s.size+2) [(g st).1] (g st).2).1).size+0≤402*((Ye g s (s.size+2) [(g st).1] (g st).2).2.at_-st.at_)+1;have hz:Rw.none.size=1:=rfl;split at hs
 ·rename_i hl;rw[hl];simp only[Re.two];omega
 ·omega
theorem orN_good(s:ByteArray)(n:Nat):Good s (orN s n) 0 0:=by
 induction n with
 |zero=>intro st hb h0 h50;exact⟨Int.le_refl _,by show st.deep≤_;omega,fun _=>⟨rfl,Nat.le_refl _,by simp[orN,Re.size]⟩⟩
 |succ n ih=>exact or_good (cat_good (fac_good (atom_good ih)))
theorem atN_good(s:ByteArray)(n:Nat):Good s (atN s n) 1 2:=atom_good (orN_good s n)
theorem fcN_good(s:ByteArray)(n:Nat):Good s (fcN s n) 1 2:=fac_good (atN_good s n)
theorem ctN_good(s:ByteArray)(n:Nat):Good s (ctN s n) 0 0:=cat_good (fcN_good s n)
def QN:PS:=⟨0,false,false,0⟩
def parseR(s:ByteArray):Rw×PS:=orN s (s.size+2) QN
inductive POut where
 |ok (t:Rw)
 |err (at_:Nat) (e:Int)
def YS(s:ByteArray):POut:=
 if(parseR s).2.long then .err 0 3
 else if(parseR s).2.bad||decide ((parseR s).2.at_<s.size) then .err (parseR s).2.at_ 4
 else if 400<(parseR s).1.size then .err 0 3
 else .ok (parseR s).1
end Go.Proofs.YtiehgcfckhepaaaGreatDoor
namespace Go.Proofs.YtiehgcfckhepaaaGreatDoor
open Go.RowKit
def RowZ(w:World)(B:Nat)(e:TypeId)(z:Value)(v:Value)(xs:List Value):Prop:=
 (v= .slice none 0 0∧xs=[])∨∃g cap k,v= .slice (some ⟨g,0,none⟩) xs.length cap∧B≤g∧cap=xs.length+k∧cap≤maxLen∧w.heap[g]? =some (.cells (xs++List.replicate k z).toArray e (0,0))
theorem RowZ.nil(w:World)(B:Nat)(e:TypeId)(z:Value):RowZ w B e z (.slice none 0 0) []:= .inl ⟨rfl,rfl⟩
theorem RowZ.new{w:World}{B:Nat}{e:TypeId}{z:Value}(xs:List Value)(hB:B≤w.heap.size)(hm:xs.length≤maxLen):RowZ (w.alloc (.cells xs.toArray e (0,0))) B e z (.slice (some ⟨w.heap.size,0,none⟩) xs.length xs.length) xs:=
 .inr ⟨w.heap.size,xs.length,0,rfl,hB,rfl,hm,by simpa using Qf w (.cells xs.toArray e (0,0))⟩
def Roomy(w:World)(e:TypeId)(z:Value)(k:Nat):Prop:=∃cs:List Value,w.heap[k]? =some (.cells (cs++[z]).toArray e (0,0))
theorem RowZ.kp{S:Nat→Prop}{w w':World}{B:Nat}{e:TypeId}{z v:Value}{xs:List Value}(h:RowZ w B e z v xs)(hk:Kp S w w')(hs:∀k,B≤k→k<w.heap.size→¬S k):RowZ w' B e z v xs:=by
 rcases h with h|⟨g,cap,k,h1,h2,h3,h4,h5⟩
 ·exact .inl h
 ·exact .inr ⟨g,cap,k,h1,h2,h3,h4,hk.blk h5 (hs g h2 (Qj h5))⟩
theorem RowZ.ge{w:World}{B:Nat}{e:TypeId}{z v:Value}{xs:List Value}(h:RowZ w B e z v xs):∀k,v.ownBlock=some k→B≤k:=by
 rcases h with⟨rfl,_⟩|⟨g,cap,k,rfl,h2,_⟩
 ·intro k hk;simp[Value.ownBlock] at hk
 ·intro k hk;simp[Value.ownBlock] at hk;omega
theorem RowZ.get{w:World}{B:Nat}{e:TypeId}{z v:Value}{xs:List Value}(h:RowZ w B e z v xs):∃a c,v= .slice a xs.length c∧∀i,(hi:i<xs.length)→∃g:Nat,a=some ⟨g,0,none⟩∧w.cell? ⟨g,i,none⟩=some xs[i]:=by
 rcases h with⟨rfl,rfl⟩|⟨g,cap,k,rfl,_,_,_,h5⟩
 ·exact⟨none,0,rfl,fun i hi=>by simp at hi⟩
 ·refine⟨_,_,rfl,fun i hi=>⟨g,rfl,?_⟩⟩;rw[Qa h5,List.getElem?_toArray,List.getElem?_append_left hi];simp
theorem zeros_one(z:Value)(n:Nat)(hz:z.cells= #[z]):(Builtin.zeroCells z.cells n).toList=List.replicate n z:=by
 apply List.ext_getElem
 ·simp[Builtin.zeroCells,hz]
 ·intro i h1 h2;simp[Builtin.zeroCells,hz,Nat.mod_one]
section
variable {P:Program} (w:World)
theorem run_append_z(B:Nat)(t ty e:TypeId)(i:TypeInfo)(z:Value)(bytes:Nat)(ht:P.underlying t=some (.slice e))(hi:P.info? e=some i)(hz:i.zero=some z)(hsize:i.size=1)(hby:i.bytes=bytes)(hzs:z.cells= #[z])
  (v:Value) (xs:List Value) (hown:RowZ w B e z v xs) (a:Addr) (c:Nat) (u:Value) (hu:w.cell? a=some u) (h1:u.oneCell'=true)
  (h63:xs.length+1≤maxLen) (hbytes:(xs.length+1)*bytes≤140737488355328) (hbase:B≤w.heap.size):
  ∃v' w',(Builtin.append_ #[t,t] ty #[v,.slice (some a) 1 c]).run P w= .ok v' w'∧RowZ w' B e z v' (xs++[u])∧Kp (fun k=>v.ownBlock=some k∧Roomy w e z k) w w':=by
 subst hby;have hnews:∀j x,[u][j]? =some x→w.cell? (a.add j)=some x:=by
  intro j x hx;cases j with
  |zero=>simp at hx;subst hx;simpa[Addr.add] using hu
  |succ j=>simp at hx
 have hl:[u].length=1*i.size:=by simp[hsize]
 have hsmall:xs.length+1≤9223372036854775807:=by simp only[maxLen] at h63;omega
 have grown:∀(old:Nat),RowZ (w.drew.alloc (.cells (xs.toArray++[u].toArray++Builtin.zeroCells z.cells (grownCap w (xs.length+1) old e-(xs.length+1))) e)) B e z (.slice (some ⟨w.heap.size,0,none⟩) (xs.length+1) (grownCap w (xs.length+1) old e)) (xs++[u]):=by
  intro old;have hge:=grownCap_ge w (xs.length+1) old e;refine .inr ⟨w.heap.size,grownCap w (xs.length+1) old e,grownCap w (xs.length+1) old e-(xs.length+1),by simp,hbase,by simp;omega,grownCap_le_maxLen w _ old e h63,?_⟩;have hb:=Qf w.drew (.cells (xs.toArray++[u].toArray++Builtin.zeroCells z.cells (grownCap w (xs.length+1) old e-(xs.length+1))) e);refine Eq.trans hb ?_;congr 2;apply Array.toList_inj.1;simp[zeros_one z _ hzs]
 have hnew:∀(o:Obj) (S:Nat→Prop),Kp S w (w.drew.alloc o):=fun o S=>((Qb S w).drew).alloc o
 rcases hown with⟨rfl,rfl⟩|⟨g,cap,k,rfl,hbg,hcap,hcm,hg⟩
 ·have hr:=run_append_nil (P:=P) w t ty e i z ht hi hz a 1 c [u] hl hnews (by omega) (by omega) (by simp at hbytes;omega);have hgr:=grown 0;simp only[List.length_nil,Nat.zero_add,List.nil_append,Array.empty_append] at hgr⊢;exact⟨_,_,hr,hgr,hnew _ _⟩
 ·have hcs:((xs++List.replicate k z).toArray).size=cap*i.size:=by simp[hsize,hcap]
  by_cases hroom:xs.length+1≤cap
  ·obtain⟨m,rfl⟩:∃m,k=m+1:=⟨k-1,by omega⟩;have hr:=run_append_room (P:=P) w t ty e i ht hi g xs.length cap _ hg a 1 c [u] hl hnews (by simpa using h1) hroom (by rw[hl,hcs,hsize];omega);refine⟨_,_,hr,.inr ⟨g,cap,m,by simp,hbg,by simp;omega,hcm,?_⟩,⟨rfl,rfl,rfl,by simp,fun j hj hs=>setRow_other w g j _ (fun ej=>hs ?_)⟩⟩
   ·rw[setRow_heap w g _ _ e _ hg];congr 2;apply congrArg;simp only[hsize,Nat.mul_one,List.length_singleton];rw[List.take_left];simp[List.drop_append,List.replicate_succ]
   ·subst ej;exact⟨rfl,xs++List.replicate m z,by rw[hg];simp[List.replicate_succ']⟩
  ·have holds:∀j x,xs[j]? =some x→w.cell? ((⟨g,0,none⟩:Addr).add j)=some x:=by
    intro j x hx;have hadd:(⟨g,0,none⟩:Addr).add j=⟨g,j,none⟩:=by unfold Addr.add;split<;>simp_all
    rw[hadd,Qa hg];have:j<xs.length:=(List.getElem?_eq_some_iff.1 hx).1;rw[List.getElem?_toArray,List.getElem?_append_left this];exact hx
   have hr:=run_append_grow (P:=P) w t ty e i z ht hi hz ⟨g,0,none⟩ xs.length cap xs (by simp[hsize]) holds a 1 c [u] hl hnews (by omega) (by omega) (growslice_fits (by omega) hbytes);exact⟨_,_,hr,by simpa using grown cap,hnew _ _⟩
theorem wpList_append_z{ops:Array Oper}{rest:List Oper}{o:Oper}{a:Act}{Q:Exit→Act→World→Prop}(hgd:o.guard=none)(s x:Operand)(t:TypeId)
  (ho:o.op= .call {callee:= .builtin .append,args:= #[s,x],argTypes:= #[t,t]})
  (B:Nat) (e:TypeId) (i:TypeInfo) (z:Value) (bytes:Nat) (ht:P.underlying t=some (.slice e)) (hi:P.info? e=some i) (hz:i.zero=some z) (hsize:i.size=1) (hby:i.bytes=bytes) (hzs:z.cells= #[z])
  (v:Value) (xs:List Value) (hs:a.eval s=v) (hown:RowZ w B e z v xs) (ad:Addr) (c:Nat) (u:Value) (hx:a.eval x= .slice (some ad) 1 c) (hu:w.cell? ad=some u) (h1:u.oneCell'=true)
  (h63:xs.length+1≤maxLen) (hbytes:(xs.length+1)*bytes≤140737488355328) (hbase:B≤w.heap.size)
  (h:∀v' w',RowZ w' B e z v' (xs++[u])→Kp (fun k=>v.ownBlock=some k∧Roomy w e z k) w w'→wpList P ops Q rest (a.put o.dst v') w'):wpList P ops Q (o::rest) a w:=by
 refine wpList_plain hgd fun K hK=> ?_
 obtain⟨v',w',hr,h2,h3⟩:=run_append_z (P:=P) w B t o.type e i z bytes ht hi hz hsize hby hzs v xs hown ad c u hu h1 h63 hbytes hbase;unfold Oper.wp execOp;simp only[ho,resolve,invoke,builtin,Sem.run_bind,Sem.run_pure,Result.andThen_ok,List.map_toArray,List.map_cons,List.map_nil,hs,hx,hr];exact hK _ _ (h v' w' h2 h3)
end
theorem nodes_row{w w':World}{v:Value}{S:Nat→Prop}(h:Kp S w w')(hs:∀k,S k→Roomy w 295 (.pointer none) k):Kn61 w w':=
 Kn61.of h (fun k o hk ht e=>by
  obtain⟨cs,hc⟩:=hs k e;rw[hc] at hk;injection hk with hk;cases ht with
  |node=>injection hk with _ hk _;cases hk
  |pair i j=>
   injection hk with hk _ _;have:=congrArg (fun a:Array Value=>a.toList.getLast?) hk;simp at this
  |lone i=>
   injection hk with hk _ _;have:=congrArg (fun a:Array Value=>a.toList.getLast?) hk;simp at this)
def OrC(n:Nat):Prop:=∀(p:Nat) (s:ByteArray) (st:PS) (w:World),Pat w p s st→st.bad=false→0≤st.deep→st.deep≤50→s.size-st.at_<n→
 Calls Tryz.prog 254 #[ptr p] w fun e w'=>∃q:Nat,e= .returned (ptr q)∧NodeAt w' (orN s n st).1 q∧Pat w' p s (orN s n st).2∧K1 p w w'
theorem isB_lt{s:ByteArray}{b:Nat}{st:PS}(h:isB s b st=true):st.at_<s.size:=by simp[isB] at h;exact h.1
theorem atom_paren(n:Nat)(ih:OrC n)(p:Nat)(s:ByteArray)(st:PS)(w:World)(h:Pat w p s st)(hb:st.bad=false)(h0:0≤st.deep)(h50:st.deep≤50)(hr:s.size-st.at_≤n)(hB:isB s 40 st=true):
  Calls Tryz.prog 341 #[ptr p] w fun e w'=>∃q:Nat,e= .returned (ptr q)∧NodeAt w' (atN s n st).1 q∧Pat w' p s (atN s n st).2∧K1 p w w':=by
 have hlt:=isB_lt hB;have hsz:=h.2.2;have hN:Hid (isS s 40 st=st.next):=Qh (isB_next hB);have hBB:=Qh hB;clear hB;by_cases hd:50<st.deep+1
 ·have hA:Hid (atN s n st=(.empty,st.next.deeper.stop)):=Qh (by
   unfold atN atomF;rw[if_pos hBB.out];simp only;rw[if_pos (by simpa[PS.deeper,PS.next] using hd)])
  go_enter Tryz.func341,Tryz.ntmps341;go_wp2_with fail
  refine(YN 40 p s st w h).mono ?_;rintro e w1 ⟨rfl,hp1,hk1⟩;rw[hBB.out];rw[hN.out] at hp1;obtain⟨x0,x1,x2,x3,x4,f1,f2,f3,f4⟩:=hp1.cells;simp only[PS.next] at x4;have hp2:=hp1.setDeep (st.deep+1);have hp3:=hp2.setLong;go_wp2_with fail
  refine(YT p s _ _ hp3).mono ?_;rintro e w4 ⟨q,rfl,hq,hp4,hk4⟩;go_wp2_with fail
  go_ret;refine⟨q,rfl,?_,?_,((hk1.trans (K1.set _)).trans (K1.set _)).trans hk4⟩
  ·rw[hA.out];exact hq
  ·rw[hA.out];exact hp4
 ·have hg:=orN_good s n st.next.deeper hb (by simp[PS.deeper,PS.next];omega) (by simp[PS.deeper,PS.next];omega);have g1:st.deep+1≤(orN s n st.next.deeper).2.deep:=hg.lo;have g2:(orN s n st.next.deeper).2.deep≤st.deep+1+1:=hg.hi;have hA0:Hid (atN s n st=if(orN s n st.next.deeper).2.bad then((orN s n st.next.deeper).1,(orN s n st.next.deeper).2.upper) else if isB s 41 (orN s n st.next.deeper).2 then((orN s n st.next.deeper).1,(orN s n st.next.deeper).2.next.upper) else(.empty,(orN s n st.next.deeper).2.fail)):=Qh (by
   unfold atN atomF;rw[if_pos hBB.out];simp only;rw[if_neg (by simpa[PS.deeper,PS.next] using hd)])
  have IH:=Qh (ih p s st.next.deeper);clear ih hg;have hbn:st.next.deeper.bad=false:=hb;have hdn:0≤st.next.deeper.deep:=by simp[PS.deeper,PS.next];omega
  have hdn2:st.next.deeper.deep≤50:=by simp[PS.deeper,PS.next];omega
  have hrn:s.size-st.next.deeper.at_<n:=by simp only[PS.deeper,PS.next];omega
  have HH:=Qh (And.intro hbn (And.intro hdn (And.intro hdn2 hrn)));clear hbn hdn hdn2 hrn;have hd':¬(50:Int)<st.deep+1:=hd;go_enter Tryz.func341,Tryz.ntmps341;go_wp2_with fail
  refine(YN 40 p s st w h).mono ?_;rintro e w1 ⟨rfl,hp1,hk1⟩;rw[hBB.out];rw[hN.out] at hp1;obtain⟨x0,x1,x2,x3,x4,f1,f2,f3,f4⟩:=hp1.cells;simp only[PS.next] at x4;have hp2:Pat (w1.setCell ⟨p,4,none⟩ (.int .i64 (st.deep+1))) p s st.next.deeper:=hp1.setDeep (st.deep+1);go_wp2_with fail
  refine(IH.out _ hp2 HH.out.1 HH.out.2.1 HH.out.2.2.1 HH.out.2.2.2).mono ?_;rintro e w3 ⟨q,rfl,hq,hp3,hk3⟩;have hk3':=(hk1.trans (K1.set _)).trans hk3;generalize orN s n st.next.deeper=r at*;clear x0 x1 x2 x3 x4 f1 f2 f3 f4;obtain⟨x0,x1,x2,x3,x4,f1,f2,f3,f4⟩:=hp3.cells;cases hrb:r.2.bad with
  |true=>
   have hR:=Qh hrb;rw[hrb] at x2;have hp4:=hp3.setDeep (r.2.deep-1);have hkn:=hp3.nodes (K1.set (o:=4) (.int .i64 (r.2.deep-1)));clear hrb;go_wp2_with fail
   go_ret;refine⟨q,rfl,?_,?_,hk3'.trans (K1.set _)⟩
   ·rw[hA0.out,if_pos hR.out];exact hq.mono61 hkn
   ·rw[hA0.out,if_pos hR.out];exact hp4
  |false=>
   have hR:=Qh hrb;rw[hrb] at x2;clear hrb;cases h41:isB s 41 r.2 with
   |true=>
    have h4:=Qh h41;have hS4:=Qh (isB_next h41);clear h41;go_wp2_with fail
    refine(YN 41 p s r.2 w3 hp3).mono ?_;rintro e w4 ⟨rfl,hp4,hk4⟩;rw[h4.out];rw[hS4.out] at hp4;clear x0 x1 x2 x3 x4 f1 f2 f3 f4;obtain⟨x0,x1,x2,x3,x4,f1,f2,f3,f4⟩:=hp4.cells;simp only[PS.next] at x4;have hp5:=hp4.setDeep (r.2.deep-1);have hkn:=hp4.nodes (K1.set (o:=4) (.int .i64 (r.2.deep-1)));have hkn4:=hp3.nodes hk4;go_wp2_with fail
    go_ret;refine⟨q,rfl,?_,?_,(hk3'.trans hk4).trans (K1.set _)⟩
    ·rw[hA0.out,if_neg (by rw[hR.out];simp),if_pos h4.out];exact(hq.mono61 hkn4).mono61 hkn
    ·rw[hA0.out,if_neg (by rw[hR.out];simp),if_pos h4.out];exact hp5
   |false=>
    have h4:=Qh h41;have hS4:=Qh (isB_not h41);clear h41;go_wp2_with fail
    refine(YN 41 p s r.2 w3 hp3).mono ?_;rintro e w4 ⟨rfl,hp4,hk4⟩;rw[h4.out];rw[hS4.out] at hp4;go_wp2_with fail
    refine(YT p s _ _ hp4).mono ?_;rintro e w5 ⟨q5,rfl,hq5,hp5,hk5⟩;go_wp2_with fail
    go_ret;refine⟨q5,rfl,?_,?_,(hk3'.trans hk4).trans hk5⟩
    ·rw[hA0.out,if_neg (by rw[hR.out];simp),if_neg (by rw[h4.out];simp)];exact hq5
    ·rw[hA0.out,if_neg (by rw[hR.out];simp),if_neg (by rw[h4.out];simp)];exact hp5
theorem atom_c(n:Nat)(ih:OrC n)(p:Nat)(s:ByteArray)(st:PS)(w:World)(h:Pat w p s st)(hb:st.bad=false)(h0:0≤st.deep)(h50:st.deep≤50)(hr:s.size-st.at_≤n):
  Calls Tryz.prog 341 #[ptr p] w fun e w'=>∃q:Nat,e= .returned (ptr q)∧NodeAt w' (atN s n st).1 q∧Pat w' p s (atN s n st).2∧K1 p w w':=by
 cases hB:isB s 40 st with
 |true=>exact atom_paren n ih p s st w h hb h0 h50 hr hB
 |false=>
 clear ih;have hpl:=h.lt;have hB0:=Qh hB;have hN0:=Qh (isB_not hB);clear hB;cases hD:isB s 46 st with
 |true=>
  have hB1:=Qh hD;have hN1:=Qh (isB_next hD);clear hD;have hA:Hid (atN s n st=(.set dotW,st.next)):=Qh (by
   unfold atN atomF;rw[if_neg (by rw[hB0.out];simp),if_pos hB1.out])
  go_enter Tryz.func341,Tryz.ntmps341;go_wp2_with fail
  refine(YN 40 p s st w h).mono ?_;rintro e w1 ⟨rfl,hp1,hk1⟩;rw[hB0.out];rw[hN0.out] at hp1;go_wp2_with fail
  refine(YN 46 p s st w1 hp1).mono ?_;rintro e w2 ⟨rfl,hp2,hk2⟩;rw[hB1.out];rw[hN1.out] at hp2;have hk2':=hk1.trans hk2;go_wp2_with fail
  refine(one_c 10 (by omega) w2).mono ?_;rintro e w3 ⟨rfl,hk3⟩;have hp3:=hp2.kn hk3;have hk3':=hk2'.trans hk3.weak;have hok:=one_ok 10;generalize hws:W4.one 10=ws at*;have hWS:=Qh hws;clear hws;have hs4:SetAt (w3.alloc (.cells (YH ws) 404)) w3.heap.size ws:=Qf w3 _;have hp4:=hp3.kn ((Qb _ w3).alloc (.cells (YH ws) 404));have hk4:K1 p w (w3.alloc (.cells (YH ws) 404)):=hk3'.alloc _;have hlt3:w.heap.size≤w3.heap.size:=hk3'.size;have hne:w3.heap.size≠p:=by omega
  obtain⟨B,hBe⟩:∃B,B=w3.heap.size:=⟨_,rfl⟩;rw[←hBe] at hs4 hlt3 hne;go_wp2_with fail
  rw[←hBe];have hBe':=Qh hBe;clear hBe;go_loopw [58] (fun i wr=>∃k:Nat,k≤4∧i= .int .i64 k∧SetAt wr B (ws.notN k)∧Pat wr p s st.next∧K1 p w wr) (fun i _=>4-(intOf i).toNat)
  case atStart=>exact⟨0,by omega,rfl,by rw[W4.notN_zero];exact hs4,hp4,hk4⟩
  case round=>
   clear hs4 hp4 hk4;obtain⟨k,hk4,rfl,SY,PY,KY⟩:=hrel;by_cases hlt:k<4
   ·have hlt':(k:Int)<4:=by omega
    obtain⟨hn1,hn2⟩:=W4.notN_succ ws k hlt;have hg:=SY.get k hlt;rw[hn2] at hg;have hfz:wr.frozen? ⟨B,k,none⟩=false:=Qd SY _;have hsp:=SY.put k hlt (W4.flip (ws.get k));rw[←hn1] at hsp;have hgr:=get_range hok k;clear hn1 hn2;generalize ws.get k=x at*;go_wp2_with fail
    go_roundw
    case rel=>
     refine⟨k+1,by omega,by go_num,?_,?_,?_⟩
     ·rw[xor_max x hgr];exact hsp
     ·exact⟨Yd PY.1 (Ne.symm hne) _ _,PY.2⟩
     ·exact KY.setCell (p:=⟨B,k,none⟩) (fun hx=>absurd (show B<w.heap.size from hx) (by omega)) _
    case measure=>simp[intOf];omega
   ·have hk:k=4:=by omega
    have hE3:Hid (ws.notN k=ws.not):=Qh (by rw[hk];try rfl);rw[hE3.out] at SY;obtain⟨v0,v1,v2,v3⟩:=SY.four;go_wp2_with fail
    refine(SetOf_c ws.not (W4.not_ok hok) _).mono ?_;rintro e w5 ⟨q5,rfl,hq5,hk5⟩;go_wp2_with fail
    go_ret;refine⟨q5,rfl,?_,by rw[hA.out];exact PY.kn hk5,KY.trans hk5.weak⟩;rw[hA.out];show NodeAt w5 (.set dotW) q5;unfold dotW;rw[hWS.out];exact hq5
 |false=>
 have hB1:=Qh hD;have hN1:=Qh (isB_not hD);clear hD;cases hC:isB s 91 st with
 |true=>
  have hB2:=Qh hC;have hN2:=Qh (isB_next hC);clear hC;have hA:Hid (atN s n st=(.set (clsR s st.next).2,(clsR s st.next).1)):=Qh (by
   unfold atN atomF;rw[if_neg (by rw[hB0.out];simp),if_neg (by rw[hB1.out];simp),if_pos hB2.out])
  go_enter Tryz.func341,Tryz.ntmps341;go_wp2_with fail
  refine(YN 40 p s st w h).mono ?_;rintro e w1 ⟨rfl,hp1,hk1⟩;rw[hB0.out];rw[hN0.out] at hp1;go_wp2_with fail
  refine(YN 46 p s st w1 hp1).mono ?_;rintro e w2 ⟨rfl,hp2,hk2⟩;rw[hB1.out];rw[hN1.out] at hp2;have hk2':=hk1.trans hk2;go_wp2_with fail
  refine(YN 91 p s st w2 hp2).mono ?_;rintro e w3 ⟨rfl,hp3,hk3⟩;rw[hB2.out];rw[hN2.out] at hp3;go_wp2_with fail
  refine(class_c p s st.next w3 hp3).mono ?_;rintro e w4 ⟨q,rfl,hq,hp4,hk4⟩;go_wp2_with fail
  go_ret;exact⟨q,rfl,by rw[hA.out];exact hq,by rw[hA.out];exact hp4,(hk2'.trans hk3).trans hk4⟩
 |false=>
  have hB2:=Qh hC;have hN2:=Qh (isB_not hC);clear hC;have hA:Hid (atN s n st=(.set (W4.one (QJ s QF st)),Qp s QF st)):=Qh (by
   unfold atN atomF;rw[if_neg (by rw[hB0.out];simp),if_neg (by rw[hB1.out];simp),if_neg (by rw[hB2.out];simp)])
  go_enter Tryz.func341,Tryz.ntmps341;go_wp2_with fail
  refine(YN 40 p s st w h).mono ?_;rintro e w1 ⟨rfl,hp1,hk1⟩;rw[hB0.out];rw[hN0.out] at hp1;go_wp2_with fail
  refine(YN 46 p s st w1 hp1).mono ?_;rintro e w2 ⟨rfl,hp2,hk2⟩;rw[hB1.out];rw[hN1.out] at hp2;have hk2':=hk1.trans hk2;go_wp2_with fail
  refine(YN 91 p s st w2 hp2).mono ?_;rintro e w3 ⟨rfl,hp3,hk3⟩;rw[hB2.out];rw[hN2.out] at hp3;go_wp2_with fail
  refine(YW p s QF st w3 hp3).mono ?_;rintro e w4 ⟨rfl,hp4,hk4⟩;have hlv:=YU s QF st;go_wp2_with fail
  refine(one_c _ hlv w4).mono ?_;rintro e w5 ⟨rfl,hk5⟩;go_wp2_with fail
  refine(SetOf_c _ (one_ok _) w5).mono ?_;rintro e w6 ⟨q,rfl,hq,hk6⟩;go_wp2_with fail
  go_ret;exact⟨q,rfl,by rw[hA.out];exact hq,by rw[hA.out];exact(hp4.kn hk5).kn hk6,(((hk2'.trans hk3).trans hk4).trans hk5.weak).trans hk6.weak⟩
theorem ptrs_two(w:World)(i j:Nat):PtrsAt (w.alloc (Yu i j)) (some ⟨w.heap.size,0,none⟩) [i,j]:=fun k hk=>by
 refine⟨w.heap.size,rfl,?_⟩;rw[Qa (Qf w (Yu i j))]
 match k,hk with
 |0,_=>rfl
 |1,_=>rfl
theorem factor_c(n:Nat)(ih:OrC n)(p:Nat)(s:ByteArray)(st:PS)(w:World)(h:Pat w p s st)(hb:st.bad=false)(h0:0≤st.deep)(h50:st.deep≤50)(hr:s.size-st.at_≤n):
  Calls Tryz.prog 326 #[ptr p] w fun e w'=>∃q:Nat,e= .returned (ptr q)∧NodeAt w' (fcN s n st).1 q∧Pat w' p s (fcN s n st).2∧K1 p w w':=by
 have hsz:=h.2.2;have hAC:=Qh (atom_c n ih p s st w h hb h0 h50 hr);have hg:=atN_good s n st hb h0 h50;have hF:Hid (fcN s n st=QO s (s.size+2) (atN s n st).1 (atN s n st).2):=Qh rfl;clear ih;go_enter Tryz.func326,Tryz.ntmps326;go_wp2_with fail
 refine hAC.out.mono ?_;rintro e w1 ⟨q1,rfl,hq1,hp1,hk1⟩;obtain⟨r,hre⟩:∃r,r=atN s n st:=⟨_,rfl⟩;rw[←hre] at hq1 hp1 hg;have hF':Hid (QO s (s.size+2) r.1 r.2=fcN s n st):=Qh (by rw[hF.out,hre]);clear hre;have hn0:r.2.bad=true∨s.size-r.2.at_<s.size+2:= .inr (by omega);go_wp2_with fail
 go_loopg [3] (s.size+2) (fun k v wr=>∃(q:Nat) (t:Rw) (st':PS),v=ptr q∧Hid (QO s k t st'=fcN s n st)∧Kept9 st (t,st') 1 2∧(st'.bad=true∨s.size-st'.at_<k)∧NodeAt wr t q∧Pat wr p s st'∧K1 p w wr)
 case atStart=>exact⟨q1,r.1,r.2,rfl,hF',hg,hn0,hq1,hp1,hk1⟩
 case round=>
  clear hq1 hp1 hk1 hn0 hg hF';obtain⟨q,t,st',rfl,hfl,hK9,hn,hq,hp,hk⟩:=hrel;obtain⟨x0,x1,x2,x3,x4,_,_,_,_⟩:=hp.cells;cases hbad:st'.bad with
  |true=>
   have hBad:=Qh hbad;rw[hbad] at x2;have hfin:Hid ((t,st')=fcN s n st):=Qh (by
    rw[←hfl.out];cases gk with
    |zero=>rfl
    |succ m=>simp[QO,hBad.out])
   clear hbad hn;go_wp2_with fail
   go_ret;exact⟨q,rfl,by rw[←hfin.out];exact hq,by rw[←hfin.out];exact hp,hk⟩
  |false=>
   have hBad:=Qh hbad;have hn':s.size-st'.at_<gk:=by
    rcases hn with h|h
    ·rw[hbad] at h;cases h
    ·exact h
   obtain⟨k3,k4,k5⟩:=hK9.ok hbad;simp only at k3 k4 k5;have hat:=hp.2.1;have hbd:t.size≤442004319000000:=by omega
   rw[hbad] at x2;clear hbad hn;obtain⟨m,hm⟩:∃m,gk=m+1:=⟨gk-1,by omega⟩;have hm':=Qh hm;clear hm;cases h42:isB s 42 st' with
   |true=>
    have hI:=Qh h42;have hS:=Qh (isB_next h42);have hlt:=isB_lt h42;clear h42;go_wp2_with fail
    refine(YN 42 p s st' wr hp).mono ?_;rintro e w2 ⟨rfl,hp2,hk2⟩;rw[hI.out];rw[hS.out] at hp2;have hq2:=hq.mono61 (hp.nodes hk2);have hk2':=hk.trans hk2;clear x0 x1 x2 x3 x4;go_wp2_with fail
    refine(Star_c q w2).mono ?_;rintro e w3 ⟨rfl,rfl⟩;have hs3:NodeAt ((w2.alloc (Qt q)).alloc (Yf 4 W4.zero (sl1 w2.heap.size))) (.star t) (w2.heap.size+1):=by
     refine⟨w2.heap.size,q,?_,Qm (Qf w2 _) _,(hq2.alloc _).alloc _⟩;have:=Qf (w2.alloc (Qt q)) (Yf 4 W4.zero (sl1 w2.heap.size));simpa using this
    have hk3:Kn w2 ((w2.alloc (Qt q)).alloc (Yf 4 W4.zero (sl1 w2.heap.size))):=((Qb _ _).alloc _).alloc _;have hsz9:(Re.star t).size≤9223372036854775807:=by have:=hbd;simp only[Re.size] at*;omega
    have hQ:=hs3;have hPQ:=hp2.kn hk3;have hKQ:=hk2'.trans hk3.weak;go_wp2_with fail
    refine(Size_c _ _ _ _ rfl hQ hsz9).mono ?_;rintro e wz ⟨rfl,rfl⟩;by_cases hgt:400<(Re.star t).size
    ·have hgt':(400:Int)<((Re.star t).size:Int):=by omega
     have hfin:Hid ((Re.empty,st'.next.stop)=fcN s n st):=Qh (by rw[←hfl.out,hm'.out];simp[QO,hBad.out,hI.out];intro hx;omega);obtain⟨y0,y1,y2,y3,y4,f1,f2,f3,f4⟩:=hPQ.cells;have hp8:=hPQ.setLong;go_wp2_with fail
     refine(YT p s _ _ hp8).mono ?_;rintro e w9 ⟨q9,rfl,hq9,hp9,hk9⟩;go_wp2_with fail
     go_ret;exact⟨q9,rfl,by rw[←hfin.out];exact hq9,by rw[←hfin.out];exact hp9,(hKQ.trans (K1.set _)).trans hk9⟩
    ·have hgt':¬(400:Int)<((Re.star t).size:Int):=by omega
     have hfl':Hid (QO s m (Re.star t) st'.next=fcN s n st):=Qh (by rw[←hfl.out,hm'.out];simp[QO,hBad.out,hI.out];intro hx;omega);have hkt:Kept9 st (Re.star t,st'.next) 1 2:=⟨hK9.lo,hK9.hi,fun _=>⟨k3,by simp only[PS.next];omega,by simp only[PS.next];omega⟩⟩;have hnx:s.size-st'.next.at_<m:=by have:=hm'.out;simp only[PS.next];omega
     have HN:=Qh (And.intro hkt hnx);clear hkt hnx;go_wp2_with fail
     go_roundg m
     case measure=>have:=hm'.out;omega
     case rel=>exact⟨_,_,_,rfl,hfl',HN.out.1,.inr HN.out.2,hQ,hPQ,hKQ⟩
   |false=>
   have hI0:=Qh h42;have hS0:=Qh (isB_not h42);clear h42;cases h43:isB s 43 st' with
   |true=>
    have hI:=Qh h43;have hS:=Qh (isB_next h43);have hlt:=isB_lt h43;clear h43;go_wp2_with fail
    refine(YN 42 p s st' wr hp).mono ?_;rintro e w2 ⟨rfl,hp2,hk2⟩;rw[hI0.out];rw[hS0.out] at hp2;have hq2:=hq.mono61 (hp.nodes hk2);have hk2':=hk.trans hk2;clear x0 x1 x2 x3 x4;go_wp2_with fail
    refine(YN 43 p s st' w2 hp2).mono ?_;rintro e w3 ⟨rfl,hp3,hk3⟩;rw[hI.out];rw[hS.out] at hp3;have hq3:=hq2.mono61 (hp2.nodes hk3);have hk3':=hk2'.trans hk3;go_wp2_with fail
    refine(Star_c q w3).mono ?_;rintro e w4 ⟨rfl,rfl⟩;have hs4:NodeAt ((w3.alloc (Qt q)).alloc (Yf 4 W4.zero (sl1 w3.heap.size))) (.star t) (w3.heap.size+1):=by
     refine⟨w3.heap.size,q,?_,Qm (Qf w3 _) _,(hq3.alloc _).alloc _⟩;have:=Qf (w3.alloc (Qt q)) (Yf 4 W4.zero (sl1 w3.heap.size));simpa using this
    have hk4:Kn w3 ((w3.alloc (Qt q)).alloc (Yf 4 W4.zero (sl1 w3.heap.size))):=((Qb _ _).alloc _).alloc _;obtain⟨w4,hw4⟩:∃w4,w4=((w3.alloc (Qt q)).alloc (Yf 4 W4.zero (sl1 w3.heap.size))):=⟨_,rfl⟩;obtain⟨q4,hq4e⟩:∃q4,q4=w3.heap.size+1:=⟨_,rfl⟩;rw[←hw4] at hs4 hk4;rw[←hq4e] at hs4;rw[←hw4,←hq4e];have hp4:=hp3.kn hk4;have hq4:=hq3.kn hk4;have hk4':=hk3'.trans hk4.weak;clear hw4 hq4e;have hk5:Kn w4 (w4.alloc (Yu q q4)):=(Qb _ _).alloc _;have hrow:RowAt (w4.alloc (Yu q q4)) [t,.star t] [q,q4]:= .cons (hq4.kn hk5) (.cons (hs4.kn hk5) .nil);have hpt:=Qh (ptrs_two w4 q q4);have hp5:=hp4.kn hk5;go_wp2_with fail
    refine(Cat_c [t,.star t] [q,q4] _ 2 _ hrow hpt.out (by simp)).mono ?_;rintro e w6 ⟨q6,rfl,hq6,hk6⟩;have hq6':NodeAt w6 (.cat t (.star t)) q6:=hq6;clear hrow;have hsz9:(Re.cat t (.star t)).size≤9223372036854775807:=by have:=hbd;simp only[Re.size] at*;omega
    have hQ:=hq6';have hPQ:=hp5.kn hk6;have hKQ:=(hk4'.trans hk5.weak).trans hk6.weak;go_wp2_with fail
    refine(Size_c _ _ _ _ rfl hQ hsz9).mono ?_;rintro e wz ⟨rfl,rfl⟩;by_cases hgt:400<(Re.cat t (.star t)).size
    ·have hgt':(400:Int)<((Re.cat t (.star t)).size:Int):=by omega
     have hfin:Hid ((Re.empty,st'.next.stop)=fcN s n st):=Qh (by rw[←hfl.out,hm'.out];simp[QO,hBad.out,hI0.out,hI.out];intro hx;omega);obtain⟨y0,y1,y2,y3,y4,f1,f2,f3,f4⟩:=hPQ.cells;have hp8:=hPQ.setLong;go_wp2_with fail
     refine(YT p s _ _ hp8).mono ?_;rintro e w9 ⟨q9,rfl,hq9,hp9,hk9⟩;go_wp2_with fail
     go_ret;exact⟨q9,rfl,by rw[←hfin.out];exact hq9,by rw[←hfin.out];exact hp9,(hKQ.trans (K1.set _)).trans hk9⟩
    ·have hgt':¬(400:Int)<((Re.cat t (.star t)).size:Int):=by omega
     have hfl':Hid (QO s m (Re.cat t (.star t)) st'.next=fcN s n st):=Qh (by rw[←hfl.out,hm'.out];simp[QO,hBad.out,hI0.out,hI.out];intro hx;omega);have hkt:Kept9 st (Re.cat t (.star t),st'.next) 1 2:=⟨hK9.lo,hK9.hi,fun _=>⟨k3,by simp only[PS.next];omega,by simp only[PS.next];omega⟩⟩;have hnx:s.size-st'.next.at_<m:=by have:=hm'.out;simp only[PS.next];omega
     have HN:=Qh (And.intro hkt hnx);clear hkt hnx;go_wp2_with fail
     go_roundg m
     case measure=>have:=hm'.out;omega
     case rel=>exact⟨_,_,_,rfl,hfl',HN.out.1,.inr HN.out.2,hQ,hPQ,hKQ⟩
   |false=>
   have hI1:=Qh h43;have hS1:=Qh (isB_not h43);clear h43;cases h63:isB s 63 st' with
   |true=>
    have hI:=Qh h63;have hS:=Qh (isB_next h63);have hlt:=isB_lt h63;clear h63;go_wp2_with fail
    refine(YN 42 p s st' wr hp).mono ?_;rintro e w2 ⟨rfl,hp2,hk2⟩;rw[hI0.out];rw[hS0.out] at hp2;have hq2:=hq.mono61 (hp.nodes hk2);have hk2':=hk.trans hk2;clear x0 x1 x2 x3 x4;go_wp2_with fail
    refine(YN 43 p s st' w2 hp2).mono ?_;rintro e w3 ⟨rfl,hp3,hk3⟩;rw[hI1.out];rw[hS1.out] at hp3;have hq3:=hq2.mono61 (hp2.nodes hk3);have hk3':=hk2'.trans hk3;go_wp2_with fail
    refine(YN 63 p s st' w3 hp3).mono ?_;rintro e w3b ⟨rfl,hp3b,hk3b⟩;rw[hI.out];rw[hS.out] at hp3b;have hq3b:=hq3.mono61 (hp3.nodes hk3b);have hk3b':=hk3'.trans hk3b;go_wp2_with fail
    refine(EmptyAt_c w3b).mono ?_;rintro e w4 ⟨q4,rfl,hs4,hk4⟩;have hp4:=hp3b.kn hk4;have hq4:=hq3b.kn hk4;have hk4':=hk3b'.trans hk4.weak;have hk5:Kn w4 (w4.alloc (Yu q q4)):=(Qb _ _).alloc _;have hrow:RowAt (w4.alloc (Yu q q4)) [t,.empty] [q,q4]:= .cons (hq4.kn hk5) (.cons (hs4.kn hk5) .nil);have hpt:=Qh (ptrs_two w4 q q4);have hp5:=hp4.kn hk5;go_wp2_with fail
    refine(Or_c [t,.empty] [q,q4] _ 2 _ hrow hpt.out (by simp)).mono ?_;rintro e w6 ⟨q6,rfl,hq6,hk6⟩;have hq6':NodeAt w6 (.or t .empty) q6:=hq6;clear hrow;have hsz9:(Re.or t .empty).size≤9223372036854775807:=by have:=hbd;simp only[Re.size] at*;omega
    have hQ:=hq6';have hPQ:=hp5.kn hk6;have hKQ:=(hk4'.trans hk5.weak).trans hk6.weak;go_wp2_with fail
    refine(Size_c _ _ _ _ rfl hQ hsz9).mono ?_;rintro e wz ⟨rfl,rfl⟩;by_cases hgt:400<(Re.or t .empty).size
    ·have hgt':(400:Int)<((Re.or t .empty).size:Int):=by omega
     have hfin:Hid ((Re.empty,st'.next.stop)=fcN s n st):=Qh (by rw[←hfl.out,hm'.out];simp[QO,hBad.out,hI0.out,hI1.out,hI.out];intro hx;omega);obtain⟨y0,y1,y2,y3,y4,f1,f2,f3,f4⟩:=hPQ.cells;have hp8:=hPQ.setLong;go_wp2_with fail
     refine(YT p s _ _ hp8).mono ?_;rintro e w9 ⟨q9,rfl,hq9,hp9,hk9⟩;go_wp2_with fail
     go_ret;exact⟨q9,rfl,by rw[←hfin.out];exact hq9,by rw[←hfin.out];exact hp9,(hKQ.trans (K1.set _)).trans hk9⟩
    ·have hgt':¬(400:Int)<((Re.or t .empty).size:Int):=by omega
     have hfl':Hid (QO s m (Re.or t .empty) st'.next=fcN s n st):=Qh (by rw[←hfl.out,hm'.out];simp[QO,hBad.out,hI0.out,hI1.out,hI.out];intro hx;omega);have hkt:Kept9 st (Re.or t .empty,st'.next) 1 2:=⟨hK9.lo,hK9.hi,fun _=>⟨k3,by simp only[PS.next];omega,by simp only[PS.next];omega⟩⟩;have hnx:s.size-st'.next.at_<m:=by have:=hm'.out;simp only[PS.next];omega
     have HN:=Qh (And.intro hkt hnx);clear hkt hnx;go_wp2_with fail
     go_roundg m
     case measure=>have:=hm'.out;omega
     case rel=>exact⟨_,_,_,rfl,hfl',HN.out.1,.inr HN.out.2,hQ,hPQ,hKQ⟩
   |false=>
    have hI:=Qh h63;have hS:=Qh (isB_not h63);clear h63;have hfin:Hid ((t,st')=fcN s n st):=Qh (by rw[←hfl.out,hm'.out];simp[QO,hBad.out,hI0.out,hI1.out,hI.out]);go_wp2_with fail
    refine(YN 42 p s st' wr hp).mono ?_;rintro e w2 ⟨rfl,hp2,hk2⟩;rw[hI0.out];rw[hS0.out] at hp2;have hq2:=hq.mono61 (hp.nodes hk2);have hk2':=hk.trans hk2;clear x0 x1 x2 x3 x4;go_wp2_with fail
    refine(YN 43 p s st' w2 hp2).mono ?_;rintro e w3 ⟨rfl,hp3,hk3⟩;rw[hI1.out];rw[hS1.out] at hp3;have hq3:=hq2.mono61 (hp2.nodes hk3);have hk3':=hk2'.trans hk3;go_wp2_with fail
    refine(YN 63 p s st' w3 hp3).mono ?_;rintro e w3b ⟨rfl,hp3b,hk3b⟩;rw[hI.out];rw[hS.out] at hp3b;have hq3b:=hq3.mono61 (hp3.nodes hk3b);have hk3b':=hk3'.trans hk3b;go_wp2_with fail
    go_ret;exact⟨q,rfl,by rw[←hfin.out];exact hq3b,by rw[←hfin.out];exact hp3b,hk3b'⟩
theorem info_ptr:(Tryz.prog.info? 295).map (fun i=>(i.zero,i.size,i.bytes))=some (some (.pointer none),1,8):=by kernel_rfl
theorem Pat.kp{S:Nat→Prop}{w w':World}{p:Nat}{s:ByteArray}{st:PS}(h:Pat w p s st)(hk:Kp S w w')(hs:¬S p):Pat w' p s st:=⟨hk.blk h.1 hs,h.2⟩
abbrev RowN(w:World)(B:Nat)(v:Value)(qs:List Nat):Prop:=RowZ w B 295 (.pointer none) v (qs.map ptr)
theorem RowN.ptrs{w:World}{B:Nat}{v:Value}{qs:List Nat}(h:RowN w B v qs):∃a c,v= .slice a qs.length c∧PtrsAt w a qs:=by
 obtain⟨a,c,hv,hg⟩:=RowZ.get h;refine⟨a,c,by simpa using hv,fun i hi=> ?_⟩;obtain⟨g,h1,h2⟩:=hg i (by simpa using hi);exact⟨g,h1,by simpa using h2⟩
theorem pcat_c(n:Nat)(ih:OrC n)(p:Nat)(s:ByteArray)(st:PS)(w:World)(h:Pat w p s st)(hb:st.bad=false)(h0:0≤st.deep)(h50:st.deep≤50)(hr:s.size-st.at_≤n):
  Calls Tryz.prog 301 #[ptr p] w fun e w'=>∃q:Nat,e= .returned (ptr q)∧NodeAt w' (ctN s n st).1 q∧Pat w' p s (ctN s n st).2∧K1 p w w':=by
 have hsz:=h.2.2;have hpl:=h.lt;obtain⟨i0,hi,hz0,hz1,hz2⟩:=info_parts info_ptr;have HI:=Qh (And.intro hi (And.intro hz0 (And.intro hz1 hz2)));clear hi hz0 hz1 hz2;have hF1:Hid ((ctN s n st).1=Re.two .cat .empty (QQ (fcN s n) s (s.size+2) [] st).1):=Qh rfl;have hF2:Hid ((ctN s n st).2=(QQ (fcN s n) s (s.size+2) [] st).2):=Qh rfl;have IH:=Qh ih;clear ih;have hn0:s.size-st.at_<s.size+2:=by omega
 go_enter Tryz.func301,Tryz.ntmps301;go_wp2_with fail
 go_loopg [3] (s.size+2) (fun k v9 wr=>∃(v:Value) (qs:List Nat) (ts:List Rw) (st':PS),v=v9∧RowN wr w.heap.size v qs∧RowAt wr ts qs∧Hid (QQ (fcN s n) s k ts st'=QQ (fcN s n) s (s.size+2) [] st)∧qs.length≤s.size+1∧
  (st'.bad=true∨(s.size-st'.at_<k∧st'.deep=st.deep∧st.at_≤st'.at_∧qs.length≤st'.at_-st.at_))∧Pat wr p s st'∧K1 p w wr)
 case atStart=>exact⟨_,[],[],st,rfl,.inl ⟨rfl,rfl⟩,.nil,Qh rfl,by simp,.inr ⟨hn0,rfl,Nat.le_refl _,by simp⟩,h,Qb _ _⟩
 case round=>
  obtain⟨v,qs,ts,st',rfl,hrow,hts,hfl,hql,hn,hp,hk⟩:=hrel;have HROW:=Qh hrow;clear hrow;obtain⟨x0,x1,x2,x3,x4,_,_,_,_⟩:=hp.cells;have hfinish:Hid (∀(WX:World) (qs:List Nat) (a:Option Addr) (c:Nat),RowAt WX ts qs→PtrsAt WX a qs→qs.length≤s.size+1→Calls Tryz.prog 327 #[.slice a qs.length c] WX fun e w'=>∃q:Nat,e= .returned (ptr q)∧NodeAt w' (Re.two .cat .empty ts) q∧Kn WX w'):=
   Qh (fun WX qs a c h1 h2 h3=>Cat_c ts qs a c WX h1 h2 (by omega))
  cases hbad:st'.bad with
  |true=>
   have hBad:=Qh hbad;rw[hbad] at x2;have hfin:Hid ((ts,st')=QQ (fcN s n) s (s.size+2) [] st):=Qh (by
    rw[←hfl.out];cases gk with
    |zero=>rfl
    |succ m=>simp[QQ,hBad.out])
   clear hbad hn;obtain⟨a,c,hv,hpt⟩:=HROW.out.ptrs;subst hv;have HPT:=Qh hpt;clear hpt;go_wp2_with fail
   refine(hfinish.out wr qs a c hts HPT.out hql).mono ?_;rintro e w2 ⟨q,rfl,hq,hk2⟩;go_wp2_with fail
   go_ret;exact⟨q,rfl,by rw[hF1.out,←hfin.out];exact hq,by rw[hF2.out,←hfin.out];exact hp.kn hk2,hk.trans hk2.weak⟩
  |false=>
   have hBad:=Qh hbad;have hn':s.size-st'.at_<gk∧st'.deep=st.deep∧st.at_≤st'.at_∧qs.length≤st'.at_-st.at_:=by
    rcases hn with h|h
    ·rw[hbad] at h;cases h
    ·exact h
   obtain⟨hn1,hn2,hn3,hn4⟩:=hn';have HN2:=Qh hn2;rw[hbad] at x2;clear hbad hn hn2;have hat:=hp.2.1;obtain⟨m,hm⟩:∃m,gk=m+1:=⟨gk-1,by omega⟩;have hm':=Qh hm;clear hm;cases hce:catEnd s st' with
   |true=>
    have hCE:=Qh hce;have hfin:Hid ((ts,st')=QQ (fcN s n) s (s.size+2) [] st):=Qh (by
     rw[←hfl.out,hm'.out];simp[QQ,hBad.out,hCE.out])
    obtain⟨a,c,hv,hpt⟩:=HROW.out.ptrs;subst hv;have HPT:=Qh hpt;clear hpt hce;have hways:Hid (decide (st'.at_<s.size)=false∨(decide (st'.at_<s.size)=true∧(((bt s st'.at_:Nat):Int)==124)=true)∨(decide (st'.at_<s.size)=true∧(((bt s st'.at_:Nat):Int)==124)=false∧(((bt s st'.at_:Nat):Int)==41)=true)):=Qh (by
     have h1:=hCE.out;simp only[catEnd,Bool.or_eq_true,Bool.not_eq_true',decide_eq_true_eq] at h1;by_cases hl:st'.at_<s.size
     ·by_cases h124:bt s st'.at_=124
      ·right;left;exact⟨by simpa using hl,by simp[h124]⟩
      ·right;right;rcases h1 with(h1|h1)|h1
       ·simp at h1;omega
       ·exact(h124 h1).elim
       ·exact⟨by simpa using hl,by simp;omega,by simp[h1]⟩
     ·left;simpa using hl)
    rcases hways.out with hd|⟨hd,h124⟩|⟨hd,h124,h41⟩
    all_goals
     go_wp2_with fail
     refine(QX p s st' wr hp).mono ?_;rintro e w' ⟨rfl,n1,rfl⟩;clear x0 x1 x2 x3 x4;go_wp2_with fail
     refine(hfinish.out (wr.drewN n1) qs a c (hts.kn ((Qb _ _).drewN n1)) (HPT.out.kn ((Qb _ _).drewN n1)) hql).mono ?_;rintro e w2 ⟨q,rfl,hq,hk2⟩;go_wp2_with fail
     go_ret;exact⟨q,rfl,by rw[hF1.out,←hfin.out];exact hq,by rw[hF2.out,←hfin.out];exact(hp.drewN n1).kn hk2,(hk.drewN n1).trans hk2.weak⟩
   |false=>
    have hCE:=Qh hce;have hcx:st'.at_<s.size∧¬bt s st'.at_=124∧¬bt s st'.at_=41:=by
     simp only[catEnd,Bool.or_eq_false_iff,Bool.not_eq_false',decide_eq_true_eq,decide_eq_false_iff_not] at hce;exact⟨hce.1.1,hce.1.2,hce.2⟩
    have hd:decide (st'.at_<s.size)=true:=by simpa using hcx.1
    have h124:(((bt s st'.at_:Nat):Int)==124)=false:=by have:=hcx.2.1;simp;omega
    have h41:(((bt s st'.at_:Nat):Int)==41)=false:=by have:=hcx.2.2;simp;omega
    have hfl':Hid (QQ (fcN s n) s m (ts++[(fcN s n st').1]) (fcN s n st').2=QQ (fcN s n) s (s.size+2) [] st):=Qh (by
     rw[←hfl.out,hm'.out];simp[QQ,hBad.out,hCE.out])
    clear hce hcx;go_wp2_with fail
    refine(QX p s st' wr hp).mono ?_;rintro e w' ⟨rfl,n1,rfl⟩;clear x0 x1 x2 x3 x4;go_wp2_with fail
    refine(factor_c n IH.out p s st' _ (hp.drewN n1) hBad.out (by rw[HN2.out];exact h0) (by rw[HN2.out];exact h50) (by omega)).mono ?_;rintro e w2 ⟨q,rfl,hq,hp2,hk2⟩;have hg:=fcN_good s n st' hBad.out (by rw[HN2.out];exact h0) (by rw[HN2.out];exact h50);have hk2':K1 p w w2:=(hk.drewN n1).trans hk2;have hrow2:RowN w2 w.heap.size v qs:=(HROW.out.kp ((Qb (fun k=>k=p) wr).drewN n1) (fun k hk1 _ e=>by omega)).kp hk2 (fun k hk1 _ e=>by omega);have hts2:=(hts.kn ((Qb _ _).drewN n1)).mono61 ((hp.drewN n1).nodes hk2);have hrow3:=hrow2.kp ((Qb (fun _=>False) w2).alloc (Qt q)) (fun k _ _ x=>x);have hcell:(w2.alloc (Qt q)).cell? ⟨w2.heap.size,0,none⟩=some (ptr q):=Qa (Qf w2 (Qt q)) 0;have hb9:w.heap.size≤(w2.alloc (Qt q)).heap.size:=by have:=hk2'.size;simp;omega
    have hwn:=Qh (And.intro hrow3 hcell);clear hrow3 hcell hrow2;go_wp2_with (first|(at_builtin;refine wpList_append_z _ rfl _ _ 294 rfl w.heap.size 295 i0 (.pointer none) 8 Tryz.underlying294 HI.out.1 HI.out.2.1 HI.out.2.2.1 HI.out.2.2.2 rfl v (qs.map ptr) rfl hwn.out.1 ⟨w2.heap.size,0,none⟩ 1 (ptr q) rfl hwn.out.2 rfl ?c1 ?c2 hb9 ?_;(case c1=>simp[maxLen];omega);(case c2=>simp;omega);intro v' w4 hrow4 hk4))
    have hp3:=hp2.kn ((Qb _ w2).alloc (Qt q));have hkn4:=nodes_row (v:=v) hk4 (fun k x=>x.2);have hp4:=hp3.kp hk4 (fun x=>by have:=HROW.out.ge p x.1;omega);have hk4':K1 p w w4:=(hk2'.alloc (Qt q)).trans' hk4 (fun k hk1 x=>by have:=HROW.out.ge k x.1;omega);have hq4:=(hq.alloc (Qt q)).mono61 hkn4;have hts4:=(hts2.kn ((Qb _ w2).alloc (Qt q))).mono61 hkn4;have hrow5:RowN w4 w.heap.size v' (qs++[q]):=by
     unfold RowN;rw[List.map_append];exact hrow4
    have hts5:=hts4.snoc hq4;have hnx:(fcN s n st').2.bad=true∨(s.size-(fcN s n st').2.at_<m∧(fcN s n st').2.deep=st.deep∧st.at_≤(fcN s n st').2.at_∧(qs++[q]).length≤(fcN s n st').2.at_-st.at_):=by
     cases hx:(fcN s n st').2.bad with
     |true=>exact .inl rfl
     |false=>
      obtain⟨y1,y2,y3⟩:=hg.ok hx;have y4:=hp2.2.1;have y5:=hm'.out;have y6:=HN2.out;exact .inr ⟨by omega,by omega,by omega,by simp;omega⟩
    have HX:=Qh (And.intro hnx (And.intro hrow5 (show(qs++[q]).length≤s.size+1 by simp;omega)));clear hnx hrow5 hrow4;go_wp2_with fail
    go_roundg m
    case measure=>have:=hm'.out;omega
    case rel=>exact⟨_,qs++[q],_,_,rfl,HX.out.2.1,hts5,hfl',HX.out.2.2,HX.out.1,hp4,hk4'⟩
theorem row_one{w:World}{B q:Nat}(hB:B≤w.heap.size):RowN (w.alloc (Qt q)) B (.slice (some ⟨w.heap.size,0,none⟩) 1 1) [q]:=
 RowZ.new (w:=w) (B:=B) (e:=295) (z:= .pointer none) [ptr q] hB (by simp[maxLen])
theorem or_c(n:Nat)(ih:OrC n):OrC (n+1):=by
 intro p s st w h hb h0 h50 hr;have hsz:=h.2.2;have hpl:=h.lt;obtain⟨i0,hi,hz0,hz1,hz2⟩:=info_parts info_ptr;have HI:=Qh (And.intro hi (And.intro hz0 (And.intro hz1 hz2)));clear hi hz0 hz1 hz2;have hF:Hid (orN s (n+1) st=(Re.two .or Rw.none (Ye (ctN s n) s (s.size+2) [(ctN s n st).1] (ctN s n st).2).1,(Ye (ctN s n) s (s.size+2) [(ctN s n st).1] (ctN s n st).2).2)):=Qh rfl;have CC:=Qh (pcat_c n ih);have hg:=ctN_good s n st hb h0 h50;have hcat:=Qh (pcat_c n ih p s st w h hb h0 h50 (by omega));have IH:=Qh ih;clear ih;go_enter Tryz.func254,Tryz.ntmps254;go_wp2_with fail
 refine hcat.out.mono ?_;rintro e w1 ⟨q1,rfl,hq1,hp1,hk1⟩;have hB1:w.heap.size≤w1.heap.size:=hk1.size;have hrow0:=Qh (row_one (w:=w1) (q:=q1) hB1);have hq1':=hq1.alloc (Qt q1);have hp1':=hp1.kn ((Qb _ w1).alloc (Qt q1));have hk1':K1 p w (w1.alloc (Qt q1)):=hk1.alloc _;have hn0:(ctN s n st).2.bad=true∨(s.size-(ctN s n st).2.at_<s.size+2∧(ctN s n st).2.deep=st.deep∧st.at_≤(ctN s n st).2.at_∧([q1]:List Nat).length≤(ctN s n st).2.at_-st.at_+1):=by
  cases hx:(ctN s n st).2.bad with
  |true=>exact .inl rfl
  |false=>
   obtain⟨y1,y2,y3⟩:=hg.ok hx;exact .inr ⟨by omega,by omega,by omega,by simp⟩
 have HN0:=Qh hn0;clear hn0 hg;generalize ctN s n st=r at*;have hF1:Hid ((orN s (n+1) st).1=Re.two .or Rw.none (Ye (ctN s n) s (s.size+2) [r.1] r.2).1):=Qh (by rw[hF.out]);have hF2:Hid ((orN s (n+1) st).2=(Ye (ctN s n) s (s.size+2) [r.1] r.2).2):=Qh (by rw[hF.out]);go_wp2_with fail
 go_loopg [3] (s.size+2) (fun k v9 wr=>∃(v:Value) (qs:List Nat) (ts:List Rw) (st':PS),v=v9∧RowN wr w.heap.size v qs∧RowAt wr ts qs∧Hid (Ye (ctN s n) s k ts st'=Ye (ctN s n) s (s.size+2) [r.1] r.2)∧qs.length≤s.size+2∧
  (st'.bad=true∨(s.size-st'.at_<k∧st'.deep=st.deep∧st.at_≤st'.at_∧qs.length≤st'.at_-st.at_+1))∧Pat wr p s st'∧K1 p w wr)
 case atStart=>exact⟨_,[q1],[r.1],r.2,rfl,hrow0.out,.cons hq1' .nil,Qh rfl,by simp,HN0.out,hp1',hk1'⟩
 case round=>
  clear hq1 hp1 hk1 hq1' hp1' hk1' hrow0 HN0 hcat hF hB1;obtain⟨v,qs,ts,st',rfl,hrow,hts,hfl,hql,hn,hp,hk⟩:=hrel;have HROW:=Qh hrow;clear hrow;obtain⟨x0,x1,x2,x3,x4,_,_,_,_⟩:=hp.cells;have hfinish:Hid (∀(WX:World) (qs:List Nat) (a:Option Addr) (c:Nat),RowAt WX ts qs→PtrsAt WX a qs→qs.length≤s.size+2→Calls Tryz.prog 303 #[.slice a qs.length c] WX fun e w'=>∃q:Nat,e= .returned (ptr q)∧NodeAt w' (Re.two .or Rw.none ts) q∧Kn WX w'):=
   Qh (fun WX qs a c h1 h2 h3=>Or_c ts qs a c WX h1 h2 (by omega))
  cases hbad:st'.bad with
  |true=>
   have hBad:=Qh hbad;rw[hbad] at x2;have hfin:Hid ((ts,st')=Ye (ctN s n) s (s.size+2) [r.1] r.2):=Qh (by
    rw[←hfl.out];cases gk with
    |zero=>rfl
    |succ m=>simp[Ye,hBad.out])
   clear hbad hn;obtain⟨a,c,hv,hpt⟩:=HROW.out.ptrs;subst hv;have HPT:=Qh hpt;clear hpt;go_wp2_with fail
   refine(hfinish.out wr qs a c hts HPT.out hql).mono ?_;rintro e w2 ⟨q,rfl,hq,hk2⟩;go_wp2_with fail
   go_ret;exact⟨q,rfl,by rw[hF1.out,←hfin.out];exact hq,by rw[hF2.out,←hfin.out];exact hp.kn hk2,hk.trans hk2.weak⟩
  |false=>
   have hBad:=Qh hbad;have hn':s.size-st'.at_<gk∧st'.deep=st.deep∧st.at_≤st'.at_∧qs.length≤st'.at_-st.at_+1:=by
    rcases hn with h|h
    ·rw[hbad] at h;cases h
    ·exact h
   obtain⟨hn1,hn2,hn3,hn4⟩:=hn';have HN2:=Qh hn2;rw[hbad] at x2;clear hbad hn hn2;have hat:=hp.2.1;obtain⟨m,hm⟩:∃m,gk=m+1:=⟨gk-1,by omega⟩;have hm':=Qh hm;clear hm;cases hbar:isB s 124 st' with
   |false=>
    have hI:=Qh hbar;have hS:=Qh (isB_not hbar);have hfin:Hid ((ts,st')=Ye (ctN s n) s (s.size+2) [r.1] r.2):=Qh (by
     rw[←hfl.out,hm'.out];simp[Ye,hBad.out,hI.out])
    clear hbar;go_wp2_with fail
    refine(YN 124 p s st' wr hp).mono ?_;rintro e w2 ⟨rfl,hp2,hk2⟩;rw[hI.out];rw[hS.out] at hp2;have hts2:=hts.mono61 (hp.nodes hk2);have hrow2:RowN w2 w.heap.size v qs:=HROW.out.kp hk2 (fun k hk1 _ e=>by omega);obtain⟨a,c,hv,hpt⟩:=hrow2.ptrs;have HPT:=Qh hpt;clear hrow2 hpt;clear x0 x1 x2 x3 x4;subst hv;go_wp2_with fail
    refine(hfinish.out w2 qs a c hts2 HPT.out hql).mono ?_;rintro e w3 ⟨q,rfl,hq,hk3⟩;go_wp2_with fail
    go_ret;exact⟨q,rfl,by rw[hF1.out,←hfin.out];exact hq,by rw[hF2.out,←hfin.out];exact hp2.kn hk3,(hk.trans hk2).trans hk3.weak⟩
   |true=>
    have hI:=Qh hbar;have hS:=Qh (isB_next hbar);have hlt:=isB_lt hbar;have hfl':Hid (Ye (ctN s n) s m (ts++[(ctN s n st'.next).1]) (ctN s n st'.next).2=Ye (ctN s n) s (s.size+2) [r.1] r.2):=Qh (by
     rw[←hfl.out,hm'.out];simp[Ye,hBad.out,hI.out])
    clear hbar;go_wp2_with fail
    refine(YN 124 p s st' wr hp).mono ?_;rintro e w1b ⟨rfl,hp1b,hk1b⟩;rw[hI.out];rw[hS.out] at hp1b;clear x0 x1 x2 x3 x4;have hd0:0≤st'.next.deep:=by show 0≤st'.deep;rw[HN2.out];exact h0
    have hd50:st'.next.deep≤50:=by show st'.deep≤50;rw[HN2.out];exact h50
    have hat':s.size-st'.next.at_≤n:=by show s.size-(st'.at_+1)≤n;omega
    go_wp2_with fail
    refine(CC.out p s st'.next w1b hp1b hBad.out hd0 hd50 hat').mono ?_;rintro e w2 ⟨q,rfl,hq,hp2,hk2⟩;have hg:=ctN_good s n st'.next hBad.out hd0 hd50;have hk2':K1 p w w2:=(hk.trans hk1b).trans hk2;have hrow2:RowN w2 w.heap.size v qs:=(HROW.out.kp hk1b (fun k hk1 _ e=>by omega)).kp hk2 (fun k hk1 _ e=>by omega);have hts2:=(hts.mono61 (hp.nodes hk1b)).mono61 (hp1b.nodes hk2);have hrow3:=hrow2.kp ((Qb (fun _=>False) w2).alloc (Qt q)) (fun k _ _ x=>x);have hcell:(w2.alloc (Qt q)).cell? ⟨w2.heap.size,0,none⟩=some (ptr q):=Qa (Qf w2 (Qt q)) 0;have hb9:w.heap.size≤(w2.alloc (Qt q)).heap.size:=by have:=hk2'.size;simp;omega
    have hwn:=Qh (And.intro hrow3 hcell);clear hrow3 hcell hrow2;go_wp2_with (first|(at_builtin;refine wpList_append_z _ rfl _ _ 294 rfl w.heap.size 295 i0 (.pointer none) 8 Tryz.underlying294 HI.out.1 HI.out.2.1 HI.out.2.2.1 HI.out.2.2.2 rfl v (qs.map ptr) rfl hwn.out.1 ⟨w2.heap.size,0,none⟩ 1 (ptr q) rfl hwn.out.2 rfl ?c1 ?c2 hb9 ?_;(case c1=>simp[maxLen];omega);(case c2=>simp;omega);intro v' w4 hrow4 hk4))
    have hp3:=hp2.kn ((Qb _ w2).alloc (Qt q));have hkn4:=nodes_row (v:=v) hk4 (fun k x=>x.2);have hp4:=hp3.kp hk4 (fun x=>by have:=HROW.out.ge p x.1;omega);have hk4':K1 p w w4:=(hk2'.alloc (Qt q)).trans' hk4 (fun k hk1 x=>by have:=HROW.out.ge k x.1;omega);have hq4:=(hq.alloc (Qt q)).mono61 hkn4;have hts4:=(hts2.kn ((Qb _ w2).alloc (Qt q))).mono61 hkn4;have hrow5:RowN w4 w.heap.size v' (qs++[q]):=by
     unfold RowN;rw[List.map_append];exact hrow4
    have hts5:=hts4.snoc hq4;have hnx:(ctN s n st'.next).2.bad=true∨(s.size-(ctN s n st'.next).2.at_<m∧(ctN s n st'.next).2.deep=st.deep∧st.at_≤(ctN s n st'.next).2.at_∧(qs++[q]).length≤(ctN s n st'.next).2.at_-st.at_+1):=by
     cases hx:(ctN s n st'.next).2.bad with
     |true=>exact .inl rfl
     |false=>
      obtain⟨y1,y2,y3⟩:=hg.ok hx;have y4:=hp2.2.1;have y5:=hm'.out;have y6:=HN2.out;have y7:st'.next.at_=st'.at_+1:=rfl;have y8:st'.next.deep=st'.deep:=rfl;exact .inr ⟨by omega,by omega,by omega,by simp;omega⟩
    have HX:=Qh (And.intro hnx (And.intro hrow5 (show(qs++[q]).length≤s.size+2 by simp;omega)));clear hnx hrow5 hrow4;go_wp2_with fail
    go_roundg m
    case measure=>have:=hm'.out;omega
    case rel=>exact⟨_,qs++[q],_,_,rfl,HX.out.2.1,hts5,hfl',HX.out.2.2,HX.out.1,hp4,hk4'⟩
theorem or_all:∀n,OrC n
 |0=>fun p s st w _ _ _ _ hr=>by omega
 |n+1=>or_c n (or_all n)
abbrev tripV(a:Value)(at_:Nat)(e:Int):Value:= .tuple #[a,.int .i64 at_,.int .i64 e]
def ParseOut(s:ByteArray)(w:World)(e:Ending)(w':World):Prop:=
 Kn w w'∧match YS s with
 | .ok t=>∃q:Nat,e= .returned (tripV (ptr q) 0 0)∧NodeAt w' t q∧t.size≤400
 | .err at_ no=>e= .returned (tripV (.pointer none) at_ no)
theorem Parse_c(s:ByteArray)(w:World)(hs:s.size≤1099511627776):
  Calls Tryz.prog 212 #[.string s] w (ParseOut s w):=by
 have hstart:Pat (w.alloc (.cells (psArr s QN) 399 (0,0))) w.heap.size s QN:=⟨Qf w _,by simp[QN],hs⟩;have hor:=Qh (or_all (s.size+2) w.heap.size s QN _ hstart rfl (by simp[QN]) (by simp[QN]) (by simp[QN]));have hg:=orN_good s (s.size+2) QN rfl (by simp[QN]) (by simp[QN]);have hO:Hid (YS s=if(orN s (s.size+2) QN).2.long then .err 0 3 else if(orN s (s.size+2) QN).2.bad||decide ((orN s (s.size+2) QN).2.at_<s.size) then .err (orN s (s.size+2) QN).2.at_ 4 else if 400<(orN s (s.size+2) QN).1.size then .err 0 3 else .ok (orN s (s.size+2) QN).1):=Qh rfl;have hOut:Hid (∀(e:Ending) (w':World),Kn w w'→(match YS s with
   | .ok t=>∃q:Nat,e= .returned (tripV (ptr q) 0 0)∧NodeAt w' t q∧t.size≤400
   | .err at_ no=>e= .returned (tripV (.pointer none) at_ no))→ParseOut s w e w'):=Qh (fun e w' h1 h2=>⟨h1,h2⟩)
 have hkfin:∀w',K1 w.heap.size (w.alloc (.cells (psArr s QN) 399 (0,0))) w'→Kn w w':=fun w' hk=>
  ((Qb (fun _=>False) w).alloc _).trans' hk (fun i hi x=>by omega)
 have HK:=Qh hkfin;clear hkfin;go_enter Tryz.func212,Tryz.ntmps212;go_wp2_with fail
 refine hor.out.mono ?_;rintro e w1 ⟨q,rfl,hq,hp,hk⟩;have hk':=HK.out w1 hk;clear hor hstart;generalize orN s (s.size+2) QN=r at*;obtain⟨x0,x1,x2,x3,x4,_,_,_,_⟩:=hp.cells;have hat:=hp.2.1;cases hlong:r.2.long with
 |true=>
  have hO':Hid (YS s= .err 0 3):=Qh (by rw[hO.out,hlong];try rfl);rw[hlong] at x3;clear hlong;go_wp2_with fail
  refine bodyPost_ret (results_tmp3 rfl _ _ _) rfl (hOut.out _ _ hk' ?_);rw[hO'.out];try rfl
 |false=>
  have hL:=Qh hlong;rw[hlong] at x3;clear hlong;cases hbad:r.2.bad with
  |true=>
   have hO':Hid (YS s= .err r.2.at_ 4):=Qh (by rw[hO.out,hL.out,hbad];try rfl);rw[hbad] at x2;clear hbad;go_wp2_with fail
   go_quiet (fail)
   go_wp2_with fail
   refine bodyPost_ret (results_tmp3 rfl _ _ _) rfl (hOut.out _ _ (hk'.drewN _) ?_);rw[hO'.out];try rfl
  |false=>
   have hB:=Qh hbad;rw[hbad] at x2;by_cases hlt:r.2.at_<s.size
   ·have hO':Hid (YS s= .err r.2.at_ 4):=Qh (by rw[hO.out,hL.out,hbad];simp[hlt]);have hlt':(r.2.at_:Int)<s.size:=by omega
    clear hbad;go_wp2_with fail
    go_quiet (fail)
    go_wp2_with fail
    refine bodyPost_ret (results_tmp3 rfl _ _ _) rfl (hOut.out _ _ (hk'.drewN _) ?_);rw[hO'.out];try rfl
   ·have hlt':¬(r.2.at_:Int)<s.size:=by omega
    obtain⟨g1,g2,g3⟩:=hg.ok hbad;have hsz:r.1.size≤9223372036854775807:=by simp only[QN] at g2 g3;omega
    clear g1 g2 g3 hg;by_cases hgt:400<r.1.size
    ·have hO':Hid (YS s= .err 0 3):=Qh (by rw[hO.out,hL.out,hbad];simp[hlt,hgt]);have hgt':(400:Int)<(r.1.size:Int):=by omega
     clear hbad;go_wp2_with fail
     refine(Size_c _ _ _ _ rfl hq hsz).mono ?_;rintro e w2 ⟨rfl,rfl⟩;go_wp2_with fail
     refine bodyPost_ret (results_tmp3 rfl _ _ _) rfl (hOut.out _ _ hk' ?_);rw[hO'.out];try rfl
    ·have hO':Hid (YS s= .ok r.1):=Qh (by rw[hO.out,hL.out,hbad];simp[hlt,hgt]);have hgt':¬(400:Int)<(r.1.size:Int):=by omega
     have hle:=Qh (Nat.not_lt.1 hgt);clear hbad;go_wp2_with fail
     refine(Size_c _ _ _ _ rfl hq hsz).mono ?_;rintro e w2 ⟨rfl,rfl⟩;go_wp2_with fail
     refine bodyPost_ret (results_tmp3 rfl _ _ _) rfl (hOut.out _ _ hk' ?_);rw[hO'.out];exact⟨q,rfl,hq,hle.out⟩
def nmB(c i:Nat):Bool:=(decide (97≤c)&&decide (c≤122))||(decide (0<i)&&(decide (48≤c)&&decide (c≤57)))
def blB(c i:Nat):Bool:=(decide (65≤c)&&decide (c≤90))||(decide (0<i)&&((decide (97≤c)&&decide (c≤122))||(decide (48≤c)&&decide (c≤57))))
def chAll(f:Nat→Nat→Bool)(s:ByteArray)(k:Nat):Bool:=(List.range k).all (fun i=>f (bt s i) i)
theorem chAll_succ(f:Nat→Nat→Bool)(s:ByteArray)(k:Nat):chAll f s (k+1)=(chAll f s k&&f (bt s k) k):=by
 unfold chAll;rw[List.range_succ,List.all_append];simp
theorem chAll_false{f:Nat→Nat→Bool}{s:ByteArray}{k:Nat}(hk:k<s.size)(h:f (bt s k) k=false):chAll f s s.size=false:=by
 unfold chAll;cases h1:(List.range s.size).all (fun i=>f (bt s i) i) with
 |false=>rfl
 |true=>
  have:=List.all_eq_true.1 h1 k (List.mem_range.2 hk);simp[h] at this
def nmOk(s:ByteArray):Bool:=chAll nmB s s.size&&(decide (s.size≠0)&&decide (s.size≤20))
def blOk(s:ByteArray):Bool:=chAll blB s s.size&&(decide (s.size≠0)&&decide (s.size≤20))
def litP:ByteArray:=⟨#[108,105,116]⟩
def gnOk(s:ByteArray):Bool:=nmOk s&& !Lib.hasPrefix s.data.toList litP.data.toList
theorem sNamed_c(s:ByteArray)(w:World)(hs:s.size≤1099511627776):
  Calls Tryz.prog 211 #[.string s] w fun e w'=>e= .returned (.bool (nmOk s))∧w=w':=by
 go_enter Tryz.func211,Tryz.ntmps211;go_wp2_with fail
 go_loopw [7] (fun i wr=>w=wr∧∃k:Nat,k≤s.size∧i= .int .i64 k∧chAll nmB s k=true) (fun i _=>s.size-(intOf i).toNat)
 case atStart=>exact⟨rfl,0,Nat.zero_le _,rfl,rfl⟩
 case round=>
  obtain⟨rfl,k,hk,rfl,hall⟩:=hrel;by_cases hlt:k<s.size
  ·have hlt':(k:Int)<s.size:=by omega
   have hE:=bt_in hlt;by_cases e0:97≤bt s k<;>by_cases e1:bt s k≤122<;>by_cases e2:48≤bt s k<;>by_cases e3:bt s k≤57<;>by_cases ez:0<k<;>first
    |(exfalso;omega)
    |(first|have hB:Hid (nmB (bt s k) k=true):=Qh (by simp[nmB];omega)|have hB:Hid (nmB (bt s k) k=false):=Qh (by simp[nmB];omega)
      first|have i0:(97:Int)≤((s[k].toNat:Nat):Int):=by(rw[hE] at e0;omega)|have i0:¬(97:Int)≤((s[k].toNat:Nat):Int):=by(rw[hE] at e0;omega)
      first|have i1:((s[k].toNat:Nat):Int)≤122:=by(rw[hE] at e1;omega)|have i1:¬((s[k].toNat:Nat):Int)≤122:=by(rw[hE] at e1;omega)
      first|have i2:(48:Int)≤((s[k].toNat:Nat):Int):=by(rw[hE] at e2;omega)|have i2:¬(48:Int)≤((s[k].toNat:Nat):Int):=by(rw[hE] at e2;omega)
      first|have i3:((s[k].toNat:Nat):Int)≤57:=by(rw[hE] at e3;omega)|have i3:¬((s[k].toNat:Nat):Int)≤57:=by(rw[hE] at e3;omega)
      first|have iz:(0:Int)<(k:Int):=by omega|have iz:¬(0:Int)<(k:Int):=by omega
      clear hE ez e0 e1 e2 e3;go_wp2_with fail
      first
       |(go_ret;exact⟨by rw[show nmOk s=false by simp[nmOk,chAll_false hlt hB.out]];rfl,rfl⟩)
       |(go_roundw;(case rel=>exact⟨by trivial,k+1,by omega,by go_num,by rw[chAll_succ,hall,hB.out];try rfl⟩);(case measure=>simp[intOf];omega)))
  ·obtain rfl:k=s.size:=by omega
   by_cases h0:s.size=0
   ·have hF:Hid (nmOk s=false):=Qh (by simp[nmOk,h0]);have he:s.toList.isEmpty=true:=by
     have:s.data.toList=[]:=by
      apply List.eq_nil_of_length_eq_zero;simpa using h0
     rw[Lib.toList_data,this];try rfl
    go_wp2_with fail
    go_ret;exact⟨by rw[hF.out];try rfl,rfl⟩
   ·have he:s.toList.isEmpty=false:=by
     cases h:s.toList.isEmpty with
     |false=>rfl
     |true=>exact(h0 (by
       rw[Lib.toList_data] at h;have h2:=List.isEmpty_iff.1 h;show s.data.size=0;rw[←Array.length_toList,h2];try rfl)).elim
    by_cases h2:s.size≤20
    ·have i2:(s.size:Int)≤20:=by omega
     have hF:Hid (nmOk s=true):=Qh (by simp[nmOk,hall,h2,h0]);go_wp2_with fail
     go_ret;exact⟨by rw[hF.out];try rfl,rfl⟩
    ·have i2:¬(s.size:Int)≤20:=by omega
     have hF:Hid (nmOk s=false):=Qh (by simp[nmOk,h2]);go_wp2_with fail
     go_ret;exact⟨by rw[hF.out];try rfl,rfl⟩
theorem gBuilt_c(s:ByteArray)(w:World)(hs:s.size≤1099511627776):
  Calls Tryz.prog 154 #[.string s] w fun e w'=>e= .returned (.bool (blOk s))∧w=w':=by
 go_enter Tryz.func154,Tryz.ntmps154;go_wp2_with fail
 go_loopw [7] (fun i wr=>w=wr∧∃k:Nat,k≤s.size∧i= .int .i64 k∧chAll blB s k=true) (fun i _=>s.size-(intOf i).toNat)
 case atStart=>exact⟨rfl,0,Nat.zero_le _,rfl,rfl⟩
 case round=>
  obtain⟨rfl,k,hk,rfl,hall⟩:=hrel;by_cases hlt:k<s.size
  ·have hlt':(k:Int)<s.size:=by omega
   have hE:=bt_in hlt;by_cases e0:65≤bt s k<;>by_cases e1:bt s k≤90<;>by_cases e2:97≤bt s k<;>by_cases e3:bt s k≤122<;>by_cases e4:48≤bt s k<;>by_cases e5:bt s k≤57<;>by_cases ez:0<k<;>first
    |(exfalso;omega)
    |(first|have hB:Hid (blB (bt s k) k=true):=Qh (by simp[blB];omega)|have hB:Hid (blB (bt s k) k=false):=Qh (by simp[blB];omega)
      first|have i0:(65:Int)≤((s[k].toNat:Nat):Int):=by(rw[hE] at e0;omega)|have i0:¬(65:Int)≤((s[k].toNat:Nat):Int):=by(rw[hE] at e0;omega)
      first|have i1:((s[k].toNat:Nat):Int)≤90:=by(rw[hE] at e1;omega)|have i1:¬((s[k].toNat:Nat):Int)≤90:=by(rw[hE] at e1;omega)
      first|have i2:(97:Int)≤((s[k].toNat:Nat):Int):=by(rw[hE] at e2;omega)|have i2:¬(97:Int)≤((s[k].toNat:Nat):Int):=by(rw[hE] at e2;omega)
      first|have i3:((s[k].toNat:Nat):Int)≤122:=by(rw[hE] at e3;omega)|have i3:¬((s[k].toNat:Nat):Int)≤122:=by(rw[hE] at e3;omega)
      first|have i4:(48:Int)≤((s[k].toNat:Nat):Int):=by(rw[hE] at e4;omega)|have i4:¬(48:Int)≤((s[k].toNat:Nat):Int):=by(rw[hE] at e4;omega)
      first|have i5:((s[k].toNat:Nat):Int)≤57:=by(rw[hE] at e5;omega)|have i5:¬((s[k].toNat:Nat):Int)≤57:=by(rw[hE] at e5;omega)
      first|have iz:(0:Int)<(k:Int):=by omega|have iz:¬(0:Int)<(k:Int):=by omega
      clear hE ez e0 e1 e2 e3 e4 e5;go_wp2_with fail
      first
       |(go_ret;exact⟨by rw[show blOk s=false by simp[blOk,chAll_false hlt hB.out]];rfl,rfl⟩)
       |(go_roundw;(case rel=>exact⟨by trivial,k+1,by omega,by go_num,by rw[chAll_succ,hall,hB.out];try rfl⟩);(case measure=>simp[intOf];omega)))
  ·obtain rfl:k=s.size:=by omega
   by_cases h0:s.size=0
   ·have hF:Hid (blOk s=false):=Qh (by simp[blOk,h0]);have he:s.toList.isEmpty=true:=by
     have:s.data.toList=[]:=by
      apply List.eq_nil_of_length_eq_zero;simpa using h0
     rw[Lib.toList_data,this];try rfl
    go_wp2_with fail
    go_ret;exact⟨by rw[hF.out];try rfl,rfl⟩
   ·have he:s.toList.isEmpty=false:=by
     cases h:s.toList.isEmpty with
     |false=>rfl
     |true=>exact(h0 (by
       rw[Lib.toList_data] at h;have h2:=List.isEmpty_iff.1 h;show s.data.size=0;rw[←Array.length_toList,h2];try rfl)).elim
    by_cases h2:s.size≤20
    ·have i2:(s.size:Int)≤20:=by omega
     have hF:Hid (blOk s=true):=Qh (by simp[blOk,hall,h2,h0]);go_wp2_with fail
     go_ret;exact⟨by rw[hF.out];try rfl,rfl⟩
    ·have i2:¬(s.size:Int)≤20:=by omega
     have hF:Hid (blOk s=false):=Qh (by simp[blOk,h2]);go_wp2_with fail
     go_ret;exact⟨by rw[hF.out];try rfl,rfl⟩
theorem gNamed_c(s:ByteArray)(w:World)(hs:s.size≤1099511627776):
  Calls Tryz.prog 152 #[.string s] w fun e w'=>e= .returned (.bool (gnOk s))∧w=w':=by
 have HP:=Qh (Tryz.strings_HasPrefix s litP w);go_enter Tryz.func152,Tryz.ntmps152;go_wp2_with fail
 go_loopw [7] (fun i wr=>w=wr∧∃k:Nat,k≤s.size∧i= .int .i64 k∧chAll nmB s k=true) (fun i _=>s.size-(intOf i).toNat)
 case atStart=>exact⟨rfl,0,Nat.zero_le _,rfl,rfl⟩
 case round=>
  obtain⟨rfl,k,hk,rfl,hall⟩:=hrel;by_cases hlt:k<s.size
  ·have hlt':(k:Int)<s.size:=by omega
   have hE:=bt_in hlt;by_cases e0:97≤bt s k<;>by_cases e1:bt s k≤122<;>by_cases e2:48≤bt s k<;>by_cases e3:bt s k≤57<;>by_cases ez:0<k<;>first
    |(exfalso;omega)
    |(first|have hB:Hid (nmB (bt s k) k=true):=Qh (by simp[nmB];omega)|have hB:Hid (nmB (bt s k) k=false):=Qh (by simp[nmB];omega)
      first|have i0:(97:Int)≤((s[k].toNat:Nat):Int):=by(rw[hE] at e0;omega)|have i0:¬(97:Int)≤((s[k].toNat:Nat):Int):=by(rw[hE] at e0;omega)
      first|have i1:((s[k].toNat:Nat):Int)≤122:=by(rw[hE] at e1;omega)|have i1:¬((s[k].toNat:Nat):Int)≤122:=by(rw[hE] at e1;omega)
      first|have i2:(48:Int)≤((s[k].toNat:Nat):Int):=by(rw[hE] at e2;omega)|have i2:¬(48:Int)≤((s[k].toNat:Nat):Int):=by(rw[hE] at e2;omega)
      first|have i3:((s[k].toNat:Nat):Int)≤57:=by(rw[hE] at e3;omega)|have i3:¬((s[k].toNat:Nat):Int)≤57:=by(rw[hE] at e3;omega)
      first|have iz:(0:Int)<(k:Int):=by omega|have iz:¬(0:Int)<(k:Int):=by omega
      clear hE ez e0 e1 e2 e3;go_wp2_with fail
      first
       |(go_ret;exact⟨by rw[show gnOk s=false by simp[gnOk,nmOk,chAll_false hlt hB.out]];rfl,rfl⟩)
       |(go_roundw;(case rel=>exact⟨by trivial,k+1,by omega,by go_num,by rw[chAll_succ,hall,hB.out];try rfl⟩);(case measure=>simp[intOf];omega)))
  ·obtain rfl:k=s.size:=by omega
   by_cases h0:s.size=0
   ·have hF:Hid (gnOk s=false):=Qh (by simp[gnOk,nmOk,h0]);have he:s.toList.isEmpty=true:=by
     have:s.data.toList=[]:=by
      apply List.eq_nil_of_length_eq_zero;simpa using h0
     rw[Lib.toList_data,this];try rfl
    go_wp2_with fail
    go_ret;exact⟨by rw[hF.out];try rfl,rfl⟩
   ·have he:s.toList.isEmpty=false:=by
     cases h:s.toList.isEmpty with
     |false=>rfl
     |true=>exact(h0 (by
       rw[Lib.toList_data] at h;have h2:=List.isEmpty_iff.1 h;show s.data.size=0;rw[←Array.length_toList,h2];try rfl)).elim
    by_cases h2:s.size≤20
    ·have i2:(s.size:Int)≤20:=by omega
     have hF:Hid (gnOk s= !Lib.hasPrefix s.data.toList litP.data.toList):=Qh (by simp[gnOk,nmOk,hall,h2,h0]);go_wp2_with fail
     refine HP.out.mono ?_;rintro e w' ⟨rfl,rfl⟩;go_wp2_with fail
     go_ret;exact⟨by rw[hF.out];try rfl,rfl⟩
    ·have i2:¬(s.size:Int)≤20:=by omega
     have hF:Hid (gnOk s=false):=Qh (by simp[gnOk,nmOk,h2]);go_wp2_with fail
     go_ret;exact⟨by rw[hF.out];try rfl,rfl⟩
end Go.Proofs.YtiehgcfckhepaaaGreatDoor
namespace Go.Proofs.YtiehgcfckhepaaaGreatDoor
def ins(p:Nat):List Nat→List Nat
 |[]=>[p]
 |q::l=>if p<q then p::q::l else if p=q then q::l else q::ins p l
def uni(a b:List Nat):List Nat:=b.foldl (fun l p=>ins p l) a
abbrev Ris(l:List Nat):Prop:=l.Pairwise (·< ·)
theorem mem_ins(p x:Nat):∀l:List Nat,x∈ins p l↔x=p∨x∈l
 |[]=>by simp[ins]
 |q::l=>by
  have ih:=mem_ins p x l;unfold ins;split
  ·simp
  ·split
   ·rename_i h;subst h;simp
   ·simp only[List.mem_cons,ih];constructor
    ·rintro(h|h|h)
     ·exact .inr (.inl h)
     ·exact .inl h
     ·exact .inr (.inr h)
    ·rintro(h|h|h)
     ·exact .inr (.inl h)
     ·exact .inl h
     ·exact .inr (.inr h)
theorem ris_ins(p:Nat):∀l:List Nat,Ris l→Ris (ins p l)
 |[],_=>by simp[ins,Ris]
 |q::l,h=>by
  obtain⟨h1,h2⟩:=List.pairwise_cons.1 h;have ih:=ris_ins p l h2;unfold ins;split
  ·rename_i hp;exact List.pairwise_cons.2 ⟨fun y hy=>by
    rcases List.mem_cons.1 hy with rfl|hy
    ·exact hp
    ·exact Nat.lt_trans hp (h1 y hy),h⟩
  ·split
   ·exact h
   ·rename_i hp hq;exact List.pairwise_cons.2 ⟨fun y hy=>by
     rw[mem_ins] at hy;rcases hy with rfl|hy
     ·omega
     ·exact h1 y hy,ih⟩
theorem mem_uni(x:Nat):∀(b a:List Nat),x∈uni a b↔x∈a∨x∈b
 |[],a=>by simp[uni]
 |p::b,a=>by
  have ih:=mem_uni x b (ins p a);show x∈uni (ins p a) b↔_;rw[ih,mem_ins,List.mem_cons];constructor
  ·rintro((h|h)|h)
   ·exact .inr (.inl h)
   ·exact .inl h
   ·exact .inr (.inr h)
  ·rintro(h|h|h)
   ·exact .inl (.inr h)
   ·exact .inl (.inl h)
   ·exact .inr h
theorem ris_uni:∀(b a:List Nat),Ris a→Ris (uni a b)
 |[],_,h=>h
 |p::b,a,h=>ris_uni b (ins p a) (ris_ins p a h)
theorem ris_len{N:Nat} :∀ {l:List Nat} {m:Nat},Ris l→(∀x∈l,m≤x∧x<N)→l.length≤N-m
 |[],_,_,_=>by simp
 |x::l,m,h,hx=>by
  obtain⟨h1,h2⟩:=List.pairwise_cons.1 h;have h0:=hx x (by simp);have ih:=ris_len (N:=N) (l:=l) (m:=x+1) h2 (fun y hy=>⟨h1 y hy,(hx y (List.mem_cons_of_mem _ hy)).2⟩);simp only[List.length_cons];omega
structure NP where
 bytes:W4
 rule:Nat
 follow:List Nat
structure KN where
 first:List Nat
 last:List Nat
 empty:Bool
def nlink(m:List NP)(a b:List Nat):List NP:=m.mapIdx (fun i x=>if a.contains i then {x with follow:=uni x.follow b} else x)
def Yw(a b:KN):KN:=⟨if a.empty then uni a.first b.first else a.first,if b.empty then uni b.last a.last else b.last,a.empty&&b.empty⟩
def Qo(rule:Nat):Rw→List NP→List NP×KN
 | .set b,m=>(m++[⟨b,rule,[]⟩],⟨[m.length],[m.length],false⟩)
 | .empty,m=>(m,⟨[],[],true⟩)
 | .cat x y,m=>
  let r:=Qo rule x m;let q:=Qo rule y r.1
  (nlink q.1 r.2.last q.2.first,Yw r.2 q.2)
 | .or x y,m=>
  let r:=Qo rule x m;let q:=Qo rule y r.1
  (q.1,⟨uni r.2.first q.2.first,uni r.2.last q.2.last,r.2.empty||q.2.empty⟩)
 | .star x,m=>
  let r:=Qo rule x m
  (nlink r.1 r.2.last r.2.first,⟨r.2.first,r.2.last,true⟩)
def Yq:Nat→List Rw→List NP→List NP×List KN
 |_,[],m=>(m,[])
 |i,t::ts,m=>((Yq (i+1) ts (Qo i t m).1).1,(Qo i t m).2::(Yq (i+1) ts (Qo i t m).1).2)
structure NM where
 pos:List NP
 rules:List KN
def nfaF(l:List Rw):NM:=⟨(Yq 0 l []).1,(Yq 0 l []).2⟩
def Qr:Rw→Nat
 | .set _=>1
 | .empty=>0
 | .cat x y=>Qr x+Qr y
 | .or x y=>Qr x+Qr y
 | .star x=>Qr x
structure DS where
 at_:List Nat
 next:List Int
 accept:Int
namespace NM
def has(m:NM)(p c:Nat):Bool:=match m.pos[p]? with|some x=>x.bytes.bit c|none=>false
def rule(m:NM)(p:Nat):Int:=match m.pos[p]? with|some x=>(x.rule:Int)|none=> -1
def follow(m:NM)(p:Nat):List Nat:=match m.pos[p]? with|some x=>x.follow|none=>[]
def last(m:NM)(r:Int):List Nat:=if r<0 then[] else match m.rules[r.toNat]? with|some k=>k.last|none=>[]
def behind(m:NM)(at_:List Nat):List Nat:=if at_=[] then m.rules.foldl (fun l k=>uni l k.first) [] else at_.foldl (fun l p=>uni l (m.follow p)) []
def acc(m:NM)(best:Int)(p:Nat):Int:=if(best= -1∨m.rule p<best)∧(m.last (m.rule p)).contains p=true then m.rule p else best
def accept(m:NM)(at_:List Nat):Int:=at_.foldl m.acc (-1)
def zeros:List Int:=List.replicate 256 0
def place(m:NM)(l:List DS)(tv:List Nat):List DS×Int:=
 if tv=[] then(l,-1) else match l.findIdx? (fun s=>decide (s.at_=tv)) with
 |some n=>(l,n)
 |none=>(l++[⟨tv,zeros,m.accept tv⟩],l.length)
def fillB(m:NM)(nx:List Nat)(n:Nat)(l:List DS)(c:Nat):List DS:=
 let r:=m.place l (nx.filter (fun p=>m.has p c))
 r.1.modify n (fun s=> {s with next:=s.next.set c r.2})
def fill(m:NM)(n:Nat)(l:List DS):List DS:=(List.range 256).foldl (m.fillB (m.behind ((l[n]?.map (·.at_)).getD [])) n) l
def go(m:NM):Nat→Nat→List DS→Option (List DS)
 |0,_,_=>none
 |f+1,n,l=>if n<l.length then(if 2000<(m.fill n l).length then none else go m f (n+1) (m.fill n l)) else some l
def dfa(m:NM):Option (List DS):=m.go 2002 0 [⟨[],zeros,-1⟩]
def some_(m:NM):Bool:=match m.dfa with|none=>true|some l=>l.any (fun s=>decide (s.accept≠-1))
end NM
def YV(t:Rw):Bool:= !t.nullable&&(nfaF [t]).some_
end Go.Proofs.YtiehgcfckhepaaaGreatDoor
