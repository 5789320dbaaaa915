/-
  Texts of this claim, laid together: NSet, NLay, KFlat, NMem, NLink, ShelfG, NWith, NCat, NParts, NOw. Conditions: none.
-/
import Derived.Test.YtiehgcfckhepaaaGreatDoorQAA
import Derived.Test.YtiehgcfckhepaaaGreatDoorQAB
import Derived.Maps.OwnSet
import Derived.Maps.RangeWalk
import Derived.Lib.SlMapMerge
import Derived.Shelf.SlMaps.Copy
import Derived.Shelf.SlMaps.Clone
import Derived.Maps.AppendAt
import Derived.Deep.AppendLies
import Derived.Shelf.SlGeneric
import Derived.Ground.SlmcProg
import Derived.Ground.SlmpProg
import Derived.Shelf.SlIterI.Nil
import Derived.Ground.GgzProg
import Derived.Shelf.SortM.Plain
import Derived.Shelf.SortM.SortNone
import Derived.Ground.SlgmProg
import Derived.Ground.NamesProg
import Derived.Shelf.Strings.SlTrimAscii
import Derived.Shelf.SlSortCmp.WholeK
import Derived.Ground.SlsfProg
import Derived.Test.YtiehgcfckhepaaaGreatDoorProg
import Derived.Laws.OwnMore
set_option linter.unusedVariables false
set_option linter.unusedSimpArgs false
set_option maxRecDepth 100000
set_option maxHeartbeats 16000000
namespace Go.Proofs.YtiehgcfckhepaaaGreatDoor
open Go.RowKit Go.Maps
def trueE(v:Value):Option (DataW Unit×List MemPlace):=match v with| .bool true=>some (.lit (.bool true),[])|_=>none
theorem trueE_inv{v:Value}{z:DataW Unit×List MemPlace}(h:trueE v=some z):v= .bool true:=by
 unfold trueE at h;split at h
 ·rfl
 ·cases h
theorem int_key:Keyed Tryz.prog 3:=int_keyed Tryz.underlying3
abbrev OwnS(w:World)(b n:Nat)(D:DataW Unit):Prop:=w.ownsMap Tryz.prog 3 trueE b n D
def SetN(w:World)(b:Nat)(l:List Nat):Prop:=∃D,OwnS w b (size D) D∧∀x:Int,has D (.int .i64 x)=(decide (0≤x)&&l.contains x.toNat)
theorem own_exact{w:World}{b n:Nat}{D:DataW Unit}(h:OwnS w b n D):OwnS w b (size D) D:=by
 obtain⟨es,clock,hb,F,_,hD⟩:=h;refine⟨es,clock,hb,F,?_,hD⟩;rw[hD,size_eq,length_sorted];simp
theorem nodup_len:∀(N:Nat) (l:List Nat),l.Nodup→(∀x∈l,x<N)→l.length≤N
 |0,[],_,_=>Nat.le_refl _
 |0,x::l,_,h=>by have:=h x (by simp);omega
 |N+1,l,hd,h=>by
  by_cases hN:N∈l
  ·have h1:=nodup_len N (l.erase N) (hd.erase N) (fun x hx=>by
    rw[hd.mem_erase_iff] at hx;have:=h x hx.2;have:=hx.1;omega)
   rw[List.length_erase_of_mem hN] at h1;omega
  ·have h1:=nodup_len N l hd (fun x hx=>by
    have h2:=h x hx;have h3:x≠N:=fun e=>hN (e▸hx)
    omega)
   omega
theorem set_keys{w:World}{b n:Nat}{D:DataW Unit}(h:OwnS w b n D):∃es,D= .map es∧es.Pairwise (fun p q=>p.1≠q.1)∧∀p∈es,∃x:Int,p.1= .int .i64 x∧(Lit.int .i64 x).wf=true:=by
 obtain⟨es,rfl,hp⟩:=h.tidy int_key;obtain⟨es',he,_,hk⟩:=h.canonK int_key;cases he;refine⟨es,rfl,hp,fun q hq=> ?_⟩;obtain⟨v,hv⟩:=hk q hq;obtain⟨x,_,hx,hw⟩:=Maps.keyOf_int_inv Tryz.underlying3 hv;exact⟨x,hx,hw⟩
theorem SetN.size_le{w:World}{b N:Nat}{l:List Nat}(h:SetN w b l)(hl:∀x∈l,x<N):∃D,OwnS w b (size D) D∧size D≤N∧∀x:Int,has D (.int .i64 x)=(decide (0≤x)&&l.contains x.toNat):=by
 obtain⟨D,ho,hh⟩:=h;refine⟨D,ho,?_,hh⟩;obtain⟨es,rfl,hp,hk⟩:=set_keys ho;let f:Lit×DataW Unit→Nat:=fun p=>match p.1 with| .int _ x=>x.toNat|_=>0
 have hin:∀p∈es,∃x:Nat,p.1= .int .i64 (x:Int)∧x∈l:=by
  intro p hpe;obtain⟨x,hx,hw⟩:=hk p hpe;have h1:has (.map es) (.int .i64 x)=true:=by
   rw[has_eq,List.any_eq_true];refine⟨p,hpe,?_⟩;rw[hx];exact WideAt.sameKey_self (int_key.key (keyOf_int_mk Tryz.underlying3 hw))
  rw[hh x] at h1;simp only[Bool.and_eq_true,decide_eq_true_eq] at h1;obtain⟨m,rfl⟩:=Int.eq_ofNat_of_zero_le h1.1;exact⟨m,hx,by simpa using h1.2⟩
 have hlen:(es.map f).length≤N:=by
  refine nodup_len N _ ?_ (fun y hy=> ?_)
  ·rw[List.Nodup,List.pairwise_map];refine hp.imp_of_mem (fun {p q} h1 h2 hne=> ?_);obtain⟨x,hx,_⟩:=hin p h1;obtain⟨y,hy,_⟩:=hin q h2;show f p≠f q;simp only[f,hx,hy];intro e;simp at e;exact hne (by rw[hx,hy,e])
  ·obtain⟨p,hpe,rfl⟩:=List.mem_map.1 hy;obtain⟨x,hx,hxl⟩:=hin p hpe;simp only[f,hx];simpa using hl x hxl
 rw[size_eq];simpa using hlen
theorem SetN.kp{S:Nat→Prop}{w w':World}{b:Nat}{l:List Nat}(h:SetN w b l)(hk:Kp S w w')(hs:¬S b):SetN w' b l:=by
 obtain⟨D,⟨es,clock,hb,r⟩,hh⟩:=h;exact⟨D,⟨es,clock,hk.blk hb hs,r⟩,hh⟩
theorem SetN.kn{w w':World}{b:Nat}{l:List Nat}(h:SetN w b l)(hk:Kn w w'):SetN w' b l:=h.kp hk (fun x=>x)
theorem SetN.lt{w:World}{b:Nat}{l:List Nat}(h:SetN w b l):b<w.heap.size:=by obtain⟨D,ho,_⟩:=h;exact ho.lt
theorem SetN.congr{w:World}{b:Nat}{l l':List Nat}(h:SetN w b l)(he:∀x,x∈l↔x∈l'):SetN w b l':=by
 obtain⟨D,ho,hh⟩:=h;refine⟨D,ho,fun x=> ?_⟩;rw[hh x];congr 1;rw[Bool.eq_iff_iff];simpa using he x.toNat
theorem SetN.empty(w:World):SetN (w.alloc (.map #[] 0)) w.heap.size []:=by
 refine⟨.map [],World.ownsMap_made w _ _ _,fun x=> ?_⟩;rw[has_eq];simp
open Go.RowKit Go.Maps Go.Shelf
abbrev TSet:TypeId:=348
def copyR:Ren:=⟨fun|5=>305|n=>n,fun|0=>0|4=>4|23=>TSet|24=>TSet|26=>3|27=>4|n=>n,fun|n=>n⟩
theorem copyL:Go.Proofs.SlLaysX.n5 Tryz.prog copyR:= {
 mixed:=by kernel_rfl
 f5:=⟨Tryz.f305.name,by decide,Tryz.func305.trans (congrArg some (by kernel_rfl))⟩
 t0:=Tryz.underlying0
 a0:=Tryz.isAgg0
 z0:=Tryz.sizeOf0
 v0:=Tryz.zeroValue0
 t4:=Tryz.underlying4
 a4:=Tryz.isAgg4
 z4:=Tryz.sizeOf4
 v4:=Tryz.zeroValue4
 t23:=Tryz.underlying348
 a23:=Tryz.isAgg348
 z23:=Tryz.sizeOf348
 v23:=Tryz.zeroValue348
 t24:=Tryz.underlying348
 a24:=Tryz.isAgg348
 z24:=Tryz.sizeOf348
 v24:=Tryz.zeroValue348
 a26:=Tryz.isAgg3
 z26:=Tryz.sizeOf3
 a27:=Tryz.isAgg4
 z27:=Tryz.sizeOf4}
theorem Kp.of_grown1{w w':World}{b:Nat}(h:w.grownBy w' (some b)):Kp (fun k=>k=b) w w':=⟨h.os,h.tape,h.output,h.size,fun k hk hs=>h.block k hk (fun e=>hs (Option.some.inj e))⟩
theorem mergeD_has{w:World}{b n:Nat}{Dd Ds:DataW Unit}(hs:OwnS w b n Ds)(hm:IsMap Dd)(x:Lit):has (Lib.mergeD Dd Ds) x=(has Dd x||has Ds x):=by
 obtain⟨es,rfl,hp,hk⟩:=set_keys hs;show has (es.foldl (fun D p=>D.put p.1 p.2) Dd) x=_;rw[has_foldPut x es Dd hm (fun p hpe=>by
  obtain⟨y,hy,hw⟩:=hk p hpe;rw[hy];exact int_key.key (keyOf_int_mk Tryz.underlying3 hw))]
 rfl
theorem copyS(bd bs:Nat)(a b:List Nat)(hne:bd≠bs)(ha:∀x∈a,x<1000000)(hb:∀x∈b,x<1000000)(w:World)(hd:SetN w bd a)(hs:SetN w bs b):
  Calls Tryz.prog 305 #[.map (some bd),.map (some bs)] w fun e w'=>e= .returned (.tuple #[])∧SetN w' bd (uni a b)∧Kp (fun k=>k=bd) w w':=by
 obtain⟨Dd,h1,h2,h3⟩:=hd.size_le ha;obtain⟨Ds,h4,h5,h6⟩:=hs.size_le hb;refine(AnyX.maps_Copy copyL int_key trueE bd bs _ _ Dd Ds w h1 h4 hne (by simp only[maxLen];omega)).mono ?_;rintro e w' ⟨rfl,q1,q2,q3⟩;refine⟨rfl,⟨_,own_exact q1,fun x=> ?_⟩,Kp.of_grown1 q3⟩;rw[mergeD_has h4 h1.isMap,h3 x,h6 x];have e:(uni a b).contains x.toNat=(a.contains x.toNat||b.contains x.toNat):=by
  rw[Bool.eq_iff_iff];simp[mem_uni]
 rw[e];cases decide (0≤x)<;>simp
end Go.Proofs.YtiehgcfckhepaaaGreatDoor
namespace Go.Proofs.YtiehgcfckhepaaaGreatDoor
open Go.RowKit
theorem YD{k:Nat} :∀ {Cs:List (List Value)},(∀C∈Cs,C.length=k)→Cs.flatten.length=Cs.length*k
 |[],_=>by simp
 |C::Cs,h=>by
  have ih:=YD (Cs:=Cs) (fun D hD=>h D (List.mem_cons_of_mem _ hD));have h0:=h C List.mem_cons_self;rw[List.flatten_cons,List.length_append,ih,h0,List.length_cons,Nat.add_mul,Nat.one_mul,Nat.add_comm]
theorem flat_get{k:Nat} :∀ {Cs:List (List Value)},(∀C∈Cs,C.length=k)→∀(i j:Nat) (hi:i<Cs.length),j<k→Cs.flatten[k*i+j]? =Cs[i][j]?
 |[],_,i,j,hi,_=>by simp at hi
 |C::Cs,h,0,j,hi,hj=>by
  have h0:=h C List.mem_cons_self;simp only[List.flatten_cons,Nat.mul_zero,Nat.zero_add,List.getElem_cons_zero];rw[List.getElem?_append_left (by omega)]
 |C::Cs,h,i+1,j,hi,hj=>by
  have h0:=h C List.mem_cons_self;have ih:=flat_get (Cs:=Cs) (fun D hD=>h D (List.mem_cons_of_mem _ hD)) i j (by simpa using hi) hj;simp only[List.flatten_cons,List.getElem_cons_succ];have e:k*(i+1)+j=C.length+(k*i+j):=by rw[h0,Nat.mul_add,Nat.mul_one];omega
  rw[List.getElem?_append_right (by omega),e,Nat.add_sub_cancel_left,ih]
theorem flat_set{k:Nat} :∀ {Cs:List (List Value)},(∀C∈Cs,C.length=k)→∀(i j:Nat) (hi:i<Cs.length) (u:Value),j<k→Cs.flatten.set (k*i+j) u=(Cs.set i (Cs[i].set j u)).flatten
 |[],_,i,j,hi,_,_=>by simp at hi
 |C::Cs,h,0,j,hi,u,hj=>by
  have h0:=h C List.mem_cons_self;simp only[List.flatten_cons,Nat.mul_zero,Nat.zero_add,List.getElem_cons_zero,List.set_cons_zero];rw[List.set_append_left _ _ (by omega)]
 |C::Cs,h,i+1,j,hi,u,hj=>by
  have h0:=h C List.mem_cons_self;have ih:=flat_set (Cs:=Cs) (fun D hD=>h D (List.mem_cons_of_mem _ hD)) i j (by simpa using hi) u hj;simp only[List.flatten_cons,List.getElem_cons_succ,List.set_cons_succ];have e:k*(i+1)+j=C.length+(k*i+j):=by rw[h0,Nat.mul_add,Nat.mul_one];omega
  rw[List.set_append_right _ _ (by omega),e,Nat.add_sub_cancel_left,ih]
abbrev OwnK(w:World)(B:Nat)(T:TypeId)(k:Nat)(v:Value)(Cs:List (List Value)):Prop:=w.ownsRow B T k v Cs.length Cs.flatten
section
variable {w:World} {B:Nat} {T:TypeId} {k:Nat} {v:Value} {Cs:List (List Value)}
theorem OwnK.row(h:OwnK w B T k v Cs)(hs:∀C∈Cs,C.length=k):
  ∃a c,v= .slice a Cs.length c∧Cs.length≤c∧c≤maxLen∧(Cs≠[]→∃g,a=some ⟨g,0,none⟩∧B≤g∧v.ownBlock=some g∧∀i (hi:i<Cs.length),∀j,j<k→w.cell? ⟨g,0+k*i+j,none⟩=Cs[i][j]?∧w.frozen? ⟨g,0+k*i+j,none⟩=false):=by
 rcases h.2 with⟨h1,h2⟩|⟨g,cap,cur,h1,h2,h3,h4,h5,h6,h7⟩
 ·exact⟨none,0,by rw[h1,h2],by omega,by simp[maxLen],fun hne=>(hne (by simpa using h2)).elim⟩
 ·refine⟨_,cap,h1,h4,h5,fun _=>⟨g,rfl,h2,by rw[h1];try rfl,fun i hi j hj=> ?_⟩⟩;have hlt:k*i+j<Cs.flatten.length:=by
   rw[YD hs];have h8:k*(i+1)≤k*Cs.length:=Nat.mul_le_mul_left k hi;rw[Nat.mul_add] at h8;rw[Nat.mul_comm Cs.length k];omega
  have hu:Cs.flatten[k*i+j]? =some (Cs.flatten[k*i+j]'hlt):=List.getElem?_eq_getElem hlt;have hc:=h.cells (g:=g) (by rw[h1];try rfl) (k*i+j) _ hu;have hadd:(⟨g,0,none⟩:Addr).add (k*i+j)=⟨g,0+k*i+j,none⟩:=by unfold Addr.add;split<;>simp_all
  rw[hadd] at hc;exact⟨by rw[hc,←hu,flat_get hs i j hi hj],Qd h3 _⟩
theorem OwnK.kp{S:Nat→Prop}{w':World}(h:OwnK w B T k v Cs)(hk:Kp S w w')(hS:∀g,v.ownBlock=some g→¬S g):OwnK w' B T k v Cs:=by
 refine⟨h.1,?_⟩;rcases h.2 with h1|⟨g,cap,cur,h1,h2,h3,h4⟩
 ·exact .inl h1
 ·exact .inr ⟨g,cap,cur,h1,h2,hk.blk h3 (hS g (by rw[h1];try rfl)),h4⟩
theorem OwnK.kn{w':World}(h:OwnK w B T k v Cs)(hk:Kn w w'):OwnK w' B T k v Cs:=h.kp hk (fun _ _ x=>x)
theorem OwnK.nil:OwnK w B T k (.slice none 0 0) []:=World.ownsRow_nil _ _ _ _
theorem OwnK.base{B':Nat}(h:OwnK w B T k v Cs)(hB:B'≤B):OwnK w B' T k v Cs:=by
 refine⟨h.1,?_⟩;rcases h.2 with h1|⟨g,cap,cur,h1,h2,h3⟩
 ·exact .inl h1
 ·exact .inr ⟨g,cap,cur,h1,Nat.le_trans hB h2,h3⟩
theorem OwnK.set(h:OwnK w B T k v Cs)(hs:∀C∈Cs,C.length=k){g:Nat}(hg:v.ownBlock=some g)(i j:Nat)(hi:i<Cs.length)(hj:j<k)(u:Value):
  OwnK (w.setCell ⟨g,0+k*i+j,none⟩ u) B T k v (Cs.set i (Cs[i].set j u)):=by
 rcases h.2 with⟨h1,h2⟩|⟨g',cap,cur,h1,h2,h3,h4,h5,h6,h7⟩
 ·rw[h1] at hg;cases hg
 ·have e:g'=g:=by rw[h1] at hg;simpa[Value.ownBlock] using hg
  subst e;have hl:(Cs.set i (Cs[i].set j u)).length=Cs.length:=by simp
  refine⟨?_,.inr ⟨g',cap,cur.setIfInBounds (0+k*i+j) u,by rw[hl];exact h1,h2,Qk h3 _ _,by rw[hl];exact h4,h5,by simpa using h6,?_⟩⟩
  ·rw[←flat_set hs i j hi u hj,List.length_set,hl];exact h.1
  ·have hlt:k*i+j<Cs.length*k:=by
    have h8:k*(i+1)≤k*Cs.length:=Nat.mul_le_mul_left k hi;rw[Nat.mul_add] at h8;rw[Nat.mul_comm Cs.length k];omega
   rw[hl,←flat_set hs i j hi u hj,←h7,Array.toList_setIfInBounds,Nat.zero_add,List.take_set]
end
theorem Kp.grownK{w w':World}{row:Option Nat}(h:w.grownBy w' row):Kp (fun k=>some k=row) w w':=⟨h.os,h.tape,h.output,h.size,fun k hk hs=>h.block k hk hs⟩
section
variable {P:Program} (w:World)
theorem run_append_k(B:Nat)(t ty e:TypeId)(i:TypeInfo)(z:Value)(k bytes:Nat)(ht:P.underlying t=some (.slice e))(hi:P.info? e=some i)(hz:i.zero=some z)(hsize:i.size=k)(hby:i.bytes=bytes)(hzs:z.cells.size=k)(hk0:0<k)
  (v:Value) (Cs:List (List Value)) (hown:OwnK w B e k v Cs) (g c:Nat) (C:Array Value) (e':TypeId) (fr:Nat×Nat) (hb:w.heap[g]? =some (.cells C e' fr)) (hC:C.size=k) (h1:C.all (·.oneCell')=true)
  (h63:Cs.length+1≤maxLen) (hbytes:(Cs.length+1)*bytes≤140737488355328) (hbase:B≤w.heap.size):
  ∃v' w',(Builtin.append_ #[t,t] ty #[v,.slice (some ⟨g,0,none⟩) 1 c]).run P w= .ok v' w'∧OwnK w' B e k v' (Cs++[C.toList])∧Kp (fun k=>some k=v.ownBlock) w w'∧(v'.ownBlock=v.ownBlock∨v'.ownBlock=some w.heap.size):=by
 have hnews:∀j u,C.toList[j]? =some u→w.cell? ((⟨g,0,none⟩:Addr).add j)=some u:=World.news_of_block hb;obtain⟨v',w',hr,h2,h3,_,h5⟩:=run_append_own_at (P:=P) w B t ty e i z k bytes ht hi hz hsize hby hzs hk0 v Cs.length Cs.flatten hown ⟨g,0,none⟩ 1 c C.toList (by simp[hC]) hnews
  (by rw[Array.all_eq_true_iff_forall_mem] at h1;simpa using h1) h63 hbytes hbase
 exact⟨v',w',hr,by unfold OwnK;rw[List.length_append,List.flatten_append];simpa using h2,Kp.grownK h3,h5⟩
theorem QA{ops:Array Oper}{rest:List Oper}{o:Oper}{a:Act}{Q:Exit→Act→World→Prop}(hgd:o.guard=none)(s x:Operand)(t:TypeId)
  (ho:o.op= .call {callee:= .builtin .append,args:= #[s,x],argTypes:= #[t,t]})
  (B:Nat) (e:TypeId) (i:TypeInfo) (z:Value) (k bytes:Nat) (ht:P.underlying t=some (.slice e)) (hi:P.info? e=some i) (hz:i.zero=some z) (hsize:i.size=k) (hby:i.bytes=bytes) (hzs:z.cells.size=k) (hk0:0<k)
  (v:Value) (Cs:List (List Value)) (hs:a.eval s=v) (hown:OwnK w B e k v Cs) (g c:Nat) (hx:a.eval x= .slice (some ⟨g,0,none⟩) 1 c) (C:Array Value) (e':TypeId) (fr:Nat×Nat) (hb:w.heap[g]? =some (.cells C e' fr)) (hC:C.size=k) (h1:C.all (·.oneCell')=true)
  (h63:Cs.length+1≤maxLen) (hbytes:(Cs.length+1)*bytes≤140737488355328) (hbase:B≤w.heap.size)
  (h:∀v' w',OwnK w' B e k v' (Cs++[C.toList])→Kp (fun k=>some k=v.ownBlock) w w'→(v'.ownBlock=v.ownBlock∨v'.ownBlock=some w.heap.size)→wpList P ops Q rest (a.put o.dst v') w'):wpList P ops Q (o::rest) a w:=by
 refine wpList_plain hgd fun K hK=> ?_
 obtain⟨v',w',hr,h2,h3,h4⟩:=run_append_k (P:=P) w B t o.type e i z k bytes ht hi hz hsize hby hzs hk0 v Cs hown g c C e' fr hb hC h1 h63 hbytes hbase;unfold Oper.wp execOp;simp only[ho,resolve,invoke,builtin,Sem.run_bind,Sem.run_pure,Result.andThen_ok,List.map_toArray,List.map_cons,List.map_nil,hs,hx,hr];exact hK _ _ (h v' w' h2 h3 h4)
theorem Qq{ops:Array Oper}{o:Oper}{a:Act}{K:Act→World→Prop}{Q:Exit→Act→World→Prop}{E:Prop}(hgd:o.guard=none)(s x:Operand)(t:TypeId)
  (ho:o.op= .call {callee:= .builtin .append,args:= #[s,x],argTypes:= #[t,t]})
  (B:Nat) (e:TypeId) (i:TypeInfo) (z:Value) (k bytes:Nat) (ht:P.underlying t=some (.slice e)) (hi:P.info? e=some i) (hz:i.zero=some z) (hsize:i.size=k) (hby:i.bytes=bytes) (hzs:z.cells.size=k) (hk0:0<k)
  (v:Value) (Cs:List (List Value)) (hs:a.eval s=v) (hown:OwnK w B e k v Cs) (g c:Nat) (hx:a.eval x= .slice (some ⟨g,0,none⟩) 1 c) (C:Array Value) (e':TypeId) (fr:Nat×Nat) (hb:w.heap[g]? =some (.cells C e' fr)) (hC:C.size=k) (h1:C.all (·.oneCell')=true)
  (h63:Cs.length+1≤maxLen) (hbytes:(Cs.length+1)*bytes≤140737488355328) (hbase:B≤w.heap.size)
  (h:∀v' w',OwnK w' B e k v' (Cs++[C.toList])→Kp (fun k=>some k=v.ownBlock) w w'→(v'.ownBlock=v.ownBlock∨v'.ownBlock=some w.heap.size)→K (a.put o.dst v') w'):
  if Region.wanted o (yielded ops a.tmps)=true then Oper.wp P o a w K Q else E:=by
 have hw:Region.wanted o (yielded ops a.tmps)=true:=by simp[Region.wanted,hgd]
 rw[if_pos hw];obtain⟨v',w',hr,h2,h3,h4⟩:=run_append_k (P:=P) w B t o.type e i z k bytes ht hi hz hsize hby hzs hk0 v Cs hown g c C e' fr hb hC h1 h63 hbytes hbase;unfold Oper.wp execOp;simp only[ho,resolve,invoke,builtin,Sem.run_bind,Sem.run_pure,Result.andThen_ok,List.map_toArray,List.map_cons,List.map_nil,hs,hx,hr];exact h v' w' h2 h3 h4
end
open Go.RowKit Go.Maps
abbrev TM:TypeId:=347
abbrev TPos:TypeId:=407
abbrev YE:TypeId:=350
abbrev posL(x:NP)(f:Nat):List Value:=[.int .u64 x.bytes.a,.int .u64 x.bytes.b,.int .u64 x.bytes.c,.int .u64 x.bytes.d,.int .i64 x.rule,.map (some f)]
def posC(ps:List NP)(fs:List Nat):List (List Value):=List.zipWith posL ps fs
theorem posC_len{ps:List NP}{fs:List Nat}(h:ps.length=fs.length):(posC ps fs).length=ps.length:=by simp[posC,h]
theorem posC_six(ps:List NP)(fs:List Nat):∀C∈posC ps fs,C.length=6:=by
 intro C hC;obtain⟨i,hi,rfl⟩:=List.getElem_of_mem hC;simp[posC]
theorem posC_get{ps:List NP}{fs:List Nat}{i:Nat}(h1:i<ps.length)(h2:i<fs.length)(h3:i<(posC ps fs).length):(posC ps fs)[i]=posL ps[i] fs[i]:=by simp[posC]
theorem posC_snoc{ps:List NP}{fs:List Nat}(h:ps.length=fs.length)(x:NP)(f:Nat):posC (ps++[x]) (fs++[f])=posC ps fs++[posL x f]:=by
 unfold posC;rw[List.zipWith_append h];try rfl
def NGood(ps:List NP):Prop:=∀p∈ps,∀x∈p.follow,x<ps.length
structure MachAt (w:World) (pm:Nat) (v vr:Value) (ps:List NP) (fs:List Nat):Prop where
 blk:w.heap[pm]? =some (.cells #[v,vr] TM (0,0))
 len:ps.length=fs.length
 row:OwnK w (pm+1) TPos 6 v (posC ps fs)
 sets:∀i (h:i<ps.length) (h':i<fs.length),SetN w fs[i] ps[i].follow
 ok:∀p∈ps,p.bytes.ok
 nd:fs.Nodup
 ap:∀f∈fs,pm<f∧some f≠v.ownBlock
def MS(pm:Nat)(v:Value)(fs:List Nat)(k:Nat):Prop:=k=pm∨v.ownBlock=some k∨k∈fs
section
variable {w w':World} {pm:Nat} {v vr:Value} {ps:List NP} {fs:List Nat}
theorem MachAt.lt(h:MachAt w pm v vr ps fs):pm<w.heap.size:=Qj h.blk
theorem MachAt.own_lt(h:MachAt w pm v vr ps fs){g:Nat}(hg:v.ownBlock=some g):pm<g∧g<w.heap.size:=h.row.lt g hg
theorem MachAt.fs_lt(h:MachAt w pm v vr ps fs){f:Nat}(hf:f∈fs):f<w.heap.size:=by
 obtain⟨i,hi,rfl⟩:=List.getElem_of_mem hf;exact(h.sets i (by rw[h.len];exact hi) hi).lt
theorem MachAt.ms_lt(h:MachAt w pm v vr ps fs){k:Nat}(hk:MS pm v fs k):pm≤k∧k<w.heap.size:=by
 rcases hk with rfl|hk|hk
 ·exact⟨Nat.le_refl _,h.lt⟩
 ·exact⟨Nat.le_of_lt (h.own_lt hk).1,(h.own_lt hk).2⟩
 ·exact⟨Nat.le_of_lt (h.ap k hk).1,h.fs_lt hk⟩
theorem MachAt.kp{S:Nat→Prop}(h:MachAt w pm v vr ps fs)(hk:Kp S w w')(hS:∀k,MS pm v fs k→¬S k):MachAt w' pm v vr ps fs:=
 ⟨hk.blk h.blk (hS pm (.inl rfl)),h.len,h.row.kp hk (fun g hg=>hS g (.inr (.inl hg))),fun i h1 h2=>(h.sets i h1 h2).kp hk (hS _ (.inr (.inr (List.getElem_mem h2)))),h.ok,h.nd,h.ap⟩
theorem MachAt.kn(h:MachAt w pm v vr ps fs)(hk:Kn w w'):MachAt w' pm v vr ps fs:=h.kp hk (fun _ _ x=>x)
theorem MachAt.pos(h:MachAt w pm v vr ps fs){i:Nat}(hi:i<ps.length):∃(g c:Nat) (f:Nat),v= .slice (some ⟨g,0,none⟩) ps.length c∧fs[i]? =some f∧SetN w f ps[i].follow∧
  w.cell? ⟨g,i*6,none⟩=some (.int .u64 ps[i].bytes.a)∧w.cell? ⟨g,i*6+1,none⟩=some (.int .u64 ps[i].bytes.b)∧w.cell? ⟨g,i*6+2,none⟩=some (.int .u64 ps[i].bytes.c)∧
  w.cell? ⟨g,i*6+3,none⟩=some (.int .u64 ps[i].bytes.d)∧w.cell? ⟨g,i*6+4,none⟩=some (.int .i64 ps[i].rule)∧w.cell? ⟨g,i*6+5,none⟩=some (.map (some f)):=by
 have hif:i<fs.length:=by rw[←h.len];exact hi
 have hic:i<(posC ps fs).length:=by rw[posC_len h.len];exact hi
 obtain⟨a,c,h1,h2,h3,h4⟩:=h.row.row (posC_six ps fs);obtain⟨g,rfl,_,_,h5⟩:=h4 (fun e=>by rw[e] at hic;simp at hic);rw[posC_len h.len] at h1;have h6:=fun j hj=>(h5 i hic j hj).1
 rw[posC_get hi hif hic] at h6;have e:∀j,0+6*i+j=i*6+j:=fun j=>by omega
 simp only[e] at h6;exact⟨g,c,fs[i],h1,List.getElem?_eq_getElem hif,h.sets i hi hif,h6 0 (by omega),h6 1 (by omega),h6 2 (by omega),h6 3 (by omega),h6 4 (by omega),h6 5 (by omega)⟩
theorem MachAt.nodes(h:MachAt w pm v vr ps fs)(hk:Kp (MS pm v fs) w w'):Kn61 w w':=
 Kn61.of hk (fun k o ho hn hS=>by
  rcases hS with rfl|hS|hS
  ·rw[h.blk] at ho;injection ho with ho;subst ho;exact absurd hn (fun x=>by cases x)
  ·rcases h.row.2 with⟨h1,_⟩|⟨g,cap,cur,h1,_,h3,_⟩
   ·rw[h1] at hS;cases hS
   ·have e:g=k:=by rw[h1] at hS;simpa[Value.ownBlock] using hS
    subst e;rw[h3] at ho;injection ho with ho;subst ho;exact absurd hn (fun x=>by cases x)
  ·obtain⟨i,hi,rfl⟩:=List.getElem_of_mem hS;obtain⟨D,⟨es,clock,hb,_⟩,_⟩:=h.sets i (by rw[h.len];exact hi) hi;rw[hb] at ho;injection ho with ho;subst ho;exact absurd hn (fun x=>by cases x))
theorem MachAt.follow(h:MachAt w pm v vr ps fs){i:Nat}(hi:i<ps.length){f:Nat}(hf:fs[i]? =some f){l:List Nat}(hs:SetN w' f l)(hk:K1 f w w'):MachAt w' pm v vr (ps.set i {ps[i] with follow:=l}) fs:=by
 obtain⟨hif,rfl⟩:=List.getElem?_eq_some_iff.1 hf;have hm:=List.getElem_mem hif;have hap:=h.ap _ hm;have hne:∀k,¬k=fs[i]→¬(fun k=>k=fs[i]) k:=fun _ x=>x
 refine⟨hk.blk h.blk (by omega),by simpa using h.len,?_,fun j h1 h2=> ?_,fun p hp=> ?_,h.nd,h.ap⟩
 ·have e:posC (ps.set i {ps[i] with follow:=l}) fs=posC ps fs:=by
   apply List.ext_getElem
   ·simp[posC]
   ·intro j h3 h4;have h5:j<ps.length:=by simp[posC] at h4;omega
    simp only[posC,List.getElem_zipWith,List.getElem_set];split
    ·rename_i e;subst e;rfl
    ·rfl
  rw[e];exact h.row.kp hk (fun g hg e=>hap.2 (by rw[hg,e]))
 ·rw[List.getElem_set];split
  ·rename_i e;subst e;exact hs
  ·rename_i e;have h3:j<ps.length:=by simpa using h1
   exact(h.sets j h3 h2).kp hk (fun e2=>e ((List.getElem_inj h.nd).1 e2.symm))
 ·rcases List.mem_or_eq_of_mem_set hp with hp|rfl
  ·exact h.ok p hp
  ·exact h.ok ps[i] (List.getElem_mem hi)
end
theorem Yz(m:List NP)(a b:List Nat):(nlink m a b).length=m.length:=by simp[nlink]
theorem nlink_get(m:List NP)(a b:List Nat)(i:Nat)(h:i<(nlink m a b).length)(h':i<m.length):(nlink m a b)[i]=if a.contains i then {m[i] with follow:=uni m[i].follow b} else m[i]:=by simp[nlink]
theorem nlink_good{m:List NP}{a b:List Nat}(h:NGood m)(hb:∀x∈b,x<m.length):NGood (nlink m a b):=by
 intro p hp x hx;obtain⟨i,hi,rfl⟩:=List.getElem_of_mem hp;rw[Yz];have hi':i<m.length:=by rwa[Yz] at hi
 rw[nlink_get m a b i hi hi'] at hx;split at hx
 ·rcases(mem_uni x b _).1 hx with h1|h1
  ·exact h _ (List.getElem_mem hi') x h1
  ·exact hb x h1
 ·exact h _ (List.getElem_mem hi') x hx
structure KGood (k:KN) (n:Nat):Prop where
 f:∀x∈k.first,x<n
 l:∀x∈k.last,x<n
 rf:Ris k.first
 rl:Ris k.last
theorem KGood.mono{k:KN}{n m:Nat}(h:KGood k n)(hm:n≤m):KGood k m:=⟨fun x hx=>Nat.lt_of_lt_of_le (h.f x hx) hm,fun x hx=>Nat.lt_of_lt_of_le (h.l x hx) hm,h.rf,h.rl⟩
theorem uni_lt{a b:List Nat}{n:Nat}(ha:∀x∈a,x<n)(hb:∀x∈b,x<n):∀x∈uni a b,x<n:=fun x hx=>by
 rcases(mem_uni x b a).1 hx with h|h
 ·exact ha x h
 ·exact hb x h
theorem ncat_good{a b:KN}{n:Nat}(ha:KGood a n)(hb:KGood b n):KGood (Yw a b) n:=by
 unfold Yw;refine⟨?_,?_,?_,?_⟩<;>dsimp only<;>split
 ·exact uni_lt ha.f hb.f
 ·exact ha.f
 ·exact uni_lt hb.l ha.l
 ·exact hb.l
 ·exact ris_uni _ _ ha.rf
 ·exact ha.rf
 ·exact ris_uni _ _ hb.rl
 ·exact hb.rl
theorem QU(r:Nat):∀(t:Rw) (m:List NP),NGood m→(Qo r t m).1.length=m.length+Qr t∧NGood (Qo r t m).1∧KGood (Qo r t m).2 (Qo r t m).1.length
 | .set b,m,h=>by
  refine⟨by simp[Qo,Qr],?_,?_⟩
  ·intro p hp x hx;simp only[Qo,List.mem_append,List.mem_singleton] at hp;rcases hp with hp|rfl
   ·have:=h p hp x hx;simp[Qo];omega
   ·cases hx
  ·exact⟨by simp[Qo],by simp[Qo],by simp[Qo,Ris],by simp[Qo,Ris]⟩
 | .empty,m,h=>⟨by simp[Qo,Qr],h,⟨by simp[Qo],by simp[Qo],by simp[Qo,Ris],by simp[Qo,Ris]⟩⟩
 | .cat x y,m,h=>by
  obtain⟨h1,h2,h3⟩:=QU r x m h;obtain⟨h4,h5,h6⟩:=QU r y _ h2;have h7:=h3.mono (m:=(Qo r y (Qo r x m).1).1.length) (by omega);refine⟨by simp only[Qo,Yz,Qr];omega,nlink_good h5 h6.f,?_⟩;simp only[Qo,Yz];exact ncat_good h7 h6
 | .or x y,m,h=>by
  obtain⟨h1,h2,h3⟩:=QU r x m h;obtain⟨h4,h5,h6⟩:=QU r y _ h2;have h7:=h3.mono (m:=(Qo r y (Qo r x m).1).1.length) (by omega);exact⟨by simp only[Qo,Qr];omega,h5,⟨uni_lt h7.f h6.f,uni_lt h7.l h6.l,ris_uni _ _ h7.rf,ris_uni _ _ h7.rl⟩⟩
 | .star x,m,h=>by
  obtain⟨h1,h2,h3⟩:=QU r x m h;refine⟨by simp only[Qo,Yz,Qr];omega,nlink_good h2 h3.f,?_⟩;simp only[Qo,Yz];exact⟨h3.f,h3.l,h3.rf,h3.rl⟩
theorem Kp.grown1{p:Nat}{w w':World}(h:K1 p w w'):w.grownBy w' (some p):=⟨h.os,h.tape,h.output,h.size,fun k hk hs=>h.block k hk (fun e=>hs (by rw[e]))⟩
theorem QT{w w':World}{row:Option Nat}{S:Nat→Prop}(h:w.grownBy w' row)(hr:∀k,some k=row→k<w.heap.size→S k):Kp S w w':=
 ⟨h.os,h.tape,h.output,h.size,fun k hk hs=>h.block k hk (fun e=>hs (hr k e hk))⟩
theorem wpList_next_set(w:World){ops:Array Oper}{rest:List Oper}{o:Oper}{a:Act}{Q:Exit→Act→World→Prop}(hg:o.guard=none)(it:Operand)(hop:o.op=Op.next it false)
  (b r n:Nat) (D:DataW Unit) (l:List Nat) (hh:∀x:Int,has D (.int .i64 x)=(decide (0≤x)&&l.contains x.toNat)) (left:Lit→Bool) (cnt:Nat)
  (hit:a.eval it= .pointer (some ⟨r,0,none⟩)) (h:w.ranges Tryz.prog 3 trueE b r n D left cnt)
  (hDone:(∀kl,left kl=false)→wpList Tryz.prog ops Q rest (a.put o.dst (.tuple #[.bool false])) w)
  (hMore:∀(x:Nat) (w':World) (cnt':Nat),x∈l→left (.int .i64 x)=true→w'.ranges Tryz.prog 3 trueE b r n D (fun z=>left z&& !z.sameKey (.int .i64 x)) cnt'→cnt'<cnt→
   K1 r w w'→w'.heap.size=w.heap.size→(Instr.entry (.pointer (some ⟨r,0,none⟩))).run Tryz.prog w'= .ok (.tuple #[.int .i64 x,.bool true]) w'→wpList Tryz.prog ops Q rest (a.put o.dst (.tuple #[.bool true,.int .i64 x,.bool true])) w'):
  wpList Tryz.prog ops Q (o::rest) a w:=by
 refine wpList_next_ranges w hg it hop 3 int_key trueE (fun x:Int=>Value.int .i64 x) (fun _:Unit=>Value.bool true)
  (fun key kl hk=>by obtain⟨x,rfl,_⟩:=Maps.keyOf_int_inv Tryz.underlying3 hk;exact⟨x,rfl⟩) (fun v y hv=>⟨(),trueE_inv hv⟩) b r n D left cnt hit h (fun _ hl=>hDone hl) ?_
 intro x c kl y w' cnt' hkey hlk hv hat hrg hlt hgr hsz hen;obtain⟨x',ex,rfl,hwx⟩:=Maps.keyOf_int_inv Tryz.underlying3 hkey;cases ex;have hx:has D (.int .i64 x)=true:=has_true_of_atKey hat;rw[hh x] at hx;simp only[Bool.and_eq_true,decide_eq_true_eq] at hx;obtain⟨m,rfl⟩:=Int.eq_ofNat_of_zero_le hx.1;exact hMore m w' cnt' (by simpa using hx.2) hlk hrg hlt (QT hgr (fun k e _=>by cases e;rfl)) hsz hen
def LinkRel(ps ps':List NP)(a b:List Nat)(left:Lit→Bool):Prop:=
 ps'.length=ps.length∧∀i (h:i<ps.length) (h':i<ps'.length),ps'[i]=if a.contains i&& !left (.int .i64 i) then {ps[i] with follow:=uni ps[i].follow b} else ps[i]
theorem LinkRel.start{ps:List NP}{a b:List Nat}{left:Lit→Bool}(h:∀x∈a,left (.int .i64 (x:Nat))=true):LinkRel ps ps a b left:=
 ⟨rfl,fun i h1 h2=>by
  by_cases hm:i∈a
  ·simp[h i hm]
  ·simp[hm]⟩
theorem LinkRel.done{ps ps':List NP}{a b:List Nat}{left:Lit→Bool}(h:LinkRel ps ps' a b left)(hl:∀k,left k=false):ps'=nlink ps a b:=by
 apply List.ext_getElem
 ·rw[h.1,Yz]
 ·intro i h1 h2;rw[h.2 i (by rw[←h.1];exact h1) h1,nlink_get ps a b i h2 (by rw[←h.1];exact h1)];simp[hl]
theorem LinkRel.at{ps ps':List NP}{a b:List Nat}{left:Lit→Bool}(h:LinkRel ps ps' a b left){x:Nat}(hx:left (.int .i64 x)=true)(h1:x<ps.length)(h2:x<ps'.length):ps'[x]=ps[x]:=by
 rw[h.2 x h1 h2];simp[hx]
theorem LinkRel.step{ps ps':List NP}{a b:List Nat}{left:Lit→Bool}(h:LinkRel ps ps' a b left){x:Nat}(ha:x∈a)(hx:left (.int .i64 x)=true)(h1:x<ps.length)(h2:x<ps'.length):
  LinkRel ps (ps'.set x {ps'[x] with follow:=uni ps'[x].follow b}) a b (fun z=>left z&& !z.sameKey (.int .i64 x)):=by
 refine⟨by simpa using h.1,fun i h3 h4=> ?_⟩;rw[List.getElem_set];have h5:i<ps'.length:=by simpa using h4
 split
 ·rename_i e;subst e;rw[h.at hx h1 h2];simp[ha,Lit.sameKey]
 ·rename_i e;rw[h.2 i h3 h5];have e2:Lit.sameKey (.int .i64 (i:Int)) (.int .i64 (x:Int))=false:=by simp[Lit.sameKey];omega
  simp[e2]
theorem link_c(pm f g:Nat)(v vr:Value)(ps:List NP)(fs a b:List Nat)(w:World)(hM:MachAt w pm v vr ps fs)(hn:ps.length≤2000)(hN:NGood ps)(ha:∀x∈a,x<ps.length)(hb:∀x∈b,x<ps.length)
  (hf:SetN w f a) (hg:SetN w g b) (hff:f∉fs) (hgf:g∉fs):
  Calls Tryz.prog 263 #[ptr pm,.map (some f),.map (some g)] w fun e w'=>e= .returned (.tuple #[])∧MachAt w' pm v vr (nlink ps a b) fs∧Kp (fun k=>k∈fs) w w':=by
 obtain⟨D,hown,hh⟩:=hf;have hfl:=hown.lt;have hpl:=hM.lt;have HM:=Qh hM;have HG:=Qh hg;have HN:=Qh hN;have HA:=Qh ha;have HB:=Qh hb;have HH:=Qh hh;have HS:Hid (∀x∈a,has D (.int .i64 (x:Nat))=true):=Qh (fun x hx=>by rw[hh];simp[hx]);have HFF:=Qh hff;have HGF:=Qh hgf;have HFS:Hid (∀k∈fs,k<w.heap.size):=Qh (fun k hk=>hM.fs_lt hk);have HV:Hid (∀k,MS pm v fs k→k<w.heap.size):=Qh (fun k hk=>(hM.ms_lt hk).2);clear hM hg hN ha hb hh hff hgf;go_enter Tryz.func263,Tryz.ntmps263;go_wp2_with (at_range;refine wpList_range_own _ rfl _ TSet rfl 3 4 int_key Tryz.underlying348 trueE f _ D rfl hown ?_;intro w0 hrg0 hg0 hs0)
 go_frame
 go_loopw [6,9,10,11,12,13,14,15,16,17,18,19,20,21,22] (fun _ _ _ _ _ _ _ _ _ _ _ _ _ _ _ wr=>∃(left:Lit→Bool) (cnt:Nat) (ps':List NP),wr.ranges Tryz.prog 3 trueE f w.heap.size (size D) D left cnt∧Hid (MachAt wr pm v vr ps' fs)∧Hid (SetN wr g b)∧Kp (fun k=>k∈fs) w wr∧Hid (LinkRel ps ps' a b left))
  (fun _ _ _ _ _ _ _ _ _ _ _ _ _ _ _ wr=>wr.rangeLeft f w.heap.size)
 case atStart=>
  have hk0:Kn w w0:=QT hg0 (fun k e _=>by cases e);exact⟨_,_,ps,hrg0,Qh (HM.out.kn hk0),Qh (HG.out.kn hk0),hk0.weak,Qh (LinkRel.start HS.out)⟩
 case round=>
  obtain⟨left,cnt,ps',hrg,hM',hG',hK',hL⟩:=hrel;go_wp2_with (at_next;refine wpList_next_set _ rfl _ rfl f w.heap.size (size D) D a HH.out left cnt rfl hrg ?_ ?_)
  ·intro hl;have HL:=Qh hl;clear hl;go_wp2_with fail
   go_end0
   exact⟨rfl,by rw[←hL.out.done HL.out];exact hM'.out,hK'⟩
  ·intro x w1 cnt1 hx hlx hrg1 hlt hk1 hs1 hen;have hxl:=HA.out x hx;have hxl':x<ps'.length:=by rw[hL.out.1];exact hxl
   have hM1:=hM'.out.kp hk1 (fun k hk e=>by have:=HV.out k hk;omega);have hG1:=hG'.out.kp hk1 (fun e=>by have:=HG.out.lt;omega);obtain⟨gr,c,fx,hv,hfx,hsx,_,_,_,_,_,c5⟩:=hM1.pos hxl';have cb:=hM1.blk;have c0:=Qa cb 0;simp only[List.getElem?_toArray,List.getElem?_cons_zero] at c0;rw[hv] at c0;have hmem:=(List.getElem?_eq_some_iff.1 hfx);have hfx':fx∈fs:=List.mem_of_getElem? hfx;have hpx:=hL.out.at hlx hxl hxl';have hcp:=copyS fx g ps'[x].follow b (fun e=>HGF.out (by rw[←e];exact hfx')) (fun y hy=>by rw[hpx] at hy;have:=HN.out _ (List.getElem_mem hxl) y hy;omega) (fun y hy=>by have:=HB.out y hy;omega) w1 hsx hG1;have HC:=Qh hcp;have HP:=Qh (And.intro hM1 (And.intro hG1 (And.intro hfx (And.intro hfx' hv))));have hx0:(x:Int)<ps'.length:=by omega
   clear hcp hM1 hG1 hfx hfx' hmem hsx hpx cb hv;go_wp2_with fail
   refine(HC.out).mono ?_;rintro e w2 ⟨rfl,hs2,hk2⟩;obtain⟨hM1,hG1,hfx,hfx',hv⟩:=HP.out;have hrg2:=hrg1.kept hk2.grown1 (fun e=>HFF.out (by injection e with e;rw[e];exact hfx')) (fun e=>by injection e with e;have:=HFS.out fx hfx';omega);have hM2:=Qh (hM1.follow hxl' hfx hs2 hk2);have hG2:=Qh (hG1.kp hk2 (fun e=>HGF.out (by rw[e];exact hfx')));have hK2:Kp (fun k=>k∈fs) w w2:=(hK'.trans' hk1 (fun i hi e=>by omega)).trans (hk2.mono (fun i _ e=>by rw[e];exact hfx'));have hL2:=Qh (hL.out.step hx hlx hxl hxl');clear c0 c5 hM1 hG1 hfx hv HP HC;go_wp2_with fail
   go_roundw
   case rel=>exact⟨_,cnt1,_,hrg2,hM2,hG2,hK2,hL2⟩
   case measure=>rw[hrg2.left_eq,hrg.left_eq];exact hlt
end Go.Proofs.YtiehgcfckhepaaaGreatDoor
namespace Go.Proofs
open Go.Shelf
def Tryz.cloneS_ren:Go.Shelf.Ren:=⟨fun|5=>304|7=>330|n=>n,fun|23=>348|25=>3|3=>4|4=>4|20=>20|n=>n,fun|n=>n⟩
theorem Tryz.cloneS:Go.Proofs.SlLaysW.n5 Tryz.prog Tryz.cloneS_ren:= {
  mixed:=by kernel_rfl
  f5:=⟨Tryz.f304.name,by decide,Tryz.func304.trans (congrArg some (by kernel_rfl))⟩
  f7:=Tryz.func330.trans (congrArg some (by kernel_rfl))
  t4:=Tryz.underlying4
  a4:=Tryz.isAgg4
  z4:=Tryz.sizeOf4
  v4:=Tryz.zeroValue4
  t20:=Tryz.underlying20
  a20:=Tryz.isAgg20
  z20:=Tryz.sizeOf20
  v20:=Tryz.zeroValue20
  t23:=Tryz.underlying348
  a23:=Tryz.isAgg348
  z23:=Tryz.sizeOf348
  v23:=Tryz.zeroValue348}
def Tryz.copyS_ren:Go.Shelf.Ren:=⟨fun|5=>305|n=>n,fun|23=>348|24=>348|26=>3|27=>4|0=>0|4=>4|n=>n,fun|n=>n⟩
theorem Tryz.copyS:Go.Proofs.SlLaysX.n5 Tryz.prog Tryz.copyS_ren:= {
  mixed:=by kernel_rfl
  f5:=⟨Tryz.f305.name,by decide,Tryz.func305.trans (congrArg some (by kernel_rfl))⟩
  t0:=Tryz.underlying0
  a0:=Tryz.isAgg0
  z0:=Tryz.sizeOf0
  v0:=Tryz.zeroValue0
  t4:=Tryz.underlying4
  a4:=Tryz.isAgg4
  z4:=Tryz.sizeOf4
  v4:=Tryz.zeroValue4
  t23:=Tryz.underlying348
  a23:=Tryz.isAgg348
  z23:=Tryz.sizeOf348
  v23:=Tryz.zeroValue348
  t24:=Tryz.underlying348
  a24:=Tryz.isAgg348
  z24:=Tryz.sizeOf348
  v24:=Tryz.zeroValue348
  a26:=Tryz.isAgg3
  z26:=Tryz.sizeOf3
  a27:=Tryz.isAgg4
  z27:=Tryz.sizeOf4}
def Tryz.keysS_ren:Go.Shelf.Ren:=⟨fun|7=>346|10=>361|n=>n,fun|23=>348|26=>3|3=>4|28=>478|0=>0|27=>477|33=>37|4=>4|n=>n,fun|n=>n⟩
theorem Tryz.keysS:Go.Proofs.SlLaysZI.n7 Tryz.prog Tryz.keysS_ren:= {
  mixed:=by kernel_rfl
  f7:=⟨Tryz.f346.name,by decide,Tryz.func346.trans (congrArg some (by kernel_rfl))⟩
  f10:=⟨Tryz.f361.name,by decide,Tryz.func361.trans (congrArg some (by kernel_rfl))⟩
  t0:=Tryz.underlying0
  a0:=Tryz.isAgg0
  z0:=Tryz.sizeOf0
  v0:=Tryz.zeroValue0
  t4:=Tryz.underlying4
  a4:=Tryz.isAgg4
  z4:=Tryz.sizeOf4
  v4:=Tryz.zeroValue4
  t23:=Tryz.underlying348
  a23:=Tryz.isAgg348
  z23:=Tryz.sizeOf348
  v23:=Tryz.zeroValue348
  t26:=Tryz.underlying3
  a26:=Tryz.isAgg3
  z26:=Tryz.sizeOf3
  v26:=Tryz.zeroValue3
  t27:=Tryz.underlying477
  a27:=Tryz.isAgg477
  z27:=Tryz.sizeOf477
  v27:=Tryz.zeroValue477
  t28:=Tryz.underlying478
  a28:=Tryz.isAgg478
  z28:=Tryz.sizeOf478
  v28:=Tryz.zeroValue478
  t33:=Tryz.underlying37
  a33:=Tryz.isAgg37
  z33:=Tryz.sizeOf37
  v33:=Tryz.zeroValue37}
def Tryz.sortedI_ren:Go.Shelf.Ren:=⟨fun|6=>345|8=>360|9=>309|11=>367|13=>119|12=>333|23=>174|24=>175|14=>347|15=>348|16=>349|17=>350|18=>351|19=>352|20=>353|21=>354|22=>355|25=>362|26=>225|27=>226|28=>363|29=>364|30=>120|31=>368|n=>n,fun|26=>3|28=>478|24=>28|0=>0|3=>3|37=>235|48=>314|50=>147|4=>4|40=>308|39=>307|45=>26|5=>5|9=>9|51=>368|55=>372|57=>418|58=>419|33=>37|n=>n,fun|n=>n⟩
theorem Tryz.sortedI:Go.Proofs.SlLaysZI.n6 Tryz.prog Tryz.sortedI_ren:= {
  mixed:=by kernel_rfl
  f6:=⟨Tryz.f345.name,by decide,Tryz.func345.trans (congrArg some (by kernel_rfl))⟩
  f8:=⟨Tryz.f360.name,by decide,Tryz.func360.trans (congrArg some (by kernel_rfl))⟩
  f11:=⟨Tryz.f367.name,by decide,Tryz.func367.trans (congrArg some (by kernel_rfl))⟩
  t0:=Tryz.underlying0
  a0:=Tryz.isAgg0
  z0:=Tryz.sizeOf0
  v0:=Tryz.zeroValue0
  t24:=Tryz.underlying28
  a24:=Tryz.isAgg28
  z24:=Tryz.sizeOf28
  v24:=Tryz.zeroValue28
  t26:=Tryz.underlying3
  a26:=Tryz.isAgg3
  z26:=Tryz.sizeOf3
  v26:=Tryz.zeroValue3
  t28:=Tryz.underlying478
  a28:=Tryz.isAgg478
  z28:=Tryz.sizeOf478
  v28:=Tryz.zeroValue478
  i26:=by kernel_rfl}
def Tryz.sortI_ren:Go.Shelf.Ren:=⟨fun|5=>309|8=>119|7=>333|19=>174|20=>175|10=>347|11=>348|12=>349|13=>350|14=>351|15=>352|16=>353|17=>354|18=>355|30=>362|31=>225|32=>226|33=>363|34=>364|35=>120|40=>368|n=>n,fun|23=>28|25=>3|3=>3|32=>235|22=>28|0=>0|44=>314|46=>147|4=>4|36=>308|35=>307|41=>26|5=>5|9=>9|53=>368|57=>372|63=>418|64=>419|n=>n,fun|n=>n⟩
theorem Tryz.sortI:Go.Proofs.SlLaysM.n5 Tryz.prog Tryz.sortI_ren:= {
  mixed:=by kernel_rfl
  f5:=⟨Tryz.f309.name,by decide,Tryz.func309.trans (congrArg some (by kernel_rfl))⟩
  f7:=⟨Tryz.f333.name,by decide,Tryz.func333.trans (congrArg some (by kernel_rfl))⟩
  f8:=Tryz.func119.trans (congrArg some (by kernel_rfl))
  f10:=⟨Tryz.f347.name,by decide,Tryz.func347.trans (congrArg some (by kernel_rfl))⟩
  f11:=⟨Tryz.f348.name,by decide,Tryz.func348.trans (congrArg some (by kernel_rfl))⟩
  f12:=⟨Tryz.f349.name,by decide,Tryz.func349.trans (congrArg some (by kernel_rfl))⟩
  f13:=⟨Tryz.f350.name,by decide,Tryz.func350.trans (congrArg some (by kernel_rfl))⟩
  f14:=⟨Tryz.f351.name,by decide,Tryz.func351.trans (congrArg some (by kernel_rfl))⟩
  f15:=⟨Tryz.f352.name,by decide,Tryz.func352.trans (congrArg some (by kernel_rfl))⟩
  f16:=⟨Tryz.f353.name,by decide,Tryz.func353.trans (congrArg some (by kernel_rfl))⟩
  f17:=⟨Tryz.f354.name,by decide,Tryz.func354.trans (congrArg some (by kernel_rfl))⟩
  f18:=⟨Tryz.f355.name,by decide,Tryz.func355.trans (congrArg some (by kernel_rfl))⟩
  f19:=Tryz.func174.trans (congrArg some (by kernel_rfl))
  f20:=Tryz.func175.trans (congrArg some (by kernel_rfl))
  f30:=⟨Tryz.f362.name,by decide,Tryz.func362.trans (congrArg some (by kernel_rfl))⟩
  f31:=Tryz.func225.trans (congrArg some (by kernel_rfl))
  f32:=Tryz.func226.trans (congrArg some (by kernel_rfl))
  f33:=⟨Tryz.f363.name,by decide,Tryz.func363.trans (congrArg some (by kernel_rfl))⟩
  f34:=⟨Tryz.f364.name,by decide,Tryz.func364.trans (congrArg some (by kernel_rfl))⟩
  f35:=⟨Tryz.f120.name,by decide,Tryz.func120.trans (congrArg some (by kernel_rfl))⟩
  f40:=⟨Tryz.f368.name,by decide,Tryz.func368.trans (congrArg some (by kernel_rfl))⟩
  t0:=Tryz.underlying0
  a0:=Tryz.isAgg0
  z0:=Tryz.sizeOf0
  v0:=Tryz.zeroValue0
  t3:=Tryz.underlying3
  a3:=Tryz.isAgg3
  z3:=Tryz.sizeOf3
  v3:=Tryz.zeroValue3
  t4:=Tryz.underlying4
  a4:=Tryz.isAgg4
  z4:=Tryz.sizeOf4
  v4:=Tryz.zeroValue4
  t5:=Tryz.underlying5
  a5:=Tryz.isAgg5
  z5:=Tryz.sizeOf5
  v5:=Tryz.zeroValue5
  t9:=Tryz.underlying9
  a9:=Tryz.isAgg9
  z9:=Tryz.sizeOf9
  v9:=Tryz.zeroValue9
  t22:=Tryz.underlying28
  a22:=Tryz.isAgg28
  z22:=Tryz.sizeOf28
  v22:=Tryz.zeroValue28
  t23:=Tryz.underlying28
  a23:=Tryz.isAgg28
  z23:=Tryz.sizeOf28
  v23:=Tryz.zeroValue28
  t25:=Tryz.underlying3
  a25:=Tryz.isAgg3
  z25:=Tryz.sizeOf3
  v25:=Tryz.zeroValue3
  t32:=Tryz.underlying235
  a32:=Tryz.isAgg235
  z32:=Tryz.sizeOf235
  v32:=Tryz.zeroValue235
  t35:=Tryz.underlying307
  a35:=Tryz.isAgg307
  z35:=Tryz.sizeOf307
  v35:=Tryz.zeroValue307
  t36:=Tryz.underlying308
  a36:=Tryz.isAgg308
  z36:=Tryz.sizeOf308
  v36:=Tryz.zeroValue308
  t41:=Tryz.underlying26
  a41:=Tryz.isAgg26
  z41:=Tryz.sizeOf26
  v41:=Tryz.zeroValue26
  t44:=Tryz.underlying314
  a44:=Tryz.isAgg314
  z44:=Tryz.sizeOf314
  v44:=Tryz.zeroValue314
  t46:=Tryz.underlying147
  a46:=Tryz.isAgg147
  z46:=Tryz.sizeOf147
  v46:=Tryz.zeroValue147
  t53:=Tryz.underlying368
  a53:=Tryz.isAgg368
  z53:=Tryz.sizeOf368
  v53:=Tryz.zeroValue368
  t57:=Tryz.underlying372
  a57:=Tryz.isAgg372
  z57:=Tryz.sizeOf372
  v57:=Tryz.zeroValue372
  t63:=Tryz.underlying418
  a63:=Tryz.isAgg418
  z63:=Tryz.sizeOf418
  v63:=Tryz.zeroValue418
  t64:=Tryz.underlying419
  a64:=Tryz.isAgg419
  z64:=Tryz.sizeOf419
  v64:=Tryz.zeroValue419}
def Tryz.sortItems_ren:Go.Shelf.Ren:=⟨fun|6=>179|15=>119|14=>230|28=>174|29=>175|20=>271|21=>272|22=>273|23=>274|24=>275|25=>276|26=>277|27=>278|46=>314|47=>225|48=>226|49=>315|50=>316|57=>338|n=>n,fun|22=>62|24=>71|25=>170|3=>3|39=>235|0=>0|53=>314|55=>147|4=>4|46=>308|45=>307|50=>26|5=>5|9=>9|66=>368|70=>372|76=>418|77=>419|n=>n,fun|n=>n⟩
theorem Tryz.sortItems:Go.Proofs.SlLaysF0.n6 Tryz.prog Tryz.sortItems_ren:= {
  mixed:=by kernel_rfl
  f6:=⟨Tryz.f179.name,by decide,Tryz.func179.trans (congrArg some (by kernel_rfl))⟩
  f14:=⟨Tryz.f230.name,by decide,Tryz.func230.trans (congrArg some (by kernel_rfl))⟩
  f15:=Tryz.func119.trans (congrArg some (by kernel_rfl))
  f20:=⟨Tryz.f271.name,by decide,Tryz.func271.trans (congrArg some (by kernel_rfl))⟩
  f21:=⟨Tryz.f272.name,by decide,Tryz.func272.trans (congrArg some (by kernel_rfl))⟩
  f22:=⟨Tryz.f273.name,by decide,Tryz.func273.trans (congrArg some (by kernel_rfl))⟩
  f23:=⟨Tryz.f274.name,by decide,Tryz.func274.trans (congrArg some (by kernel_rfl))⟩
  f24:=⟨Tryz.f275.name,by decide,Tryz.func275.trans (congrArg some (by kernel_rfl))⟩
  f25:=⟨Tryz.f276.name,by decide,Tryz.func276.trans (congrArg some (by kernel_rfl))⟩
  f26:=⟨Tryz.f277.name,by decide,Tryz.func277.trans (congrArg some (by kernel_rfl))⟩
  f27:=⟨Tryz.f278.name,by decide,Tryz.func278.trans (congrArg some (by kernel_rfl))⟩
  f28:=Tryz.func174.trans (congrArg some (by kernel_rfl))
  f29:=Tryz.func175.trans (congrArg some (by kernel_rfl))
  f46:=⟨Tryz.f314.name,by decide,Tryz.func314.trans (congrArg some (by kernel_rfl))⟩
  f47:=Tryz.func225.trans (congrArg some (by kernel_rfl))
  f48:=Tryz.func226.trans (congrArg some (by kernel_rfl))
  f49:=⟨Tryz.f315.name,by decide,Tryz.func315.trans (congrArg some (by kernel_rfl))⟩
  f50:=⟨Tryz.f316.name,by decide,Tryz.func316.trans (congrArg some (by kernel_rfl))⟩
  f57:=⟨Tryz.f338.name,by decide,Tryz.func338.trans (congrArg some (by kernel_rfl))⟩
  t0:=Tryz.underlying0
  a0:=Tryz.isAgg0
  z0:=Tryz.sizeOf0
  v0:=Tryz.zeroValue0
  t3:=Tryz.underlying3
  a3:=Tryz.isAgg3
  z3:=Tryz.sizeOf3
  v3:=Tryz.zeroValue3
  t4:=Tryz.underlying4
  a4:=Tryz.isAgg4
  z4:=Tryz.sizeOf4
  v4:=Tryz.zeroValue4
  t5:=Tryz.underlying5
  a5:=Tryz.isAgg5
  z5:=Tryz.sizeOf5
  v5:=Tryz.zeroValue5
  t9:=Tryz.underlying9
  a9:=Tryz.isAgg9
  z9:=Tryz.sizeOf9
  v9:=Tryz.zeroValue9
  t22:=Tryz.underlying62
  a22:=Tryz.isAgg62
  z22:=Tryz.sizeOf62
  v22:=Tryz.zeroValue62
  t25:=Tryz.underlying170
  a25:=Tryz.isAgg170
  z25:=Tryz.sizeOf170
  v25:=Tryz.zeroValue170
  t39:=Tryz.underlying235
  a39:=Tryz.isAgg235
  z39:=Tryz.sizeOf235
  v39:=Tryz.zeroValue235
  t45:=Tryz.underlying307
  a45:=Tryz.isAgg307
  z45:=Tryz.sizeOf307
  v45:=Tryz.zeroValue307
  t46:=Tryz.underlying308
  a46:=Tryz.isAgg308
  z46:=Tryz.sizeOf308
  v46:=Tryz.zeroValue308
  t50:=Tryz.underlying26
  a50:=Tryz.isAgg26
  z50:=Tryz.sizeOf26
  v50:=Tryz.zeroValue26
  t53:=Tryz.underlying314
  a53:=Tryz.isAgg314
  z53:=Tryz.sizeOf314
  v53:=Tryz.zeroValue314
  t55:=Tryz.underlying147
  a55:=Tryz.isAgg147
  z55:=Tryz.sizeOf147
  v55:=Tryz.zeroValue147
  t66:=Tryz.underlying368
  a66:=Tryz.isAgg368
  z66:=Tryz.sizeOf368
  v66:=Tryz.zeroValue368
  t70:=Tryz.underlying372
  a70:=Tryz.isAgg372
  z70:=Tryz.sizeOf372
  v70:=Tryz.zeroValue372
  t76:=Tryz.underlying418
  a76:=Tryz.isAgg418
  z76:=Tryz.sizeOf418
  v76:=Tryz.zeroValue418
  t77:=Tryz.underlying419
  a77:=Tryz.isAgg419
  z77:=Tryz.sizeOf419
  v77:=Tryz.zeroValue419}
end Go.Proofs
namespace Go.Proofs.YtiehgcfckhepaaaGreatDoor
open Go.RowKit Go.Maps Go.Shelf Go.Sort
theorem with_c(f g:Nat)(a b:List Nat)(w:World)(hf:SetN w f a)(hg:SetN w g b)(ha:∀x∈a,x<1000000)(hb:∀x∈b,x<1000000):
  Calls Tryz.prog 262 #[.map (some f),.map (some g)] w fun e w'=>∃q:Nat,e= .returned (.map (some q))∧w.heap.size≤q∧SetN w' q (uni a b)∧Kn w w':=by
 have hgl:=hg.lt;obtain⟨D,ho,hh⟩:=hf;have HC:Hid (Calls Tryz.prog 304 #[.map (some f)] w fun e w'=>e= .returned (.map (some w.heap.size))∧SetN w' w.heap.size a∧Kn w w'):=
  Qh ((AnyW.maps_Clone_owns Tryz.cloneS 3 trueE f _ D w ho).mono fun e w' ⟨h1,h2,_,h4⟩=>⟨h1,⟨D,h2,hh⟩,QB h4⟩)
 have HG:=Qh hg;have HA:=Qh ha;have HB:=Qh hb;clear hg ho hh ha hb;go_enter Tryz.func262,Tryz.ntmps262;go_wp2_with fail
 refine HC.out.mono ?_;rintro e w1 ⟨rfl,hs1,hk1⟩;have HP:=Qh (copyS w.heap.size g a b (by omega) HA.out HB.out w1 hs1 (HG.out.kn hk1));clear hs1;go_wp2_with fail
 refine HP.out.mono ?_;rintro e w2 ⟨rfl,hs2,hk2⟩;go_wp2_with fail
 go_ret;exact⟨_,rfl,Nat.le_refl _,hs2,hk1.trans' hk2 (fun i hi e=>by omega)⟩
abbrev OwnI(w:World)(B:Nat)(v:Value)(l:List Nat):Prop:=w.ownsRow B 3 1 v l.length (l.map (fun x:Nat=>Value.int .i64 x))
theorem ris_sort{ss:List Int}{a:List Nat}(hr:Ris a)(hp:ss.Perm (a.map (fun x:Nat=>(x:Int)))):ss.mergeSort (fun x y=>decide (x≤y))=a.map (fun x:Nat=>(x:Int)):=by
 have h1:=mergeSort_of_perm_i hp;show ss.mergeSort leI=_;rw[h1];refine List.mergeSort_of_pairwise ?_;rw[List.pairwise_map];exact hr.imp (fun {x y} h=>by simp;omega)
theorem sorts_i(m:Nat):AnyZI.SortsIn Tryz.prog Tryz.sortedI_ren Fence.wide m:=
 ⟨fun blk off cap ss W hH hblk hsz=>callsIn_wide.2 (AnyM.slices_Sort_int Tryz.sortI blk off cap ss W hH hblk hsz),
  fun p cap W=>callsIn_wide.2 (AnyM.slices_Sort_int_none Tryz.sortI p cap W)⟩
theorem sorted_c(f:Nat)(a:List Nat)(w:World)(hf:SetN w f a)(hr:Ris a)(ha:∀x∈a,x<1000000):
  Calls Tryz.prog 332 #[.map (some f)] w fun e w'=>∃v,e= .returned v∧OwnI w' w.heap.size v a∧Kn w w':=by
 obtain⟨D,hown,hsz,hh⟩:=hf.size_le ha;have hbl:=hown.lt;have hmax:Maps.size D≤maxLen:=by simp only[maxLen];omega
 have hperm:Hid (∀ss:List Int,ss.Perm (intKeys D)→ss.mergeSort (fun x y=>decide (x≤y))=a.map (fun x:Nat=>(x:Int))):=Qh (fun ss hp=>by
  obtain⟨es,rfl,hpw,hk⟩:=set_keys hown;refine ris_sort hr (hp.trans ?_);refine(perm_intKeys hpw (fun p hp=>by obtain⟨x,hx,_⟩:=hk p hp;exact⟨x,hx⟩) ?_ ?_).symm
  ·rw[List.Nodup,List.pairwise_map];exact hr.imp (fun {x y} h=>by omega)
  ·intro x;rw[hh x];simp only[List.mem_map,Bool.and_eq_true,decide_eq_true_eq];constructor
   ·rintro⟨y,hy,rfl⟩;simpa using hy
   ·rintro⟨h0,h1⟩;exact⟨x.toNat,by simpa using h1,by omega⟩)
 refine(callsIn_wide (n:=6)).1 ?_;have hseq:SeqGives Fence.wide 2 Tryz.prog 361 #[.pointer (some ⟨w.heap.size,0,none⟩)] encZ (fun ss=>ss.Perm (intKeys D)) (Maps.size D) (w.alloc (.cells #[.map (some f)] TSet)):=
  AnyZI.keys_gives (ρ:=Tryz.keysS_ren) {Tryz.keysS with} Fence.wide _ trivial rfl (by omega) w.heap.size f _ D _ (by simp) (by simp) (by
   obtain⟨es,clock,hb,Ft,hs,hD⟩:=hown;exact⟨es,clock,(Below.heap_alloc _ _ f hbl).trans hb,Ft,hs,hD⟩)
 have cK:∀mb W,CallsIn Fence.wide 5 Tryz.prog 346 #[.map mb] W fun e w'=>e= .returned (.func (.func 361) #[] #[.pointer (some ⟨W.heap.size,0,none⟩)])∧w'=W.alloc (.cells #[.map mb] TSet):=fun mb W=>AnyZI.keys_in Tryz.keysS Fence.wide 5 trivial rfl mb W
 have cS:=AnyZI.sorted_in Tryz.sortedI Fence.wide 5 trivial trivial trivial trivial rfl (by omega) (sorts_i _) (enters_of Tryz.func309 (by kernel_rfl) rfl) 361 #[.pointer (some ⟨w.heap.size,0,none⟩)] trivial (enters_of Tryz.func361 (by kernel_rfl) rfl) _ _ hmax (by omega) _ hseq;change CallsIn _ _ Tryz.prog 345 _ _ _ at cS;have hfK:Fence.wide.fn 346:=trivial;have hfS:Fence.wide.fn 345:=trivial;clear hown hh hseq;refine callsIn_of_wp Tryz.func332 rfl trivial ?_ rfl;simp only[Tryz.ntmps332,List.size_toArray,List.length_cons,List.length_nil,Nat.reduceAdd,Nat.reduceSub,Array.replicate_succ,Array.replicate_zero,List.push_toArray,List.append_toArray,List.nil_append,List.cons_append]
 gi_wp2_with (first
  |(gi_at_call 346;refine(cK _ _).mono ?_;rintro e w' ⟨rfl,rfl⟩)
  |(gi_at_call 345;refine cS.mono ?_;rintro e w' ⟨v,ss,rfl,hS,hrow,hnil,hb⟩))
 go_ret;have he:=hperm.out ss hS;have hl:ss.length=a.length:=by have:=congrArg List.length he;simpa using this
 rw[he,hl,List.map_map] at hrow;refine⟨v,rfl,?_,?_⟩
 ·exact ownsRow_base_a hrow (by simp)
 ·exact QB (((Below.refl _ w).alloc (Nat.le_refl _) _).trans (hb.mono (by simp)))
end Go.Proofs.YtiehgcfckhepaaaGreatDoor
namespace Go.Proofs.YtiehgcfckhepaaaGreatDoor
open Go.RowKit Go.Maps
abbrev knV(f l:Nat)(e:Bool):Value:= .agg #[.map (some f),.map (some l),.bool e]
abbrev knB(f l:Nat)(e:Bool):Obj:= .cells #[.map (some f),.map (some l),.bool e] YE
abbrev QE:Obj:= .cells #[.map none,.map none,.bool false] YE
theorem Qu{l:List Nat}{n:Nat}(h:∀x∈l,x<n)(hn:n≤2000):∀x∈l,x<1000000:=fun x hx=>by have:=h x hx;omega
theorem blk_at(w:World)(o:Obj){n:Nat}(h:w.heap.size=n):(w.alloc o).heap[n]? =some o:=by subst h;exact Qf w o
theorem res3{fn:Func}{t:Tmp}{tmps:Array Value}{W:World}{b:Nat}{x y z:Value}{T:TypeId}{fr:Nat×Nat}(h:fn.results= #[.cell t YE])(ht:tmps[t]?.getD undef=ptr b)(hb:W.heap[b]? =some (.cells #[x,y,z] T fr)):
  (results fn tmps).run Tryz.prog W= .ok (.agg #[x,y,z]) W:=by
 have c0:=Qa hb 0;have c1:=Qa hb 1;have c2:=Qa hb 2;simp only[PE] at c0 c1 c2;simp[results,h,ht,go_sem,c0,c1,c2]
theorem Qg{p o:Nat}(w:World)(v:Value):K1 p w (w.setCell ⟨p,o,none⟩ v):=(Qb (fun k=>k=p) w).setCell (p:=⟨p,o,none⟩) (fun _=>rfl) v
theorem cat_fin{w w1 L W:World}{pm:Nat}{v vr:Value}{ps:List NP}{fs:List Nat}(hM:MachAt w1 pm v vr ps fs)(hkw:Kp (fun k=>k∈fs) w w1)(hL:Kn w1 L)(hW:Kp (fun k=>k=w1.heap.size∨k=w.heap.size+1+1) L W)
  (hvs:∀k,MS pm v fs k→k<w.heap.size) (hz:w.heap.size+3≤w1.heap.size):
  MachAt W pm v vr ps fs∧Kp (fun k=>k∈fs) w W∧∀q l,SetN L q l→(q<w.heap.size∨w1.heap.size<q)→SetN W q l:=
 ⟨(hM.kn hL).kp hW (fun k hk e=>by have:=hvs k hk;omega),(hkw.trans hL.weak).trans' hW (fun i hi e=>by omega),fun q l h hq=>h.kp hW (by omega)⟩
def CatPost(pm fa la fb lb:Nat)(ka kb:KN)(v vr:Value)(ps:List NP)(fs:List Nat)(w:World):Prop:=
  Calls Tryz.prog 261 #[ptr pm,knV fa la ka.empty,knV fb lb kb.empty] w fun e w'=>∃f l:Nat,e= .returned (knV f l (Yw ka kb).empty)∧MachAt w' pm v vr (nlink ps ka.last kb.first) fs∧
   SetN w' f (Yw ka kb).first∧SetN w' l (Yw ka kb).last∧(f=fa∨w.heap.size≤f)∧(l=lb∨w.heap.size≤l)∧Kp (fun k=>k∈fs) w w'
theorem cat_tt(pm fa la fb lb:Nat)(ka kb:KN)(hea:ka.empty=true)(heb:kb.empty=true)(v vr:Value)(ps:List NP)(fs:List Nat)(w:World)(hM:MachAt w pm v vr ps fs)(hn:ps.length≤2000)(hN:NGood ps)(hka:KGood ka ps.length)(hkb:KGood kb ps.length)
  (h1:SetN w fa ka.first) (h2:SetN w la ka.last) (h3:SetN w fb kb.first) (h4:SetN w lb kb.last) (hd:fa∉fs∧la∉fs∧fb∉fs∧lb∉fs):CatPost pm fa la fb lb ka kb v vr ps fs w:=by
 unfold CatPost;rw[hea,heb];have hE:Hid ((Yw ka kb).empty=true):=Qh (by simp[Yw,hea,heb]);have hF:Hid ((Yw ka kb).first=uni ka.first kb.first):=Qh (by simp[Yw,hea]);have hL:Hid ((Yw ka kb).last=uni kb.last ka.last):=Qh (by simp[Yw,heb]);clear hea heb;obtain⟨d1,d2,d3,d4⟩:=hd;have hk0:Kn w (((w.alloc (knB fa la true)).alloc (knB fb lb true)).alloc QE):=(((Qb _ w).alloc _).alloc _).alloc _;have hb0:=Qm (Qm (Qf w (knB fa la true)) (knB fb lb true)) QE;have hb1:=Qm (blk_at (w.alloc (knB fa la true)) (knB fb lb true) (n:=w.heap.size+1) (by simp)) QE;have hb2:=blk_at ((w.alloc (knB fa la true)).alloc (knB fb lb true)) QE (n:=w.heap.size+1+1) (by simp);have hlink:=link_c pm la fb v vr ps fs ka.last kb.first (((w.alloc (knB fa la true)).alloc (knB fb lb true)).alloc QE) (hM.kn hk0) hn hN hka.l hkb.f (h2.kn hk0) (h3.kn hk0) d2 d3;have hfs:Hid (∀k∈fs,k<w.heap.size):=Qh (fun k hk=>hM.fs_lt hk);have hvs:Hid (∀k,MS pm v fs k→k<w.heap.size):=Qh (fun k hk=>(hM.ms_lt hk).2);have hlts:fa<w.heap.size∧la<w.heap.size∧fb<w.heap.size∧lb<w.heap.size:=⟨h1.lt,h2.lt,h3.lt,h4.lt⟩;have HLT:=Qh hlts;clear hlts;have HL:=Qh hlink;have HP:=Qh (And.intro (Qu hka.f hn) (And.intro (Qu hka.l hn) (And.intro (Qu hkb.f hn) (And.intro (Qu hkb.l hn) (And.intro (h1.kn hk0) (And.intro (h2.kn hk0) (And.intro (h3.kn hk0) (h4.kn hk0))))))));clear hM hlink hka hkb h1 h2 h3 h4;go_enter Tryz.func261,Tryz.ntmps261;go_wp2_with fail
 refine HL.out.mono ?_;rintro e w1 ⟨rfl,hM1,hk1⟩;obtain⟨s1,s2,s3,s4,h1,h2,h3,h4⟩:=HP.out;have g1:=h1.kp hk1 d1;have g2:=h2.kp hk1 d2;have g3:=h3.kp hk1 d3;have g4:=h4.kp hk1 d4;have hz1:w.heap.size+3≤w1.heap.size:=by have:=hk1.size;simpa using this
 have c0:=hk1.blk hb0 (fun x=>by have:=hfs.out _ x;omega);have c1:=hk1.blk hb1 (fun x=>by have:=hfs.out _ x;omega);have c2:=hk1.blk hb2 (fun x=>by have:=hfs.out _ x;omega);have hkw:Kp (fun k=>k∈fs) w w1:=hk0.weak.trans hk1;have G:=Qh (And.intro g1 (And.intro g2 (And.intro g3 (And.intro g4 (And.intro hM1 hkw)))));have S:=Qh (And.intro s1 (And.intro s2 (And.intro s3 s4)));clear g1 g2 g3 g4 h1 h2 h3 h4 s1 s2 s3 s4 d1 d2 d3 d4 hM1 hkw hk1 hk0 HL HP hb0 hb1 hb2;have x00:=Qa c0 0;have x01:=Qa c0 1;have x02:=Qa c0 2;have x10:=Qa c1 0;have x11:=Qa c1 1;have x12:=Qa c1 2;have x20:=Qa c2 0;have x21:=Qa c2 1;have x22:=Qa c2 2;have y20:=Qd c2 0;have y21:=Qd c2 1;have y22:=Qd c2 2;simp only[PE] at x00 x01 x02 x10 x11 x12 x20 x21 x22;have C:=Qh (And.intro c0 (And.intro c1 c2));clear c0 c1 c2;have n0:w.heap.size<w1.heap.size:=by omega
 have n1:w.heap.size+1<w1.heap.size:=by omega
 have n2:w.heap.size+1+1<w1.heap.size:=by omega
 have hko:=(Qb (fun _=>False) w1).alloc (knB fa lb true);go_wp2_with fail
 refine(with_c fa fb ka.first kb.first _ (G.out.1.kn hko) (G.out.2.2.1.kn hko) S.out.1 S.out.2.2.1).mono ?_;rintro e w2 ⟨q1,rfl,hq1,hs1,hk2⟩;have hk12:Kn w1 w2:=hko.trans hk2;obtain⟨c0,c1,c2⟩:=C.out;have c0:=hk12.blk c0 (fun x=>x);have c1:=hk12.blk c1 (fun x=>x);have c2:=hk12.blk c2 (fun x=>x);have c3:=hk2.blk (Qf w1 (knB fa lb true)) (fun x=>x);have hq1':w1.heap.size<q1:=by simp at hq1;omega
 clear x00 x01 x02 x10 x11 x12 x20 x21 x22 y20 y21 y22 hq1;have x00:=Qa c0 0;have x01:=Qa c0 1;have x02:=Qa c0 2;have x10:=Qa c1 0;have x11:=Qa c1 1;have x12:=Qa c1 2;have x20:=Qa c2 0;have x21:=Qa c2 1;have x22:=Qa c2 2;have y20:=Qd c2 0;have y21:=Qd c2 1;have y22:=Qd c2 2;have x30:=Qa c3 0;have x31:=Qa c3 1;have x32:=Qa c3 2;have y30:=Qd c3 0;have y31:=Qd c3 1;have y32:=Qd c3 2;simp only[PE] at x00 x01 x02 x10 x11 x12 x20 x21 x22 x30 x31 x32;have hz2:w1.heap.size<w2.heap.size:=Qj c3;have C2:=Qh (And.intro c0 (And.intro c1 (And.intro c2 c3)));clear c0 c1 c2 c3 C;go_wp2_with fail
 have hk2s:K1 w1.heap.size w2 (w2.setCell ⟨w1.heap.size,0,none⟩ (.map (some q1))):=Qg _ _;have hw1:=Qh (fun(k:Nat) (h:k<w1.heap.size) (e:k=w1.heap.size)=>(by omega:False));have T:∀ {b:Nat} {l:List Nat},SetN w1 b l→SetN (w2.setCell ⟨w1.heap.size,0,none⟩ (.map (some q1))) b l:=fun h=>(h.kn hk12).kp hk2s (fun e=>by have:=h.lt;omega)
 refine(with_c lb la kb.last ka.last _ (T G.out.2.2.2.1) (T G.out.2.1) S.out.2.2.2 S.out.2.1).mono ?_;rintro e w3 ⟨q2,rfl,hq2,hs2,hk3⟩;obtain⟨c0,c1,c2,c3⟩:=C2.out;have c0:=hk3.blk (hk2s.blk c0 (by omega)) (fun x=>x);have c1:=hk3.blk (hk2s.blk c1 (by omega)) (fun x=>x);have c2:=hk3.blk (hk2s.blk c2 (by omega)) (fun x=>x);have c3:=hk3.blk (Qk c3 0 (.map (some q1))) (fun x=>x);simp only[List.setIfInBounds_toArray,List.set_cons_zero] at c3;clear x00 x01 x02 x10 x11 x12 x20 x21 x22 x30 x31 x32 y20 y21 y22 y30 y31 y32;have x00:=Qa c0 0;have x01:=Qa c0 1;have x02:=Qa c0 2;have x10:=Qa c1 0;have x11:=Qa c1 1;have x12:=Qa c1 2;have x20:=Qa c2 0;have x21:=Qa c2 1;have x22:=Qa c2 2;have y20:=Qd c2 0;have y21:=Qd c2 1;have y22:=Qd c2 2;have x30:=Qa c3 0;have x31:=Qa c3 1;have x32:=Qa c3 2;have y30:=Qd c3 0;have y31:=Qd c3 1;have y32:=Qd c3 2;simp only[PE] at x00 x01 x02 x10 x11 x12 x20 x21 x22 x30 x31 x32;have hz3:w2.heap.size≤w3.heap.size:=by have:=hk3.size;simpa using this
 have hk13:Kn w1 w3:=(hk12.trans' hk2s (fun i hi e=>by omega)).trans hk3;have hs1':=(hs1.kp hk2s (by omega)).kn hk3;have hq2':w1.heap.size<q2:=by simp at hq2;omega
 have C9:=Qh c2;clear hq2 c0 c1 c2 c3 C2 T hs1;go_wp2_with fail
 refine bodyPost_ret (v:=knV q1 q2 true) (res3 (b:=w.heap.size+1+1) (T:=YE) (fr:=(0,0)) Tryz.results261 (by rfl) ?_) rfl ?_
 ·exact Qk (Qk (Qk (Yd C9.out (by omega) _ _) 0 _) 1 _) 2 _
 have hkW:Kp (fun k=>k=w1.heap.size∨k=w.heap.size+1+1) w3 ((((w3.setCell ⟨w1.heap.size,1,none⟩ (.map (some q2))).setCell ⟨w.heap.size+1+1,0,none⟩ (.map (some q1))).setCell ⟨w.heap.size+1+1,1,none⟩ (.map (some q2))).setCell ⟨w.heap.size+1+1,2,none⟩ (.bool true)):=
  ((((Qg _ _).mono (fun _ _ e=> .inl e)).trans ((Qg _ _).mono (fun _ _ e=> .inr e))).trans ((Qg _ _).mono (fun _ _ e=> .inr e))).trans ((Qg _ _).mono (fun _ _ e=> .inr e))
 obtain⟨r1,r2,r3⟩:=cat_fin G.out.2.2.2.2.1 G.out.2.2.2.2.2 hk13 hkW hvs.out hz1;have hlt:=HLT.out;rw[hE.out,hF.out,hL.out];exact⟨q1,q2,rfl,r1,r3 _ _ hs1' (by omega),r3 _ _ hs2 (by omega),by omega,by omega,r2⟩
theorem cat_tf(pm fa la fb lb:Nat)(ka kb:KN)(hea:ka.empty=true)(heb:kb.empty=false)(v vr:Value)(ps:List NP)(fs:List Nat)(w:World)(hM:MachAt w pm v vr ps fs)(hn:ps.length≤2000)(hN:NGood ps)(hka:KGood ka ps.length)(hkb:KGood kb ps.length)
  (h1:SetN w fa ka.first) (h2:SetN w la ka.last) (h3:SetN w fb kb.first) (h4:SetN w lb kb.last) (hd:fa∉fs∧la∉fs∧fb∉fs∧lb∉fs):CatPost pm fa la fb lb ka kb v vr ps fs w:=by
 unfold CatPost;rw[hea,heb];have hE:Hid ((Yw ka kb).empty=false):=Qh (by simp[Yw,hea,heb]);have hF:Hid ((Yw ka kb).first=uni ka.first kb.first):=Qh (by simp[Yw,hea]);have hL:Hid ((Yw ka kb).last=kb.last):=Qh (by simp[Yw,heb]);clear hea heb;obtain⟨d1,d2,d3,d4⟩:=hd;have hk0:Kn w (((w.alloc (knB fa la true)).alloc (knB fb lb false)).alloc QE):=(((Qb _ w).alloc _).alloc _).alloc _;have hb0:=Qm (Qm (Qf w (knB fa la true)) (knB fb lb false)) QE;have hb1:=Qm (blk_at (w.alloc (knB fa la true)) (knB fb lb false) (n:=w.heap.size+1) (by simp)) QE;have hb2:=blk_at ((w.alloc (knB fa la true)).alloc (knB fb lb false)) QE (n:=w.heap.size+1+1) (by simp);have hlink:=link_c pm la fb v vr ps fs ka.last kb.first (((w.alloc (knB fa la true)).alloc (knB fb lb false)).alloc QE) (hM.kn hk0) hn hN hka.l hkb.f (h2.kn hk0) (h3.kn hk0) d2 d3;have hfs:Hid (∀k∈fs,k<w.heap.size):=Qh (fun k hk=>hM.fs_lt hk);have hvs:Hid (∀k,MS pm v fs k→k<w.heap.size):=Qh (fun k hk=>(hM.ms_lt hk).2);have hlts:fa<w.heap.size∧la<w.heap.size∧fb<w.heap.size∧lb<w.heap.size:=⟨h1.lt,h2.lt,h3.lt,h4.lt⟩;have HLT:=Qh hlts;clear hlts;have HL:=Qh hlink;have HP:=Qh (And.intro (Qu hka.f hn) (And.intro (Qu hka.l hn) (And.intro (Qu hkb.f hn) (And.intro (Qu hkb.l hn) (And.intro (h1.kn hk0) (And.intro (h2.kn hk0) (And.intro (h3.kn hk0) (h4.kn hk0))))))));clear hM hlink hka hkb h1 h2 h3 h4;go_enter Tryz.func261,Tryz.ntmps261;go_wp2_with fail
 refine HL.out.mono ?_;rintro e w1 ⟨rfl,hM1,hk1⟩;obtain⟨s1,s2,s3,s4,h1,h2,h3,h4⟩:=HP.out;have g1:=h1.kp hk1 d1;have g2:=h2.kp hk1 d2;have g3:=h3.kp hk1 d3;have g4:=h4.kp hk1 d4;have hz1:w.heap.size+3≤w1.heap.size:=by have:=hk1.size;simpa using this
 have c0:=hk1.blk hb0 (fun x=>by have:=hfs.out _ x;omega);have c1:=hk1.blk hb1 (fun x=>by have:=hfs.out _ x;omega);have c2:=hk1.blk hb2 (fun x=>by have:=hfs.out _ x;omega);have hkw:Kp (fun k=>k∈fs) w w1:=hk0.weak.trans hk1;have G:=Qh (And.intro g1 (And.intro g2 (And.intro g3 (And.intro g4 (And.intro hM1 hkw)))));have S:=Qh (And.intro s1 (And.intro s2 (And.intro s3 s4)));clear g1 g2 g3 g4 h1 h2 h3 h4 s1 s2 s3 s4 d1 d2 d3 d4 hM1 hkw hk1 hk0 HL HP hb0 hb1 hb2;have x00:=Qa c0 0;have x01:=Qa c0 1;have x02:=Qa c0 2;have x10:=Qa c1 0;have x11:=Qa c1 1;have x12:=Qa c1 2;have x20:=Qa c2 0;have x21:=Qa c2 1;have x22:=Qa c2 2;have y20:=Qd c2 0;have y21:=Qd c2 1;have y22:=Qd c2 2;simp only[PE] at x00 x01 x02 x10 x11 x12 x20 x21 x22;have C:=Qh (And.intro c0 (And.intro c1 c2));clear c0 c1 c2;have n0:w.heap.size<w1.heap.size:=by omega
 have n1:w.heap.size+1<w1.heap.size:=by omega
 have n2:w.heap.size+1+1<w1.heap.size:=by omega
 have hko:=(Qb (fun _=>False) w1).alloc (knB fa lb false);go_wp2_with fail
 refine(with_c fa fb ka.first kb.first _ (G.out.1.kn hko) (G.out.2.2.1.kn hko) S.out.1 S.out.2.2.1).mono ?_;rintro e w2 ⟨q1,rfl,hq1,hs1,hk2⟩;have hk12:Kn w1 w2:=hko.trans hk2;obtain⟨c0,c1,c2⟩:=C.out;have c0:=hk12.blk c0 (fun x=>x);have c1:=hk12.blk c1 (fun x=>x);have c2:=hk12.blk c2 (fun x=>x);have c3:=hk2.blk (Qf w1 (knB fa lb false)) (fun x=>x);have hq1':w1.heap.size<q1:=by simp at hq1;omega
 clear x00 x01 x02 x10 x11 x12 x20 x21 x22 y20 y21 y22 hq1;have x00:=Qa c0 0;have x01:=Qa c0 1;have x02:=Qa c0 2;have x10:=Qa c1 0;have x11:=Qa c1 1;have x12:=Qa c1 2;have x20:=Qa c2 0;have x21:=Qa c2 1;have x22:=Qa c2 2;have y20:=Qd c2 0;have y21:=Qd c2 1;have y22:=Qd c2 2;have x30:=Qa c3 0;have x31:=Qa c3 1;have x32:=Qa c3 2;have y30:=Qd c3 0;have y31:=Qd c3 1;have y32:=Qd c3 2;simp only[PE] at x00 x01 x02 x10 x11 x12 x20 x21 x22 x30 x31 x32;have hz2:w1.heap.size<w2.heap.size:=Qj c3;have C2:=Qh (And.intro c0 (And.intro c1 (And.intro c2 c3)));clear c0 c1 c2 c3 C;go_wp2_with fail
 refine bodyPost_ret (v:=knV q1 lb false) (res3 (b:=w.heap.size+1+1) (T:=YE) (fr:=(0,0)) Tryz.results261 (by rfl) ?_) rfl ?_
 ·exact Qk (Qk (Qk (Yd C2.out.2.2.1 (by omega) _ _) 0 _) 1 _) 2 _
 have hkW:Kp (fun k=>k=w1.heap.size∨k=w.heap.size+1+1) w2 ((((w2.setCell ⟨w1.heap.size,0,none⟩ (.map (some q1))).setCell ⟨w.heap.size+1+1,0,none⟩ (.map (some q1))).setCell ⟨w.heap.size+1+1,1,none⟩ (.map (some lb))).setCell ⟨w.heap.size+1+1,2,none⟩ (.bool false)):=
  ((((Qg _ _).mono (fun _ _ e=> .inl e)).trans ((Qg _ _).mono (fun _ _ e=> .inr e))).trans ((Qg _ _).mono (fun _ _ e=> .inr e))).trans ((Qg _ _).mono (fun _ _ e=> .inr e))
 obtain⟨r1,r2,r3⟩:=cat_fin G.out.2.2.2.2.1 G.out.2.2.2.2.2 hk12 hkW hvs.out hz1;have hlt:=HLT.out;rw[hE.out,hF.out,hL.out];exact⟨q1,lb,rfl,r1,r3 _ _ hs1 (by omega),r3 _ _ (G.out.2.2.2.1.kn hk12) (by omega),by omega,by omega,r2⟩
theorem cat_ft(pm fa la fb lb:Nat)(ka kb:KN)(hea:ka.empty=false)(heb:kb.empty=true)(v vr:Value)(ps:List NP)(fs:List Nat)(w:World)(hM:MachAt w pm v vr ps fs)(hn:ps.length≤2000)(hN:NGood ps)(hka:KGood ka ps.length)(hkb:KGood kb ps.length)
  (h1:SetN w fa ka.first) (h2:SetN w la ka.last) (h3:SetN w fb kb.first) (h4:SetN w lb kb.last) (hd:fa∉fs∧la∉fs∧fb∉fs∧lb∉fs):CatPost pm fa la fb lb ka kb v vr ps fs w:=by
 unfold CatPost;rw[hea,heb];have hE:Hid ((Yw ka kb).empty=false):=Qh (by simp[Yw,hea,heb]);have hF:Hid ((Yw ka kb).first=ka.first):=Qh (by simp[Yw,hea]);have hL:Hid ((Yw ka kb).last=uni kb.last ka.last):=Qh (by simp[Yw,heb]);clear hea heb;obtain⟨d1,d2,d3,d4⟩:=hd;have hk0:Kn w (((w.alloc (knB fa la false)).alloc (knB fb lb true)).alloc QE):=(((Qb _ w).alloc _).alloc _).alloc _;have hb0:=Qm (Qm (Qf w (knB fa la false)) (knB fb lb true)) QE;have hb1:=Qm (blk_at (w.alloc (knB fa la false)) (knB fb lb true) (n:=w.heap.size+1) (by simp)) QE;have hb2:=blk_at ((w.alloc (knB fa la false)).alloc (knB fb lb true)) QE (n:=w.heap.size+1+1) (by simp);have hlink:=link_c pm la fb v vr ps fs ka.last kb.first (((w.alloc (knB fa la false)).alloc (knB fb lb true)).alloc QE) (hM.kn hk0) hn hN hka.l hkb.f (h2.kn hk0) (h3.kn hk0) d2 d3;have hfs:Hid (∀k∈fs,k<w.heap.size):=Qh (fun k hk=>hM.fs_lt hk);have hvs:Hid (∀k,MS pm v fs k→k<w.heap.size):=Qh (fun k hk=>(hM.ms_lt hk).2);have hlts:fa<w.heap.size∧la<w.heap.size∧fb<w.heap.size∧lb<w.heap.size:=⟨h1.lt,h2.lt,h3.lt,h4.lt⟩;have HLT:=Qh hlts;clear hlts;have HL:=Qh hlink;have HP:=Qh (And.intro (Qu hka.f hn) (And.intro (Qu hka.l hn) (And.intro (Qu hkb.f hn) (And.intro (Qu hkb.l hn) (And.intro (h1.kn hk0) (And.intro (h2.kn hk0) (And.intro (h3.kn hk0) (h4.kn hk0))))))));clear hM hlink hka hkb h1 h2 h3 h4;go_enter Tryz.func261,Tryz.ntmps261;go_wp2_with fail
 refine HL.out.mono ?_;rintro e w1 ⟨rfl,hM1,hk1⟩;obtain⟨s1,s2,s3,s4,h1,h2,h3,h4⟩:=HP.out;have g1:=h1.kp hk1 d1;have g2:=h2.kp hk1 d2;have g3:=h3.kp hk1 d3;have g4:=h4.kp hk1 d4;have hz1:w.heap.size+3≤w1.heap.size:=by have:=hk1.size;simpa using this
 have c0:=hk1.blk hb0 (fun x=>by have:=hfs.out _ x;omega);have c1:=hk1.blk hb1 (fun x=>by have:=hfs.out _ x;omega);have c2:=hk1.blk hb2 (fun x=>by have:=hfs.out _ x;omega);have hkw:Kp (fun k=>k∈fs) w w1:=hk0.weak.trans hk1;have G:=Qh (And.intro g1 (And.intro g2 (And.intro g3 (And.intro g4 (And.intro hM1 hkw)))));have S:=Qh (And.intro s1 (And.intro s2 (And.intro s3 s4)));clear g1 g2 g3 g4 h1 h2 h3 h4 s1 s2 s3 s4 d1 d2 d3 d4 hM1 hkw hk1 hk0 HL HP hb0 hb1 hb2;have x00:=Qa c0 0;have x01:=Qa c0 1;have x02:=Qa c0 2;have x10:=Qa c1 0;have x11:=Qa c1 1;have x12:=Qa c1 2;have x20:=Qa c2 0;have x21:=Qa c2 1;have x22:=Qa c2 2;have y20:=Qd c2 0;have y21:=Qd c2 1;have y22:=Qd c2 2;simp only[PE] at x00 x01 x02 x10 x11 x12 x20 x21 x22;have C:=Qh (And.intro c0 (And.intro c1 c2));clear c0 c1 c2;have n0:w.heap.size<w1.heap.size:=by omega
 have n1:w.heap.size+1<w1.heap.size:=by omega
 have n2:w.heap.size+1+1<w1.heap.size:=by omega
 have hko:=(Qb (fun _=>False) w1).alloc (knB fa lb false);go_wp2_with fail
 refine(with_c lb la kb.last ka.last _ (G.out.2.2.2.1.kn hko) (G.out.2.1.kn hko) S.out.2.2.2 S.out.2.1).mono ?_;rintro e w2 ⟨q2,rfl,hq2,hs2,hk2⟩;have hk12:Kn w1 w2:=hko.trans hk2;obtain⟨c0,c1,c2⟩:=C.out;have c0:=hk12.blk c0 (fun x=>x);have c1:=hk12.blk c1 (fun x=>x);have c2:=hk12.blk c2 (fun x=>x);have c3:=hk2.blk (Qf w1 (knB fa lb false)) (fun x=>x);have hq2':w1.heap.size<q2:=by simp at hq2;omega
 clear x00 x01 x02 x10 x11 x12 x20 x21 x22 y20 y21 y22 hq2;have x00:=Qa c0 0;have x01:=Qa c0 1;have x02:=Qa c0 2;have x10:=Qa c1 0;have x11:=Qa c1 1;have x12:=Qa c1 2;have x20:=Qa c2 0;have x21:=Qa c2 1;have x22:=Qa c2 2;have y20:=Qd c2 0;have y21:=Qd c2 1;have y22:=Qd c2 2;have x30:=Qa c3 0;have x31:=Qa c3 1;have x32:=Qa c3 2;have y30:=Qd c3 0;have y31:=Qd c3 1;have y32:=Qd c3 2;simp only[PE] at x00 x01 x02 x10 x11 x12 x20 x21 x22 x30 x31 x32;have hz2:w1.heap.size<w2.heap.size:=Qj c3;have C9:=Qh c2;clear c0 c1 c2 c3 C;go_wp2_with fail
 refine bodyPost_ret (v:=knV fa q2 false) (res3 (b:=w.heap.size+1+1) (T:=YE) (fr:=(0,0)) Tryz.results261 (by rfl) ?_) rfl ?_
 ·exact Qk (Qk (Qk (Yd C9.out (by omega) _ _) 0 _) 1 _) 2 _
 have hkW:Kp (fun k=>k=w1.heap.size∨k=w.heap.size+1+1) w2 ((((w2.setCell ⟨w1.heap.size,1,none⟩ (.map (some q2))).setCell ⟨w.heap.size+1+1,0,none⟩ (.map (some fa))).setCell ⟨w.heap.size+1+1,1,none⟩ (.map (some q2))).setCell ⟨w.heap.size+1+1,2,none⟩ (.bool false)):=
  ((((Qg _ _).mono (fun _ _ e=> .inl e)).trans ((Qg _ _).mono (fun _ _ e=> .inr e))).trans ((Qg _ _).mono (fun _ _ e=> .inr e))).trans ((Qg _ _).mono (fun _ _ e=> .inr e))
 obtain⟨r1,r2,r3⟩:=cat_fin G.out.2.2.2.2.1 G.out.2.2.2.2.2 hk12 hkW hvs.out hz1;have hlt:=HLT.out;rw[hE.out,hF.out,hL.out];exact⟨fa,q2,rfl,r1,r3 _ _ (G.out.1.kn hk12) (by omega),r3 _ _ hs2 (by omega),by omega,by omega,r2⟩
theorem cat_ff(pm fa la fb lb:Nat)(ka kb:KN)(hea:ka.empty=false)(heb:kb.empty=false)(v vr:Value)(ps:List NP)(fs:List Nat)(w:World)(hM:MachAt w pm v vr ps fs)(hn:ps.length≤2000)(hN:NGood ps)(hka:KGood ka ps.length)(hkb:KGood kb ps.length)
  (h1:SetN w fa ka.first) (h2:SetN w la ka.last) (h3:SetN w fb kb.first) (h4:SetN w lb kb.last) (hd:fa∉fs∧la∉fs∧fb∉fs∧lb∉fs):CatPost pm fa la fb lb ka kb v vr ps fs w:=by
 unfold CatPost;rw[hea,heb];have hE:Hid ((Yw ka kb).empty=false):=Qh (by simp[Yw,hea,heb]);have hF:Hid ((Yw ka kb).first=ka.first):=Qh (by simp[Yw,hea]);have hL:Hid ((Yw ka kb).last=kb.last):=Qh (by simp[Yw,heb]);clear hea heb;obtain⟨d1,d2,d3,d4⟩:=hd;have hk0:Kn w (((w.alloc (knB fa la false)).alloc (knB fb lb false)).alloc QE):=(((Qb _ w).alloc _).alloc _).alloc _;have hb0:=Qm (Qm (Qf w (knB fa la false)) (knB fb lb false)) QE;have hb1:=Qm (blk_at (w.alloc (knB fa la false)) (knB fb lb false) (n:=w.heap.size+1) (by simp)) QE;have hb2:=blk_at ((w.alloc (knB fa la false)).alloc (knB fb lb false)) QE (n:=w.heap.size+1+1) (by simp);have hlink:=link_c pm la fb v vr ps fs ka.last kb.first (((w.alloc (knB fa la false)).alloc (knB fb lb false)).alloc QE) (hM.kn hk0) hn hN hka.l hkb.f (h2.kn hk0) (h3.kn hk0) d2 d3;have hfs:Hid (∀k∈fs,k<w.heap.size):=Qh (fun k hk=>hM.fs_lt hk);have hvs:Hid (∀k,MS pm v fs k→k<w.heap.size):=Qh (fun k hk=>(hM.ms_lt hk).2);have hlts:fa<w.heap.size∧la<w.heap.size∧fb<w.heap.size∧lb<w.heap.size:=⟨h1.lt,h2.lt,h3.lt,h4.lt⟩;have HLT:=Qh hlts;clear hlts;have HL:=Qh hlink;have HP:=Qh (And.intro (Qu hka.f hn) (And.intro (Qu hka.l hn) (And.intro (Qu hkb.f hn) (And.intro (Qu hkb.l hn) (And.intro (h1.kn hk0) (And.intro (h2.kn hk0) (And.intro (h3.kn hk0) (h4.kn hk0))))))));clear hM hlink hka hkb h1 h2 h3 h4;go_enter Tryz.func261,Tryz.ntmps261;go_wp2_with fail
 refine HL.out.mono ?_;rintro e w1 ⟨rfl,hM1,hk1⟩;obtain⟨s1,s2,s3,s4,h1,h2,h3,h4⟩:=HP.out;have g1:=h1.kp hk1 d1;have g2:=h2.kp hk1 d2;have g3:=h3.kp hk1 d3;have g4:=h4.kp hk1 d4;have hz1:w.heap.size+3≤w1.heap.size:=by have:=hk1.size;simpa using this
 have c0:=hk1.blk hb0 (fun x=>by have:=hfs.out _ x;omega);have c1:=hk1.blk hb1 (fun x=>by have:=hfs.out _ x;omega);have c2:=hk1.blk hb2 (fun x=>by have:=hfs.out _ x;omega);have hkw:Kp (fun k=>k∈fs) w w1:=hk0.weak.trans hk1;have G:=Qh (And.intro g1 (And.intro g2 (And.intro g3 (And.intro g4 (And.intro hM1 hkw)))));have S:=Qh (And.intro s1 (And.intro s2 (And.intro s3 s4)));clear g1 g2 g3 g4 h1 h2 h3 h4 s1 s2 s3 s4 d1 d2 d3 d4 hM1 hkw hk1 hk0 HL HP hb0 hb1 hb2;have x00:=Qa c0 0;have x01:=Qa c0 1;have x02:=Qa c0 2;have x10:=Qa c1 0;have x11:=Qa c1 1;have x12:=Qa c1 2;have x20:=Qa c2 0;have x21:=Qa c2 1;have x22:=Qa c2 2;have y20:=Qd c2 0;have y21:=Qd c2 1;have y22:=Qd c2 2;simp only[PE] at x00 x01 x02 x10 x11 x12 x20 x21 x22;have C:=Qh (And.intro c0 (And.intro c1 c2));clear c0 c1 c2;have n0:w.heap.size<w1.heap.size:=by omega
 have n1:w.heap.size+1<w1.heap.size:=by omega
 have n2:w.heap.size+1+1<w1.heap.size:=by omega
 have hko:=(Qb (fun _=>False) w1).alloc (knB fa lb false);go_wp2_with fail
 refine bodyPost_ret (v:=knV fa lb false) (res3 (b:=w.heap.size+1+1) (T:=YE) (fr:=(0,0)) Tryz.results261 (by rfl) ?_) rfl ?_
 ·exact Qm (Qk (Qk (Qk (C.out.2.2) 0 _) 1 _) 2 _) _
 have hkW:Kp (fun k=>k=w1.heap.size∨k=w.heap.size+1+1) w1 (World.alloc (((w1.setCell ⟨w.heap.size+1+1,0,none⟩ (.map (some fa))).setCell ⟨w.heap.size+1+1,1,none⟩ (.map (some lb))).setCell ⟨w.heap.size+1+1,2,none⟩ (.bool false)) (knB fa lb false)):=
  ((((Qb _ _).trans ((Qg _ _).mono (fun _ _ e=> .inr e))).trans ((Qg _ _).mono (fun _ _ e=> .inr e))).trans ((Qg _ _).mono (fun _ _ e=> .inr e))).alloc _
 obtain⟨r1,r2,r3⟩:=cat_fin G.out.2.2.2.2.1 G.out.2.2.2.2.2 (Qb _ w1) hkW hvs.out hz1;have hlt:=HLT.out;rw[hE.out,hF.out,hL.out];exact⟨fa,lb,rfl,r1,r3 _ _ G.out.1 (by omega),r3 _ _ G.out.2.2.2.1 (by omega),by omega,by omega,r2⟩
theorem cat_c(pm fa la fb lb:Nat)(ka kb:KN)(v vr:Value)(ps:List NP)(fs:List Nat)(w:World)(hM:MachAt w pm v vr ps fs)(hn:ps.length≤2000)(hN:NGood ps)(hka:KGood ka ps.length)(hkb:KGood kb ps.length)
  (h1:SetN w fa ka.first) (h2:SetN w la ka.last) (h3:SetN w fb kb.first) (h4:SetN w lb kb.last) (hd:fa∉fs∧la∉fs∧fb∉fs∧lb∉fs):CatPost pm fa la fb lb ka kb v vr ps fs w:=by
 cases hea:ka.empty<;>cases heb:kb.empty
 ·exact cat_ff pm fa la fb lb ka kb hea heb v vr ps fs w hM hn hN hka hkb h1 h2 h3 h4 hd
 ·exact cat_ft pm fa la fb lb ka kb hea heb v vr ps fs w hM hn hN hka hkb h1 h2 h3 h4 hd
 ·exact cat_tf pm fa la fb lb ka kb hea heb v vr ps fs w hM hn hN hka hkb h1 h2 h3 h4 hd
 ·exact cat_tt pm fa la fb lb ka kb hea heb v vr ps fs w hM hn hN hka hkb h1 h2 h3 h4 hd
end Go.Proofs.YtiehgcfckhepaaaGreatDoor
namespace Go.Proofs.YtiehgcfckhepaaaGreatDoor
open Go.RowKit
theorem info_ptrN:(Tryz.prog.info? 295).map (fun i=>(i.zero,i.size,i.bytes))=some (some (.pointer none),1,8):=by kernel_rfl
def PartsAt(w:World)(t:Rw)(v:Value)(qs:List Nat):Prop:=∃a c,v= .slice a qs.length c∧PtrsAt w a qs∧RowAt w t.parts qs
def PartsPost(t:Rw)(w:World)(e:Ending)(w':World):Prop:=∃v qs,e= .returned v∧PartsAt w' t v qs∧Kn w w'∧∀k,v.ownBlock=some k→w.heap.size≤k
theorem Parts_0(t:Rw)(n:Nat)(w:World)(k:Int)(s:W4)(hp:t.parts=[])(hb:w.heap[n]? =some (Yf k s sl0)):
  Calls Tryz.prog 259 #[ptr n] w (PartsPost t w):=by
 have c5:=Qa hb 5;simp only[PE] at c5;obtain⟨i0,hi,hz0,hz1,hz2⟩:=info_parts info_ptrN;have hap:∀(w:World) ty,(Builtin.append_ #[294,294] ty #[.slice none 0 0,.slice none 0 0]).run Tryz.prog w= .ok (.slice none 0 0) w:=
  fun w ty=>run_append_owned_none (w:=w) 0 294 ty 295 i0 1 Tryz.underlying294 hi (.slice none 0 0) 0 [] (World.ownsRow_nil _ _ _ _)
 have HP:=Qh hp;clear hb hp hi hz0 hz1 hz2;go_enter Tryz.func259,Tryz.ntmps259;go_wp2_with fail
 go_ret;exact⟨_,[],rfl,⟨none,0,rfl,fun i hi=>by simp at hi,by rw[HP.out];exact .nil⟩,Qb _ _,fun k hk=>by simp[Value.ownBlock] at hk⟩
theorem Parts_n(t:Rw)(n r:Nat)(w:World)(k:Int)(s:W4)(qs:List Nat)(hl:qs.length≤2)(hl0:0<qs.length)(hb:w.heap[n]? =some (Yf k s (.slice (some ⟨r,0,none⟩) qs.length qs.length)))
  (hr:∀j u,(qs.map ptr)[j]? =some u→w.cell? ((⟨r,0,none⟩:Addr).add j)=some u) (hrow:RowAt w t.parts qs):
  Calls Tryz.prog 259 #[ptr n] w (PartsPost t w):=by
 have c5:=Qa hb 5;simp only[PE] at c5;obtain⟨i0,hi,hz0,hz1,hz2⟩:=info_parts info_ptrN;have HI:=Qh (And.intro hi (And.intro hz0 (And.intro hz1 hz2)));have HR:=Qh hr;have H1:Hid (∀u∈qs.map ptr,u.oneCell'=true):=Qh (by simp[Value.oneCell']);have HW:=Qh hrow;clear hb hi hz0 hz1 hz2 hr hrow;go_enter Tryz.func259,Tryz.ntmps259;go_wp2_with (at_builtin;refine wpList_append_own_at _ rfl _ _ 294 rfl 0 295 i0 (.pointer none) 1 8 Tryz.underlying294 HI.out.1 HI.out.2.1 HI.out.2.2.1 HI.out.2.2.2 rfl (by decide) (.slice none 0 0) 0 [] rfl (World.ownsRow_nil _ _ _ _) ⟨r,0,none⟩ qs.length qs.length (qs.map ptr) rfl (by simp) HR.out H1.out (by simp only[maxLen];omega) (by omega) (Nat.zero_le _) ?_;intro v' w1 hown hg _ hat)
 have HX:Hid (PartsAt w1 t v' qs∧Kn w w1∧∀k,v'.ownBlock=some k→w.heap.size≤k):=Qh (by
  have hk:Kn w w1:=⟨hg.os,hg.tape,hg.output,hg.size,fun k hk _=>hg.block k hk (by simp[Value.ownBlock])⟩;have hown':w1.ownsRow 0 295 1 v' qs.length (qs.map ptr):=by simpa using hown
  obtain⟨a,c,h1,h2⟩:=PtrsAt.of_own hown';exact⟨⟨a,c,h1,h2,HW.out.kn hk⟩,hk,fun k e=>by
   rcases hat with h|h
   ·rw[h] at e;simp[Value.ownBlock] at e
   ·rw[h] at e;injection e with e;omega⟩)
 clear hown hg hat;go_wp2_with fail
 go_ret;exact⟨_,qs,rfl,HX.out.1,HX.out.2.1,HX.out.2.2⟩
theorem Parts_c(t:Rw)(n:Nat)(w:World)(h:NodeAt w t n):Calls Tryz.prog 259 #[ptr n] w (PartsPost t w):=by
 have hadd:∀r j:Nat,(⟨r,0,none⟩:Addr).add j=⟨r,j,none⟩:=fun r j=>by unfold Addr.add;split<;>simp_all
 have two:∀(r i j:Nat),w.heap[r]? =some (Yu i j)→∀q u,([i,j].map ptr)[q]? =some u→w.cell? ((⟨r,0,none⟩:Addr).add q)=some u:=fun r i j h q u hq=>by
  rw[hadd,Qa h];simpa using hq
 cases t with
 |set s=>exact Parts_0 _ n w 0 s rfl h.2
 |empty=>exact Parts_0 _ n w 1 W4.zero rfl h
 |star x=>
  obtain⟨r,i,h1,h2,h3⟩:=h;exact Parts_n _ n r w 4 W4.zero [i] (by simp) (by simp) h1 (fun q u hq=>by rw[hadd,Qa h2];simpa using hq) (.cons h3 .nil)
 |cat x y=>
  obtain⟨r,i,j,h1,h2,h3,h4⟩:=h;exact Parts_n _ n r w 2 W4.zero [i,j] (by simp) (by simp) h1 (two r i j h2) (.cons h3 (.cons h4 .nil))
 |or x y=>
  obtain⟨r,i,j,h1,h2,h3,h4⟩:=h;exact Parts_n _ n r w 3 W4.zero [i,j] (by simp) (by simp) h1 (two r i j h2) (.cons h3 (.cons h4 .nil))
abbrev w4V(s:W4):Value:= .agg #[.int .u64 s.a,.int .u64 s.b,.int .u64 s.c,.int .u64 s.d]
theorem Bytes_c(t:Rw)(n:Nat)(w:World)(h:NodeAt w t n):Calls Tryz.prog 260 #[ptr n] w fun e w'=>e= .returned (w4V t.words)∧Kn w w':=by
 obtain⟨sa,qs,hb,_⟩:=h.look;have hlt:=Qj hb;have c1:=Qa hb 1;have c2:=Qa hb 2;have c3:=Qa hb 3;have c4:=Qa hb 4;simp only[PE] at c1 c2 c3 c4;clear hb h;go_enter Tryz.func260,Tryz.ntmps260;go_wp2_with fail
 refine bodyPost_ret (v:=w4V t.words) (by simp[results,Tryz.results260,go_sem]) rfl ⟨rfl,?_⟩;exact(Qb _ w).alloc _
open Go.RowKit Go.Maps
theorem MachAt.other{w:World}{pm:Nat}{v vr:Value}{ps:List NP}{fs:List Nat}(h:MachAt w pm v vr ps fs){g:Nat}{C:Array Value}{T:TypeId}{fr:Nat×Nat}(hg:w.heap[g]? =some (.cells C T fr))(h1:T≠TM)(h2:T≠TPos):¬MS pm v fs g:=by
 rintro(rfl|hS|hS)
 ·rw[h.blk] at hg;injection hg with hg;injection hg with _ hg _;exact h1 hg.symm
 ·rcases h.row.2 with⟨h3,_⟩|⟨g',cap,cur,h3,_,h4,_⟩
  ·rw[h3] at hS;cases hS
  ·have e:g'=g:=by rw[h3] at hS;simpa[Value.ownBlock] using hS
   subst e;rw[h4] at hg;injection hg with hg;injection hg with _ hg _;exact h2 hg.symm
 ·obtain⟨i,hi,rfl⟩:=List.getElem_of_mem hS;obtain⟨D,⟨es,clock,hb,_⟩,_⟩:=h.sets i (by rw[h.len];exact hi) hi;rw[hb] at hg;injection hg with hg;cases hg
structure Ow (w W:World) (pm:Nat) (v vr:Value) (fs:List Nat) (v1:Value) (ps1:List NP) (fs2:List Nat):Prop where
 mach:MachAt W pm v1 vr ps1 (fs++fs2)
 kp:Kp (MS pm v fs) w W
 new:∀g∈fs2,w.heap.size≤g
 own:v1.ownBlock=v.ownBlock∨∃g,v1.ownBlock=some g∧w.heap.size≤g
section
variable {w W W':World} {pm:Nat} {v vr v1 v2:Value} {ps ps1 ps2:List NP} {fs fs2 fs3:List Nat}
theorem Ow.refl(h:MachAt w pm v vr ps fs):Ow w w pm v vr fs v ps []:=⟨by simpa using h,Qb _ _,by simp,.inl rfl⟩
theorem Ow.trans(h:Ow w W pm v vr fs v1 ps1 fs2)(k:Ow W W' pm v1 vr (fs++fs2) v2 ps2 fs3):Ow w W' pm v vr fs v2 ps2 (fs2++fs3):=by
 refine⟨by rw[←List.append_assoc];exact k.mach,h.kp.trans' k.kp (fun i hi hS=> ?_),fun g hg=> ?_,?_⟩
 ·rcases hS with rfl|hS|hS
  ·exact .inl rfl
  ·rcases h.own with e|⟨g,e,hg⟩
   ·rw[e] at hS;exact .inr (.inl hS)
   ·rw[e] at hS;injection hS with hS;omega
  ·rcases List.mem_append.1 hS with hS|hS
   ·exact .inr (.inr hS)
   ·have:=h.new i hS;omega
 ·rcases List.mem_append.1 hg with hg|hg
  ·exact h.new g hg
  ·exact Nat.le_trans h.kp.size (k.new g hg)
 ·rcases k.own with e|⟨g,e,hg⟩
  ·rw[e];exact h.own
  ·exact .inr ⟨g,e,Nat.le_trans h.kp.size hg⟩
theorem Ow.kn(h:Ow w W pm v vr fs v1 ps1 fs2)(hk:Kn W W'):Ow w W' pm v vr fs v1 ps1 fs2:=⟨h.mach.kn hk,h.kp.trans hk.weak,h.new,h.own⟩
theorem Ow.k1(h:Ow w W pm v vr fs v1 ps1 fs2){g:Nat}(hk:K1 g W W')(hg:w.heap.size≤g)(hS:¬MS pm v1 (fs++fs2) g):Ow w W' pm v vr fs v1 ps1 fs2:=
 ⟨h.mach.kp hk (fun k hk e=>hS (by rw[←e];exact hk)),h.kp.trans' hk (fun i hi e=>by omega),h.new,h.own⟩
theorem Ow.linked(h:Ow w W pm v vr fs v1 ps1 fs2)(hM:MachAt W' pm v1 vr ps2 (fs++fs2))(hk:Kp (fun k=>k∈fs++fs2) W W'):Ow w W' pm v vr fs v1 ps2 fs2:=
 ⟨hM,h.kp.trans' hk (fun i hi e=>by
  rcases List.mem_append.1 e with e|e
  ·exact .inr (.inr e)
  ·have:=h.new i e;omega),h.new,h.own⟩
theorem Ow.nodes(h:Ow w W pm v vr fs v1 ps1 fs2)(h0:MachAt w pm v vr ps fs){t:Rw}{n:Nat}(hn:NodeAt w t n):NodeAt W t n:=hn.mono61 (h0.nodes h.kp)
theorem Ow.blk(h:Ow w W pm v vr fs v1 ps1 fs2)(h0:MachAt w pm v vr ps fs){g:Nat}{C:Array Value}{T:TypeId}{fr:Nat×Nat}(hg:w.heap[g]? =some (.cells C T fr))(h1:T≠TM)(h2:T≠TPos):W.heap[g]? =some (.cells C T fr):=
 h.kp.blk hg (h0.other hg h1 h2)
theorem Ow.ms{w W:World}{pm:Nat}{v vr v1:Value}{ps1:List NP}{fs fs2:List Nat}(h:Ow w W pm v vr fs v1 ps1 fs2){g:Nat}(hg:g<w.heap.size)(hS:¬MS pm v fs g):¬MS pm v1 (fs++fs2) g:=by
 rintro(rfl|e|e)
 ·exact hS (.inl rfl)
 ·rcases h.own with e2|⟨k,e2,hk⟩
  ·exact hS (.inr (.inl (by rw[←e2];exact e)))
  ·rw[e2] at e;injection e with e;omega
 ·rcases List.mem_append.1 e with e|e
  ·exact hS (.inr (.inr e))
  ·have:=h.new g e;omega
theorem Ow.pre{w0 w W:World}{pm:Nat}{v vr v1:Value}{ps1:List NP}{fs fs2:List Nat}(hk:Kn w0 w)(h:Ow w W pm v vr fs v1 ps1 fs2):Ow w0 W pm v vr fs v1 ps1 fs2:=
 ⟨h.mach,hk.weak.trans h.kp,fun g hg=>Nat.le_trans hk.size (h.new g hg),by
  rcases h.own with e|⟨g,e,hg⟩
  ·exact .inl e
  ·exact .inr ⟨g,e,Nat.le_trans hk.size hg⟩⟩
structure Fr (w W:World) (v1:Value) (fs2:List Nat) (q:Nat) (l:List Nat):Prop where
 set:SetN W q l
 ge:w.heap.size≤q
 off:q∉fs2
 row:some q≠v1.ownBlock
theorem Fr.pre{w0:World}{q:Nat}{l:List Nat}(hk:Kn w0 w)(h:Fr w W v1 fs2 q l):Fr w0 W v1 fs2 q l:=⟨h.set,Nat.le_trans hk.size h.ge,h.off,h.row⟩
theorem Fr.kn{q:Nat}{l:List Nat}(h:Fr w W v1 fs2 q l)(hk:Kn W W'):Fr w W' v1 fs2 q l:=⟨h.set.kn hk,h.ge,h.off,h.row⟩
theorem Fr.k1{q g:Nat}{l:List Nat}(h:Fr w W v1 fs2 q l)(hk:K1 g W W'){C:Array Value}{T:TypeId}{fr:Nat×Nat}(hg:W.heap[g]? =some (.cells C T fr)):Fr w W' v1 fs2 q l:=by
 obtain⟨D,⟨es,clock,hb,r⟩,hh⟩:=h.set;have hne:¬q=g:=by rintro rfl;rw[hb] at hg;injection hg with hg;cases hg
 exact⟨h.set.kp hk hne,h.ge,h.off,h.row⟩
theorem Fr.apart{q:Nat}{l:List Nat}(h:Fr w W v1 fs2 q l)(h0:MachAt w pm v vr ps fs):q∉fs++fs2:=fun e=>by
 rcases List.mem_append.1 e with e|e
 ·have:=h0.fs_lt e;have:=h.ge;omega
 ·exact h.off e
theorem Fr.ow{q:Nat}{l:List Nat}(h:Fr w W v1 fs2 q l)(h0:MachAt w pm v vr ps fs)(ho:Ow w W pm v vr fs v1 ps1 fs2)(k:Ow W W' pm v1 vr (fs++fs2) v2 ps2 fs3):Fr w W' v2 (fs2++fs3) q l:=by
 have hlt:=h.set.lt;refine⟨h.set.kp k.kp ?_,h.ge,fun e=> ?_,?_⟩
 ·rintro(rfl|hS|hS)
  ·have:=h0.lt;have:=h.ge;omega
  ·exact h.row hS.symm
  ·exact h.apart h0 hS
 ·rcases List.mem_append.1 e with e|e
  ·exact h.off e
  ·have:=k.new q e;omega
 ·rcases k.own with e|⟨g,e,hg⟩
  ·rw[e];exact h.row
  ·rw[e];intro e2;injection e2 with e2;omega
theorem Fr.linked{q:Nat}{l:List Nat}(h:Fr w W v1 fs2 q l)(h0:MachAt w pm v vr ps fs)(hk:Kp (fun k=>k∈fs++fs2) W W'):Fr w W' v1 fs2 q l:=⟨h.set.kp hk (h.apart h0),h.ge,h.off,h.row⟩
theorem Fr.made(ho:Ow w W pm v vr fs v1 ps1 fs2){q:Nat}{l:List Nat}(hs:SetN W' q l)(hq:W.heap.size≤q)(h0:MachAt W pm v1 vr ps1 (fs++fs2)):Fr w W' v1 fs2 q l:=
 ⟨hs,Nat.le_trans ho.kp.size hq,fun e=>by have:=h0.fs_lt (List.mem_append.2 (.inr e));omega,fun e=>by have:=(h0.own_lt e.symm).2;omega⟩
end
theorem Fr.after{w W W':World}{pm:Nat}{v vr v1 v2:Value}{ps1 ps2:List NP}{fs fs2 fs3:List Nat}{q:Nat}{l:List Nat}(h:Ow w W pm v vr fs v1 ps1 fs2)(k:Ow W W' pm v1 vr (fs++fs2) v2 ps2 fs3)(hq:Fr W W' v2 fs3 q l):Fr w W' v2 (fs2++fs3) q l:=
 ⟨hq.set,Nat.le_trans h.kp.size hq.ge,fun e=>by
  rcases List.mem_append.1 e with e|e
  ·have h1:=h.mach.fs_lt (List.mem_append.2 (.inr e));have h2:=hq.ge;omega
  ·exact hq.off e,hq.row⟩
structure OrIn (w W:World) (pm:Nat) (v vr:Value) (fs:List Nat) (ps2:List NP) (ka kb:KN) (g9 g10 f1 l1 f2 l2:Nat) (v2:Value) (fs4:List Nat):Prop where
 ow:Ow w W pm v vr fs v2 ps2 fs4
 a1:Fr w W v2 fs4 f1 ka.first
 a2:Fr w W v2 fs4 l1 ka.last
 b1:Fr w W v2 fs4 f2 kb.first
 b2:Fr w W v2 fs4 l2 kb.last
 h9:W.heap[g9]? =some (knB f1 l1 ka.empty)
 h10:W.heap[g10]? =some (knB f2 l2 kb.empty)
 ge9:w.heap.size≤g9
 ge10:w.heap.size≤g10
theorem K1.tower{b:Nat}(W:World)(f l:Nat)(e:Bool):K1 b W (((W.setCell ⟨b,0,none⟩ (.map (some f))).setCell ⟨b,1,none⟩ (.map (some l))).setCell ⟨b,2,none⟩ (.bool e)):=((Qg _ _).trans (Qg _ _)).trans (Qg _ _)
theorem blk_tower{W:World}{b:Nat}{x y z:Value}(h:W.heap[b]? =some (.cells #[x,y,z] YE))(f l:Nat)(e:Bool):(((W.setCell ⟨b,0,none⟩ (.map (some f))).setCell ⟨b,1,none⟩ (.map (some l))).setCell ⟨b,2,none⟩ (.bool e)).heap[b]? =some (knB f l e):=Qk (Qk (Qk h 0 _) 1 _) 2 _
def AddPost(r:Nat)(t:Rw)(pm:Nat)(v vr:Value)(ps:List NP)(fs:List Nat)(w:World)(e:Ending)(w':World):Prop:=
 ∃(f l:Nat) (v1:Value) (fs2:List Nat),e= .returned (knV f l (Qo r t ps).2.empty)∧Ow w w' pm v vr fs v1 (Qo r t ps).1 fs2∧Fr w w' v1 fs2 f (Qo r t ps).2.first∧Fr w w' v1 fs2 l (Qo r t ps).2.last
def AddC(t:Rw):Prop:=∀(r:Nat) (ps:List NP) (fs:List Nat) (v vr:Value) (pm n:Nat) (w:World),MachAt w pm v vr ps fs→NodeAt w t n→NGood ps→ps.length+Qr t≤2000→r<1000000→
 Calls Tryz.prog 216 #[ptr pm,.int .i64 r,ptr n] w (AddPost r t pm v vr ps fs w)
theorem wf_small(x:Nat)(hx:x<1000000):(Lit.int .i64 (x:Int)).wf=true:=by
 have h1:IntKind.i64.min≤0:=by decide
 have h2:(1000000:Int)≤IntKind.i64.max:=by decide
 simp only[Lit.wf,Bool.and_eq_true,decide_eq_true_eq];omega
theorem SetN.put{w:World}{b:Nat}{l:List Nat}(h:SetN w b l)(hl:∀x∈l,x<1000000)(x:Nat)(hx:x<1000000):
  ∃w',(Instr.mapUpdate TSet (.map (some b)) (.int .i64 x) (.bool true)).run Tryz.prog w= .ok () w'∧SetN w' b (ins x l)∧K1 b w w':=by
 obtain⟨D,ho,hsz,hh⟩:=h.size_le hl;have hw:=wf_small x hx;have hm:size D<maxLen:=by simp only[maxLen];omega
 obtain⟨w',h1,h2,h3⟩:=ho.update int_key (e:=4) Tryz.underlying348 hm (key:= .int .i64 x) (val:= .bool true) (kl:= .int .i64 x) (d:= .lit (.bool true)) (ps:=[]) (keyOf_int_mk Tryz.underlying3 hw) rfl;refine⟨w',h1,⟨_,own_exact h2,fun y=> ?_⟩,QT h3 (fun k e _=>by cases e;rfl)⟩;by_cases hy:y=x
 ·subst hy;rw[has_put_same ho.isMap (int_key.key (keyOf_int_mk Tryz.underlying3 hw))];simp[mem_ins]
 ·have e:Lit.int .i64 y≠.int .i64 x:=by intro e;injection e with _ e;exact hy e
  rw[has_put_other e,hh y];have e2:(ins x l).contains y.toNat=(decide (y.toNat=x)||l.contains y.toNat):=by rw[Bool.eq_iff_iff];simp[mem_ins]
  rw[e2];by_cases h0:0≤y
  ·have:¬y.toNat=x:=by omega
   simp[h0,this]
  ·simp[h0]
theorem MachAt.snoc{W w1:World}{pm:Nat}{v v1 vr:Value}{ps:List NP}{fs:List Nat}(h:MachAt W pm v vr ps fs){x:NP}(hx:x.bytes.ok)(hxf:x.follow=[]){f0:Nat}(hs:SetN W f0 [])(hf:f0∉fs)(hp:pm<f0)(hv:some f0≠v.ownBlock)
  (hown:OwnK w1 (pm+1) TPos 6 v1 (posC ps fs++[posL x f0])) (hk:Kp (fun k=>some k=v.ownBlock) W w1) (hat:v1.ownBlock=v.ownBlock∨v1.ownBlock=some W.heap.size):
  MachAt (w1.setCell ⟨pm,0,none⟩ v1) pm v1 vr (ps++[x]) (fs++[f0])∧Kp (MS pm v fs) W (w1.setCell ⟨pm,0,none⟩ v1):=by
 have hpl:=h.lt;have hpo:∀g,v1.ownBlock=some g→pm<g:=fun g hg=>(hown.lt g hg).1
 have hk1:K1 pm w1 (w1.setCell ⟨pm,0,none⟩ v1):=Qg _ _;have hS:∀f l,SetN W f l→pm<f→some f≠v.ownBlock→SetN (w1.setCell ⟨pm,0,none⟩ v1) f l:=fun f l hsf h1 h2=>(hsf.kp hk h2).kp hk1 (by omega)
 refine⟨⟨?_,by simp[h.len],?_,fun i h1 h2=> ?_,fun p hp=> ?_,?_,fun f hf'=> ?_⟩,?_⟩
 ·have hb:=hk.blk h.blk (fun e=>by have:=h.own_lt e.symm;omega);exact Qk hb 0 v1
 ·rw[posC_snoc h.len];exact hown.kp hk1 (fun g hg e=>by have:=hpo g hg;omega)
 ·have e1:=h.len;by_cases h3:i<ps.length
  ·have h4:i<fs.length:=by omega
   rw[List.getElem_append_left h3,List.getElem_append_left h4];have hm:=List.getElem_mem h4;exact hS _ _ (h.sets i h3 h4) (h.ap _ hm).1 (h.ap _ hm).2
  ·simp only[List.length_append,List.length_singleton] at h1;obtain rfl:i=ps.length:=by omega
   rw[List.getElem_append_right (Nat.le_refl _),List.getElem_append_right (by omega)];simp only[List.getElem_singleton,hxf];exact hS _ _ hs hp hv
 ·rcases List.mem_append.1 hp with hp|hp
  ·exact h.ok p hp
  ·simp at hp;subst hp;exact hx
 ·rw[List.nodup_append];exact⟨h.nd,by simp,fun a ha b hb e=>by simp at hb;subst hb;subst e;exact hf ha⟩
 ·have hlt:f<W.heap.size∧pm<f∧some f≠v.ownBlock:=by
   rcases List.mem_append.1 hf' with h1|h1
   ·exact⟨h.fs_lt h1,(h.ap f h1).1,(h.ap f h1).2⟩
   ·simp at h1;subst h1;exact⟨hs.lt,hp,hv⟩
  refine⟨hlt.2.1,?_⟩;rcases hat with e|e
  ·rw[e];exact hlt.2.2
  ·rw[e];intro e2;injection e2 with e2;omega
 ·exact(hk.mono (fun k _ e=> .inr (.inl e.symm))).trans (hk1.mono (fun k _ e=> .inl e))
end Go.Proofs.YtiehgcfckhepaaaGreatDoor
