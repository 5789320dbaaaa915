/-
  Texts of this claim, laid together: DSort, DBehind, KMap, DMem, DPlace, DNext, DFill, DGroup, DGrp, DNew, DAsk. Conditions: none.
-/
import Derived.Test.YtiehgcfckhepaaaGreatDoorQAD
import Derived.Laws.OwnMore
import Derived.Test.YtiehgcfckhepaaaGreatDoorQAA
import Derived.Maps.OwnSet
import Derived.DeepKeys4
import Derived.Great.BuildSlice
import Derived.Deep.WholeRow
import Derived.Deep.MidRow
set_option linter.unusedVariables false
set_option linter.unusedSimpArgs false
set_option maxRecDepth 100000
set_option maxHeartbeats 16000000
namespace Go.Proofs.YtiehgcfckhepaaaGreatDoor
open Go.RowKit Go.Maps Go.Sort Go.Lib
theorem compact_sorted(d:Array Int)(hs:∀i j,i≤j→j<d.size→d[i]! ≤d[j]!):∀m,m≤d.size→(compactUpTo d m).Pairwise (·< ·)∧∀x,x∈compactUpTo d m↔∃j,j<m∧d[j]! =x:=by
 intro m;induction m with
 |zero=>intro _;simp[compactUpTo]
 |succ m ih=>
  intro hm;obtain⟨h1,h2⟩:=ih (by omega);rw[compactUpTo_succ];cases hk:keeps d m with
  |true=>
   rw[if_pos rfl];have hne:m=0∨d[m-1]! ≠d[m]! :=by
    simp only[keeps,decide_eq_true_eq] at hk;rcases hk with h|h
    ·exact .inl h
    ·exact .inr (fun e=>h e.symm)
   refine⟨List.pairwise_append.2 ⟨h1,by simp,fun x hx y hy=> ?_⟩,fun x=> ?_⟩
   ·simp at hy;subst hy;obtain⟨j,hj,rfl⟩:=(h2 x).1 hx;rcases hne with h|h
    ·omega
    ·have e1:=hs j (m-1) (by omega) (by omega);have e2:=hs (m-1) m (by omega) (by omega);omega
   ·rw[List.mem_append,h2 x,List.mem_singleton];constructor
    ·rintro(⟨j,hj,e⟩|rfl)
     ·exact⟨j,by omega,e⟩
     ·exact⟨m,by omega,rfl⟩
    ·rintro⟨j,hj,e⟩;by_cases h:j=m
     ·subst h;exact .inr e.symm
     ·exact .inl ⟨j,by omega,e⟩
  |false=>
   rw[if_neg (by simp),List.append_nil];have he:m≠0∧d[m-1]! =d[m]! :=by
    simp only[keeps,decide_eq_false_iff_not] at hk;rw[not_or] at hk;exact⟨hk.1,by have:=hk.2;simp only[ne_eq,Decidable.not_not] at this;exact this.symm⟩
   refine⟨h1,fun x=> ?_⟩;rw[h2 x];constructor
   ·rintro⟨j,hj,e⟩;exact⟨j,by omega,e⟩
   ·rintro⟨j,hj,e⟩;by_cases h:j=m
    ·subst h;exact⟨j-1,by omega,by rw[he.2];exact e⟩
    ·exact⟨j,by omega,e⟩
theorem sort_compact{l r:List Nat}(hr:Ris r)(hm:∀x,x∈r↔x∈l):compact ((l.map (fun x:Nat=>(x:Int))).mergeSort (fun x y=>decide (x≤y)))=r.map (fun x:Nat=>(x:Int)):=by
 have hp:(((l.map (fun x:Nat=>(x:Int))).mergeSort (fun x y=>decide (x≤y)))).Pairwise (fun a b=>decide (a≤b)=true):=
  List.pairwise_mergeSort (fun a b c h1 h2=>by simp only[decide_eq_true_eq] at*;omega) (fun a b=>by simp only[Bool.or_eq_true,decide_eq_true_eq];omega) _
 generalize hz:(l.map (fun x:Nat=>(x:Int))).mergeSort (fun x y=>decide (x≤y))=zs at hp;have hmem:∀x:Int,x∈zs↔∃y∈l,(y:Int)=x:=fun x=>by rw[←hz,List.mem_mergeSort];simp
 have hs:∀i j,i≤j→j<zs.toArray.size→zs.toArray[i]! ≤zs.toArray[j]! :=by
  intro i j hij hj;simp only[List.size_toArray] at hj;simp only[List.getElem!_toArray];rw[getElem!_pos zs i (by omega),getElem!_pos zs j hj];rcases Nat.lt_or_ge i j with h|h
  ·have:=List.pairwise_iff_getElem.1 hp i j (by omega) hj h;simpa using this
  ·obtain rfl:i=j:=by omega
   exact Int.le_refl _
 obtain⟨h1,h2⟩:=compact_sorted zs.toArray hs zs.length (by simp);have hr':(r.map (fun x:Nat=>(x:Int))).Pairwise (·< ·):=by
  rw[List.pairwise_map];exact hr.imp (fun {a b} h=>by omega)
 refine List.Perm.eq_of_pairwise (le:=fun a b=>a<b) (fun a b _ _ q1 q2=>by omega) h1 hr' ?_;refine(List.perm_ext_iff_of_nodup (h1.imp (fun {a b} h=>by omega)) (hr'.imp (fun {a b} h=>by omega))).2 (fun x=> ?_);show x∈compactUpTo zs.toArray zs.length↔_;rw[h2 x];have e:(∃j,j<zs.length∧zs.toArray[j]! =x)↔x∈zs:=by
  constructor
  ·rintro⟨j,hj,rfl⟩;simp only[List.getElem!_toArray];rw[getElem!_pos zs j hj];exact List.getElem_mem hj
  ·intro h;obtain⟨j,hj,rfl⟩:=List.getElem_of_mem h;exact⟨j,hj,by simp only[List.getElem!_toArray];rw[getElem!_pos zs j hj]⟩
 rw[e,hmem x];simp only[List.mem_map];constructor
 ·rintro⟨y,hy,rfl⟩;exact⟨y,(hm y).2 hy,rfl⟩
 ·rintro⟨y,hy,rfl⟩;exact⟨y,(hm y).1 hy,rfl⟩
abbrev OwnZ(w:World)(B:Nat)(v:Value)(zs:List Int):Prop:=w.ownsRow B 3 1 v zs.length (zs.map encZ)
theorem OwnI.z{w:World}{B:Nat}{v:Value}{l:List Nat}(h:OwnI w B v l):OwnZ w B v (l.map (fun x:Nat=>(x:Int))):=by
 unfold OwnZ;rw[List.map_map,List.length_map];exact h
theorem OwnI.of_z{w:World}{B:Nat}{v:Value}{l:List Nat}(h:OwnZ w B v (l.map (fun x:Nat=>(x:Int)))):OwnI w B v l:=by
 unfold OwnZ at h;rw[List.map_map,List.length_map] at h;exact h
theorem Sort_c(B:Nat)(v:Value)(zs:List Int)(w:World)(h:OwnZ w B v zs)(hl:zs.length≤100000000):
  Calls Tryz.prog 309 #[v] w fun e w'=>e= .returned (.tuple #[])∧OwnZ w' B v (zs.mergeSort (fun x y=>decide (x≤y)))∧Kp (fun k=>v.ownBlock=some k) w w':=by
 rcases h.2 with⟨rfl,hz⟩|⟨gb,cap,cur,rfl,hbase,hgb,r1,r2,r3,r4⟩
 ·have hss:zs=[]:=List.eq_nil_of_length_eq_zero hz;subst hss;exact(Tryz.slices_Sort_int_none none 0 w).mono fun e w' ⟨q1,q2⟩=>by subst q2;exact⟨q1,by simpa using h,Qb _ _⟩
 ·have hH:Holds encZ w gb 0 zs.toArray:=holds_of_block_i hgb (by simpa using r4);refine(Tryz.slices_Sort_int gb 0 cap zs w hH (Qj hgb) (by omega)).mono fun e w' ⟨q1,n,os,q2⟩=> ?_
  subst q2;have hlen:(zs.mergeSort (fun x y=>decide (x≤y))).length=zs.length:=by simp
  refine⟨q1,?_,QT (grownBy_sorted_i _) (fun k e _=>by simpa[Value.ownBlock] using e.symm)⟩;have:=ownsRow_sorted_i (n:=n) (os:=os) (ts:=zs.mergeSort (fun x y=>decide (x≤y))) hlen hbase hgb r1 r2 r3;unfold OwnZ;rw[hlen];exact this
theorem Compact_c(B:Nat)(v:Value)(zs:List Int)(w:World)(h:OwnZ w B v zs)(hl:zs.length≤100000000):
  Calls Tryz.prog 310 #[v] w fun e w'=>∃v',e= .returned v'∧OwnZ w' B v' (compact zs)∧Kp (fun k=>v.ownBlock=some k) w w':=by
 rcases h.2 with⟨rfl,hz⟩|⟨gb,cap,cur,rfl,hbase,hgb,r1,r2,r3,r4⟩
 ·have hss:zs=[]:=List.eq_nil_of_length_eq_zero hz;subst hss;exact(Tryz.slices_Compact_int_empty none 0 w).mono fun e w' ⟨q1,q2⟩=>by subst q2;exact⟨_,q1,h,Qb _ _⟩
 ·have hH:Holds encZ w gb 0 zs.toArray:=holds_of_block_i hgb (by simpa using r4);refine(Tryz.slices_Compact_int gb 0 cap zs w hH (by omega) r1).mono fun e w' ⟨q1,n,q2⟩=> ?_
  have hcl:(compact zs).length≤zs.length:=by
   unfold compact compactUpTo;rw[List.length_map];exact Nat.le_trans (List.length_filter_le _ _) (by simp)
  have hg:w'=grow w' #[]:=by simp[grow]
  rw[hg,q2];have hlen:(compact zs++List.replicate (zs.length-(compact zs).length) 0).length=zs.length:=by simp;omega
  have hrow:=ownsRow_sorted_i (n:=n) (os:= #[]) (ts:=compact zs++List.replicate (zs.length-(compact zs).length) 0) hlen hbase hgb r1 r2 r3;refine⟨_,q1,?_,QT (grownBy_sorted_i _) (fun k e _=>by simpa[Value.ownBlock] using e.symm)⟩;refine⟨by simp,?_⟩;rcases hrow.2 with⟨e,_⟩|⟨g',cap',cur',e1,e2,e3,e4,e5,e6,e7⟩
  ·cases e
  ·simp only[Value.slice.injEq,Option.some.injEq,Addr.mk.injEq,and_true,true_and] at e1;obtain⟨rfl,rfl⟩:=e1;refine .inr ⟨_,_,cur',rfl,e2,e3,by omega,e5,e6,?_⟩;simp only[Nat.mul_one] at e7⊢;have:(cur'.toList.take zs.length).take (compact zs).length=((compact zs++List.replicate (zs.length-(compact zs).length) 0).map encZ).take (compact zs).length:=by rw[e7]
   rw[List.take_take,Nat.min_eq_left hcl,List.map_append,List.take_left' (by simp)] at this;exact this
theorem info_int:(Tryz.prog.info? 3).map (fun i=>(i.zero,i.size,i.bytes))=some (some (.int .i64 0),1,8):=by kernel_rfl
theorem run_append_i(w:World)(ty:TypeId)(B Bx:Nat)(va vx:Value)(a x:List Nat)(ha:OwnI w B va a)(hx:OwnI w Bx vx x)(hl:a.length+x.length≤100000000)(hB:B≤w.heap.size):
  ∃v' w',(Builtin.append_ #[28,28] ty #[va,vx]).run Tryz.prog w= .ok v' w'∧OwnI w' B v' (a++x)∧Kp (fun k=>some k=va.ownBlock) w w':=by
 obtain⟨i0,hi,hz0,hz1,hz2⟩:=info_parts info_int;rcases hx.2 with⟨rfl,hz⟩|⟨g,cap,cur,rfl,hbase,hgb,r1,r2,r3,r4⟩
 ·have hss:x=[]:=List.eq_nil_of_length_eq_zero hz;subst hss;exact⟨va,w,run_append_owned_none (w:=w) B 28 ty 3 i0 1 Tryz.underlying28 hi va _ _ ha,by simpa using ha,Qb _ _⟩
 ·obtain⟨v',w',hr,h2,h3,_,_⟩:=run_append_own_at (P:=Tryz.prog) w B 28 ty 3 i0 (.int .i64 0) 1 8 Tryz.underlying28 hi hz0 hz1 hz2 rfl (by decide) va _ _ ha ⟨g,0,none⟩ x.length cap (x.map (fun x:Nat=>Value.int .i64 x)) (by simp)
   (World.ownsRow.cells hx (g:=g) rfl) (by simp[Value.oneCell']) (by simp only[maxLen];omega) (by omega) hB
  exact⟨v',w',hr,by unfold OwnI;rw[List.length_append,List.map_append];exact h2,Kp.grownK h3⟩
theorem QG{w:World}{ops:Array Oper}{rest:List Oper}{o:Oper}{act:Act}{Q:Exit→Act→World→Prop}(hgd:o.guard=none)(s x:Operand)
  (ho:o.op= .call {callee:= .builtin .append,args:= #[s,x],argTypes:= #[28,28]}) (B Bx:Nat) (va vx:Value) (a l:List Nat) (hs:act.eval s=va) (hxe:act.eval x=vx) (ha:OwnI w B va a) (hx:OwnI w Bx vx l) (hl:a.length+l.length≤100000000) (hB:B≤w.heap.size)
  (h:∀v' w',OwnI w' B v' (a++l)→Kp (fun k=>some k=va.ownBlock) w w'→wpList Tryz.prog ops Q rest (act.put o.dst v') w'):wpList Tryz.prog ops Q (o::rest) act w:=by
 refine wpList_plain hgd fun K hK=> ?_
 obtain⟨v',w',hr,h2,h3⟩:=run_append_i w o.type B Bx va vx a l ha hx hl hB;unfold Oper.wp execOp;simp only[ho,resolve,invoke,builtin,Sem.run_bind,Sem.run_pure,Result.andThen_ok,List.map_toArray,List.map_cons,List.map_nil,hs,hxe,hr];exact hK _ _ (h v' w' h2 h3)
end Go.Proofs.YtiehgcfckhepaaaGreatDoor
namespace Go.Proofs.YtiehgcfckhepaaaGreatDoor
open Go.RowKit Go.Maps
theorem foldl_uni{α:Type}(f:α→List Nat):∀(L:List α) (l:List Nat),Ris l→Ris (L.foldl (fun l k=>uni l (f k)) l)∧∀x,x∈L.foldl (fun l k=>uni l (f k)) l↔x∈l∨x∈L.flatMap f
 |[],l,h=>⟨h,fun x=>by simp⟩
 |k::L,l,h=>by
  obtain⟨h1,h2⟩:=foldl_uni f L (uni l (f k)) (ris_uni _ _ h);refine⟨h1,fun x=> ?_⟩;rw[List.foldl_cons,h2 x,mem_uni,List.flatMap_cons,List.mem_append,or_assoc]
def catK{α:Type}(f:α→List Nat)(L:List α)(k:Nat):List Nat:=(L.take k).flatMap f
theorem catK_succ{α:Type}(f:α→List Nat)(L:List α)(k:Nat)(h:k<L.length):catK f L (k+1)=catK f L k++f L[k]:=by
 unfold catK;rw[List.take_succ_eq_append_getElem h,List.flatMap_append];simp
theorem catK_len{α:Type}(f:α→List Nat)(L:List α)(h:∀x∈L,(f x).length≤2000):∀k,k≤L.length→(catK f L k).length≤2000*k:=by
 intro k;induction k with
 |zero=>intro _;simp[catK]
 |succ k ih=>
  intro hk;rw[catK_succ f L k (by omega),List.length_append];have h1:=ih (by omega);have h2:=h _ (List.getElem_mem (show k<L.length by omega));omega
theorem ris_small{l:List Nat}(h:Ris l){n:Nat}(hl:∀x∈l,x<n)(hn:n≤2000):l.length≤2000:=by
 have:=ris_len (N:=n) (m:=0) h (fun x hx=>⟨Nat.zero_le _,hl x hx⟩);omega
theorem behind_ris(M:NM)(l:List Nat):Ris (M.behind l):=by
 unfold NM.behind;split
 ·exact(foldl_uni (fun k:KN=>k.first) M.rules [] List.Pairwise.nil).1
 ·exact(foldl_uni M.follow l [] List.Pairwise.nil).1
theorem behind_lt(M:NM)(ok:NMok M)(l:List Nat)(hl:∀p∈l,p<M.pos.length):∀x∈M.behind l,x<M.pos.length:=by
 intro x hx;unfold NM.behind at hx;split at hx
 ·have h1:=((foldl_uni (fun k:KN=>k.first) M.rules [] List.Pairwise.nil).2 x).1 hx;simp only[List.not_mem_nil,false_or,List.mem_flatMap] at h1;obtain⟨k,hk,h2⟩:=h1;exact(ok.kgood k hk).f x h2
 ·have h1:=((foldl_uni M.follow l [] List.Pairwise.nil).2 x).1 hx;simp only[List.not_mem_nil,false_or,List.mem_flatMap] at h1;obtain⟨p,hp,h2⟩:=h1;have hp':=hl p hp;simp only[NM.follow,List.getElem?_eq_getElem hp'] at h2;exact ok.good _ (List.getElem_mem hp') x h2
def BehindPost(M:NM)(l:List Nat)(w:World)(e:Ending)(w':World):Prop:=∃v B,e= .returned v∧w.heap.size≤B∧OwnI w' B v (M.behind l)∧Kn w w'
theorem behind_nil(pm:Nat)(M:NM)(l:List Nat)(hl0:l=[])(w:World)(h:NfaAt w pm M)(ok:NMok M):
  Calls Tryz.prog 264 #[ptr pm,.slice none 0 0] w (BehindPost M l w):=by
 have HN:=Qh h;have HOK:=Qh ok;have HL0:=Qh hl0;have hrl:=ok.rlen;have HLEN:=Qh (catK_len (fun k:KN=>k.first) M.rules (fun k hk=>ris_small (ok.kgood k hk).rf (ok.kgood k hk).f ok.len));have hqn:∀w,(binOp .eql 28 (.slice none 0 0) (.slice none 0 0)).run Tryz.prog w= .ok (.bool true) w:=fun w=>by kernel_rfl
 clear h ok hl0;go_enter Tryz.func264,Tryz.ntmps264;go_wp2_with fail
 refine(Rules_c pm M w HN.out).mono ?_;rintro e w' ⟨rfl,rfl⟩;go_wp2_with fail
 go_loopw [5,6,13,14,15,16,17,18,19,20,21] (fun s _ i _ _ _ _ _ _ _ _ wr=>∃(v:Value) (k:Nat),v=s∧k≤M.rules.length∧i= .int .i64 k∧Hid (OwnI wr w.heap.size v (catK (fun k:KN=>k.first) M.rules k))∧Kn w wr) (fun _ _ i _ _ _ _ _ _ _ _ _=>M.rules.length-(intOf i).toNat)
 case atStart=>exact⟨_,0,rfl,Nat.zero_le _,rfl,Qh (World.ownsRow_nil _ _ _ _),Qb _ _⟩
 case round=>
  obtain⟨v,k,rfl,hk,rfl,hrow,hkn⟩:=hrel;have hlk:=HLEN.out k hk;by_cases hlt:k<M.rules.length
  ·have hs:=Qh (catK_succ (fun k:KN=>k.first) M.rules k hlt);have hx:(M.rules[k].first).length≤2000:=ris_small (HOK.out.kgood _ (List.getElem_mem hlt)).rf (HOK.out.kgood _ (List.getElem_mem hlt)).f HOK.out.len;have HF:=Qh (First_c pm k M wr (HN.out.kn hkn) HOK.out hlt);go_wp2_with fail
   refine HF.out.mono ?_;rintro e w3 ⟨vx,Bx,rfl,hbx,hox,hk3⟩;have HX:=Qh hox;have hB3:w.heap.size≤w3.heap.size:=Nat.le_trans hkn.size hk3.size;clear hox;go_wp2_with (at_builtin;refine QG rfl (.tmp 16) (.tmp 19) rfl w.heap.size Bx v vx _ _ rfl rfl (hrow.out.kn hk3) HX.out (by omega) hB3 ?_;intro v4 w4 hro4 hk4)
   have HR4:=Qh hro4;have hkn4:Kn w w4:=(hkn.trans hk3).trans' hk4 (fun i hi e=>by have:=(hrow.out.lt i e.symm).1;omega);clear hro4 hk4;go_wp2_with fail
   go_roundw
   case rel=>exact⟨v4,k+1,rfl,by omega,by go_num,Qh (by rw[hs.out];exact HR4.out),hkn4⟩
   case measure=>simp[intOf];omega
  ·have e:k=M.rules.length:=by omega
   go_wp2_with fail
   refine wp_loop_rounds 1 ?_;rw[rounds_succ];have HSORT:=Qh (Sort_c w.heap.size _ _ wr hrow.out.z (by simp;omega));have HSC:Hid (Lib.compact (((catK (fun k:KN=>k.first) M.rules k).map (fun x:Nat=>(x:Int))).mergeSort (fun x y=>decide (x≤y)))=(M.behind l).map (fun x:Nat=>(x:Int))):=Qh (sort_compact (behind_ris M l) (fun x=>by
    have e1:M.behind l=M.rules.foldl (fun l k=>uni l k.first) []:=by rw[HL0.out];simp[NM.behind]
    rw[e1,(foldl_uni (fun k:KN=>k.first) M.rules [] List.Pairwise.nil).2 x,e];unfold catK;rw[List.take_length];simp))
   go_wp2_with fail
   refine(HSORT.out).mono ?_;rintro e w5 ⟨rfl,hs5,hk5⟩;have HCOM:=Qh (Compact_c w.heap.size _ _ w5 hs5 (by simp;omega));clear hs5;go_wp2_with fail
   refine HCOM.out.mono ?_;rintro e w6 ⟨v6,rfl,hs6,hk6⟩;rw[HSC.out] at hs6;go_wp2_with fail
   go_ret;exact⟨v6,_,rfl,Nat.le_refl _,OwnI.of_z hs6,(hkn.trans' hk5 (fun i hi e=>by have:=(hrow.out.lt i e).1;omega)).trans' hk6 (fun i hi e=>by have:=(hrow.out.lt i e).1;omega)⟩
theorem behind_at(pm B:Nat)(M:NM)(v0:Value)(l:List Nat)(hl0:l≠[])(w:World)(h:NfaAt w pm M)(ok:NMok M)(hv:OwnI w B v0 l)(hl:∀p∈l,p<M.pos.length)(hll:l.length≤2000):
  Calls Tryz.prog 264 #[ptr pm,v0] w (BehindPost M l w):=by
 obtain⟨a,c,rfl,h1,h2,h3⟩:=hv.look;obtain⟨b,rfl,_,_,h4⟩:=h3 hl0;have HN:=Qh h;have HOK:=Qh ok;have HL0:=Qh hl0;have HC:=Qh h4;have HL:=Qh hl;have hfl:∀p∈l,(M.follow p).length≤2000:=fun p hp=>by
  have hp':=hl p hp;simp only[NM.follow,List.getElem?_eq_getElem hp'];exact ris_small (ok.ris _ (List.getElem_mem hp')) (ok.good _ (List.getElem_mem hp')) ok.len
 have HFL:=Qh hfl;have HLEN:=Qh (catK_len M.follow l hfl);have hqn:=Lib.run_eql_slice_nil (P:=Tryz.prog) (t:=28);clear h ok hl0 hv hl h2 h3 h4 hfl h1;go_enter Tryz.func264,Tryz.ntmps264;go_wp2_with fail
 go_loopw [5,8,24,25,26,27,28,29,30,31,32,33] (fun s _ i _ _ _ _ _ _ _ _ _ wr=>∃(v:Value) (k:Nat),v=s∧k≤l.length∧i= .int .i64 k∧Hid (OwnI wr w.heap.size v (catK M.follow l k))∧Kn w wr) (fun _ _ i _ _ _ _ _ _ _ _ _ _=>l.length-(intOf i).toNat)
 case atStart=>exact⟨_,0,rfl,Nat.zero_le _,rfl,Qh (World.ownsRow_nil _ _ _ _),Qb _ _⟩
 case round=>
  obtain⟨v,k,rfl,hk,rfl,hrow,hkn⟩:=hrel;have hlk:=HLEN.out k hk;by_cases hlt:k<l.length
  ·have hs:=Qh (catK_succ M.follow l k hlt);have hx:=HFL.out _ (List.getElem_mem hlt);have hp:=HL.out _ (List.getElem_mem hlt);have hc:=Qc hkn (HC.out k hlt).1;have hfo:Hid (M.follow l[k]=M.pos[l[k]].follow):=Qh (by simp[NM.follow,hp]);have HF:=Qh (Follow_c pm l[k] M wr (HN.out.kn hkn) HOK.out hp);go_wp2_with fail
   refine HF.out.mono ?_;rintro e w3 ⟨vx,Bx,rfl,hbx,hox,hk3⟩;rw[←hfo.out] at hox;have HX:=Qh hox;have hB3:w.heap.size≤w3.heap.size:=Nat.le_trans hkn.size hk3.size;clear hox hc;go_wp2_with (at_builtin;refine QG rfl (.tmp 28) (.tmp 31) rfl w.heap.size Bx v vx _ _ rfl rfl (hrow.out.kn hk3) HX.out (by omega) hB3 ?_;intro v4 w4 hro4 hk4)
   have HR4:=Qh hro4;have hkn4:Kn w w4:=(hkn.trans hk3).trans' hk4 (fun i hi e=>by have:=(hrow.out.lt i e.symm).1;omega);clear hro4 hk4;go_wp2_with fail
   go_roundw
   case rel=>exact⟨v4,k+1,rfl,by omega,by go_num,Qh (by rw[hs.out];exact HR4.out),hkn4⟩
   case measure=>simp[intOf];omega
  ·have e:k=l.length:=by omega
   have HSORT:=Qh (Sort_c w.heap.size _ _ wr hrow.out.z (by simp;omega));have HSC:Hid (Lib.compact (((catK M.follow l k).map (fun x:Nat=>(x:Int))).mergeSort (fun x y=>decide (x≤y)))=(M.behind l).map (fun x:Nat=>(x:Int))):=Qh (sort_compact (behind_ris M l) (fun x=>by
    have e1:M.behind l=l.foldl (fun l p=>uni l (M.follow p)) []:=by unfold NM.behind;rw[if_neg HL0.out]
    rw[e1,(foldl_uni M.follow l [] List.Pairwise.nil).2 x,e];unfold catK;rw[List.take_length];simp))
   go_wp2_with fail
   refine(HSORT.out).mono ?_;rintro e w5 ⟨rfl,hs5,hk5⟩;have HCOM:=Qh (Compact_c w.heap.size _ _ w5 hs5 (by simp;omega));clear hs5;go_wp2_with fail
   refine HCOM.out.mono ?_;rintro e w6 ⟨v6,rfl,hs6,hk6⟩;rw[HSC.out] at hs6;go_wp2_with fail
   go_ret;exact⟨v6,_,rfl,Nat.le_refl _,OwnI.of_z hs6,(hkn.trans' hk5 (fun i hi e=>by have:=(hrow.out.lt i e).1;omega)).trans' hk6 (fun i hi e=>by have:=(hrow.out.lt i e).1;omega)⟩
open Go.RowKit Go.Maps Go.ChangeMaps
abbrev KV:=List (Value×Value)
def MapA(w:World)(k:TypeId)(b:Nat)(m:KV):Prop:=
 ∃(es:Array MapEntry) (clock:Nat),w.heap[b]? =some (.map es clock)∧es.toList.map (fun e=>(e.key,e.val))=m∧(m.map (·.1)).Nodup∧∀p∈m,∃l,keyOf Tryz.prog k p.1=some l
section
variable {w:World} {k e t:TypeId} {b:Nat} {m:KV} {x:Value} {lx:Lit}
theorem MapA.keys{es:Array MapEntry}(he:es.toList.map (fun e=>(e.key,e.val))=m)(hk:∀p∈m,∃l,keyOf Tryz.prog k p.1=some l):∀e∈es.toList,∃l,keyOf Tryz.prog k e.key=some l:=fun e h=>by
 refine hk (e.key,e.val) ?_;rw[←he];exact List.mem_map_of_mem h
theorem MapA.lt(h:MapA w k b m):b<w.heap.size:=by obtain⟨_,_,hb,_⟩:=h;exact Qj hb
theorem MapA.kp{S:Nat→Prop}{w':World}(h:MapA w k b m)(hk:Kp S w w')(hs:¬S b):MapA w' k b m:=by obtain⟨es,clock,hb,r⟩:=h;exact⟨es,clock,hk.blk hb hs,r⟩
theorem MapA.kn{w':World}(h:MapA w k b m)(hk:Kn w w'):MapA w' k b m:=h.kp hk (fun x=>x)
theorem MapA.new(w:World)(k:TypeId):MapA (w.alloc (.map #[] 0)) k w.heap.size []:=⟨#[],0,Qf w _,rfl,by simp,by simp⟩
theorem MapA.look0(h:MapA w k b m)(K:Keyed Tryz.prog k)(ht:Tryz.prog.underlying t=some (.map k e)){z:Value}(hz:(zeroValue e).run Tryz.prog w= .ok z w)(hx:keyOf Tryz.prog k x=some lx)(hn:∀p∈m,p.1≠x)(c:Bool):
  (Instr.lookup t (.map (some b)) x c).run Tryz.prog w= .ok (if c then .tuple #[z,.bool false] else z) w:=by
 obtain⟨es,clock,hb,he,hd,hk⟩:=h;rcases K.find w hx es.toList (MapA.keys he hk) with⟨h1,_⟩|⟨j,e0,h1,h2,h3⟩
 ·simp[Instr.lookup,run_underlying ht,MapKept.run_getObj_map hb,K.check w _ hx,h1,hz,Result.andThen]
 ·exact(hn (e0.key,e0.val) (by rw[←he];exact List.mem_map_of_mem (List.mem_of_getElem? h2)) h3).elim
theorem MapA.val{v:Value}(hd:(m.map (·.1)).Nodup)(h1:(x,v)∈m){u:Value}(h2:(x,u)∈m):u=v:=by
 induction m with
 |nil=>cases h1
 |cons p m ih=>
  simp only[List.map_cons,List.nodup_cons] at hd;rcases List.mem_cons.1 h1 with e1|e1
  ·subst e1;rcases List.mem_cons.1 h2 with e2|e2
   ·exact congrArg Prod.snd e2
   ·exact(hd.1 (List.mem_map_of_mem (f:=(·.1)) e2)).elim
  ·rcases List.mem_cons.1 h2 with e2|e2
   ·subst e2;exact(hd.1 (List.mem_map_of_mem (f:=(·.1)) e1)).elim
   ·exact ih hd.2 e1 e2
theorem MapA.look1(h:MapA w k b m)(K:Keyed Tryz.prog k)(ht:Tryz.prog.underlying t=some (.map k e))(hx:keyOf Tryz.prog k x=some lx){v:Value}(hn:(x,v)∈m)(c:Bool):
  (Instr.lookup t (.map (some b)) x c).run Tryz.prog w= .ok (if c then .tuple #[v,.bool true] else v) w:=by
 obtain⟨es,clock,hb,he,hd,hk⟩:=h;rcases K.find w hx es.toList (MapA.keys he hk) with⟨h1,h0⟩|⟨j,e0,h1,h2,h3⟩
 ·rw[←he] at hn;obtain⟨e1,h4,h5⟩:=List.mem_map.1 hn;exact(h0 e1 h4 (congrArg Prod.fst h5)).elim
 ·have hv:e0.val=v:=MapA.val hd hn (by rw[←he,←h3];exact List.mem_map_of_mem (List.mem_of_getElem? h2));subst hv;simp[Instr.lookup,run_underlying ht,MapKept.run_getObj_map hb,K.check w _ hx,h1,Result.andThen]
theorem MapA.put0(h:MapA w k b m)(K:Keyed Tryz.prog k)(ht:Tryz.prog.underlying t=some (.map k e))(hx:keyOf Tryz.prog k x=some lx)(hn:∀p∈m,p.1≠x)(v:Value):
  ∃w',(Instr.mapUpdate t (.map (some b)) x v).run Tryz.prog w= .ok () w'∧MapA w' k b (m++[(x,v)])∧K1 b w w':=by
 obtain⟨es,clock,hb,he,hd,hk⟩:=h;rcases K.find w hx es.toList (MapA.keys he hk) with⟨h1,_⟩|⟨j,e0,h1,h2,h3⟩
 ·refine⟨setBlock w b (.map (es.push ⟨x,v,clock⟩) (clock+1)),?_,⟨_,_,heap_setBlock_same hb _,?_,?_,?_⟩,⟨rfl,rfl,rfl,by simp[setBlock],fun i _ hi=>heap_setBlock_other hb _ hi⟩⟩
  ·simp[Instr.mapUpdate,run_underlying ht,MapKept.run_getObj_map hb,K.check w false hx,h1,MapKept.run_setObj_map _ hb,Result.andThen,setBlock]
  ·simp[he]
  ·rw[List.map_append,List.nodup_append];refine⟨hd,by simp,fun y hy z hz=> ?_⟩;simp at hz;subst hz;obtain⟨p,hp,rfl⟩:=List.mem_map.1 hy;exact hn p hp
  ·intro p hp;rcases List.mem_append.1 hp with hp|hp
   ·exact hk p hp
   ·simp at hp;subst hp;exact⟨_,hx⟩
 ·exact(hn (e0.key,e0.val) (by rw[←he];exact List.mem_map_of_mem (List.mem_of_getElem? h2)) h3).elim
theorem MapA.put1(h:MapA w k b m)(K:Keyed Tryz.prog k)(ht:Tryz.prog.underlying t=some (.map k e))(hx:keyOf Tryz.prog k x=some lx){u:Value}(hn:(x,u)∈m)(v:Value):
  ∃(w':World) (j:Nat),(Instr.mapUpdate t (.map (some b)) x v).run Tryz.prog w= .ok () w'∧m[j]? =some (x,u)∧MapA w' k b (m.set j (x,v))∧K1 b w w':=by
 obtain⟨es,clock,hb,he,hd,hk⟩:=h;rcases K.find w hx es.toList (MapA.keys he hk) with⟨h1,h0⟩|⟨j,e0,h1,h2,h3⟩
 ·rw[←he] at hn;obtain⟨e1,h4,h5⟩:=List.mem_map.1 hn;exact(h0 e1 h4 (congrArg Prod.fst h5)).elim
 ·have hv:e0.val=u:=MapA.val hd hn (by rw[←he,←h3];exact List.mem_map_of_mem (List.mem_of_getElem? h2));have hj:es[j]? =some e0:=by simpa using h2
  have hm:m[j]? =some (x,u):=by rw[←he,List.getElem?_map,h2];simp[h3,hv]
  have hjl:j<m.length:=(List.getElem?_eq_some_iff.1 hm).1;refine⟨setBlock w b (.map (es.modify j (fun e'=> {e' with key:=x,val:=v})) clock),j,?_,hm,⟨_,_,heap_setBlock_same hb _,?_,?_,?_⟩,⟨rfl,rfl,rfl,by simp[setBlock],fun i _ hi=>heap_setBlock_other hb _ hi⟩⟩
  ·simp[Instr.mapUpdate,run_underlying ht,MapKept.run_getObj_map hb,K.check w false hx,h1,hj,h3,K.stays w hx,MapKept.run_setObj_map _ hb,Result.andThen,setBlock]
  ·rw[Array.toList_modify,List.modify_eq_set,h2];simp[List.map_set,he]
  ·have:(m.set j (x,v)).map (·.1)=m.map (·.1):=by
    rw[List.map_set];apply List.ext_getElem?;intro i;rw[List.getElem?_set];split
    ·rename_i e;subst e;rw[List.getElem?_map,hm];simp[hjl]
    ·rfl
   rw[this];exact hd
  ·intro p hp;rcases List.mem_or_eq_of_mem_set hp with hp|rfl
   ·exact hk p hp
   ·exact⟨_,hx⟩
theorem MapA.len(h:MapA w k b m)(ht:Tryz.prog.underlying t=some (.map k e))(ty:TypeId):(Builtin.len_ #[t] ty #[.map (some b)]).run Tryz.prog w= .ok (.int .i64 m.length) w:=by
 obtain⟨es,clock,hb,he,_,_⟩:=h;have e1:m.length=es.size:=by rw[←he];simp
 rw[e1];simp[Builtin.len_,run_underlying ht,MapKept.run_getObj_map hb,goInt,Result.andThen]
end
section
variable {w:World} {k e t:TypeId} {b:Nat} {m:KV} {ops:Array Oper} {rest:List Oper} {o:Oper} {a:Act} {Q:Exit→Act→World→Prop}
theorem YZ(hg:o.guard=none)(mo xo:Operand)(c:Bool)(hop:o.op=Op.lookup t mo xo c)(K:Keyed Tryz.prog k)(ht:Tryz.prog.underlying t=some (.map k e))(z:Value)(hz:∀w,(zeroValue e).run Tryz.prog w= .ok z w)
  (hm:a.eval mo= .map (some b)) (h:MapA w k b m) (x:Value) (lx:Lit) (hx:a.eval xo=x) (hk:keyOf Tryz.prog k x=some lx) (hn:∀p∈m,p.1≠x)
  (hK:wpList Tryz.prog ops Q rest (a.put o.dst (if c then .tuple #[z,.bool false] else z)) w):wpList Tryz.prog ops Q (o::rest) a w:=by
 refine wpList_plain hg fun K' hK'=> ?_
 unfold Oper.wp;simp[execOp,hop,hm,hx,h.look0 K ht (hz w) hk hn c,Result.andThen];exact hK' _ _ hK
theorem Ym(hg:o.guard=none)(mo xo:Operand)(c:Bool)(hop:o.op=Op.lookup t mo xo c)(K:Keyed Tryz.prog k)(ht:Tryz.prog.underlying t=some (.map k e))
  (hm:a.eval mo= .map (some b)) (h:MapA w k b m) (x:Value) (lx:Lit) (hx:a.eval xo=x) (hk:keyOf Tryz.prog k x=some lx) (v:Value) (hn:(x,v)∈m)
  (hK:wpList Tryz.prog ops Q rest (a.put o.dst (if c then .tuple #[v,.bool true] else v)) w):wpList Tryz.prog ops Q (o::rest) a w:=by
 refine wpList_plain hg fun K' hK'=> ?_
 unfold Oper.wp;simp[execOp,hop,hm,hx,h.look1 K ht hk hn c,Result.andThen];exact hK' _ _ hK
theorem wpList_put0(hg:o.guard=none)(mo xo vo:Operand)(hop:o.op=Op.mapUpdate t mo xo vo)(K:Keyed Tryz.prog k)(ht:Tryz.prog.underlying t=some (.map k e))
  (hm:a.eval mo= .map (some b)) (h:MapA w k b m) (x v:Value) (lx:Lit) (hx:a.eval xo=x) (hv:a.eval vo=v) (hk:keyOf Tryz.prog k x=some lx) (hn:∀p∈m,p.1≠x)
  (hK:∀w',MapA w' k b (m++[(x,v)])→K1 b w w'→wpList Tryz.prog ops Q rest (a.put o.dst undef) w'):wpList Tryz.prog ops Q (o::rest) a w:=by
 refine wpList_plain hg fun K' hK'=> ?_
 obtain⟨w',hr,h1,h2⟩:=h.put0 K ht hk hn v;unfold Oper.wp;simp[execOp,hop,hm,hx,hv,hr,Result.andThen];exact hK' _ _ (hK w' h1 h2)
theorem wpList_put1(hg:o.guard=none)(mo xo vo:Operand)(hop:o.op=Op.mapUpdate t mo xo vo)(K:Keyed Tryz.prog k)(ht:Tryz.prog.underlying t=some (.map k e))
  (hm:a.eval mo= .map (some b)) (h:MapA w k b m) (x v:Value) (lx:Lit) (hx:a.eval xo=x) (hv:a.eval vo=v) (hk:keyOf Tryz.prog k x=some lx) (u:Value) (hn:(x,u)∈m)
  (hK:∀w' j,m[j]? =some (x,u)→MapA w' k b (m.set j (x,v))→K1 b w w'→wpList Tryz.prog ops Q rest (a.put o.dst undef) w'):wpList Tryz.prog ops Q (o::rest) a w:=by
 refine wpList_plain hg fun K' hK'=> ?_
 obtain⟨w',j,hr,hj,h1,h2⟩:=h.put1 K ht hk hn v;unfold Oper.wp;simp[execOp,hop,hm,hx,hv,hr,Result.andThen];exact hK' _ _ (hK w' j hj h1 h2)
end
end Go.Proofs.YtiehgcfckhepaaaGreatDoor
namespace Go.Proofs.YtiehgcfckhepaaaGreatDoor
open Go.RowKit Go.Maps
abbrev TD:TypeId:=357
abbrev TDs:TypeId:=354
abbrev TDb:TypeId:=360
abbrev TStr:TypeId:=9
def stL(s:DS)(va:Value):List Value:=va::(s.next.map (Value.int .i64)++[.int .i64 s.accept])
theorem stL_len{s:DS}{va:Value}(h:s.next.length=256):(stL s va).length=258:=by simp[stL,h]
def stC(l:List DS)(vas:List Value):List (List Value):=List.zipWith stL l vas
theorem Za{l:List DS}{vas:List Value}(h:l.length=vas.length):(stC l vas).length=l.length:=by simp[stC,h]
theorem stC_all{l:List DS}{vas:List Value}(h:∀s∈l,s.next.length=256):∀C∈stC l vas,C.length=258:=by
 intro C hC;obtain⟨i,hi,rfl⟩:=List.getElem_of_mem hC;have h1:i<l.length:=by simp[stC] at hi;omega
 simp only[stC,List.getElem_zipWith];exact stL_len (h _ (List.getElem_mem h1))
theorem stC_get{l:List DS}{vas:List Value}{i:Nat}(h1:i<l.length)(h2:i<vas.length)(h3:i<(stC l vas).length):(stC l vas)[i]=stL l[i] vas[i]:=by simp[stC]
theorem stC_snoc{l:List DS}{vas:List Value}(h:l.length=vas.length)(s:DS)(va:Value):stC (l++[s]) (vas++[va])=stC l vas++[stL s va]:=by
 unfold stC;rw[List.zipWith_append h];try rfl
def AtAt(w:World)(l:List Nat)(v:Value):Prop:=(l=[]∧v= .slice none 0 0)∨(l≠[]∧∃B,OwnI w B v l)
theorem AtAt.kp{S:Nat→Prop}{w w':World}{l:List Nat}{v:Value}(h:AtAt w l v)(hk:Kp S w w')(hS:∀(g:Nat) (cs:Array Value),w.heap[g]? =some (.cells cs 3 (0,0))→¬S g):AtAt w' l v:=by
 rcases h with h|⟨h1,B,h2⟩
 ·exact .inl h
 ·refine .inr ⟨h1,B,h2.1,?_⟩;rcases h2.2 with h3|⟨g,cap,cur,h3,h4,h5,h6⟩
  ·exact .inl h3
  ·exact .inr ⟨g,cap,cur,h3,h4,hk.blk h5 (hS g cur h5),h6⟩
theorem AtAt.slice{w:World}{l:List Nat}{v:Value}(h:AtAt w l v):∃a c,v= .slice a l.length c:=by
 rcases h with⟨h1,h2⟩|⟨_,B,h2⟩
 ·exact⟨none,0,by rw[h1,h2];try rfl⟩
 ·obtain⟨a,c,h3,_⟩:=h2.look;exact⟨a,c,h3⟩
theorem OwnK.blkT{w:World}{B k:Nat}{T:TypeId}{v:Value}{Cs:List (List Value)}(h:OwnK w B T k v Cs){g:Nat}(hg:v.ownBlock=some g):∃cur,w.heap[g]? =some (.cells cur T (0,0)):=by
 rcases h.2 with⟨h1,_⟩|⟨g',cap,cur,h1,_,h3,_⟩
 ·rw[h1] at hg;cases hg
 ·have e:g'=g:=by rw[h1] at hg;simpa[Value.ownBlock] using hg
  subst e;exact⟨cur,h3⟩
def dfL(pm:Nat)(v:Value)(cl:List Int)(nc:Int):List Value:=ptr pm::v::(cl.map (Value.int .i64)++[.int .i64 nc])
structure DfaIn (w:World) (pd pm:Nat) (v:Value) (l:List DS) (vas:List Value) (cl:List Int) (nc:Int):Prop where
 blk:w.heap[pd]? =some (.cells (dfL pm v cl nc).toArray TD (0,0))
 cls:cl.length=256
 len:l.length=vas.length
 row:OwnK w (pd-1) TDs 258 v (stC l vas)
 nx:∀s∈l,s.next.length=256
 ats:∀i (h:i<l.length) (h':i<vas.length),AtAt w l[i].at_ vas[i]
def DSS(pd bm:Nat)(v:Value)(k:Nat):Prop:=k=pd∨k=bm∨v.ownBlock=some k
section
variable {w w':World} {pd pm:Nat} {v:Value} {l:List DS} {vas:List Value} {cl:List Int} {nc:Int}
theorem DfaIn.lt(h:DfaIn w pd pm v l vas cl nc):pd<w.heap.size:=Qj h.blk
theorem DfaIn.kn(h:DfaIn w pd pm v l vas cl nc)(hk:Kn w w'):DfaIn w' pd pm v l vas cl nc:=
 ⟨hk.blk h.blk (fun x=>x),h.cls,h.len,h.row.kn hk,h.nx,fun i a b=>(h.ats i a b).kp hk (fun _ _ _ x=>x)⟩
theorem DfaIn.own_blk(h:DfaIn w pd pm v l vas cl nc){g:Nat}(hg:v.ownBlock=some g):∃cur,w.heap[g]? =some (.cells cur TDs (0,0)):=h.row.blkT hg
theorem DfaIn.own_lt(h:DfaIn w pd pm v l vas cl nc){g:Nat}(hg:v.ownBlock=some g):(pd≠g∧pd≤g+1)∧g<w.heap.size:=by
 obtain⟨h1,h2⟩:=h.row.lt g hg;refine⟨⟨fun e=> ?_,by omega⟩,h2⟩;subst e;obtain⟨cur,hb⟩:=h.own_blk hg;rw[h.blk] at hb;injection hb with hb;injection hb with _ hb _;exact absurd hb (by decide)
theorem DfaIn.slice(h:DfaIn w pd pm v l vas cl nc):∃a c,v= .slice a l.length c:=by
 obtain⟨a,c,h1,_⟩:=h.row.row (stC_all h.nx);rw[Za h.len] at h1;exact⟨a,c,h1⟩
theorem DfaIn.other(h:DfaIn w pd pm v l vas cl nc){g:Nat}{C:Array Value}{T:TypeId}{fr:Nat×Nat}(hg:w.heap[g]? =some (.cells C T fr))(h1:T≠TD)(h2:T≠TDs):¬(g=pd∨v.ownBlock=some g):=by
 rintro(rfl|e)
 ·rw[h.blk] at hg;injection hg with hg;injection hg with _ hg _;exact h1 hg.symm
 ·obtain⟨cur,hb⟩:=h.own_blk e;rw[hb] at hg;injection hg with hg;injection hg with _ hg _;exact h2 hg.symm
theorem DfaIn.cells(h:DfaIn w pd pm v l vas cl nc):w.cell? ⟨pd,0,none⟩=some (ptr pm)∧w.cell? ⟨pd,1,none⟩=some v∧w.frozen? ⟨pd,1,none⟩=false:=
 ⟨by rw[Qa h.blk];try rfl,by rw[Qa h.blk];try rfl,Qd h.blk _⟩
theorem DfaIn.st(h:DfaIn w pd pm v l vas cl nc){i:Nat}(hi:i<l.length):∃g c va,v= .slice (some ⟨g,0,none⟩) l.length c∧vas[i]? =some va∧AtAt w l[i].at_ va∧w.cell? ⟨g,i*258,none⟩=some va∧
  (∀c,c<256→w.cell? ⟨g,i*258+1+c,none⟩=(l[i].next.map (Value.int .i64))[c]?)∧w.cell? ⟨g,i*258+257,none⟩=some (.int .i64 l[i].accept)∧(∀j,j<258→w.frozen? ⟨g,i*258+j,none⟩=false):=by
 have hiv:i<vas.length:=by rw[←h.len];exact hi
 have hic:i<(stC l vas).length:=by rw[Za h.len];exact hi
 obtain⟨a,c,h1,h2,h3,h4⟩:=h.row.row (stC_all h.nx);obtain⟨g,rfl,_,_,h5⟩:=h4 (fun e=>by rw[e] at hic;simp at hic);rw[Za h.len] at h1;have h6:=fun j hj=>h5 i hic j hj
 rw[stC_get hi hiv hic] at h6;have e:∀j,0+258*i+j=i*258+j:=fun j=>by omega
 simp only[e] at h6;have hn:=h.nx _ (List.getElem_mem hi);have h60:=(h6 0 (by omega)).1;rw[Nat.add_zero] at h60;have h61:(stL l[i] vas[i])[0]? =some vas[i]:=by rw[stL,List.getElem?_cons_zero]
 rw[h61] at h60;have hlen:(l[i].next.map (Value.int .i64)).length=256:=by rw[List.length_map];exact hn
 refine⟨g,c,vas[i],h1,List.getElem?_eq_getElem hiv,h.ats i hi hiv,h60,fun c hc=> ?_,?_,fun j hj=>(h6 j hj).2⟩
 ·have h7:=(h6 (1+c) (by omega)).1;rw[←Nat.add_assoc] at h7;rw[h7,stL,Nat.add_comm 1 c,List.getElem?_cons_succ,List.getElem?_append_left (by rw[hlen];exact hc)]
 ·rw[(h6 257 (by omega)).1,stL,show(257:Nat)=256+1 from rfl,List.getElem?_cons_succ,List.getElem?_append_right (by rw[hlen];exact Nat.le_refl _),hlen];rfl
end
def newN(n:Nat)(v:Value)(acc:Int):Array Value:=(v::(List.replicate n (Value.int .i64 0)++[.int .i64 acc])).toArray
theorem newN_size(n:Nat)(v:Value)(acc:Int):(newN n v acc).size=n+2:=by simp[newN]
theorem newN_one(n:Nat)(a:Option Addr)(k c:Nat)(acc:Int):(newN n (.slice a k c) acc).all (·.oneCell')=true:=by
 rw[Array.all_eq_true_iff_forall_mem];intro v hv;simp only[newN,List.mem_toArray,List.mem_cons,List.mem_append,List.mem_replicate,List.mem_nil_iff,or_false] at hv;rcases hv with h|h|h
 ·subst h;rfl
 ·rw[h.2];try rfl
 ·subst h;rfl
theorem newN_eq(n:Nat)(v:Value)(acc:Int):(newN n v acc).toList=v::((List.replicate n (0:Int)).map (Value.int .i64)++[.int .i64 acc]):=by simp[newN]
def newS(v:Value)(acc:Int):Array Value:=newN 256 v acc
theorem newS_eq(tl:List Nat)(v:Value)(acc:Int):(newS v acc).toList=stL ⟨tl,NM.zeros,acc⟩ v:=newN_eq 256 v acc
theorem Ya(v:Value)(acc:Int):(newS v acc).size=258:=newN_size 256 v acc
theorem newS_one(a:Option Addr)(n c:Nat)(acc:Int):(newS (.slice a n c) acc).all (·.oneCell')=true:=newN_one 256 a n c acc
theorem build_state(a:Option Addr)(n c:Nat)(acc:Int)(w:World):(Instr.build TDs #[(0,.slice a n c),(2,.int .i64 acc)]).run Tryz.prog w= .ok (.agg (newS (.slice a n c) acc)) w:=
 run_build w _ _ _ (by kernel_rfl)
theorem state_info:∃ie,Tryz.prog.info? TDs=some ie∧ie.zero=some (.agg (newS (.slice none 0 0) 0))∧ie.size=258∧ie.bytes=2080:=by
 have h:(Tryz.prog.info? TDs).map (fun i=>(i.zero,i.size,i.bytes))=some (some (.agg (newS (.slice none 0 0) 0)),258,2080):=by kernel_rfl
 obtain⟨i0,h1,h2,h3,h4⟩:=info_parts h;exact⟨i0,h1,h2,h3,h4⟩
theorem slice_state(C:Array Value)(hC:C.size=258)(w:World):(Instr.buildSlice 355 1 #[(0,.agg C)]).run Tryz.prog w= .ok (.slice (some ⟨w.heap.size,0,none⟩) 1 1) (w.alloc (.cells C TDs)):=by
 obtain⟨ie,h1,h2,h3,_⟩:=state_info;refine run_buildSlice w 355 TDs 1 _ C ie _ Tryz.underlying355 h1 h2 (by rw[h3];decide) (by rw[h3];decide) ?_;have:=Great.fill_whole (s:=258) (by decide) [.agg C] ((Array.range (1*ie.size)).map ((Value.agg (newS (.slice none 0 0) 0)).cells[·%(Value.agg (newS (.slice none 0 0) 0)).cells.size]!)) (by
  intro v hv;simp at hv;subst hv;exact hC) (by simp[h3])
 rw[h3] at this⊢;simp only[List.zipIdx_cons,List.zipIdx_nil,List.map_cons,List.map_nil,List.flatMap_cons,List.flatMap_nil,List.append_nil,Array.toArray_toList] at this;exact this
theorem wp_slice_state{o:Oper}{a:Act}{w:World}{K:Act→World→Prop}{Q:Exit→Act→World→Prop}(x:Operand)(C:Array Value)(ho:o.op= .buildSlice 355 1 #[(0,x)])(hx:a.eval x= .agg C)(hC:C.size=258)
  (h:K (a.put o.dst (.slice (some ⟨w.heap.size,0,none⟩) 1 1)) (w.alloc (.cells C TDs))):o.wp Tryz.prog a w K Q:=by
 obtain⟨ie,h1,h2,h3,_⟩:=state_info;refine wp_buildSlice 355 TDs 1 _ ho C ie _ Tryz.underlying355 h1 h2 (by rw[h3];decide) (by rw[h3];decide) ?_ h;have:=Great.fill_whole (s:=258) (by decide) [.agg C] ((Array.range (1*ie.size)).map ((Value.agg (newS (.slice none 0 0) 0)).cells[·%(Value.agg (newS (.slice none 0 0) 0)).cells.size]!)) (by
  intro v hv;simp at hv;subst hv;exact hC) (by simp[h3])
 rw[h3] at this⊢;simp only[List.zipIdx_cons,List.zipIdx_nil,List.map_cons,List.map_nil,List.flatMap_cons,List.flatMap_nil,List.append_nil,Array.toArray_toList] at this;have e:(#[(0,x)].map fun(i,y)=>(i,a.eval y)).toList=[(0,Value.agg C)]:=by simp[hx]
 first
  |exact this
  |(simp only[List.map_toArray,List.map_cons,List.map_nil,hx];exact this)
theorem step_slice_state{ops:Array Oper}{o:Oper}{a:Act}{w:World}{K:Act→World→Prop}{Q:Exit→Act→World→Prop}{E:Prop}(hgd:o.guard=none)(x:Operand)(C:Array Value)(ho:o.op= .buildSlice 355 1 #[(0,x)])(hx:a.eval x= .agg C)(hC:C.size=258)
  (h:K (a.put o.dst (.slice (some ⟨w.heap.size,0,none⟩) 1 1)) (w.alloc (.cells C TDs))):if Region.wanted o (yielded ops a.tmps)=true then Oper.wp Tryz.prog o a w K Q else E:=by
 have hw:Region.wanted o (yielded ops a.tmps)=true:=by simp[Region.wanted,hgd]
 rw[if_pos hw];exact wp_slice_state x C ho hx hC h
theorem str_key:Keyed Tryz.prog TStr:=string_keyed Tryz.underlying9
abbrev txtV(l:List Nat):Value:= .string ⟨(textF l).toArray⟩
theorem txt_key(l:List Nat)(h:l.length≤1000000):∃lx,keyOf Tryz.prog TStr (txtV l)=some lx:=by
 refine⟨.string (textF l),?_⟩;have h1:(⟨(textF l).toArray⟩:ByteArray).size≤maxLen:=by
  show(textF l).toArray.size≤maxLen;rw[List.size_toArray,textF_len];simp only[maxLen];omega
 simp[keyOf,mapKey,Tryz.underlying9,h1]
def metK(l:List DS):KV:=((l.zipIdx).drop 1).map (fun p=>(txtV p.1.at_,Value.int .i64 (p.2:Nat)))
theorem metK_snoc{l:List DS}(h:0<l.length)(s:DS):metK (l++[s])=metK l++[(txtV s.at_,.int .i64 (l.length:Nat))]:=by
 unfold metK;rw[List.zipIdx_append,List.drop_append_of_le_length (by simp;omega),List.map_append];simp
theorem metK_mem{l:List DS}{p:Value×Value} :p∈metK l↔∃i,∃h:i<l.length,1≤i∧p=(txtV l[i].at_,.int .i64 (i:Nat)):=by
 unfold metK;rw[List.mem_map];constructor
 ·rintro⟨q,hq,rfl⟩;obtain⟨j,hj,rfl⟩:=List.getElem_of_mem hq;have hj':j+1<l.length:=by simp at hj;omega
  refine⟨j+1,hj',by omega,?_⟩;simp[List.getElem_drop,Nat.add_comm]
 ·rintro⟨i,h,h1,rfl⟩;refine⟨(l[i],i),?_,rfl⟩;refine List.mem_iff_getElem.2 ⟨i-1,by simp;omega,?_⟩;have e:i-1+1=i:=by omega
  have e2:1+(i-1)=i:=by omega
  simp[List.getElem_drop,e2];exact getElem_congr_idx e
def BuildIn(w:World)(pb pd bm:Nat):Prop:=w.heap[pb]? =some (.cells #[ptr pd,.map (some bm)] TDb (0,0))
structure DGood (M:NM) (l:List DS):Prop where
 pos:0<l.length
 fst:∀h:0<l.length,l[0].at_=[]
 lt:∀s∈l,∀p∈s.at_,p<M.pos.length
 small:∀s∈l,s.at_.length≤2000
 acc:∀s∈l,-1≤s.accept∧s.accept<1000000
theorem txtV_inj{a b:List Nat}(ha:∀p∈a,p<2000)(hb:∀p∈b,p<2000)(h:txtV a=txtV b):a=b:=by
 refine textF_inj (fun p hp=>by have:=ha p hp;omega) (fun p hp=>by have:=hb p hp;omega) ?_;injection h with h;have:=congrArg (fun x:ByteArray=>x.data.toList) h;simpa using this
theorem DfaIn.snoc{W w1:World}{pd pm:Nat}{v v1:Value}{l:List DS}{vas:List Value}{cl:List Int}{nc:Int}(h:DfaIn W pd pm v l vas cl nc){s:DS}{va:Value}(hs:s.next.length=256)(ha:AtAt W s.at_ va)
  (hown:OwnK w1 (pd-1) TDs 258 v1 (stC l vas++[stL s va])) (hk:Kp (fun k=>some k=v.ownBlock) W w1):DfaIn (w1.setCell ⟨pd,1,none⟩ v1) pd pm v1 (l++[s]) (vas++[va]) cl nc:=by
 have hk1:K1 pd w1 (w1.setCell ⟨pd,1,none⟩ v1):=Qg _ _;have hA:∀t u,AtAt W t u→AtAt (w1.setCell ⟨pd,1,none⟩ v1) t u:=fun t u hq=>by
  have h1:AtAt w1 t u:=hq.kp hk (fun g cs hg e=>h.other hg (by decide) (by decide) (.inr e.symm));refine h1.kp hk1 (fun g cs hg e=> ?_);subst e;have hb:=hk.blk h.blk (fun e=>by have:=(h.own_lt e.symm).1;omega);rw[hb] at hg;injection hg with hg;injection hg with _ hg _;exact absurd hg (by decide)
 refine⟨?_,h.cls,by simp[h.len],?_,fun t ht=> ?_,fun i a b=> ?_⟩
 ·have hb:=hk.blk h.blk (fun e=>by have:=(h.own_lt e.symm).1;omega);have:=Qk hb 1 v1;rw[this];congr 2
 ·rw[stC_snoc h.len];have hb:=hk.blk h.blk (fun e=>by have:=(h.own_lt e.symm).1;omega);exact hown.kp hk1 (fun g hg e=>by
   subst e;obtain⟨cur,hb2⟩:=hown.blkT hg;rw[hb] at hb2;injection hb2 with hb2;injection hb2 with _ hb2 _;exact absurd hb2 (by decide))
 ·rcases List.mem_append.1 ht with ht|ht
  ·exact h.nx t ht
  ·simp at ht;subst ht;exact hs
 ·have e1:=h.len;by_cases h3:i<l.length
  ·rw[List.getElem_append_left h3,List.getElem_append_left (show i<vas.length by omega)];exact hA _ _ (h.ats i h3 (by omega))
  ·simp only[List.length_append,List.length_singleton] at a;obtain rfl:i=l.length:=by omega
   rw[List.getElem_append_right (Nat.le_refl _),List.getElem_append_right (by omega)];simp only[List.getElem_singleton];exact hA _ _ ha
structure PlaceOut (w w':World) (pb pd bm pm:Nat) (M:NM) (v:Value) (l':List DS) (v':Value) (vas':List Value) (cl:List Int) (nc:Int):Prop where
 d:DfaIn w' pd pm v' l' vas' cl nc
 m:MapA w' TStr bm (metK l')
 b:BuildIn w' pb pd bm
 kp:Kp (DSS pd bm v) w w'
 own:v'.ownBlock=v.ownBlock∨∃g,v'.ownBlock=some g∧w.heap.size≤g
def PlacePost(pb pd bm pm:Nat)(M:NM)(v:Value)(l:List DS)(tl:List Nat)(cl:List Int)(nc:Int)(w:World)(e:Ending)(w':World):Prop:=
 ∃v' vas',e= .returned (.int .i64 (M.place l tl).2)∧PlaceOut w w' pb pd bm pm M v (M.place l tl).1 v' vas' cl nc
section
variable {pb pd bm pm B:Nat} {M:NM} {v vto:Value} {l:List DS} {vas:List Value} {cl:List Int} {nc:Int} {tl:List Nat} {w0 w:World}
theorem PlaceOut.same(hd:DfaIn w pd pm v l vas cl nc)(hm:MapA w TStr bm (metK l))(hb:BuildIn w pb pd bm){w':World}(hk:Kn w w'):PlaceOut w w' pb pd bm pm M v l v vas cl nc:=
 ⟨hd.kn hk,hm.kn hk,hk.blk hb (fun x=>x),hk.weak,.inl rfl⟩
theorem place_nil(hd:DfaIn w pd pm v l vas cl nc)(hm:MapA w TStr bm (metK l))(hb:BuildIn w pb pd bm)(hv:OwnI w B vto tl)(hn:tl=[]):
  Calls Tryz.prog 266 #[ptr pb,vto] w (PlacePost pb pd bm pm M v l tl cl nc w):=by
 obtain⟨a,c,rfl,_⟩:=hv.look;subst hn;have HO:=Qh (PlaceOut.same (M:=M) hd hm hb (Qb _ _));have HP:Hid (M.place l []=(l,-1)):=Qh (by simp[NM.place]);clear hd hm hb hv;go_enter Tryz.func266,Tryz.ntmps266;go_wp2_with fail
 go_ret;refine⟨v,vas,by rw[HP.out];try rfl,by rw[HP.out];exact HO.out⟩
theorem place_find{n:Nat}(hn:tl≠[])(hf:l.findIdx? (fun s=>decide (s.at_=tl))=some n):M.place l tl=(l,(n:Int)):=by
 unfold NM.place;rw[if_neg hn,hf]
theorem place_miss(hn:tl≠[])(hf:l.findIdx? (fun s=>decide (s.at_=tl))=none):M.place l tl=(l++[⟨tl,NM.zeros,M.accept tl⟩],(l.length:Int)):=by
 unfold NM.place;rw[if_neg hn,hf]
theorem place_met(n:Nat)(hd:DfaIn w pd pm v l vas cl nc)(hm:MapA w TStr bm (metK l))(hb:BuildIn w pb pd bm)(hv:OwnI w B vto tl)(hn:tl≠[])(hg:DGood M l)(htl:∀p∈tl,p<2000)(htn:tl.length≤2000)
  (hf:l.findIdx? (fun s=>decide (s.at_=tl))=some n):
  Calls Tryz.prog 266 #[ptr pb,vto] w (PlacePost pb pd bm pm M v l tl cl nc w):=by
 have HT:=Qh (text_c B vto tl w hv (fun p hp=>by have:=htl p hp;omega) (by omega));obtain⟨a,c,rfl,_⟩:=hv.look;have h0:0<tl.length:=List.length_pos_iff.2 hn;have h0':((tl.length:Int)==0)=false:=by rw[beq_eq_false_iff_ne];omega
 have HP:=Qh (place_find (M:=M) hn hf);obtain⟨hnl,hat,_⟩:=List.findIdx?_eq_some_iff_getElem.1 hf;have hat':l[n].at_=tl:=by simpa using hat
 have hmem:(txtV tl,Value.int .i64 (n:Nat))∈metK l:=metK_mem.2 ⟨n,hnl,by
  rcases Nat.eq_zero_or_pos n with e|e
  ·subst e;rw[hg.fst hnl] at hat';exact absurd hat'.symm hn
  ·exact e,by rw[hat']⟩
 obtain⟨lx,hkey⟩:=txt_key tl (by omega);have HX:=Qh (And.intro hmem hkey);have HO:=Qh (fun w' (hk:Kn w w')=>PlaceOut.same (M:=M) hd hm hb hk);have HM:=Qh hm;have hb0:=Qa hb 0;have hb1:=Qa hb 1;simp only[PE] at hb0 hb1;clear hd hm hb hv hf hat hat' hmem hkey hg htl hn;go_enter Tryz.func266,Tryz.ntmps266;go_wp2_with fail
 refine HT.out.mono ?_;rintro e w1 ⟨rfl,hk1⟩;have c0:=Qc hk1 hb0;have c1:=Qc hk1 hb1;clear hb0 hb1;go_wp2_with (at_lookup;refine Ym rfl (.tmp 17) (.tmp 18) true rfl str_key Tryz.underlying179 rfl (HM.out.kn hk1) (txtV tl) lx rfl HX.out.2 (.int .i64 (n:Nat)) HX.out.1 ?_)
 go_ret;refine⟨v,vas,by rw[HP.out];try rfl,by rw[HP.out];exact HO.out w1 hk1⟩
theorem place_new(hN:NfaAt w0 pm M)(ok:NMok M)(hk0:Kn w0 w)(hp0:w0.heap.size+1≤pd)(hm0:w0.heap.size≤bm)(hd:DfaIn w pd pm v l vas cl nc)(hm:MapA w TStr bm (metK l))(hb:BuildIn w pb pd bm)(hv:OwnI w B vto tl)(hn:tl≠[])(hg:DGood M l)
  (htl:∀p∈tl,p<M.pos.length) (htn:tl.length≤2000) (hll:l.length≤10000) (hf:l.findIdx? (fun s=>decide (s.at_=tl))=none):
  Calls Tryz.prog 266 #[ptr pb,vto] w (PlacePost pb pd bm pm M v l tl cl nc w):=by
 have hle:=ok.len;have HT:=Qh (text_c B vto tl w hv (fun p hp=>by have:=htl p hp;omega) (by omega));obtain⟨a,c,rfl,_⟩:=hv.look;have h0:0<tl.length:=List.length_pos_iff.2 hn;have h0':((tl.length:Int)==0)=false:=by rw[beq_eq_false_iff_ne];omega
 have HP:=Qh (place_miss (M:=M) hn hf);have hno:∀p∈metK l,p.1≠txtV tl:=by
  intro p hp e;obtain⟨i,hi,h1,rfl⟩:=metK_mem.1 hp;have h2:=txtV_inj (fun p hp=>by have:=hg.lt _ (List.getElem_mem hi) p hp;omega) (fun p hp=>by have:=htl p hp;omega) e;have h3:=List.findIdx?_eq_none_iff.1 hf _ (List.getElem_mem hi);simp[h2] at h3
 obtain⟨lx,hkey⟩:=txt_key tl (by omega);have HX:=Qh (And.intro hno hkey);have HN:=Qh hN;have HOK:=Qh ok;have HTL:=Qh htl;have HNE:=Qh hn;have HMS:=Qh (metK_snoc hg.pos ⟨tl,NM.zeros,M.accept tl⟩);have hbm:=hm.lt;obtain⟨av,cv,hvs⟩:=hd.slice;have hpbd:pb≠pd:=fun e=>by
  subst e;have h1:=hd.blk;rw[hb] at h1;injection h1 with h1;injection h1 with _ h1 _;exact absurd h1 (by decide)
 have hpbm:pb≠bm:=fun e=>by
  subst e;obtain⟨es,ck,h1,_⟩:=hm;rw[hb] at h1;injection h1 with h1;cases h1
 have hpdm:pd≠bm:=fun e=>by
  subst e;obtain⟨es,ck,h1,_⟩:=hm;rw[hd.blk] at h1;injection h1 with h1;cases h1
 have hob:v.ownBlock≠some bm:=fun e=>by
  obtain⟨cur,h2⟩:=hd.own_blk e;obtain⟨es,ck,h1,_⟩:=hm;rw[h2] at h1;injection h1 with h1;cases h1
 have HNEQ:=Qh (And.intro hpbd (And.intro hpbm (And.intro hpdm hob)));have hb0:=Qa hb 0;have hb1:=Qa hb 1;obtain⟨hd0,hd1,_⟩:=hd.cells;rw[hvs] at hd1;simp only[PE] at hb0 hb1;have H:=Qh (And.intro hd (And.intro hm (And.intro hb (And.intro hv hk0))));have hzz:∀w,(zeroValue 3).run Tryz.prog w= .ok (.int .i64 0) w:=Tryz.zeroValue3;have HZ:=Qh hzz;clear hd hm hb hv hf hno hkey hg htl hn hN ok hk0 hpbd hpbm hpdm hob hzz;go_enter Tryz.func266,Tryz.ntmps266;go_wp2_with fail
 refine HT.out.mono ?_;rintro e w1 ⟨rfl,hk1⟩;have c0:=Qc hk1 hb0;have c1:=Qc hk1 hb1;have c2:=Qc hk1 hd0;have c3:=Qc hk1 hd1;clear hb0 hb1 hd0 hd1;have HV:=Qh hvs;clear hvs;go_wp2_with (first
  |(at_lookup;refine YZ rfl (.tmp 17) (.tmp 18) true rfl str_key Tryz.underlying179 (.int .i64 0) HZ.out rfl (H.out.2.1.kn hk1) (txtV tl) lx rfl HX.out.2 HX.out.1 ?_)
  |(at_mapUpdate;refine wpList_put0 rfl (.tmp 35) (.tmp 36) (.tmp 37) rfl str_key Tryz.underlying179 rfl (H.out.2.1.kn hk1) (txtV tl) (.int .i64 (l.length:Nat)) lx rfl rfl HX.out.2 HX.out.1 ?_;intro wk hmk hkk))
 have hnm:∀g:Nat,DSS pd bm v g→w0.heap.size≤g:=fun g hg=>by
  rcases hg with rfl|rfl|hg
  ·omega
  ·exact hm0
  ·have:=(H.out.1.own_lt hg).1;omega
 have HKm:Kp (DSS pd bm v) w wk:=hk1.weak.trans (hkk.mono (fun i _ e=> .inr (.inl e)));have HK0:Hid (Kn w0 wk):=Qh (H.out.2.2.2.2.trans' HKm (fun i hi e=>by have:=hnm i e;omega));have hDk:DfaIn wk pd pm v l vas cl nc:=by
  have h1:=H.out.1.kn hk1;refine⟨hkk.blk h1.blk HNEQ.out.2.2.1,h1.cls,h1.len,h1.row.kp hkk (fun g hg e=>HNEQ.out.2.2.2 (by rw[hg,e])),h1.nx,fun i a b=>(h1.ats i a b).kp hkk (fun g cs hg e=> ?_)⟩;subst e;obtain⟨es,ck,h2,_⟩:=H.out.2.1.kn hk1;rw[h2] at hg;injection hg with hg;cases hg
 have HD:=Qh hDk;have HVV:Hid (OwnI wk B (.slice a tl.length c) tl):=Qh (by
  have h1:=H.out.2.2.2.1.kn hk1;refine⟨h1.1,?_⟩;rcases h1.2 with h2|⟨g,cap,cur,h2,h3,h4,h5⟩
  ·exact .inl h2
  ·refine .inr ⟨g,cap,cur,h2,h3,hkk.blk h4 (fun e=> ?_),h5⟩;subst e;obtain⟨es,ck,h6,_⟩:=H.out.2.1.kn hk1;rw[h6] at h4;injection h4 with h4;cases h4)
 have HB:Hid (wk.heap[pb]? =some (.cells #[ptr pd,.map (some bm)] TDb (0,0))):=Qh (hkk.blk (hk1.blk H.out.2.2.1 (fun x=>x)) HNEQ.out.2.1);have HMM:=Qh hmk;have HPB:=Qh HNEQ.out.1;obtain⟨ie,hi,hz0,hz1,hz2⟩:=state_info;have HI:=Qh (And.intro hi (And.intro hz0 (And.intro hz1 hz2)));have hbd:=build_state a tl.length c;have hsl:=fun(acc:Int)=>slice_state (newS (.slice a tl.length c) acc) (Ya _ _)
 clear c0 c1 c2 c3 hDk hmk hkk hi hz0 hz1 hz2 hnm;go_upto_region 8 with fail
 go_frame
 go_cut [6] (fun s6 wc=>∃(v1:Value) (vas1:List Value),s6= .int .i64 (l.length:Nat)∧(v1.ownBlock=v.ownBlock∨∃g,v1.ownBlock=some g∧wk.heap.size≤g)∧Hid (DfaIn wc pd pm v1 (l++[⟨tl,NM.zeros,M.accept tl⟩]) vas1 cl nc)∧Kp (fun k=>k=pd∨v.ownBlock=some k) wk wc)
 case first=>
  have xb:=Qa HB.out 0;simp only[List.getElem?_toArray,List.getElem?_cons_zero] at xb;refine wp_region_held_drew (S:=fun w'=>w'.cell? ⟨pb,0,none⟩=some (ptr pd)∧w'.cell? ⟨pd,0,none⟩=some (ptr pm)) (by kernel_rfl) ⟨Qc ((Qb _ _).drew) xb,Qc ((Qb _ _).drew) HD.out.cells.1⟩ (fun hHeld=> ?_);obtain⟨wd,hwd⟩:∃z,z=wk.drew:=⟨_,rfl⟩;have HKd:Kn wk wd:=by rw[hwd];exact(Qb _ _).drew
  rw[←hwd] at hHeld⊢;have D0:=HD.out.kn HKd;have V0:=HVV.out.kn HKd;have K00:=HK0.out.trans HKd;have KW0:=HKd;have C0_0:=hHeld.1;have P0_0:=hHeld.2;clear hwd HKd;refine TW 0 38 ?_;refine TW 1 39 ?_;refine TW 2 40 ?_;refine TH 3 41 ?_;refine TW 4 42 ?_;refine TW 5 43 ?_;refine TW 6 44 ?_;refine TH 7 45 ?_;refine TW 8 46 ?_;refine TW 9 47 ?_;refine TW 11 49 ?_;refine TW 12 50 ?_;refine TW 13 51 ?_;refine TW 14 52 ?_;refine TH 15 53 ?_;refine TW 16 54 ?_;refine TW 17 55 ?_;refine TH 18 56 ?_;refine TW 19 57 ?_;refine RH2 10 20 (fun K hK=> ?_) (fun K hK=> ?_)
  ·have xq:=D0.cells.2.1;rw[HV.out] at xq;go_simp;rw[←HV.out];clear xq;refine hK.out _ _ ⟨C0_0,P0_0⟩ (fun hHeld=> ?_);clear hK K
   try simp only[PP]
   refine RH 20 (fun K hK=> ?_);go_simp
   go_at_call 312
   refine(accept_c pm B M (.slice a tl.length c) tl wd (HN.out.kn K00) HOK.out V0 HTL.out).mono ?_;rintro e u1 ⟨rfl,hk1⟩;have D1:=D0.kn hk1;have V1:=V0.kn hk1;have K01:=K00.trans hk1;have KW1:=KW0.trans hk1;have C0_1:=Qc hk1 C0_0;have P0_1:=Qc hk1 P0_0;clear hk1 D0 V0 K00 KW0 C0_0 P0_0;dsimp only;refine hK.out _ _ ⟨C0_1,P0_1⟩ (fun hHeld=> ?_);clear hK K
   try simp only[PP]
   refine TW 21 59 ?_;refine RH 22 (fun K hK=> ?_);refine step_slice_state (by rfl) (.tmp 59) (newS (.slice a tl.length c) (M.accept tl)) (by rfl) (by rfl) (Ya _ _) ?_;obtain⟨u2,hw2⟩:∃z,z=u1.alloc (.cells (newS (.slice a tl.length c) (M.accept tl)) TDs):=⟨_,rfl⟩;have hk2:Kn u1 u2:=by rw[hw2];exact(Qb _ _).alloc _
   obtain⟨ge,hge⟩:∃z,z=u1.heap.size:=⟨_,rfl⟩;have GE2:u2.heap[ge]? =some (.cells (newS (.slice a tl.length c) (M.accept tl)) TDs):=by rw[hw2,hge];exact Qf _ _
   have D2:=D1.kn hk2;have V2:=V1.kn hk2;have K02:=K01.trans hk2;have KW2:=KW1.trans hk2;have C0_2:=Qc hk2 C0_1;have P0_2:=Qc hk2 P0_1;rw[←hw2,←hge];clear hk2 hw2 hge D1 V1 K01 KW1 C0_1 P0_1;refine hK.out _ _ ⟨C0_2,P0_2⟩ (fun hHeld=> ?_);clear hK K
   try simp only[PP]
   refine RH 23 (fun K hK=> ?_);refine Qq u2 (by rfl) _ _ 355 (by rfl) (pd-1) TDs ie (.agg (newS (.slice none 0 0) 0)) 258 2080 Tryz.underlying355 HI.out.1 HI.out.2.1 HI.out.2.2.1 HI.out.2.2.2 (Ya _ _) (by decide) v (stC l vas) (by rfl) D2.row ge 1 (by rfl) _ TDs (0,0) GE2 (Ya _ _) (newS_one _ _ _ _) (by rw[Za D2.len];simp only[maxLen];omega) (by rw[Za D2.len];omega) (by have:=D2.lt;omega) ?_;intro v1 u3 hown hka hat;rw[newS_eq tl] at hown;have hsn:=D2.snoc (s:=⟨tl,NM.zeros,M.accept tl⟩) (by rfl) (.inr ⟨HNE.out,B,V2⟩) hown hka;have HSN:=Qh hsn;obtain⟨av1,cv1,hv1,_⟩:=hown.row (k:=258) (fun C hC=>by rcases List.mem_append.1 hC with h|h;exact stC_all D2.nx C h;simp at h;rw[h];exact stL_len rfl);obtain⟨nl1,hv1⟩:∃n,v1= .slice av1 n cv1:=⟨_,hv1⟩;have HV1:=Qh hv1;have hpb:=hka.blk D2.blk (fun e=>by have:=(D2.own_lt e.symm).1;omega);have C0_3:=Qi hka C0_2 (fun e=>D2.other (KW2.blk HB.out (fun x=>x)) (by decide) (by decide) (.inr e.symm));have P0_3:u3.cell? ⟨pd,0,none⟩=some (ptr pm):=by rw[Qa hpb];try rfl
   have KX:Kp (fun k=>k=pd∨v.ownBlock=some k) wk u3:=KW2.weak.trans (hka.mono (fun i _ e=> .inr e.symm));have HAT:Hid (v1.ownBlock=v.ownBlock∨∃g,v1.ownBlock=some g∧wk.heap.size≤g):=Qh (by rcases hat with e|e;exact .inl e;exact .inr ⟨_,e,KW2.size⟩);clear hsn hown hka hat hv1 D2 V2 K02 KW2 C0_2 P0_2 GE2;refine hK.out _ _ ⟨C0_3,P0_3⟩ (fun hHeld=> ?_);clear hK K
   try simp only[PP]
   refine TW 24 62 ?_;refine TW 25 63 ?_;refine RH 26 (fun K hK=> ?_);have xp1:u3.cell? ⟨pd,1,none⟩=some v:=by rw[Qa hpb];try rfl
   have yp1:=Qd hpb 1;rw[HV1.out];go_simp;rw[←HV1.out];obtain⟨w9,hw9⟩:∃z,z=u3.setCell ⟨pd,1,none⟩ v1:=⟨_,rfl⟩;have hk9:K1 pd u3 w9:=by rw[hw9];exact Qg _ _
   rw[←hw9] at HSN⊢;have KX9:=KX.trans (hk9.mono (fun i _ e=> .inl e));have C0_9:=Qi hk9 C0_3 (show¬pb=pd from HPB.out);have P0_9:=HSN.out.cells.1;clear xp1 yp1 hpb hw9 hk9 KX C0_3 P0_3;refine hK.out _ _ ⟨C0_9,P0_9⟩ (fun hHeld=> ?_);clear hK K
   try simp only[PP]
   refine RD ?_;go_wp2_with fail
   go_meet
   case rel=>exact⟨v1,_,rfl,HAT.out,Qh HSN.out,KX9⟩
  ·go_simp
   go_at_call 312
   refine(accept_c pm B M (.slice a tl.length c) tl wd (HN.out.kn K00) HOK.out V0 HTL.out).mono ?_;rintro e u4 ⟨rfl,hk4⟩;have D4:=D0.kn hk4;have V4:=V0.kn hk4;have K04:=K00.trans hk4;have KW4:=KW0.trans hk4;have C0_4:=Qc hk4 C0_0;have P0_4:=Qc hk4 P0_0;clear hk4 D0 V0 K00 KW0 C0_0 P0_0;dsimp only;refine hK.out _ _ ⟨C0_4,P0_4⟩ (fun hHeld=> ?_);clear hK K
   try simp only[PP]
   refine TW 21 59 ?_;refine RH2 10 22 (fun K hK=> ?_) (fun K hK=> ?_)
   ·have xq:=D4.cells.2.1;rw[HV.out] at xq;go_simp;rw[←HV.out];clear xq;refine hK.out _ _ ⟨C0_4,P0_4⟩ (fun hHeld=> ?_);clear hK K
    try simp only[PP]
    refine RH 22 (fun K hK=> ?_);refine step_slice_state (by rfl) (.tmp 59) (newS (.slice a tl.length c) (M.accept tl)) (by rfl) (by rfl) (Ya _ _) ?_;obtain⟨u5,hw5⟩:∃z,z=u4.alloc (.cells (newS (.slice a tl.length c) (M.accept tl)) TDs):=⟨_,rfl⟩;have hk5:Kn u4 u5:=by rw[hw5];exact(Qb _ _).alloc _
    obtain⟨ge,hge⟩:∃z,z=u4.heap.size:=⟨_,rfl⟩;have GE5:u5.heap[ge]? =some (.cells (newS (.slice a tl.length c) (M.accept tl)) TDs):=by rw[hw5,hge];exact Qf _ _
    have D5:=D4.kn hk5;have V5:=V4.kn hk5;have K05:=K04.trans hk5;have KW5:=KW4.trans hk5;have C0_5:=Qc hk5 C0_4;have P0_5:=Qc hk5 P0_4;rw[←hw5,←hge];clear hk5 hw5 hge D4 V4 K04 KW4 C0_4 P0_4;refine hK.out _ _ ⟨C0_5,P0_5⟩ (fun hHeld=> ?_);clear hK K
    try simp only[PP]
    refine RH 23 (fun K hK=> ?_);refine Qq u5 (by rfl) _ _ 355 (by rfl) (pd-1) TDs ie (.agg (newS (.slice none 0 0) 0)) 258 2080 Tryz.underlying355 HI.out.1 HI.out.2.1 HI.out.2.2.1 HI.out.2.2.2 (Ya _ _) (by decide) v (stC l vas) (by rfl) D5.row ge 1 (by rfl) _ TDs (0,0) GE5 (Ya _ _) (newS_one _ _ _ _) (by rw[Za D5.len];simp only[maxLen];omega) (by rw[Za D5.len];omega) (by have:=D5.lt;omega) ?_;intro v1 u6 hown hka hat;rw[newS_eq tl] at hown;have hsn:=D5.snoc (s:=⟨tl,NM.zeros,M.accept tl⟩) (by rfl) (.inr ⟨HNE.out,B,V5⟩) hown hka;have HSN:=Qh hsn;obtain⟨av1,cv1,hv1,_⟩:=hown.row (k:=258) (fun C hC=>by rcases List.mem_append.1 hC with h|h;exact stC_all D5.nx C h;simp at h;rw[h];exact stL_len rfl);obtain⟨nl1,hv1⟩:∃n,v1= .slice av1 n cv1:=⟨_,hv1⟩;have HV1:=Qh hv1;have hpb:=hka.blk D5.blk (fun e=>by have:=(D5.own_lt e.symm).1;omega);have C0_6:=Qi hka C0_5 (fun e=>D5.other (KW5.blk HB.out (fun x=>x)) (by decide) (by decide) (.inr e.symm));have P0_6:u6.cell? ⟨pd,0,none⟩=some (ptr pm):=by rw[Qa hpb];try rfl
    have KX:Kp (fun k=>k=pd∨v.ownBlock=some k) wk u6:=KW5.weak.trans (hka.mono (fun i _ e=> .inr e.symm));have HAT:Hid (v1.ownBlock=v.ownBlock∨∃g,v1.ownBlock=some g∧wk.heap.size≤g):=Qh (by rcases hat with e|e;exact .inl e;exact .inr ⟨_,e,KW5.size⟩);clear hsn hown hka hat hv1 D5 V5 K05 KW5 C0_5 P0_5 GE5;refine hK.out _ _ ⟨C0_6,P0_6⟩ (fun hHeld=> ?_);clear hK K
    try simp only[PP]
    refine TW 24 62 ?_;refine TW 25 63 ?_;refine RH 26 (fun K hK=> ?_);have xp1:u6.cell? ⟨pd,1,none⟩=some v:=by rw[Qa hpb];try rfl
    have yp1:=Qd hpb 1;rw[HV1.out];go_simp;rw[←HV1.out];obtain⟨w9,hw9⟩:∃z,z=u6.setCell ⟨pd,1,none⟩ v1:=⟨_,rfl⟩;have hk9:K1 pd u6 w9:=by rw[hw9];exact Qg _ _
    rw[←hw9] at HSN⊢;have KX9:=KX.trans (hk9.mono (fun i _ e=> .inl e));have C0_9:=Qi hk9 C0_6 (show¬pb=pd from HPB.out);have P0_9:=HSN.out.cells.1;clear xp1 yp1 hpb hw9 hk9 KX C0_6 P0_6;refine hK.out _ _ ⟨C0_9,P0_9⟩ (fun hHeld=> ?_);clear hK K
    try simp only[PP]
    refine RD ?_;go_wp2_with fail
    go_meet
    case rel=>exact⟨v1,_,rfl,HAT.out,Qh HSN.out,KX9⟩
   ·refine step_slice_state (by rfl) (.tmp 59) (newS (.slice a tl.length c) (M.accept tl)) (by rfl) (by rfl) (Ya _ _) ?_;obtain⟨u7,hw7⟩:∃z,z=u4.alloc (.cells (newS (.slice a tl.length c) (M.accept tl)) TDs):=⟨_,rfl⟩;have hk7:Kn u4 u7:=by rw[hw7];exact(Qb _ _).alloc _
    obtain⟨ge,hge⟩:∃z,z=u4.heap.size:=⟨_,rfl⟩;have GE7:u7.heap[ge]? =some (.cells (newS (.slice a tl.length c) (M.accept tl)) TDs):=by rw[hw7,hge];exact Qf _ _
    have D7:=D4.kn hk7;have V7:=V4.kn hk7;have K07:=K04.trans hk7;have KW7:=KW4.trans hk7;have C0_7:=Qc hk7 C0_4;have P0_7:=Qc hk7 P0_4;rw[←hw7,←hge];clear hk7 hw7 hge D4 V4 K04 KW4 C0_4 P0_4;refine hK.out _ _ ⟨C0_7,P0_7⟩ (fun hHeld=> ?_);clear hK K
    try simp only[PP]
    refine RH 10 (fun K hK=> ?_);have xq:=D7.cells.2.1;rw[HV.out] at xq;go_simp;rw[←HV.out];clear xq;refine hK.out _ _ ⟨C0_7,P0_7⟩ (fun hHeld=> ?_);clear hK K
    try simp only[PP]
    refine RH 23 (fun K hK=> ?_);refine Qq u7 (by rfl) _ _ 355 (by rfl) (pd-1) TDs ie (.agg (newS (.slice none 0 0) 0)) 258 2080 Tryz.underlying355 HI.out.1 HI.out.2.1 HI.out.2.2.1 HI.out.2.2.2 (Ya _ _) (by decide) v (stC l vas) (by rfl) D7.row ge 1 (by rfl) _ TDs (0,0) GE7 (Ya _ _) (newS_one _ _ _ _) (by rw[Za D7.len];simp only[maxLen];omega) (by rw[Za D7.len];omega) (by have:=D7.lt;omega) ?_;intro v1 u8 hown hka hat;rw[newS_eq tl] at hown;have hsn:=D7.snoc (s:=⟨tl,NM.zeros,M.accept tl⟩) (by rfl) (.inr ⟨HNE.out,B,V7⟩) hown hka;have HSN:=Qh hsn;obtain⟨av1,cv1,hv1,_⟩:=hown.row (k:=258) (fun C hC=>by rcases List.mem_append.1 hC with h|h;exact stC_all D7.nx C h;simp at h;rw[h];exact stL_len rfl);obtain⟨nl1,hv1⟩:∃n,v1= .slice av1 n cv1:=⟨_,hv1⟩;have HV1:=Qh hv1;have hpb:=hka.blk D7.blk (fun e=>by have:=(D7.own_lt e.symm).1;omega);have C0_8:=Qi hka C0_7 (fun e=>D7.other (KW7.blk HB.out (fun x=>x)) (by decide) (by decide) (.inr e.symm));have P0_8:u8.cell? ⟨pd,0,none⟩=some (ptr pm):=by rw[Qa hpb];try rfl
    have KX:Kp (fun k=>k=pd∨v.ownBlock=some k) wk u8:=KW7.weak.trans (hka.mono (fun i _ e=> .inr e.symm));have HAT:Hid (v1.ownBlock=v.ownBlock∨∃g,v1.ownBlock=some g∧wk.heap.size≤g):=Qh (by rcases hat with e|e;exact .inl e;exact .inr ⟨_,e,KW7.size⟩);clear hsn hown hka hat hv1 D7 V7 K07 KW7 C0_7 P0_7 GE7;refine hK.out _ _ ⟨C0_8,P0_8⟩ (fun hHeld=> ?_);clear hK K
    try simp only[PP]
    refine TW 24 62 ?_;refine TW 25 63 ?_;refine RH 26 (fun K hK=> ?_);have xp1:u8.cell? ⟨pd,1,none⟩=some v:=by rw[Qa hpb];try rfl
    have yp1:=Qd hpb 1;rw[HV1.out];go_simp;rw[←HV1.out];obtain⟨w9,hw9⟩:∃z,z=u8.setCell ⟨pd,1,none⟩ v1:=⟨_,rfl⟩;have hk9:K1 pd u8 w9:=by rw[hw9];exact Qg _ _
    rw[←hw9] at HSN⊢;have KX9:=KX.trans (hk9.mono (fun i _ e=> .inl e));have C0_9:=Qi hk9 C0_8 (show¬pb=pd from HPB.out);have P0_9:=HSN.out.cells.1;clear xp1 yp1 hpb hw9 hk9 KX C0_8 P0_8;refine hK.out _ _ ⟨C0_9,P0_9⟩ (fun hHeld=> ?_);clear hK K
    try simp only[PP]
    refine RD ?_;go_wp2_with fail
    go_meet
    case rel=>exact⟨v1,_,rfl,HAT.out,Qh HSN.out,KX9⟩
 case rest=>
  obtain⟨v1,vas1,rfl,hat,hdo,hkc⟩:=hcut;have hMc:=HMM.out.kp hkc (fun e=>by rcases e with e|e;exact HNEQ.out.2.2.1 e.symm;exact HNEQ.out.2.2.2 e);have hBc:=hkc.blk HB.out (HD.out.other HB.out (by decide) (by decide));have hKc:=HKm.trans (hkc.mono (fun i _ e=>e.elim .inl (fun e=> .inr (.inr e))));have HC:=Qh (And.intro hMc (And.intro hBc hKc));clear hMc hBc hKc;have hat2:Hid (v1.ownBlock=v.ownBlock∨∃g,v1.ownBlock=some g∧w.heap.size≤g):=Qh (by
   rcases hat with e|⟨g,e,hg⟩
   ·exact .inl e
   ·exact .inr ⟨g,e,Nat.le_trans HKm.size hg⟩)
  clear hat;go_wp2_with fail
  go_ret;refine⟨v1,vas1,by rw[HP.out];try rfl,?_⟩;rw[HP.out];exact⟨hdo.out,by rw[HMS.out];exact HC.out.1,HC.out.2.1,HC.out.2.2,hat2.out⟩
theorem place_c(hN:NfaAt w0 pm M)(ok:NMok M)(hk0:Kn w0 w)(hp0:w0.heap.size+1≤pd)(hm0:w0.heap.size≤bm)(hd:DfaIn w pd pm v l vas cl nc)(hm:MapA w TStr bm (metK l))(hb:BuildIn w pb pd bm)(hv:OwnI w B vto tl)(hg:DGood M l)
  (htl:∀p∈tl,p<M.pos.length) (htn:tl.length≤2000) (hll:l.length≤10000):
  Calls Tryz.prog 266 #[ptr pb,vto] w (PlacePost pb pd bm pm M v l tl cl nc w):=by
 have hle:=ok.len;by_cases hn:tl=[]
 ·exact place_nil hd hm hb hv hn
 ·cases hf:l.findIdx? (fun s=>decide (s.at_=tl)) with
  |some n=>exact place_met n hd hm hb hv hn hg (fun p hp=>by have:=htl p hp;omega) htn hf
  |none=>exact place_new hN ok hk0 hp0 hm0 hd hm hb hv hn hg htl htn hll hf
end
def Yc(l:List DS)(n c:Nat)(x:Int):List DS:=l.modify n (fun s=> {s with next:=s.next.set c x})
theorem QP(l:List DS)(n c:Nat)(x:Int):(Yc l n c x).length=l.length:=by simp[Yc]
theorem dsNext_get(l:List DS)(n c:Nat)(x:Int)(i:Nat)(h:i<(Yc l n c x).length)(h':i<l.length):(Yc l n c x)[i]=if n=i then {l[i] with next:=l[i].next.set c x} else l[i]:=by
 simp only[Yc,List.getElem_modify]
theorem dsNext_at(l:List DS)(n c:Nat)(x:Int)(i:Nat)(h:i<(Yc l n c x).length)(h':i<l.length):(Yc l n c x)[i].at_=l[i].at_:=by
 rw[dsNext_get l n c x i h h'];split<;>rfl
theorem dsNext_acc(l:List DS)(n c:Nat)(x:Int)(i:Nat)(h:i<(Yc l n c x).length)(h':i<l.length):(Yc l n c x)[i].accept=l[i].accept:=by
 rw[dsNext_get l n c x i h h'];split<;>rfl
theorem dsNext_mem{l:List DS}{n c:Nat}{x:Int}{s:DS}(h:s∈Yc l n c x):∃t∈l,s.at_=t.at_∧s.accept=t.accept∧s.next.length=t.next.length:=by
 obtain⟨i,hi,rfl⟩:=List.getElem_of_mem h;have hi':i<l.length:=by rw[QP] at hi;exact hi
 refine⟨l[i],List.getElem_mem hi',dsNext_at _ _ _ _ _ hi hi',dsNext_acc _ _ _ _ _ hi hi',?_⟩;rw[dsNext_get l n c x i hi hi'];split<;>simp
theorem metK_next(l:List DS)(n c:Nat)(x:Int):metK (Yc l n c x)=metK l:=by
 unfold metK;have e:∀L:List DS,L.zipIdx.map (fun p=>(txtV p.1.at_,Value.int .i64 (p.2:Nat)))=(L.map (·.at_)).zipIdx.map (fun p=>(txtV p.1,Value.int .i64 (p.2:Nat))):=fun L=>by
  rw[List.zipIdx_map,List.map_map];try rfl
 have e2:(Yc l n c x).map (·.at_)=l.map (·.at_):=by
  refine List.ext_getElem (by simp[Yc]) (fun i h1 h2=> ?_);rw[List.getElem_map,List.getElem_map];exact dsNext_at _ _ _ _ _ _ _
 rw[List.map_drop,List.map_drop,e,e,e2]
theorem DGood.next{M:NM}{l:List DS}(h:DGood M l)(n c:Nat)(x:Int):DGood M (Yc l n c x):=
 ⟨by rw[QP];exact h.pos,fun h0=>by rw[dsNext_at l n c x 0 h0 h.pos];exact h.fst h.pos,
  fun s hs=>by obtain⟨t,ht,h1,_⟩:=dsNext_mem hs;rw[h1];exact h.lt t ht,
  fun s hs=>by obtain⟨t,ht,h1,_⟩:=dsNext_mem hs;rw[h1];exact h.small t ht,
  fun s hs=>by obtain⟨t,ht,_,h1,_⟩:=dsNext_mem hs;rw[h1];exact h.acc t ht⟩
theorem place_good{M:NM}{l:List DS}(ok:NMok M)(h:DGood M l)(tl:List Nat)(hlt:∀p∈tl,p<M.pos.length)(hs:tl.length≤2000):
  DGood M (M.place l tl).1∧l.length≤(M.place l tl).1.length∧(M.place l tl).1.length≤l.length+1∧-1≤(M.place l tl).2∧(M.place l tl).2<(M.place l tl).1.length:=by
 unfold NM.place;split
 ·exact⟨h,Nat.le_refl _,Nat.le_succ _,by omega,by have:=h.pos;dsimp only;omega⟩
 ·cases hf:l.findIdx? (fun s=>decide (s.at_=tl)) with
  |some n=>
   obtain⟨hn,_⟩:=List.findIdx?_eq_some_iff_getElem.1 hf;exact⟨h,Nat.le_refl _,Nat.le_succ _,by dsimp only;omega,by dsimp only;omega⟩
  |none=>
   refine⟨⟨by simp,fun h0=> ?_,fun s hs'=> ?_,fun s hs'=> ?_,fun s hs'=> ?_⟩,by simp,by simp,by dsimp only;omega,by simp;omega⟩
   ·rw[List.getElem_append_left h.pos];exact h.fst h.pos
   ·rcases List.mem_append.1 hs' with h1|h1
    ·exact h.lt s h1
    ·simp at h1;subst h1;exact hlt
   ·rcases List.mem_append.1 hs' with h1|h1
    ·exact h.small s h1
    ·simp at h1;subst h1;exact hs
   ·rcases List.mem_append.1 hs' with h1|h1
    ·exact h.acc s h1
    ·simp at h1;subst h1;have:=accK_ge M tl hlt ok tl.length (Nat.le_refl _);simpa[accK,NM.accept] using this
def hasF(M:NM)(nx:List Nat)(c:Nat):List Nat:=nx.filter (fun p=>M.has p c)
def fillK(M:NM)(nx:List Nat)(n:Nat)(l:List DS)(c:Nat):List DS:=(List.range c).foldl (M.fillB nx n) l
theorem fillK_succ(M:NM)(nx:List Nat)(n:Nat)(l:List DS)(c:Nat):fillK M nx n l (c+1)=Yc (M.place (fillK M nx n l c) (hasF M nx c)).1 n c (M.place (fillK M nx n l c) (hasF M nx c)).2:=by
 unfold fillK;rw[List.range_succ,List.foldl_append];try rfl
theorem fillK_good{M:NM}{l:List DS}(ok:NMok M)(h:DGood M l){nx:List Nat}{n:Nat}(hnx:∀p∈nx,p<M.pos.length)(hl:nx.length≤2000):∀c,DGood M (fillK M nx n l c)∧l.length≤(fillK M nx n l c).length∧(fillK M nx n l c).length≤l.length+c
 |0=>⟨h,Nat.le_refl _,Nat.le_refl _⟩
 |c+1=>by
  obtain⟨h1,h2,h3⟩:=fillK_good ok h (n:=n) hnx hl c;obtain⟨h4,h5,h6,_⟩:=place_good ok h1 (hasF M nx c) (fun p hp=>hnx p (List.mem_filter.1 hp).1) (Nat.le_trans (List.length_filter_le _ _) hl);rw[fillK_succ];exact⟨h4.next _ _ _,by rw[QP];omega,by rw[QP];omega⟩
theorem stC_next{l:List DS}{vas:List Value}(hl:l.length=vas.length)(hx:∀s∈l,s.next.length=256){n c:Nat}(hn:n<l.length)(hc:c<256)(x:Int)(hn':n<(stC l vas).length):
  (stC l vas).set n ((stC l vas)[n].set (1+c) (.int .i64 x))=stC (Yc l n c x) vas:=by
 have hnv:n<vas.length:=by omega
 refine List.ext_getElem (by simp[stC,QP]) (fun i h1 h2=> ?_);have hi:i<l.length:=by simp[stC] at h1;omega
 have hiv:i<vas.length:=by omega
 rw[stC_get (by rw[QP];exact hi) hiv h2,dsNext_get l n c x i (by rw[QP];exact hi) hi];by_cases e:n=i
 ·subst e;rw[List.getElem_set_self,stC_get hn hnv hn',if_pos rfl];have h3:=hx _ (List.getElem_mem hn);unfold stL;rw[Nat.add_comm 1 c,List.set_cons_succ,List.set_append_left _ _ (by rw[List.length_map];omega),List.map_set]
 ·rw[if_neg e,List.getElem_set_ne (by omega),stC_get hi hiv]
theorem DfaIn.next{w:World}{pd pm:Nat}{v:Value}{l:List DS}{vas:List Value}{cl:List Int}{nc:Int}(h:DfaIn w pd pm v l vas cl nc){g:Nat}(hg:v.ownBlock=some g){n c:Nat}(hn:n<l.length)(hc:c<256)(x:Int):
  DfaIn (w.setCell ⟨g,n*258+1+c,none⟩ (.int .i64 x)) pd pm v (Yc l n c x) vas cl nc:=by
 have hk:K1 g w (w.setCell ⟨g,n*258+1+c,none⟩ (.int .i64 x)):=Qg _ _;have hgp:=(h.own_lt hg).1;have hn':n<(stC l vas).length:=by rw[Za h.len];exact hn
 refine⟨hk.blk h.blk (fun e=>by omega),h.cls,by rw[QP];exact h.len,?_,fun s hs=> ?_,fun i a b=> ?_⟩
 ·have h1:=h.row.set (stC_all h.nx) hg n (1+c) hn' (by omega) (.int .i64 x);rw[stC_next h.len h.nx hn hc x hn'] at h1;have e:0+258*n+(1+c)=n*258+1+c:=by omega
  rw[e] at h1;exact h1
 ·obtain⟨t,ht,_,_,h1⟩:=dsNext_mem hs;rw[h1];exact h.nx t ht
 ·have ha:i<l.length:=by rw[QP] at a;exact a
  rw[dsNext_at l n c x i a ha];refine(h.ats i ha b).kp hk (fun k cs hb e=> ?_);subst e;exact h.other hb (by decide) (by decide) (.inr hg)
theorem OwnI.one(w:World)(x:Nat):OwnI (w.alloc (.cells #[.int .i64 x] 3)) w.heap.size (.slice (some ⟨w.heap.size,0,none⟩) 1 1) [x]:=
 ⟨rfl,.inr ⟨w.heap.size,1,#[.int .i64 x],rfl,Nat.le_refl _,Qf _ _,by simp,by simp[maxLen],by simp,by simp⟩⟩
theorem OwnI.cell{w:World}{B b n c:Nat}{l:List Nat}(h:OwnI w B (.slice (some ⟨b,0,none⟩) n c) l)(j:Nat)(hj:j<l.length):w.cell? ⟨b,j,none⟩=some (.int .i64 (l[j]:Nat)):=by
 obtain⟨a,c',h1,_,_,h4⟩:=h.look;obtain⟨b',h5,_,_,h6⟩:=h4 (fun e=>by rw[e] at hj;simp at hj);have e:b=b':=by
  rw[h5] at h1;have:=congrArg Value.ownBlock h1;simpa[Value.ownBlock] using this
 subst e;exact(h6 j hj).1
theorem OwnI.kp1{w w':World}{B g:Nat}{vt:Value}{tl:List Nat}{T:TypeId}(h:OwnI w B vt tl)(hk:K1 g w w')(hb:∃cur,w.heap[g]? =some (.cells cur T (0,0)))(hT:T≠3):OwnI w' B vt tl:=by
 refine⟨h.1,?_⟩;rcases h.2 with h2|⟨g',cap,cur,h2,h3,h4,h5⟩
 ·exact .inl h2
 ·refine .inr ⟨g',cap,cur,h2,h3,hk.blk h4 (fun e=> ?_),h5⟩;obtain⟨cur2,hb⟩:=hb;subst e;rw[hb] at h4;injection h4 with h4;injection h4 with _ h4 _;exact hT h4
theorem OwnI.dss{w w':World}{pd pm bm B:Nat}{v vt:Value}{l:List DS}{vas:List Value}{cl:List Int}{nc:Int}{k:KV}{tl:List Nat}(h:OwnI w B vt tl)(hd:DfaIn w pd pm v l vas cl nc)(hm:MapA w TStr bm k)(hk:Kp (DSS pd bm v) w w'):OwnI w' B vt tl:=by
 refine⟨h.1,?_⟩;rcases h.2 with h2|⟨g,cap,cur,h2,h3,h4,h5⟩
 ·exact .inl h2
 ·refine .inr ⟨g,cap,cur,h2,h3,hk.blk h4 (fun e=> ?_),h5⟩;rcases e with e|e|e
  ·exact hd.other h4 (by decide) (by decide) (.inl e)
  ·subst e;obtain⟨es,ck,h6,_⟩:=hm;rw[h6] at h4;injection h4 with h4;cases h4
  ·exact hd.other h4 (by decide) (by decide) (.inr e)
theorem PlaceOut.trans{w w1 w2:World}{pb pd bm pm:Nat}{M:NM}{v v1 v2:Value}{l1 l2:List DS}{vas1 vas2:List Value}{cl:List Int}{nc:Int}(h1:PlaceOut w w1 pb pd bm pm M v l1 v1 vas1 cl nc)(h2:PlaceOut w1 w2 pb pd bm pm M v1 l2 v2 vas2 cl nc):PlaceOut w w2 pb pd bm pm M v l2 v2 vas2 cl nc:=by
 refine⟨h2.d,h2.m,h2.b,h1.kp.trans' h2.kp (fun i hi e=> ?_),?_⟩
 ·rcases e with e|e|e
  ·exact .inl e
  ·exact .inr (.inl e)
  ·rcases h1.own with h|⟨g,h,hg⟩
   ·exact .inr (.inr (by rw[←h];exact e))
   ·rw[h] at e;injection e with e;omega
 ·rcases h2.own with h|⟨g,h,hg⟩
  ·rcases h1.own with h3|⟨g,h3,hg⟩
   ·exact .inl (h.trans h3)
   ·exact .inr ⟨g,h.trans h3,hg⟩
  ·exact .inr ⟨g,h,Nat.le_trans h1.kp.size hg⟩
theorem PlaceOut.ghost{w w1 w0:World}{pb pd bm pm:Nat}{M:NM}{v v1:Value}{l l1:List DS}{vas vas1:List Value}{cl:List Int}{nc:Int}(h1:PlaceOut w w1 pb pd bm pm M v l1 v1 vas1 cl nc)(hd:DfaIn w pd pm v l vas cl nc)(hk0:Kn w0 w)(hp0:w0.heap.size+1≤pd)(hm0:w0.heap.size≤bm):Kn w0 w1:=
 hk0.trans' h1.kp (fun i hi e=>by
  rcases e with rfl|rfl|e
  ·omega
  ·omega
  ·have:=(hd.own_lt e).1;omega)
theorem behind_c(pm:Nat)(M:NM)(va:Value)(l:List Nat)(w:World)(h:NfaAt w pm M)(ok:NMok M)(hv:AtAt w l va)(hl:∀p∈l,p<M.pos.length)(hll:l.length≤2000):
  Calls Tryz.prog 264 #[ptr pm,va] w (BehindPost M l w):=by
 rcases hv with⟨h1,h2⟩|⟨h1,B,h2⟩
 ·rw[h2];exact behind_nil pm M l h1 w h ok
 ·exact behind_at pm B M va l h1 w h ok h2 hl hll
def FillPost(pb pd bm pm:Nat)(M:NM)(v:Value)(l':List DS)(cl:List Int)(nc:Int)(w:World)(e:Ending)(w':World):Prop:=
 ∃v' vas',e= .returned (.tuple #[])∧PlaceOut w w' pb pd bm pm M v l' v' vas' cl nc
theorem fill_eq(M:NM)(n:Nat)(l:List DS)(h:n<l.length):M.fill n l=fillK M (M.behind l[n].at_) n l 256:=by
 unfold NM.fill fillK;rw[List.getElem?_eq_getElem h];try rfl
theorem fill_c{pb pd bm pm:Nat}{M:NM}{v:Value}{l:List DS}{vas:List Value}{cl:List Int}{nc:Int}{w0 w:World}(n:Nat)(hN:NfaAt w0 pm M)(ok:NMok M)(hk0:Kn w0 w)(hp0:w0.heap.size+1≤pd)(hm0:w0.heap.size≤bm)
  (hd:DfaIn w pd pm v l vas cl nc) (hm:MapA w TStr bm (metK l)) (hb:BuildIn w pb pd bm) (hg:DGood M l) (hn:n<l.length) (hll:l.length≤5000):
  Calls Tryz.prog 217 #[ptr pb,.int .i64 n] w (FillPost pb pd bm pm M v (M.fill n l) cl nc w):=by
 have HF:=Qh (fill_eq M n l hn);obtain⟨nx,hnx⟩:∃z,z=M.behind l[n].at_:=⟨_,rfl⟩;have hlt:∀p∈nx,p<M.pos.length:=by rw[hnx];exact behind_lt M ok _ (hg.lt _ (List.getElem_mem hn))
 have hnl:nx.length≤2000:=ris_small (by rw[hnx];exact behind_ris M _) hlt ok.len;obtain⟨g,cv,va,rfl,_,hat,hc,_⟩:=hd.st hn;obtain⟨av,cva,rfl⟩:=hat.slice;have HB:=Qh (fun W (hk:Kn w W)=>behind_c pm M _ l[n].at_ W (hN.kn (hk0.trans hk)) ok (hat.kp hk (fun _ _ _ x=>x)) (hg.lt _ (List.getElem_mem hn)) (hg.small _ (List.getElem_mem hn)));rw[←hnx] at HF;have HNX:=Qh hnx;have hb0:=Qa hb 0;simp only[List.getElem?_toArray,List.getElem?_cons_zero] at hb0;obtain⟨hd0,hd1,_⟩:=hd.cells;have HPO:=Qh (fun W (hk:Kn w W)=>PlaceOut.same (M:=M) hd hm hb hk);have HD:=Qh hd;have HN:=Qh hN;have hN0:=HN;have HOK:=Qh ok;have HK0:=Qh hk0;have HLT:=Qh hlt;have HG:=Qh (fun c=>fillK_good (n:=n) ok hg hlt hnl c);have HLN:=Qh hn;clear hd hm hb hg hat hN ok hk0 hnx hlt;go_enter Tryz.func217,Tryz.ntmps217;have hn:n<l.length:=HLN.out;go_upto_region 0 with fail
 refine wp_region_held_drew (S:=fun w'=>w'.cell? ⟨pb,0,none⟩=some (ptr pd)∧w'.cell? ⟨pd,0,none⟩=some (ptr pm)∧w'.cell? ⟨pd,1,none⟩=some (.slice (some ⟨g,0,none⟩) l.length cv)∧w'.cell? ⟨g,n*258,none⟩=some (.slice av l[n].at_.length cva)) (by kernel_rfl) ⟨(Qc ((Qb _ _).drew) hb0),(Qc ((Qb _ _).drew) hd0),(Qc ((Qb _ _).drew) hd1),(Qc ((Qb _ _).drew) hc)⟩ (fun hHeld=> ?_);obtain⟨wd,hwd⟩:∃z,z=w.drew:=⟨_,rfl⟩;have HKd:Kn w wd:=by rw[hwd];exact(Qb _ _).drew
 rw[←hwd] at hHeld⊢;have C0:=hHeld.1;have C1:=hHeld.2.1;have C2:=hHeld.2.2.1;have C3:=hHeld.2.2.2;clear hwd hb0 hd0 hd1 hc;refine TW 0 10 ?_;refine TW 1 11 ?_;refine TW 2 12 ?_;refine TH 3 13 ?_;refine TW 4 14 ?_;refine TW 5 15 ?_;refine TH 6 16 ?_;refine TW 7 17 ?_;refine TW 8 18 ?_;refine TW 9 19 ?_;refine TH 10 20 ?_;refine TW 11 21 ?_;refine TW 12 22 ?_;refine TH 13 23 ?_;refine TW 14 24 ?_;refine TW 15 25 ?_;refine TW 16 26 ?_;refine TH 17 27 ?_;refine RH 18 (fun K hK=> ?_);go_simp
 go_at_call 264
 refine(HB.out wd HKd).mono ?_;rintro e w1 ⟨vn,Bn,rfl,hbn,hon,hk1⟩;have HKW1:Kn w w1:=HKd.trans hk1;have D0:=Qc hk1 C0;have D1:=Qc hk1 C1;have D2:=Qc hk1 C2;have D3:=Qc hk1 C3;rw[←HNX.out] at hon;have HON:=Qh hon;dsimp only;refine hK.out _ _ ⟨D0,D1,D2,D3⟩ (fun hHeld=> ?_);clear hK K hk1 hon C0 C1 C2 C3 D0 D1 D2 D3
 try simp only[PP]
 refine TW 19 4 ?_;refine RD ?_;obtain⟨a0,c0,rfl,h1,h2,h3⟩:=HON.out.look;have HNC:=Qh h3;clear h1 h2 h3;go_wp2_with fail
 go_loopw [29] (fun i wr=>∃(c:Nat) (v1:Value) (vas1:List Value),c≤256∧i= .int .i64 c∧Hid (PlaceOut w wr pb pd bm pm M (.slice (some ⟨g,0,none⟩) l.length cv) (fillK M nx n l c) v1 vas1 cl nc)∧Hid (OwnI wr Bn (.slice a0 nx.length c0) nx)) (fun i _=>256-(intOf i).toNat)
 case atStart=>exact⟨0,_,_,by omega,rfl,Qh (HPO.out _ HKW1),HON⟩
 case round=>
  obtain⟨c,v1,vas1,hc256,rfl,hpo,hrow⟩:=hrel;obtain⟨wo,hwo⟩:∃z,z=wr:=⟨_,rfl⟩;subst hwo;have HG1:=HG.out c;obtain⟨lc,hlc⟩:∃z,z=fillK M nx n l c:=⟨_,rfl⟩;rw[←hlc] at HG1 hpo;have HLC:=Qh hlc;clear hlc;obtain⟨hgood,hle1,hle2⟩:=HG1;by_cases hlt:c<256
  ·have hc2:(c:Int)<256:=by omega
   have hkw:=Qh (hpo.out.ghost HD.out HK0.out hp0 hm0);have HGD:=Qh hgood;clear hgood;go_wp2_with fail
   go_loopw [6,34] (fun s i wi=>∃(vt:Value) (j:Nat),vt=s∧j≤nx.length∧i= .int .i64 j∧Hid (OwnI wi wo.heap.size vt ((nx.take j).filter (fun p=>M.has p c)))∧Kn wo wi) (fun _ i _=>nx.length-(intOf i).toNat)
   case atStart=>exact⟨_,0,rfl,Nat.zero_le _,rfl,Qh (World.ownsRow_nil _ _ _ _),Qb _ _⟩
   case round=>
    obtain⟨vt,j,rfl,hj,rfl,hvt,hki⟩:=hrel;by_cases hjl:j<nx.length
    ·obtain⟨b0,rfl,_,_,h4⟩:=HNC.out (fun e=>by rw[e] at hjl;simp at hjl);have hcj:=Qc hki (hrow.out.cell j hjl);have cb0:wr.cell? ⟨pb,0,none⟩=some (ptr pd):=Qc hki (Qa hpo.out.b 0);have cd0:=Qc hki hpo.out.d.cells.1;have hp:=HLT.out _ (List.getElem_mem hjl);have HH:=Qh (Has_c pm nx[j] c M wr (HN.out.kn (hkw.out.trans hki)) hp hlt);have hs:Hid ((nx.take (j+1)).filter (fun p=>M.has p c)=(nx.take j).filter (fun p=>M.has p c)++(if M.has nx[j] c=true then[nx[j]] else[])):=Qh (by
      rw[List.take_succ_eq_append_getElem hjl,List.filter_append,List.filter_cons,List.filter_nil])
     go_wp2_with fail
     refine HH.out.mono ?_;rintro e w3 ⟨rfl,hk3⟩;have hvt3:=Qh (hvt.out.kn hk3);have hki3:=hki.trans hk3;clear hcj cb0 cd0;by_cases hbit:M.has nx[j] c=true
     ·rw[if_pos hbit] at hs;have hfl:((nx.take j).filter (fun p=>M.has p c)).length≤2000:=Nat.le_trans (List.length_filter_le _ _) (by rw[List.length_take];omega);rw[hbit];go_wp2_with (at_builtin;refine QG rfl (.tmp 49) (.tmp 51) rfl wo.heap.size w3.heap.size vt _ _ [nx[j]] rfl rfl (hvt3.out.kn ((Qb _ _).alloc _)) (OwnI.one _ _) (by simp;omega) (by rw[size_alloc'];have:=hki3.size;omega) ?_;intro v4 w4 hro4 hk4)
      have HR4:=Qh hro4;have hkn4:Kn wo w4:=(hki3.alloc _).trans' hk4 (fun i hi e=>by have:=(hvt3.out.lt i e.symm).1;omega);clear hro4 hk4;go_wp2_with fail
      go_roundw
      case rel=>exact⟨v4,j+1,rfl,by omega,by go_num,Qh (by rw[hs.out];exact HR4.out),hkn4⟩
      case measure=>simp[intOf];omega
     ·rw[if_neg hbit,List.append_nil] at hs;rw[Bool.not_eq_true] at hbit;rw[hbit];go_wp2_with fail
      go_roundw
      case rel=>exact⟨vt,j+1,rfl,by omega,by go_num,Qh (by rw[hs.out];exact hvt3.out),hki3⟩
      case measure=>simp[intOf];omega
    ·have e:j=nx.length:=by omega
     have hvl:=hvt.out;rw[e,List.take_length] at hvl;have HVL:=Qh hvl;clear hvl hvt;have HPI:=Qh (PlaceOut.same (M:=M) hpo.out.d hpo.out.m hpo.out.b hki);have HPL:=Qh (place_c hN0.out HOK.out (hkw.out.trans hki) hp0 hm0 HPI.out.d HPI.out.m HPI.out.b HVL.out HGD.out (fun p hp=>HLT.out p (List.mem_filter.1 hp).1) (Nat.le_trans (List.length_filter_le _ _) hnl) (by omega));go_wp2_with fail
     refine HPL.out.mono ?_;rintro e1 w5 ⟨v5,vas5,he1,hp5⟩;obtain⟨hg5,hle5,hup5,hx1,hx2⟩:=place_good HOK.out HGD.out (hasF M nx c) (fun p hp=>HLT.out p (List.mem_filter.1 hp).1) (Nat.le_trans (List.length_filter_le _ _) hnl);obtain⟨l5,hl5⟩:∃z,z=M.place lc (hasF M nx c):=⟨_,rfl⟩;have HFS:Hid (fillK M nx n l (c+1)=Yc l5.1 n c l5.2):=Qh (by rw[fillK_succ,←HLC.out,hl5]);change PlaceOut wr w5 pb pd bm pm M v1 (M.place lc (hasF M nx c)).1 v5 vas5 cl nc at hp5;change e1= .returned (.int .i64 (M.place lc (hasF M nx c)).2) at he1;rw[←hl5] at hp5 hle5 hup5 hx1 hx2 hg5 he1;subst he1;clear hl5;have hn5:n<l5.1.length:=by omega
     obtain⟨g5,c5,va5,hv5,_,_,_,hcn,_,hfr⟩:=hp5.d.st hn5;subst hv5;have hlx:c<(l5.1[n].next.map (Value.int .i64)).length:=by rw[List.length_map,hp5.d.nx _ (List.getElem_mem hn5)];exact hlt
     have hc5:=hcn c hlt;rw[List.getElem?_eq_getElem hlx,List.getElem_map] at hc5;have hf5:=hfr (1+c) (by omega);rw[←Nat.add_assoc] at hf5;have cb0:w5.cell? ⟨pb,0,none⟩=some (ptr pd):=Qa hp5.b 0;have cd1:=hp5.d.cells.2.1;have HP5:=Qh hp5;have HPP:Hid (PlaceOut wo w5 pb pd bm pm M v1 l5.1 (.slice (some ⟨g5,0,none⟩) l5.1.length c5) vas5 cl nc):=Qh (HPI.out.trans hp5);have HROW:=Qh ((hrow.out.kn hki).dss HPI.out.d HPI.out.m hp5.kp);have hn1:l5.1.length≤10001:=by omega
     clear hp5 hcn hfr;go_wp2_with fail
     obtain⟨w6,hw6⟩:∃z,z=w5.setCell ⟨g5,n*258+1+c,none⟩ (.int .i64 l5.2):=⟨_,rfl⟩;have hk6:K1 g5 w5 w6:=by rw[hw6];exact Qg _ _
     have HD6:Hid (DfaIn w6 pd pm (.slice (some ⟨g5,0,none⟩) l5.1.length c5) (Yc l5.1 n c l5.2) vas5 cl nc):=Qh (by rw[hw6];exact HP5.out.d.next rfl hn5 hlt l5.2);rw[←hw6];clear hw6;go_roundw
     case rel=>exact⟨c+1,_,vas5,by omega,by go_num,Qh (by
      rw[HFS.out];refine hpo.out.trans (HPP.out.trans ⟨HD6.out,?_,?_,?_,?_⟩)
      ·rw[metK_next];refine HP5.out.m.kp hk6 (fun e=> ?_);subst e;obtain⟨cur,h1⟩:=HP5.out.d.own_blk (g:=bm) rfl;obtain⟨es,ck,h2,_⟩:=HP5.out.m;rw[h1] at h2;injection h2 with h2;cases h2
      ·exact hk6.blk HP5.out.b (fun e=>HP5.out.d.other HP5.out.b (by decide) (by decide) (.inr (by rw[e];try rfl)))
      ·exact hk6.mono (fun i _ e=> .inr (.inr (by rw[e];try rfl)))
      ·exact .inl rfl),Qh (HROW.out.kp1 hk6 (HP5.out.d.own_blk rfl) (by decide))⟩
     case measure=>simp[intOf];omega
  ·have e:c=256:=by omega
   subst e;go_wp2_with fail
   go_end0
   exact⟨v1,vas1,rfl,by rw[HF.out,←HLC.out];exact hpo.out⟩
def YO(l:List DS)(c:Nat):List Nat:=l.map (fun s=>(s.next.getD c 0+1).toNat)
theorem colF_len(l:List DS)(c:Nat):(YO l c).length=l.length:=by simp[YO]
def grpS(l:List DS)(r:List (List Nat)×List Int)(c:Nat):List (List Nat)×List Int:=
 match r.1.findIdx? (fun k=>decide (k=YO l c)) with|some n=>(r.1,r.2.set c (n:Nat))|none=>(r.1++[YO l c],r.2.set c (r.1.length:Nat))
def grpK(l:List DS)(cl:List Int)(c:Nat):List (List Nat)×List Int:=(List.range c).foldl (grpS l) ([],cl)
theorem grpK_succ(l:List DS)(cl:List Int)(c:Nat):grpK l cl (c+1)=grpS l (grpK l cl c) c:=by
 unfold grpK;rw[List.range_succ,List.foldl_append];try rfl
theorem grpK_some{l:List DS}{cl:List Int}{c n:Nat}(h:(grpK l cl c).1.findIdx? (fun k=>decide (k=YO l c))=some n):grpK l cl (c+1)=((grpK l cl c).1,(grpK l cl c).2.set c (n:Nat)):=by
 rw[grpK_succ];unfold grpS;rw[h]
theorem grpK_none{l:List DS}{cl:List Int}{c:Nat}(h:(grpK l cl c).1.findIdx? (fun k=>decide (k=YO l c))=none):grpK l cl (c+1)=((grpK l cl c).1++[YO l c],(grpK l cl c).2.set c ((grpK l cl c).1.length:Nat)):=by
 rw[grpK_succ];unfold grpS;rw[h]
theorem grpK_len(l:List DS)(cl:List Int):∀c,(grpK l cl c).2.length=cl.length∧(grpK l cl c).1.length≤c
 |0=>⟨rfl,Nat.le_refl _⟩
 |c+1=>by
  obtain⟨h1,h2⟩:=grpK_len l cl c;cases h:(grpK l cl c).1.findIdx? (fun k=>decide (k=YO l c)) with
  |some n=>rw[grpK_some h];exact⟨by simpa using h1,by dsimp only;omega⟩
  |none=>rw[grpK_none h];exact⟨by simpa using h1,by simp;omega⟩
def NxOk(l:List DS):Prop:=∀s∈l,∀x∈s.next,-1≤x∧x<10000
theorem NxOk.at{l:List DS}(h:NxOk l)(hx:∀s∈l,s.next.length=256){j c:Nat}(hj:j<l.length)(hc:c<256):∃x:Int,l[j].next[c]? =some x∧-1≤x∧x<10000∧((l[j].next.getD c 0+1).toNat:Int)=x+1:=by
 have hl:=hx _ (List.getElem_mem hj);have hc':c<l[j].next.length:=by omega
 have h1:=h _ (List.getElem_mem hj) _ (List.getElem_mem hc');refine⟨l[j].next[c],List.getElem?_eq_getElem hc',h1.1,h1.2,?_⟩;rw[List.getD_eq_getElem?_getD,List.getElem?_eq_getElem hc',Option.getD_some];omega
theorem colF_lt{l:List DS}(h:NxOk l)(hx:∀s∈l,s.next.length=256){c:Nat}(hc:c<256):∀p∈YO l c,p≤10000:=by
 intro p hp;unfold YO at hp;obtain⟨s,hs,rfl⟩:=List.mem_map.1 hp;obtain⟨j,hj,rfl⟩:=List.getElem_of_mem hs;obtain⟨x,_,_,h2,h3⟩:=h.at hx hj hc;omega
theorem NxOk.next{l:List DS}(h:NxOk l)(n c:Nat){x:Int}(h1: -1≤x)(h2:x<10000):NxOk (Yc l n c x):=by
 intro s hs y hy;obtain⟨i,hi,rfl⟩:=List.getElem_of_mem hs;have hi':i<l.length:=by rw[QP] at hi;exact hi
 rw[dsNext_get l n c x i hi hi'] at hy;split at hy
 ·rcases List.mem_or_eq_of_mem_set hy with h3|h3
  ·exact h _ (List.getElem_mem hi') y h3
  ·subst h3;exact⟨h1,h2⟩
 ·exact h _ (List.getElem_mem hi') y hy
def grpM(m:List (List Nat)):KV:=m.zipIdx.map (fun p=>(txtV p.1,Value.int .i64 (p.2:Nat)))
theorem grpM_len(m:List (List Nat)):(grpM m).length=m.length:=by simp[grpM]
theorem grpM_snoc(m:List (List Nat))(k:List Nat):grpM (m++[k])=grpM m++[(txtV k,.int .i64 (m.length:Nat))]:=by
 unfold grpM;rw[List.zipIdx_append,List.map_append];simp
theorem grpM_mem{m:List (List Nat)}{p:Value×Value} :p∈grpM m↔∃i,∃h:i<m.length,p=(txtV m[i],.int .i64 (i:Nat)):=by
 unfold grpM;rw[List.mem_map];constructor
 ·rintro⟨q,hq,rfl⟩;obtain⟨j,hj,rfl⟩:=List.getElem_of_mem hq;have hj':j<m.length:=by simpa using hj
  exact⟨j,hj',by simp⟩
 ·rintro⟨i,h,rfl⟩;refine⟨(m[i],i),?_,rfl⟩;exact List.mem_iff_getElem.2 ⟨i,by simp;omega,by simp⟩
theorem txtV_inj2{a b:List Nat}(ha:∀p∈a,p≤10000)(hb:∀p∈b,p≤10000)(h:txtV a=txtV b):a=b:=by
 refine textF_inj (fun p hp=>by have:=ha p hp;omega) (fun p hp=>by have:=hb p hp;omega) ?_;injection h with h;have:=congrArg (fun x:ByteArray=>x.data.toList) h;simpa using this
theorem grpK_lt{l:List DS}{cl:List Int}(h:NxOk l)(hx:∀s∈l,s.next.length=256):∀c,c≤256→∀k∈(grpK l cl c).1,∀p∈k,p≤10000
 |0,_=>fun k hk=>by cases hk
 |c+1,hc=>by
  have ih:=grpK_lt (cl:=cl) h hx c (by omega);cases hf:(grpK l cl c).1.findIdx? (fun k=>decide (k=YO l c)) with
  |some n=>rw[grpK_some hf];exact ih
  |none=>
   rw[grpK_none hf];intro k hk;rcases List.mem_append.1 hk with h1|h1
   ·exact ih k h1
   ·simp at h1;subst h1;exact colF_lt h hx (by omega)
theorem DfaIn.rng{w:World}{pd pm:Nat}{v:Value}{l:List DS}{vas:List Value}{cl:List Int}{nc:Int}(h:DfaIn w pd pm v l vas cl nc){g n c:Nat}(hv:v= .slice (some ⟨g,0,none⟩) n c){i:Nat}(hi:i<l.length):
  ∃va,w.rangeAt g (i*258) (stL l[i] va)∧∃a k c,va= .slice a k c:=by
 obtain⟨g',c',va,h1,h2,h3,_⟩:=h.st hi;have e:g'=g:=by rw[hv] at h1;simpa[Value.ownBlock] using(congrArg Value.ownBlock h1).symm
 subst e;have hiv:i<vas.length:=by rw[←h.len];exact hi
 have hva:vas[i]=va:=by rw[List.getElem?_eq_getElem hiv] at h2;injection h2
 have hic:i<(stC l vas).length:=by rw[Za h.len];exact hi
 obtain⟨a,c2,h4,_,_,h5⟩:=h.row.row (stC_all h.nx);obtain⟨g2,rfl,_,hg2,h6⟩:=h5 (fun e=>by rw[e] at hic;simp at hic);have e2:g2=g':=by rw[h1] at hg2;simpa[Value.ownBlock] using hg2.symm
 subst e2;refine⟨va,fun j u hj=> ?_,?_⟩
 ·have hjl:j<258:=by
   have:=(List.getElem?_eq_some_iff.1 hj).1;rw[stL_len (h.nx _ (List.getElem_mem hi))] at this;exact this
  have h7:=(h6 i hic j hjl).1;rw[stC_get hi hiv hic,hva,hj] at h7;have e3:0+258*i+j=i*258+j:=by omega
  rw[e3] at h7;exact h7
 ·obtain⟨a,c,h7⟩:=h3.slice;exact⟨a,_,c,h7⟩
theorem DfaIn.cls1{w:World}{pd pm:Nat}{v:Value}{l:List DS}{vas:List Value}{cl:List Int}{nc:Int}(h:DfaIn w pd pm v l vas cl nc){c:Nat}(hc:c<256)(x:Int):
  DfaIn (w.setCell ⟨pd,2+c,none⟩ (.int .i64 x)) pd pm v l vas (cl.set c x) nc:=by
 have hk:K1 pd w (w.setCell ⟨pd,2+c,none⟩ (.int .i64 x)):=Qg _ _;refine⟨?_,by rw[List.length_set];exact h.cls,h.len,h.row.kp hk (fun g hg e=>by have:=(h.own_lt hg).1;omega),h.nx,fun i a b=>(h.ats i a b).kp hk (fun g cs hb e=> ?_)⟩
 ·rw[Qk h.blk];congr 2;unfold dfL;rw[List.setIfInBounds_toArray,Nat.add_comm 2 c,List.set_cons_succ,List.set_cons_succ,List.set_append_left _ _ (by rw[List.length_map,h.cls];exact hc),List.map_set]
 ·subst e;exact h.other hb (by decide) (by decide) (.inl rfl)
theorem DfaIn.ncl{w:World}{pd pm:Nat}{v:Value}{l:List DS}{vas:List Value}{cl:List Int}{nc:Int}(h:DfaIn w pd pm v l vas cl nc)(x:Int):
  DfaIn (w.setCell ⟨pd,258,none⟩ (.int .i64 x)) pd pm v l vas cl x:=by
 have hk:K1 pd w (w.setCell ⟨pd,258,none⟩ (.int .i64 x)):=Qg _ _;refine⟨?_,h.cls,h.len,h.row.kp hk (fun g hg e=>by have:=(h.own_lt hg).1;omega),h.nx,fun i a b=>(h.ats i a b).kp hk (fun g cs hb e=> ?_)⟩
 ·rw[Qk h.blk];congr 2;unfold dfL;rw[List.setIfInBounds_toArray,show(258:Nat)=256+1+1 from rfl,List.set_cons_succ,List.set_cons_succ,List.set_append_right _ _ (by rw[List.length_map,h.cls];exact Nat.le_refl _),List.length_map,h.cls];rfl
 ·subst e;exact h.other hb (by decide) (by decide) (.inl rfl)
theorem DfaIn.clc{w:World}{pd pm:Nat}{v:Value}{l:List DS}{vas:List Value}{cl:List Int}{nc:Int}(h:DfaIn w pd pm v l vas cl nc){c:Nat}(hc:c<256):w.cell? ⟨pd,2+c,none⟩=some (.int .i64 (cl[c]'(by rw[h.cls];exact hc))):=by
 rw[Qa h.blk,List.getElem?_toArray,dfL,Nat.add_comm 2 c,List.getElem?_cons_succ,List.getElem?_cons_succ,List.getElem?_append_left (by rw[List.length_map,h.cls];exact hc),List.getElem?_map,List.getElem?_eq_getElem (by rw[h.cls];exact hc)];rfl
theorem DfaIn.ncc{w:World}{pd pm:Nat}{v:Value}{l:List DS}{vas:List Value}{cl:List Int}{nc:Int}(h:DfaIn w pd pm v l vas cl nc):w.cell? ⟨pd,258,none⟩=some (.int .i64 nc):=by
 rw[Qa h.blk,List.getElem?_toArray,dfL,show(258:Nat)=256+1+1 from rfl,List.getElem?_cons_succ,List.getElem?_cons_succ,List.getElem?_append_right (by rw[List.length_map,h.cls];exact Nat.le_refl _),List.length_map,h.cls];rfl
theorem DfaIn.map1{w w':World}{pd pm bm:Nat}{v:Value}{l:List DS}{vas:List Value}{cl:List Int}{nc:Int}{k:KV}(h:DfaIn w pd pm v l vas cl nc)(hm:MapA w TStr bm k)(hk:K1 bm w w'):DfaIn w' pd pm v l vas cl nc:=by
 have hnb:∀g (C:Array Value) T fr,w.heap[g]? =some (.cells C T fr)→¬g=bm:=fun g C T fr hb e=>by
  subst e;obtain⟨es,ck,h2,_⟩:=hm;rw[h2] at hb;injection hb with hb;cases hb
 refine⟨hk.blk h.blk (hnb _ _ _ _ h.blk),h.cls,h.len,h.row.kp hk (fun g hg=> ?_),h.nx,fun i a b=>(h.ats i a b).kp hk (fun g cs hg=>hnb _ _ _ _ hg)⟩;obtain⟨cur,hb⟩:=h.own_blk hg;exact hnb _ _ _ _ hb
def GroupPost(pd pm:Nat)(v:Value)(l:List DS)(vas:List Value)(cl:List Int)(w:World)(e:Ending)(w':World):Prop:=
 e= .returned (.tuple #[])∧DfaIn w' pd pm v l vas (grpK l cl 256).2 ((grpK l cl 256).1.length:Nat)∧K1 pd w w'
theorem group_c{pd pm:Nat}{v:Value}{l:List DS}{vas:List Value}{cl:List Int}{nc:Int}{w:World}(hd:DfaIn w pd pm v l vas cl nc)(hx:NxOk l)(hpos:0<l.length)(hll:l.length≤5000):
  Calls Tryz.prog 218 #[ptr pd] w (GroupPost pd pm v l vas cl w):=by
 obtain⟨g,cv,_,rfl,_⟩:=hd.st hpos;have HD:=Qh hd;have HX:=Qh hx;have HLT:=Qh (fun c (hc:c<256)=>colF_lt (c:=c) hx hd.nx hc);have HGL:=Qh (fun c=>grpK_len l cl c);have HGT:=Qh (grpK_lt (cl:=cl) hx hd.nx);have hpl:=hd.lt;have hgl:=(hd.own_lt (g:=g) rfl).2;obtain⟨i0,hi,hz0,hz1,hz2⟩:=info_parts info_int;have HI:=Qh (And.intro hi (And.intro hz0 (And.intro hz1 hz2)));have hst0:(Tryz.prog.info? TDs).map (fun i=>(i.zero,i.size))=some (some (.agg (newS (.slice none 0 0) 0)),258):=by
  obtain⟨ie,h1,h2,h3,_⟩:=state_info;rw[h1];simp[h2,h3]
 obtain⟨Z,hZ⟩:∃z,z=newS (.slice none 0 0) 0:=⟨_,rfl⟩;have hZs:Z.size=258:=by rw[hZ];exact Ya _ _
 rw[←hZ] at hst0;obtain⟨hzz,hzi⟩:=zero_of_info hst0;have HZI:=Qh (And.intro hzi hZs);have hzi0:∀w,(zeroValue 3).run Tryz.prog w= .ok (.int .i64 0) w:=Tryz.zeroValue3;have HZ:=Qh hzi0;have hmm:= @run_makeMap Tryz.prog;clear hd hx hi hz0 hz1 hz2 hZ hst0 hzi hZs hzi0;go_enter Tryz.func218,Tryz.ntmps218;go_wp2_with fail
 obtain⟨bm,hbm⟩:∃z,z=w.heap.size:=⟨_,rfl⟩;obtain⟨w1,hw1⟩:∃z,z=w.alloc (.map #[] 0):=⟨_,rfl⟩;have hk1:Kn w w1:=by rw[hw1];exact(Qb _ _).alloc _
 have hm1:MapA w1 TStr bm (grpM []):=by rw[hw1,hbm];exact MapA.new w TStr
 have hbg:w.heap.size≤bm:=by omega
 rw[←hw1,←hbm];have HM1:=Qh hm1;clear hw1 hbm hm1;go_loopw [11] (fun i wr=>∃c:Nat,c≤256∧i= .int .i64 c∧Hid (DfaIn wr pd pm (.slice (some ⟨g,0,none⟩) l.length cv) l vas (grpK l cl c).2 nc)∧Hid (MapA wr TStr bm (grpM (grpK l cl c).1))∧K1 pd w wr) (fun i _=>256-(intOf i).toNat)
 case atStart=>exact⟨0,by omega,rfl,Qh (HD.out.kn hk1),HM1,hk1.weak⟩
 case round=>
  obtain⟨c,hc256,rfl,hdo,hmo,hkn⟩:=hrel;obtain⟨wo,hwo⟩:∃z,z=wr:=⟨_,rfl⟩;subst hwo;have hgl0:=HGL.out c;have hsz:=hkn.size;obtain⟨r,hr⟩:∃z,z=grpK l cl c:=⟨_,rfl⟩;rw[←hr] at hgl0 hdo hmo;obtain⟨hc1,hc2,hc3⟩:=hdo.out.cells;by_cases hlt:c<256
  ·have hc9:(c:Int)<256:=by omega
   have HR:=Qh hr;clear hr;go_wp2_with (first|(at_make;go_must (refine wpList_make_own _ rfl (.const (.int .i64 0)) (.tmp 18) 28 rfl wo.heap.size 3 i0 (.int .i64 0) 1 Tryz.underlying28 HI.out.1 HI.out.2.1 HI.out.2.2.1 .i64 .i64 (l.length:Int) l.length rfl rfl rfl (by rw[HI.out.2.2.2];omega) (by simp only[maxLen];omega) (Nat.le_refl _) ?_;intro w2 hown2 hg2;have hk2:Kn wo w2:=QT (S:=fun _=>False) hg2 (fun k e _=>by cases e);have hc12:=Qc hk2 hc2)))
   have HOW2:=Qh hown2;clear hown2 hg2 hc12;go_loopw [4,25] (fun s i wi=>∃(vc:Value) (j:Nat),vc=s∧j≤l.length∧i= .int .i64 j∧Hid (OwnI wi wo.heap.size vc ((YO l c).take j))∧Kn wo wi) (fun _ i _=>l.length-(intOf i).toNat)
   case atStart=>exact⟨_,0,rfl,Nat.zero_le _,rfl,HOW2,hk2⟩
   case round=>
    obtain⟨vc,j,rfl,hj,rfl,hvc,hki⟩:=hrel;clear HOW2 hk2;have hcl:((YO l c).take j).length≤5000:=by rw[List.length_take,colF_len];omega
    by_cases hjl:j<l.length
    ·have hjc:j<(YO l c).length:=by rw[colF_len];exact hjl
     have hs:Hid ((YO l c).take (j+1)=(YO l c).take j++[(YO l c)[j]]):=Qh (List.take_succ_eq_append_getElem hjc);have hdi:=hdo.out.kn hki;obtain⟨va,hrg,av,ka,cva,rfl⟩:=hdi.rng (g:=g) rfl hjl;obtain⟨x,hx0,hx1,hx2,hx3⟩:=HX.out.at hdo.out.nx hjl hlt;have hcj:Hid ((((YO l c)[j]:Nat):Int)=x+1):=Qh (by rw[←hx3];simp[YO]);have hn256:=hdo.out.nx _ (List.getElem_mem hjl);obtain⟨C,hC⟩:∃z,z=(stL l[j] (.slice av ka cva)).toArray:=⟨_,rfl⟩;have hCs:C.size=258:=by rw[hC,List.size_toArray];exact stL_len hn256
     have hC1:C.all (·.oneCell')=true:=by
      rw[hC,Array.all_eq_true_iff_forall_mem];intro u hu;simp only[stL,List.mem_toArray,List.mem_cons,List.mem_append,List.mem_map,List.mem_nil_iff,or_false] at hu;rcases hu with h|⟨y,_,h⟩|h<;>subst h<;>rfl
     have hCc:C[1+c]? =some (.int .i64 x):=by
      rw[hC,List.getElem?_toArray,stL,Nat.add_comm 1 c,List.getElem?_cons_succ,List.getElem?_append_left (by rw[List.length_map];omega),List.getElem?_map,hx0];rfl
     have hrg2:wr.rangeAt g (j*258) C.toList:=by rw[hC];exact hrg
     have hi258:(Tryz.prog.info? TDs).map (·.size)=some C.toList.length:=by rw[Array.length_toList,hCs];exact HZI.out.1
     have hst:=run_storeCells_new (P:=Tryz.prog) wr TDs Z C (by rw[hCs];exact HZI.out.1) (by rw[HZI.out.2,hCs]) hC1;have HW:=Qh (And.intro hrg2 (And.intro hi258 (And.intro hC1 hCs)));clear hrg2 hi258 hC1 hrg hdi hC hx0 hx3;go_upto_region 8 with(refine wpList_load_mid rfl TDs _ rfl g (j*258) rfl C.toList _ HW.out.1 Tryz.underlying354 rfl HW.out.2.1 ?_;simp only[Array.toArray_toList])
     obtain⟨gn,hgn⟩:∃z,z=wr.heap.size:=⟨_,rfl⟩;obtain⟨w3,hw3⟩:∃z,z=wr.alloc (.cells C TDs):=⟨_,rfl⟩;have hk3:Kn wr w3:=by rw[hw3];exact(Qb _ _).alloc _
     have hb3:w3.heap[gn]? =some (.cells C TDs):=by rw[hw3,hgn];exact Qf _ _
     have hc3:w3.cell? ⟨gn,1+c,none⟩=some (.int .i64 x):=by rw[Qa hb3];exact hCc
     rw[←hw3,←hgn];have hvc3:=Qh (hvc.out.kn hk3);have hki3:=hki.trans hk3;have hsz3:=hki3.size;clear hst hw3 hgn hk3 hb3;go_wp2_with (at_builtin;refine QG rfl (.tmp 29) (.tmp 35) rfl wo.heap.size w3.heap.size vc _ _ [(YO l c)[j]] rfl rfl (hvc3.out.kn ((Qb _ _).alloc _)) (by have:=OwnI.one w3 (YO l c)[j];rw[hcj.out] at this;exact this) (by simp;omega) (by rw[size_alloc'];omega) ?_;intro v4 w4 hro4 hk4)
     have HR4:=Qh hro4;have hkn4:Kn wo w4:=(hki3.alloc _).trans' hk4 (fun i hi e=>by have:=(hvc3.out.lt i e.symm).1;omega);clear hro4 hk4 hc3;go_wp2_with fail
     go_roundw
     case rel=>exact⟨v4,j+1,rfl,by omega,by go_num,Qh (by rw[hs.out];exact HR4.out),hkn4⟩
     case measure=>simp[intOf];omega
    ·have e:j=l.length:=by omega
     have hvl:=hvc.out;rw[e,List.take_of_length_le (by rw[colF_len];exact Nat.le_refl _)] at hvl;have HT:=Qh (text_c _ _ _ wr hvl (fun p hp=>by have:=HLT.out c hlt p hp;omega) (by rw[colF_len];omega));clear hvl hvc;go_wp2_with fail
     refine HT.out.mono ?_;rintro e w5 ⟨rfl,hk5⟩;have hki5:=hki.trans hk5;have HD5:=Qh (hdo.out.kn hki5);have HM5:=Qh (hmo.out.kn hki5);have hkn5:=hkn.trans' hki5 (fun i hi e=>by cases e);obtain⟨lx,hkey⟩:=txt_key (YO l c) (by rw[colF_len];omega);have HK:=Qh hkey;have hlen5:=HM5.out.len Tryz.underlying179 3;rw[grpM_len] at hlen5;have hq1:=HD5.out.clc hlt;have hq2:=Qd HD5.out.blk (2+c);clear hkey hki5 hki hk5;cases hf:r.1.findIdx? (fun k=>decide (k=YO l c)) with
     |some n=>
      obtain⟨hnl,hat,_⟩:=List.findIdx?_eq_some_iff_getElem.1 hf;have hat':r.1[n]=YO l c:=by simpa using hat
      have HX1:Hid ((txtV (YO l c),Value.int .i64 (n:Nat))∈grpM r.1):=Qh (grpM_mem.2 ⟨n,hnl,by rw[hat']⟩);have HRS:Hid (grpK l cl (c+1)=(r.1,r.2.set c (n:Nat))):=Qh (by rw[HR.out] at hf⊢;exact grpK_some hf);clear hf hat hat';go_wp2_with (at_lookup;refine Ym rfl (.tmp 41) (.tmp 42) true rfl str_key Tryz.underlying179 rfl HM5.out (txtV (YO l c)) lx rfl HK.out (.int .i64 (n:Nat)) HX1.out ?_)
      obtain⟨w6,hw6⟩:∃z,z=w5.setCell ⟨pd,2+c,none⟩ (.int .i64 (n:Nat)):=⟨_,rfl⟩;have hk6:K1 pd w5 w6:=by rw[hw6];exact Qg _ _
      have HD6:=Qh (HD5.out.cls1 hlt (n:Nat));rw[←hw6] at HD6⊢;clear hw6;go_roundw
      case rel=>exact⟨c+1,by omega,by go_num,Qh (by rw[HRS.out];exact HD6.out),Qh (by rw[HRS.out];exact HM5.out.kp hk6 (fun e=>by omega)),hkn5.trans hk6⟩
      case measure=>simp[intOf];omega
     |none=>
      have HX0:Hid (∀p∈grpM r.1,p.1≠txtV (YO l c)):=Qh (by
       intro p hp e;obtain⟨i,hi,rfl⟩:=grpM_mem.1 hp;have h2:=txtV_inj2 (HGT.out c hc256 r.1[i] (by rw[←HR.out];exact List.getElem_mem hi)) (HLT.out c hlt) e;have h3:=List.findIdx?_eq_none_iff.1 hf _ (List.getElem_mem hi);simp[h2] at h3)
      have HRS:Hid (grpK l cl (c+1)=(r.1++[YO l c],r.2.set c (r.1.length:Nat))):=Qh (by rw[HR.out] at hf⊢;exact grpK_none hf);clear hf;go_wp2_with (first
       |(at_lookup;refine YZ rfl (.tmp 41) (.tmp 42) true rfl str_key Tryz.underlying179 (.int .i64 0) HZ.out rfl HM5.out (txtV (YO l c)) lx rfl HK.out HX0.out ?_)
       |(at_mapUpdate;refine wpList_put0 rfl (.tmp 50) (.tmp 51) (.tmp 52) rfl str_key Tryz.underlying179 rfl HM5.out (txtV (YO l c)) (.int .i64 (r.1.length:Nat)) lx rfl rfl HK.out HX0.out ?_;intro w7 hm7 hk7;have HM7:=Qh hm7;have HD7:=Qh (HD5.out.map1 HM5.out hk7);have hs1:=HD7.out.clc hlt;have hs2:=Qd HD7.out.blk (2+c);clear hm7))
      obtain⟨w6,hw6⟩:∃z,z=w7.setCell ⟨pd,2+c,none⟩ (.int .i64 (r.1.length:Nat)):=⟨_,rfl⟩;have hk6:K1 pd w7 w6:=by rw[hw6];exact Qg _ _
      have HD6:=Qh (HD7.out.cls1 hlt (r.1.length:Nat));rw[←hw6] at HD6⊢;clear hw6;go_roundw
      case rel=>exact⟨c+1,by omega,by go_num,Qh (by rw[HRS.out];exact HD6.out),Qh (by rw[HRS.out,grpM_snoc];exact HM7.out.kp hk6 (fun e=>by omega)),(hkn5.trans' hk7 (fun i hi e=>by omega)).trans hk6⟩
      case measure=>simp[intOf];omega
  ·have e:c=256:=by omega
   subst e;have hlen5:=hmo.out.len Tryz.underlying179 3;rw[grpM_len] at hlen5;have hq1:=hdo.out.ncc;have hq2:=Qd hdo.out.blk 258;have HR:=Qh hr;clear hr;go_wp2_with fail
   go_end0
   refine⟨rfl,?_,hkn.trans (Qg _ _)⟩;rw[←HR.out];exact hdo.out.ncl _
def NxL(l:List DS)(B:Nat):Prop:=∀s∈l,∀x∈s.next,-1≤x∧x<B
theorem NxL.mono{l:List DS}{A B:Nat}(h:NxL l A)(hB:A≤B):NxL l B:=fun s hs x hx=>by have:=h s hs x hx;omega
theorem NxL.ok{l:List DS}{B:Nat}(h:NxL l B)(hB:B≤10000):NxOk l:=fun s hs x hx=>by have:=h s hs x hx;omega
theorem NxL.next{l:List DS}{B:Nat}(h:NxL l B)(n c:Nat){x:Int}(h1: -1≤x)(h2:x<B):NxL (Yc l n c x) B:=by
 intro s hs y hy;obtain⟨i,hi,rfl⟩:=List.getElem_of_mem hs;have hi':i<l.length:=by rw[QP] at hi;exact hi
 rw[dsNext_get l n c x i hi hi'] at hy;split at hy
 ·rcases List.mem_or_eq_of_mem_set hy with h3|h3
  ·exact h _ (List.getElem_mem hi') y h3
  ·subst h3;exact⟨h1,h2⟩
 ·exact h _ (List.getElem_mem hi') y hy
theorem place_nxl{M:NM}{l:List DS}{B:Nat}(hB:0<B)(h:NxL l B)(tl:List Nat):NxL (M.place l tl).1 B:=by
 unfold NM.place;split
 ·exact h
 ·split
  ·exact h
  ·intro s hs y hy;rcases List.mem_append.1 hs with h1|h1
   ·exact h s h1 y hy
   ·simp at h1;subst h1;have:=List.eq_of_mem_replicate hy;omega
theorem fillK_nxl{M:NM}{l:List DS}(ok:NMok M)(h:DGood M l)(hn:NxL l l.length){nx:List Nat}{n:Nat}(hnx:∀p∈nx,p<M.pos.length)(hl:nx.length≤2000):∀c,NxL (fillK M nx n l c) (fillK M nx n l c).length
 |0=>hn
 |c+1=>by
  have ih:=fillK_nxl ok h hn (n:=n) hnx hl c;obtain⟨h1,h2,h3⟩:=fillK_good ok h (n:=n) hnx hl c;obtain⟨h0,h5,h6,h7,h8⟩:=place_good ok h1 (hasF M nx c) (fun p hp=>hnx p (List.mem_filter.1 hp).1) (Nat.le_trans (List.length_filter_le _ _) hl);rw[fillK_succ,QP];exact(place_nxl h0.pos (ih.mono h5) _).next _ _ h7 h8
structure DL (l:List DS):Prop where
 pos:0<l.length
 len:l.length≤2000
 nx:NxL l l.length
 acc:∀s∈l,-1≤s.accept∧s.accept<1000000
def DfaAt(w:World)(pd:Nat)(l:List DS):Prop:=∃pm v vas,DfaIn w pd pm v l vas (grpK l (List.replicate 256 0) 256).2 ((grpK l (List.replicate 256 0) 256).1.length:Nat)∧DL l
theorem DfaAt.kn{w w':World}{pd:Nat}{l:List DS}(h:DfaAt w pd l)(hk:Kn w w'):DfaAt w' pd l:=by obtain⟨pm,v,vas,h1,h2⟩:=h;exact⟨pm,v,vas,h1.kn hk,h2⟩
def DNewPost(M:NM)(w:World)(e:Ending)(w':World):Prop:=
 Kn w w'∧match M.dfa with|none=>e= .returned (.tuple #[.pointer none,.int .i64 3])|some l=>∃pd,w.heap.size≤pd∧e= .returned (.tuple #[ptr pd,.int .i64 0])∧DfaAt w' pd l
theorem go_succ(M:NM)(f n:Nat)(l:List DS)(h:n<l.length):M.go (f+1) n l=if 2000<(M.fill n l).length then none else M.go f (n+1) (M.fill n l):=by
 rw[NM.go,if_pos h]
theorem go_end(M:NM)(f n:Nat)(l:List DS)(h:¬n<l.length):M.go (f+1) n l=some l:=by
 rw[NM.go,if_neg h]
theorem DNew_c{pm:Nat}{M:NM}{w:World}(hN:NfaAt w pm M)(ok:NMok M):
  Calls Tryz.prog 164 #[ptr pm] w (DNewPost M w):=by
 have HN:=Qh hN;have HOK:=Qh ok;have hmm:= @run_makeMap Tryz.prog;obtain⟨Z,hZ⟩:∃z,z=newS (.slice none 0 0) (-1):=⟨_,rfl⟩;have hZs:Z.size=258:=by rw[hZ];exact Ya _ _
 have HZ:=Qh hZ;have hzc:Tryz.zeroCells354.setIfInBounds 257 (.int .i64 (-1))=Z:=by rw[hZ];kernel_rfl
 clear hN ok hZ;go_enter Tryz.func164,Tryz.ntmps164;go_wp2_with fail
 refine wp_slice_state (.tmp 10) Z (by rfl) (by rfl) hZs ?_;go_wp2_with fail
 obtain⟨pb,hpb⟩:∃z,z=w.heap.size+1+1+1:=⟨_,rfl⟩;obtain⟨bm,hbm⟩:∃z,z=w.heap.size+1+1:=⟨_,rfl⟩;obtain⟨pd,hpd⟩:∃z,z=w.heap.size+1:=⟨_,rfl⟩;obtain⟨g,hg⟩:∃z,z=w.heap.size:=⟨_,rfl⟩;obtain⟨A,hA⟩:∃z,z=(Tryz.zeroCells357.setIfInBounds 0 (ptr pm)).setIfInBounds 1 (.slice (some ⟨g,0,none⟩) 1 1):=⟨_,rfl⟩;rw[←hpb,←hbm,←hpd,←hg,←hA];obtain⟨W,hW⟩:∃z,z=(((w.alloc (.cells Z TDs)).alloc (.cells A TD)).alloc (.map #[] 0)).alloc (.cells #[ptr pd,.map (some bm)] TDb):=⟨_,rfl⟩;have hkW:Kn w W:=by rw[hW];exact((((Qb _ _).alloc _).alloc _).alloc _).alloc _
 have hA2:A=(dfL pm (.slice (some ⟨g,0,none⟩) 1 1) (List.replicate 256 0) 0).toArray:=by rw[hA];kernel_rfl
 have e1:(w.alloc (.cells Z TDs)).heap.size=pd:=by rw[size_alloc',hpd]
 have e2:((w.alloc (.cells Z TDs)).alloc (.cells A TD)).heap.size=bm:=by rw[size_alloc',e1,hpd,hbm]
 have e3:(((w.alloc (.cells Z TDs)).alloc (.cells A TD)).alloc (.map #[] 0)).heap.size=pb:=by rw[size_alloc',e2,hpb,hbm]
 have b0:W.heap[g]? =some (.cells Z TDs (0,0)):=by rw[hW,hg];exact Qm (Qm (Qm (Qf _ _) _) _) _
 have b1:W.heap[pd]? =some (.cells A TD (0,0)):=by
  have:=Qm (Qm (Qf (w.alloc (.cells Z TDs)) (.cells A TD)) (.map #[] 0)) (.cells #[ptr pd,.map (some bm)] TDb);rw[e1] at this;rw[hW];exact this
 have b2:MapA W TStr bm []:=by
  have:=(MapA.new ((w.alloc (.cells Z TDs)).alloc (.cells A TD)) TStr).kn ((Qb _ _).alloc (.cells #[ptr pd,.map (some bm)] TDb));rw[e2] at this;rw[hW];exact this
 have b3:BuildIn W pb pd bm:=by
  have:=Qf (((w.alloc (.cells Z TDs)).alloc (.cells A TD)).alloc (.map #[] 0)) (.cells #[ptr pd,.map (some bm)] TDb);rw[e3] at this;rw[hW];exact this
 have hZl:Z.toList=stL ⟨[],NM.zeros,-1⟩ (.slice none 0 0):=by rw[HZ.out];exact newS_eq [] _ _
 have hd0:DfaIn W pd pm (.slice (some ⟨g,0,none⟩) 1 1) [⟨[],NM.zeros,-1⟩] [.slice none 0 0] (List.replicate 256 0) 0:=by
  refine⟨by rw[b1,hA2],List.length_replicate ..,rfl,⟨?_,.inr ⟨g,1,Z,rfl,by omega,b0,Nat.le_refl _,by simp[maxLen],by rw[hZs],?_⟩⟩,?_,?_⟩
  ·simp[stC,stL,NM.zeros]
  ·rw[hZl];simp[stC,stL,NM.zeros]
  ·intro s hs;simp at hs;subst hs;exact List.length_replicate ..
  ·intro i a b;have e:i=0:=by simp at a;omega
   subst e;exact .inl ⟨rfl,rfl⟩
 have hm0:metK [⟨[],NM.zeros,-1⟩]=[]:=rfl;have hg0:DGood M [⟨[],NM.zeros,-1⟩]:=⟨by simp,fun _=>rfl,(fun s hs=>by simp at hs;subst hs;intro p hp;cases hp),(fun s hs=>by simp at hs;subst hs;simp),(fun s hs=>by simp at hs;subst hs;simp)⟩;have hn0:NxL [⟨[],NM.zeros,-1⟩] 1:=fun s hs x hx=>by
  simp at hs;subst hs;have:=List.eq_of_mem_replicate hx;omega
 have HINI:=Qh (And.intro hd0 (And.intro b2 (And.intro b3 (And.intro hg0 hn0))));have HGO:Hid (M.go 2002 0 [⟨[],NM.zeros,-1⟩]=M.dfa):=Qh rfl;have hp0:w.heap.size+1≤pd:=by omega
 have hm0':w.heap.size≤bm:=by omega
 rw[←hW];clear hW hA2 hA e1 e2 e3 b0 b1 b2 b3 hZl hd0 hg0 hn0 hpb hbm hpd hm0 hzc hg;go_loopw [6] (fun i wr=>∃(k:Nat) (lk:List DS) (v:Value) (vas:List Value),i= .int .i64 k∧k≤lk.length∧lk.length≤2000∧Hid (M.go (2002-k) k lk=M.dfa)∧Hid (DfaIn wr pd pm v lk vas (List.replicate 256 0) 0)∧Hid (MapA wr TStr bm (metK lk))∧Hid (BuildIn wr pb pd bm)∧Hid (DGood M lk)∧Hid (NxL lk lk.length)∧Kn w wr) (fun i _=>2001-(intOf i).toNat)
 case atStart=>exact⟨0,_,_,_,rfl,Nat.zero_le _,by simp,HGO,Qh HINI.out.1,Qh HINI.out.2.1,Qh HINI.out.2.2.1,Qh HINI.out.2.2.2.1,Qh HINI.out.2.2.2.2,hkW⟩
 case round=>
  clear HINI HGO;obtain⟨k,lk,v,vas,rfl,hk,hlk,hgo,hdi,hmi,hbi,hgd,hnx,hkn⟩:=hrel;obtain⟨av,cv,rfl⟩:=hdi.out.slice;obtain⟨c0,c1,_⟩:=hdi.out.cells;by_cases hlt:k<lk.length
  ·have HF:=Qh (fill_c k HN.out HOK.out hkn hp0 hm0' hdi.out hmi.out hbi.out hgd.out hlt (by omega));have hgs:=go_succ M (2001-k) k lk hlt;rw[show 2001-k+1=2002-k by omega,hgo.out] at hgs;have hfe:=fill_eq M k lk hlt;have hbl:=behind_lt M HOK.out lk[k].at_ (hgd.out.lt _ (List.getElem_mem hlt));have hrs:=ris_small (behind_ris M lk[k].at_) hbl HOK.out.len;have hgk:=fillK_good (n:=k) HOK.out hgd.out hbl hrs 256;have hnk:=fillK_nxl (n:=k) HOK.out hgd.out hnx.out hbl hrs 256;rw[←hfe] at hgk hnk;obtain⟨lf,hlf⟩:∃z,z=M.fill k lk:=⟨_,rfl⟩;rw[←hlf] at HF hgs hgk hnk;have HGS:=Qh hgs;have HGK:=Qh hgk;have HNK:=Qh hnk;have hle1:=hgk.2.1;have hle2:=hgk.2.2;clear hgs hgk hnk hfe hlf hbl hrs;go_wp2_with fail
   refine HF.out.mono ?_;rintro e w2 ⟨v2,vas2,rfl,hpo⟩;obtain⟨a2,c2,rfl⟩:=hpo.d.slice;obtain⟨d0,d1,_⟩:=hpo.d.cells;have HPO:=Qh hpo;have hk2:=hpo.ghost hdi.out hkn hp0 hm0';clear hpo c0 c1;by_cases hgt:2000<lf.length
   ·have hgt':(2000:Int)<lf.length:=by omega
    go_wp2_with fail
    go_ret2
    have e:=HGS.out;rw[if_pos hgt] at e;refine⟨hk2,?_⟩;rw[e];try rfl
   ·have hgt':¬(2000:Int)<lf.length:=by omega
    go_wp2_with fail
    go_roundw
    case rel=>exact⟨k+1,lf,_,vas2,by go_num,by omega,by omega,Qh (by rw[HGS.out,if_neg hgt];congr 1;omega),Qh HPO.out.d,Qh HPO.out.m,Qh HPO.out.b,Qh HGK.out.1,HNK,hk2⟩
    case measure=>simp[intOf];omega
  ·have hgs:=go_end M (2001-k) k lk hlt;rw[show 2001-k+1=2002-k by omega,hgo.out] at hgs;have HGS:=Qh hgs;have HG:=Qh (group_c hdi.out (hnx.out.ok (by omega)) hgd.out.pos (by omega));have hlt':¬(k:Int)<lk.length:=by omega
   clear hgs;go_wp2_with fail
   refine HG.out.mono ?_;rintro e w2 ⟨rfl,hd2,hk2⟩;have HD2:=Qh hd2;clear hd2;go_wp2_with fail
   go_ret2
   refine⟨hkn.trans' hk2 (fun i hi e=>by omega),?_⟩;rw[HGS.out];exact⟨pd,by omega,rfl,pm,_,vas,HD2.out,hgd.out.pos,hlk,hnx.out,hgd.out.acc⟩
def dnx(l:List DS)(n b:Nat):Int:=match l[n]? with|some s=>s.next.getD b (-1)|none=> -1
def dac(l:List DS)(n:Nat):Int:=match l[n]? with|some s=>s.accept|none=> -1
theorem DL.dnx_lt{l:List DS}(h:DL l)(n b:Nat): -1≤dnx l n b∧dnx l n b<l.length:=by
 unfold dnx;have hp:=h.pos;cases hs:l[n]? with
 |none=>dsimp only;omega
 |some s=>
  dsimp only;rw[List.getD_eq_getElem?_getD];cases hx:s.next[b]? with
  |none=>simp only[Option.getD_none];omega
  |some x=>exact h.nx s (List.mem_of_getElem? hs) x (List.mem_of_getElem? hx)
theorem DL.dac_lt{l:List DS}(h:DL l)(n:Nat): -1≤dac l n∧dac l n<1000000:=by
 unfold dac;cases hs:l[n]? with
 |none=>dsimp only;omega
 |some s=>exact h.acc s (List.mem_of_getElem? hs)
theorem DfaAt.look{w:World}{pd:Nat}{l:List DS}(h:DfaAt w pd l):∃g c,w.cell? ⟨pd,1,none⟩=some (.slice (some ⟨g,0,none⟩) l.length c)∧
  (∀n b,n<l.length→b<256→w.cell? ⟨g,n*258+1+b,none⟩=some (.int .i64 (dnx l n b)))∧(∀n,n<l.length→w.cell? ⟨g,n*258+257,none⟩=some (.int .i64 (dac l n))):=by
 obtain⟨pm,v,vas,hd,hl⟩:=h;obtain⟨g,c,va,rfl,_⟩:=hd.st hl.pos;refine⟨g,c,hd.cells.2.1,fun n b hn hb=> ?_,fun n hn=> ?_⟩
 ·obtain⟨g',c',_,e,_,_,_,h1,_⟩:=hd.st hn;have e2:g=g':=by simpa[Value.ownBlock] using congrArg Value.ownBlock e
  subst e2;have h2:=hd.nx _ (List.getElem_mem hn);rw[h1 b hb,List.getElem?_map,List.getElem?_eq_getElem (by omega)];simp[dnx,hn,h2,hb]
 ·obtain⟨g',c',_,e,_,_,_,_,h1,_⟩:=hd.st hn;have e2:g=g':=by simpa[Value.ownBlock] using congrArg Value.ownBlock e
  subst e2;rw[h1];simp[dac,hn]
theorem DStates_c(pd:Nat)(l:List DS)(w:World)(h:DfaAt w pd l):
  Calls Tryz.prog 221 #[ptr pd] w fun e w'=>e= .returned (.int .i64 l.length)∧w'=w:=by
 obtain⟨g,c,h1,_⟩:=h.look;clear h;go_enter Tryz.func221,Tryz.ntmps221;go_wp2_with fail
 go_ret;exact⟨rfl,rfl⟩
theorem DHas_c(pd n:Nat)(l:List DS)(w:World)(h:DfaAt w pd l)(hn:n<l.length):
  Calls Tryz.prog 269 #[ptr pd,.int .i64 n] w fun e w'=>e= .returned (.bool true)∧w'=w:=by
 have H:=Qh (DStates_c pd l w h);clear h;go_enter Tryz.func269,Tryz.ntmps269;go_wp2_with fail
 refine H.out.mono ?_;rintro e w' ⟨rfl,rfl⟩;go_wp2_with fail
 go_ret;exact⟨rfl,rfl⟩
theorem DAccept_c(pd n:Nat)(l:List DS)(w:World)(h:DfaAt w pd l)(hn:n<l.length):
  Calls Tryz.prog 222 #[ptr pd,.int .i64 n] w fun e w'=>e= .returned (.int .i64 (dac l n))∧w'=w:=by
 have H:=Qh (DHas_c pd n l w h hn);obtain⟨g,c,h1,_,h2⟩:=h.look;have h3:=h2 n hn;clear h h2;go_enter Tryz.func222,Tryz.ntmps222;go_wp2_with fail
 refine H.out.mono ?_;rintro e w' ⟨rfl,rfl⟩;go_wp2_with fail
 go_ret;exact⟨rfl,rfl⟩
def nxV(x:Int):Value:=if x= -1 then .tuple #[.int .i64 0,.bool false] else .tuple #[.int .i64 x,.bool true]
theorem DNext_c(pd n b:Nat)(l:List DS)(w:World)(h:DfaAt w pd l)(hn:n<l.length)(hb:b<256):
  Calls Tryz.prog 223 #[ptr pd,.int .i64 n,.int .u8 b] w fun e w'=>e= .returned (nxV (dnx l n b))∧w'=w:=by
 have H:=Qh (DHas_c pd n l w h hn);obtain⟨g,c,h1,h2,_⟩:=h.look;have h3:=h2 n b hn hb;have hb2:(b:Int)<256:=by omega
 clear h h2;obtain⟨x,hx⟩:∃x,x=dnx l n b:=⟨_,rfl⟩;rw[←hx] at h3⊢;clear hx;by_cases e:x= -1
 ·subst e;go_enter Tryz.func223,Tryz.ntmps223;go_wp2_with fail
  refine H.out.mono ?_;rintro e w' ⟨rfl,rfl⟩;go_wp2_with fail
  go_ret2
  exact⟨rfl,rfl⟩
 ·have e2:(x== -1)=false:=by rw[beq_eq_false_iff_ne];exact e
  have HE:=Qh e;go_enter Tryz.func223,Tryz.ntmps223;go_wp2_with fail
  refine H.out.mono ?_;rintro e w' ⟨rfl,rfl⟩;go_wp2_with fail
  go_ret2
  exact⟨by rw[nxV,if_neg HE.out];try rfl,rfl⟩
end Go.Proofs.YtiehgcfckhepaaaGreatDoor
