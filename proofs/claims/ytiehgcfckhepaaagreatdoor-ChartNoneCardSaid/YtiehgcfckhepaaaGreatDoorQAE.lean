/-
  Texts of this claim, laid together: NAcc, DAcc, DText, DSort, DBehind, KMap, DMem, DPlace, DNext, DFill. Conditions: none.
-/
import Derived.Test.YtiehgcfckhepaaaGreatDoorQAD
import Derived.Test.YtiehgcfckhepaaaGreatDoorQAA
import Derived.Laws.IdiomStrings
import Derived.Laws.OwnMore
import Derived.Maps.OwnSet
import Derived.DeepKeys4
import Derived.Great.BuildSlice
import Derived.Deep.WholeRow
set_option linter.unusedVariables false
set_option linter.unusedSimpArgs false
set_option maxRecDepth 100000
set_option maxHeartbeats 16000000
namespace Go.Proofs.YtiehgcfckhepaaaGreatDoor
open Go.RowKit Go.Maps
structure NMok (M:NM):Prop where
 good:NGood M.pos
 ris:∀p∈M.pos,Ris p.follow
 kgood:∀k∈M.rules,KGood k M.pos.length
 rule:∀p∈M.pos,p.rule<M.rules.length
 len:M.pos.length≤2000
 rlen:M.rules.length≤100
theorem nlink_ris{m:List NP}{a b:List Nat}(h:∀p∈m,Ris p.follow):∀p∈nlink m a b,Ris p.follow:=by
 intro p hp;obtain⟨i,hi,rfl⟩:=List.getElem_of_mem hp;have hi':i<m.length:=by rwa[YE] at hi
 rw[nlink_get m a b i hi hi'];split
 ·exact ris_uni _ _ (h _ (List.getElem_mem hi'))
 ·exact h _ (List.getElem_mem hi')
theorem nlink_rule{m:List NP}{a b:List Nat}{R:Nat}(h:∀p∈m,p.rule<R):∀p∈nlink m a b,p.rule<R:=by
 intro p hp;obtain⟨i,hi,rfl⟩:=List.getElem_of_mem hp;have hi':i<m.length:=by rwa[YE] at hi
 rw[nlink_get m a b i hi hi'];have h1:=h m[i] (List.getElem_mem hi');split<;>exact h1
theorem nAdd_ris(r:Nat):∀(t:Rw) (m:List NP),(∀p∈m,Ris p.follow)→∀p∈(Qn r t m).1,Ris p.follow
 | .set b,m,h=>fun p hp=>by
  simp only[Qn,List.mem_append,List.mem_singleton] at hp;rcases hp with hp|rfl
  ·exact h p hp
  ·simp[Ris]
 | .empty,m,h=>h
 | .cat x y,m,h=>nlink_ris (nAdd_ris r y _ (nAdd_ris r x m h))
 | .or x y,m,h=>nAdd_ris r y _ (nAdd_ris r x m h)
 | .star x,m,h=>nlink_ris (nAdd_ris r x m h)
theorem nAdd_rule(r R:Nat)(hr:r<R):∀(t:Rw) (m:List NP),(∀p∈m,p.rule<R)→∀p∈(Qn r t m).1,p.rule<R
 | .set b,m,h=>fun p hp=>by
  simp only[Qn,List.mem_append,List.mem_singleton] at hp;rcases hp with hp|rfl
  ·exact h p hp
  ·exact hr
 | .empty,m,h=>h
 | .cat x y,m,h=>nlink_rule (nAdd_rule r R hr y _ (nAdd_rule r R hr x m h))
 | .or x y,m,h=>nAdd_rule r R hr y _ (nAdd_rule r R hr x m h)
 | .star x,m,h=>nlink_rule (nAdd_rule r R hr x m h)
theorem nPre_ok(ts:List Rw):∀k,k≤ts.length→(∀p∈(YF ts k).1,Ris p.follow)∧(∀p∈(YF ts k).1,p.rule<ts.length)∧∀x∈(YF ts k).2,KGood x (YF ts k).1.length:=by
 intro k;induction k with
 |zero=>intro _;exact⟨(fun p hp=>by cases hp),(fun p hp=>by cases hp),(fun p hp=>by cases hp)⟩
 |succ k ih=>
  intro hk;obtain⟨h1,h2,h3⟩:=ih (by omega);obtain⟨h4,h5,h6⟩:=QU k ts[k] _ (nPre_good ts k (by omega)).2.1;rw[nPre_succ ts k (by omega)];refine⟨nAdd_ris _ _ _ h1,nAdd_rule _ _ (by omega) _ _ h2,fun x hx=> ?_⟩;simp only[List.mem_append,List.mem_singleton] at hx;rcases hx with hx|rfl
  ·exact(h3 x hx).mono (by rw[h4];omega)
  ·exact h6
theorem nfaF_ok(ts:List Rw)(h1:nsum ts ts.length≤2000)(h2:ts.length≤100):NMok (nfaF ts):=by
 have e:YF ts ts.length=Yz 0 ts []:=by unfold YF;rw[List.take_length]
 obtain⟨a1,a2,a3⟩:=nPre_good ts ts.length (Nat.le_refl _);obtain⟨b1,b2,b3⟩:=nPre_ok ts ts.length (Nat.le_refl _);rw[e] at a1 a2 a3 b1 b2 b3;exact⟨a2,b1,b3,fun p hp=>by show p.rule<(Yz 0 ts []).2.length;rw[a3];exact b2 p hp,by show(Yz 0 ts []).1.length≤2000;rw[a1];exact h1,by show(Yz 0 ts []).2.length≤100;rw[a3];exact h2⟩
theorem NfaAt.kn{w w':World}{pm:Nat}{M:NM}(h:NfaAt w pm M)(hk:Kn w w'):NfaAt w' pm M:=by
 obtain⟨v,vr,fs,bs,h1,h2⟩:=h;exact⟨v,vr,fs,bs,h1.kn hk,h2⟩
theorem NfaAt.lt{w:World}{pm:Nat}{M:NM}(h:NfaAt w pm M):pm<w.heap.size:=by obtain⟨v,vr,fs,bs,h1,h2⟩:=h;exact h1.mach.lt
theorem NfaIn.kno{w:World}{pm:Nat}{v vr:Value}{ps:List NP}{ks:List KN}{fs:List Nat}{bs:List (Nat×Nat)}(h:NfaIn w pm v vr ps ks fs bs){i:Nat}(hi:i<ks.length):
  ∃(g c f l:Nat),vr= .slice (some ⟨g,0,none⟩) ks.length c∧SetN w f ks[i].first∧SetN w l ks[i].last∧
  w.cell? ⟨g,i*3,none⟩=some (.map (some f))∧w.cell? ⟨g,i*3+1,none⟩=some (.map (some l))∧w.cell? ⟨g,i*3+2,none⟩=some (.bool ks[i].empty):=by
 have hib:i<bs.length:=by rw[←h.len];exact hi
 have hic:i<(knC ks bs).length:=by rw[knC_len h.len];exact hi
 obtain⟨a,c,h1,h2,h3,h4⟩:=h.rules.row (knC_three ks bs);obtain⟨g,rfl,_,_,h5⟩:=h4 (fun e=>by rw[e] at hic;simp at hic);rw[knC_len h.len] at h1;have h6:=fun j hj=>(h5 i hic j hj).1
 have e0:(knC ks bs)[i]=knL ks[i] bs[i]:=by simp[knC]
 rw[e0] at h6;have e:∀j,0+3*i+j=i*3+j:=fun j=>by omega
 simp only[e] at h6;exact⟨g,c,bs[i].1,bs[i].2,h1,h.first i hi hib,h.last i hi hib,h6 0 (by omega),h6 1 (by omega),h6 2 (by omega)⟩
theorem Rules_c(pm:Nat)(M:NM)(w:World)(h:NfaAt w pm M):
  Calls Tryz.prog 306 #[ptr pm] w fun e w'=>e= .returned (.int .i64 M.rules.length)∧w=w':=by
 obtain⟨v,vr,fs,bs,h1,_⟩:=h;have c1:=Qa h1.mach.blk 1;obtain⟨a,c,hv,_⟩:=h1.rules.row (knC_three _ _);rw[knC_len h1.len] at hv;simp only[PE] at c1;rw[hv] at c1;clear h1 hv;go_enter Tryz.func306,Tryz.ntmps306;go_wp2_with fail
 go_ret;exact⟨rfl,rfl⟩
theorem Len_c(pm:Nat)(M:NM)(w:World)(h:NfaAt w pm M):
  Calls Tryz.prog 334 #[ptr pm] w fun e w'=>e= .returned (.int .i64 M.pos.length)∧w=w':=by
 obtain⟨v,vr,fs,bs,h1,_⟩:=h;have c0:=Qa h1.mach.blk 0;obtain⟨a,c,hv,_⟩:=h1.mach.row.row (YD _ _);rw[QD h1.mach.len] at hv;simp only[PE] at c0;rw[hv] at c0;clear h1 hv;go_enter Tryz.func334,Tryz.ntmps334;go_wp2_with fail
 go_ret;exact⟨rfl,rfl⟩
theorem rule_c(pm i:Nat)(M:NM)(w:World)(h:NfaAt w pm M)(hi:i<M.rules.length)(hi2:M.rules.length≤100):
  Calls Tryz.prog 331 #[ptr pm,.int .i64 i] w fun e w'=>∃f l:Nat,e= .returned (knV f l M.rules[i].empty)∧SetN w' f M.rules[i].first∧SetN w' l M.rules[i].last∧Kn w w':=by
 have hk:Kn w (w.alloc QE):=(Qb _ w).alloc _;have HR:=Qh (Rules_c pm M _ (h.kn hk));obtain⟨v,vr,fs,bs,h1,_⟩:=h;obtain⟨g,c,f,l,hv,hf,hl,x0,x1,x2⟩:=h1.kno hi;have c1:=Qa h1.mach.blk 1;simp only[PE] at c1;rw[hv] at c1;have hpl:=h1.mach.lt;have hgl:g<w.heap.size:=World.block_lt_of_cell? w _ x0;have HS:=Qh (And.intro hf hl);have hi0:¬(i:Int)<0:=by omega
 have hi1:(i:Int)<M.rules.length:=by omega
 clear h1 hv hf hl hk;go_enter Tryz.func331,Tryz.ntmps331;go_wp2_with fail
 refine HR.out.mono ?_;rintro e w' ⟨rfl,rfl⟩;go_wp2_with fail
 obtain⟨hf,hl⟩:=HS.out;have hk:Kn w (w.alloc (knB f l M.rules[i].empty)):=(Qb _ w).alloc _;exact bodyPost_ret (v:=knV f l M.rules[i].empty) (res3 (b:=w.heap.size) Tryz.results331 (by rfl) (Qf _ _)) rfl ⟨f,l,rfl,hf.kn hk,hl.kn hk,hk⟩
theorem field_first(f l:Nat)(e:Bool)(w:World):(Instr.field YH (knV f l e) 0).run Tryz.prog w= .ok (.map (some f)) w:=by kernel_rfl
theorem field_last(f l:Nat)(e:Bool)(w:World):(Instr.field YH (knV f l e) 1).run Tryz.prog w= .ok (.map (some l)) w:=by kernel_rfl
theorem OwnI.kn{w w':World}{B:Nat}{v:Value}{l:List Nat}(h:OwnI w B v l)(hk:Kn w w'):OwnI w' B v l:=by
 refine⟨h.1,?_⟩;rcases h.2 with h1|⟨g,cap,cur,h1,h2,h3,h4⟩
 ·exact .inl h1
 ·exact .inr ⟨g,cap,cur,h1,h2,hk.blk h3 (fun x=>x),h4⟩
theorem First_c(pm i:Nat)(M:NM)(w:World)(h:NfaAt w pm M)(ok:NMok M)(hi:i<M.rules.length):
  Calls Tryz.prog 307 #[ptr pm,.int .i64 i] w fun e w'=>∃v B,e= .returned v∧w.heap.size≤B∧OwnI w' B v M.rules[i].first∧Kn w w':=by
 have HR:=Qh (rule_c pm i M w h hi ok.rlen);have hg:=ok.kgood _ (List.getElem_mem hi);have hle:=ok.len;go_enter Tryz.func307,Tryz.ntmps307;go_wp2_with fail
 refine HR.out.mono ?_;rintro e w1 ⟨f,l,rfl,hf,hl,hk⟩;have hfd:=field_first f l M.rules[i].empty;have HS:=Qh (sorted_c f _ w1 hf hg.rf (Qu hg.f hle));clear hf hl;go_wp2_with fail
 refine HS.out.mono ?_;rintro e w2 ⟨v,rfl,ho,hk2⟩;go_wp2_with fail
 go_ret;exact⟨v,_,rfl,hk.size,ho,hk.trans hk2⟩
theorem Last_c(pm i:Nat)(M:NM)(w:World)(h:NfaAt w pm M)(ok:NMok M)(hi:i<M.rules.length):
  Calls Tryz.prog 337 #[ptr pm,.int .i64 i] w fun e w'=>∃v B,e= .returned v∧w.heap.size≤B∧OwnI w' B v M.rules[i].last∧Kn w w':=by
 have HR:=Qh (rule_c pm i M w h hi ok.rlen);have hg:=ok.kgood _ (List.getElem_mem hi);have hle:=ok.len;go_enter Tryz.func337,Tryz.ntmps337;go_wp2_with fail
 refine HR.out.mono ?_;rintro e w1 ⟨f,l,rfl,hf,hl,hk⟩;have hfd:=field_last f l M.rules[i].empty;have HS:=Qh (sorted_c l _ w1 hl hg.rl (Qu hg.l hle));clear hf hl;go_wp2_with fail
 refine HS.out.mono ?_;rintro e w2 ⟨v,rfl,ho,hk2⟩;go_wp2_with fail
 go_ret;exact⟨v,_,rfl,hk.size,ho,hk.trans hk2⟩
abbrev posV(x:NP)(f:Nat):Value:= .agg #[.int .u64 x.bytes.a,.int .u64 x.bytes.b,.int .u64 x.bytes.c,.int .u64 x.bytes.d,.int .i64 x.rule,.map (some f)]
abbrev posB(x:NP)(f:Nat):Obj:= .cells #[.int .u64 x.bytes.a,.int .u64 x.bytes.b,.int .u64 x.bytes.c,.int .u64 x.bytes.d,.int .i64 x.rule,.map (some f)] Ym
theorem resPos{fn:Func}{t u:Tmp}{tmps:Array Value}{W:World}{b:Nat}{c0 c1 c2 c3 c4 c5:Value}{T:TypeId}{fr:Nat×Nat}(h:fn.results= #[.cell t Ym,.tmp u])(ht:tmps[t]?.getD undef=ptr b)(hb:W.heap[b]? =some (.cells #[c0,c1,c2,c3,c4,c5] T fr)):
  (results fn tmps).run Tryz.prog W= .ok (.tuple #[.agg #[c0,c1,c2,c3,c4,c5],tmps[u]?.getD undef]) W:=by
 have e0:=Qa hb 0;have e1:=Qa hb 1;have e2:=Qa hb 2;have e3:=Qa hb 3;have e4:=Qa hb 4;have e5:=Qa hb 5;simp only[PE] at e0 e1 e2 e3 e4 e5;simp[results,h,ht,go_sem,e0,e1,e2,e3,e4,e5]
theorem at_c(pm i:Nat)(M:NM)(w:World)(h:NfaAt w pm M)(hi:i<M.pos.length):
  Calls Tryz.prog 311 #[ptr pm,.int .i64 i] w fun e w'=>∃f:Nat,e= .returned (.tuple #[posV M.pos[i] f,.bool true])∧SetN w' f M.pos[i].follow∧Kn w w':=by
 have hk:Kn w (w.alloc (.cells #[.int .u64 0,.int .u64 0,.int .u64 0,.int .u64 0,.int .i64 0,.map none] Ym)):=(Qb _ w).alloc _;have HR:=Qh (Len_c pm M _ (h.kn hk));obtain⟨v,vr,fs,bs,h1,hle⟩:=h;obtain⟨g,c,f,hv,_,hf,x0,x1,x2,x3,x4,x5⟩:=h1.mach.pos hi;have c0:=Qa h1.mach.blk 0;simp only[PE] at c0;rw[hv] at c0;have hpl:=h1.mach.lt;have hgl:g<w.heap.size:=World.block_lt_of_cell? w _ x0;have HS:=Qh hf;have hi0:¬(i:Int)<0:=by omega
 have hi1:(i:Int)<M.pos.length:=by omega
 clear h1 hv hf hk;go_enter Tryz.func311,Tryz.ntmps311;go_wp2_with fail
 refine HR.out.mono ?_;rintro e w' ⟨rfl,rfl⟩;go_wp2_with fail
 have hk:Kn w (w.alloc (posB M.pos[i] f)):=(Qb _ w).alloc _;refine bodyPost_ret (resPos (b:=w.heap.size) Tryz.results311 (by rfl) (Qf w (posB M.pos[i] f))) rfl ⟨f,rfl,HS.out.kn hk,hk⟩
theorem Follow_c(pm i:Nat)(M:NM)(w:World)(h:NfaAt w pm M)(ok:NMok M)(hi:i<M.pos.length):
  Calls Tryz.prog 308 #[ptr pm,.int .i64 i] w fun e w'=>∃v B,e= .returned v∧w.heap.size≤B∧OwnI w' B v M.pos[i].follow∧Kn w w':=by
 have HR:=Qh (at_c pm i M w h hi);have hle:=ok.len;have hg:=ok.good _ (List.getElem_mem hi);have hr:=ok.ris _ (List.getElem_mem hi);have HG:=Qh (And.intro hr (Qu hg hle));clear hg hr;go_enter Tryz.func308,Tryz.ntmps308;go_wp2_with fail
 refine HR.out.mono ?_;rintro e w1 ⟨f,rfl,hf,hk⟩;have hk2:Kn w1 (w1.alloc (posB M.pos[i] f)):=(Qb _ _).alloc _;have HS:=Qh (sorted_c f _ _ (hf.kn hk2) HG.out.1 HG.out.2);clear hf;go_wp2_with fail
 refine HS.out.mono ?_;rintro e w2 ⟨v,rfl,ho,hk3⟩;go_wp2_with fail
 go_ret;exact⟨v,_,rfl,Nat.le_trans hk.size hk2.size,ho,(hk.trans hk2).trans hk3⟩
theorem Rule_c(pm i:Nat)(M:NM)(w:World)(h:NfaAt w pm M)(hi:i<M.pos.length):
  Calls Tryz.prog 335 #[ptr pm,.int .i64 i] w fun e w'=>e= .returned (.int .i64 M.pos[i].rule)∧Kn w w':=by
 have HR:=Qh (at_c pm i M w h hi);go_enter Tryz.func335,Tryz.ntmps335;go_wp2_with fail
 refine HR.out.mono ?_;rintro e w1 ⟨f,rfl,hf,hk⟩;clear hf;go_wp2_with fail
 go_ret;exact⟨rfl,hk.alloc _⟩
theorem getN(x:NP)(f:Nat)(w:World)(i:Nat)(hi:i<4):(w.alloc (posB x f)).cell? ⟨w.heap.size,i,none⟩=some (.int .u64 (x.bytes.get i)):=by
 rw[Qa (Qf w (posB x f))]
 match i,hi with
 |0,_=>rfl
 |1,_=>rfl
 |2,_=>rfl
 |3,_=>rfl
theorem Has_c(pm i b:Nat)(M:NM)(w:World)(h:NfaAt w pm M)(hi:i<M.pos.length)(hb:b<256):
  Calls Tryz.prog 265 #[ptr pm,.int .i64 i,.int .u8 b] w fun e w'=>e= .returned (.bool (M.has i b))∧Kn w w':=by
 have HR:=Qh (at_c pm i M w h hi);have hok:M.pos[i].bytes.ok:=by obtain⟨v,vr,fs,bs,h1,hle⟩:=h;exact h1.mach.ok _ (List.getElem_mem hi)
 have HT:=Qh (bit_test hok b);have HH:Hid (M.has i b=M.pos[i].bytes.bit b):=Qh (by simp[NM.has,hi]);have hb2:(b:Int)<256:=by omega
 have hq:(b:Int)/64<4:=by omega
 have hq0:(0:Int)≤(b:Int)/64:=by omega
 clear hok h;go_enter Tryz.func265,Tryz.ntmps265;go_wp2_with fail
 refine HR.out.mono ?_;rintro e w1 ⟨f,rfl,hf,hk⟩;clear hf;have cg:=getN M.pos[i] f w1 (b/64) (by omega);go_wp2_with fail
 go_ret;exact⟨by rw[HH.out,←HT.out];try rfl,hk.alloc _⟩
theorem OwnI.look{w:World}{B:Nat}{v:Value}{l:List Nat}(h:OwnI w B v l):∃a c,v= .slice a l.length c∧l.length≤c∧c≤maxLen∧(l≠[]→∃b:Nat,a=some ⟨b,0,none⟩∧B≤b∧v.ownBlock=some b∧
  ∀j (hj:j<l.length),w.cell? ⟨b,j,none⟩=some (.int .i64 (l[j]:Nat))∧w.frozen? ⟨b,j,none⟩=false):=by
 rcases h.2 with⟨h1,h2⟩|⟨g,cap,cur,h1,h2,h3,h4,h5,h6,h7⟩
 ·exact⟨none,0,by rw[h1,h2],by omega,by simp[maxLen],fun hne=>(hne (by simpa using h2)).elim⟩
 ·refine⟨_,cap,h1,h4,h5,fun _=>⟨g,rfl,h2,by rw[h1];try rfl,fun j hj=>⟨?_,Qd h3 _⟩⟩⟩;have hc:=World.ownsRow.cells h (g:=g) (by rw[h1];try rfl) j (.int .i64 (l[j]:Nat)) (by simp[hj]);have hadd:(⟨g,0,none⟩:Addr).add j=⟨g,j,none⟩:=by unfold Addr.add;split<;>simp_all
  rw[hadd] at hc;exact hc
theorem toInts_getD(l:List Nat)(j:Nat)(hj:j<l.length):(l.map (fun x:Nat=>(x:Int))).getD j 0=(l[j]:Nat):=by
 rw[List.getD_eq_getElem?_getD,List.getElem?_map,List.getElem?_eq_getElem hj];try rfl
theorem Contains_c(x B:Nat)(v:Value)(l:List Nat)(w:World)(h:OwnI w B v l):
  Calls Tryz.prog 336 #[v,.int .i64 x] w fun e w'=>e= .returned (.bool (l.contains x))∧w=w':=by
 obtain⟨a,c,rfl,h1,h2,h3⟩:=h.look;by_cases hl:l=[]
 ·subst hl;exact(Tryz.slices_Contains_int_empty a c x w).mono fun e w' ⟨q1,q2⟩=>⟨by rw[q1];try rfl,q2.symm⟩
 ·obtain⟨b,rfl,_,_,h4⟩:=h3 hl;have hm:l.length≤9223372036854775807:=by simp only[maxLen] at h2;omega
  refine(Tryz.slices_Contains_int b 0 l.length c (l.map (fun x:Nat=>(x:Int))) x w (by simp) hm (fun j hj=> ?_)).mono fun e w' ⟨q1,q2⟩=>⟨?_,q2.symm⟩
  ·simp only[List.length_map] at hj;rw[Nat.zero_add,toInts_getD l j hj];exact(h4 j hj).1
  ·rw[q1,List.take_of_length_le (by simp)];congr 2;rw[Bool.eq_iff_iff];simp only[List.contains_eq_mem,List.mem_map,decide_eq_true_eq];constructor
   ·rintro⟨y,hy,e⟩;have:y=x:=by omega
    subst this;exact hy
   ·intro h;exact⟨x,h,rfl⟩
def accK(M:NM)(l:List Nat)(k:Nat):Int:=(l.take k).foldl M.acc (-1)
theorem accK_succ(M:NM)(l:List Nat)(k:Nat)(h:k<l.length):accK M l (k+1)=M.acc (accK M l k) l[k]:=by
 unfold accK;rw[List.take_succ_eq_append_getElem h,List.foldl_append];try rfl
theorem acc_ge(M:NM)(b:Int)(p:Nat)(hb: -1≤b∧b<1000000)(hp:p<M.pos.length)(ok:NMok M): -1≤M.acc b p∧M.acc b p<1000000:=by
 unfold NM.acc;split
 ·have h1:=ok.rule _ (List.getElem_mem hp);have h2:=ok.rlen;simp only[NM.rule,List.getElem?_eq_getElem hp];omega
 ·exact hb
theorem accK_ge(M:NM)(l:List Nat)(hl:∀p∈l,p<M.pos.length)(ok:NMok M):∀k,k≤l.length→-1≤accK M l k∧accK M l k<1000000:=by
 intro k;induction k with
 |zero=>intro _;simp[accK]
 |succ k ih=>
  intro h;rw[accK_succ M l k (by omega)];exact acc_ge M _ _ (ih (by omega)) (hl _ (List.getElem_mem _)) ok
theorem accept_c(pm B:Nat)(M:NM)(v:Value)(l:List Nat)(w:World)(h:NfaAt w pm M)(ok:NMok M)(hv:OwnI w B v l)(hl:∀p∈l,p<M.pos.length):
  Calls Tryz.prog 312 #[ptr pm,v] w fun e w'=>e= .returned (.int .i64 (M.accept l))∧Kn w w':=by
 obtain⟨a,c,rfl,h1,h2,h3⟩:=hv.look;have hm:l.length≤9223372036854775807:=by simp only[maxLen] at h2;omega
 have HC:Hid (∀j (hj:j<l.length),∃b:Nat,a=some ⟨b,0,none⟩∧w.cell? ⟨b,j,none⟩=some (.int .i64 (l[j]:Nat))):=Qh (fun j hj=>by
  obtain⟨b,e,_,_,h4⟩:=h3 (fun e=>by rw[e] at hj;simp at hj);exact⟨b,e,(h4 j hj).1⟩)
 have HN:=Qh h;have HL:=Qh hl;have HOK:=Qh ok;have HG:=Qh (accK_ge M l hl ok);have HE:Hid (accK M l l.length=M.accept l):=Qh (by unfold accK NM.accept;rw[List.take_length]);clear h hl ok hv h1 h2 h3;go_enter Tryz.func312,Tryz.ntmps312;go_wp2_with fail
 go_loopw [5,7,8,11,12,13,14,15,16,17,18,19,20,21,22,23,24,25,26,27,28,29,30,31,32,33] (fun s _ _ i _ _ _ _ _ _ _ _ _ _ _ _ _ _ _ _ _ _ _ _ _ _ wr=>∃k:Nat,k≤l.length∧i= .int .i64 k∧s= .int .i64 (accK M l k)∧Kn w wr) (fun _ _ _ i _ _ _ _ _ _ _ _ _ _ _ _ _ _ _ _ _ _ _ _ _ _ _=>l.length-(intOf i).toNat)
 case atStart=>exact⟨0,Nat.zero_le _,rfl,rfl,Qb _ _⟩
 case round=>
  obtain⟨k,hk,rfl,rfl,hkn⟩:=hrel;by_cases hlt:k<l.length
  ·obtain⟨b,rfl,hc0⟩:=HC.out k hlt;have hc:=Qc hkn hc0;have hp:=HL.out _ (List.getElem_mem hlt);have hs:=Qh (accK_succ M l k hlt);have hr:=(HOK.out).rule _ (List.getElem_mem hp);obtain⟨hg1,hg2⟩:=HG.out k hk;have HR:=Qh (Rule_c pm l[k] M wr (HN.out.kn hkn) hp);have HRU:Hid (M.rule l[k]=(M.pos[l[k]].rule:Int)):=Qh (by simp[NM.rule,hp]);have HLA:Hid (M.last (M.rule l[k])=M.rules[M.pos[l[k]].rule].last):=Qh (by rw[HRU.out];simp[NM.last,hr];intro h;omega);have HACC:Hid (M.acc (accK M l k) l[k]=if(accK M l k= -1∨M.rule l[k]<accK M l k)∧(M.last (M.rule l[k])).contains l[k]=true then M.rule l[k] else accK M l k):=Qh rfl;clear hc0;generalize hgen:accK M l k=bst at hg1 hg2;have HGEN:=Qh hgen;clear hgen;have hr0:M.pos[l[k]].rule<1000000:=by have:=HOK.out.rlen;omega
   have ways:Hid ((bst== -1)=true∨((bst== -1)=false∧(M.pos[l[k]].rule:Int)<bst)∨((bst== -1)=false∧¬(M.pos[l[k]].rule:Int)<bst)):=Qh (by
    by_cases e:bst= -1
    ·left;simp[e]
    ·right;have e1:(bst== -1)=false:=by simpa using e
     by_cases e2:(M.pos[l[k]].rule:Int)<bst
     ·exact .inl ⟨e1,e2⟩
     ·exact .inr ⟨e1,e2⟩)
   rcases ways.out with hw|⟨hw,hw2⟩|⟨hw,hw2⟩
   ·go_wp2_with fail
    refine HR.out.mono ?_;rintro e w2 ⟨rfl,hk2⟩;go_wp2_with fail
    refine(Last_c pm M.pos[l[k]].rule M w2 (HN.out.kn (hkn.trans hk2)) HOK.out hr).mono ?_;rintro e w3 ⟨vl,Bl,rfl,_,hol,hk3⟩;have HCO:=Qh (Contains_c l[k] Bl vl _ w3 hol);clear hol;go_wp2_with fail
    refine HCO.out.mono ?_;rintro e w' ⟨rfl,rfl⟩;cases hcon:M.rules[M.pos[l[k]].rule].last.contains l[k] with
    |true=>
     have HX:Hid (accK M l (k+1)=(M.pos[l[k]].rule:Int)):=Qh (by
      rw[hs.out,HACC.out,HGEN.out,HLA.out,HRU.out,if_pos ⟨(.inl (by simpa using hw)),hcon⟩])
     clear hcon;go_wp2_with fail
     go_roundw
     case rel=>exact⟨k+1,by omega,by go_num,by rw[HX.out],(hkn.trans hk2).trans hk3⟩
     case measure=>simp[intOf];omega
    |false=>
     have HX:Hid (accK M l (k+1)=bst):=Qh (by
      rw[hs.out,HACC.out,HGEN.out,HLA.out,if_neg (fun h=>by rw[hcon] at h;exact absurd h.2 (by simp))])
     clear hcon;go_wp2_with fail
     go_roundw
     case rel=>exact⟨k+1,by omega,by go_num,by rw[HX.out],(hkn.trans hk2).trans hk3⟩
     case measure=>simp[intOf];omega
   ·go_wp2_with fail
    refine HR.out.mono ?_;rintro e w2 ⟨rfl,hk2⟩;go_wp2_with fail
    refine(Last_c pm M.pos[l[k]].rule M w2 (HN.out.kn (hkn.trans hk2)) HOK.out hr).mono ?_;rintro e w3 ⟨vl,Bl,rfl,_,hol,hk3⟩;have HCO:=Qh (Contains_c l[k] Bl vl _ w3 hol);clear hol;go_wp2_with fail
    refine HCO.out.mono ?_;rintro e w' ⟨rfl,rfl⟩;cases hcon:M.rules[M.pos[l[k]].rule].last.contains l[k] with
    |true=>
     have HX:Hid (accK M l (k+1)=(M.pos[l[k]].rule:Int)):=Qh (by
      rw[hs.out,HACC.out,HGEN.out,HLA.out,HRU.out,if_pos ⟨(.inr hw2),hcon⟩])
     clear hcon;go_wp2_with fail
     go_roundw
     case rel=>exact⟨k+1,by omega,by go_num,by rw[HX.out],(hkn.trans hk2).trans hk3⟩
     case measure=>simp[intOf];omega
    |false=>
     have HX:Hid (accK M l (k+1)=bst):=Qh (by
      rw[hs.out,HACC.out,HGEN.out,HLA.out,if_neg (fun h=>by rw[hcon] at h;exact absurd h.2 (by simp))])
     clear hcon;go_wp2_with fail
     go_roundw
     case rel=>exact⟨k+1,by omega,by go_num,by rw[HX.out],(hkn.trans hk2).trans hk3⟩
     case measure=>simp[intOf];omega
   ·have HX:Hid (accK M l (k+1)=bst):=Qh (by
     rw[hs.out,HACC.out,HGEN.out,HRU.out,if_neg (fun h=>by rcases h.1 with h|h;simp[h] at hw;exact hw2 h)])
    go_wp2_with fail
    refine HR.out.mono ?_;rintro e w2 ⟨rfl,hk2⟩;go_wp2_with fail
    go_roundw
    case rel=>exact⟨k+1,by omega,by go_num,by rw[HX.out],hkn.trans hk2⟩
    case measure=>simp[intOf];omega
  ·have e:k=l.length:=by omega
   have HF:Hid (accK M l k=M.accept l):=Qh (by rw[e];exact HE.out);clear e;go_wp2_with fail
   go_ret;exact⟨by rw[HF.out];try rfl,hkn⟩
def txt2(n:Nat):List UInt8:=[UInt8.ofNat n,UInt8.ofNat (n/256)]
def textF(l:List Nat):List UInt8:=l.flatMap txt2
theorem textF_len:∀l:List Nat,(textF l).length=2*l.length
 |[]=>rfl
 |x::l=>by
  have:=textF_len l;simp only[textF,List.flatMap_cons,List.length_append,List.length_cons] at this⊢;rw[this];simp[txt2];omega
theorem txt2_inj{a b:Nat}(ha:a<65536)(hb:b<65536)(h:txt2 a=txt2 b):a=b:=by
 simp only[txt2,List.cons.injEq,and_true] at h;have h1:=congrArg UInt8.toNat h.1;have h2:=congrArg UInt8.toNat h.2;simp only[UInt8.toNat_ofNat'] at h1 h2;omega
theorem textF_inj:∀ {a b:List Nat},(∀x∈a,x<65536)→(∀x∈b,x<65536)→textF a=textF b→a=b
 |[],[],_,_,_=>rfl
 |[],y::b,_,_,h=>by simp[textF,txt2] at h
 |x::a,[],_,_,h=>by simp[textF,txt2] at h
 |x::a,y::b,ha,hb,h=>by
  have e:txt2 x++textF a=txt2 y++textF b:=h;have h1:=List.append_inj e (by simp[txt2]);rw[txt2_inj (ha x (by simp)) (hb y (by simp)) h1.1,textF_inj (fun z hz=>ha z (by simp[hz])) (fun z hz=>hb z (by simp[hz])) h1.2]
theorem info_byte:(Tryz.prog.info? 5).map (fun i=>(i.zero,i.size,i.bytes))=some (some (.int .u8 0),1,1):=by kernel_rfl
abbrev byC(l:List UInt8):List Value:=l.map (fun b=>Value.int .u8 (b.toNat:Int))
theorem text_c(B:Nat)(v:Value)(l:List Nat)(w:World)(hv:OwnI w B v l)(hl:∀p∈l,p<65536)(hlen:l.length≤1000000):
  Calls Tryz.prog 267 #[v] w fun e w'=>e= .returned (.string ⟨(textF l).toArray⟩)∧Kn w w':=by
 obtain⟨a,c,rfl,h1,h2,h3⟩:=hv.look;have HC:Hid (∀j (hj:j<l.length),∃b:Nat,a=some ⟨b,0,none⟩∧w.cell? ⟨b,j,none⟩=some (.int .i64 (l[j]:Nat))):=Qh (fun j hj=>by
  obtain⟨b,e,_,_,h4⟩:=h3 (fun e=>by rw[e] at hj;simp at hj);exact⟨b,e,(h4 j hj).1⟩)
 have HL:=Qh hl;obtain⟨i0,hi,hz0,hz1,hz2⟩:=info_parts info_byte;have HI:=Qh (And.intro hi (And.intro hz0 (And.intro hz1 hz2)));clear hl hv h1 h2 h3 hi hz0 hz1 hz2;go_enter Tryz.func267,Tryz.ntmps267;go_wp2_with (first|(at_make;go_must (refine wpList_make_own _ rfl (.const (.int .i64 0)) (.tmp 8) 242 rfl w.heap.size 5 i0 (.int .u8 0) 1 Tryz.underlying242 HI.out.1 HI.out.2.1 HI.out.2.2.1 .i64 .i64 (2*(l.length:Int)) (2*l.length) rfl rfl (by omega) (by rw[HI.out.2.2.2];omega) (by simp only[maxLen];omega) (Nat.le_refl _) ?_;intro w1 hown1 hg1)))
 obtain⟨gb,hgb⟩:∃g,g=w.heap.size:=⟨_,rfl⟩;rw[←hgb] at hown1⊢;have hg:w.heap.size≤gb:=by omega
 have hgl:gb<w1.heap.size:=(hown1.lt gb rfl).2;have hk1:Kn w w1:=QL hg1 (fun k e _=>by cases e);clear hgb;go_loopw [3,5,12,14,15,16,17,18,19,20,21,22,23,24] (fun s _ i _ _ _ _ _ _ _ _ _ _ _ wr=>∃k:Nat,k≤l.length∧i= .int .i64 k∧s= .slice (some ⟨gb,0,none⟩) (2*k) (2*l.length)∧Hid (wr.ownsRow gb 5 1 (.slice (some ⟨gb,0,none⟩) (2*k) (2*l.length)) (2*k) (byC (textF (l.take k))))∧Kn w wr) (fun _ _ i _ _ _ _ _ _ _ _ _ _ _ _=>l.length-(intOf i).toNat)
 case atStart=>exact⟨0,Nat.zero_le _,rfl,rfl,Qh hown1,hk1⟩
 case round=>
  obtain⟨k,hk,rfl,rfl,hown,hkn⟩:=hrel;by_cases hlt:k<l.length
  ·obtain⟨b,rfl,hc0⟩:=HC.out k hlt;have hc:=Qc hkn hc0;have hx:=HL.out _ (List.getElem_mem hlt);clear hc0;have e1:((UInt8.ofNat l[k]).toNat:Int)=(l[k]:Int)%256:=by rw[UInt8.toNat_ofNat'];omega
   have e2:((UInt8.ofNat (l[k]/256)).toNat:Int)=(l[k]:Int)/256:=by rw[UInt8.toNat_ofNat'];omega
   have HS:Hid (byC (textF (l.take (k+1)))=byC (textF (l.take k))++[.int .u8 ((l[k]:Int)%256),.int .u8 ((l[k]:Int)/256)]):=Qh (by
    rw[List.take_succ_eq_append_getElem hlt];simp only[byC,textF,List.flatMap_append,List.map_append,List.flatMap_cons,List.flatMap_nil,List.append_nil,txt2,List.map_cons,List.map_nil,e1,e2])
   have hnews:=World.news_of_block (Qf wr (.cells #[.int .u8 ((l[k]:Int)%256),.int .u8 ((l[k]:Int)/256)] 5));have HN:=Qh (And.intro hown hnews);have hfit:2*k+2≤2*l.length:=by omega
   have HI1:=Qh HI.out.1;clear e1 e2 hnews;go_wp2_with (at_builtin;refine wpList_append_fits _ rfl (.tmp 16) (.tmp 22) 242 rfl gb 5 i0 1 Tryz.underlying242 HI.out.1 HI.out.2.2.1 gb (2*k) (2*l.length) _ rfl (HN.out.1.out.alloc _) ⟨wr.heap.size,0,none⟩ 2 2 _ rfl rfl HN.out.2 (by simp[Value.oneCell']) hfit ?_;intro w3 hown3 hg3)
   have hk3:Kn w w3:=(hkn.alloc _).trans' (QL (S:=fun k=>k=gb) hg3 (fun k e _=>by cases e;rfl)) (fun i hi e=>by omega);have HO3:=Qh hown3;clear hown3 hg3 hc;go_wp2_with fail
   go_roundw
   case rel=>exact⟨k+1,by omega,by go_num,rfl,Qh (by rw[HS.out];exact HO3.out),hk3⟩
   case measure=>simp[intOf];omega
  ·have e:k=l.length:=by omega
   have hrow:=hown.out;rw[e,List.take_length] at hrow;have hbl:=hrow.lt gb rfl;have hconv:=run_convert_bytes_back (P:=Tryz.prog) wr 242 9 5 ⟨gb,0,none⟩ (2*l.length) (textF l) Tryz.underlying242 Tryz.underlying5 Tryz.underlying9 (fun j hj=>by
    exact World.ownsRow.cells hrow (g:=gb) rfl j _ (by simp[hj]))
   rw[textF_len] at hconv;subst e;clear hrow;go_wp2_with fail
   go_ret;exact⟨rfl,hkn⟩
open Go.RowKit Go.Maps Go.Sort Go.Lib
theorem compact_sorted(d:Array Int)(hs:∀i j,i≤j→j<d.size→d[i]! ≤d[j]!):∀m,m≤d.size→(compactUpTo d m).Pairwise (·< ·)∧∀x,x∈compactUpTo d m↔∃j,j<m∧d[j]! =x:=by
 intro m;induction m with
 |zero=>intro _;simp[compactUpTo]
 |succ m ih=>
  intro hm;obtain⟨h1,h2⟩:=ih (by omega);rw[compactUpTo_succ];cases hk:keeps d m with
  |true=>
   rw[if_pos rfl];have hne:m=0∨d[m-1]! ≠d[m]! :=by
    simp only[keeps,decide_eq_true_eq] at hk;rcases hk with h|h
    ·exact .inl h
    ·exact .inr (fun e=>h e.symm)
   refine⟨List.pairwise_append.2 ⟨h1,by simp,fun x hx y hy=> ?_⟩,fun x=> ?_⟩
   ·simp at hy;subst hy;obtain⟨j,hj,rfl⟩:=(h2 x).1 hx;rcases hne with h|h
    ·omega
    ·have e1:=hs j (m-1) (by omega) (by omega);have e2:=hs (m-1) m (by omega) (by omega);omega
   ·rw[List.mem_append,h2 x,List.mem_singleton];constructor
    ·rintro(⟨j,hj,e⟩|rfl)
     ·exact⟨j,by omega,e⟩
     ·exact⟨m,by omega,rfl⟩
    ·rintro⟨j,hj,e⟩;by_cases h:j=m
     ·subst h;exact .inr e.symm
     ·exact .inl ⟨j,by omega,e⟩
  |false=>
   rw[if_neg (by simp),List.append_nil];have he:m≠0∧d[m-1]! =d[m]! :=by
    simp only[keeps,decide_eq_false_iff_not] at hk;rw[not_or] at hk;exact⟨hk.1,by have:=hk.2;simp only[ne_eq,Decidable.not_not] at this;exact this.symm⟩
   refine⟨h1,fun x=> ?_⟩;rw[h2 x];constructor
   ·rintro⟨j,hj,e⟩;exact⟨j,by omega,e⟩
   ·rintro⟨j,hj,e⟩;by_cases h:j=m
    ·subst h;exact⟨j-1,by omega,by rw[he.2];exact e⟩
    ·exact⟨j,by omega,e⟩
theorem sort_compact{l r:List Nat}(hr:Ris r)(hm:∀x,x∈r↔x∈l):compact ((l.map (fun x:Nat=>(x:Int))).mergeSort (fun x y=>decide (x≤y)))=r.map (fun x:Nat=>(x:Int)):=by
 have hp:(((l.map (fun x:Nat=>(x:Int))).mergeSort (fun x y=>decide (x≤y)))).Pairwise (fun a b=>decide (a≤b)=true):=
  List.pairwise_mergeSort (fun a b c h1 h2=>by simp only[decide_eq_true_eq] at*;omega) (fun a b=>by simp only[Bool.or_eq_true,decide_eq_true_eq];omega) _
 generalize hz:(l.map (fun x:Nat=>(x:Int))).mergeSort (fun x y=>decide (x≤y))=zs at hp;have hmem:∀x:Int,x∈zs↔∃y∈l,(y:Int)=x:=fun x=>by rw[←hz,List.mem_mergeSort];simp
 have hs:∀i j,i≤j→j<zs.toArray.size→zs.toArray[i]! ≤zs.toArray[j]! :=by
  intro i j hij hj;simp only[List.size_toArray] at hj;simp only[List.getElem!_toArray];rw[getElem!_pos zs i (by omega),getElem!_pos zs j hj];rcases Nat.lt_or_ge i j with h|h
  ·have:=List.pairwise_iff_getElem.1 hp i j (by omega) hj h;simpa using this
  ·obtain rfl:i=j:=by omega
   exact Int.le_refl _
 obtain⟨h1,h2⟩:=compact_sorted zs.toArray hs zs.length (by simp);have hr':(r.map (fun x:Nat=>(x:Int))).Pairwise (·< ·):=by
  rw[List.pairwise_map];exact hr.imp (fun {a b} h=>by omega)
 refine List.Perm.eq_of_pairwise (le:=fun a b=>a<b) (fun a b _ _ q1 q2=>by omega) h1 hr' ?_;refine(List.perm_ext_iff_of_nodup (h1.imp (fun {a b} h=>by omega)) (hr'.imp (fun {a b} h=>by omega))).2 (fun x=> ?_);show x∈compactUpTo zs.toArray zs.length↔_;rw[h2 x];have e:(∃j,j<zs.length∧zs.toArray[j]! =x)↔x∈zs:=by
  constructor
  ·rintro⟨j,hj,rfl⟩;simp only[List.getElem!_toArray];rw[getElem!_pos zs j hj];exact List.getElem_mem hj
  ·intro h;obtain⟨j,hj,rfl⟩:=List.getElem_of_mem h;exact⟨j,hj,by simp only[List.getElem!_toArray];rw[getElem!_pos zs j hj]⟩
 rw[e,hmem x];simp only[List.mem_map];constructor
 ·rintro⟨y,hy,rfl⟩;exact⟨y,(hm y).2 hy,rfl⟩
 ·rintro⟨y,hy,rfl⟩;exact⟨y,(hm y).1 hy,rfl⟩
abbrev OwnZ(w:World)(B:Nat)(v:Value)(zs:List Int):Prop:=w.ownsRow B 3 1 v zs.length (zs.map encZ)
theorem OwnI.z{w:World}{B:Nat}{v:Value}{l:List Nat}(h:OwnI w B v l):OwnZ w B v (l.map (fun x:Nat=>(x:Int))):=by
 unfold OwnZ;rw[List.map_map,List.length_map];exact h
theorem OwnI.of_z{w:World}{B:Nat}{v:Value}{l:List Nat}(h:OwnZ w B v (l.map (fun x:Nat=>(x:Int)))):OwnI w B v l:=by
 unfold OwnZ at h;rw[List.map_map,List.length_map] at h;exact h
theorem Sort_c(B:Nat)(v:Value)(zs:List Int)(w:World)(h:OwnZ w B v zs)(hl:zs.length≤100000000):
  Calls Tryz.prog 309 #[v] w fun e w'=>e= .returned (.tuple #[])∧OwnZ w' B v (zs.mergeSort (fun x y=>decide (x≤y)))∧Kp (fun k=>v.ownBlock=some k) w w':=by
 rcases h.2 with⟨rfl,hz⟩|⟨gb,cap,cur,rfl,hbase,hgb,r1,r2,r3,r4⟩
 ·have hss:zs=[]:=List.eq_nil_of_length_eq_zero hz;subst hss;exact(Tryz.slices_Sort_int_none none 0 w).mono fun e w' ⟨q1,q2⟩=>by subst q2;exact⟨q1,by simpa using h,Qb _ _⟩
 ·have hH:Holds encZ w gb 0 zs.toArray:=holds_of_block_i hgb (by simpa using r4);refine(Tryz.slices_Sort_int gb 0 cap zs w hH (Ql hgb) (by omega)).mono fun e w' ⟨q1,n,os,q2⟩=> ?_
  subst q2;have hlen:(zs.mergeSort (fun x y=>decide (x≤y))).length=zs.length:=by simp
  refine⟨q1,?_,QL (grownBy_sorted_i _) (fun k e _=>by simpa[Value.ownBlock] using e.symm)⟩;have:=ownsRow_sorted_i (n:=n) (os:=os) (ts:=zs.mergeSort (fun x y=>decide (x≤y))) hlen hbase hgb r1 r2 r3;unfold OwnZ;rw[hlen];exact this
theorem Compact_c(B:Nat)(v:Value)(zs:List Int)(w:World)(h:OwnZ w B v zs)(hl:zs.length≤100000000):
  Calls Tryz.prog 310 #[v] w fun e w'=>∃v',e= .returned v'∧OwnZ w' B v' (compact zs)∧Kp (fun k=>v.ownBlock=some k) w w':=by
 rcases h.2 with⟨rfl,hz⟩|⟨gb,cap,cur,rfl,hbase,hgb,r1,r2,r3,r4⟩
 ·have hss:zs=[]:=List.eq_nil_of_length_eq_zero hz;subst hss;exact(Tryz.slices_Compact_int_empty none 0 w).mono fun e w' ⟨q1,q2⟩=>by subst q2;exact⟨_,q1,h,Qb _ _⟩
 ·have hH:Holds encZ w gb 0 zs.toArray:=holds_of_block_i hgb (by simpa using r4);refine(Tryz.slices_Compact_int gb 0 cap zs w hH (by omega) r1).mono fun e w' ⟨q1,n,q2⟩=> ?_
  have hcl:(compact zs).length≤zs.length:=by
   unfold compact compactUpTo;rw[List.length_map];exact Nat.le_trans (List.length_filter_le _ _) (by simp)
  have hg:w'=grow w' #[]:=by simp[grow]
  rw[hg,q2];have hlen:(compact zs++List.replicate (zs.length-(compact zs).length) 0).length=zs.length:=by simp;omega
  have hrow:=ownsRow_sorted_i (n:=n) (os:= #[]) (ts:=compact zs++List.replicate (zs.length-(compact zs).length) 0) hlen hbase hgb r1 r2 r3;refine⟨_,q1,?_,QL (grownBy_sorted_i _) (fun k e _=>by simpa[Value.ownBlock] using e.symm)⟩;refine⟨by simp,?_⟩;rcases hrow.2 with⟨e,_⟩|⟨g',cap',cur',e1,e2,e3,e4,e5,e6,e7⟩
  ·cases e
  ·simp only[Value.slice.injEq,Option.some.injEq,Addr.mk.injEq,and_true,true_and] at e1;obtain⟨rfl,rfl⟩:=e1;refine .inr ⟨_,_,cur',rfl,e2,e3,by omega,e5,e6,?_⟩;simp only[Nat.mul_one] at e7⊢;have:(cur'.toList.take zs.length).take (compact zs).length=((compact zs++List.replicate (zs.length-(compact zs).length) 0).map encZ).take (compact zs).length:=by rw[e7]
   rw[List.take_take,Nat.min_eq_left hcl,List.map_append,List.take_left' (by simp)] at this;exact this
theorem info_int:(Tryz.prog.info? 3).map (fun i=>(i.zero,i.size,i.bytes))=some (some (.int .i64 0),1,8):=by kernel_rfl
theorem run_append_i(w:World)(ty:TypeId)(B Bx:Nat)(va vx:Value)(a x:List Nat)(ha:OwnI w B va a)(hx:OwnI w Bx vx x)(hl:a.length+x.length≤100000000)(hB:B≤w.heap.size):
  ∃v' w',(Builtin.append_ #[28,28] ty #[va,vx]).run Tryz.prog w= .ok v' w'∧OwnI w' B v' (a++x)∧Kp (fun k=>some k=va.ownBlock) w w':=by
 obtain⟨i0,hi,hz0,hz1,hz2⟩:=info_parts info_int;rcases hx.2 with⟨rfl,hz⟩|⟨g,cap,cur,rfl,hbase,hgb,r1,r2,r3,r4⟩
 ·have hss:x=[]:=List.eq_nil_of_length_eq_zero hz;subst hss;exact⟨va,w,run_append_owned_none (w:=w) B 28 ty 3 i0 1 Tryz.underlying28 hi va _ _ ha,by simpa using ha,Qb _ _⟩
 ·obtain⟨v',w',hr,h2,h3,_,_⟩:=run_append_own_at (P:=Tryz.prog) w B 28 ty 3 i0 (.int .i64 0) 1 8 Tryz.underlying28 hi hz0 hz1 hz2 rfl (by decide) va _ _ ha ⟨g,0,none⟩ x.length cap (x.map (fun x:Nat=>Value.int .i64 x)) (by simp)
   (World.ownsRow.cells hx (g:=g) rfl) (by simp[Value.oneCell']) (by simp only[maxLen];omega) (by omega) hB
  exact⟨v',w',hr,by unfold OwnI;rw[List.length_append,List.map_append];exact h2,Kp.grownK h3⟩
theorem Yc{w:World}{ops:Array Oper}{rest:List Oper}{o:Oper}{act:Act}{Q:Exit→Act→World→Prop}(hgd:o.guard=none)(s x:Operand)
  (ho:o.op= .call {callee:= .builtin .append,args:= #[s,x],argTypes:= #[28,28]}) (B Bx:Nat) (va vx:Value) (a l:List Nat) (hs:act.eval s=va) (hxe:act.eval x=vx) (ha:OwnI w B va a) (hx:OwnI w Bx vx l) (hl:a.length+l.length≤100000000) (hB:B≤w.heap.size)
  (h:∀v' w',OwnI w' B v' (a++l)→Kp (fun k=>some k=va.ownBlock) w w'→wpList Tryz.prog ops Q rest (act.put o.dst v') w'):wpList Tryz.prog ops Q (o::rest) act w:=by
 refine wpList_plain hgd fun K hK=> ?_
 obtain⟨v',w',hr,h2,h3⟩:=run_append_i w o.type B Bx va vx a l ha hx hl hB;unfold Oper.wp execOp;simp only[ho,resolve,invoke,builtin,Sem.run_bind,Sem.run_pure,Result.andThen_ok,List.map_toArray,List.map_cons,List.map_nil,hs,hxe,hr];exact hK _ _ (h v' w' h2 h3)
end Go.Proofs.YtiehgcfckhepaaaGreatDoor
namespace Go.Proofs.YtiehgcfckhepaaaGreatDoor
open Go.RowKit Go.Maps
theorem foldl_uni{α:Type}(f:α→List Nat):∀(L:List α) (l:List Nat),Ris l→Ris (L.foldl (fun l k=>uni l (f k)) l)∧∀x,x∈L.foldl (fun l k=>uni l (f k)) l↔x∈l∨x∈L.flatMap f
 |[],l,h=>⟨h,fun x=>by simp⟩
 |k::L,l,h=>by
  obtain⟨h1,h2⟩:=foldl_uni f L (uni l (f k)) (ris_uni _ _ h);refine⟨h1,fun x=> ?_⟩;rw[List.foldl_cons,h2 x,mem_uni,List.flatMap_cons,List.mem_append,or_assoc]
def catK{α:Type}(f:α→List Nat)(L:List α)(k:Nat):List Nat:=(L.take k).flatMap f
theorem catK_succ{α:Type}(f:α→List Nat)(L:List α)(k:Nat)(h:k<L.length):catK f L (k+1)=catK f L k++f L[k]:=by
 unfold catK;rw[List.take_succ_eq_append_getElem h,List.flatMap_append];simp
theorem catK_len{α:Type}(f:α→List Nat)(L:List α)(h:∀x∈L,(f x).length≤2000):∀k,k≤L.length→(catK f L k).length≤2000*k:=by
 intro k;induction k with
 |zero=>intro _;simp[catK]
 |succ k ih=>
  intro hk;rw[catK_succ f L k (by omega),List.length_append];have h1:=ih (by omega);have h2:=h _ (List.getElem_mem (show k<L.length by omega));omega
theorem ris_small{l:List Nat}(h:Ris l){n:Nat}(hl:∀x∈l,x<n)(hn:n≤2000):l.length≤2000:=by
 have:=ris_len (N:=n) (m:=0) h (fun x hx=>⟨Nat.zero_le _,hl x hx⟩);omega
theorem behind_ris(M:NM)(l:List Nat):Ris (M.behind l):=by
 unfold NM.behind;split
 ·exact(foldl_uni (fun k:KN=>k.first) M.rules [] List.Pairwise.nil).1
 ·exact(foldl_uni M.follow l [] List.Pairwise.nil).1
theorem behind_lt(M:NM)(ok:NMok M)(l:List Nat)(hl:∀p∈l,p<M.pos.length):∀x∈M.behind l,x<M.pos.length:=by
 intro x hx;unfold NM.behind at hx;split at hx
 ·have h1:=((foldl_uni (fun k:KN=>k.first) M.rules [] List.Pairwise.nil).2 x).1 hx;simp only[List.not_mem_nil,false_or,List.mem_flatMap] at h1;obtain⟨k,hk,h2⟩:=h1;exact(ok.kgood k hk).f x h2
 ·have h1:=((foldl_uni M.follow l [] List.Pairwise.nil).2 x).1 hx;simp only[List.not_mem_nil,false_or,List.mem_flatMap] at h1;obtain⟨p,hp,h2⟩:=h1;have hp':=hl p hp;simp only[NM.follow,List.getElem?_eq_getElem hp'] at h2;exact ok.good _ (List.getElem_mem hp') x h2
def BehindPost(M:NM)(l:List Nat)(w:World)(e:Ending)(w':World):Prop:=∃v B,e= .returned v∧w.heap.size≤B∧OwnI w' B v (M.behind l)∧Kn w w'
theorem behind_nil(pm:Nat)(M:NM)(l:List Nat)(hl0:l=[])(w:World)(h:NfaAt w pm M)(ok:NMok M):
  Calls Tryz.prog 264 #[ptr pm,.slice none 0 0] w (BehindPost M l w):=by
 have HN:=Qh h;have HOK:=Qh ok;have HL0:=Qh hl0;have hrl:=ok.rlen;have HLEN:=Qh (catK_len (fun k:KN=>k.first) M.rules (fun k hk=>ris_small (ok.kgood k hk).rf (ok.kgood k hk).f ok.len));have hqn:∀w,(binOp .eql 28 (.slice none 0 0) (.slice none 0 0)).run Tryz.prog w= .ok (.bool true) w:=fun w=>by kernel_rfl
 clear h ok hl0;go_enter Tryz.func264,Tryz.ntmps264;go_wp2_with fail
 refine(Rules_c pm M w HN.out).mono ?_;rintro e w' ⟨rfl,rfl⟩;go_wp2_with fail
 go_loopw [5,6,13,14,15,16,17,18,19,20,21] (fun s _ i _ _ _ _ _ _ _ _ wr=>∃(v:Value) (k:Nat),v=s∧k≤M.rules.length∧i= .int .i64 k∧Hid (OwnI wr w.heap.size v (catK (fun k:KN=>k.first) M.rules k))∧Kn w wr) (fun _ _ i _ _ _ _ _ _ _ _ _=>M.rules.length-(intOf i).toNat)
 case atStart=>exact⟨_,0,rfl,Nat.zero_le _,rfl,Qh (World.ownsRow_nil _ _ _ _),Qb _ _⟩
 case round=>
  obtain⟨v,k,rfl,hk,rfl,hrow,hkn⟩:=hrel;have hlk:=HLEN.out k hk;by_cases hlt:k<M.rules.length
  ·have hs:=Qh (catK_succ (fun k:KN=>k.first) M.rules k hlt);have hx:(M.rules[k].first).length≤2000:=ris_small (HOK.out.kgood _ (List.getElem_mem hlt)).rf (HOK.out.kgood _ (List.getElem_mem hlt)).f HOK.out.len;have HF:=Qh (First_c pm k M wr (HN.out.kn hkn) HOK.out hlt);go_wp2_with fail
   refine HF.out.mono ?_;rintro e w3 ⟨vx,Bx,rfl,hbx,hox,hk3⟩;have HX:=Qh hox;have hB3:w.heap.size≤w3.heap.size:=Nat.le_trans hkn.size hk3.size;clear hox;go_wp2_with (at_builtin;refine Yc rfl (.tmp 16) (.tmp 19) rfl w.heap.size Bx v vx _ _ rfl rfl (hrow.out.kn hk3) HX.out (by omega) hB3 ?_;intro v4 w4 hro4 hk4)
   have HR4:=Qh hro4;have hkn4:Kn w w4:=(hkn.trans hk3).trans' hk4 (fun i hi e=>by have:=(hrow.out.lt i e.symm).1;omega);clear hro4 hk4;go_wp2_with fail
   go_roundw
   case rel=>exact⟨v4,k+1,rfl,by omega,by go_num,Qh (by rw[hs.out];exact HR4.out),hkn4⟩
   case measure=>simp[intOf];omega
  ·have e:k=M.rules.length:=by omega
   go_wp2_with fail
   refine wp_loop_rounds 1 ?_;rw[rounds_succ];have HSORT:=Qh (Sort_c w.heap.size _ _ wr hrow.out.z (by simp;omega));have HSC:Hid (Lib.compact (((catK (fun k:KN=>k.first) M.rules k).map (fun x:Nat=>(x:Int))).mergeSort (fun x y=>decide (x≤y)))=(M.behind l).map (fun x:Nat=>(x:Int))):=Qh (sort_compact (behind_ris M l) (fun x=>by
    have e1:M.behind l=M.rules.foldl (fun l k=>uni l k.first) []:=by rw[HL0.out];simp[NM.behind]
    rw[e1,(foldl_uni (fun k:KN=>k.first) M.rules [] List.Pairwise.nil).2 x,e];unfold catK;rw[List.take_length];simp))
   go_wp2_with fail
   refine(HSORT.out).mono ?_;rintro e w5 ⟨rfl,hs5,hk5⟩;have HCOM:=Qh (Compact_c w.heap.size _ _ w5 hs5 (by simp;omega));clear hs5;go_wp2_with fail
   refine HCOM.out.mono ?_;rintro e w6 ⟨v6,rfl,hs6,hk6⟩;rw[HSC.out] at hs6;go_wp2_with fail
   go_ret;exact⟨v6,_,rfl,Nat.le_refl _,OwnI.of_z hs6,(hkn.trans' hk5 (fun i hi e=>by have:=(hrow.out.lt i e).1;omega)).trans' hk6 (fun i hi e=>by have:=(hrow.out.lt i e).1;omega)⟩
theorem behind_at(pm B:Nat)(M:NM)(v0:Value)(l:List Nat)(hl0:l≠[])(w:World)(h:NfaAt w pm M)(ok:NMok M)(hv:OwnI w B v0 l)(hl:∀p∈l,p<M.pos.length)(hll:l.length≤2000):
  Calls Tryz.prog 264 #[ptr pm,v0] w (BehindPost M l w):=by
 obtain⟨a,c,rfl,h1,h2,h3⟩:=hv.look;obtain⟨b,rfl,_,_,h4⟩:=h3 hl0;have HN:=Qh h;have HOK:=Qh ok;have HL0:=Qh hl0;have HC:=Qh h4;have HL:=Qh hl;have hfl:∀p∈l,(M.follow p).length≤2000:=fun p hp=>by
  have hp':=hl p hp;simp only[NM.follow,List.getElem?_eq_getElem hp'];exact ris_small (ok.ris _ (List.getElem_mem hp')) (ok.good _ (List.getElem_mem hp')) ok.len
 have HFL:=Qh hfl;have HLEN:=Qh (catK_len M.follow l hfl);have hqn:=Lib.run_eql_slice_nil (P:=Tryz.prog) (t:=28);clear h ok hl0 hv hl h2 h3 h4 hfl h1;go_enter Tryz.func264,Tryz.ntmps264;go_wp2_with fail
 go_loopw [5,8,24,25,26,27,28,29,30,31,32,33] (fun s _ i _ _ _ _ _ _ _ _ _ wr=>∃(v:Value) (k:Nat),v=s∧k≤l.length∧i= .int .i64 k∧Hid (OwnI wr w.heap.size v (catK M.follow l k))∧Kn w wr) (fun _ _ i _ _ _ _ _ _ _ _ _ _=>l.length-(intOf i).toNat)
 case atStart=>exact⟨_,0,rfl,Nat.zero_le _,rfl,Qh (World.ownsRow_nil _ _ _ _),Qb _ _⟩
 case round=>
  obtain⟨v,k,rfl,hk,rfl,hrow,hkn⟩:=hrel;have hlk:=HLEN.out k hk;by_cases hlt:k<l.length
  ·have hs:=Qh (catK_succ M.follow l k hlt);have hx:=HFL.out _ (List.getElem_mem hlt);have hp:=HL.out _ (List.getElem_mem hlt);have hc:=Qc hkn (HC.out k hlt).1;have hfo:Hid (M.follow l[k]=M.pos[l[k]].follow):=Qh (by simp[NM.follow,hp]);have HF:=Qh (Follow_c pm l[k] M wr (HN.out.kn hkn) HOK.out hp);go_wp2_with fail
   refine HF.out.mono ?_;rintro e w3 ⟨vx,Bx,rfl,hbx,hox,hk3⟩;rw[←hfo.out] at hox;have HX:=Qh hox;have hB3:w.heap.size≤w3.heap.size:=Nat.le_trans hkn.size hk3.size;clear hox hc;go_wp2_with (at_builtin;refine Yc rfl (.tmp 28) (.tmp 31) rfl w.heap.size Bx v vx _ _ rfl rfl (hrow.out.kn hk3) HX.out (by omega) hB3 ?_;intro v4 w4 hro4 hk4)
   have HR4:=Qh hro4;have hkn4:Kn w w4:=(hkn.trans hk3).trans' hk4 (fun i hi e=>by have:=(hrow.out.lt i e.symm).1;omega);clear hro4 hk4;go_wp2_with fail
   go_roundw
   case rel=>exact⟨v4,k+1,rfl,by omega,by go_num,Qh (by rw[hs.out];exact HR4.out),hkn4⟩
   case measure=>simp[intOf];omega
  ·have e:k=l.length:=by omega
   have HSORT:=Qh (Sort_c w.heap.size _ _ wr hrow.out.z (by simp;omega));have HSC:Hid (Lib.compact (((catK M.follow l k).map (fun x:Nat=>(x:Int))).mergeSort (fun x y=>decide (x≤y)))=(M.behind l).map (fun x:Nat=>(x:Int))):=Qh (sort_compact (behind_ris M l) (fun x=>by
    have e1:M.behind l=l.foldl (fun l p=>uni l (M.follow p)) []:=by unfold NM.behind;rw[if_neg HL0.out]
    rw[e1,(foldl_uni M.follow l [] List.Pairwise.nil).2 x,e];unfold catK;rw[List.take_length];simp))
   go_wp2_with fail
   refine(HSORT.out).mono ?_;rintro e w5 ⟨rfl,hs5,hk5⟩;have HCOM:=Qh (Compact_c w.heap.size _ _ w5 hs5 (by simp;omega));clear hs5;go_wp2_with fail
   refine HCOM.out.mono ?_;rintro e w6 ⟨v6,rfl,hs6,hk6⟩;rw[HSC.out] at hs6;go_wp2_with fail
   go_ret;exact⟨v6,_,rfl,Nat.le_refl _,OwnI.of_z hs6,(hkn.trans' hk5 (fun i hi e=>by have:=(hrow.out.lt i e).1;omega)).trans' hk6 (fun i hi e=>by have:=(hrow.out.lt i e).1;omega)⟩
open Go.RowKit Go.Maps Go.ChangeMaps
abbrev KV:=List (Value×Value)
def MapA(w:World)(k:TypeId)(b:Nat)(m:KV):Prop:=
 ∃(es:Array MapEntry) (clock:Nat),w.heap[b]? =some (.map es clock)∧es.toList.map (fun e=>(e.key,e.val))=m∧(m.map (·.1)).Nodup∧∀p∈m,∃l,keyOf Tryz.prog k p.1=some l
section
variable {w:World} {k e t:TypeId} {b:Nat} {m:KV} {x:Value} {lx:Lit}
theorem YP{es:Array MapEntry}(he:es.toList.map (fun e=>(e.key,e.val))=m)(hk:∀p∈m,∃l,keyOf Tryz.prog k p.1=some l):∀e∈es.toList,∃l,keyOf Tryz.prog k e.key=some l:=fun e h=>by
 refine hk (e.key,e.val) ?_;rw[←he];exact List.mem_map_of_mem h
theorem MapA.lt(h:MapA w k b m):b<w.heap.size:=by obtain⟨_,_,hb,_⟩:=h;exact Ql hb
theorem MapA.kp{S:Nat→Prop}{w':World}(h:MapA w k b m)(hk:Kp S w w')(hs:¬S b):MapA w' k b m:=by obtain⟨es,clock,hb,r⟩:=h;exact⟨es,clock,hk.blk hb hs,r⟩
theorem MapA.kn{w':World}(h:MapA w k b m)(hk:Kn w w'):MapA w' k b m:=h.kp hk (fun x=>x)
theorem MapA.new(w:World)(k:TypeId):MapA (w.alloc (.map #[] 0)) k w.heap.size []:=⟨#[],0,Qf w _,rfl,by simp,by simp⟩
theorem MapA.look0(h:MapA w k b m)(K:Keyed Tryz.prog k)(ht:Tryz.prog.underlying t=some (.map k e)){z:Value}(hz:(zeroValue e).run Tryz.prog w= .ok z w)(hx:keyOf Tryz.prog k x=some lx)(hn:∀p∈m,p.1≠x)(c:Bool):
  (Instr.lookup t (.map (some b)) x c).run Tryz.prog w= .ok (if c then .tuple #[z,.bool false] else z) w:=by
 obtain⟨es,clock,hb,he,hd,hk⟩:=h;rcases K.find w hx es.toList (YP he hk) with⟨h1,_⟩|⟨j,e0,h1,h2,h3⟩
 ·simp[Instr.lookup,run_underlying ht,MapKept.run_getObj_map hb,K.check w _ hx,h1,hz,Result.andThen]
 ·exact(hn (e0.key,e0.val) (by rw[←he];exact List.mem_map_of_mem (List.mem_of_getElem? h2)) h3).elim
theorem MapA.val{v:Value}(hd:(m.map (·.1)).Nodup)(h1:(x,v)∈m){u:Value}(h2:(x,u)∈m):u=v:=by
 induction m with
 |nil=>cases h1
 |cons p m ih=>
  simp only[List.map_cons,List.nodup_cons] at hd;rcases List.mem_cons.1 h1 with e1|e1
  ·subst e1;rcases List.mem_cons.1 h2 with e2|e2
   ·exact congrArg Prod.snd e2
   ·exact(hd.1 (List.mem_map_of_mem (f:=(·.1)) e2)).elim
  ·rcases List.mem_cons.1 h2 with e2|e2
   ·subst e2;exact(hd.1 (List.mem_map_of_mem (f:=(·.1)) e1)).elim
   ·exact ih hd.2 e1 e2
theorem MapA.look1(h:MapA w k b m)(K:Keyed Tryz.prog k)(ht:Tryz.prog.underlying t=some (.map k e))(hx:keyOf Tryz.prog k x=some lx){v:Value}(hn:(x,v)∈m)(c:Bool):
  (Instr.lookup t (.map (some b)) x c).run Tryz.prog w= .ok (if c then .tuple #[v,.bool true] else v) w:=by
 obtain⟨es,clock,hb,he,hd,hk⟩:=h;rcases K.find w hx es.toList (YP he hk) with⟨h1,h0⟩|⟨j,e0,h1,h2,h3⟩
 ·rw[←he] at hn;obtain⟨e1,h4,h5⟩:=List.mem_map.1 hn;exact(h0 e1 h4 (congrArg Prod.fst h5)).elim
 ·have hv:e0.val=v:=MapA.val hd hn (by rw[←he,←h3];exact List.mem_map_of_mem (List.mem_of_getElem? h2));subst hv;simp[Instr.lookup,run_underlying ht,MapKept.run_getObj_map hb,K.check w _ hx,h1,Result.andThen]
theorem MapA.put0(h:MapA w k b m)(K:Keyed Tryz.prog k)(ht:Tryz.prog.underlying t=some (.map k e))(hx:keyOf Tryz.prog k x=some lx)(hn:∀p∈m,p.1≠x)(v:Value):
  ∃w',(Instr.mapUpdate t (.map (some b)) x v).run Tryz.prog w= .ok () w'∧MapA w' k b (m++[(x,v)])∧K1 b w w':=by
 obtain⟨es,clock,hb,he,hd,hk⟩:=h;rcases K.find w hx es.toList (YP he hk) with⟨h1,_⟩|⟨j,e0,h1,h2,h3⟩
 ·refine⟨setBlock w b (.map (es.push ⟨x,v,clock⟩) (clock+1)),?_,⟨_,_,heap_setBlock_same hb _,?_,?_,?_⟩,⟨rfl,rfl,rfl,by simp[setBlock],fun i _ hi=>heap_setBlock_other hb _ hi⟩⟩
  ·simp[Instr.mapUpdate,run_underlying ht,MapKept.run_getObj_map hb,K.check w false hx,h1,MapKept.run_setObj_map _ hb,Result.andThen,setBlock]
  ·simp[he]
  ·rw[List.map_append,List.nodup_append];refine⟨hd,by simp,fun y hy z hz=> ?_⟩;simp at hz;subst hz;obtain⟨p,hp,rfl⟩:=List.mem_map.1 hy;exact hn p hp
  ·intro p hp;rcases List.mem_append.1 hp with hp|hp
   ·exact hk p hp
   ·simp at hp;subst hp;exact⟨_,hx⟩
 ·exact(hn (e0.key,e0.val) (by rw[←he];exact List.mem_map_of_mem (List.mem_of_getElem? h2)) h3).elim
theorem MapA.put1(h:MapA w k b m)(K:Keyed Tryz.prog k)(ht:Tryz.prog.underlying t=some (.map k e))(hx:keyOf Tryz.prog k x=some lx){u:Value}(hn:(x,u)∈m)(v:Value):
  ∃(w':World) (j:Nat),(Instr.mapUpdate t (.map (some b)) x v).run Tryz.prog w= .ok () w'∧m[j]? =some (x,u)∧MapA w' k b (m.set j (x,v))∧K1 b w w':=by
 obtain⟨es,clock,hb,he,hd,hk⟩:=h;rcases K.find w hx es.toList (YP he hk) with⟨h1,h0⟩|⟨j,e0,h1,h2,h3⟩
 ·rw[←he] at hn;obtain⟨e1,h4,h5⟩:=List.mem_map.1 hn;exact(h0 e1 h4 (congrArg Prod.fst h5)).elim
 ·have hv:e0.val=u:=MapA.val hd hn (by rw[←he,←h3];exact List.mem_map_of_mem (List.mem_of_getElem? h2));have hj:es[j]? =some e0:=by simpa using h2
  have hm:m[j]? =some (x,u):=by rw[←he,List.getElem?_map,h2];simp[h3,hv]
  have hjl:j<m.length:=(List.getElem?_eq_some_iff.1 hm).1;refine⟨setBlock w b (.map (es.modify j (fun e'=> {e' with key:=x,val:=v})) clock),j,?_,hm,⟨_,_,heap_setBlock_same hb _,?_,?_,?_⟩,⟨rfl,rfl,rfl,by simp[setBlock],fun i _ hi=>heap_setBlock_other hb _ hi⟩⟩
  ·simp[Instr.mapUpdate,run_underlying ht,MapKept.run_getObj_map hb,K.check w false hx,h1,hj,h3,K.stays w hx,MapKept.run_setObj_map _ hb,Result.andThen,setBlock]
  ·rw[Array.toList_modify,List.modify_eq_set,h2];simp[List.map_set,he]
  ·have:(m.set j (x,v)).map (·.1)=m.map (·.1):=by
    rw[List.map_set];apply List.ext_getElem?;intro i;rw[List.getElem?_set];split
    ·rename_i e;subst e;rw[List.getElem?_map,hm];simp[hjl]
    ·rfl
   rw[this];exact hd
  ·intro p hp;rcases List.mem_or_eq_of_mem_set hp with hp|rfl
   ·exact hk p hp
   ·exact⟨_,hx⟩
theorem MapA.len(h:MapA w k b m)(ht:Tryz.prog.underlying t=some (.map k e))(ty:TypeId):(Builtin.len_ #[t] ty #[.map (some b)]).run Tryz.prog w= .ok (.int .i64 m.length) w:=by
 obtain⟨es,clock,hb,he,_,_⟩:=h;have e1:m.length=es.size:=by rw[←he];simp
 rw[e1];simp[Builtin.len_,run_underlying ht,MapKept.run_getObj_map hb,goInt,Result.andThen]
end
section
variable {w:World} {k e t:TypeId} {b:Nat} {m:KV} {ops:Array Oper} {rest:List Oper} {o:Oper} {a:Act} {Q:Exit→Act→World→Prop}
theorem Zb(hg:o.guard=none)(mo xo:Operand)(c:Bool)(hop:o.op=Op.lookup t mo xo c)(K:Keyed Tryz.prog k)(ht:Tryz.prog.underlying t=some (.map k e))(z:Value)(hz:∀w,(zeroValue e).run Tryz.prog w= .ok z w)
  (hm:a.eval mo= .map (some b)) (h:MapA w k b m) (x:Value) (lx:Lit) (hx:a.eval xo=x) (hk:keyOf Tryz.prog k x=some lx) (hn:∀p∈m,p.1≠x)
  (hK:wpList Tryz.prog ops Q rest (a.put o.dst (if c then .tuple #[z,.bool false] else z)) w):wpList Tryz.prog ops Q (o::rest) a w:=by
 refine wpList_plain hg fun K' hK'=> ?_
 unfold Oper.wp;simp[execOp,hop,hm,hx,h.look0 K ht (hz w) hk hn c,Result.andThen];exact hK' _ _ hK
theorem Yr(hg:o.guard=none)(mo xo:Operand)(c:Bool)(hop:o.op=Op.lookup t mo xo c)(K:Keyed Tryz.prog k)(ht:Tryz.prog.underlying t=some (.map k e))
  (hm:a.eval mo= .map (some b)) (h:MapA w k b m) (x:Value) (lx:Lit) (hx:a.eval xo=x) (hk:keyOf Tryz.prog k x=some lx) (v:Value) (hn:(x,v)∈m)
  (hK:wpList Tryz.prog ops Q rest (a.put o.dst (if c then .tuple #[v,.bool true] else v)) w):wpList Tryz.prog ops Q (o::rest) a w:=by
 refine wpList_plain hg fun K' hK'=> ?_
 unfold Oper.wp;simp[execOp,hop,hm,hx,h.look1 K ht hk hn c,Result.andThen];exact hK' _ _ hK
theorem wpList_put0(hg:o.guard=none)(mo xo vo:Operand)(hop:o.op=Op.mapUpdate t mo xo vo)(K:Keyed Tryz.prog k)(ht:Tryz.prog.underlying t=some (.map k e))
  (hm:a.eval mo= .map (some b)) (h:MapA w k b m) (x v:Value) (lx:Lit) (hx:a.eval xo=x) (hv:a.eval vo=v) (hk:keyOf Tryz.prog k x=some lx) (hn:∀p∈m,p.1≠x)
  (hK:∀w',MapA w' k b (m++[(x,v)])→K1 b w w'→wpList Tryz.prog ops Q rest (a.put o.dst undef) w'):wpList Tryz.prog ops Q (o::rest) a w:=by
 refine wpList_plain hg fun K' hK'=> ?_
 obtain⟨w',hr,h1,h2⟩:=h.put0 K ht hk hn v;unfold Oper.wp;simp[execOp,hop,hm,hx,hv,hr,Result.andThen];exact hK' _ _ (hK w' h1 h2)
theorem wpList_put1(hg:o.guard=none)(mo xo vo:Operand)(hop:o.op=Op.mapUpdate t mo xo vo)(K:Keyed Tryz.prog k)(ht:Tryz.prog.underlying t=some (.map k e))
  (hm:a.eval mo= .map (some b)) (h:MapA w k b m) (x v:Value) (lx:Lit) (hx:a.eval xo=x) (hv:a.eval vo=v) (hk:keyOf Tryz.prog k x=some lx) (u:Value) (hn:(x,u)∈m)
  (hK:∀w' j,m[j]? =some (x,u)→MapA w' k b (m.set j (x,v))→K1 b w w'→wpList Tryz.prog ops Q rest (a.put o.dst undef) w'):wpList Tryz.prog ops Q (o::rest) a w:=by
 refine wpList_plain hg fun K' hK'=> ?_
 obtain⟨w',j,hr,hj,h1,h2⟩:=h.put1 K ht hk hn v;unfold Oper.wp;simp[execOp,hop,hm,hx,hv,hr,Result.andThen];exact hK' _ _ (hK w' j hj h1 h2)
end
end Go.Proofs.YtiehgcfckhepaaaGreatDoor
namespace Go.Proofs.YtiehgcfckhepaaaGreatDoor
open Go.RowKit Go.Maps
abbrev TD:TypeId:=357
abbrev TDs:TypeId:=354
abbrev TDb:TypeId:=360
abbrev TStr:TypeId:=9
def stL(s:DS)(va:Value):List Value:=va::(s.next.map (Value.int .i64)++[.int .i64 s.accept])
theorem stL_len{s:DS}{va:Value}(h:s.next.length=256):(stL s va).length=258:=by simp[stL,h]
def stC(l:List DS)(vas:List Value):List (List Value):=List.zipWith stL l vas
theorem YW{l:List DS}{vas:List Value}(h:l.length=vas.length):(stC l vas).length=l.length:=by simp[stC,h]
theorem stC_all{l:List DS}{vas:List Value}(h:∀s∈l,s.next.length=256):∀C∈stC l vas,C.length=258:=by
 intro C hC;obtain⟨i,hi,rfl⟩:=List.getElem_of_mem hC;have h1:i<l.length:=by simp[stC] at hi;omega
 simp only[stC,List.getElem_zipWith];exact stL_len (h _ (List.getElem_mem h1))
theorem stC_get{l:List DS}{vas:List Value}{i:Nat}(h1:i<l.length)(h2:i<vas.length)(h3:i<(stC l vas).length):(stC l vas)[i]=stL l[i] vas[i]:=by simp[stC]
theorem stC_snoc{l:List DS}{vas:List Value}(h:l.length=vas.length)(s:DS)(va:Value):stC (l++[s]) (vas++[va])=stC l vas++[stL s va]:=by
 unfold stC;rw[List.zipWith_append h];try rfl
def AtAt(w:World)(l:List Nat)(v:Value):Prop:=(l=[]∧v= .slice none 0 0)∨(l≠[]∧∃B,OwnI w B v l)
theorem AtAt.kp{S:Nat→Prop}{w w':World}{l:List Nat}{v:Value}(h:AtAt w l v)(hk:Kp S w w')(hS:∀(g:Nat) (cs:Array Value),w.heap[g]? =some (.cells cs 3 (0,0))→¬S g):AtAt w' l v:=by
 rcases h with h|⟨h1,B,h2⟩
 ·exact .inl h
 ·refine .inr ⟨h1,B,h2.1,?_⟩;rcases h2.2 with h3|⟨g,cap,cur,h3,h4,h5,h6⟩
  ·exact .inl h3
  ·exact .inr ⟨g,cap,cur,h3,h4,hk.blk h5 (hS g cur h5),h6⟩
theorem AtAt.slice{w:World}{l:List Nat}{v:Value}(h:AtAt w l v):∃a c,v= .slice a l.length c:=by
 rcases h with⟨h1,h2⟩|⟨_,B,h2⟩
 ·exact⟨none,0,by rw[h1,h2];try rfl⟩
 ·obtain⟨a,c,h3,_⟩:=h2.look;exact⟨a,c,h3⟩
theorem OwnK.blkT{w:World}{B k:Nat}{T:TypeId}{v:Value}{Cs:List (List Value)}(h:OwnK w B T k v Cs){g:Nat}(hg:v.ownBlock=some g):∃cur,w.heap[g]? =some (.cells cur T (0,0)):=by
 rcases h.2 with⟨h1,_⟩|⟨g',cap,cur,h1,_,h3,_⟩
 ·rw[h1] at hg;cases hg
 ·have e:g'=g:=by rw[h1] at hg;simpa[Value.ownBlock] using hg
  subst e;exact⟨cur,h3⟩
def dfL(pm:Nat)(v:Value)(cl:List Int)(nc:Int):List Value:=ptr pm::v::(cl.map (Value.int .i64)++[.int .i64 nc])
structure DfaIn (w:World) (pd pm:Nat) (v:Value) (l:List DS) (vas:List Value) (cl:List Int) (nc:Int):Prop where
 blk:w.heap[pd]? =some (.cells (dfL pm v cl nc).toArray TD (0,0))
 cls:cl.length=256
 len:l.length=vas.length
 row:OwnK w (pd-1) TDs 258 v (stC l vas)
 nx:∀s∈l,s.next.length=256
 ats:∀i (h:i<l.length) (h':i<vas.length),AtAt w l[i].at_ vas[i]
def DSS(pd bm:Nat)(v:Value)(k:Nat):Prop:=k=pd∨k=bm∨v.ownBlock=some k
section
variable {w w':World} {pd pm:Nat} {v:Value} {l:List DS} {vas:List Value} {cl:List Int} {nc:Int}
theorem DfaIn.lt(h:DfaIn w pd pm v l vas cl nc):pd<w.heap.size:=Ql h.blk
theorem DfaIn.kn(h:DfaIn w pd pm v l vas cl nc)(hk:Kn w w'):DfaIn w' pd pm v l vas cl nc:=
 ⟨hk.blk h.blk (fun x=>x),h.cls,h.len,h.row.kn hk,h.nx,fun i a b=>(h.ats i a b).kp hk (fun _ _ _ x=>x)⟩
theorem DfaIn.own_blk(h:DfaIn w pd pm v l vas cl nc){g:Nat}(hg:v.ownBlock=some g):∃cur,w.heap[g]? =some (.cells cur TDs (0,0)):=h.row.blkT hg
theorem DfaIn.own_lt(h:DfaIn w pd pm v l vas cl nc){g:Nat}(hg:v.ownBlock=some g):(pd≠g∧pd≤g+1)∧g<w.heap.size:=by
 obtain⟨h1,h2⟩:=h.row.lt g hg;refine⟨⟨fun e=> ?_,by omega⟩,h2⟩;subst e;obtain⟨cur,hb⟩:=h.own_blk hg;rw[h.blk] at hb;injection hb with hb;injection hb with _ hb _;exact absurd hb (by decide)
theorem DfaIn.slice(h:DfaIn w pd pm v l vas cl nc):∃a c,v= .slice a l.length c:=by
 obtain⟨a,c,h1,_⟩:=h.row.row (stC_all h.nx);rw[YW h.len] at h1;exact⟨a,c,h1⟩
theorem DfaIn.other(h:DfaIn w pd pm v l vas cl nc){g:Nat}{C:Array Value}{T:TypeId}{fr:Nat×Nat}(hg:w.heap[g]? =some (.cells C T fr))(h1:T≠TD)(h2:T≠TDs):¬(g=pd∨v.ownBlock=some g):=by
 rintro(rfl|e)
 ·rw[h.blk] at hg;injection hg with hg;injection hg with _ hg _;exact h1 hg.symm
 ·obtain⟨cur,hb⟩:=h.own_blk e;rw[hb] at hg;injection hg with hg;injection hg with _ hg _;exact h2 hg.symm
theorem DfaIn.cells(h:DfaIn w pd pm v l vas cl nc):w.cell? ⟨pd,0,none⟩=some (ptr pm)∧w.cell? ⟨pd,1,none⟩=some v∧w.frozen? ⟨pd,1,none⟩=false:=
 ⟨by rw[Qa h.blk];try rfl,by rw[Qa h.blk];try rfl,Qd h.blk _⟩
theorem DfaIn.st(h:DfaIn w pd pm v l vas cl nc){i:Nat}(hi:i<l.length):∃g c va,v= .slice (some ⟨g,0,none⟩) l.length c∧vas[i]? =some va∧AtAt w l[i].at_ va∧w.cell? ⟨g,i*258,none⟩=some va∧
  (∀c,c<256→w.cell? ⟨g,i*258+1+c,none⟩=(l[i].next.map (Value.int .i64))[c]?)∧w.cell? ⟨g,i*258+257,none⟩=some (.int .i64 l[i].accept)∧(∀j,j<258→w.frozen? ⟨g,i*258+j,none⟩=false):=by
 have hiv:i<vas.length:=by rw[←h.len];exact hi
 have hic:i<(stC l vas).length:=by rw[YW h.len];exact hi
 obtain⟨a,c,h1,h2,h3,h4⟩:=h.row.row (stC_all h.nx);obtain⟨g,rfl,_,_,h5⟩:=h4 (fun e=>by rw[e] at hic;simp at hic);rw[YW h.len] at h1;have h6:=fun j hj=>h5 i hic j hj
 rw[stC_get hi hiv hic] at h6;have e:∀j,0+258*i+j=i*258+j:=fun j=>by omega
 simp only[e] at h6;have hn:=h.nx _ (List.getElem_mem hi);have h60:=(h6 0 (by omega)).1;rw[Nat.add_zero] at h60;have h61:(stL l[i] vas[i])[0]? =some vas[i]:=by rw[stL,List.getElem?_cons_zero]
 rw[h61] at h60;have hlen:(l[i].next.map (Value.int .i64)).length=256:=by rw[List.length_map];exact hn
 refine⟨g,c,vas[i],h1,List.getElem?_eq_getElem hiv,h.ats i hi hiv,h60,fun c hc=> ?_,?_,fun j hj=>(h6 j hj).2⟩
 ·have h7:=(h6 (1+c) (by omega)).1;rw[←Nat.add_assoc] at h7;rw[h7,stL,Nat.add_comm 1 c,List.getElem?_cons_succ,List.getElem?_append_left (by rw[hlen];exact hc)]
 ·rw[(h6 257 (by omega)).1,stL,show(257:Nat)=256+1 from rfl,List.getElem?_cons_succ,List.getElem?_append_right (by rw[hlen];exact Nat.le_refl _),hlen];rfl
end
def newN(n:Nat)(v:Value)(acc:Int):Array Value:=(v::(List.replicate n (Value.int .i64 0)++[.int .i64 acc])).toArray
theorem newN_size(n:Nat)(v:Value)(acc:Int):(newN n v acc).size=n+2:=by simp[newN]
theorem newN_one(n:Nat)(a:Option Addr)(k c:Nat)(acc:Int):(newN n (.slice a k c) acc).all (·.oneCell')=true:=by
 rw[Array.all_eq_true_iff_forall_mem];intro v hv;simp only[newN,List.mem_toArray,List.mem_cons,List.mem_append,List.mem_replicate,List.mem_nil_iff,or_false] at hv;rcases hv with h|h|h
 ·subst h;rfl
 ·rw[h.2];try rfl
 ·subst h;rfl
theorem newN_eq(n:Nat)(v:Value)(acc:Int):(newN n v acc).toList=v::((List.replicate n (0:Int)).map (Value.int .i64)++[.int .i64 acc]):=by simp[newN]
def newS(v:Value)(acc:Int):Array Value:=newN 256 v acc
theorem newS_eq(tl:List Nat)(v:Value)(acc:Int):(newS v acc).toList=stL ⟨tl,NM.zeros,acc⟩ v:=newN_eq 256 v acc
theorem Yb(v:Value)(acc:Int):(newS v acc).size=258:=newN_size 256 v acc
theorem newS_one(a:Option Addr)(n c:Nat)(acc:Int):(newS (.slice a n c) acc).all (·.oneCell')=true:=newN_one 256 a n c acc
theorem build_state(a:Option Addr)(n c:Nat)(acc:Int)(w:World):(Instr.build TDs #[(0,.slice a n c),(2,.int .i64 acc)]).run Tryz.prog w= .ok (.agg (newS (.slice a n c) acc)) w:=
 run_build w _ _ _ (by kernel_rfl)
theorem state_info:∃ie,Tryz.prog.info? TDs=some ie∧ie.zero=some (.agg (newS (.slice none 0 0) 0))∧ie.size=258∧ie.bytes=2080:=by
 have h:(Tryz.prog.info? TDs).map (fun i=>(i.zero,i.size,i.bytes))=some (some (.agg (newS (.slice none 0 0) 0)),258,2080):=by kernel_rfl
 obtain⟨i0,h1,h2,h3,h4⟩:=info_parts h;exact⟨i0,h1,h2,h3,h4⟩
theorem slice_state(C:Array Value)(hC:C.size=258)(w:World):(Instr.buildSlice 355 1 #[(0,.agg C)]).run Tryz.prog w= .ok (.slice (some ⟨w.heap.size,0,none⟩) 1 1) (w.alloc (.cells C TDs)):=by
 obtain⟨ie,h1,h2,h3,_⟩:=state_info;refine run_buildSlice w 355 TDs 1 _ C ie _ Tryz.underlying355 h1 h2 (by rw[h3];decide) (by rw[h3];decide) ?_;have:=Great.fill_whole (s:=258) (by decide) [.agg C] ((Array.range (1*ie.size)).map ((Value.agg (newS (.slice none 0 0) 0)).cells[·%(Value.agg (newS (.slice none 0 0) 0)).cells.size]!)) (by
  intro v hv;simp at hv;subst hv;exact hC) (by simp[h3])
 rw[h3] at this⊢;simp only[List.zipIdx_cons,List.zipIdx_nil,List.map_cons,List.map_nil,List.flatMap_cons,List.flatMap_nil,List.append_nil,Array.toArray_toList] at this;exact this
theorem wp_slice_state{o:Oper}{a:Act}{w:World}{K:Act→World→Prop}{Q:Exit→Act→World→Prop}(x:Operand)(C:Array Value)(ho:o.op= .buildSlice 355 1 #[(0,x)])(hx:a.eval x= .agg C)(hC:C.size=258)
  (h:K (a.put o.dst (.slice (some ⟨w.heap.size,0,none⟩) 1 1)) (w.alloc (.cells C TDs))):o.wp Tryz.prog a w K Q:=by
 obtain⟨ie,h1,h2,h3,_⟩:=state_info;refine wp_buildSlice 355 TDs 1 _ ho C ie _ Tryz.underlying355 h1 h2 (by rw[h3];decide) (by rw[h3];decide) ?_ h;have:=Great.fill_whole (s:=258) (by decide) [.agg C] ((Array.range (1*ie.size)).map ((Value.agg (newS (.slice none 0 0) 0)).cells[·%(Value.agg (newS (.slice none 0 0) 0)).cells.size]!)) (by
  intro v hv;simp at hv;subst hv;exact hC) (by simp[h3])
 rw[h3] at this⊢;simp only[List.zipIdx_cons,List.zipIdx_nil,List.map_cons,List.map_nil,List.flatMap_cons,List.flatMap_nil,List.append_nil,Array.toArray_toList] at this;have e:(#[(0,x)].map fun(i,y)=>(i,a.eval y)).toList=[(0,Value.agg C)]:=by simp[hx]
 first
  |exact this
  |(simp only[List.map_toArray,List.map_cons,List.map_nil,hx];exact this)
theorem step_slice_state{ops:Array Oper}{o:Oper}{a:Act}{w:World}{K:Act→World→Prop}{Q:Exit→Act→World→Prop}{E:Prop}(hgd:o.guard=none)(x:Operand)(C:Array Value)(ho:o.op= .buildSlice 355 1 #[(0,x)])(hx:a.eval x= .agg C)(hC:C.size=258)
  (h:K (a.put o.dst (.slice (some ⟨w.heap.size,0,none⟩) 1 1)) (w.alloc (.cells C TDs))):if Region.wanted o (yielded ops a.tmps)=true then Oper.wp Tryz.prog o a w K Q else E:=by
 have hw:Region.wanted o (yielded ops a.tmps)=true:=by simp[Region.wanted,hgd]
 rw[if_pos hw];exact wp_slice_state x C ho hx hC h
theorem str_key:Keyed Tryz.prog TStr:=string_keyed Tryz.underlying9
abbrev txtV(l:List Nat):Value:= .string ⟨(textF l).toArray⟩
theorem txt_key(l:List Nat)(h:l.length≤1000000):∃lx,keyOf Tryz.prog TStr (txtV l)=some lx:=by
 refine⟨.string (textF l),?_⟩;have h1:(⟨(textF l).toArray⟩:ByteArray).size≤maxLen:=by
  show(textF l).toArray.size≤maxLen;rw[List.size_toArray,textF_len];simp only[maxLen];omega
 simp[keyOf,mapKey,Tryz.underlying9,h1]
def metK(l:List DS):KV:=((l.zipIdx).drop 1).map (fun p=>(txtV p.1.at_,Value.int .i64 (p.2:Nat)))
theorem metK_snoc{l:List DS}(h:0<l.length)(s:DS):metK (l++[s])=metK l++[(txtV s.at_,.int .i64 (l.length:Nat))]:=by
 unfold metK;rw[List.zipIdx_append,List.drop_append_of_le_length (by simp;omega),List.map_append];simp
theorem metK_mem{l:List DS}{p:Value×Value} :p∈metK l↔∃i,∃h:i<l.length,1≤i∧p=(txtV l[i].at_,.int .i64 (i:Nat)):=by
 unfold metK;rw[List.mem_map];constructor
 ·rintro⟨q,hq,rfl⟩;obtain⟨j,hj,rfl⟩:=List.getElem_of_mem hq;have hj':j+1<l.length:=by simp at hj;omega
  refine⟨j+1,hj',by omega,?_⟩;simp[List.getElem_drop,Nat.add_comm]
 ·rintro⟨i,h,h1,rfl⟩;refine⟨(l[i],i),?_,rfl⟩;refine List.mem_iff_getElem.2 ⟨i-1,by simp;omega,?_⟩;have e:i-1+1=i:=by omega
  have e2:1+(i-1)=i:=by omega
  simp[List.getElem_drop,e2];exact getElem_congr_idx e
def BuildIn(w:World)(pb pd bm:Nat):Prop:=w.heap[pb]? =some (.cells #[ptr pd,.map (some bm)] TDb (0,0))
structure DGood (M:NM) (l:List DS):Prop where
 pos:0<l.length
 fst:∀h:0<l.length,l[0].at_=[]
 lt:∀s∈l,∀p∈s.at_,p<M.pos.length
 small:∀s∈l,s.at_.length≤2000
 acc:∀s∈l,-1≤s.accept∧s.accept<1000000
theorem txtV_inj{a b:List Nat}(ha:∀p∈a,p<2000)(hb:∀p∈b,p<2000)(h:txtV a=txtV b):a=b:=by
 refine textF_inj (fun p hp=>by have:=ha p hp;omega) (fun p hp=>by have:=hb p hp;omega) ?_;injection h with h;have:=congrArg (fun x:ByteArray=>x.data.toList) h;simpa using this
theorem DfaIn.snoc{W w1:World}{pd pm:Nat}{v v1:Value}{l:List DS}{vas:List Value}{cl:List Int}{nc:Int}(h:DfaIn W pd pm v l vas cl nc){s:DS}{va:Value}(hs:s.next.length=256)(ha:AtAt W s.at_ va)
  (hown:OwnK w1 (pd-1) TDs 258 v1 (stC l vas++[stL s va])) (hk:Kp (fun k=>some k=v.ownBlock) W w1):DfaIn (w1.setCell ⟨pd,1,none⟩ v1) pd pm v1 (l++[s]) (vas++[va]) cl nc:=by
 have hk1:K1 pd w1 (w1.setCell ⟨pd,1,none⟩ v1):=Qg _ _;have hA:∀t u,AtAt W t u→AtAt (w1.setCell ⟨pd,1,none⟩ v1) t u:=fun t u hq=>by
  have h1:AtAt w1 t u:=hq.kp hk (fun g cs hg e=>h.other hg (by decide) (by decide) (.inr e.symm));refine h1.kp hk1 (fun g cs hg e=> ?_);subst e;have hb:=hk.blk h.blk (fun e=>by have:=(h.own_lt e.symm).1;omega);rw[hb] at hg;injection hg with hg;injection hg with _ hg _;exact absurd hg (by decide)
 refine⟨?_,h.cls,by simp[h.len],?_,fun t ht=> ?_,fun i a b=> ?_⟩
 ·have hb:=hk.blk h.blk (fun e=>by have:=(h.own_lt e.symm).1;omega);have:=Qj hb 1 v1;rw[this];congr 2
 ·rw[stC_snoc h.len];have hb:=hk.blk h.blk (fun e=>by have:=(h.own_lt e.symm).1;omega);exact hown.kp hk1 (fun g hg e=>by
   subst e;obtain⟨cur,hb2⟩:=hown.blkT hg;rw[hb] at hb2;injection hb2 with hb2;injection hb2 with _ hb2 _;exact absurd hb2 (by decide))
 ·rcases List.mem_append.1 ht with ht|ht
  ·exact h.nx t ht
  ·simp at ht;subst ht;exact hs
 ·have e1:=h.len;by_cases h3:i<l.length
  ·rw[List.getElem_append_left h3,List.getElem_append_left (show i<vas.length by omega)];exact hA _ _ (h.ats i h3 (by omega))
  ·simp only[List.length_append,List.length_singleton] at a;obtain rfl:i=l.length:=by omega
   rw[List.getElem_append_right (Nat.le_refl _),List.getElem_append_right (by omega)];simp only[List.getElem_singleton];exact hA _ _ ha
structure PlaceOut (w w':World) (pb pd bm pm:Nat) (M:NM) (v:Value) (l':List DS) (v':Value) (vas':List Value) (cl:List Int) (nc:Int):Prop where
 d:DfaIn w' pd pm v' l' vas' cl nc
 m:MapA w' TStr bm (metK l')
 b:BuildIn w' pb pd bm
 kp:Kp (DSS pd bm v) w w'
 own:v'.ownBlock=v.ownBlock∨∃g,v'.ownBlock=some g∧w.heap.size≤g
def PlacePost(pb pd bm pm:Nat)(M:NM)(v:Value)(l:List DS)(tl:List Nat)(cl:List Int)(nc:Int)(w:World)(e:Ending)(w':World):Prop:=
 ∃v' vas',e= .returned (.int .i64 (M.place l tl).2)∧PlaceOut w w' pb pd bm pm M v (M.place l tl).1 v' vas' cl nc
section
variable {pb pd bm pm B:Nat} {M:NM} {v vto:Value} {l:List DS} {vas:List Value} {cl:List Int} {nc:Int} {tl:List Nat} {w0 w:World}
theorem PlaceOut.same(hd:DfaIn w pd pm v l vas cl nc)(hm:MapA w TStr bm (metK l))(hb:BuildIn w pb pd bm){w':World}(hk:Kn w w'):PlaceOut w w' pb pd bm pm M v l v vas cl nc:=
 ⟨hd.kn hk,hm.kn hk,hk.blk hb (fun x=>x),hk.weak,.inl rfl⟩
theorem place_nil(hd:DfaIn w pd pm v l vas cl nc)(hm:MapA w TStr bm (metK l))(hb:BuildIn w pb pd bm)(hv:OwnI w B vto tl)(hn:tl=[]):
  Calls Tryz.prog 266 #[ptr pb,vto] w (PlacePost pb pd bm pm M v l tl cl nc w):=by
 obtain⟨a,c,rfl,_⟩:=hv.look;subst hn;have HO:=Qh (PlaceOut.same (M:=M) hd hm hb (Qb _ _));have HP:Hid (M.place l []=(l,-1)):=Qh (by simp[NM.place]);clear hd hm hb hv;go_enter Tryz.func266,Tryz.ntmps266;go_wp2_with fail
 go_ret;refine⟨v,vas,by rw[HP.out];try rfl,by rw[HP.out];exact HO.out⟩
theorem place_find{n:Nat}(hn:tl≠[])(hf:l.findIdx? (fun s=>decide (s.at_=tl))=some n):M.place l tl=(l,(n:Int)):=by
 unfold NM.place;rw[if_neg hn,hf]
theorem place_miss(hn:tl≠[])(hf:l.findIdx? (fun s=>decide (s.at_=tl))=none):M.place l tl=(l++[⟨tl,NM.zeros,M.accept tl⟩],(l.length:Int)):=by
 unfold NM.place;rw[if_neg hn,hf]
theorem place_met(n:Nat)(hd:DfaIn w pd pm v l vas cl nc)(hm:MapA w TStr bm (metK l))(hb:BuildIn w pb pd bm)(hv:OwnI w B vto tl)(hn:tl≠[])(hg:DGood M l)(htl:∀p∈tl,p<2000)(htn:tl.length≤2000)
  (hf:l.findIdx? (fun s=>decide (s.at_=tl))=some n):
  Calls Tryz.prog 266 #[ptr pb,vto] w (PlacePost pb pd bm pm M v l tl cl nc w):=by
 have HT:=Qh (text_c B vto tl w hv (fun p hp=>by have:=htl p hp;omega) (by omega));obtain⟨a,c,rfl,_⟩:=hv.look;have h0:0<tl.length:=List.length_pos_iff.2 hn;have h0':((tl.length:Int)==0)=false:=by rw[beq_eq_false_iff_ne];omega
 have HP:=Qh (place_find (M:=M) hn hf);obtain⟨hnl,hat,_⟩:=List.findIdx?_eq_some_iff_getElem.1 hf;have hat':l[n].at_=tl:=by simpa using hat
 have hmem:(txtV tl,Value.int .i64 (n:Nat))∈metK l:=metK_mem.2 ⟨n,hnl,by
  rcases Nat.eq_zero_or_pos n with e|e
  ·subst e;rw[hg.fst hnl] at hat';exact absurd hat'.symm hn
  ·exact e,by rw[hat']⟩
 obtain⟨lx,hkey⟩:=txt_key tl (by omega);have HX:=Qh (And.intro hmem hkey);have HO:=Qh (fun w' (hk:Kn w w')=>PlaceOut.same (M:=M) hd hm hb hk);have HM:=Qh hm;have hb0:=Qa hb 0;have hb1:=Qa hb 1;simp only[PE] at hb0 hb1;clear hd hm hb hv hf hat hat' hmem hkey hg htl hn;go_enter Tryz.func266,Tryz.ntmps266;go_wp2_with fail
 refine HT.out.mono ?_;rintro e w1 ⟨rfl,hk1⟩;have c0:=Qc hk1 hb0;have c1:=Qc hk1 hb1;clear hb0 hb1;go_wp2_with (at_lookup;refine Yr rfl (.tmp 17) (.tmp 18) true rfl str_key Tryz.underlying179 rfl (HM.out.kn hk1) (txtV tl) lx rfl HX.out.2 (.int .i64 (n:Nat)) HX.out.1 ?_)
 go_ret;refine⟨v,vas,by rw[HP.out];try rfl,by rw[HP.out];exact HO.out w1 hk1⟩
theorem place_new(hN:NfaAt w0 pm M)(ok:NMok M)(hk0:Kn w0 w)(hp0:w0.heap.size+1≤pd)(hm0:w0.heap.size≤bm)(hd:DfaIn w pd pm v l vas cl nc)(hm:MapA w TStr bm (metK l))(hb:BuildIn w pb pd bm)(hv:OwnI w B vto tl)(hn:tl≠[])(hg:DGood M l)
  (htl:∀p∈tl,p<M.pos.length) (htn:tl.length≤2000) (hll:l.length≤10000) (hf:l.findIdx? (fun s=>decide (s.at_=tl))=none):
  Calls Tryz.prog 266 #[ptr pb,vto] w (PlacePost pb pd bm pm M v l tl cl nc w):=by
 have hle:=ok.len;have HT:=Qh (text_c B vto tl w hv (fun p hp=>by have:=htl p hp;omega) (by omega));obtain⟨a,c,rfl,_⟩:=hv.look;have h0:0<tl.length:=List.length_pos_iff.2 hn;have h0':((tl.length:Int)==0)=false:=by rw[beq_eq_false_iff_ne];omega
 have HP:=Qh (place_miss (M:=M) hn hf);have hno:∀p∈metK l,p.1≠txtV tl:=by
  intro p hp e;obtain⟨i,hi,h1,rfl⟩:=metK_mem.1 hp;have h2:=txtV_inj (fun p hp=>by have:=hg.lt _ (List.getElem_mem hi) p hp;omega) (fun p hp=>by have:=htl p hp;omega) e;have h3:=List.findIdx?_eq_none_iff.1 hf _ (List.getElem_mem hi);simp[h2] at h3
 obtain⟨lx,hkey⟩:=txt_key tl (by omega);have HX:=Qh (And.intro hno hkey);have HN:=Qh hN;have HOK:=Qh ok;have HTL:=Qh htl;have HNE:=Qh hn;have HMS:=Qh (metK_snoc hg.pos ⟨tl,NM.zeros,M.accept tl⟩);have hbm:=hm.lt;obtain⟨av,cv,hvs⟩:=hd.slice;have hpbd:pb≠pd:=fun e=>by
  subst e;have h1:=hd.blk;rw[hb] at h1;injection h1 with h1;injection h1 with _ h1 _;exact absurd h1 (by decide)
 have hpbm:pb≠bm:=fun e=>by
  subst e;obtain⟨es,ck,h1,_⟩:=hm;rw[hb] at h1;injection h1 with h1;cases h1
 have hpdm:pd≠bm:=fun e=>by
  subst e;obtain⟨es,ck,h1,_⟩:=hm;rw[hd.blk] at h1;injection h1 with h1;cases h1
 have hob:v.ownBlock≠some bm:=fun e=>by
  obtain⟨cur,h2⟩:=hd.own_blk e;obtain⟨es,ck,h1,_⟩:=hm;rw[h2] at h1;injection h1 with h1;cases h1
 have HNEQ:=Qh (And.intro hpbd (And.intro hpbm (And.intro hpdm hob)));have hb0:=Qa hb 0;have hb1:=Qa hb 1;obtain⟨hd0,hd1,_⟩:=hd.cells;rw[hvs] at hd1;simp only[PE] at hb0 hb1;have H:=Qh (And.intro hd (And.intro hm (And.intro hb (And.intro hv hk0))));have hzz:∀w,(zeroValue 3).run Tryz.prog w= .ok (.int .i64 0) w:=Tryz.zeroValue3;have HZ:=Qh hzz;clear hd hm hb hv hf hno hkey hg htl hn hN ok hk0 hpbd hpbm hpdm hob hzz;go_enter Tryz.func266,Tryz.ntmps266;go_wp2_with fail
 refine HT.out.mono ?_;rintro e w1 ⟨rfl,hk1⟩;have c0:=Qc hk1 hb0;have c1:=Qc hk1 hb1;have c2:=Qc hk1 hd0;have c3:=Qc hk1 hd1;clear hb0 hb1 hd0 hd1;have HV:=Qh hvs;clear hvs;go_wp2_with (first
  |(at_lookup;refine Zb rfl (.tmp 17) (.tmp 18) true rfl str_key Tryz.underlying179 (.int .i64 0) HZ.out rfl (H.out.2.1.kn hk1) (txtV tl) lx rfl HX.out.2 HX.out.1 ?_)
  |(at_mapUpdate;refine wpList_put0 rfl (.tmp 35) (.tmp 36) (.tmp 37) rfl str_key Tryz.underlying179 rfl (H.out.2.1.kn hk1) (txtV tl) (.int .i64 (l.length:Nat)) lx rfl rfl HX.out.2 HX.out.1 ?_;intro wk hmk hkk))
 have hnm:∀g:Nat,DSS pd bm v g→w0.heap.size≤g:=fun g hg=>by
  rcases hg with rfl|rfl|hg
  ·omega
  ·exact hm0
  ·have:=(H.out.1.own_lt hg).1;omega
 have HKm:Kp (DSS pd bm v) w wk:=hk1.weak.trans (hkk.mono (fun i _ e=> .inr (.inl e)));have HK0:Hid (Kn w0 wk):=Qh (H.out.2.2.2.2.trans' HKm (fun i hi e=>by have:=hnm i e;omega));have hDk:DfaIn wk pd pm v l vas cl nc:=by
  have h1:=H.out.1.kn hk1;refine⟨hkk.blk h1.blk HNEQ.out.2.2.1,h1.cls,h1.len,h1.row.kp hkk (fun g hg e=>HNEQ.out.2.2.2 (by rw[hg,e])),h1.nx,fun i a b=>(h1.ats i a b).kp hkk (fun g cs hg e=> ?_)⟩;subst e;obtain⟨es,ck,h2,_⟩:=H.out.2.1.kn hk1;rw[h2] at hg;injection hg with hg;cases hg
 have HD:=Qh hDk;have HVV:Hid (OwnI wk B (.slice a tl.length c) tl):=Qh (by
  have h1:=H.out.2.2.2.1.kn hk1;refine⟨h1.1,?_⟩;rcases h1.2 with h2|⟨g,cap,cur,h2,h3,h4,h5⟩
  ·exact .inl h2
  ·refine .inr ⟨g,cap,cur,h2,h3,hkk.blk h4 (fun e=> ?_),h5⟩;subst e;obtain⟨es,ck,h6,_⟩:=H.out.2.1.kn hk1;rw[h6] at h4;injection h4 with h4;cases h4)
 have HB:Hid (wk.heap[pb]? =some (.cells #[ptr pd,.map (some bm)] TDb (0,0))):=Qh (hkk.blk (hk1.blk H.out.2.2.1 (fun x=>x)) HNEQ.out.2.1);have HMM:=Qh hmk;have HPB:=Qh HNEQ.out.1;obtain⟨ie,hi,hz0,hz1,hz2⟩:=state_info;have HI:=Qh (And.intro hi (And.intro hz0 (And.intro hz1 hz2)));have hbd:=build_state a tl.length c;have hsl:=fun(acc:Int)=>slice_state (newS (.slice a tl.length c) acc) (Yb _ _)
 clear c0 c1 c2 c3 hDk hmk hkk hi hz0 hz1 hz2 hnm;go_upto_region 8 with fail
 go_frame
 go_cut [6] (fun s6 wc=>∃(v1:Value) (vas1:List Value),s6= .int .i64 (l.length:Nat)∧(v1.ownBlock=v.ownBlock∨∃g,v1.ownBlock=some g∧wk.heap.size≤g)∧Hid (DfaIn wc pd pm v1 (l++[⟨tl,NM.zeros,M.accept tl⟩]) vas1 cl nc)∧Kp (fun k=>k=pd∨v.ownBlock=some k) wk wc)
 case first=>
  have xb:=Qa HB.out 0;simp only[List.getElem?_toArray,List.getElem?_cons_zero] at xb;refine wp_region_held_drew (S:=fun w'=>w'.cell? ⟨pb,0,none⟩=some (ptr pd)∧w'.cell? ⟨pd,0,none⟩=some (ptr pm)) (by kernel_rfl) ⟨Qc ((Qb _ _).drew) xb,Qc ((Qb _ _).drew) HD.out.cells.1⟩ (fun hHeld=> ?_);obtain⟨wd,hwd⟩:∃z,z=wk.drew:=⟨_,rfl⟩;have HKd:Kn wk wd:=by rw[hwd];exact(Qb _ _).drew
  rw[←hwd] at hHeld⊢;have D0:=HD.out.kn HKd;have V0:=HVV.out.kn HKd;have K00:=HK0.out.trans HKd;have KW0:=HKd;have C0_0:=hHeld.1;have P0_0:=hHeld.2;clear hwd HKd;refine TW 0 38 ?_;refine TW 1 39 ?_;refine TW 2 40 ?_;refine TH 3 41 ?_;refine TW 4 42 ?_;refine TW 5 43 ?_;refine TW 6 44 ?_;refine TH 7 45 ?_;refine TW 8 46 ?_;refine TW 9 47 ?_;refine TW 11 49 ?_;refine TW 12 50 ?_;refine TW 13 51 ?_;refine TW 14 52 ?_;refine TH 15 53 ?_;refine TW 16 54 ?_;refine TW 17 55 ?_;refine TH 18 56 ?_;refine TW 19 57 ?_;refine RH2 10 20 (fun K hK=> ?_) (fun K hK=> ?_)
  ·have xq:=D0.cells.2.1;rw[HV.out] at xq;go_simp;rw[←HV.out];clear xq;refine hK.out _ _ ⟨C0_0,P0_0⟩ (fun hHeld=> ?_);clear hK K
   try simp only[PP]
   refine RH 20 (fun K hK=> ?_);go_simp
   go_at_call 312
   refine(accept_c pm B M (.slice a tl.length c) tl wd (HN.out.kn K00) HOK.out V0 HTL.out).mono ?_;rintro e u1 ⟨rfl,hk1⟩;have D1:=D0.kn hk1;have V1:=V0.kn hk1;have K01:=K00.trans hk1;have KW1:=KW0.trans hk1;have C0_1:=Qc hk1 C0_0;have P0_1:=Qc hk1 P0_0;clear hk1 D0 V0 K00 KW0 C0_0 P0_0;dsimp only;refine hK.out _ _ ⟨C0_1,P0_1⟩ (fun hHeld=> ?_);clear hK K
   try simp only[PP]
   refine TW 21 59 ?_;refine RH 22 (fun K hK=> ?_);refine step_slice_state (by rfl) (.tmp 59) (newS (.slice a tl.length c) (M.accept tl)) (by rfl) (by rfl) (Yb _ _) ?_;obtain⟨u2,hw2⟩:∃z,z=u1.alloc (.cells (newS (.slice a tl.length c) (M.accept tl)) TDs):=⟨_,rfl⟩;have hk2:Kn u1 u2:=by rw[hw2];exact(Qb _ _).alloc _
   obtain⟨ge,hge⟩:∃z,z=u1.heap.size:=⟨_,rfl⟩;have GE2:u2.heap[ge]? =some (.cells (newS (.slice a tl.length c) (M.accept tl)) TDs):=by rw[hw2,hge];exact Qf _ _
   have D2:=D1.kn hk2;have V2:=V1.kn hk2;have K02:=K01.trans hk2;have KW2:=KW1.trans hk2;have C0_2:=Qc hk2 C0_1;have P0_2:=Qc hk2 P0_1;rw[←hw2,←hge];clear hk2 hw2 hge D1 V1 K01 KW1 C0_1 P0_1;refine hK.out _ _ ⟨C0_2,P0_2⟩ (fun hHeld=> ?_);clear hK K
   try simp only[PP]
   refine RH 23 (fun K hK=> ?_);refine Qm u2 (by rfl) _ _ 355 (by rfl) (pd-1) TDs ie (.agg (newS (.slice none 0 0) 0)) 258 2080 Tryz.underlying355 HI.out.1 HI.out.2.1 HI.out.2.2.1 HI.out.2.2.2 (Yb _ _) (by decide) v (stC l vas) (by rfl) D2.row ge 1 (by rfl) _ TDs (0,0) GE2 (Yb _ _) (newS_one _ _ _ _) (by rw[YW D2.len];simp only[maxLen];omega) (by rw[YW D2.len];omega) (by have:=D2.lt;omega) ?_;intro v1 u3 hown hka hat;rw[newS_eq tl] at hown;have hsn:=D2.snoc (s:=⟨tl,NM.zeros,M.accept tl⟩) (by rfl) (.inr ⟨HNE.out,B,V2⟩) hown hka;have HSN:=Qh hsn;obtain⟨av1,cv1,hv1,_⟩:=hown.row (k:=258) (fun C hC=>by rcases List.mem_append.1 hC with h|h;exact stC_all D2.nx C h;simp at h;rw[h];exact stL_len rfl);obtain⟨nl1,hv1⟩:∃n,v1= .slice av1 n cv1:=⟨_,hv1⟩;have HV1:=Qh hv1;have hpb:=hka.blk D2.blk (fun e=>by have:=(D2.own_lt e.symm).1;omega);have C0_3:=Qi hka C0_2 (fun e=>D2.other (KW2.blk HB.out (fun x=>x)) (by decide) (by decide) (.inr e.symm));have P0_3:u3.cell? ⟨pd,0,none⟩=some (ptr pm):=by rw[Qa hpb];try rfl
   have KX:Kp (fun k=>k=pd∨v.ownBlock=some k) wk u3:=KW2.weak.trans (hka.mono (fun i _ e=> .inr e.symm));have HAT:Hid (v1.ownBlock=v.ownBlock∨∃g,v1.ownBlock=some g∧wk.heap.size≤g):=Qh (by rcases hat with e|e;exact .inl e;exact .inr ⟨_,e,KW2.size⟩);clear hsn hown hka hat hv1 D2 V2 K02 KW2 C0_2 P0_2 GE2;refine hK.out _ _ ⟨C0_3,P0_3⟩ (fun hHeld=> ?_);clear hK K
   try simp only[PP]
   refine TW 24 62 ?_;refine TW 25 63 ?_;refine RH 26 (fun K hK=> ?_);have xp1:u3.cell? ⟨pd,1,none⟩=some v:=by rw[Qa hpb];try rfl
   have yp1:=Qd hpb 1;rw[HV1.out];go_simp;rw[←HV1.out];obtain⟨w9,hw9⟩:∃z,z=u3.setCell ⟨pd,1,none⟩ v1:=⟨_,rfl⟩;have hk9:K1 pd u3 w9:=by rw[hw9];exact Qg _ _
   rw[←hw9] at HSN⊢;have KX9:=KX.trans (hk9.mono (fun i _ e=> .inl e));have C0_9:=Qi hk9 C0_3 (show¬pb=pd from HPB.out);have P0_9:=HSN.out.cells.1;clear xp1 yp1 hpb hw9 hk9 KX C0_3 P0_3;refine hK.out _ _ ⟨C0_9,P0_9⟩ (fun hHeld=> ?_);clear hK K
   try simp only[PP]
   refine RD ?_;go_wp2_with fail
   go_meet
   case rel=>exact⟨v1,_,rfl,HAT.out,Qh HSN.out,KX9⟩
  ·go_simp
   go_at_call 312
   refine(accept_c pm B M (.slice a tl.length c) tl wd (HN.out.kn K00) HOK.out V0 HTL.out).mono ?_;rintro e u4 ⟨rfl,hk4⟩;have D4:=D0.kn hk4;have V4:=V0.kn hk4;have K04:=K00.trans hk4;have KW4:=KW0.trans hk4;have C0_4:=Qc hk4 C0_0;have P0_4:=Qc hk4 P0_0;clear hk4 D0 V0 K00 KW0 C0_0 P0_0;dsimp only;refine hK.out _ _ ⟨C0_4,P0_4⟩ (fun hHeld=> ?_);clear hK K
   try simp only[PP]
   refine TW 21 59 ?_;refine RH2 10 22 (fun K hK=> ?_) (fun K hK=> ?_)
   ·have xq:=D4.cells.2.1;rw[HV.out] at xq;go_simp;rw[←HV.out];clear xq;refine hK.out _ _ ⟨C0_4,P0_4⟩ (fun hHeld=> ?_);clear hK K
    try simp only[PP]
    refine RH 22 (fun K hK=> ?_);refine step_slice_state (by rfl) (.tmp 59) (newS (.slice a tl.length c) (M.accept tl)) (by rfl) (by rfl) (Yb _ _) ?_;obtain⟨u5,hw5⟩:∃z,z=u4.alloc (.cells (newS (.slice a tl.length c) (M.accept tl)) TDs):=⟨_,rfl⟩;have hk5:Kn u4 u5:=by rw[hw5];exact(Qb _ _).alloc _
    obtain⟨ge,hge⟩:∃z,z=u4.heap.size:=⟨_,rfl⟩;have GE5:u5.heap[ge]? =some (.cells (newS (.slice a tl.length c) (M.accept tl)) TDs):=by rw[hw5,hge];exact Qf _ _
    have D5:=D4.kn hk5;have V5:=V4.kn hk5;have K05:=K04.trans hk5;have KW5:=KW4.trans hk5;have C0_5:=Qc hk5 C0_4;have P0_5:=Qc hk5 P0_4;rw[←hw5,←hge];clear hk5 hw5 hge D4 V4 K04 KW4 C0_4 P0_4;refine hK.out _ _ ⟨C0_5,P0_5⟩ (fun hHeld=> ?_);clear hK K
    try simp only[PP]
    refine RH 23 (fun K hK=> ?_);refine Qm u5 (by rfl) _ _ 355 (by rfl) (pd-1) TDs ie (.agg (newS (.slice none 0 0) 0)) 258 2080 Tryz.underlying355 HI.out.1 HI.out.2.1 HI.out.2.2.1 HI.out.2.2.2 (Yb _ _) (by decide) v (stC l vas) (by rfl) D5.row ge 1 (by rfl) _ TDs (0,0) GE5 (Yb _ _) (newS_one _ _ _ _) (by rw[YW D5.len];simp only[maxLen];omega) (by rw[YW D5.len];omega) (by have:=D5.lt;omega) ?_;intro v1 u6 hown hka hat;rw[newS_eq tl] at hown;have hsn:=D5.snoc (s:=⟨tl,NM.zeros,M.accept tl⟩) (by rfl) (.inr ⟨HNE.out,B,V5⟩) hown hka;have HSN:=Qh hsn;obtain⟨av1,cv1,hv1,_⟩:=hown.row (k:=258) (fun C hC=>by rcases List.mem_append.1 hC with h|h;exact stC_all D5.nx C h;simp at h;rw[h];exact stL_len rfl);obtain⟨nl1,hv1⟩:∃n,v1= .slice av1 n cv1:=⟨_,hv1⟩;have HV1:=Qh hv1;have hpb:=hka.blk D5.blk (fun e=>by have:=(D5.own_lt e.symm).1;omega);have C0_6:=Qi hka C0_5 (fun e=>D5.other (KW5.blk HB.out (fun x=>x)) (by decide) (by decide) (.inr e.symm));have P0_6:u6.cell? ⟨pd,0,none⟩=some (ptr pm):=by rw[Qa hpb];try rfl
    have KX:Kp (fun k=>k=pd∨v.ownBlock=some k) wk u6:=KW5.weak.trans (hka.mono (fun i _ e=> .inr e.symm));have HAT:Hid (v1.ownBlock=v.ownBlock∨∃g,v1.ownBlock=some g∧wk.heap.size≤g):=Qh (by rcases hat with e|e;exact .inl e;exact .inr ⟨_,e,KW5.size⟩);clear hsn hown hka hat hv1 D5 V5 K05 KW5 C0_5 P0_5 GE5;refine hK.out _ _ ⟨C0_6,P0_6⟩ (fun hHeld=> ?_);clear hK K
    try simp only[PP]
    refine TW 24 62 ?_;refine TW 25 63 ?_;refine RH 26 (fun K hK=> ?_);have xp1:u6.cell? ⟨pd,1,none⟩=some v:=by rw[Qa hpb];try rfl
    have yp1:=Qd hpb 1;rw[HV1.out];go_simp;rw[←HV1.out];obtain⟨w9,hw9⟩:∃z,z=u6.setCell ⟨pd,1,none⟩ v1:=⟨_,rfl⟩;have hk9:K1 pd u6 w9:=by rw[hw9];exact Qg _ _
    rw[←hw9] at HSN⊢;have KX9:=KX.trans (hk9.mono (fun i _ e=> .inl e));have C0_9:=Qi hk9 C0_6 (show¬pb=pd from HPB.out);have P0_9:=HSN.out.cells.1;clear xp1 yp1 hpb hw9 hk9 KX C0_6 P0_6;refine hK.out _ _ ⟨C0_9,P0_9⟩ (fun hHeld=> ?_);clear hK K
    try simp only[PP]
    refine RD ?_;go_wp2_with fail
    go_meet
    case rel=>exact⟨v1,_,rfl,HAT.out,Qh HSN.out,KX9⟩
   ·refine step_slice_state (by rfl) (.tmp 59) (newS (.slice a tl.length c) (M.accept tl)) (by rfl) (by rfl) (Yb _ _) ?_;obtain⟨u7,hw7⟩:∃z,z=u4.alloc (.cells (newS (.slice a tl.length c) (M.accept tl)) TDs):=⟨_,rfl⟩;have hk7:Kn u4 u7:=by rw[hw7];exact(Qb _ _).alloc _
    obtain⟨ge,hge⟩:∃z,z=u4.heap.size:=⟨_,rfl⟩;have GE7:u7.heap[ge]? =some (.cells (newS (.slice a tl.length c) (M.accept tl)) TDs):=by rw[hw7,hge];exact Qf _ _
    have D7:=D4.kn hk7;have V7:=V4.kn hk7;have K07:=K04.trans hk7;have KW7:=KW4.trans hk7;have C0_7:=Qc hk7 C0_4;have P0_7:=Qc hk7 P0_4;rw[←hw7,←hge];clear hk7 hw7 hge D4 V4 K04 KW4 C0_4 P0_4;refine hK.out _ _ ⟨C0_7,P0_7⟩ (fun hHeld=> ?_);clear hK K
    try simp only[PP]
    refine RH 10 (fun K hK=> ?_);have xq:=D7.cells.2.1;rw[HV.out] at xq;go_simp;rw[←HV.out];clear xq;refine hK.out _ _ ⟨C0_7,P0_7⟩ (fun hHeld=> ?_);clear hK K
    try simp only[PP]
    refine RH 23 (fun K hK=> ?_);refine Qm u7 (by rfl) _ _ 355 (by rfl) (pd-1) TDs ie (.agg (newS (.slice none 0 0) 0)) 258 2080 Tryz.underlying355 HI.out.1 HI.out.2.1 HI.out.2.2.1 HI.out.2.2.2 (Yb _ _) (by decide) v (stC l vas) (by rfl) D7.row ge 1 (by rfl) _ TDs (0,0) GE7 (Yb _ _) (newS_one _ _ _ _) (by rw[YW D7.len];simp only[maxLen];omega) (by rw[YW D7.len];omega) (by have:=D7.lt;omega) ?_;intro v1 u8 hown hka hat;rw[newS_eq tl] at hown;have hsn:=D7.snoc (s:=⟨tl,NM.zeros,M.accept tl⟩) (by rfl) (.inr ⟨HNE.out,B,V7⟩) hown hka;have HSN:=Qh hsn;obtain⟨av1,cv1,hv1,_⟩:=hown.row (k:=258) (fun C hC=>by rcases List.mem_append.1 hC with h|h;exact stC_all D7.nx C h;simp at h;rw[h];exact stL_len rfl);obtain⟨nl1,hv1⟩:∃n,v1= .slice av1 n cv1:=⟨_,hv1⟩;have HV1:=Qh hv1;have hpb:=hka.blk D7.blk (fun e=>by have:=(D7.own_lt e.symm).1;omega);have C0_8:=Qi hka C0_7 (fun e=>D7.other (KW7.blk HB.out (fun x=>x)) (by decide) (by decide) (.inr e.symm));have P0_8:u8.cell? ⟨pd,0,none⟩=some (ptr pm):=by rw[Qa hpb];try rfl
    have KX:Kp (fun k=>k=pd∨v.ownBlock=some k) wk u8:=KW7.weak.trans (hka.mono (fun i _ e=> .inr e.symm));have HAT:Hid (v1.ownBlock=v.ownBlock∨∃g,v1.ownBlock=some g∧wk.heap.size≤g):=Qh (by rcases hat with e|e;exact .inl e;exact .inr ⟨_,e,KW7.size⟩);clear hsn hown hka hat hv1 D7 V7 K07 KW7 C0_7 P0_7 GE7;refine hK.out _ _ ⟨C0_8,P0_8⟩ (fun hHeld=> ?_);clear hK K
    try simp only[PP]
    refine TW 24 62 ?_;refine TW 25 63 ?_;refine RH 26 (fun K hK=> ?_);have xp1:u8.cell? ⟨pd,1,none⟩=some v:=by rw[Qa hpb];try rfl
    have yp1:=Qd hpb 1;rw[HV1.out];go_simp;rw[←HV1.out];obtain⟨w9,hw9⟩:∃z,z=u8.setCell ⟨pd,1,none⟩ v1:=⟨_,rfl⟩;have hk9:K1 pd u8 w9:=by rw[hw9];exact Qg _ _
    rw[←hw9] at HSN⊢;have KX9:=KX.trans (hk9.mono (fun i _ e=> .inl e));have C0_9:=Qi hk9 C0_8 (show¬pb=pd from HPB.out);have P0_9:=HSN.out.cells.1;clear xp1 yp1 hpb hw9 hk9 KX C0_8 P0_8;refine hK.out _ _ ⟨C0_9,P0_9⟩ (fun hHeld=> ?_);clear hK K
    try simp only[PP]
    refine RD ?_;go_wp2_with fail
    go_meet
    case rel=>exact⟨v1,_,rfl,HAT.out,Qh HSN.out,KX9⟩
 case rest=>
  obtain⟨v1,vas1,rfl,hat,hdo,hkc⟩:=hcut;have hMc:=HMM.out.kp hkc (fun e=>by rcases e with e|e;exact HNEQ.out.2.2.1 e.symm;exact HNEQ.out.2.2.2 e);have hBc:=hkc.blk HB.out (HD.out.other HB.out (by decide) (by decide));have hKc:=HKm.trans (hkc.mono (fun i _ e=>e.elim .inl (fun e=> .inr (.inr e))));have HC:=Qh (And.intro hMc (And.intro hBc hKc));clear hMc hBc hKc;have hat2:Hid (v1.ownBlock=v.ownBlock∨∃g,v1.ownBlock=some g∧w.heap.size≤g):=Qh (by
   rcases hat with e|⟨g,e,hg⟩
   ·exact .inl e
   ·exact .inr ⟨g,e,Nat.le_trans HKm.size hg⟩)
  clear hat;go_wp2_with fail
  go_ret;refine⟨v1,vas1,by rw[HP.out];try rfl,?_⟩;rw[HP.out];exact⟨hdo.out,by rw[HMS.out];exact HC.out.1,HC.out.2.1,HC.out.2.2,hat2.out⟩
theorem place_c(hN:NfaAt w0 pm M)(ok:NMok M)(hk0:Kn w0 w)(hp0:w0.heap.size+1≤pd)(hm0:w0.heap.size≤bm)(hd:DfaIn w pd pm v l vas cl nc)(hm:MapA w TStr bm (metK l))(hb:BuildIn w pb pd bm)(hv:OwnI w B vto tl)(hg:DGood M l)
  (htl:∀p∈tl,p<M.pos.length) (htn:tl.length≤2000) (hll:l.length≤10000):
  Calls Tryz.prog 266 #[ptr pb,vto] w (PlacePost pb pd bm pm M v l tl cl nc w):=by
 have hle:=ok.len;by_cases hn:tl=[]
 ·exact place_nil hd hm hb hv hn
 ·cases hf:l.findIdx? (fun s=>decide (s.at_=tl)) with
  |some n=>exact place_met n hd hm hb hv hn hg (fun p hp=>by have:=htl p hp;omega) htn hf
  |none=>exact place_new hN ok hk0 hp0 hm0 hd hm hb hv hn hg htl htn hll hf
end
def Ye(l:List DS)(n c:Nat)(x:Int):List DS:=l.modify n (fun s=> {s with next:=s.next.set c x})
theorem QO(l:List DS)(n c:Nat)(x:Int):(Ye l n c x).length=l.length:=by simp[Ye]
theorem dsNext_get(l:List DS)(n c:Nat)(x:Int)(i:Nat)(h:i<(Ye l n c x).length)(h':i<l.length):(Ye l n c x)[i]=if n=i then {l[i] with next:=l[i].next.set c x} else l[i]:=by
 simp only[Ye,List.getElem_modify]
theorem dsNext_at(l:List DS)(n c:Nat)(x:Int)(i:Nat)(h:i<(Ye l n c x).length)(h':i<l.length):(Ye l n c x)[i].at_=l[i].at_:=by
 rw[dsNext_get l n c x i h h'];split<;>rfl
theorem dsNext_acc(l:List DS)(n c:Nat)(x:Int)(i:Nat)(h:i<(Ye l n c x).length)(h':i<l.length):(Ye l n c x)[i].accept=l[i].accept:=by
 rw[dsNext_get l n c x i h h'];split<;>rfl
theorem dsNext_mem{l:List DS}{n c:Nat}{x:Int}{s:DS}(h:s∈Ye l n c x):∃t∈l,s.at_=t.at_∧s.accept=t.accept∧s.next.length=t.next.length:=by
 obtain⟨i,hi,rfl⟩:=List.getElem_of_mem h;have hi':i<l.length:=by rw[QO] at hi;exact hi
 refine⟨l[i],List.getElem_mem hi',dsNext_at _ _ _ _ _ hi hi',dsNext_acc _ _ _ _ _ hi hi',?_⟩;rw[dsNext_get l n c x i hi hi'];split<;>simp
theorem metK_next(l:List DS)(n c:Nat)(x:Int):metK (Ye l n c x)=metK l:=by
 unfold metK;have e:∀L:List DS,L.zipIdx.map (fun p=>(txtV p.1.at_,Value.int .i64 (p.2:Nat)))=(L.map (·.at_)).zipIdx.map (fun p=>(txtV p.1,Value.int .i64 (p.2:Nat))):=fun L=>by
  rw[List.zipIdx_map,List.map_map];try rfl
 have e2:(Ye l n c x).map (·.at_)=l.map (·.at_):=by
  refine List.ext_getElem (by simp[Ye]) (fun i h1 h2=> ?_);rw[List.getElem_map,List.getElem_map];exact dsNext_at _ _ _ _ _ _ _
 rw[List.map_drop,List.map_drop,e,e,e2]
theorem DGood.next{M:NM}{l:List DS}(h:DGood M l)(n c:Nat)(x:Int):DGood M (Ye l n c x):=
 ⟨by rw[QO];exact h.pos,fun h0=>by rw[dsNext_at l n c x 0 h0 h.pos];exact h.fst h.pos,
  fun s hs=>by obtain⟨t,ht,h1,_⟩:=dsNext_mem hs;rw[h1];exact h.lt t ht,
  fun s hs=>by obtain⟨t,ht,h1,_⟩:=dsNext_mem hs;rw[h1];exact h.small t ht,
  fun s hs=>by obtain⟨t,ht,_,h1,_⟩:=dsNext_mem hs;rw[h1];exact h.acc t ht⟩
theorem place_good{M:NM}{l:List DS}(ok:NMok M)(h:DGood M l)(tl:List Nat)(hlt:∀p∈tl,p<M.pos.length)(hs:tl.length≤2000):
  DGood M (M.place l tl).1∧l.length≤(M.place l tl).1.length∧(M.place l tl).1.length≤l.length+1∧-1≤(M.place l tl).2∧(M.place l tl).2<(M.place l tl).1.length:=by
 unfold NM.place;split
 ·exact⟨h,Nat.le_refl _,Nat.le_succ _,by omega,by have:=h.pos;dsimp only;omega⟩
 ·cases hf:l.findIdx? (fun s=>decide (s.at_=tl)) with
  |some n=>
   obtain⟨hn,_⟩:=List.findIdx?_eq_some_iff_getElem.1 hf;exact⟨h,Nat.le_refl _,Nat.le_succ _,by dsimp only;omega,by dsimp only;omega⟩
  |none=>
   refine⟨⟨by simp,fun h0=> ?_,fun s hs'=> ?_,fun s hs'=> ?_,fun s hs'=> ?_⟩,by simp,by simp,by dsimp only;omega,by simp;omega⟩
   ·rw[List.getElem_append_left h.pos];exact h.fst h.pos
   ·rcases List.mem_append.1 hs' with h1|h1
    ·exact h.lt s h1
    ·simp at h1;subst h1;exact hlt
   ·rcases List.mem_append.1 hs' with h1|h1
    ·exact h.small s h1
    ·simp at h1;subst h1;exact hs
   ·rcases List.mem_append.1 hs' with h1|h1
    ·exact h.acc s h1
    ·simp at h1;subst h1;have:=accK_ge M tl hlt ok tl.length (Nat.le_refl _);simpa[accK,NM.accept] using this
def hasF(M:NM)(nx:List Nat)(c:Nat):List Nat:=nx.filter (fun p=>M.has p c)
def fillK(M:NM)(nx:List Nat)(n:Nat)(l:List DS)(c:Nat):List DS:=(List.range c).foldl (M.fillB nx n) l
theorem fillK_succ(M:NM)(nx:List Nat)(n:Nat)(l:List DS)(c:Nat):fillK M nx n l (c+1)=Ye (M.place (fillK M nx n l c) (hasF M nx c)).1 n c (M.place (fillK M nx n l c) (hasF M nx c)).2:=by
 unfold fillK;rw[List.range_succ,List.foldl_append];try rfl
theorem fillK_good{M:NM}{l:List DS}(ok:NMok M)(h:DGood M l){nx:List Nat}{n:Nat}(hnx:∀p∈nx,p<M.pos.length)(hl:nx.length≤2000):∀c,DGood M (fillK M nx n l c)∧l.length≤(fillK M nx n l c).length∧(fillK M nx n l c).length≤l.length+c
 |0=>⟨h,Nat.le_refl _,Nat.le_refl _⟩
 |c+1=>by
  obtain⟨h1,h2,h3⟩:=fillK_good ok h (n:=n) hnx hl c;obtain⟨h4,h5,h6,_⟩:=place_good ok h1 (hasF M nx c) (fun p hp=>hnx p (List.mem_filter.1 hp).1) (Nat.le_trans (List.length_filter_le _ _) hl);rw[fillK_succ];exact⟨h4.next _ _ _,by rw[QO];omega,by rw[QO];omega⟩
theorem stC_next{l:List DS}{vas:List Value}(hl:l.length=vas.length)(hx:∀s∈l,s.next.length=256){n c:Nat}(hn:n<l.length)(hc:c<256)(x:Int)(hn':n<(stC l vas).length):
  (stC l vas).set n ((stC l vas)[n].set (1+c) (.int .i64 x))=stC (Ye l n c x) vas:=by
 have hnv:n<vas.length:=by omega
 refine List.ext_getElem (by simp[stC,QO]) (fun i h1 h2=> ?_);have hi:i<l.length:=by simp[stC] at h1;omega
 have hiv:i<vas.length:=by omega
 rw[stC_get (by rw[QO];exact hi) hiv h2,dsNext_get l n c x i (by rw[QO];exact hi) hi];by_cases e:n=i
 ·subst e;rw[List.getElem_set_self,stC_get hn hnv hn',if_pos rfl];have h3:=hx _ (List.getElem_mem hn);unfold stL;rw[Nat.add_comm 1 c,List.set_cons_succ,List.set_append_left _ _ (by rw[List.length_map];omega),List.map_set]
 ·rw[if_neg e,List.getElem_set_ne (by omega),stC_get hi hiv]
theorem DfaIn.next{w:World}{pd pm:Nat}{v:Value}{l:List DS}{vas:List Value}{cl:List Int}{nc:Int}(h:DfaIn w pd pm v l vas cl nc){g:Nat}(hg:v.ownBlock=some g){n c:Nat}(hn:n<l.length)(hc:c<256)(x:Int):
  DfaIn (w.setCell ⟨g,n*258+1+c,none⟩ (.int .i64 x)) pd pm v (Ye l n c x) vas cl nc:=by
 have hk:K1 g w (w.setCell ⟨g,n*258+1+c,none⟩ (.int .i64 x)):=Qg _ _;have hgp:=(h.own_lt hg).1;have hn':n<(stC l vas).length:=by rw[YW h.len];exact hn
 refine⟨hk.blk h.blk (fun e=>by omega),h.cls,by rw[QO];exact h.len,?_,fun s hs=> ?_,fun i a b=> ?_⟩
 ·have h1:=h.row.set (stC_all h.nx) hg n (1+c) hn' (by omega) (.int .i64 x);rw[stC_next h.len h.nx hn hc x hn'] at h1;have e:0+258*n+(1+c)=n*258+1+c:=by omega
  rw[e] at h1;exact h1
 ·obtain⟨t,ht,_,_,h1⟩:=dsNext_mem hs;rw[h1];exact h.nx t ht
 ·have ha:i<l.length:=by rw[QO] at a;exact a
  rw[dsNext_at l n c x i a ha];refine(h.ats i ha b).kp hk (fun k cs hb e=> ?_);subst e;exact h.other hb (by decide) (by decide) (.inr hg)
theorem OwnI.one(w:World)(x:Nat):OwnI (w.alloc (.cells #[.int .i64 x] 3)) w.heap.size (.slice (some ⟨w.heap.size,0,none⟩) 1 1) [x]:=
 ⟨rfl,.inr ⟨w.heap.size,1,#[.int .i64 x],rfl,Nat.le_refl _,Qf _ _,by simp,by simp[maxLen],by simp,by simp⟩⟩
theorem OwnI.cell{w:World}{B b n c:Nat}{l:List Nat}(h:OwnI w B (.slice (some ⟨b,0,none⟩) n c) l)(j:Nat)(hj:j<l.length):w.cell? ⟨b,j,none⟩=some (.int .i64 (l[j]:Nat)):=by
 obtain⟨a,c',h1,_,_,h4⟩:=h.look;obtain⟨b',h5,_,_,h6⟩:=h4 (fun e=>by rw[e] at hj;simp at hj);have e:b=b':=by
  rw[h5] at h1;have:=congrArg Value.ownBlock h1;simpa[Value.ownBlock] using this
 subst e;exact(h6 j hj).1
theorem OwnI.kp1{w w':World}{B g:Nat}{vt:Value}{tl:List Nat}{T:TypeId}(h:OwnI w B vt tl)(hk:K1 g w w')(hb:∃cur,w.heap[g]? =some (.cells cur T (0,0)))(hT:T≠3):OwnI w' B vt tl:=by
 refine⟨h.1,?_⟩;rcases h.2 with h2|⟨g',cap,cur,h2,h3,h4,h5⟩
 ·exact .inl h2
 ·refine .inr ⟨g',cap,cur,h2,h3,hk.blk h4 (fun e=> ?_),h5⟩;obtain⟨cur2,hb⟩:=hb;subst e;rw[hb] at h4;injection h4 with h4;injection h4 with _ h4 _;exact hT h4
theorem OwnI.dss{w w':World}{pd pm bm B:Nat}{v vt:Value}{l:List DS}{vas:List Value}{cl:List Int}{nc:Int}{k:KV}{tl:List Nat}(h:OwnI w B vt tl)(hd:DfaIn w pd pm v l vas cl nc)(hm:MapA w TStr bm k)(hk:Kp (DSS pd bm v) w w'):OwnI w' B vt tl:=by
 refine⟨h.1,?_⟩;rcases h.2 with h2|⟨g,cap,cur,h2,h3,h4,h5⟩
 ·exact .inl h2
 ·refine .inr ⟨g,cap,cur,h2,h3,hk.blk h4 (fun e=> ?_),h5⟩;rcases e with e|e|e
  ·exact hd.other h4 (by decide) (by decide) (.inl e)
  ·subst e;obtain⟨es,ck,h6,_⟩:=hm;rw[h6] at h4;injection h4 with h4;cases h4
  ·exact hd.other h4 (by decide) (by decide) (.inr e)
theorem PlaceOut.trans{w w1 w2:World}{pb pd bm pm:Nat}{M:NM}{v v1 v2:Value}{l1 l2:List DS}{vas1 vas2:List Value}{cl:List Int}{nc:Int}(h1:PlaceOut w w1 pb pd bm pm M v l1 v1 vas1 cl nc)(h2:PlaceOut w1 w2 pb pd bm pm M v1 l2 v2 vas2 cl nc):PlaceOut w w2 pb pd bm pm M v l2 v2 vas2 cl nc:=by
 refine⟨h2.d,h2.m,h2.b,h1.kp.trans' h2.kp (fun i hi e=> ?_),?_⟩
 ·rcases e with e|e|e
  ·exact .inl e
  ·exact .inr (.inl e)
  ·rcases h1.own with h|⟨g,h,hg⟩
   ·exact .inr (.inr (by rw[←h];exact e))
   ·rw[h] at e;injection e with e;omega
 ·rcases h2.own with h|⟨g,h,hg⟩
  ·rcases h1.own with h3|⟨g,h3,hg⟩
   ·exact .inl (h.trans h3)
   ·exact .inr ⟨g,h.trans h3,hg⟩
  ·exact .inr ⟨g,h,Nat.le_trans h1.kp.size hg⟩
theorem PlaceOut.ghost{w w1 w0:World}{pb pd bm pm:Nat}{M:NM}{v v1:Value}{l l1:List DS}{vas vas1:List Value}{cl:List Int}{nc:Int}(h1:PlaceOut w w1 pb pd bm pm M v l1 v1 vas1 cl nc)(hd:DfaIn w pd pm v l vas cl nc)(hk0:Kn w0 w)(hp0:w0.heap.size+1≤pd)(hm0:w0.heap.size≤bm):Kn w0 w1:=
 hk0.trans' h1.kp (fun i hi e=>by
  rcases e with rfl|rfl|e
  ·omega
  ·omega
  ·have:=(hd.own_lt e).1;omega)
theorem behind_c(pm:Nat)(M:NM)(va:Value)(l:List Nat)(w:World)(h:NfaAt w pm M)(ok:NMok M)(hv:AtAt w l va)(hl:∀p∈l,p<M.pos.length)(hll:l.length≤2000):
  Calls Tryz.prog 264 #[ptr pm,va] w (BehindPost M l w):=by
 rcases hv with⟨h1,h2⟩|⟨h1,B,h2⟩
 ·rw[h2];exact behind_nil pm M l h1 w h ok
 ·exact behind_at pm B M va l h1 w h ok h2 hl hll
def FillPost(pb pd bm pm:Nat)(M:NM)(v:Value)(l':List DS)(cl:List Int)(nc:Int)(w:World)(e:Ending)(w':World):Prop:=
 ∃v' vas',e= .returned (.tuple #[])∧PlaceOut w w' pb pd bm pm M v l' v' vas' cl nc
theorem fill_eq(M:NM)(n:Nat)(l:List DS)(h:n<l.length):M.fill n l=fillK M (M.behind l[n].at_) n l 256:=by
 unfold NM.fill fillK;rw[List.getElem?_eq_getElem h];try rfl
theorem fill_c{pb pd bm pm:Nat}{M:NM}{v:Value}{l:List DS}{vas:List Value}{cl:List Int}{nc:Int}{w0 w:World}(n:Nat)(hN:NfaAt w0 pm M)(ok:NMok M)(hk0:Kn w0 w)(hp0:w0.heap.size+1≤pd)(hm0:w0.heap.size≤bm)
  (hd:DfaIn w pd pm v l vas cl nc) (hm:MapA w TStr bm (metK l)) (hb:BuildIn w pb pd bm) (hg:DGood M l) (hn:n<l.length) (hll:l.length≤5000):
  Calls Tryz.prog 217 #[ptr pb,.int .i64 n] w (FillPost pb pd bm pm M v (M.fill n l) cl nc w):=by
 have HF:=Qh (fill_eq M n l hn);obtain⟨nx,hnx⟩:∃z,z=M.behind l[n].at_:=⟨_,rfl⟩;have hlt:∀p∈nx,p<M.pos.length:=by rw[hnx];exact behind_lt M ok _ (hg.lt _ (List.getElem_mem hn))
 have hnl:nx.length≤2000:=ris_small (by rw[hnx];exact behind_ris M _) hlt ok.len;obtain⟨g,cv,va,rfl,_,hat,hc,_⟩:=hd.st hn;obtain⟨av,cva,rfl⟩:=hat.slice;have HB:=Qh (fun W (hk:Kn w W)=>behind_c pm M _ l[n].at_ W (hN.kn (hk0.trans hk)) ok (hat.kp hk (fun _ _ _ x=>x)) (hg.lt _ (List.getElem_mem hn)) (hg.small _ (List.getElem_mem hn)));rw[←hnx] at HF;have HNX:=Qh hnx;have hb0:=Qa hb 0;simp only[List.getElem?_toArray,List.getElem?_cons_zero] at hb0;obtain⟨hd0,hd1,_⟩:=hd.cells;have HPO:=Qh (fun W (hk:Kn w W)=>PlaceOut.same (M:=M) hd hm hb hk);have HD:=Qh hd;have HN:=Qh hN;have hN0:=HN;have HOK:=Qh ok;have HK0:=Qh hk0;have HLT:=Qh hlt;have HG:=Qh (fun c=>fillK_good (n:=n) ok hg hlt hnl c);have HLN:=Qh hn;clear hd hm hb hg hat hN ok hk0 hnx hlt;go_enter Tryz.func217,Tryz.ntmps217;have hn:n<l.length:=HLN.out;go_upto_region 0 with fail
 refine wp_region_held_drew (S:=fun w'=>w'.cell? ⟨pb,0,none⟩=some (ptr pd)∧w'.cell? ⟨pd,0,none⟩=some (ptr pm)∧w'.cell? ⟨pd,1,none⟩=some (.slice (some ⟨g,0,none⟩) l.length cv)∧w'.cell? ⟨g,n*258,none⟩=some (.slice av l[n].at_.length cva)) (by kernel_rfl) ⟨(Qc ((Qb _ _).drew) hb0),(Qc ((Qb _ _).drew) hd0),(Qc ((Qb _ _).drew) hd1),(Qc ((Qb _ _).drew) hc)⟩ (fun hHeld=> ?_);obtain⟨wd,hwd⟩:∃z,z=w.drew:=⟨_,rfl⟩;have HKd:Kn w wd:=by rw[hwd];exact(Qb _ _).drew
 rw[←hwd] at hHeld⊢;have C0:=hHeld.1;have C1:=hHeld.2.1;have C2:=hHeld.2.2.1;have C3:=hHeld.2.2.2;clear hwd hb0 hd0 hd1 hc;refine TW 0 10 ?_;refine TW 1 11 ?_;refine TW 2 12 ?_;refine TH 3 13 ?_;refine TW 4 14 ?_;refine TW 5 15 ?_;refine TH 6 16 ?_;refine TW 7 17 ?_;refine TW 8 18 ?_;refine TW 9 19 ?_;refine TH 10 20 ?_;refine TW 11 21 ?_;refine TW 12 22 ?_;refine TH 13 23 ?_;refine TW 14 24 ?_;refine TW 15 25 ?_;refine TW 16 26 ?_;refine TH 17 27 ?_;refine RH 18 (fun K hK=> ?_);go_simp
 go_at_call 264
 refine(HB.out wd HKd).mono ?_;rintro e w1 ⟨vn,Bn,rfl,hbn,hon,hk1⟩;have HKW1:Kn w w1:=HKd.trans hk1;have D0:=Qc hk1 C0;have D1:=Qc hk1 C1;have D2:=Qc hk1 C2;have D3:=Qc hk1 C3;rw[←HNX.out] at hon;have HON:=Qh hon;dsimp only;refine hK.out _ _ ⟨D0,D1,D2,D3⟩ (fun hHeld=> ?_);clear hK K hk1 hon C0 C1 C2 C3 D0 D1 D2 D3
 try simp only[PP]
 refine TW 19 4 ?_;refine RD ?_;obtain⟨a0,c0,rfl,h1,h2,h3⟩:=HON.out.look;have HNC:=Qh h3;clear h1 h2 h3;go_wp2_with fail
 go_loopw [29] (fun i wr=>∃(c:Nat) (v1:Value) (vas1:List Value),c≤256∧i= .int .i64 c∧Hid (PlaceOut w wr pb pd bm pm M (.slice (some ⟨g,0,none⟩) l.length cv) (fillK M nx n l c) v1 vas1 cl nc)∧Hid (OwnI wr Bn (.slice a0 nx.length c0) nx)) (fun i _=>256-(intOf i).toNat)
 case atStart=>exact⟨0,_,_,by omega,rfl,Qh (HPO.out _ HKW1),HON⟩
 case round=>
  obtain⟨c,v1,vas1,hc256,rfl,hpo,hrow⟩:=hrel;obtain⟨wo,hwo⟩:∃z,z=wr:=⟨_,rfl⟩;subst hwo;have HG1:=HG.out c;obtain⟨lc,hlc⟩:∃z,z=fillK M nx n l c:=⟨_,rfl⟩;rw[←hlc] at HG1 hpo;have HLC:=Qh hlc;clear hlc;obtain⟨hgood,hle1,hle2⟩:=HG1;by_cases hlt:c<256
  ·have hc2:(c:Int)<256:=by omega
   have hkw:=Qh (hpo.out.ghost HD.out HK0.out hp0 hm0);have HGD:=Qh hgood;clear hgood;go_wp2_with fail
   go_loopw [6,34] (fun s i wi=>∃(vt:Value) (j:Nat),vt=s∧j≤nx.length∧i= .int .i64 j∧Hid (OwnI wi wo.heap.size vt ((nx.take j).filter (fun p=>M.has p c)))∧Kn wo wi) (fun _ i _=>nx.length-(intOf i).toNat)
   case atStart=>exact⟨_,0,rfl,Nat.zero_le _,rfl,Qh (World.ownsRow_nil _ _ _ _),Qb _ _⟩
   case round=>
    obtain⟨vt,j,rfl,hj,rfl,hvt,hki⟩:=hrel;by_cases hjl:j<nx.length
    ·obtain⟨b0,rfl,_,_,h4⟩:=HNC.out (fun e=>by rw[e] at hjl;simp at hjl);have hcj:=Qc hki (hrow.out.cell j hjl);have cb0:wr.cell? ⟨pb,0,none⟩=some (ptr pd):=Qc hki (Qa hpo.out.b 0);have cd0:=Qc hki hpo.out.d.cells.1;have hp:=HLT.out _ (List.getElem_mem hjl);have HH:=Qh (Has_c pm nx[j] c M wr (HN.out.kn (hkw.out.trans hki)) hp hlt);have hs:Hid ((nx.take (j+1)).filter (fun p=>M.has p c)=(nx.take j).filter (fun p=>M.has p c)++(if M.has nx[j] c=true then[nx[j]] else[])):=Qh (by
      rw[List.take_succ_eq_append_getElem hjl,List.filter_append,List.filter_cons,List.filter_nil])
     go_wp2_with fail
     refine HH.out.mono ?_;rintro e w3 ⟨rfl,hk3⟩;have hvt3:=Qh (hvt.out.kn hk3);have hki3:=hki.trans hk3;clear hcj cb0 cd0;by_cases hbit:M.has nx[j] c=true
     ·rw[if_pos hbit] at hs;have hfl:((nx.take j).filter (fun p=>M.has p c)).length≤2000:=Nat.le_trans (List.length_filter_le _ _) (by rw[List.length_take];omega);rw[hbit];go_wp2_with (at_builtin;refine Yc rfl (.tmp 49) (.tmp 51) rfl wo.heap.size w3.heap.size vt _ _ [nx[j]] rfl rfl (hvt3.out.kn ((Qb _ _).alloc _)) (OwnI.one _ _) (by simp;omega) (by rw[size_alloc'];have:=hki3.size;omega) ?_;intro v4 w4 hro4 hk4)
      have HR4:=Qh hro4;have hkn4:Kn wo w4:=(hki3.alloc _).trans' hk4 (fun i hi e=>by have:=(hvt3.out.lt i e.symm).1;omega);clear hro4 hk4;go_wp2_with fail
      go_roundw
      case rel=>exact⟨v4,j+1,rfl,by omega,by go_num,Qh (by rw[hs.out];exact HR4.out),hkn4⟩
      case measure=>simp[intOf];omega
     ·rw[if_neg hbit,List.append_nil] at hs;rw[Bool.not_eq_true] at hbit;rw[hbit];go_wp2_with fail
      go_roundw
      case rel=>exact⟨vt,j+1,rfl,by omega,by go_num,Qh (by rw[hs.out];exact hvt3.out),hki3⟩
      case measure=>simp[intOf];omega
    ·have e:j=nx.length:=by omega
     have hvl:=hvt.out;rw[e,List.take_length] at hvl;have HVL:=Qh hvl;clear hvl hvt;have HPI:=Qh (PlaceOut.same (M:=M) hpo.out.d hpo.out.m hpo.out.b hki);have HPL:=Qh (place_c hN0.out HOK.out (hkw.out.trans hki) hp0 hm0 HPI.out.d HPI.out.m HPI.out.b HVL.out HGD.out (fun p hp=>HLT.out p (List.mem_filter.1 hp).1) (Nat.le_trans (List.length_filter_le _ _) hnl) (by omega));go_wp2_with fail
     refine HPL.out.mono ?_;rintro e1 w5 ⟨v5,vas5,he1,hp5⟩;obtain⟨hg5,hle5,hup5,hx1,hx2⟩:=place_good HOK.out HGD.out (hasF M nx c) (fun p hp=>HLT.out p (List.mem_filter.1 hp).1) (Nat.le_trans (List.length_filter_le _ _) hnl);obtain⟨l5,hl5⟩:∃z,z=M.place lc (hasF M nx c):=⟨_,rfl⟩;have HFS:Hid (fillK M nx n l (c+1)=Ye l5.1 n c l5.2):=Qh (by rw[fillK_succ,←HLC.out,hl5]);change PlaceOut wr w5 pb pd bm pm M v1 (M.place lc (hasF M nx c)).1 v5 vas5 cl nc at hp5;change e1= .returned (.int .i64 (M.place lc (hasF M nx c)).2) at he1;rw[←hl5] at hp5 hle5 hup5 hx1 hx2 hg5 he1;subst he1;clear hl5;have hn5:n<l5.1.length:=by omega
     obtain⟨g5,c5,va5,hv5,_,_,_,hcn,_,hfr⟩:=hp5.d.st hn5;subst hv5;have hlx:c<(l5.1[n].next.map (Value.int .i64)).length:=by rw[List.length_map,hp5.d.nx _ (List.getElem_mem hn5)];exact hlt
     have hc5:=hcn c hlt;rw[List.getElem?_eq_getElem hlx,List.getElem_map] at hc5;have hf5:=hfr (1+c) (by omega);rw[←Nat.add_assoc] at hf5;have cb0:w5.cell? ⟨pb,0,none⟩=some (ptr pd):=Qa hp5.b 0;have cd1:=hp5.d.cells.2.1;have HP5:=Qh hp5;have HPP:Hid (PlaceOut wo w5 pb pd bm pm M v1 l5.1 (.slice (some ⟨g5,0,none⟩) l5.1.length c5) vas5 cl nc):=Qh (HPI.out.trans hp5);have HROW:=Qh ((hrow.out.kn hki).dss HPI.out.d HPI.out.m hp5.kp);have hn1:l5.1.length≤10001:=by omega
     clear hp5 hcn hfr;go_wp2_with fail
     obtain⟨w6,hw6⟩:∃z,z=w5.setCell ⟨g5,n*258+1+c,none⟩ (.int .i64 l5.2):=⟨_,rfl⟩;have hk6:K1 g5 w5 w6:=by rw[hw6];exact Qg _ _
     have HD6:Hid (DfaIn w6 pd pm (.slice (some ⟨g5,0,none⟩) l5.1.length c5) (Ye l5.1 n c l5.2) vas5 cl nc):=Qh (by rw[hw6];exact HP5.out.d.next rfl hn5 hlt l5.2);rw[←hw6];clear hw6;go_roundw
     case rel=>exact⟨c+1,_,vas5,by omega,by go_num,Qh (by
      rw[HFS.out];refine hpo.out.trans (HPP.out.trans ⟨HD6.out,?_,?_,?_,?_⟩)
      ·rw[metK_next];refine HP5.out.m.kp hk6 (fun e=> ?_);subst e;obtain⟨cur,h1⟩:=HP5.out.d.own_blk (g:=bm) rfl;obtain⟨es,ck,h2,_⟩:=HP5.out.m;rw[h1] at h2;injection h2 with h2;cases h2
      ·exact hk6.blk HP5.out.b (fun e=>HP5.out.d.other HP5.out.b (by decide) (by decide) (.inr (by rw[e];try rfl)))
      ·exact hk6.mono (fun i _ e=> .inr (.inr (by rw[e];try rfl)))
      ·exact .inl rfl),Qh (HROW.out.kp1 hk6 (HP5.out.d.own_blk rfl) (by decide))⟩
     case measure=>simp[intOf];omega
  ·have e:c=256:=by omega
   subst e;go_wp2_with fail
   go_end0
   exact⟨v1,vas1,rfl,by rw[HF.out,←HLC.out];exact hpo.out⟩
end Go.Proofs.YtiehgcfckhepaaaGreatDoor
