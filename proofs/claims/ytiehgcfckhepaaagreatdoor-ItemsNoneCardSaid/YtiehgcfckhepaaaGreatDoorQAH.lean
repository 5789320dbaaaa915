/-
  Texts of this claim, laid together: GToken, GMet, GAdd, GAlone, GRule, GBrack, GTake, GTake2, GIdx, GPart2. Conditions: none.
-/
import Derived.Test.YtiehgcfckhepaaaGreatDoorQAG
set_option linter.unusedVariables false
set_option linter.unusedSimpArgs false
set_option maxRecDepth 100000
set_option maxHeartbeats 16000000
namespace Go.Proofs.YtiehgcfckhepaaaGreatDoor
open Go.RowKit Go.Maps
theorem RS.token_not(R:RS)(l:List ByteArray)(lay:Bool)(h:l.length≠2):R.token l lay=none:=by
 rcases l with _|⟨a,_|⟨b,_|⟨c,l⟩⟩⟩
 ·rfl
 ·rfl
 ·simp at h
 ·rfl
theorem clsR_one{w:World}{b:Nat}{c:GC}(h:w.heap[b]? =some (.cells #[.string c.name,.string c.regex,.bool c.layout] TCl (0,0))):ClsR w b [c]:=by
 intro j u hj;rw[Qa h,List.getElem?_toArray];simpa[clC,clL] using hj
theorem token_c{B p bl c:Nat}{R:RS}{A:RA}{w:World}(l:List ByteArray)(lay:Bool)(h:RdAt w B p R A)(ok:RSok R)(hl:WL w bl 1 l)(ho:Off A p bl)(hll:l.length≤2000000)(hsz:∀s∈l,s.size≤2000000):
  Calls Tryz.prog 107 #[ptr p,.slice (some ⟨bl,1,none⟩) l.length c,.bool lay] w (ErrPost B p A (R.token l lay) w):=by
 by_cases h1:l.length=2
 ·obtain⟨a,b,rfl⟩:∃a b,l=[a,b]:=by
   rcases l with _|⟨a,_|⟨b,_|⟨c,l⟩⟩⟩
   ·simp at h1
   ·simp at h1
   ·exact⟨a,b,rfl⟩
   ·simp at h1
  have hF:Hid (R.token [a,b] lay=match R.name a with|some R1=>if(Yo [⟨a,b,lay⟩]).isSome=true∧R1.full=false then some {R1 with cls:=R1.cls++[⟨a,b,lay⟩]} else none|none=>none):=Qh rfl;have ha:=hsz a (by simp);have hb:=hsz b (by simp);have hc0:w.cell? ⟨bl,1,none⟩=some (.string a):=hl 0 (by simp);have hc1:w.cell? ⟨bl,2,none⟩=some (.string b):=hl 1 (by simp);have HN:=Qh (name_c a h ha);have hbp:=h.pB;obtain⟨ie,hi,hz0,hz1,hz2⟩:=info_parts info_cl;have HIE:=Qh (And.intro hi (And.intro hz0 (And.intro hz1 hz2)));have HOK:=Qh ok;have HO:=Qh ho;simp only[List.length_cons,List.length_nil] at*;clear h ok hl ho hll hsz hi hz0 hz1 hz2 h1;go_enter Tryz.func107,Tryz.ntmps107;go_wp2_with fail
  refine HN.out.mono ?_;rintro e w1 ⟨n,rfl,hp⟩;cases hn:R.name a with
  |none=>
   rw[hn] at hp;dsimp only at hp;obtain⟨hn0,rfl⟩:=hp;have hn2:(n==0)=false:=by rw[beq_eq_false_iff_ne];exact hn0
   have hF2:Hid (R.token [a,b] lay=none):=Qh (by rw[hF.out,hn]);have HN0:=Qh hn0;clear hF hn hn0;go_wp2_with fail
   go_ret;refine⟨n,rfl,Qb _ _,?_⟩;rw[hF2.out];exact HN0.out
  |some R1=>
   rw[hn] at hp;dsimp only at hp;obtain⟨rfl,hr1,hk1⟩:=hp;have hok1:=(name_ok HOK.out hn).1;have hasz:=(name_ok HOK.out hn).2.1;have hF2:Hid (R.token [a,b] lay=if(Yo [⟨a,b,lay⟩]).isSome=true∧R1.full=false then some {R1 with cls:=R1.cls++[⟨a,b,lay⟩]} else none):=Qh (by rw[hF.out,hn]);have HR1:=Qh hr1;have HOK1:=Qh hok1;have x1:=Qi hk1 hc0 (show¬bl=A.bn from fun e=>HO.out.2.2.2.1 e.symm);have x2:=Qi hk1 hc1 (show¬bl=A.bn from fun e=>HO.out.2.2.2.1 e.symm);have KW1:=hk1.mono (T:=fun k=>B≤k) (fun i hi e=>by omega);clear hF hn hr1 hok1 hk1 hc0 hc1 HN;go_wp2_with fail
   refine wp_region_held_drew (S:=fun w'=>w'.cell? ⟨bl,1,none⟩=some (.string a)∧w'.cell? ⟨bl,2,none⟩=some (.string b)) (by kernel_rfl) ⟨Qc ((Qb _ _).drew) x1,Qc ((Qb _ _).drew) x2⟩ (fun hHeld=> ?_);have hH0:=hHeld;refine TW 0 23 ?_;refine TW 1 24 ?_;refine TH 2 25 ?_;refine TW 3 26 ?_;refine TW 4 27 ?_;refine TH 5 28 ?_;refine TW 6 29 ?_;refine TW 7 30 ?_;refine RH 8 (fun K hK=> ?_);go_simp;refine hK.out _ _ ⟨Qc ((Qb _ _).alloc _) hHeld.1,Qc ((Qb _ _).alloc _) hHeld.2⟩ (fun hHeld=> ?_);clear hK K
   try simp only[PP]
   refine RH 9 (fun K hK=> ?_);go_simp;refine hK.out _ _ ⟨Qc ((Qb _ _).alloc _) hH0.1,Qc ((Qb _ _).alloc _) hH0.2⟩ (fun hHeld=> ?_);clear hK K
   try simp only[PP]
   refine RD ?_;clear hHeld hH0;obtain⟨w2,hw2⟩:∃z,z=(w1.alloc (.cells #[.string a,.string b,.bool lay] TCl)).drew:=⟨_,rfl⟩;rw[←hw2];have hk2:Kn w1 w2:=by rw[hw2];exact((Qb _ _).alloc _).drew
   obtain⟨b8,hb8⟩:∃z,z=w1.heap.size:=⟨_,rfl⟩;have hbb:w2.heap[b8]? =some (.cells #[.string a,.string b,.bool lay] TCl (0,0)):=by rw[hw2,hb8];exact Qf w1 _
   rw[←hb8];have HB8:Hid (∀g,A.vc.ownBlock=some g→g<b8):=Qh (fun g hg=>by rw[hb8];exact(HR1.out.cls.lt g hg).2);have HR2:=Qh (HR1.out.kn hk2);have KW2:=KW1.trans (Kp.weak hk2);have c0:w2.cell? ⟨b8,0,none⟩=some (.string a):=by rw[Qa hbb];try rfl
   have c1:w2.cell? ⟨b8,1,none⟩=some (.string b):=by rw[Qa hbb];try rfl
   have c2:w2.cell? ⟨b8,2,none⟩=some (.bool lay):=by rw[Qa hbb];try rfl
   clear hw2 hb8 hk2 HR1 KW1 x1 x2;obtain⟨w3,hw3⟩:∃z,z=w2.alloc (.cells #[.string a,.string b,.bool lay] TCl):=⟨_,rfl⟩;have hk3:Kn w2 w3:=by rw[hw3];exact(Qb _ _).alloc _
   have HSC:Hid (Calls Tryz.prog 112 #[.slice (some ⟨w2.heap.size,0,none⟩) 1 1] w3 (ScanPost [⟨a,b,lay⟩] w3)):=Qh (scanNew_c w2.heap.size 1 [⟨a,b,lay⟩] w3 (clsR_one (c:=⟨a,b,lay⟩) (by rw[hw3];exact Qf _ _)) (by simp) (fun x hx=>by simp at hx;subst hx;exact⟨by show a.size≤_;omega,by show b.size≤_;omega⟩));have HK3:=Qh hk3;have HW3:=Qh hw3;clear hw3 hk3;go_wp2_with fail
   rw[←HW3.out];refine HSC.out.mono ?_;rintro e w4 ⟨hk4,hp⟩;have KW4:=KW2.trans (Kp.weak (HK3.out.trans hk4));have HR4:=Qh ((HR2.out.kn HK3.out).kn hk4);have hbb4:=(HK3.out.trans hk4).blk hbb (fun x=>x);cases hsf:Yo [⟨a,b,lay⟩] with
   |none=>
    rw[hsf] at hp;dsimp only at hp;obtain⟨k,n,hn,rfl⟩:=hp;have hn2:(n==0)=false:=by rw[beq_eq_false_iff_ne];exact hn
    have hF3:Hid (R.token [a,b] lay=none):=Qh (by rw[hF2.out,hsf,if_neg (by simp)]);have HN0:=Qh hn;clear hsf hF2 hn HSC HW3;go_wp2_with fail
    go_ret;refine⟨n,rfl,KW4,?_⟩;rw[hF3.out];exact HN0.out
   |some rr=>
    rw[hsf] at hp;dsimp only at hp;obtain⟨ps,rfl,_,_⟩:=hp;have HFU:=Qh (full_c HR4.out HOK1.out);cases hfu:R1.full with
    |true=>
     rw[hfu] at HFU;have hF3:Hid (R.token [a,b] lay=none):=Qh (by rw[hF2.out,hfu,if_neg (by simp)]);clear hsf hF2 hfu HSC HW3;go_wp2_with fail
     refine HFU.out.mono ?_;rintro e w5 ⟨rfl,hk5⟩;have KW5:=KW4.trans (Kp.weak hk5);go_wp2_with fail
     go_ret;refine⟨3,rfl,KW5,?_⟩;rw[hF3.out];exact(by decide:(3:Int)≠0)
    |false=>
     rw[hfu] at HFU;have hF3:Hid (R.token [a,b] lay=some {R1 with cls:=R1.cls++[⟨a,b,lay⟩]}):=Qh (by rw[hF2.out,hsf,hfu,if_pos ⟨rfl,rfl⟩]);have hf40:R1.cls.length+R1.lits.length<40:=by
      unfold RS.full at hfu;simp at hfu;omega
     obtain⟨oa,oc,hv,_⟩:=HR4.out.cls.row (fun C hC=>by obtain⟨x,_,rfl⟩:=List.mem_map.1 hC;rfl);rw[List.length_map] at hv;have HV:=Qh hv;clear hsf hF2 hfu hv HSC HW3;go_wp2_with fail
     refine HFU.out.mono ?_;rintro e w5 ⟨rfl,hk5⟩;have KW5:=KW4.trans (Kp.weak hk5);have HR5:=Qh (HR4.out.kn hk5);have hbb5:=hk5.blk hbb4 (fun x=>x);have d0:w5.cell? ⟨b8,0,none⟩=some (.string a):=by rw[Qa hbb5];try rfl
     have d1:w5.cell? ⟨b8,1,none⟩=some (.string b):=by rw[Qa hbb5];try rfl
     have d2:w5.cell? ⟨b8,2,none⟩=some (.bool lay):=by rw[Qa hbb5];try rfl
     have HNB:Hid (∀g,A.vc.ownBlock=some g→g≠b8):=Qh (fun g hg=>Nat.ne_of_lt (HB8.out g hg));have HNP:Hid (b8≠p):=Qh (fun e=>by subst e;exact Qn hbb5 HR5.out.blk (by decide));clear hbb5 hbb4 hbb c0 c1 c2 hk5 HR4 hk4;go_wp2_with fail
     refine rgn (fun w'=>w'.cell? ⟨p,1,none⟩=some (.slice oa R1.cls.length oc)∧w'.cell? ⟨b8,0,none⟩=some (.string a)∧w'.cell? ⟨b8,1,none⟩=some (.string b)∧w'.cell? ⟨b8,2,none⟩=some (.bool lay)) (X:=[]) ⟨Qc ((Qb _ _).drew) ((Qa HR5.out.blk 1).trans (congrArg some HV.out)),Qc ((Qb _ _).drew) d0,Qc ((Qb _ _).drew) d1,Qc ((Qb _ _).drew) d2⟩ (fun hX hHeld=> ?_);refine tw 0 43 ?_;refine tw 1 44 ?_;refine tw 2 45 ?_;refine tw 3 46 ?_;refine tw 4 47 ?_;refine tk 5 48 ?_;refine tk 6 49 ?_;refine ro 7 (fun K hK=> ?_);obtain⟨wd,hwd⟩:∃zz,zz=w5.drew:=⟨_,rfl⟩;have KN0:Kn w5 wd:=by rw[hwd];exact(Qb _ _).drew
     have KW0:=KW5.trans (Kp.weak (S:=fun k=>B≤k) KN0);have RH0:=Qh (HR5.out.kn KN0);rw[←hwd] at hHeld⊢;clear hwd;go_simp;obtain⟨y1,hw1⟩:∃zz,zz=wd.alloc (.cells #[.string a,.string b,.bool lay] TCl):=⟨_,rfl⟩;have hk1:Kn wd y1:=by rw[hw1];exact(Qb _ _).alloc _
     obtain⟨ge,hge⟩:∃zz,zz=wd.heap.size:=⟨_,rfl⟩;have GE:y1.heap[ge]? =some (.cells #[.string a,.string b,.bool lay] TCl (0,0)):=by rw[hw1,hge];exact Qf _ _
     have RH1:=Qh (RH0.out.kn hk1);have KW1:=KW0.trans (Kp.weak hk1);have KN1:=KN0.trans hk1;rw[←hw1,←hge];refine hK.out _ _ (⟨Qc hk1 hHeld.1,Qc hk1 hHeld.2.1,Qc hk1 hHeld.2.2.1,Qc hk1 hHeld.2.2.2⟩) (fun hHeld=> ?_);clear hw1 hge hk1;clear hK K
     try simp only[PP]
     refine ro 8 (fun K hK=> ?_);have hownO:OwnK y1 B TCl 3 (.slice oa R1.cls.length oc) (R1.cls.map clL):=by have h1:=RH1.out.cls;rw[HV.out] at h1;exact h1
     refine Qq y1 (by rfl) _ _ 110 (by rfl) B TCl ie (.agg #[.string ByteArray.empty,.string ByteArray.empty,.bool false]) 3 40 Tryz.underlying110 HIE.out.1 HIE.out.2.1 HIE.out.2.2.1 HIE.out.2.2.2 (by rfl) (by decide) (.slice oa R1.cls.length oc) (R1.cls.map clL) (by rfl) hownO ge 1 (by rfl) #[.string a,.string b,.bool lay] TCl (0,0) GE (by rfl) (by simp[Value.oneCell']) (by rw[List.length_map];simp only[maxLen];omega) (by rw[List.length_map];omega) (by have:=RH1.out.pB.1;have:=RH1.out.lt;omega) ?_;intro v1 y2 hown hka hat;have hke:Kp (fun k=>B≤k) y1 y2:=hka.mono (fun i hi e=>(hownO.lt i e.symm).1);have KX:=KW1.trans hke;obtain⟨av1,cv1,hv1,_⟩:=hown.row (k:=3) (fun D hD=>by simp only[List.mem_append,List.mem_map,List.mem_singleton] at hD;(first|(rcases hD with⟨y,_,rfl⟩|rfl<;>rfl)|(exact rfl)))
     obtain⟨nl1,hv1⟩:∃n,v1= .slice av1 n cv1:=⟨_,hv1⟩;have HV1:=Qh hv1;have RHP:=Qh (RH1.out.putCls (c:=⟨a,b,lay⟩) hown (by rw[HV.out];exact hka));have hpb:y2.heap[p]? =some (.cells (rdC A) TGr (0,0)):=Qw RH1.out.blk hka (QL hownO) (by decide);have xp1:=Qd hpb 1;have xq1:y2.cell? ⟨p,1,none⟩=some (.slice oa R1.cls.length oc):=by rw[Qa hpb];exact congrArg some HV.out
     refine hK.out _ _ (⟨xq1,Qi hka hHeld.2.1 (fun e=>HNB.out b8 (by rw[HV.out];exact e.symm) rfl),Qi hka hHeld.2.2.1 (fun e=>HNB.out b8 (by rw[HV.out];exact e.symm) rfl),Qi hka hHeld.2.2.2 (fun e=>HNB.out b8 (by rw[HV.out];exact e.symm) rfl)⟩) (fun hHeld=> ?_);clear hown hka hat hv1 hke hownO;clear hK K
     try simp only[PP]
     refine tw 9 52 ?_;refine tw 10 53 ?_;refine tw 11 54 ?_;refine re 12 (fun K hK=> ?_);rw[HV1.out];go_simp;rw[←HV1.out];obtain⟨w9,hw9⟩:∃zz,zz=y2.setCell ⟨p,1,none⟩ v1:=⟨_,rfl⟩;have hk9:K1 p y2 w9:=by rw[hw9];exact Qg _ _
     rw[←hw9] at RHP⊢;have KX9:=KX.trans (hk9.mono (fun i hi e=>by have:=RHP.out.pB.1;omega));clear xp1 xq1 hpb hw9 hk9 KX hHeld;refine hK.out _ _ ?_;clear hK K;go_wp2_with fail
     go_ret;refine⟨0,rfl,KX9,?_⟩;rw[hF3.out];refine⟨rfl,⟨HOK1.out.lits,by simp;omega,HOK1.out.sorts,HOK1.out.lines,HOK1.out.litz,fun x hx=> ?_,HOK1.out.words⟩,_,RHP.out,rfl,rfl⟩;rcases List.mem_append.1 hx with hx|hx
     ·exact HOK1.out.clz x hx
     ·simp at hx;subst hx;exact⟨hasz,hb⟩
 ·have i1:((l.length:Int)==2)=false:=by rw[beq_eq_false_iff_ne];omega
  have hF:Hid (R.token l lay=none):=Qh (R.token_not l lay h1);clear h1;go_enter Tryz.func107,Tryz.ntmps107;go_wp2_with fail
  go_ret;refine⟨4,rfl,Qb _ _,?_⟩;rw[hF.out];exact(by decide:(4:Int)≠0)
def StrBlk(w:World)(k:Nat):Prop:=∃cs T f,w.heap[k]? =some (.cells cs T f)∧(T=TS∨T=TGr)
abbrev KS(w w':World):Prop:=Kp (StrBlk w) w w'
theorem KS.trans{a b c:World}(h:KS a b)(k:KS b c):KS a c:=by
 refine Kp.trans' h k (fun i hi e=> ?_);by_cases hs:StrBlk a i
 ·exact hs
 ·obtain⟨cs,T,f,h1,h2⟩:=e;rw[h.block i hi hs] at h1;exact⟨cs,T,f,h1,h2⟩
theorem KS.row{w w':World}{T:TypeId}{B k n:Nat}{v:Value}{cs:List Value}(h:KS w w')(hr:w.ownsRow B T k v n cs)(h1:T≠TS)(h2:T≠TGr):w'.ownsRow B T k v n cs:=
 QC hr h (fun g hg e=>by
  obtain⟨c1,T',f,h3,h4⟩:=e;obtain⟨c2,h5⟩:=QH hr hg;rw[h3] at h5;injection h5 with h5;injection h5 with _ h5 _;rcases h4 with h4|h4
  ·exact h1 (h5▸h4)
  ·exact h2 (h5▸h4))
theorem KS.blk'{w w':World}{T:TypeId}{g:Nat}{cs:Array Value}{f:Nat×Nat}(h:KS w w')(hb:w.heap[g]? =some (.cells cs T f))(h1:T≠TS)(h2:T≠TGr):w'.heap[g]? =some (.cells cs T f):=
 h.blk hb (fun e=>by
  obtain⟨c1,T',f',h3,h4⟩:=e;rw[h3] at hb;injection hb with hb;injection hb with _ hb _;rcases h4 with h4|h4
  ·exact h1 (hb▸h4)
  ·exact h2 (hb▸h4))
theorem hasS_contains(ss:List ByteArray)(x:ByteArray):Lib.containsS ss x=YP ss x:=by
 cases h:YP ss x with
 |true=>exact(Lib.containsS_iff ss x).2 (hasS_iff.1 h)
 |false=>
  cases h2:Lib.containsS ss x with
  |false=>rfl
  |true=>exact absurd ((Lib.containsS_iff ss x).1 h2) (hasS_not.1 h)
theorem contains_c{w:World}{B:Nat}{v:Value}{ss:List ByteArray}(h:OwnT w B v ss)(x:ByteArray)(hl:ss.length≤1000000):
  Calls Tryz.prog 250 #[v,.string x] w fun e w'=>e= .returned (.bool (YP ss x))∧w'=w:=by
 obtain⟨a,c,rfl,_,_,h1⟩:=h.look;by_cases h0:ss=[]
 ·subst h0;exact Tryz.slices_Contains_string_empty a c x w
 ·obtain⟨g,rfl,_,_,hc⟩:=h1 h0;have:=Tryz.slices_Contains_string g 0 ss.length c ss x w (Nat.le_refl _) (by omega) (fun j hj=>by
   rw[Nat.zero_add,hc j hj,List.getD_eq_getElem?_getD,List.getElem?_eq_getElem hj];try rfl)
  rw[List.take_length,hasS_contains] at this;exact this
theorem index_c{w:World}{B:Nat}{v:Value}{ss:List ByteArray}(h:OwnT w B v ss)(x:ByteArray)(hl:ss.length≤1000000):
  Calls Tryz.prog 159 #[v,.string x] w fun e w'=>e= .returned (.int .i64 (Lib.idxOfS ss x))∧w'=w:=by
 obtain⟨a,c,rfl,_,_,h1⟩:=h.look;by_cases h0:ss=[]
 ·subst h0;exact Tryz.slices_Index_string_empty a c x w
 ·obtain⟨g,rfl,_,_,hc⟩:=h1 h0;have:=Tryz.slices_Index_string g 0 ss.length c ss x w (Nat.le_refl _) (by omega) (fun j hj=>by
   rw[Nat.zero_add,hc j hj,List.getD_eq_getElem?_getD,List.getElem?_eq_getElem hj];try rfl)
  rw[List.take_length] at this;exact this
def MetPost(B p:Nat)(o:Option RS)(A:RA)(w:World)(e:Ending)(w':World):Prop:=
 ∃n:Int,e= .returned (.int .i64 n)∧Kp (fun k=>B≤k) w w'∧KS w w'∧match o with|some R'=>n=0∧RSok R'∧∃v1,RdAt w' B p R' {A with vl:=v1} |none=>n≠0
theorem Yj{B:Nat}{w w':World}(h:Kn w w'):Kp (fun k=>B≤k) w w':=h.weak
theorem met_c{B p:Nat}{R:RS}{A:RA}{w:World}(s:ByteArray)(h:RdAt w B p R A)(ok:RSok R)(hs:s.size≤20):
  Calls Tryz.prog 208 #[ptr p,.string s] w (MetPost B p (R.met s) A w):=by
 have hF:Hid (R.met s=if YP R.lits s=true then some R else if R.full=true then none else some {R with lits:=R.lits++[s]}):=Qh rfl;have HFU:=Qh (full_c h ok);obtain⟨q0,_⟩:=h.cells;obtain⟨oa,oc,hv,_⟩:=h.lits.look;have hown:=h.lits;rw[hv] at q0 hown;have HCO:=Qh (contains_c hown s (by have:=ok.lits;omega));have HOW:=Qh hown;have HV:=Qh hv;have H:=Qh h;have HOK:=Qh ok;cases hh:YP R.lits s with
 |true=>
  rw[hh] at HCO;have hF2:Hid (R.met s=some R):=Qh (by rw[hF.out,hh];try rfl);clear h ok hF hh hown hv;go_enter Tryz.func208,Tryz.ntmps208;go_wp2_with fail
  refine HCO.out.mono ?_;rintro e w' ⟨rfl,rfl⟩;go_wp2_with fail
  go_ret;refine⟨0,rfl,Qb _ _,Qb _ _,?_⟩;rw[hF2.out];exact⟨rfl,HOK.out,A.vl,H.out⟩
 |false=>
  rw[hh] at HCO;cases hfu:R.full with
  |true=>
   rw[hfu] at HFU;have hF2:Hid (R.met s=none):=Qh (by rw[hF.out,hh,hfu];try rfl);clear h ok hF hh hown hv hfu;go_enter Tryz.func208,Tryz.ntmps208;go_wp2_with fail
   refine HCO.out.mono ?_;rintro e w' ⟨rfl,rfl⟩;go_wp2_with fail
   refine HFU.out.mono ?_;rintro e w2 ⟨rfl,hk2⟩;go_wp2_with fail
   go_ret;refine⟨3,rfl,Yj hk2,hk2.weak,?_⟩;rw[hF2.out];exact(by decide:(3:Int)≠0)
  |false=>
   rw[hfu] at HFU;have hF2:Hid (R.met s=some {R with lits:=R.lits++[s]}):=Qh (by rw[hF.out,hh,hfu];try rfl);have hf40:R.cls.length+R.lits.length<40:=by
    unfold RS.full at hfu;simp at hfu;omega
   obtain⟨ie,hi,hz0,hz1,hz2⟩:=info_parts info_str;have HIE:=Qh (And.intro hi (And.intro hz0 (And.intro hz1 hz2)));clear h ok hF hh hown hv hfu hi hz0 hz1 hz2;go_enter Tryz.func208,Tryz.ntmps208;go_wp2_with fail
   refine HCO.out.mono ?_;rintro e w' ⟨rfl,rfl⟩;go_wp2_with fail
   refine HFU.out.mono ?_;rintro e w2 ⟨rfl,hk2⟩;have p0:=Qc hk2 q0;have hkl:Kn w2 (w2.alloc (.cells #[.string s] TS)):=(Qb _ _).alloc _;have HO2:=Qh (ownT_k (QC (QC HOW.out hk2 (fun _ _ x=>x)) hkl (fun _ _ x=>x)));have HR2:=Qh ((H.out.kn hk2).kn hkl);have HBL:Hid ((w2.alloc (.cells #[.string s] TS)).heap[w2.heap.size]? =some (.cells #[.string s] TS (0,0))):=Qh (Qf _ _);clear q0;go_wp2_with (first|(at_builtin;go_must (refine QA _ rfl (.tmp 19) (.tmp 21) 128 rfl B TS ie (.string ByteArray.empty) 1 16 Tryz.underlying128 HIE.out.1 HIE.out.2.1 HIE.out.2.2.1 HIE.out.2.2.2 (by rfl) (by decide) (.slice oa R.lits.length oc) (R.lits.map (fun s=>[Value.string s])) rfl HO2.out w2.heap.size 1 rfl #[.string s] TS (0,0) HBL.out rfl (by simp[Value.oneCell']) (by rw[List.length_map];simp only[maxLen];omega) (by rw[List.length_map];omega) (by have h1:=HR2.out.pB.1;have h2:=HR2.out.lt;rw[size_alloc'] at h2⊢;omega) ?_;intro v1 w3 hown hka hat;obtain⟨av1,cv1,hv1,_⟩:=hown.row (k:=1) (fun D hD=>by simp only[List.mem_append,List.mem_map,List.mem_singleton] at hD;rcases hD with⟨y,_,rfl⟩|rfl<;>rfl);obtain⟨nl1,hv1⟩:∃n,v1= .slice av1 n cv1:=⟨_,hv1⟩;subst hv1;have RHP:=Qh (HR2.out.putLit (ownT_of hown) (by rw[HV.out];exact hka) (fun g hg e=>by rcases hat with h1|h1<;>rw[h1] at hg;exact HR2.out.ne2 g (by rw[HV.out];exact hg) e;injection hg with hg;have h3:=(HR2.out.sorts.lt _ e).2;rw[size_alloc'] at h3 hg;omega));have hke:Kp (fun k=>B≤k) (w2.alloc (.cells #[.string s] TS)) w3:=hka.mono (fun i hi e=>(HO2.out.lt i e.symm).1);have hks:KS (w2.alloc (.cells #[.string s] TS)) w3:=hka.mono (fun i hi e=>by obtain⟨cur,h1⟩:=QH HO2.out e.symm;exact⟨_,_,_,h1,.inl rfl⟩);have hpb:w3.heap[p]? =some (.cells (rdC A) TGr (0,0)):=Qw HR2.out.blk hka (QL HO2.out) (by decide);have hP:w3.cell? ⟨p,0,none⟩=some (.slice oa R.lits.length oc):=(by rw[Qa hpb];exact congrArg some HV.out);have hPf:=Qd hpb 0;have HPB:=Qh hpb;clear hpb hown hka hat)))
   go_ret;refine⟨0,rfl,(((Yj hk2).trans (Yj hkl)).trans hke).trans ((Qg (p:=p) (o:=0) w3 _).mono (fun i hi e=>by have:=RHP.out.pB.1;omega)),KS.trans (KS.trans (KS.trans hk2.weak hkl.weak) hks) ((Qg (p:=p) (o:=0) w3 _).mono (fun i hi e=>by subst e;exact⟨_,_,_,HPB.out,.inr rfl⟩)),?_⟩;rw[hF2.out];have RHQ:=RHP.out;rw[show(List.map (fun s=>[Value.string s]) R.lits++[[Value.string s]]).length=R.lits.length+1 by simp] at RHQ;refine⟨rfl,⟨by simp;omega,HOK.out.cls,HOK.out.sorts,HOK.out.lines,fun y hy=> ?_,HOK.out.clz,HOK.out.words⟩,_,RHQ⟩;rcases List.mem_append.1 hy with h1|h1
   ·exact HOK.out.litz y h1
   ·simp at h1;subst h1;exact hs
theorem info_ln:(Tryz.prog.info? TLn).map (fun i=>(i.zero,i.size,i.bytes))=some (some (.agg #[.int .i64 0,.string ByteArray.empty,.string ByteArray.empty,.int .i64 0,.slice none 0 0,.bool false]),6,80):=by kernel_rfl
theorem mets_step{R R0:RS}{ws:List GW}{k:Nat}(h:R.mets (ws.drop k)=R0.mets ws)(hk:k<ws.length):
  R0.mets ws=if ws[k].lit.size=0 then R.mets (ws.drop (k+1)) else match R.met ws[k].lit with|some R1=>R1.mets (ws.drop (k+1))|none=>none:=by
 rw[←h,List.drop_eq_getElem_cons hk];try rfl
theorem mets_end{R R0:RS}{ws:List GW}(h:R.mets (ws.drop ws.length)=R0.mets ws):R0.mets ws=some R:=by
 rw[←h,List.drop_length];try rfl
theorem met_lines{R R':RS}{s:ByteArray}(h:R.met s=some R'):R'.lines=R.lines:=by
 unfold RS.met at h;split at h
 ·injection h with h;subst h;rfl
 ·split at h
  ·cases h
  ·injection h with h;subst h;rfl
abbrev lnV(x:GL)(v:Value):Value:= .agg #[.int .i64 x.number,.string x.sort,.string x.cons,.int .i64 x.level,v,.bool x.round]
theorem words_cells{w:World}{B:Nat}{v:Value}{ws:List GW}(h:OwnK w B TWd 4 v (ws.map wdL)):∃a c,v= .slice a ws.length c∧∀i (hi:i<ws.length),∃g,a=some ⟨g,0,none⟩∧
  w.cell? ⟨g,i*4,none⟩=some (.string ws[i].lit)∧w.cell? ⟨g,i*4+1,none⟩=some (.string ws[i].name)∧w.cell? ⟨g,i*4+2,none⟩=some (.int .i64 ws[i].level)∧w.cell? ⟨g,i*4+3,none⟩=some (.bool ws[i].sort):=by
 obtain⟨a,c,hv,_,_,h1⟩:=h.row (fun C hC=>by obtain⟨x,_,rfl⟩:=List.mem_map.1 hC;rfl);rw[List.length_map] at hv;refine⟨a,c,hv,fun i hi=> ?_⟩;obtain⟨g,ha,_,_,h2⟩:=h1 (fun e=>by rw[List.map_eq_nil_iff] at e;subst e;simp at hi);have h3:=h2 i (by simpa using hi);refine⟨g,ha,?_,?_,?_,?_⟩
 ·have:=(h3 0 (by omega)).1;rw[show 0+4*i+0=i*4 by omega] at this;rw[this];simp[wdL]
 ·have:=(h3 1 (by omega)).1;rw[show 0+4*i+1=i*4+1 by omega] at this;rw[this];simp[wdL]
 ·have:=(h3 2 (by omega)).1;rw[show 0+4*i+2=i*4+2 by omega] at this;rw[this];simp[wdL]
 ·have:=(h3 3 (by omega)).1;rw[show 0+4*i+3=i*4+3 by omega] at this;rw[this];simp[wdL]
theorem gadd_c{B p cw:Nat}{aw:Option Addr}{R:RS}{A:RA}{w:World}(x:GL)(h:RdAt w B p R A)(ok:RSok R)(hw:OwnK w B TWd 4 (.slice aw x.words.length cw) (x.words.map wdL))(hx:x.words.length≤20∧x.number≤2000000∧x.level≤9)(hz:∀y∈x.words,y.lit.size≤20):
  Calls Tryz.prog 157 #[ptr p,lnV x (.slice aw x.words.length cw)] w (ErrPost B p A (R.add x) w):=by
 have hF:Hid (R.add x=if 120≤R.lines.length then none else match R.mets x.words with|some R1=>some {R1 with lines:=R1.lines++[x]} |none=>none):=Qh rfl;obtain⟨_,_,_,_,_,_,_,_,_,q9⟩:=h.cells;obtain⟨oa,oc,hv,_⟩:=h.lines.row (fun C hC=>by obtain⟨i,hi,rfl⟩:=List.getElem_of_mem hC;simp[lnL]);rw[List.length_zipWith,h.wl,Nat.min_self] at hv;rw[hv] at q9;have hll:=ok.lines;have hpl:=h.lt;have HX:=Qh hx;have HZ:=Qh hz;by_cases h120:120≤R.lines.length
 ·have i1:(120:Int)≤R.lines.length:=by omega
  have hF2:Hid (R.add x=none):=Qh (by rw[hF.out,if_pos h120]);clear h ok hw hF h120 hv;go_enter Tryz.func157,Tryz.ntmps157;go_wp2_with fail
  go_ret;refine⟨3,rfl,(Qb _ _).alloc _,?_⟩;rw[hF2.out];exact(by decide:(3:Int)≠0)
 ·have i1:¬(120:Int)≤R.lines.length:=by omega
  have hF2:Hid (R.add x=match R.mets x.words with|some R1=>some {R1 with lines:=R1.lines++[x]} |none=>none):=Qh (by rw[hF.out,if_neg h120]);obtain⟨ie,hi,hz0,hz1,hz2⟩:=info_parts info_ln;have HIE:=Qh (And.intro hi (And.intro hz0 (And.intro hz1 hz2)));have H0:=Qh h;have HOK:=Qh ok;have HW:=Qh hw;obtain⟨bx,hbx⟩:∃z,z=w.heap.size:=⟨_,rfl⟩;obtain⟨w1,hw1⟩:∃z,z=w.alloc (.cells #[.int .i64 x.number,.string x.sort,.string x.cons,.int .i64 x.level,.slice aw x.words.length cw,.bool x.round] TLn):=⟨_,rfl⟩;have hk1:Kn w w1:=by rw[hw1];exact(Qb _ _).alloc _
  have hbb:w1.heap[bx]? =some (.cells #[.int .i64 x.number,.string x.sort,.string x.cons,.int .i64 x.level,.slice aw x.words.length cw,.bool x.round] TLn (0,0)):=by rw[hw1,hbx];exact Qf _ _
  have HBB:=Qh hbb;have p9:=Qc hk1 q9;have p4:w1.cell? ⟨bx,4,none⟩=some (.slice aw x.words.length cw):=by rw[Qa hbb];try rfl
  have HR1:=Qh (h.kn hk1);have HW1:=Qh (hw.kn hk1);have HNB:Hid (∀g,A.vn.ownBlock=some g→g≠bx):=Qh (fun g hg=>by rw[hbx];exact Nat.ne_of_lt (h.lines.lt g hg).2);have HNP:Hid (bx≠p):=Qh (fun e=>by have:=h.lt;omega);have hwl:=hx.1;have HE1:=Qh (And.intro hw1 hbx);clear h ok hw hF h120 hv hi hz0 hz1 hz2 hbb q9 hx hz hw1 hbx;go_enter Tryz.func157,Tryz.ntmps157;go_upto_region 1 with fail
  rw[←HE1.out.1,←HE1.out.2];go_wp2_with fail
  go_loopw [17] (fun s17 wr=>∃(k:Nat) (R1:RS) (v1:Value),s17= .int .i64 k∧k≤x.words.length∧Hid (R1.mets (x.words.drop k)=R.mets x.words)∧Hid (RdAt wr B p R1 {A with vl:=v1})∧Hid (RSok R1)∧Hid (R1.lines.length=R.lines.length)∧Hid (KS w1 wr)∧Hid (Kp (fun i=>B≤i) w wr)) (fun s17 _=>x.words.length-(intOf s17).toNat)
  case atStart=>exact⟨0,R,A.vl,rfl,Nat.zero_le _,Qh rfl,HR1,HOK,Qh rfl,Qh (Qb _ _),Qh (Yj hk1)⟩
  case round=>
   obtain⟨k,R1,v1,rfl,hk,hme,hr1,hok1,hln,hks,hkw⟩:=hrel;by_cases hlt:k<x.words.length
   ·obtain⟨a2,c2,hve,hcs⟩:=words_cells (KS.row hks.out HW1.out (by decide) (by decide));injection hve with e1 e2 e3;subst e1;subst e3;clear e2;obtain⟨g,rfl,c0,c1,c2',c3⟩:=hcs k hlt;have hst:=mets_step hme.out hlt;have hlz:=HZ.out _ (List.getElem_mem hlt);obtain⟨y,hy⟩:∃y,y=x.words[k]:=⟨_,rfl⟩;rw[←hy] at c0 c1 c2' c3 hst hlz;have HST:=Qh hst;clear hy hst hcs;by_cases h0:y.lit.size=0
    ·have he:=isE_true h0;have HS2:Hid (R1.mets (x.words.drop (k+1))=R.mets x.words):=Qh (by rw[HST.out,if_pos h0]);clear h0 HST;go_wp2_with fail
     have hka:Kn wr (wr.alloc (.cells #[.string y.lit,.string y.name,.int .i64 y.level,.bool y.sort] TWd)):=(Qb _ _).alloc _;have HR2:=Qh (hr1.out.kn hka);have HK2:=Qh (KS.trans hks.out hka.weak);have HKW2:=Qh (hkw.out.trans (Yj hka));go_roundw
     case rel=>exact⟨k+1,R1,v1,by go_num,by omega,HS2,HR2,hok1,hln,HK2,HKW2⟩
     case measure=>simp[intOf];omega
    ·have he:=Yx h0;have HS2:Hid (R.mets x.words=match R1.met y.lit with|some R2=>R2.mets (x.words.drop (k+1))|none=>none):=Qh (by rw[HST.out,if_neg h0]);have hka:Kn wr (wr.alloc (.cells #[.string y.lit,.string y.name,.int .i64 y.level,.bool y.sort] TWd)):=(Qb _ _).alloc _;have HMT:=Qh (met_c y.lit (hr1.out.kn hka) hok1.out hlz);have HK2:=Qh (KS.trans hks.out hka.weak);have HKW2:=Qh (hkw.out.trans (Yj hka));clear h0 HST hka;go_wp2_with fail
     refine HMT.out.mono ?_;rintro e w3 ⟨n,rfl,hkb,hks3,hp⟩;have HK3:=Qh (KS.trans HK2.out hks3);have HKW3:=Qh (HKW2.out.trans hkb);cases hm:R1.met y.lit with
     |none=>
      rw[hm] at hp;dsimp only at hp;have hn2:(n==0)=false:=by rw[beq_eq_false_iff_ne];exact hp
      have hF3:Hid (R.add x=none):=Qh (by rw[hF2.out,HS2.out,hm]);have HN0:=Qh hp;clear hm hp;go_wp2_with fail
      go_ret;refine⟨n,rfl,HKW3.out,?_⟩;rw[hF3.out];exact HN0.out
     |some R2=>
      rw[hm] at hp;dsimp only at hp;obtain⟨rfl,hok2,v2,hr2⟩:=hp;have HS3:Hid (R2.mets (x.words.drop (k+1))=R.mets x.words):=Qh (by rw[HS2.out,hm]);have hln2:Hid (R2.lines.length=R.lines.length):=Qh (by rw[met_lines hm];exact hln.out);have HR3:=Qh hr2;have HOK3:=Qh hok2;clear hm hr2 hok2;go_wp2_with fail
      go_roundw
      case rel=>exact⟨k+1,R2,v2,by go_num,by omega,HS3,HR3,HOK3,hln2,HK3,HKW3⟩
      case measure=>simp[intOf];omega
   ·obtain rfl:k=x.words.length:=by omega
    have hF3:Hid (R.add x=some {R1 with lines:=R1.lines++[x]}):=Qh (by rw[hF2.out,mets_end hme.out]);obtain⟨A1,hA1⟩:∃A1:RA,A1= {A with vl:=v1} :=⟨_,rfl⟩;have hvn:A1.vn=A.vn:=by rw[hA1]
    have hvr1:Hid (A1.vr=A.vr):=Qh (by rw[hA1]);have hsc1:Hid (A1.sc=A.sc):=Qh (by rw[hA1]);rw[←hA1] at hr1;obtain⟨ob,oc2,hv2,_⟩:=hr1.out.lines.row (fun C hC=>by obtain⟨i,hi,rfl⟩:=List.getElem_of_mem hC;simp[lnL]);rw[List.length_zipWith,hr1.out.wl,Nat.min_self] at hv2;have HV:=Qh hv2;have hbb:=KS.blk' hks.out HBB.out (by decide) (by decide);have d0:wr.cell? ⟨bx,0,none⟩=some (.int .i64 x.number):=by rw[Qa hbb];try rfl
    have d1:wr.cell? ⟨bx,1,none⟩=some (.string x.sort):=by rw[Qa hbb];try rfl
    have d2:wr.cell? ⟨bx,2,none⟩=some (.string x.cons):=by rw[Qa hbb];try rfl
    have d3:wr.cell? ⟨bx,3,none⟩=some (.int .i64 x.level):=by rw[Qa hbb];try rfl
    have d4:wr.cell? ⟨bx,4,none⟩=some (.slice aw x.words.length cw):=by rw[Qa hbb];try rfl
    have d5:wr.cell? ⟨bx,5,none⟩=some (.bool x.round):=by rw[Qa hbb];try rfl
    have HNB2:Hid (∀g,A1.vn.ownBlock=some g→g≠bx):=Qh (by rw[hvn];exact HNB.out);have HWR:=Qh (KS.row hks.out HW1.out (by decide) (by decide));have hl120:R1.lines.length<120:=by have:=hln.out;omega
    have KW:=hkw.out;clear hA1 hvn hv2 hbb hme hks;go_wp2_with fail
    refine rgn (fun w'=>w'.cell? ⟨p,9,none⟩=some (.slice ob R1.lines.length oc2)∧w'.cell? ⟨bx,0,none⟩=some (.int .i64 x.number)∧w'.cell? ⟨bx,1,none⟩=some (.string x.sort)∧w'.cell? ⟨bx,2,none⟩=some (.string x.cons)∧w'.cell? ⟨bx,3,none⟩=some (.int .i64 x.level)∧w'.cell? ⟨bx,4,none⟩=some (.slice aw x.words.length cw)∧w'.cell? ⟨bx,5,none⟩=some (.bool x.round)) (X:=[]) ⟨Qc ((Qb _ _).drew) ((Qa hr1.out.blk 9).trans (congrArg some HV.out)),Qc ((Qb _ _).drew) d0,Qc ((Qb _ _).drew) d1,Qc ((Qb _ _).drew) d2,Qc ((Qb _ _).drew) d3,Qc ((Qb _ _).drew) d4,Qc ((Qb _ _).drew) d5⟩ (fun hX hHeld=> ?_);refine tw 0 32 ?_;refine tw 1 33 ?_;refine tw 2 34 ?_;refine tw 3 35 ?_;refine tk 4 36 ?_;refine tk 5 37 ?_;refine ro 6 (fun K hK=> ?_);obtain⟨wd,hwd⟩:∃zz,zz=wr.drew:=⟨_,rfl⟩;have KN0:Kn wr wd:=by rw[hwd];exact(Qb _ _).drew
    have KW0:=KW.trans (Kp.weak (S:=fun k=>B≤k) KN0);have RH0:=Qh (hr1.out.kn KN0);rw[←hwd] at hHeld⊢;clear hwd;go_simp;obtain⟨y1,hw1⟩:∃zz,zz=wd.alloc (.cells #[.int .i64 x.number,.string x.sort,.string x.cons,.int .i64 x.level,.slice aw x.words.length cw,.bool x.round] TLn):=⟨_,rfl⟩;have hk1:Kn wd y1:=by rw[hw1];exact(Qb _ _).alloc _
    obtain⟨ge,hge⟩:∃zz,zz=wd.heap.size:=⟨_,rfl⟩;have GE:y1.heap[ge]? =some (.cells #[.int .i64 x.number,.string x.sort,.string x.cons,.int .i64 x.level,.slice aw x.words.length cw,.bool x.round] TLn (0,0)):=by rw[hw1,hge];exact Qf _ _
    have RH1:=Qh (RH0.out.kn hk1);have KW1:=KW0.trans (Kp.weak hk1);have KN1:=KN0.trans hk1;rw[←hw1,←hge];refine hK.out _ _ (⟨Qc hk1 hHeld.1,Qc hk1 hHeld.2.1,Qc hk1 hHeld.2.2.1,Qc hk1 hHeld.2.2.2.1,Qc hk1 hHeld.2.2.2.2.1,Qc hk1 hHeld.2.2.2.2.2.1,Qc hk1 hHeld.2.2.2.2.2.2⟩) (fun hHeld=> ?_);clear hw1 hge hk1;clear hK K
    try simp only[PP]
    refine ro 7 (fun K hK=> ?_);have hownO:OwnK y1 B TLn 6 (.slice ob R1.lines.length oc2) (List.zipWith lnL R1.lines A1.vws):=by have h1:=RH1.out.lines;rw[HV.out] at h1;exact h1
    refine Qq y1 (by rfl) _ _ 132 (by rfl) B TLn ie (.agg #[.int .i64 0,.string ByteArray.empty,.string ByteArray.empty,.int .i64 0,.slice none 0 0,.bool false]) 6 80 Tryz.underlying132 HIE.out.1 HIE.out.2.1 HIE.out.2.2.1 HIE.out.2.2.2 (by rfl) (by decide) (.slice ob R1.lines.length oc2) (List.zipWith lnL R1.lines A1.vws) (by rfl) hownO ge 1 (by rfl) #[.int .i64 x.number,.string x.sort,.string x.cons,.int .i64 x.level,.slice aw x.words.length cw,.bool x.round] TLn (0,0) GE (by rfl) (by simp[Value.oneCell']) (by rw[List.length_zipWith,RH1.out.wl,Nat.min_self];simp only[maxLen];omega) (by rw[List.length_zipWith,RH1.out.wl,Nat.min_self];omega) (by have:=RH1.out.pB.1;have:=RH1.out.lt;omega) ?_;intro v1 y2 hown hka hat;have hke:Kp (fun k=>B≤k) y1 y2:=hka.mono (fun i hi e=>(hownO.lt i e.symm).1);have KX:=KW1.trans hke;obtain⟨av1,cv1,hv1,_⟩:=hown.row (k:=6) (fun D hD=>by simp only[List.mem_append,List.mem_map,List.mem_singleton] at hD;(first|(rcases hD with⟨y,_,rfl⟩|rfl<;>rfl)|(exact(by rcases hD with hD|rfl;obtain⟨i,hi,rfl⟩:=List.getElem_of_mem hD;simp[lnL];rfl))))
    obtain⟨nl1,hv1⟩:∃n,v1= .slice av1 n cv1:=⟨_,hv1⟩;have HV1:=Qh hv1;have HWD:=QC HWR.out KN1 (fun _ _ x=>x);have RHP:=Qh (RH1.out.putLine (x:=x) HWD hown (by rw[HV.out];exact hka));have hpb:y2.heap[p]? =some (.cells (rdC A1) TGr (0,0)):=Qw RH1.out.blk hka (QL hownO) (by decide);have xp1:=Qd hpb 9;have xq1:y2.cell? ⟨p,9,none⟩=some (.slice ob R1.lines.length oc2):=by rw[Qa hpb];exact congrArg some HV.out
    refine hK.out _ _ (⟨xq1,Qi hka hHeld.2.1 (fun e=>HNB2.out bx (by rw[HV.out];exact e.symm) rfl),Qi hka hHeld.2.2.1 (fun e=>HNB2.out bx (by rw[HV.out];exact e.symm) rfl),Qi hka hHeld.2.2.2.1 (fun e=>HNB2.out bx (by rw[HV.out];exact e.symm) rfl),Qi hka hHeld.2.2.2.2.1 (fun e=>HNB2.out bx (by rw[HV.out];exact e.symm) rfl),Qi hka hHeld.2.2.2.2.2.1 (fun e=>HNB2.out bx (by rw[HV.out];exact e.symm) rfl),Qi hka hHeld.2.2.2.2.2.2 (fun e=>HNB2.out bx (by rw[HV.out];exact e.symm) rfl)⟩) (fun hHeld=> ?_);clear hown hka hat hv1 hke hownO;clear hK K
    try simp only[PP]
    refine tw 8 40 ?_;refine tw 9 41 ?_;refine re 10 (fun K hK=> ?_);rw[HV1.out];go_simp;rw[←HV1.out];obtain⟨w9,hw9⟩:∃zz,zz=y2.setCell ⟨p,9,none⟩ v1:=⟨_,rfl⟩;have hk9:K1 p y2 w9:=by rw[hw9];exact Qg _ _
    rw[←hw9] at RHP⊢;have KX9:=KX.trans (hk9.mono (fun i hi e=>by have:=RHP.out.pB.1;omega));clear xp1 xq1 hpb hw9 hk9 KX hHeld;refine hK.out _ _ ?_;clear hK K;go_wp2_with fail
    go_ret;refine⟨0,rfl,KX9,?_⟩;rw[hF3.out];refine⟨rfl,⟨hok1.out.lits,hok1.out.cls,hok1.out.sorts,by simp;omega,hok1.out.litz,hok1.out.clz,fun y hy=> ?_⟩,_,RHP.out,hvr1.out,hsc1.out⟩;rcases List.mem_append.1 hy with hy|hy
    ·exact hok1.out.words y hy
    ·simp at hy;subst hy;exact HX.out
def litN(ws:List GW)(k:Nat):Nat:=(ws.take k).countP (fun x=>decide (x.lit.size=0))
def sortN(ws:List GW)(k:Nat):Nat:=(ws.take k).countP (fun x=>x.sort)
theorem litN_succ{ws:List GW}{k:Nat}(h:k<ws.length):litN ws (k+1)=litN ws k+if ws[k].lit.size=0 then 1 else 0:=by
 unfold litN;rw[List.take_succ_eq_append_getElem h,List.countP_append,List.countP_singleton];simp
theorem sortN_succ{ws:List GW}{k:Nat}(h:k<ws.length):sortN ws (k+1)=sortN ws k+if ws[k].sort=true then 1 else 0:=by
 unfold sortN;rw[List.take_succ_eq_append_getElem h,List.countP_append,List.countP_singleton]
theorem litN_le(ws:List GW)(k:Nat):litN ws k≤k:=Nat.le_trans List.countP_le_length (by simp;omega)
theorem sortN_le(ws:List GW)(k:Nat):sortN ws k≤k:=Nat.le_trans List.countP_le_length (by simp;omega)
theorem alone_c{B cw:Nat}{aw:Option Addr}{w:World}(ws:List GW)(hw:OwnK w B TWd 4 (.slice aw ws.length cw) (ws.map wdL))(hl:ws.length≤1000):
  Calls Tryz.prog 156 #[.slice aw ws.length cw] w fun e w'=>e= .returned (.bool (aloneF ws))∧Kn w w':=by
 have HW:=Qh hw;have hF:Hid (aloneF ws=(decide (litN ws ws.length=1)&&decide (sortN ws ws.length=1))):=Qh (by unfold aloneF litN sortN;rw[List.take_length]);clear hw;go_enter Tryz.func156,Tryz.ntmps156;go_wp2_with fail
 go_loopw [3,4,9] (fun s3 s4 s9 wr=>∃k:Nat,s9= .int .i64 k∧s3= .int .i64 (litN ws k)∧s4= .int .i64 (sortN ws k)∧k≤ws.length∧Kn w wr) (fun _ _ s9 _=>ws.length-(intOf s9).toNat)
 case atStart=>exact⟨0,rfl,rfl,rfl,Nat.zero_le _,Qb _ _⟩
 case round=>
  obtain⟨k,rfl,rfl,rfl,hk,hkn⟩:=hrel;by_cases hlt:k<ws.length
  ·obtain⟨a2,c2,hve,hcs⟩:=words_cells (HW.out.kn hkn);injection hve with e1 e2 e3;subst e1;subst e3;clear e2;obtain⟨g,rfl,c0,c1,c2',c3⟩:=hcs k hlt;have HLS:=Qh (litN_succ hlt);have HSS:=Qh (sortN_succ hlt);have hl1:=litN_le ws k;have hs1:=sortN_le ws k;obtain⟨y,hy⟩:∃y,y=ws[k]:=⟨_,rfl⟩;rw[←hy] at c0 c1 c2' c3 HLS HSS;obtain⟨n1,hn1⟩:∃z,z=litN ws k:=⟨_,rfl⟩;obtain⟨n2,hn2⟩:∃z,z=sortN ws k:=⟨_,rfl⟩;rw[←hn1] at HLS hl1⊢;rw[←hn2] at HSS hs1⊢;have hka:Kn w (wr.alloc (.cells #[.string y.lit,.string y.name,.int .i64 y.level,.bool y.sort] TWd)):=hkn.alloc _;have HKA:=Qh hka;clear hy hcs hn1 hn2 hka;by_cases h0:y.lit.size=0
   ·have he:=isE_true h0;have HL2:Hid (litN ws (k+1)=n1+1):=Qh (by rw[HLS.out,if_pos h0]);clear h0;cases hso:y.sort with
    |true=>
     rw[hso] at c3;have HS2:Hid (sortN ws (k+1)=n2+1):=Qh (by rw[HSS.out,if_pos hso]);rw[hso] at HKA;clear hso;go_wp2_with fail
     go_roundw
     case rel=>exact⟨k+1,by go_num,by rw[HL2.out];go_num,by rw[HS2.out];go_num,by omega,HKA.out⟩
     case measure=>simp[intOf];omega
    |false=>
     rw[hso] at c3;have HS2:Hid (sortN ws (k+1)=n2):=Qh (by rw[HSS.out,if_neg (by rw[hso];simp)];rfl);rw[hso] at HKA;clear hso;go_wp2_with fail
     go_roundw
     case rel=>exact⟨k+1,by go_num,by rw[HL2.out];go_num,by rw[HS2.out],by omega,HKA.out⟩
     case measure=>simp[intOf];omega
   ·have he:=Yx h0;have HL2:Hid (litN ws (k+1)=n1):=Qh (by rw[HLS.out,if_neg h0];try rfl);clear h0;cases hso:y.sort with
    |true=>
     rw[hso] at c3;have HS2:Hid (sortN ws (k+1)=n2+1):=Qh (by rw[HSS.out,if_pos hso]);rw[hso] at HKA;clear hso;go_wp2_with fail
     go_roundw
     case rel=>exact⟨k+1,by go_num,by rw[HL2.out],by rw[HS2.out];go_num,by omega,HKA.out⟩
     case measure=>simp[intOf];omega
    |false=>
     rw[hso] at c3;have HS2:Hid (sortN ws (k+1)=n2):=Qh (by rw[HSS.out,if_neg (by rw[hso];simp)];rfl);rw[hso] at HKA;clear hso;go_wp2_with fail
     go_roundw
     case rel=>exact⟨k+1,by go_num,by rw[HL2.out],by rw[HS2.out],by omega,HKA.out⟩
     case measure=>simp[intOf];omega
  ·obtain rfl:k=ws.length:=by omega
   obtain⟨n1,hn1⟩:∃z,z=litN ws ws.length:=⟨_,rfl⟩;obtain⟨n2,hn2⟩:∃z,z=sortN ws ws.length:=⟨_,rfl⟩;rw[←hn1,←hn2] at hF;rw[←hn1,←hn2];clear hn1 hn2;by_cases h1:n1=1
   ·have i1:((n1:Int)==1)=true:=by simp[h1]
    have HF2:Hid (aloneF ws=((n2:Int)==1)):=Qh (by rw[hF.out];simp[h1];rw[Bool.eq_iff_iff];simp;omega);clear h1;go_wp2_with fail
    go_ret;exact⟨by rw[HF2.out];try rfl,hkn⟩
   ·have i1:((n1:Int)==1)=false:=by rw[beq_eq_false_iff_ne];omega
    have HF2:Hid (aloneF ws=false):=Qh (by rw[hF.out];simp[h1]);clear h1;go_wp2_with fail
    go_ret;exact⟨by rw[HF2.out];try rfl,hkn⟩
theorem info_wd:(Tryz.prog.info? TWd).map (fun i=>(i.zero,i.size,i.bytes))=some (some (.agg #[.string ByteArray.empty,.string ByteArray.empty,.int .i64 0,.bool false]),4,48):=by kernel_rfl
theorem blOk_le{s:ByteArray}(h:blOk s=true):s.size≤20∧¬s.size=0:=by
 unfold blOk at h;simp only[Bool.and_eq_true,decide_eq_true_eq] at h;exact⟨h.2.2,h.2.1⟩
theorem partsF_step{ps:List ByteArray}{ws:List GW}{k:Nat}(h:Yb ps=match Yb (ps.drop k) with|some r=>some (ws++r)|none=>none)(hk:k<ps.length):
  Yb ps=match partF ps[k] with|some x=>(match Yb (ps.drop (k+1)) with|some r=>some ((ws++[x])++r)|none=>none)|none=>none:=by
 rw[h,List.drop_eq_getElem_cons hk,Yb];cases partF ps[k] with
 |none=>rfl
 |some x=>
  dsimp only;cases Yb (ps.drop (k+1)) with
  |none=>rfl
  |some r=>simp
theorem partsF_end{ps:List ByteArray}{ws:List GW}(h:Yb ps=match Yb (ps.drop ps.length) with|some r=>some (ws++r)|none=>none):Yb ps=some ws:=by
 rw[h,List.drop_length];simp[Yb]
theorem partF_lit{s:ByteArray}{x:GW}(h:partF s=some x):x.lit.size≤20:=by
 unfold partF at h;split at h
 ·split at h
  ·cases h
  ·injection h with h;subst h;show(litF s).size≤20;unfold litF;split
   ·rename_i h2;exact h2.2
   ·decide
 ·split at h
  ·split at h
   ·split at h
    ·injection h with h;subst h;exact(by decide:emptyB.size≤20)
    ·cases h
   ·cases h
  ·split at h
   ·injection h with h;subst h;exact(by decide:emptyB.size≤20)
   ·cases h
theorem RS.rule_short(R:RS)(n:Nat)(l:List ByteArray)(h:l.length<4):R.rule n l=none:=by
 rcases l with _|⟨a,_|⟨b,_|⟨c,_|⟨d,l⟩⟩⟩⟩
 ·rfl
 ·rfl
 ·rfl
 ·rfl
 ·simp at h;omega
theorem RS.rule_eq(R:RS)(n:Nat)(so lv c e:ByteArray)(ps:List ByteArray):R.rule n (so::lv::c::e::ps)=if 12<ps.length∨e≠eqB∨gnOk so=false then none else
  match digF lv with
  |none=>none
  |some lv=>
   if c≠YQ∧blOk c=false then none else
   match Yb ps with
   |none=>none
   |some ws=>if c=YQ then(if aloneF ws=true then R.ruleEnd n so emptyB lv ws else none) else R.ruleEnd n so c lv ws:=rfl
theorem YB(a:ByteArray)(l:List UInt8):(a.toList==l)=decide (a=⟨l.toArray⟩):=by
 rw[Lib.toList_data];by_cases h:a=⟨l.toArray⟩
 ·subst h;simp
 ·rw[decide_eq_false h,beq_eq_false_iff_ne];intro e;exact h (by
   cases a with|mk a=>simp only at e;subst e;rfl)
theorem grule_c{B p bl c0 num:Nat}{R:RS}{A:RA}{w:World}(l:List ByteArray)(h:RdAt w B p R A)(ok:RSok R)(hm:MaxLenAt w)(hl:WL w bl 1 l)(ho:Off A p bl)(hll:l.length≤2000000)(hcap:l.length≤c0)(hsz:∀s∈l,s.size≤1000000)(hnum:num≤2000000):
  Calls Tryz.prog 109 #[ptr p,.int .i64 num,.slice (some ⟨bl,1,none⟩) l.length c0] w (ErrPost B p A (R.rule num l) w):=by
 by_cases h4:l.length<4
 ·have i4:(l.length:Int)<4:=by omega
  have hF:Hid (R.rule num l=none):=Qh (R.rule_short num l h4);clear h4;go_enter Tryz.func109,Tryz.ntmps109;go_wp2_with fail
  go_ret;refine⟨4,rfl,Qb _ _,?_⟩;rw[hF.out];exact(by decide:(4:Int)≠0)
 ·obtain⟨so,lv,c,e,ps,rfl⟩:∃so lv c e ps,l=so::lv::c::e::ps:=by
   rcases l with _|⟨a,_|⟨b,_|⟨c,_|⟨d,l⟩⟩⟩⟩
   ·simp at h4
   ·simp at h4
   ·simp at h4
   ·simp at h4
   ·exact⟨_,_,_,_,_,rfl⟩
  have hF:Hid (R.rule num (so::lv::c::e::ps)=_):=Qh (R.rule_eq num so lv c e ps);obtain⟨n,hn⟩:∃n,n=(so::lv::c::e::ps).length:=⟨_,rfl⟩;have hnp:n=ps.length+4:=by rw[hn];try rfl
  have x1:w.cell? ⟨bl,1,none⟩=some (.string so):=hl 0 (by simp);have x2:w.cell? ⟨bl,2,none⟩=some (.string lv):=hl 1 (by simp);have x3:w.cell? ⟨bl,3,none⟩=some (.string c):=hl 2 (by simp);have x4:w.cell? ⟨bl,4,none⟩=some (.string e):=hl 3 (by simp);have hps:WL w bl 5 ps:=fun i hi=>by
   have:=hl (i+4) (by simp;omega);rw[show 1+(i+4)=5+i by omega] at this;simpa using this
  rw[←hn] at hll hcap⊢;have z1:=hsz so (by simp);have z2:=hsz lv (by simp);have z3:=hsz c (by simp);have z4:=hsz e (by simp);have HZP:Hid (∀s∈ps,s.size≤1000000):=Qh (fun s hs=>hsz s (by simp[hs]));have HPS:=Qh hps;have HNP:=Qh hnp;have H:=Qh h;have HOK:=Qh ok;have HM:=Qh hm;have HO:=Qh ho;have hpl:=h.lt;have hbl:=World.block_lt_of_cell? w _ x1;have HGN:=Qh (fun W=>gNamed_c so W (by omega));have j4:¬(n:Int)<4:=by omega
  clear h ok hm hl ho hsz hn hps;by_cases h12:12<ps.length
  ·have i12:(12:Int)<(n:Int)-4:=by omega
   have hF2:Hid (R.rule num (so::lv::c::e::ps)=none):=Qh (by rw[hF.out,if_pos (.inl h12)]);clear hF h12 hnp;go_enter Tryz.func109,Tryz.ntmps109;go_wp2_with fail
   go_ret;refine⟨4,rfl,Qb _ _,?_⟩;rw[hF2.out];exact(by decide:(4:Int)≠0)
  ·have i12:¬(12:Int)<(n:Int)-4:=by omega
   have k3:(3:Int)<n:=by omega
   by_cases he:e=eqB
   ·have ie:(e.toList==[61])=true:=by rw[YB];exact decide_eq_true he
    cases hg:gnOk so with
    |false=>
     rw[hg] at HGN;have hF2:Hid (R.rule num (so::lv::c::e::ps)=none):=Qh (by rw[hF.out,if_pos (.inr (.inr hg))]);clear hF h12 hnp he;go_enter Tryz.func109,Tryz.ntmps109;go_wp2_with fail
     refine(HGN.out _).mono ?_;rintro e w' ⟨rfl,rfl⟩;go_wp2_with fail
     go_ret;refine⟨4,rfl,Qb _ _,?_⟩;rw[hF2.out];exact(by decide:(4:Int)≠0)
    |true=>
     rw[hg] at HGN;have hF2:Hid (R.rule num (so::lv::c::e::ps)=match digF lv with
      |none=>none
      |some lv=>if c≠YQ∧blOk c=false then none else
       match Yb ps with
       |none=>none
       |some ws=>if c=YQ then(if aloneF ws=true then R.ruleEnd num so emptyB lv ws else none) else R.ruleEnd num so c lv ws):=Qh (by rw[hF.out,if_neg (by rintro(h1|h1|h1);exact h12 h1;exact h1 he;rw[hg] at h1;cases h1)])
     have HDG:=Qh (fun W=>gdigit_c lv W (by omega));have HH12:=Qh h12;obtain⟨iw,hi,hz0,hz1,hz2⟩:=info_parts info_wd;have HIW:=Qh (And.intro hi (And.intro hz0 (And.intro hz1 hz2)));clear hi hz0 hz1 hz2;have k2:(2:Int)<n:=by omega
     have k1:(1:Int)<n:=by omega
     have k0:(0:Int)<n:=by omega
     have kn0:0<n:=by omega
     clear hF he hnp h12;go_enter Tryz.func109,Tryz.ntmps109;go_wp2_with fail
     refine(HGN.out _).mono ?_;rintro e9 w' ⟨rfl,rfl⟩;go_upto_region 3 with fail
     refine wp_region_held_drew (S:=fun w'=>w'.cell? ⟨bl,1,none⟩=some (.string so)∧w'.cell? ⟨bl,3,none⟩=some (.string c)) (by kernel_rfl) ⟨Qc ((Qb _ _).drew) x1,Qc ((Qb _ _).drew) x3⟩ (fun hHeld=> ?_);have hH0:=hHeld;refine TW 0 36 ?_;refine TW 1 37 ?_;refine TW 2 38 ?_;refine TH 3 39 ?_;refine TW 4 40 ?_;refine TW 5 41 ?_;refine TH 6 42 ?_;refine TW 7 43 ?_;refine RH 8 (fun K hK=> ?_);go_simp;refine hK.out _ _ ⟨Qc ((Qb _ _).alloc _) hHeld.1,Qc ((Qb _ _).alloc _) hHeld.2⟩ (fun hHeld=> ?_);clear hK K
     try simp only[PP]
     refine RH 9 (fun K hK=> ?_);go_simp;refine hK.out _ _ ⟨Qc ((Qb _ _).alloc _) hH0.1,Qc ((Qb _ _).alloc _) hH0.2⟩ (fun hHeld=> ?_);clear hK K
     try simp only[PP]
     refine RD ?_;clear hHeld hH0;obtain⟨w2,hw2⟩:∃z,z=(w.alloc (.cells #[.int .i64 num,.string so,.string c,.int .i64 0,.slice none 0 0,.bool false] TLn)).drew:=⟨_,rfl⟩;have hk2:Kn w w2:=by rw[hw2];exact((Qb _ _).alloc _).drew
     obtain⟨b7,hb7⟩:∃z,z=w.heap.size:=⟨_,rfl⟩;have hbb:w2.heap[b7]? =some (.cells #[.int .i64 num,.string so,.string c,.int .i64 0,.slice none 0 0,.bool false] TLn (0,0)):=by rw[hw2,hb7];exact Qf w _
     rw[←hw2,←hb7];have y2:=Qc hk2 x2;have y3:=Qc hk2 x3;have d3:w2.cell? ⟨b7,3,none⟩=some (.int .i64 0):=by rw[Qa hbb];try rfl
     have f3:=Qd hbb 3;have hbl7:bl<b7:=by omega
     have HBB:=Qh hbb;have hb7w:w.heap.size≤b7:=by omega
     clear hw2 hb7 hbb;cases hd:digF lv with
     |none=>
      have hF3:Hid (R.rule num (so::lv::c::e::ps)=none):=Qh (by rw[hF2.out,hd]);rw[hd] at HDG;clear hF2 hd;go_wp2_with fail
      refine(HDG.out _).mono ?_;rintro e9 w3 ⟨rfl,rfl⟩;unfold digV;go_wp2_with fail
      go_ret;have hk9:K1 b7 w2 (w2.setCell ⟨b7,3,none⟩ (.int .i64 0)):=Qg _ _;refine⟨4,rfl,(Yj hk2).trans (hk9.mono (fun i hi e=>by have:=H.out.pB.1;have:=H.out.lt;omega)),?_⟩;rw[hF3.out];exact(by decide:(4:Int)≠0)
     |some lvl=>
      have hlv9:lvl≤9:=by
       unfold digF at hd;split at hd
       ·injection hd with hd;omega
       ·cases hd
      have hF3:Hid (R.rule num (so::lv::c::e::ps)=if c≠YQ∧blOk c=false then none else
       match Yb ps with
       |none=>none
       |some ws=>if c=YQ then(if aloneF ws=true then R.ruleEnd num so emptyB lvl ws else none) else R.ruleEnd num so c lvl ws):=Qh (by rw[hF2.out,hd])
      rw[hd] at HDG;clear hF2 hd;go_wp2_with fail
      refine(HDG.out _).mono ?_;rintro e9 w3 ⟨rfl,rfl⟩;unfold digV;go_upto_region 6 with fail
      obtain⟨w3,hw3⟩:∃z,z=w2.setCell ⟨b7,3,none⟩ (.int .i64 lvl):=⟨_,rfl⟩;have hbb3:=Qk HBB.out 3 (.int .i64 lvl);rw[←hw3] at hbb3⊢;have hk93:K1 b7 w2 w3:=by rw[hw3];exact Qg _ _
      have hk3:Kn w w3:=hk2.trans' hk93 (fun i hi e=>by omega);have u3:=Qc hk3 x3;have HPS3:=Qh (HPS.out.kn hk3);have HB3:Hid (w3.heap[b7]? =some (.cells #[.int .i64 num,.string so,.string c,.int .i64 lvl,.slice none 0 0,.bool false] TLn (0,0))):=Qh hbb3;clear hw3 hbb3 hk93 y2 y3 d3 f3 HBB hk2;have HBU:=Qh (fun W=>gBuilt_c c W (by omega));go_cut [67] (fun s67 wc=>s67= .bool (decide (c≠YQ∧blOk c=false))∧w3=wc)
      case first=>
       by_cases hc:c=YQ
       ·have ic:(c.toList==[45])=true:=by rw[YB];exact decide_eq_true hc
        have e67:decide (c≠YQ∧blOk c=false)=false:=decide_eq_false (fun h=>h.1 hc);have E67:=Qh e67;clear hc e67 hF3;go_wp2_with fail
        go_meet
        case rel=>exact⟨by rw[E67.out],rfl⟩
       ·have ic:(c.toList==[45])=false:=by rw[YB];exact decide_eq_false hc
        have e67:decide (c≠YQ∧blOk c=false)= !blOk c:=by cases hb:blOk c<;>simp[hc]
        have E67:=Qh e67;clear hc e67 hF3;go_wp2_with fail
        refine(HBU.out _).mono ?_;rintro e9 w4 ⟨rfl,rfl⟩;go_wp2_with fail
        go_meet
        case rel=>exact⟨by rw[E67.out],rfl⟩
      case rest=>
       obtain⟨rfl,rfl⟩:=hcut;clear HBU;by_cases hcb:c≠YQ∧blOk c=false
       ·have hF4:Hid (R.rule num (so::lv::c::e::ps)=none):=Qh (by rw[hF3.out,if_pos hcb]);rw[decide_eq_true hcb];clear hF3 hcb;go_wp2_with fail
        go_ret;refine⟨4,rfl,Yj hk3,?_⟩;rw[hF4.out];exact(by decide:(4:Int)≠0)
       ·rw[decide_eq_false hcb];have hF4:Hid (R.rule num (so::lv::c::e::ps)=match Yb ps with
         |none=>none
         |some ws=>if c=YQ then(if aloneF ws=true then R.ruleEnd num so emptyB lvl ws else none) else R.ruleEnd num so c lvl ws):=Qh (by rw[hF3.out,if_neg hcb])
        have HCB:Hid (¬c=YQ→c.size≤20∧¬c.size=0):=Qh (fun hc=>blOk_le (by cases hb:blOk c with|true=>rfl|false=>exact absurd ⟨hc,hb⟩ hcb));clear hF3 hcb;have hnm:(n:Int)-4=(ps.length:Int):=by have:=HNP.out;omega
        have hnm2:n-4=ps.length:=by have:=HNP.out;omega
        go_upto_region 8 with fail
        go_cut [69,70,71] (fun s69 s70 s71 wc=>∃sa cc,s69= .slice sa ps.length cc∧s70= .int .i64 ps.length∧s71= .int .i64 0∧w3=wc∧Hid (0<ps.length→sa=some ⟨bl,5,none⟩))
        case first=>
         by_cases h40:c0=4
         ·have hp0:ps.length=0:=by have:=HNP.out;omega
          go_wp2_with fail
          go_meet
          case rel=>exact⟨some ⟨bl,1,none⟩,0,by rw[hp0],by rw[hp0];try rfl,rfl,rfl,Qh (fun h=>by omega)⟩
         ·go_wp2_with fail
          go_meet
          case rel=>exact⟨_,_,rfl,rfl,rfl,rfl,Qh (fun _=>rfl)⟩
        case rest=>
         obtain⟨sa,cc,rfl,rfl,rfl,rfl,HSA⟩:=hcut;clear hnm hnm2;go_upto_region 9 with fail
         go_loopw [71] (fun s71 wr=>∃(k:Nat) (ws:List GW) (vw:Value),s71= .int .i64 k∧k≤ps.length∧Hid (Yb ps=match Yb (ps.drop k) with|some r=>some (ws++r)|none=>none)∧Hid (ws.length=k)∧Hid (∀y∈ws,y.lit.size≤20)∧Hid (OwnK wr w.heap.size TWd 4 vw (ws.map wdL))∧Hid (wr.heap[b7]? =some (.cells #[.int .i64 num,.string so,.string c,.int .i64 lvl,vw,.bool false] TLn (0,0)))∧Kn w wr) (fun s71 _=>ps.length-(intOf s71).toNat)
         case atStart=>exact⟨0,[],_,rfl,Nat.zero_le _,Qh (by rw[List.drop_zero];cases Yb ps<;>rfl),Qh rfl,Qh (fun y hy=>by cases hy),Qh OwnK.nil,HB3,hk3⟩
         case round=>
          clear HPS3 HB3 hk3 u3;obtain⟨k,ws,vw,rfl,hk,hpf,hwsl,hlz,hvw,hb7,hkn⟩:=hrel;by_cases hlt:k<ps.length
          ·have hsk:=HZP.out _ (List.getElem_mem hlt);have hck:=(HPS.out.kn hkn) k hlt;have hst:=partsF_step hpf.out hlt;obtain⟨s,hs⟩:∃s,s=ps[k]:=⟨_,rfl⟩;rw[←hs] at hsk hck hst;have HST:=Qh hst;have HPA:=Qh (gpart_c s wr (HM.out.kn hkn) hsk);obtain⟨av,cv,hve,_⟩:=hvw.out.row (fun C hC=>by obtain⟨x,_,rfl⟩:=List.mem_map.1 hC;rfl);rw[List.length_map,hwsl.out] at hve;subst hve;have hb7l:=Qj hb7.out;rw[HSA.out (by omega)];clear hst hs;go_wp2_with fail
           refine HPA.out.mono ?_;rintro e9 w4 ⟨hk4,y,okk,rfl,hmt⟩;have hkn4:=hkn.trans hk4;obtain⟨w5,hw5⟩:∃z,z=w4.alloc (.cells #[.string y.lit,.string y.name,.int .i64 y.level,.bool y.sort] TWd):=⟨_,rfl⟩;have hk5:Kn w4 w5:=by rw[hw5];exact(Qb _ _).alloc _
           obtain⟨b12,hb12⟩:∃z,z=w4.heap.size:=⟨_,rfl⟩;have hbw:w5.heap[b12]? =some (.cells #[.string y.lit,.string y.name,.int .i64 y.level,.bool y.sort] TWd (0,0)):=by rw[hw5,hb12];exact Qf _ _
           have HW5:=Qh (And.intro hw5 hb12);have hkn5:=hkn4.trans hk5;have v0:w5.cell? ⟨b12,0,none⟩=some (.string y.lit):=by rw[Qa hbw];try rfl
           have v1:w5.cell? ⟨b12,1,none⟩=some (.string y.name):=by rw[Qa hbw];try rfl
           have v2:w5.cell? ⟨b12,2,none⟩=some (.int .i64 y.level):=by rw[Qa hbw];try rfl
           have v3:w5.cell? ⟨b12,3,none⟩=some (.bool y.sort):=by rw[Qa hbw];try rfl
           have hbl5:=Qj hbw;have HB75:=Qh ((hk4.trans hk5).blk hb7.out (fun x=>x));have HV5:=Qh ((hvw.out.kn hk4).kn hk5);have r4:w5.cell? ⟨b7,4,none⟩=some (.slice av k cv):=by rw[Qa HB75.out];try rfl
           have hb75:=Qj HB75.out;clear hw5 hb12 hk5 hck hbw;cases hpf2:partF s with
           |none=>
            rw[hpf2] at hmt;dsimp only at hmt;subst hmt;have hF5:Hid (R.rule num (so::lv::c::e::ps)=none):=Qh (by rw[hF4.out,HST.out,hpf2]);clear hpf2;go_upto_region 12 with fail
            rw[←HW5.out.1,←HW5.out.2];go_wp2_with fail
            go_ret;refine⟨4,rfl,Yj hkn5,?_⟩;rw[hF5.out];exact(by decide:(4:Int)≠0)
           |some x=>
            rw[hpf2] at hmt;dsimp only at hmt;obtain⟨rfl,rfl⟩:=hmt;have HPF6:Hid (Yb ps=match Yb (ps.drop (k+1)) with|some r=>some ((ws++[y])++r)|none=>none):=Qh (by rw[HST.out,hpf2]);have hyl:=partF_lit hpf2;have HKL:Hid (Kn w5 (w5.alloc (.cells #[.string y.lit,.string y.name,.int .i64 y.level,.bool y.sort] TWd))):=Qh ((Qb _ _).alloc _);have HV6:=Qh (HV5.out.kn HKL.out);have HBL:Hid ((w5.alloc (.cells #[.string y.lit,.string y.name,.int .i64 y.level,.bool y.sort] TWd)).heap[w5.heap.size]? =some (.cells #[.string y.lit,.string y.name,.int .i64 y.level,.bool y.sort] TWd (0,0))):=Qh (Qf _ _);have HB76:=Qh (HKL.out.blk HB75.out (fun x=>x));have hkpl:=HH12.out;clear hpf2;go_upto_region 12 with fail
            rw[←HW5.out.1,←HW5.out.2];go_upto_region 15 with(first|(at_builtin;go_must (refine QA _ rfl (.tmp 83) (.tmp 85) 281 rfl w.heap.size TWd iw (.agg #[.string ByteArray.empty,.string ByteArray.empty,.int .i64 0,.bool false]) 4 48 Tryz.underlying281 HIW.out.1 HIW.out.2.1 HIW.out.2.2.1 HIW.out.2.2.2 (by rfl) (by decide) (.slice av k cv) (ws.map wdL) rfl HV6.out w5.heap.size 1 rfl #[.string y.lit,.string y.name,.int .i64 y.level,.bool y.sort] TWd (0,0) HBL.out rfl (by simp[Value.oneCell']) (by rw[List.length_map,hwsl.out];simp only[maxLen];omega) (by rw[List.length_map,hwsl.out];omega) (by have h1:=hkn5.size;rw[size_alloc'];omega) ?_;intro v1 w6 hown hka hat;obtain⟨av1,cv1,hv1,_⟩:=hown.row (k:=4) (fun D hD=>by simp only[List.mem_append,List.mem_map,List.mem_singleton] at hD;rcases hD with⟨y,_,rfl⟩|rfl<;>rfl);obtain⟨nl1,hv1⟩:∃n,v1= .slice av1 n cv1:=⟨_,hv1⟩;have HV1:=Qh hv1;subst hv1;have HKA:=Qh (hka.mono (T:=fun i=>w.heap.size≤i) (fun i hi e=>(HV6.out.lt i e.symm).1));have HOW:=Qh hown;have hb76:=Qw HB76.out hka (QL HV6.out) (by decide);have r46:w6.cell? ⟨b7,4,none⟩=some (.slice av k cv):=(by rw[Qa hb76];try rfl);have f46:=Qd hb76 4;have HBX:=Qh hb76;clear hb76 hown hka hat)))
            obtain⟨vN,hvN⟩:∃z,z=Value.slice av1 (ws.length+1) cv1:=⟨_,rfl⟩;obtain⟨w7,hw7⟩:∃z,z=w6.setCell ⟨b7,4,none⟩ vN:=⟨_,rfl⟩;rw[←hvN,←hw7];have HO2:Hid (OwnK w6 w.heap.size TWd 4 vN ((ws++[y]).map wdL)):=Qh (by
             have h1:=HOW.out;rw[List.length_append,List.length_map,List.length_singleton,←hvN] at h1;rw[List.map_append];exact h1)
            have hk9:K1 b7 w6 w7:=by rw[hw7];exact Qg _ _
            have hkn9:Kn w w7:=((hkn5.trans HKL.out).trans' HKA.out (fun i hi e=>by omega)).trans' hk9 (fun i hi e=>by omega);have HB9:=Qh (Qk HBX.out 4 vN);rw[←hw7] at HB9;have HO9:=Qh (HO2.out.kp hk9 (fun g hg e=>by subst e;obtain⟨cur,h1⟩:=QH HO2.out hg;exact Qn HBX.out h1 (by decide)));clear hvN hw7 HOW HKA HV1;go_wp2_with fail
            go_roundw
            case rel=>exact⟨k+1,ws++[y],vN,by go_num,by omega,HPF6,Qh (by simp[hwsl.out]),Qh (fun z hz=>by
             rcases List.mem_append.1 hz with h1|h1
             ·exact hlz.out z h1
             ·simp at h1;subst h1;exact hyl),HO9,HB9,hkn9⟩
            case measure=>simp[intOf];omega
          ·obtain rfl:k=ps.length:=by omega
           have hpe:=partsF_end hpf.out;obtain⟨av,cv,hve,_⟩:=hvw.out.row (fun C hC=>by obtain⟨x,_,rfl⟩:=List.mem_map.1 hC;rfl);rw[List.length_map] at hve;subst hve;have u3:=Qc hkn x3;have hwl20:ws.length≤20:=by have:=HH12.out;have:=hwsl.out;omega
           have HBS:Hid (B≤w.heap.size):=Qh (by have:=H.out.pB.1;omega);have hb7l:=Qj hb7.out;have hF5:Hid (R.rule num (so::lv::c::e::ps)=if c=YQ then(if aloneF ws=true then R.ruleEnd num so emptyB lvl ws else none) else R.ruleEnd num so c lvl ws):=Qh (by rw[hF4.out,hpe]);obtain⟨wo,hwo⟩:∃z,z=wr:=⟨_,rfl⟩;subst hwo;clear hpe;obtain⟨d,ic⟩:∃d,(c.toList==[45])=d:=⟨_,rfl⟩;have HD:Hid (d=decide (c=YQ)):=Qh (by rw[←ic,YB];try rfl)
           go_upto_if 92 with fail
           go_cut [] (fun wc=>∃cn:ByteArray,Hid (R.rule num (so::lv::c::e::ps)=R.ruleEnd num so cn lvl ws)∧cn.size≤20∧Hid (wc.heap[b7]? =some (.cells #[.int .i64 num,.string so,.string cn,.int .i64 lvl,.slice av ws.length cv,.bool false] TLn (0,0)))∧Kn w wc∧Hid (OwnK wc w.heap.size TWd 4 (.slice av ws.length cv) (ws.map wdL)))
           case first=>
            clear ic;cases d with
            |true=>
             have hc:c=YQ:=of_decide_eq_true HD.out.symm;have hF5d:Hid (R.rule num (so::lv::c::e::ps)=if aloneF ws=true then R.ruleEnd num so emptyB lvl ws else none):=Qh (by rw[hF5.out,if_pos hc]);clear hc hF5;have g2:wo.cell? ⟨b7,2,none⟩=some (.string c):=by rw[Qa hb7.out];try rfl
             have gf:=Qd hb7.out 2;go_upto_region 18 with fail
             obtain⟨w7,hw7⟩:∃z,z=wo.setCell ⟨b7,2,none⟩ (.string ⟨#[]⟩):=⟨_,rfl⟩;have hk7:K1 b7 wo w7:=by rw[hw7];exact Qg _ _
             have hbb7:=Qk hb7.out 2 (.string ⟨#[]⟩);rw[←hw7] at hbb7⊢;have HB7:Hid (w7.heap[b7]? =some (.cells #[.int .i64 num,.string so,.string ⟨#[]⟩,.int .i64 lvl,.slice av ws.length cv,.bool false] TLn (0,0))):=Qh hbb7;have hkn7:=hkn.trans' hk7 (fun i hi e=>by omega);have HO7:=Qh (hvw.out.kp hk7 (fun g hg e=>by subst e;obtain⟨cur,h1⟩:=QH hvw.out hg;exact Qn hb7.out h1 (by decide)));have HAL:=Qh (alone_c ws HO7.out (by omega));have g4:w7.cell? ⟨b7,4,none⟩=some (.slice av ws.length cv):=by rw[Qa HB7.out];try rfl
             clear hw7 hk7 hbb7 g2 gf u3;cases hal:aloneF ws with
             |false=>
              rw[hal] at HAL;have hF6:Hid (R.rule num (so::lv::c::e::ps)=none):=Qh (by rw[hF5d.out,hal];try rfl);clear hal;go_wp2_with fail
              refine HAL.out.mono ?_;rintro e9 w8 ⟨rfl,hk8⟩;go_wp2_with fail
              go_ret;refine⟨4,rfl,Yj (hkn7.trans hk8),?_⟩;rw[hF6.out];exact(by decide:(4:Int)≠0)
             |true=>
              rw[hal] at HAL;have hF6:Hid (R.rule num (so::lv::c::e::ps)=R.ruleEnd num so emptyB lvl ws):=Qh (by rw[hF5d.out,hal];try rfl);clear hal;go_wp2_with fail
              refine HAL.out.mono ?_;rintro e9 w8 ⟨rfl,hk8⟩;have hkn8:=hkn7.trans hk8;have HB8:=Qh (hk8.blk HB7.out (fun x=>x));have HO8:=Qh (HO7.out.kn hk8);clear hk8 g4 HB7 HO7;go_wp2_with fail
              go_meet
              case rel=>exact⟨⟨#[]⟩,hF6,by decide,HB8,hkn8,HO8⟩
            |false=>
             have hc:¬c=YQ:=of_decide_eq_false HD.out.symm;have hF6:Hid (R.rule num (so::lv::c::e::ps)=R.ruleEnd num so c lvl ws):=Qh (by rw[hF5.out,if_neg hc]);have h20:=(HCB.out hc).1;clear hc hF5;go_wp2_with fail
             go_meet
             case rel=>exact⟨c,hF6,h20,hb7,hkn,hvw⟩
           case rest=>
            obtain⟨cn,hF6,hcn20,HB8,hkn8,HO8⟩:=hcut;clear hF5 hb7 hkn hvw u3;obtain⟨w8,hw8⟩:∃z,z=wc:=⟨_,rfl⟩;subst hw8;go_upto_region 20 with fail
            have HR8:=Qh (H.out.kn hkn8);obtain⟨_,_,_,_,_,_,_,m7,_⟩:=HR8.out.cells;have n2:w8.cell? ⟨b7,2,none⟩=some (.string cn):=by rw[Qa HB8.out];try rfl
            have hlkc:=fun W (hm:MapA W TS A.bc (mbM R.cons))=>look_mb (w:=W) cn (by omega) hm
            have HLK:=Qh hlkc;clear hlkc;have hF7:Hid (R.ruleEnd num so cn lvl ws=if YP R.cons cn=true then none else(if(cn:ByteArray).size=0 then R else {R with cons:=R.cons++[cn]}).add ⟨num,so,cn,lvl,ws,false⟩):=Qh rfl;cases hhs:YP R.cons cn with
            |true=>
             rw[hhs] at HLK;have hF8:Hid (R.rule num (so::lv::c::e::ps)=none):=Qh (by rw[hF6.out];exact(hF7.out.trans (by rw[hhs];try rfl)));clear hhs hF7;refine wp_region_held_drew (S:=fun w'=>w'.cell? ⟨p,7,none⟩=some (.map (some A.bc))∧w'.cell? ⟨b7,2,none⟩=some (.string cn)∧MapA w' TS A.bc (mbM R.cons)) (by kernel_rfl) ⟨Qc ((Qb _ _).drew) m7,Qc ((Qb _ _).drew) n2,HR8.out.cons.kn ((Qb _ _).drew)⟩ (fun hHeld=> ?_);refine TW 0 98 ?_;refine TW 1 99 ?_;refine TW 2 100 ?_;refine TH 3 101 ?_;refine TW 4 102 ?_;refine TH 5 103 ?_;refine TH 6 104 ?_ (hy:=by(intro w hSw;obtain⟨hs1,hs2,hs3⟩:=hSw;have hlk:=HLK.out w hs3;go_simp;try with_reducible rfl));refine RD ?_;go_wp2_with fail
             go_ret;refine⟨9,rfl,Yj (hkn8.trans ((Qb _ _).drew)),?_⟩;rw[hF8.out];exact(by decide:(9:Int)≠0)
            |false=>
             rw[hhs] at HLK;have HNH:=Qh hhs
             replace hF7:Hid (R.rule num (so::lv::c::e::ps)=(if cn.size=0 then R else {R with cons:=R.cons++[cn]}).add ⟨num,so,cn,lvl,ws,false⟩):=Qh (by rw[hF6.out];exact(hF7.out.trans (by rw[hhs];try rfl)))
             clear hhs hF6;refine wp_region_held_drew (S:=fun w'=>w'.cell? ⟨p,7,none⟩=some (.map (some A.bc))∧w'.cell? ⟨b7,2,none⟩=some (.string cn)∧MapA w' TS A.bc (mbM R.cons)) (by kernel_rfl) ⟨Qc ((Qb _ _).drew) m7,Qc ((Qb _ _).drew) n2,HR8.out.cons.kn ((Qb _ _).drew)⟩ (fun hHeld=> ?_);refine TW 0 98 ?_;refine TW 1 99 ?_;refine TW 2 100 ?_;refine TH 3 101 ?_;refine TW 4 102 ?_;refine TH 5 103 ?_;refine TH 6 104 ?_ (hy:=by(intro w hSw;obtain⟨hs1,hs2,hs3⟩:=hSw;have hlk:=HLK.out w hs3;go_simp;try with_reducible rfl));refine RD ?_;by_cases hcz:cn.size=0
             ·obtain rfl:cn=⟨#[]⟩:=by
               cases cn with|mk a=>exact congrArg ByteArray.mk (Array.eq_empty_of_size_eq_zero hcz)
              have hF8:Hid (R.rule num (so::lv::c::e::ps)=R.add ⟨num,so,⟨#[]⟩,lvl,ws,false⟩):=Qh (hF7.out.trans (by rw[if_pos (show(⟨#[]⟩:ByteArray).size=0 from rfl)]));clear hF7 hcz;obtain⟨wd,hwd⟩:∃zz,zz=w8.drew:=⟨_,rfl⟩;have hkd:Kn w8 wd:=by rw[hwd];exact(Qb _ _).drew
              rw[←hwd];have HBd:=hkd.blk HB8.out (fun x=>x);have t0:wd.cell? ⟨b7,0,none⟩=some (.int .i64 num):=by rw[Qa HBd];try rfl
              have t1:wd.cell? ⟨b7,1,none⟩=some (.string so):=by rw[Qa HBd];try rfl
              have t2:wd.cell? ⟨b7,2,none⟩=some (.string ⟨#[]⟩):=by rw[Qa HBd];try rfl
              have t3:wd.cell? ⟨b7,3,none⟩=some (.int .i64 lvl):=by rw[Qa HBd];try rfl
              have t4:wd.cell? ⟨b7,4,none⟩=some (.slice av ws.length cv):=by rw[Qa HBd];try rfl
              have t5:wd.cell? ⟨b7,5,none⟩=some (.bool false):=by rw[Qa HBd];try rfl
              have HADD:=Qh (gadd_c (cw:=cv) (aw:=av) ⟨num,so,⟨#[]⟩,lvl,ws,false⟩ (HR8.out.kn hkd) HOK.out ((HO8.out.kn hkd).base HBS.out) ⟨hwl20,hnum,hlv9⟩ hlz.out);have hknd:=hkn8.trans hkd;clear hwd hkd HBd hHeld;go_wp2_with fail
              refine HADD.out.mono ?_;rintro e9 w9 ⟨n9,rfl,hkz,hmz⟩;go_wp2_with fail
              go_ret;refine⟨n9,rfl,(Yj hknd).trans hkz,?_⟩;rw[hF8.out];exact hmz
             ·have hF8:Hid (R.rule num (so::lv::c::e::ps)=({R with cons:=R.cons++[cn]} :RS).add ⟨num,so,cn,lvl,ws,false⟩):=Qh (hF7.out.trans (by rw[if_neg hcz]));clear hF7;obtain⟨wd,hwd⟩:∃zz,zz=w8.drew:=⟨_,rfl⟩;have hkd:Kn w8 wd:=by rw[hwd];exact(Qb _ _).drew
              rw[←hwd];have HRd:=Qh (HR8.out.kn hkd);have HBd:=Qh (hkd.blk HB8.out (fun x=>x));have HOd:=Qh (HO8.out.kn hkd);have hknd:=hkn8.trans hkd;obtain⟨_,_,_,_,_,_,_,m7d,_⟩:=HRd.out.cells;have t2:wd.cell? ⟨b7,2,none⟩=some (.string cn):=by rw[Qa HBd.out];try rfl
              have ice:=Yx hcz;clear hwd hkd hHeld m7 n2;go_upto_region 23 with fail
              refine wp_region_held_drew (S:=fun w'=>w'.cell? ⟨p,7,none⟩=some (.map (some A.bc))∧w'.cell? ⟨b7,2,none⟩=some (.string cn)) (by kernel_rfl) ⟨Qc ((Qb _ _).drew) m7d,Qc ((Qb _ _).drew) t2⟩ (fun hHeld=> ?_);obtain⟨wp,hwp⟩:∃zz,zz=wd.drew:=⟨_,rfl⟩;have hkp:Kn wd wp:=by rw[hwp];exact(Qb _ _).drew
              rw[←hwp] at hHeld⊢;clear hwp;refine TW 0 108 ?_;refine TW 1 109 ?_;refine TW 2 110 ?_;refine TH 3 111 ?_;refine TW 4 112 ?_;refine TH 5 113 ?_;refine RH 6 (fun K hK=> ?_);obtain⟨lx,hlx⟩:=str_keyOf cn (by omega);refine step_put0 (by rfl) (.tmp 111) (.tmp 113) (.const (.bool true)) (by rfl) (string_keyed Tryz.underlying9) Tryz.underlying127 (by rfl) (HRd.out.cons.kn hkp) (.string cn) (.bool true) lx (by rfl) (by rfl) hlx (mbM_not HNH.out) ?_;intro w10 hm10 hk10;have HR10:=Qh ((HRd.out.kn hkp).putCons hm10 hk10);have hSm:=Zc (HRd.out.cons.kn hkp);have HB10:=Qh (Yv (hkp.blk HBd.out (fun x=>x)) hk10 hSm);have HO10:=Qh (Qy (HOd.out.kn hkp) hk10 hSm);have KB10:=(Yj (B:=B) (hknd.trans hkp)).trans (hk10.mono (fun i hi e=>by have:=HRd.out.pB;omega));have hX1:w10.cell? ⟨p,7,none⟩=some (.map (some A.bc)):=by obtain⟨_,_,_,_,_,_,_,q,_⟩:=HR10.out.cells;exact q
              have hX2:w10.cell? ⟨b7,2,none⟩=some (.string cn):=by rw[Qa HB10.out];try rfl
              clear hm10 hk10 hSm;dsimp only;refine hK.out _ _ ⟨hX1,hX2⟩ (fun hHeld=> ?_);clear hK K hX1 hX2;refine RD ?_;clear hHeld;have t0:w10.cell? ⟨b7,0,none⟩=some (.int .i64 num):=by rw[Qa HB10.out];try rfl
              have t1:w10.cell? ⟨b7,1,none⟩=some (.string so):=by rw[Qa HB10.out];try rfl
              have t2':w10.cell? ⟨b7,2,none⟩=some (.string cn):=by rw[Qa HB10.out];try rfl
              have t3:w10.cell? ⟨b7,3,none⟩=some (.int .i64 lvl):=by rw[Qa HB10.out];try rfl
              have t4:w10.cell? ⟨b7,4,none⟩=some (.slice av ws.length cv):=by rw[Qa HB10.out];try rfl
              have t5:w10.cell? ⟨b7,5,none⟩=some (.bool false):=by rw[Qa HB10.out];try rfl
              have HADD:=Qh (gadd_c (cw:=cv) (aw:=av) ⟨num,so,cn,lvl,ws,false⟩ HR10.out ⟨HOK.out.lits,HOK.out.cls,HOK.out.sorts,HOK.out.lines,HOK.out.litz,HOK.out.clz,HOK.out.words⟩ (OwnK.base HO10.out HBS.out) ⟨hwl20,hnum,hlv9⟩ hlz.out);clear t2;go_wp2_with fail
              refine HADD.out.mono ?_;rintro e9 w9 ⟨n9,rfl,hkz,hmz⟩;go_wp2_with fail
              go_ret;refine⟨n9,rfl,KB10.trans hkz,?_⟩;rw[hF8.out];exact hmz
   ·have ie:(e.toList==[61])=false:=by rw[YB];exact decide_eq_false he
    have hF2:Hid (R.rule num (so::lv::c::e::ps)=none):=Qh (by rw[hF.out,if_pos (.inr (.inl he))]);clear hF h12 hnp he;go_enter Tryz.func109,Tryz.ntmps109;go_wp2_with fail
    go_ret;refine⟨4,rfl,Qb _ _,?_⟩;rw[hF2.out];exact(by decide:(4:Int)≠0)
theorem RS.bracket_three(R:RS)(n:Nat)(so a b:ByteArray):R.bracket n [so,a,b]=if gnOk so=false then none else if(litF a).size=0∨(litF b).size=0 then none else if YP R.rounds so=true then none else
  ({R with rounds:=R.rounds++[so]} :RS).add ⟨n,so,emptyB,9,[YR (litF a),⟨emptyB,so,0,true⟩,YR (litF b)],true⟩:=rfl
theorem RS.bracket_not(R:RS)(n:Nat)(l:List ByteArray)(h:l.length≠3):R.bracket n l=none:=by
 rcases l with _|⟨a,_|⟨b,_|⟨c,_|⟨d,l⟩⟩⟩⟩
 ·rfl
 ·rfl
 ·rfl
 ·simp at h
 ·rfl
theorem litF_le(s:ByteArray):(litF s).size≤20:=by
 unfold litF;split
 ·rename_i h;exact h.2
 ·decide
theorem own_three{w:World}{B g:Nat}{x y z:GW}(hB:B≤g)(h:w.heap[g]? =some (.cells (wdL x++wdL y++wdL z).toArray TWd (0,0))):OwnK w B TWd 4 (.slice (some ⟨g,0,none⟩) 3 3) ([x,y,z].map wdL):=by
 refine⟨by simp[wdL],.inr ⟨g,3,_,rfl,hB,h,Nat.le_refl _,by simp[maxLen],by simp[wdL],?_⟩⟩;simp[wdL]
theorem bracket_c{B p bl c0 num:Nat}{R:RS}{A:RA}{w:World}(l:List ByteArray)(h:RdAt w B p R A)(ok:RSok R)(hl:WL w bl 1 l)(ho:Off A p bl)(hll:l.length≤2000000)(hsz:∀s∈l,s.size≤1000000)(hnum:num≤2000000):
  Calls Tryz.prog 110 #[ptr p,.int .i64 num,.slice (some ⟨bl,1,none⟩) l.length c0] w (ErrPost B p A (R.bracket num l) w):=by
 by_cases h3:l.length=3
 ·obtain⟨so,a,b,rfl⟩:∃so a b,l=[so,a,b]:=by
   rcases l with _|⟨a,_|⟨b,_|⟨c,_|⟨d,l⟩⟩⟩⟩
   ·simp at h3
   ·simp at h3
   ·simp at h3
   ·exact⟨_,_,_,rfl⟩
   ·simp at h3
  have hF:Hid (R.bracket num [so,a,b]=_):=Qh (R.bracket_three num so a b);have x1:w.cell? ⟨bl,1,none⟩=some (.string so):=hl 0 (by simp);have x2:w.cell? ⟨bl,2,none⟩=some (.string a):=hl 1 (by simp);have x3:w.cell? ⟨bl,3,none⟩=some (.string b):=hl 2 (by simp);have z1:=hsz so (by simp);have z2:=hsz a (by simp);have z3:=hsz b (by simp);have H:=Qh h;have HOK:=Qh ok;have HO:=Qh ho;have HGN:=Qh (fun W=>gNamed_c so W (by omega));have HLA:=Qh (fun W=>literal_c a W (by omega));have HLB:=Qh (fun W=>literal_c b W (by omega));have hal:=litF_le a;have hbl:=litF_le b;obtain⟨ta,hta⟩:∃x,x=litF a:=⟨_,rfl⟩;obtain⟨tb,htb⟩:∃x,x=litF b:=⟨_,rfl⟩;rw[←hta,←htb] at hF;rw[←hta] at HLA hal;rw[←htb] at HLB hbl;simp only[List.length_cons,List.length_nil] at*;clear h ok hl ho hll hsz h3 hta htb;cases hg:gnOk so with
  |false=>
   rw[hg] at HGN;have hF2:Hid (R.bracket num [so,a,b]=none):=Qh (by rw[hF.out,hg];try rfl);clear hF hg;go_enter Tryz.func110,Tryz.ntmps110;go_wp2_with fail
   refine(HGN.out _).mono ?_;rintro e9 w' ⟨rfl,rfl⟩;go_wp2_with fail
   go_ret;refine⟨4,rfl,Qb _ _,?_⟩;rw[hF2.out];exact(by decide:(4:Int)≠0)
  |true=>
   have hsoz:=(gnOk_le hg).1;rw[hg] at HGN;have hF2:Hid (R.bracket num [so,a,b]=if ta.size=0∨tb.size=0 then none else if YP R.rounds so=true then none else
    ({R with rounds:=R.rounds++[so]} :RS).add ⟨num,so,emptyB,9,[YR ta,⟨emptyB,so,0,true⟩,YR tb],true⟩):=Qh (by rw[hF.out,hg];try rfl)
   clear hF hg;go_enter Tryz.func110,Tryz.ntmps110;go_wp2_with fail
   refine(HGN.out _).mono ?_;rintro e9 w' ⟨rfl,rfl⟩;go_wp2_with fail
   refine wp_region_held_drew (S:=fun w'=>w'.cell? ⟨bl,2,none⟩=some (.string a)∧w'.cell? ⟨bl,3,none⟩=some (.string b)) (by kernel_rfl) ⟨Qc ((Qb _ _).drew) x2,Qc ((Qb _ _).drew) x3⟩ (fun hHeld=> ?_);refine TW 0 19 ?_;refine TW 1 20 ?_;refine TH 2 21 ?_;refine TW 4 23 ?_;refine TW 5 24 ?_;refine TH 6 25 ?_;refine RH 3 (fun K hK=> ?_);go_simp
   go_at_call 158
   refine(HLA.out _).mono ?_;rintro e9 w9 ⟨rfl,rfl⟩;dsimp only;refine hK.out _ _ hHeld (fun hHeld=> ?_);clear hK K
   try simp only[PP]
   refine RH 7 (fun K hK=> ?_);go_simp
   go_at_call 158
   refine(HLB.out _).mono ?_;rintro e9 w9 ⟨rfl,rfl⟩;dsimp only;refine hK.out _ _ hHeld (fun hHeld=> ?_);clear hK K
   try simp only[PP]
   refine TW 8 7 ?_;refine TW 9 8 ?_;refine RD ?_;clear hHeld;obtain⟨wd,hwd⟩:∃zz,zz=w.drew:=⟨_,rfl⟩;have hkd:Kn w wd:=by rw[hwd];exact(Qb _ _).drew
   rw[←hwd];have HRd:=Qh (H.out.kn hkd);have y1:=Qc hkd x1;clear hwd;by_cases ha0:ta.size=0
   ·have iea:=isE_true ha0;have hF3:Hid (R.bracket num [so,a,b]=none):=Qh (by rw[hF2.out,if_pos (.inl ha0)]);clear ha0 hF2;go_wp2_with fail
    go_ret;refine⟨4,rfl,Yj hkd,?_⟩;rw[hF3.out];exact(by decide:(4:Int)≠0)
   ·have iea:=Yx ha0;by_cases hb0:tb.size=0
    ·have ieb:=isE_true hb0;have hF3:Hid (R.bracket num [so,a,b]=none):=Qh (by rw[hF2.out,if_pos (.inr hb0)]);clear ha0 hb0 hF2;go_wp2_with fail
     go_ret;refine⟨4,rfl,Yj hkd,?_⟩;rw[hF3.out];exact(by decide:(4:Int)≠0)
    ·have ieb:=Yx hb0;have hF3:Hid (R.bracket num [so,a,b]=if YP R.rounds so=true then none else
       ({R with rounds:=R.rounds++[so]} :RS).add ⟨num,so,emptyB,9,[YR ta,⟨emptyB,so,0,true⟩,YR tb],true⟩):=Qh (by rw[hF2.out,if_neg (by rintro(h1|h1);exact ha0 h1;exact hb0 h1)])
     have HLK:=Qh (fun W (hm:MapA W TS A.br (mbM R.rounds))=>look_mb (w:=W) so (by omega) hm);obtain⟨_,_,_,_,_,_,_,_,m8,_⟩:=HRd.out.cells;clear ha0 hb0 hF2;cases hhs:YP R.rounds so with
     |true=>
      rw[hhs] at HLK;have hF4:Hid (R.bracket num [so,a,b]=none):=Qh (by rw[hF3.out,hhs];try rfl);clear hhs hF3;go_upto_region 6 with fail
      refine wp_region_held_drew (S:=fun w'=>w'.cell? ⟨p,8,none⟩=some (.map (some A.br))∧w'.cell? ⟨bl,1,none⟩=some (.string so)∧MapA w' TS A.br (mbM R.rounds)) (by kernel_rfl) ⟨Qc ((Qb _ _).drew) m8,Qc ((Qb _ _).drew) y1,HRd.out.rounds.kn ((Qb _ _).drew)⟩ (fun hHeld=> ?_);refine TW 0 35 ?_;refine TW 1 36 ?_;refine TW 2 37 ?_;refine TH 3 38 ?_;refine TW 4 39 ?_;refine TW 5 40 ?_;refine TH 6 41 ?_;refine TH 7 42 ?_ (hy:=by(intro w hSw;obtain⟨hs1,hs2,hs3⟩:=hSw;have hlk:=HLK.out w hs3;go_simp;try with_reducible rfl));refine TW 8 34 ?_;refine RD ?_;go_wp2_with fail
      go_ret;refine⟨9,rfl,Yj (hkd.trans ((Qb _ _).drew)),?_⟩;rw[hF4.out];exact(by decide:(9:Int)≠0)
     |false=>
      rw[hhs] at HLK;have hF4:Hid (R.bracket num [so,a,b]=({R with rounds:=R.rounds++[so]} :RS).add ⟨num,so,emptyB,9,[YR ta,⟨emptyB,so,0,true⟩,YR tb],true⟩):=Qh (by rw[hF3.out,hhs];try rfl);have HNH:=Qh hhs;clear hhs hF3;go_upto_region 6 with fail
      refine wp_region_held_drew (S:=fun w'=>w'.cell? ⟨p,8,none⟩=some (.map (some A.br))∧w'.cell? ⟨bl,1,none⟩=some (.string so)∧MapA w' TS A.br (mbM R.rounds)) (by kernel_rfl) ⟨Qc ((Qb _ _).drew) m8,Qc ((Qb _ _).drew) y1,HRd.out.rounds.kn ((Qb _ _).drew)⟩ (fun hHeld=> ?_);refine TW 0 35 ?_;refine TW 1 36 ?_;refine TW 2 37 ?_;refine TH 3 38 ?_;refine TW 4 39 ?_;refine TW 5 40 ?_;refine TH 6 41 ?_;refine TH 7 42 ?_ (hy:=by(intro w hSw;obtain⟨hs1,hs2,hs3⟩:=hSw;have hlk:=HLK.out w hs3;go_simp;try with_reducible rfl));refine TW 8 34 ?_;refine RD ?_;obtain⟨we,hwe⟩:∃zz,zz=wd.drew:=⟨_,rfl⟩;have hke:Kn wd we:=by rw[hwe];exact(Qb _ _).drew
      rw[←hwe];have HRe:=Qh (HRd.out.kn hke);have u1:=Qc hke y1;have hkne:=hkd.trans hke;obtain⟨_,_,_,_,_,_,_,_,m8e,_⟩:=HRe.out.cells;clear hwe hHeld m8 y1 hkd hke HRd;go_upto_region 8 with fail
      refine wp_region_held_drew (S:=fun w'=>w'.cell? ⟨p,8,none⟩=some (.map (some A.br))∧w'.cell? ⟨bl,1,none⟩=some (.string so)) (by kernel_rfl) ⟨Qc ((Qb _ _).drew) m8e,Qc ((Qb _ _).drew) u1⟩ (fun hHeld=> ?_);obtain⟨wp,hwp⟩:∃zz,zz=we.drew:=⟨_,rfl⟩;have hkp:Kn we wp:=by rw[hwp];exact(Qb _ _).drew
      rw[←hwp] at hHeld⊢;clear hwp;refine TW 0 43 ?_;refine TW 1 44 ?_;refine TW 2 45 ?_;refine TH 3 46 ?_;refine TW 4 47 ?_;refine TW 5 48 ?_;refine TH 6 49 ?_;refine RH 7 (fun K hK=> ?_);obtain⟨lx,hlx⟩:=str_keyOf so (by omega);refine step_put0 (by rfl) (.tmp 46) (.tmp 49) (.const (.bool true)) (by rfl) (string_keyed Tryz.underlying9) Tryz.underlying127 (by rfl) (HRe.out.rounds.kn hkp) (.string so) (.bool true) lx (by rfl) (by rfl) hlx (mbM_not HNH.out) ?_;intro w10 hm10 hk10;have HR10:=Qh ((HRe.out.kn hkp).putRound hm10 hk10);have KB10:=(Yj (B:=B) (hkne.trans hkp)).trans (hk10.mono (fun i hi e=>by have:=HRe.out.pB;omega));have hX1:w10.cell? ⟨p,8,none⟩=some (.map (some A.br)):=by obtain⟨_,_,_,_,_,_,_,_,q,_⟩:=HR10.out.cells;exact q
      have hX2:w10.cell? ⟨bl,1,none⟩=some (.string so):=Qi hk10 (Qc hkp u1) (show¬bl=A.br from fun e=>HO.out.2.2.2.2.2 e.symm);clear hm10 hk10;dsimp only;refine hK.out _ _ ⟨hX1,hX2⟩ (fun hHeld=> ?_);have q1:=hX2;clear hK K hX1 hX2;refine RD ?_;clear hHeld;go_upto_region 9 with fail
      refine wp_region_held_drew (S:=fun w'=>True) (by kernel_rfl) trivial (fun hHeld=> ?_);obtain⟨wq,hwq⟩:∃zz,zz=w10.drew:=⟨_,rfl⟩;have KN0:Kn w10 wq:=by rw[hwq];exact(Qb _ _).drew
      rw[←hwq];clear hwq;refine TW 0 50 ?_;refine TW 1 51 ?_;refine TW 2 52 ?_;refine TW 3 53 ?_;refine TW 5 55 ?_;refine TW 6 56 ?_;refine TW 7 57 ?_;refine TW 8 58 ?_;refine TW 11 61 ?_;refine TW 12 62 ?_;refine RH2 4 9 (fun K hK=> ?_) (fun K hK=> ?_)
      ·have xq:wq.cell? ⟨bl,1,none⟩=some (.string so):=Qc KN0 q1;go_simp;clear xq;refine hK.out _ _ trivial (fun hHeld=> ?_);clear hK K
       try simp only[PP]
       refine RH 9 (fun K hK=> ?_);have xq:wq.cell? ⟨bl,1,none⟩=some (.string so):=Qc KN0 q1;go_simp;clear xq;refine hK.out _ _ trivial (fun hHeld=> ?_);clear hK K
       try simp only[PP]
       refine TW 10 60 ?_;refine RH 13 (fun K hK=> ?_);go_simp;obtain⟨y1,hw1⟩:∃zz,zz=wq.alloc (.cells #[.string ta,.string ⟨#[]⟩,.int .i64 0,.bool false,.string ⟨#[]⟩,.string so,.int .i64 0,.bool true,.string tb,.string ⟨#[]⟩,.int .i64 0,.bool false] TWd):=⟨_,rfl⟩;have hk1:Kn wq y1:=by rw[hw1];exact(Qb _ _).alloc _
       obtain⟨ge,hge⟩:∃zz,zz=wq.heap.size:=⟨_,rfl⟩;have GE:y1.heap[ge]? =some (.cells #[.string ta,.string ⟨#[]⟩,.int .i64 0,.bool false,.string ⟨#[]⟩,.string so,.int .i64 0,.bool true,.string tb,.string ⟨#[]⟩,.int .i64 0,.bool false] TWd (0,0)):=by rw[hw1,hge];exact Qf _ _
       have KN1:=KN0.trans hk1;have HGB:Hid (B≤ge):=Qh (by have h1:=HR10.out.pB.1;have h2:=HR10.out.lt;have h3:=(KN0).size;omega);rw[←hw1,←hge];clear hw1 hge hk1;refine hK.out _ _ trivial (fun hHeld=> ?_);clear hK K
       try simp only[PP]
       refine TW 14 64 ?_;refine RH 15 (fun K hK=> ?_);go_simp
       go_at_call 157
       have HADD:Calls Tryz.prog 157 #[ptr p,.agg #[.int .i64 num,.string so,.string ⟨#[]⟩,.int .i64 9,.slice (some ⟨ge,0,none⟩) 3 3,.bool true]] y1 (ErrPost B p A (({R with rounds:=R.rounds++[so]} :RS).add ⟨num,so,⟨#[]⟩,9,[YR ta,⟨⟨#[]⟩,so,0,true⟩,YR tb],true⟩) y1):=gadd_c (cw:=3) (aw:=some ⟨ge,0,none⟩) ⟨num,so,⟨#[]⟩,9,[YR ta,⟨⟨#[]⟩,so,0,true⟩,YR tb],true⟩ (HR10.out.kn KN1) ⟨HOK.out.lits,HOK.out.cls,HOK.out.sorts,HOK.out.lines,HOK.out.litz,HOK.out.clz,HOK.out.words⟩ (own_three HGB.out GE) ⟨by simp,hnum,by simp⟩ (fun y hy=>by simp at hy;rcases hy with rfl|rfl|rfl;exact hal;exact(by decide:(⟨#[]⟩:ByteArray).size≤20);exact hbl);refine HADD.mono ?_;rintro e9 w9 ⟨n9,rfl,hkz,hmz⟩;dsimp only;refine hK.out _ _ trivial (fun hHeld=> ?_);clear hK K
       try simp only[PP]
       refine TW 16 6 ?_;refine RD ?_;go_wp2_with fail
       go_ret;refine⟨n9,rfl,(KB10.trans (Yj KN1)).trans hkz,?_⟩;rw[hF4.out];exact hmz
      ·have xq:wq.cell? ⟨bl,1,none⟩=some (.string so):=Qc KN0 q1;go_simp;clear xq;refine hK.out _ _ trivial (fun hHeld=> ?_);clear hK K
       try simp only[PP]
       refine TW 10 60 ?_;refine RH2 4 13 (fun K hK=> ?_) (fun K hK=> ?_)
       ·have xq:wq.cell? ⟨bl,1,none⟩=some (.string so):=Qc KN0 q1;go_simp;clear xq;refine hK.out _ _ trivial (fun hHeld=> ?_);clear hK K
        try simp only[PP]
        refine RH 13 (fun K hK=> ?_);go_simp;obtain⟨y2,hw2⟩:∃zz,zz=wq.alloc (.cells #[.string ta,.string ⟨#[]⟩,.int .i64 0,.bool false,.string ⟨#[]⟩,.string so,.int .i64 0,.bool true,.string tb,.string ⟨#[]⟩,.int .i64 0,.bool false] TWd):=⟨_,rfl⟩;have hk2:Kn wq y2:=by rw[hw2];exact(Qb _ _).alloc _
        obtain⟨ge,hge⟩:∃zz,zz=wq.heap.size:=⟨_,rfl⟩;have GE:y2.heap[ge]? =some (.cells #[.string ta,.string ⟨#[]⟩,.int .i64 0,.bool false,.string ⟨#[]⟩,.string so,.int .i64 0,.bool true,.string tb,.string ⟨#[]⟩,.int .i64 0,.bool false] TWd (0,0)):=by rw[hw2,hge];exact Qf _ _
        have KN2:=KN0.trans hk2;have HGB:Hid (B≤ge):=Qh (by have h1:=HR10.out.pB.1;have h2:=HR10.out.lt;have h3:=(KN0).size;omega);rw[←hw2,←hge];clear hw2 hge hk2;refine hK.out _ _ trivial (fun hHeld=> ?_);clear hK K
        try simp only[PP]
        refine TW 14 64 ?_;refine RH 15 (fun K hK=> ?_);go_simp
        go_at_call 157
        have HADD:Calls Tryz.prog 157 #[ptr p,.agg #[.int .i64 num,.string so,.string ⟨#[]⟩,.int .i64 9,.slice (some ⟨ge,0,none⟩) 3 3,.bool true]] y2 (ErrPost B p A (({R with rounds:=R.rounds++[so]} :RS).add ⟨num,so,⟨#[]⟩,9,[YR ta,⟨⟨#[]⟩,so,0,true⟩,YR tb],true⟩) y2):=gadd_c (cw:=3) (aw:=some ⟨ge,0,none⟩) ⟨num,so,⟨#[]⟩,9,[YR ta,⟨⟨#[]⟩,so,0,true⟩,YR tb],true⟩ (HR10.out.kn KN2) ⟨HOK.out.lits,HOK.out.cls,HOK.out.sorts,HOK.out.lines,HOK.out.litz,HOK.out.clz,HOK.out.words⟩ (own_three HGB.out GE) ⟨by simp,hnum,by simp⟩ (fun y hy=>by simp at hy;rcases hy with rfl|rfl|rfl;exact hal;exact(by decide:(⟨#[]⟩:ByteArray).size≤20);exact hbl);refine HADD.mono ?_;rintro e9 w9 ⟨n9,rfl,hkz,hmz⟩;dsimp only;refine hK.out _ _ trivial (fun hHeld=> ?_);clear hK K
        try simp only[PP]
        refine TW 16 6 ?_;refine RD ?_;go_wp2_with fail
        go_ret;refine⟨n9,rfl,(KB10.trans (Yj KN2)).trans hkz,?_⟩;rw[hF4.out];exact hmz
       ·go_simp;obtain⟨y3,hw3⟩:∃zz,zz=wq.alloc (.cells #[.string ta,.string ⟨#[]⟩,.int .i64 0,.bool false,.string ⟨#[]⟩,.string so,.int .i64 0,.bool true,.string tb,.string ⟨#[]⟩,.int .i64 0,.bool false] TWd):=⟨_,rfl⟩;have hk3:Kn wq y3:=by rw[hw3];exact(Qb _ _).alloc _
        obtain⟨ge,hge⟩:∃zz,zz=wq.heap.size:=⟨_,rfl⟩;have GE:y3.heap[ge]? =some (.cells #[.string ta,.string ⟨#[]⟩,.int .i64 0,.bool false,.string ⟨#[]⟩,.string so,.int .i64 0,.bool true,.string tb,.string ⟨#[]⟩,.int .i64 0,.bool false] TWd (0,0)):=by rw[hw3,hge];exact Qf _ _
        have KN3:=KN0.trans hk3;have HGB:Hid (B≤ge):=Qh (by have h1:=HR10.out.pB.1;have h2:=HR10.out.lt;have h3:=(KN0).size;omega);rw[←hw3,←hge];clear hw3 hge hk3;refine hK.out _ _ trivial (fun hHeld=> ?_);clear hK K
        try simp only[PP]
        refine RH 4 (fun K hK=> ?_);have xq:y3.cell? ⟨bl,1,none⟩=some (.string so):=Qc KN3 q1;go_simp;clear xq;refine hK.out _ _ trivial (fun hHeld=> ?_);clear hK K
        try simp only[PP]
        refine TW 14 64 ?_;refine RH 15 (fun K hK=> ?_);go_simp
        go_at_call 157
        have HADD:Calls Tryz.prog 157 #[ptr p,.agg #[.int .i64 num,.string so,.string ⟨#[]⟩,.int .i64 9,.slice (some ⟨ge,0,none⟩) 3 3,.bool true]] y3 (ErrPost B p A (({R with rounds:=R.rounds++[so]} :RS).add ⟨num,so,⟨#[]⟩,9,[YR ta,⟨⟨#[]⟩,so,0,true⟩,YR tb],true⟩) y3):=gadd_c (cw:=3) (aw:=some ⟨ge,0,none⟩) ⟨num,so,⟨#[]⟩,9,[YR ta,⟨⟨#[]⟩,so,0,true⟩,YR tb],true⟩ (HR10.out.kn KN3) ⟨HOK.out.lits,HOK.out.cls,HOK.out.sorts,HOK.out.lines,HOK.out.litz,HOK.out.clz,HOK.out.words⟩ (own_three HGB.out GE) ⟨by simp,hnum,by simp⟩ (fun y hy=>by simp at hy;rcases hy with rfl|rfl|rfl;exact hal;exact(by decide:(⟨#[]⟩:ByteArray).size≤20);exact hbl);refine HADD.mono ?_;rintro e9 w9 ⟨n9,rfl,hkz,hmz⟩;dsimp only;refine hK.out _ _ trivial (fun hHeld=> ?_);clear hK K
        try simp only[PP]
        refine TW 16 6 ?_;refine RD ?_;go_wp2_with fail
        go_ret;refine⟨n9,rfl,(KB10.trans (Yj KN3)).trans hkz,?_⟩;rw[hF4.out];exact hmz
 ·have i3:((l.length:Int)==3)=false:=by rw[beq_eq_false_iff_ne];omega
  have i3':¬(l.length:Int)=3:=by omega
  have hF:Hid (R.bracket num l=none):=Qh (R.bracket_not num l h3);clear h3;go_enter Tryz.func110,Tryz.ntmps110;go_wp2_with fail
  go_ret;refine⟨4,rfl,Qb _ _,?_⟩;rw[hF.out];exact(by decide:(4:Int)≠0)
theorem token_nil{p c:Nat}{a:Option Addr}{w:World}(lay:Bool):
  Calls Tryz.prog 107 #[ptr p,.slice a 0 c,.bool lay] w fun e w'=>e= .returned (.int .i64 4)∧w'=w:=by
 go_enter Tryz.func107,Tryz.ntmps107;go_wp2_with fail
 go_ret;exact⟨rfl,rfl⟩
theorem sort_nil{p c:Nat}{a:Option Addr}{w:World} :
  Calls Tryz.prog 108 #[ptr p,.slice a 0 c] w fun e w'=>e= .returned (.int .i64 4)∧w'=w:=by
 go_enter Tryz.func108,Tryz.ntmps108;go_wp2_with fail
 go_ret;exact⟨rfl,rfl⟩
theorem rule_nil{p c num:Nat}{a:Option Addr}{w:World} :
  Calls Tryz.prog 109 #[ptr p,.int .i64 num,.slice a 0 c] w fun e w'=>e= .returned (.int .i64 4)∧w'=w:=by
 go_enter Tryz.func109,Tryz.ntmps109;go_wp2_with fail
 go_ret;exact⟨rfl,rfl⟩
theorem bracket_nil{p c num:Nat}{a:Option Addr}{w:World} :
  Calls Tryz.prog 110 #[ptr p,.int .i64 num,.slice a 0 c] w fun e w'=>e= .returned (.int .i64 4)∧w'=w:=by
 go_enter Tryz.func110,Tryz.ntmps110;go_wp2_with fail
 go_ret;exact⟨rfl,rfl⟩
theorem splitW_len(s:ByteArray):(splitW s).length=Lib.countB s spB+1:=Lib.splitB_all spB (by decide) 0 _ s rfl
theorem extract_le(s:ByteArray)(a b:Nat):(s.extract a b).size≤s.size:=by
 show(s.extract a b).data.size≤s.data.size;rw[ByteArray.data_extract];simp;omega
theorem splitB_size(sep:ByteArray)(sv:Nat):∀(k:Nat) (s:ByteArray),∀x∈Lib.splitB sep sv k s,x.size≤s.size
 |0,s=>fun x hx=>by simp[Lib.splitB] at hx;subst hx;exact Nat.le_refl _
 |k+1,s=>fun x hx=>by
  unfold Lib.splitB at hx;split at hx
  ·simp at hx;subst hx;exact Nat.le_refl _
  ·rcases List.mem_cons.1 hx with h|h
   ·subst h;exact extract_le _ _ _
   ·exact Nat.le_trans (splitB_size sep sv k _ x h) (extract_le _ _ _)
theorem splitW_size(s:ByteArray):∀x∈splitW s,x.size≤s.size:=splitB_size spB 0 _ s
theorem countB_le1(s:ByteArray):Lib.countB s spB≤s.size:=by
 have:=Lib.countB_le spB (by decide) s.size s (Nat.le_refl _);simpa using this
theorem split_c(s:ByteArray)(w:World)(h:MaxLenAt w)(hs:s.size≤1000000000):
  Calls Tryz.prog 106 #[.string s,.string ⟨#[32]⟩] w fun e w'=>e= .returned (.slice (some ⟨w.heap.size,0,none⟩) (splitW s).length (splitW s).length)∧w'=w.alloc (.cells ((splitW s).map Value.string).toArray TS):=by
 obtain⟨m,hm⟩:=h;rw[splitW_len];exact Tryz.strings_Split s ⟨#[32]⟩ m w (by omega) hm (by decide)
theorem ErrPost.none{B p:Nat}{A:RA}{o:Option RS}{w w':World}{n:Int}(ho:o=none)(hn:n≠0)(hk:Kp (fun k=>B≤k) w w'):ErrPost B p A o w (.returned (.int .i64 n)) w':=by
 subst ho;exact⟨n,rfl,hk,hn⟩
theorem RS.take_words{R:RS}{n:Nat}{s h:ByteArray}{l:List ByteArray}(h0:¬s.size=0)(h1:¬bt s 0=35)(hw:splitW s=h::l):
  R.take n s=if h=tokenB then R.token l false else if h=layoutB then R.token l true else if h=sortB then R.sort_ l
   else if h=ruleB then R.rule n l else if h=bracketB then R.bracket n l else none:=by
 unfold RS.take;rw[if_neg (by rintro(h2|h2);exact h0 h2;exact h1 h2),hw]
theorem take_c{B p num:Nat}{R:RS}{A:RA}{w:World}(s:ByteArray)(h:RdAt w B p R A)(ok:RSok R)(hm:MaxLenAt w)(hs:s.size≤1000000)(hnum:num≤2000000):
  Calls Tryz.prog 63 #[ptr p,.int .i64 num,.string s] w (ErrPost B p A (R.take num s) w):=by
 by_cases h0:s.size=0
 ·have he:=isE_true h0;have hF:Hid (R.take num s=some R):=Qh (by unfold RS.take;rw[if_pos (.inl h0)]);have H:=Qh (And.intro h ok);clear h ok h0;go_enter Tryz.func63,Tryz.ntmps63;go_wp2_with fail
  go_ret;refine⟨0,rfl,Qb _ _,?_⟩;rw[hF.out];exact⟨rfl,H.out.2,A,H.out.1,rfl,rfl⟩
 ·have he:=Yx h0;have hlt:0<s.size:=by omega
  have hlt':(0:Int)<s.size:=by omega
  have hE:=bt_in hlt;by_cases h1:bt s 0=35
  ·have i1:(((s[0].toNat:Nat):Int)==35)=true:=by rw[←hE];simp[h1]
   have hF:Hid (R.take num s=some R):=Qh (by unfold RS.take;rw[if_pos (.inr h1)]);have H:=Qh (And.intro h ok);clear h ok h1 hE;go_enter Tryz.func63,Tryz.ntmps63;go_wp2_with fail
   go_ret;refine⟨0,rfl,Qb _ _,?_⟩;rw[hF.out];exact⟨rfl,H.out.2,A,H.out.1,rfl,rfl⟩
  ·have i1:(((s[0].toNat:Nat):Int)==35)=false:=by rw[←hE];simp;omega
   obtain⟨hd,l,hsp⟩:∃hd l,splitW s=hd::l:=by
    have:=splitW_len s;cases hx:splitW s with
    |nil=>rw[hx] at this;simp at this
    |cons a l=>exact⟨a,l,rfl⟩
   have HSZ:Hid (∀x∈hd::l,x.size≤1000000):=Qh (fun x hx=>by have:=splitW_size s x (by rw[hsp];exact hx);omega);have hlen:l.length≤1000000:=by
    have e1:=splitW_len s;have e2:=countB_le1 s;rw[hsp] at e1;simp at e1;omega
   have hF:=RS.take_words (R:=R) (n:=num) h0 h1 hsp;have hSP:=split_c s w hm (by omega);rw[hsp] at hSP;simp only[List.length_cons] at hSP;obtain⟨bl,hbl⟩:∃z,z=w.heap.size:=⟨_,rfl⟩;obtain⟨w1,hw1⟩:∃z,z=w.alloc (.cells ((hd::l).map Value.string).toArray TS):=⟨_,rfl⟩;rw[←hbl,←hw1] at hSP;have HSP:=Qh hSP;have hk1:Kn w w1:=by rw[hw1];exact(Qb _ _).alloc _
   have hbb:w1.heap[bl]? =some (.cells ((hd::l).map Value.string).toArray TS (0,0)):=by rw[hw1,hbl];exact Qf _ _
   have x0:w1.cell? ⟨bl,0,none⟩=some (.string hd):=by rw[Qa hbb];try rfl
   have HWL:Hid (WL w1 bl 1 l):=Qh (fun i hi=>by
    rw[Qa hbb,List.getElem?_toArray,List.getElem?_map,show 1+i=i+1 by omega,List.getElem?_cons_succ,List.getElem?_eq_getElem hi];try rfl)
   have HO:Hid (Off A p bl):=Qh ⟨by have:=h.lt;omega,fun g hg=>by have:=(h.lits.lt g hg).2;omega,fun g hg=>by have:=(h.sorts.lt g hg).2;omega,by have:=h.names.lt;omega,by have:=h.cons.lt;omega,by have:=h.rounds.lt;omega⟩;have HR:=Qh (h.kn hk1);have HM:=Qh (hm.kn hk1);have HOK:=Qh ok;have HK1:=Qh hk1;have HF:=Qh hF;clear h ok hm hF hSP hbl hw1 hk1 hbb hsp h1 h0 hE;by_cases h1:hd=tokenB
   ·have c1:(hd.toList==[116,111,107,101,110])=true:=by rw[YB];exact decide_eq_true h1
    have hF2:Hid (R.take num s=R.token l false):=Qh (by rw[HF.out,if_pos h1]);clear h1;by_cases hl0:l=[]
    ·subst hl0;have hF3:Hid (R.take num s=none):=Qh (by rw[hF2.out];exact R.token_not [] _ (by simp));simp only[List.length_nil,Nat.zero_add] at HSP;go_enter Tryz.func63,Tryz.ntmps63;go_wp2_with fail
     refine HSP.out.mono ?_;rintro e9 w9 ⟨rfl,rfl⟩;go_wp2_with fail
     refine(token_nil (p:=p) (c:=0) false).mono ?_;rintro e9 w8 ⟨rfl,rfl⟩;go_wp2_with fail
     go_ret;exact ErrPost.none hF3.out (by decide) (Yj HK1.out)
    ·have hl1:0<l.length:=List.length_pos_iff.2 hl0;have hl2:¬l.length=0:=by omega
     have hl3:(0:Int)<l.length:=by omega
     clear hl0;go_enter Tryz.func63,Tryz.ntmps63;go_wp2_with fail
     refine HSP.out.mono ?_;rintro e9 w9 ⟨rfl,rfl⟩;go_wp2_with fail
     refine(token_c (c:=l.length) l false HR.out HOK.out HWL.out HO.out (by omega) (fun x hx=>by have:=HSZ.out x (by simp[hx]);omega)).mono ?_;rintro e9 w8 ⟨n9,rfl,hkz,hmz⟩;go_wp2_with fail
     go_ret;refine⟨n9,rfl,(Yj HK1.out).trans hkz,?_⟩;rw[hF2.out];exact hmz
   ·have c1:(hd.toList==[116,111,107,101,110])=false:=by rw[YB];exact decide_eq_false h1
    by_cases h2:hd=layoutB
    ·have c2:(hd.toList==[108,97,121,111,117,116])=true:=by rw[YB];exact decide_eq_true h2
     have hF2:Hid (R.take num s=R.token l true):=Qh (by rw[HF.out,if_neg h1,if_pos h2]);clear h2 h1;by_cases hl0:l=[]
     ·subst hl0;have hF3:Hid (R.take num s=none):=Qh (by rw[hF2.out];exact R.token_not [] _ (by simp));simp only[List.length_nil,Nat.zero_add] at HSP;go_enter Tryz.func63,Tryz.ntmps63;go_wp2_with fail
      refine HSP.out.mono ?_;rintro e9 w9 ⟨rfl,rfl⟩;go_wp2_with fail
      refine(token_nil (p:=p) (c:=0) true).mono ?_;rintro e9 w8 ⟨rfl,rfl⟩;go_wp2_with fail
      go_ret;exact ErrPost.none hF3.out (by decide) (Yj HK1.out)
     ·have hl1:0<l.length:=List.length_pos_iff.2 hl0;have hl2:¬l.length=0:=by omega
      have hl3:(0:Int)<l.length:=by omega
      clear hl0;go_enter Tryz.func63,Tryz.ntmps63;go_wp2_with fail
      refine HSP.out.mono ?_;rintro e9 w9 ⟨rfl,rfl⟩;go_wp2_with fail
      refine(token_c (c:=l.length) l true HR.out HOK.out HWL.out HO.out (by omega) (fun x hx=>by have:=HSZ.out x (by simp[hx]);omega)).mono ?_;rintro e9 w8 ⟨n9,rfl,hkz,hmz⟩;go_wp2_with fail
      go_ret;refine⟨n9,rfl,(Yj HK1.out).trans hkz,?_⟩;rw[hF2.out];exact hmz
    ·have c2:(hd.toList==[108,97,121,111,117,116])=false:=by rw[YB];exact decide_eq_false h2
     by_cases h3:hd=sortB
     ·have c3:(hd.toList==[115,111,114,116])=true:=by rw[YB];exact decide_eq_true h3
      have hF2:Hid (R.take num s=R.sort_ l):=Qh (by rw[HF.out,if_neg h1,if_neg h2,if_pos h3]);clear h3 h1 h2;by_cases hl0:l=[]
      ·subst hl0;have hF3:Hid (R.take num s=none):=Qh (by rw[hF2.out];exact rfl);simp only[List.length_nil,Nat.zero_add] at HSP;go_enter Tryz.func63,Tryz.ntmps63;go_wp2_with fail
       refine HSP.out.mono ?_;rintro e9 w9 ⟨rfl,rfl⟩;go_wp2_with fail
       refine(sort_nil (p:=p) (c:=0)).mono ?_;rintro e9 w8 ⟨rfl,rfl⟩;go_wp2_with fail
       go_ret;exact ErrPost.none hF3.out (by decide) (Yj HK1.out)
      ·have hl1:0<l.length:=List.length_pos_iff.2 hl0;have hl2:¬l.length=0:=by omega
       have hl3:(0:Int)<l.length:=by omega
       clear hl0;go_enter Tryz.func63,Tryz.ntmps63;go_wp2_with fail
       refine HSP.out.mono ?_;rintro e9 w9 ⟨rfl,rfl⟩;go_wp2_with fail
       refine(sort_c (c:=l.length) l HR.out HOK.out HWL.out HO.out (by omega) (fun x hx=>by have:=HSZ.out x (by simp[hx]);omega)).mono ?_;rintro e9 w8 ⟨n9,rfl,hkz,hmz⟩;go_wp2_with fail
       go_ret;refine⟨n9,rfl,(Yj HK1.out).trans hkz,?_⟩;rw[hF2.out];exact hmz
     ·have c3:(hd.toList==[115,111,114,116])=false:=by rw[YB];exact decide_eq_false h3
      by_cases h4:hd=ruleB
      ·have c4:(hd.toList==[114,117,108,101])=true:=by rw[YB];exact decide_eq_true h4
       have hF2:Hid (R.take num s=R.rule num l):=Qh (by rw[HF.out,if_neg h1,if_neg h2,if_neg h3,if_pos h4]);clear h4 h1 h2 h3;by_cases hl0:l=[]
       ·subst hl0;have hF3:Hid (R.take num s=none):=Qh (by rw[hF2.out];exact R.rule_short num [] (by simp));simp only[List.length_nil,Nat.zero_add] at HSP;go_enter Tryz.func63,Tryz.ntmps63;go_wp2_with fail
        refine HSP.out.mono ?_;rintro e9 w9 ⟨rfl,rfl⟩;go_wp2_with fail
        refine(rule_nil (p:=p) (c:=0) (num:=num)).mono ?_;rintro e9 w8 ⟨rfl,rfl⟩;go_wp2_with fail
        go_ret;exact ErrPost.none hF3.out (by decide) (Yj HK1.out)
       ·have hl1:0<l.length:=List.length_pos_iff.2 hl0;have hl2:¬l.length=0:=by omega
        have hl3:(0:Int)<l.length:=by omega
        clear hl0;go_enter Tryz.func63,Tryz.ntmps63;go_wp2_with fail
        refine HSP.out.mono ?_;rintro e9 w9 ⟨rfl,rfl⟩;go_wp2_with fail
        refine(grule_c (c0:=l.length) (num:=num) l HR.out HOK.out HM.out HWL.out HO.out (by omega) (Nat.le_refl _) (fun x hx=>HSZ.out x (by simp[hx])) hnum).mono ?_;rintro e9 w8 ⟨n9,rfl,hkz,hmz⟩;go_wp2_with fail
        go_ret;refine⟨n9,rfl,(Yj HK1.out).trans hkz,?_⟩;rw[hF2.out];exact hmz
      ·have c4:(hd.toList==[114,117,108,101])=false:=by rw[YB];exact decide_eq_false h4
       by_cases h5:hd=bracketB
       ·have c5:(hd.toList==[98,114,97,99,107,101,116])=true:=by rw[YB];exact decide_eq_true h5
        have hF2:Hid (R.take num s=R.bracket num l):=Qh (by rw[HF.out,if_neg h1,if_neg h2,if_neg h3,if_neg h4,if_pos h5]);clear h5 h1 h2 h3 h4;by_cases hl0:l=[]
        ·subst hl0;have hF3:Hid (R.take num s=none):=Qh (by rw[hF2.out];exact R.bracket_not num [] (by simp));simp only[List.length_nil,Nat.zero_add] at HSP;go_enter Tryz.func63,Tryz.ntmps63;go_wp2_with fail
         refine HSP.out.mono ?_;rintro e9 w9 ⟨rfl,rfl⟩;go_wp2_with fail
         refine(bracket_nil (p:=p) (c:=0) (num:=num)).mono ?_;rintro e9 w8 ⟨rfl,rfl⟩;go_wp2_with fail
         go_ret;exact ErrPost.none hF3.out (by decide) (Yj HK1.out)
        ·have hl1:0<l.length:=List.length_pos_iff.2 hl0;have hl2:¬l.length=0:=by omega
         have hl3:(0:Int)<l.length:=by omega
         clear hl0;go_enter Tryz.func63,Tryz.ntmps63;go_wp2_with fail
         refine HSP.out.mono ?_;rintro e9 w9 ⟨rfl,rfl⟩;go_wp2_with fail
         refine(bracket_c (c0:=l.length) (num:=num) l HR.out HOK.out HWL.out HO.out (by omega) (fun x hx=>HSZ.out x (by simp[hx])) hnum).mono ?_;rintro e9 w8 ⟨n9,rfl,hkz,hmz⟩;go_wp2_with fail
         go_ret;refine⟨n9,rfl,(Yj HK1.out).trans hkz,?_⟩;rw[hF2.out];exact hmz
       ·have c5:(hd.toList==[98,114,97,99,107,101,116])=false:=by rw[YB];exact decide_eq_false h5
        have hF2:Hid (R.take num s=none):=Qh (by rw[HF.out,if_neg h1,if_neg h2,if_neg h3,if_neg h4,if_neg h5]);clear h1 h2 h3 h4 h5;go_enter Tryz.func63,Tryz.ntmps63;go_wp2_with fail
        refine HSP.out.mono ?_;rintro e9 w9 ⟨rfl,rfl⟩;go_wp2_with fail
        go_ret;exact ErrPost.none hF2.out (by decide) (Yj HK1.out)
def clIdx(cs:List GC)(x:ByteArray)(k:Nat):Prop:=∀j (h:j<cs.length),j<k→cs[j].name≠x
theorem str_eq2(a b:ByteArray):(a.toList==b.toList)=decide (a=b):=by
 rw[YB];congr 1;rw[Lib.toList_data]
theorem class1_c{bx:Nat}{w:World}(c:GC)(x:ByteArray)(hb:w.heap[bx]? =some (.cells #[.string x] TS (0,0))):
  Calls Tryz.prog 253 #[.agg #[.string c.name,.string c.regex,.bool c.layout],.pointer (some ⟨bx,0,none⟩)] w fun e w'=>e= .returned (.bool (decide (c.name=x)))∧Kn w w':=by
 have c0:w.cell? ⟨bx,0,none⟩=some (.string x):=by rw[Qa hb];try rfl
 have hl:=Qj hb;have hE:=Qh (str_eq2 c.name x);clear hb;go_enter Tryz.func253,Tryz.ntmps253;go_wp2_with fail
 go_ret;exact⟨by rw[←hE.out];try rfl,(Qb _ _).alloc _⟩
def idxC(cs:List GC)(x:ByteArray):Int:=match cs.findIdx? (fun c=>decide (c.name=x)) with|some i=>(i:Int)|none=> -1
theorem clIdx_some{cs:List GC}{x:ByteArray}{k:Nat}(h:clIdx cs x k)(hk:k<cs.length)(hx:cs[k].name=x):cs.findIdx? (fun c=>decide (c.name=x))=some k:=by
 rw[List.findIdx?_eq_some_iff_getElem];exact⟨hk,decide_eq_true hx,fun j hj=>by simpa using h j (by omega) hj⟩
theorem clIdx_none{cs:List GC}{x:ByteArray}(h:clIdx cs x cs.length):cs.findIdx? (fun c=>decide (c.name=x))=none:=by
 rw[List.findIdx?_eq_none_iff];intro c hc;obtain⟨j,hj,rfl⟩:=List.getElem_of_mem hc;exact decide_eq_false (h j hj hj)
theorem indexFunc_c{B bx:Nat}{v:Value}{cs:List GC}{w:World}(x:ByteArray)(h:OwnK w B TCl 3 v (cs.map clL))(hb:w.heap[bx]? =some (.cells #[.string x] TS (0,0)))(hl:cs.length≤1000):
  Calls Tryz.prog 252 #[v,.func (.func 253) #[] #[.pointer (some ⟨bx,0,none⟩)]] w fun e w'=>e= .returned (.int .i64 (idxC cs x))∧Kn w w':=by
 obtain⟨a,c,rfl,_,_,hg⟩:=h.row (fun C hC=>by obtain⟨x,_,rfl⟩:=List.mem_map.1 hC;rfl);rw[List.length_map] at*;have H:=Qh h;have HB:=Qh hb;clear h hb;go_enter Tryz.func252,Tryz.ntmps252;go_wp2_with fail
 go_loopw [8] (fun s8 wr=>∃k:Nat,s8= .int .i64 k∧k≤cs.length∧Hid (clIdx cs x k)∧Kn w wr) (fun s8 _=>cs.length-(intOf s8).toNat)
 case atStart=>exact⟨0,rfl,Nat.zero_le _,Qh (fun j h1 h2=>by omega),Qb _ _⟩
 case round=>
  obtain⟨k,rfl,hk,hno,hkn⟩:=hrel;by_cases hlt:k<cs.length
  ·obtain⟨g,rfl,_,_,hcs⟩:=hg (fun e=>by rw[List.map_eq_nil_iff] at e;subst e;simp at hlt);have h3:=hcs k (by simpa using hlt);have c0:wr.cell? ⟨g,k*3,none⟩=some (.string cs[k].name):=by
    have:=(h3 0 (by omega)).1;rw[show 0+3*k+0=k*3 by omega] at this;refine Qc hkn ?_;rw[this];simp[clL]
   have c1:wr.cell? ⟨g,k*3+1,none⟩=some (.string cs[k].regex):=by
    have:=(h3 1 (by omega)).1;rw[show 0+3*k+1=k*3+1 by omega] at this;refine Qc hkn ?_;rw[this];simp[clL]
   have c2:wr.cell? ⟨g,k*3+2,none⟩=some (.bool cs[k].layout):=by
    have:=(h3 2 (by omega)).1;rw[show 0+3*k+2=k*3+2 by omega] at this;refine Qc hkn ?_;rw[this];simp[clL]
   obtain⟨y,hy⟩:∃y,y=cs[k]:=⟨_,rfl⟩;rw[←hy] at c0 c1 c2;have HC1:=Qh (class1_c y x (hkn.blk HB.out (fun x=>x)));have HY:=Qh hy;clear hy hcs h3;by_cases hx:y.name=x
   ·have hF:Hid (idxC cs x=(k:Nat)):=Qh (by unfold idxC;rw[clIdx_some hno.out hlt (by rw[←HY.out];exact hx)]);rw[decide_eq_true hx] at HC1;clear hx;go_wp2_with fail
    refine HC1.out.mono ?_;rintro e w4 ⟨rfl,hk4⟩;have hkn4:=hkn.trans hk4;go_wp2_with fail
    go_ret;exact⟨by rw[hF.out];try rfl,hkn4⟩
   ·have hN:Hid (clIdx cs x (k+1)):=Qh (fun j h1 h2=>by
     rcases Nat.lt_succ_iff_lt_or_eq.1 h2 with h|h
     ·exact hno.out j h1 h
     ·subst h;rw[←HY.out];exact hx)
    rw[decide_eq_false hx] at HC1;clear hx;go_wp2_with fail
    refine HC1.out.mono ?_;rintro e w4 ⟨rfl,hk4⟩;have hkn4:=hkn.trans hk4;go_wp2_with fail
    go_roundw
    case rel=>exact⟨k+1,by go_num,by omega,hN,hkn4⟩
    case measure=>simp[intOf];omega
  ·obtain rfl:k=cs.length:=by omega
   have hF:Hid (idxC cs x= -1):=Qh (by unfold idxC;rw[clIdx_none hno.out]);go_wp2_with fail
   go_ret;exact⟨by rw[hF.out];try rfl,hkn⟩
def clsV(R:RS)(x:ByteArray):Value:= .tuple #[.int .i64 ((R.lits.length:Int)+idxC R.cls x),.bool (decide (0≤idxC R.cls x))]
theorem idxC_ge(cs:List GC)(x:ByteArray): -1≤idxC cs x∧idxC cs x<cs.length:=by
 unfold idxC;split
 ·rename_i i h;obtain⟨h1,_⟩:=List.findIdx?_eq_some_iff_getElem.1 h;omega
 ·omega
theorem gclass_c{B p:Nat}{R:RS}{A:RA}{w:World}(x:ByteArray)(h:RdAt w B p R A)(ok:RSok R):
  Calls Tryz.prog 210 #[ptr p,.string x] w fun e w'=>e= .returned (clsV R x)∧Kn w w':=by
 obtain⟨a1,c1,hv1,_⟩:=h.cls.row (fun C hC=>by obtain⟨x,_,rfl⟩:=List.mem_map.1 hC;rfl);obtain⟨a0,c0,hv0,_⟩:=h.lits.look;rw[List.length_map] at hv1;have hk1:Kn w (w.alloc (.cells #[.string x] TS)):=(Qb _ _).alloc _;have hb:(w.alloc (.cells #[.string x] TS)).heap[w.heap.size]? =some (.cells #[.string x] TS (0,0)):=Qf _ _;obtain⟨w1,hw1⟩:∃z,z=w.alloc (.cells #[.string x] TS):=⟨_,rfl⟩;obtain⟨bx,hbx⟩:∃z,z=w.heap.size:=⟨_,rfl⟩;rw[←hw1,←hbx] at hb;rw[←hw1] at hk1;have hr1:=h.kn hk1;have hcl:=hr1.cls;rw[hv1] at hcl;have HIX:=Qh (indexFunc_c x hcl hb (by have:=ok.cls;omega));obtain⟨_,q1,_⟩:=hr1.cells;rw[hv1] at q1;have HR1:=Qh hr1;have HW:=Qh (And.intro hw1 hbx);have HV0:=Qh hv0;have hl:=ok.lits;have hc:=ok.cls;have hmf:∀(fn:Fn) (first cap:Array Value) (w:World),(Instr.makeFunc fn first cap).run Tryz.prog w= .ok (.func fn first cap) w:=fun _ _ _ _=>rfl
 have HRL:=Qh hl;clear h ok hv1 hb hw1 hbx hr1 hcl hv0;go_enter Tryz.func210,Tryz.ntmps210;go_upto_region 1 with fail
 rw[←HW.out.1,←HW.out.2];obtain⟨ix,hix⟩:∃ix,ix=idxC R.cls x:=⟨_,rfl⟩;have hge:=idxC_ge R.cls x;rw[←hix] at hge HIX;have HVV:Hid (clsV R x= .tuple #[.int .i64 ((R.lits.length:Int)+ix),.bool (decide (0≤ix))]):=Qh (by rw[hix];try rfl);clear hix;go_wp2_with fail
 refine HIX.out.mono ?_;rintro e w2 ⟨rfl,hk2⟩;have HK:=Qh (hk1.trans hk2);obtain⟨q0,_⟩:=(HR1.out.kn hk2).cells;rw[HV0.out] at q0;go_wp2_with fail
 go_ret2
 exact⟨by rw[HVV.out];try rfl,HK.out⟩
abbrev paV(q:GP):Value:= .agg #[.int .i64 q.cls,.int .i64 q.sort,.int .i64 q.level,.bool q.fixed]
def Part2Post(R:RS)(x:GW)(w:World)(e:Ending)(w':World):Prop:=
 Kn w w'∧∃(q:GP) (ok:Bool),e= .returned (.tuple #[paV q,.bool ok])∧match R.part x with|some q'=>ok=true∧q=q'|none=>ok=false
theorem part_sort{R:RS}{x:GW}(h0:x.lit.size=0)(h1:x.sort=true):R.part x=if 0≤Lib.idxOfS R.sorts x.name then some ⟨-1,Lib.idxOfS R.sorts x.name,x.level,false⟩ else none:=by
 unfold RS.part;rw[if_neg (by simp[h0]),if_pos h1]
theorem part_lit{R:RS}{x:GW}(h0:¬x.lit.size=0):R.part x=some ⟨Lib.idxOfS R.lits x.lit,-1,0,true⟩:=by
 unfold RS.part;rw[if_pos h0]
theorem part_cls{R:RS}{x:GW}(h0:x.lit.size=0)(h1:x.sort=false):(∃i:Nat,idxC R.cls x.name=i∧R.part x=some ⟨(R.lits.length+i:Nat),-1,0,false⟩)∨(idxC R.cls x.name= -1∧R.part x=none):=by
 unfold RS.part idxC;rw[if_neg (by simp[h0]),if_neg (by simp[h1])];cases R.cls.findIdx? (fun c=>decide (c.name=x.name)) with
 |some i=>exact .inl ⟨i,rfl,rfl⟩
 |none=>exact .inr ⟨rfl,rfl⟩
theorem part2_c{B p:Nat}{R:RS}{A:RA}{w:World}(x:GW)(h:RdAt w B p R A)(ok:RSok R):
  Calls Tryz.prog 160 #[ptr p,wdV x] w (Part2Post R x w):=by
 obtain⟨a0,c0,hv0,_⟩:=h.lits.look;obtain⟨a2,c2,hv2,_⟩:=h.sorts.look;have hl40:=ok.lits;obtain⟨bx,hbx⟩:∃z,z=w.heap.size:=⟨_,rfl⟩;obtain⟨b4,hb4⟩:∃z,z=w.heap.size+1:=⟨_,rfl⟩;obtain⟨w1,hw1⟩:∃z,z=(w.alloc (.cells #[.string x.lit,.string x.name,.int .i64 x.level,.bool x.sort] TWd)).alloc (.cells #[.int .i64 0,.int .i64 0,.int .i64 0,.bool false] TPa):=⟨_,rfl⟩;have hk1:Kn w w1:=by rw[hw1];exact((Qb _ _).alloc _).alloc _
 have hbb:w1.heap[bx]? =some (.cells #[.string x.lit,.string x.name,.int .i64 x.level,.bool x.sort] TWd (0,0)):=by rw[hw1,hbx];exact Qm (Qf _ _) _
 have hbr:w1.heap[b4]? =some (.cells #[.int .i64 0,.int .i64 0,.int .i64 0,.bool false] TPa (0,0)):=by
  have:=Qf (w.alloc (.cells #[.string x.lit,.string x.name,.int .i64 x.level,.bool x.sort] TWd)) (.cells #[.int .i64 0,.int .i64 0,.int .i64 0,.bool false] TPa);rw[size_alloc',←hb4,←hw1] at this;exact this
 have hr1:=h.kn hk1;obtain⟨q0,_,q2,_⟩:=hr1.cells;rw[hv0] at q0;rw[hv2] at q2;have d0:w1.cell? ⟨bx,0,none⟩=some (.string x.lit):=by rw[Qa hbb];try rfl
 have d1:w1.cell? ⟨bx,1,none⟩=some (.string x.name):=by rw[Qa hbb];try rfl
 have d2:w1.cell? ⟨bx,2,none⟩=some (.int .i64 x.level):=by rw[Qa hbb];try rfl
 have d3:w1.cell? ⟨bx,3,none⟩=some (.bool x.sort):=by rw[Qa hbb];try rfl
 have hol:=hr1.lits;have hos:=hr1.sorts;rw[hv0] at hol;rw[hv2] at hos;have HIL:=Qh (fun W (hk:Kn w1 W)=>index_c (w:=W) (QC hol hk (fun _ _ x=>x)) x.lit (by have:=ok.lits;omega));have HIS:=Qh (fun W (hk:Kn w1 W)=>index_c (w:=W) (QC hos hk (fun _ _ x=>x)) x.name (by have:=ok.sorts;omega));have HCL:=Qh (gclass_c x.name hr1 ok);have HW:=Qh (And.intro hw1 (And.intro hbx hb4));have HBR:=Qh hbr;have hnp:p≠b4:=by have:=h.lt;omega
 have hnx:bx≠b4:=by omega
 have HNW:=Qh (show w.heap.size≤b4 by omega);have HK1:=Qh hk1;have HB0:Hid (b4=w.heap.size+1):=Qh hb4;clear h ok hw1 hbx hb4 hbb hbr hr1 hol hos hk1 hv0 hv2;by_cases h0:x.lit.size=0
 ·have he:=isE_true h0;cases hso:x.sort with
  |true=>
   rw[hso] at d3;have hF:=part_sort (R:=R) h0 hso;obtain⟨ix,hix⟩:∃z,z=Lib.idxOfS R.sorts x.name:=⟨_,rfl⟩;rw[←hix] at hF HIS;have HF:=Qh hF;clear h0 hso hF hix;go_enter Tryz.func160,Tryz.ntmps160;go_upto_region 1 with fail
   rw[←HB0.out,←HW.out.1,←HW.out.2.1];go_wp2_with fail
   refine wp_region_held_drew (S:=fun w'=>w'.cell? ⟨p,2,none⟩=some (.slice a2 R.sorts.length c2)∧w'.cell? ⟨bx,1,none⟩=some (.string x.name)) (by kernel_rfl) ⟨Qc ((Qb _ _).drew) q2,Qc ((Qb _ _).drew) d1⟩ (fun hHeld=> ?_);obtain⟨wd,hwd⟩:∃zz,zz=w1.drew:=⟨_,rfl⟩;have hkd:Kn w1 wd:=by rw[hwd];exact(Qb _ _).drew
   rw[←hwd] at hHeld⊢;clear hwd;refine TW 0 23 ?_;refine TW 1 24 ?_;refine TW 2 25 ?_;refine TW 3 26 ?_;refine TH 4 27 ?_;refine TW 5 28 ?_;refine TH 6 29 ?_;refine RH 7 (fun K hK=> ?_);go_simp
   go_at_call 159
   refine(HIS.out wd hkd).mono ?_;rintro e9 w9 ⟨rfl,hw9⟩;rw[hw9];clear hw9 w9;dsimp only;refine hK.out _ _ hHeld (fun hHeld=> ?_);clear hK K
   try simp only[PP]
   refine TW 8 6 ?_;refine RD ?_;have x2l:=hHeld;clear hHeld;have hbd:=hkd.blk HBR.out (fun x=>x);have x0:wd.cell? ⟨b4,0,none⟩=some (.int .i64 0):=by rw[Qa hbd];try rfl
   have x1:wd.cell? ⟨b4,1,none⟩=some (.int .i64 0):=by rw[Qa hbd];try rfl
   have x2:wd.cell? ⟨b4,2,none⟩=some (.int .i64 0):=by rw[Qa hbd];try rfl
   have x3:wd.cell? ⟨b4,3,none⟩=some (.bool false):=by rw[Qa hbd];try rfl
   have f0:=Qd hbd 0;have f1:=Qd hbd 1;have f2:=Qd hbd 2;have f3:=Qd hbd 3;have e2:wd.cell? ⟨bx,2,none⟩=some (.int .i64 x.level):=Qc hkd d2;have hk13:=HK1.out.trans hkd;have HNW2:=HNW.out;clear x2l hbd d0 d1 d2 d3 q0 q2;go_wp2_with fail
   (try simp only[Exit.inBlock,Exit.then])
   refine bodyPost_ret (v:= .tuple #[paV ⟨-1,ix,x.level,false⟩,.bool (decide (0≤ix))]) (by rw[results_cell_tmp rfl];go_simp;try first|rfl|exact⟨rfl,rfl,rfl,rfl⟩) rfl ⟨?_,_,_,rfl,?_⟩
   ·(repeat' (first|exact hk13|refine Kp.drew ?_|refine Kp.setCell ?_ (fun hp=>by have hp2:b4<w.heap.size:=hp;omega) _))
   ·rw[HF.out];by_cases h9:0≤ix
    ·rw[if_pos h9];exact⟨decide_eq_true h9,rfl⟩
    ·rw[if_neg h9];exact decide_eq_false h9
  |false=>
   rw[hso] at d3;have hF:=part_cls (R:=R) h0 hso;have hge:=idxC_ge R.cls x.name;obtain⟨ix,hix⟩:∃z,z=idxC R.cls x.name:=⟨_,rfl⟩;have HVV:Hid (clsV R x.name= .tuple #[.int .i64 ((R.lits.length:Int)+ix),.bool (decide (0≤ix))]):=Qh (by rw[hix];try rfl);rw[HVV.out] at HCL;rw[←hix] at hF hge;have HF:=Qh hF;clear h0 hso hF hix HVV;go_enter Tryz.func160,Tryz.ntmps160;go_upto_region 1 with fail
   rw[←HB0.out,←HW.out.1,←HW.out.2.1];go_wp2_with fail
   refine HCL.out.mono ?_;rintro e9 w3 ⟨rfl,hk3⟩;have hb3:=hk3.blk HBR.out (fun x=>x);have x0:w3.cell? ⟨b4,0,none⟩=some (.int .i64 0):=by rw[Qa hb3];try rfl
   have x1:w3.cell? ⟨b4,1,none⟩=some (.int .i64 0):=by rw[Qa hb3];try rfl
   have x2:w3.cell? ⟨b4,2,none⟩=some (.int .i64 0):=by rw[Qa hb3];try rfl
   have x3:w3.cell? ⟨b4,3,none⟩=some (.bool false):=by rw[Qa hb3];try rfl
   have f0:=Qd hb3 0;have f1:=Qd hb3 1;have f2:=Qd hb3 2;have f3:=Qd hb3 3;have hk13:=HK1.out.trans hk3;have HNW2:=HNW.out;clear hb3 d0 d1 d2 d3 q0 q2;go_wp2_with fail
   (try simp only[Exit.inBlock,Exit.then])
   refine bodyPost_ret (v:= .tuple #[paV ⟨(R.lits.length:Int)+ix,-1,0,false⟩,.bool (decide (0≤ix))]) (by rw[results_cell_tmp rfl];go_simp;try first|rfl|exact⟨rfl,rfl,rfl,rfl⟩) rfl ⟨?_,_,_,rfl,?_⟩
   ·(repeat' (first|exact hk13|refine Kp.drew ?_|refine Kp.setCell ?_ (fun hp=>by have hp2:b4<w.heap.size:=hp;omega) _))
   ·rcases HF.out with⟨i,h1,h2⟩|⟨h1,h2⟩
    ·rw[h2,h1];exact⟨by simp,by simp⟩
    ·rw[h2,h1];try rfl
 ·have he:=Yx h0;have hF:=part_lit (R:=R) h0;obtain⟨ix,hix⟩:∃z,z=Lib.idxOfS R.lits x.lit:=⟨_,rfl⟩;rw[←hix] at hF HIL;have HF:=Qh hF;clear h0 hF hix;go_enter Tryz.func160,Tryz.ntmps160;go_upto_region 1 with fail
  rw[←HB0.out,←HW.out.1,←HW.out.2.1];go_wp2_with fail
  refine wp_region_held_drew (S:=fun w'=>True) (by kernel_rfl) trivial (fun hHeld=> ?_);obtain⟨wd,hwd⟩:∃zz,zz=w1.drew:=⟨_,rfl⟩;have hkd:Kn w1 wd:=by rw[hwd];exact(Qb _ _).drew
  rw[←hwd];clear hwd;refine TW 0 12 ?_;refine TW 1 13 ?_;refine TW 2 14 ?_;refine TW 3 15 ?_;refine TW 5 17 ?_;refine RH2 4 6 (fun K hK=> ?_) (fun K hK=> ?_)
  ·have xq:wd.cell? ⟨p,0,none⟩=some (.slice a0 R.lits.length c0):=Qc hkd q0;go_simp;clear xq;refine hK.out _ _ trivial (fun hHeld=> ?_);clear hK K
   try simp only[PP]
   refine RH 6 (fun K hK=> ?_);have xq:wd.cell? ⟨bx,0,none⟩=some (.string x.lit):=Qc hkd d0;go_simp;clear xq;refine hK.out _ _ trivial (fun hHeld=> ?_);clear hK K
   try simp only[PP]
   refine RH 7 (fun K hK=> ?_);go_simp
   go_at_call 159
   refine(HIL.out wd hkd).mono ?_;rintro e9 w9 ⟨rfl,hw9⟩;rw[hw9];clear hw9 w9;dsimp only;refine hK.out _ _ trivial (fun hHeld=> ?_);clear hK K
   try simp only[PP]
   refine TW 8 20 ?_;refine RH 9 (fun K hK=> ?_);have hbd:=hkd.blk HBR.out (fun x=>x);have x0:wd.cell? ⟨b4,0,none⟩=some (.int .i64 0):=by rw[Qa hbd];try rfl
   have x1:wd.cell? ⟨b4,1,none⟩=some (.int .i64 0):=by rw[Qa hbd];try rfl
   have x2:wd.cell? ⟨b4,2,none⟩=some (.int .i64 0):=by rw[Qa hbd];try rfl
   have x3:wd.cell? ⟨b4,3,none⟩=some (.bool false):=by rw[Qa hbd];try rfl
   have f0:=Qd hbd 0;have f1:=Qd hbd 1;have f2:=Qd hbd 2;have f3:=Qd hbd 3;go_simp;refine hK.out _ _ trivial (fun hHeld=> ?_);clear hK K
   try simp only[PP]
   refine TW 10 5 ?_;refine RD ?_;clear hHeld;have hk13:=HK1.out.trans hkd;have HNW2:=HNW.out;go_wp2_with fail
   (try simp only[Exit.inBlock,Exit.then])
   refine bodyPost_ret (v:= .tuple #[paV ⟨ix,-1,0,true⟩,.bool true]) (by rw[results_cell_tmp rfl];go_simp;try first|rfl|exact⟨rfl,rfl,rfl,rfl⟩) rfl ⟨?_,_,_,rfl,?_⟩
   ·(repeat' (first|exact hk13|refine Kp.drew ?_|refine Kp.setCell ?_ (fun hp=>by have hp2:b4<w.heap.size:=hp;omega) _))
   ·rw[HF.out];exact⟨rfl,rfl⟩
  ·have xq:wd.cell? ⟨bx,0,none⟩=some (.string x.lit):=Qc hkd d0;go_simp;clear xq;refine hK.out _ _ trivial (fun hHeld=> ?_);clear hK K
   try simp only[PP]
   refine RH 4 (fun K hK=> ?_);have xq:wd.cell? ⟨p,0,none⟩=some (.slice a0 R.lits.length c0):=Qc hkd q0;go_simp;clear xq;refine hK.out _ _ trivial (fun hHeld=> ?_);clear hK K
   try simp only[PP]
   refine RH 7 (fun K hK=> ?_);go_simp
   go_at_call 159
   refine(HIL.out wd hkd).mono ?_;rintro e9 w9 ⟨rfl,hw9⟩;rw[hw9];clear hw9 w9;dsimp only;refine hK.out _ _ trivial (fun hHeld=> ?_);clear hK K
   try simp only[PP]
   refine TW 8 20 ?_;refine RH 9 (fun K hK=> ?_);have hbd:=hkd.blk HBR.out (fun x=>x);have x0:wd.cell? ⟨b4,0,none⟩=some (.int .i64 0):=by rw[Qa hbd];try rfl
   have x1:wd.cell? ⟨b4,1,none⟩=some (.int .i64 0):=by rw[Qa hbd];try rfl
   have x2:wd.cell? ⟨b4,2,none⟩=some (.int .i64 0):=by rw[Qa hbd];try rfl
   have x3:wd.cell? ⟨b4,3,none⟩=some (.bool false):=by rw[Qa hbd];try rfl
   have f0:=Qd hbd 0;have f1:=Qd hbd 1;have f2:=Qd hbd 2;have f3:=Qd hbd 3;go_simp;refine hK.out _ _ trivial (fun hHeld=> ?_);clear hK K
   try simp only[PP]
   refine TW 10 5 ?_;refine RD ?_;clear hHeld;have hk13:=HK1.out.trans hkd;have HNW2:=HNW.out;go_wp2_with fail
   (try simp only[Exit.inBlock,Exit.then])
   refine bodyPost_ret (v:= .tuple #[paV ⟨ix,-1,0,true⟩,.bool true]) (by rw[results_cell_tmp rfl];go_simp;try first|rfl|exact⟨rfl,rfl,rfl,rfl⟩) rfl ⟨?_,_,_,rfl,?_⟩
   ·(repeat' (first|exact hk13|refine Kp.drew ?_|refine Kp.setCell ?_ (fun hp=>by have hp2:b4<w.heap.size:=hp;omega) _))
   ·rw[HF.out];exact⟨rfl,rfl⟩
end Go.Proofs.YtiehgcfckhepaaaGreatDoor
