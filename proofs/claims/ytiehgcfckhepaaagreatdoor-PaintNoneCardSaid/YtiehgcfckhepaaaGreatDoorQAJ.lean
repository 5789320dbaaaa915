/-
  Texts of this claim, laid together: LRun, SScan, VKind, VOf, GParse, GEval, VEval, GRules, VNone. Conditions: none.
-/
import Derived.Test.YtiehgcfckhepaaaGreatDoorQAG
import Derived.Test.YtiehgcfckhepaaaGreatDoorQAA
import Derived.Test.YtiehgcfckhepaaaGreatDoorQAI
import Derived.Test.YtiehgcfckhepaaaGreatDoorQAC
set_option linter.unusedVariables false
set_option linter.unusedSimpArgs false
set_option maxRecDepth 100000
set_option maxHeartbeats 16000000
namespace Go.Proofs.YtiehgcfckhepaaaGreatDoor
open Go.RowKit Go.Maps
abbrev LS:=List (List Int×Int)
def lnx(x:LS)(n b:Nat):Int:=(x.getD n ([],-1)).1.getD b (-1)
def lac(x:LS)(n:Nat):Int:=(x.getD n ([],-1)).2
theorem LOk.nx{x:LS}(h:LOk x x.length)(hp:0<x.length)(n b:Nat): -1≤lnx x n b∧lnx x n b<x.length:=by
 unfold lnx;simp only[List.getD_eq_getElem?_getD];cases hs:x[n]? with
 |none=>simp;omega
 |some s=>
  rw[Option.getD_some];cases hx:s.1[b]? with
  |none=>simp;omega
  |some y=>exact(h s (List.mem_of_getElem? hs)).2.1 y (List.mem_of_getElem? hx)
theorem LOk.ac{x:LS}(h:LOk x x.length)(n:Nat): -1≤lac x n∧lac x n<1000000:=by
 unfold lac;simp only[List.getD_eq_getElem?_getD];cases hs:x[n]? with
 |none=>simp
 |some s=>exact(h s (List.mem_of_getElem? hs)).2.2
def Yh(x:LS)(s:ByteArray):Nat→Nat→Nat→Int→Nat→Int×Nat×Nat
 |0,_,_,r,z=>(r,z,s.size)
 |f+1,i,n,r,z=>
  if i<s.size then
   if lnx x n (bt s i)= -1 then(r,z,i+1)
   else if lac x (lnx x n (bt s i)).toNat= -1 then Yh x s f (i+1) (lnx x n (bt s i)).toNat r z
   else Yh x s f (i+1) (lnx x n (bt s i)).toNat (lac x (lnx x n (bt s i)).toNat) (i+1)
  else(r,z,s.size)
def longF(x:LS)(s:ByteArray):Int×Nat×Nat:=Yh x s (s.size+1) 0 0 (-1) 0
def runGo(x:LS)(s:ByteArray):Nat→Nat→Nat→Option Nat
 |0,_,n=>some n
 |f+1,i,n=>if i<s.size then(if lnx x n (bt s i)= -1 then none else runGo x s f (i+1) (lnx x n (bt s i)).toNat) else some n
def runF(x:LS)(s:ByteArray):Option Nat:=runGo x s (s.size+1) 0 0
theorem longGo_ok(x:LS)(s:ByteArray):∀(f i n:Nat) (r:Int) (z:Nat),i≤s.size→z≤i→(r= -1∨0<z)→
  (Yh x s f i n r z).2.1≤s.size∧(Yh x s f i n r z).2.2≤s.size∧((Yh x s f i n r z).1= -1∨0<(Yh x s f i n r z).2.1)
 |0,i,n,r,z,hi,hz,hr=>⟨by simp only[Yh];omega,by simp only[Yh];omega,by simp only[Yh];exact hr⟩
 |f+1,i,n,r,z,hi,hz,hr=>by
  unfold Yh;split
  ·split
   ·exact⟨by dsimp only;omega,by dsimp only;omega,hr⟩
   ·split
    ·exact longGo_ok x s f _ _ _ _ (by omega) (by omega) hr
    ·exact longGo_ok x s f _ _ _ _ (by omega) (by omega) (.inr (by omega))
  ·exact⟨by dsimp only;omega,by dsimp only;omega,hr⟩
theorem longF_ok(x:LS)(s:ByteArray):(longF x s).2.1≤s.size∧(longF x s).2.2≤s.size∧((longF x s).1= -1∨0<(longF x s).2.1):=longGo_ok x s _ 0 0 (-1) 0 (Nat.zero_le _) (Nat.le_refl _) (.inl rfl)
theorem LeastAt.look{w:World}{pl:Nat}{x:LS}(h:LeastAt w pl x):∃g c,w.cell? ⟨pl,0,none⟩=some (.slice (some ⟨g,0,none⟩) x.length c)∧
  (∀n b,n<x.length→b<256→w.cell? ⟨g,n*257+b,none⟩=some (.int .i64 (lnx x n b)))∧(∀n,n<x.length→w.cell? ⟨g,n*257+256,none⟩=some (.int .i64 (lac x n))):=by
 obtain⟨gof,nn,vout,zs,hi,ho,hp,_⟩:=h;have hlen:∀C∈x.map lsC,C.length=257:=fun C hC=>by
  obtain⟨y,hy,rfl⟩:=List.mem_map.1 hC;unfold lsC;rw[Array.length_toList,Yb (hi.nl y hy)]
 obtain⟨a,c,hv,_,_,hg⟩:=hi.row.row hlen;obtain⟨g,rfl,_,_,hc⟩:=hg (fun e=>by rw[List.map_eq_nil_iff] at e;rw[e] at hp;simp at hp);rw[List.length_map] at hv;have c0:w.cell? ⟨pl,0,none⟩=some vout:=by rw[Qa hi.blk];try rfl
 have key:∀n b,n<x.length→b<257→w.cell? ⟨g,n*257+b,none⟩=(lsC (x.getD n ([],-1)))[b]? :=fun n b hn hb=>by
  have:=(hc n (by rw[List.length_map];exact hn) b hb).1;rw[show 0+257*n+b=n*257+b by omega] at this;rw[this,List.getElem_map,List.getD_eq_getElem?_getD,List.getElem?_eq_getElem hn,Option.getD_some]
 refine⟨g,c,by rw[c0,hv],fun n b hn hb=> ?_,fun n hn=> ?_⟩
 ·have hl:(x.getD n ([],-1)).1.length=256:=by
   rw[List.getD_eq_getElem?_getD,List.getElem?_eq_getElem hn,Option.getD_some];exact hi.nl _ (List.getElem_mem hn)
  rw[key n b hn (by omega)];unfold lsC YC lnx;obtain⟨q,hq⟩:∃q,q=x.getD n ([],-1):=⟨_,rfl⟩;rw[←hq] at hl⊢;have h9:q.1[b]? =some (q.1.getD b (-1)):=by rw[List.getD_eq_getElem?_getD,List.getElem?_eq_getElem (by omega)];try rfl
  rw[List.getElem?_append_left (by rw[List.length_map];omega),List.getElem?_map,h9];rfl
 ·have hl:(x.getD n ([],-1)).1.length=256:=by
   rw[List.getD_eq_getElem?_getD,List.getElem?_eq_getElem hn,Option.getD_some];exact hi.nl _ (List.getElem_mem hn)
  rw[key n 256 hn (by omega)];unfold lsC YC lac;rw[List.getElem?_append_right (by rw[List.length_map];omega),List.length_map,hl];rfl
theorem LeastAt.ok{w:World}{pl:Nat}{x:LS}(h:LeastAt w pl x):LOk x x.length∧0<x.length∧x.length≤2000:=by obtain⟨_,_,_,_,_,h⟩:=h;exact h
theorem LStates_c(pl:Nat)(x:LS)(w:World)(h:LeastAt w pl x):
  Calls Tryz.prog 299 #[ptr pl] w fun e w'=>e= .returned (.int .i64 x.length)∧w=w':=by
 obtain⟨g,c,h1,_⟩:=h.look;clear h;go_enter Tryz.func299,Tryz.ntmps299;go_wp2_with fail
 go_ret;exact⟨rfl,rfl⟩
theorem LHas_c(pl n:Nat)(x:LS)(w:World)(h:LeastAt w pl x)(hn:n<x.length):
  Calls Tryz.prog 242 #[ptr pl,.int .i64 n] w fun e w'=>e= .returned (.bool true)∧w=w':=by
 have H:=Qh (LStates_c pl x w h);clear h;go_enter Tryz.func242,Tryz.ntmps242;go_wp2_with fail
 refine H.out.mono ?_;rintro e w' ⟨rfl,rfl⟩;go_wp2_with fail
 go_ret;exact⟨rfl,rfl⟩
theorem LAccept_c(pl n:Nat)(x:LS)(w:World)(h:LeastAt w pl x)(hn:n<x.length):
  Calls Tryz.prog 196 #[ptr pl,.int .i64 n] w fun e w'=>e= .returned (.int .i64 (lac x n))∧w=w':=by
 have H:=Qh (LHas_c pl n x w h hn);obtain⟨g,c,h1,_,h2⟩:=h.look;have h3:=h2 n hn;clear h h2;go_enter Tryz.func196,Tryz.ntmps196;go_wp2_with fail
 refine H.out.mono ?_;rintro e w' ⟨rfl,rfl⟩;go_wp2_with fail
 go_ret;exact⟨rfl,rfl⟩
theorem LNext_c(pl n b:Nat)(x:LS)(w:World)(h:LeastAt w pl x)(hn:n<x.length)(hb:b<256):
  Calls Tryz.prog 195 #[ptr pl,.int .i64 n,.int .u8 b] w fun e w'=>e= .returned (nxV (lnx x n b))∧w=w':=by
 have H:=Qh (LHas_c pl n x w h hn);obtain⟨g,c,h1,h2,_⟩:=h.look;have h3:=h2 n b hn hb;have hb2:(b:Int)<256:=by omega
 clear h h2;obtain⟨y,hy⟩:∃y,y=lnx x n b:=⟨_,rfl⟩;rw[←hy] at h3⊢;clear hy;by_cases e:y= -1
 ·subst e;go_enter Tryz.func195,Tryz.ntmps195;go_wp2_with fail
  refine H.out.mono ?_;rintro e w' ⟨rfl,rfl⟩;go_wp2_with fail
  go_ret2
  exact⟨rfl,rfl⟩
 ·have e2:(y== -1)=false:=by rw[beq_eq_false_iff_ne];exact e
  have HE:=Qh e;go_enter Tryz.func195,Tryz.ntmps195;go_wp2_with fail
  refine H.out.mono ?_;rintro e w' ⟨rfl,rfl⟩;go_wp2_with fail
  go_ret2
  exact⟨by rw[nxV,if_neg HE.out];try rfl,rfl⟩
theorem longGo_step{x:LS}{s:ByteArray}{k n z:Nat}{r:Int}{Z:Int×Nat×Nat}(h:Yh x s (s.size+1-k) k n r z=Z)(hk:k<s.size):
  (if lnx x n (bt s k)= -1 then(r,z,k+1)
   else if lac x (lnx x n (bt s k)).toNat= -1 then Yh x s (s.size+1-(k+1)) (k+1) (lnx x n (bt s k)).toNat r z
   else Yh x s (s.size+1-(k+1)) (k+1) (lnx x n (bt s k)).toNat (lac x (lnx x n (bt s k)).toNat) (k+1))=Z:=by
 rw[show s.size+1-k=(s.size+1-(k+1))+1 by omega,Yh,if_pos hk] at h;exact h
theorem longGo_end{x:LS}{s:ByteArray}{n z:Nat}{r:Int}{Z:Int×Nat×Nat}(h:Yh x s (s.size+1-s.size) s.size n r z=Z):Z=(r,z,s.size):=by
 rw[show s.size+1-s.size=0+1 by omega,Yh,if_neg (Nat.lt_irrefl _)] at h;exact h.symm
theorem runGo_step{x:LS}{s:ByteArray}{k n:Nat}{Z:Option Nat}(h:runGo x s (s.size+1-k) k n=Z)(hk:k<s.size):
  (if lnx x n (bt s k)= -1 then none else runGo x s (s.size+1-(k+1)) (k+1) (lnx x n (bt s k)).toNat)=Z:=by
 rw[show s.size+1-k=(s.size+1-(k+1))+1 by omega,runGo,if_pos hk] at h;exact h
theorem runGo_end{x:LS}{s:ByteArray}{n:Nat}{Z:Option Nat}(h:runGo x s (s.size+1-s.size) s.size n=Z):Z=some n:=by
 rw[show s.size+1-s.size=0+1 by omega,runGo,if_neg (Nat.lt_irrefl _)] at h;exact h.symm
def longV(z:Int×Nat×Nat):Value:= .tuple #[.int .i64 z.1,.int .i64 z.2.1,.int .i64 z.2.2]
theorem longest_c(pl:Nat)(x:LS)(s:ByteArray)(w:World)(h:LeastAt w pl x)(hs:s.size≤1000000000):
  Calls Tryz.prog 139 #[ptr pl,.string s] w fun e w'=>e= .returned (longV (longF x s))∧w=w':=by
 have hok:=h.ok;have H:=Qh h;have HK:=Qh hok;clear h hok;go_enter Tryz.func139,Tryz.ntmps139;go_wp2_with fail
 go_loop [7,8,9,15] (fun s7 s8 s9 s15=>∃(k n z:Nat) (r:Int),s7= .int .i64 r∧s8= .int .i64 z∧s9= .int .i64 n∧s15= .int .i64 k∧k≤s.size∧Hid (n<x.length)∧Hid (Yh x s (s.size+1-k) k n r z=longF x s)) (fun _ _ _ s15=>s.size-(intOf s15).toNat)
 case atStart=>exact⟨0,0,0,-1,rfl,rfl,rfl,rfl,Nat.zero_le _,Qh HK.out.2.1,Qh rfl⟩
 case round=>
  obtain⟨k,n,z,r,rfl,rfl,rfl,rfl,hk,HN,HG⟩:=hrel;by_cases hlt:k<s.size
  ·have hE:=bt_in hlt;have hst:=longGo_step HG.out hlt;rw[hE] at hst;have hnx:=HK.out.1.nx HK.out.2.1 n s[k].toNat;have HC:=Qh (LNext_c pl n s[k].toNat x w H.out HN.out s[k].toNat_lt);obtain⟨y,hy⟩:∃y,y=lnx x n s[k].toNat:=⟨_,rfl⟩;rw[←hy] at hst hnx HC;clear hE hy;by_cases e:y= -1
   ·rw[if_pos e] at hst;subst e;have HS:=Qh hst;clear hst hnx;go_wp2_with fail
    refine HC.out.mono ?_;rintro e w' ⟨rfl,rfl⟩;rw[nxV,if_pos rfl];go_wp2_with fail
    go_ret3
    exact⟨by rw[←HS.out];unfold longV;go_num,rfl⟩
   ·rw[if_neg e] at hst;obtain⟨m,rfl⟩:=Int.eq_ofNat_of_zero_le (show 0≤y by omega);have hm:m<x.length:=by omega
    rw[Int.toNat_natCast] at hst;rw[nxV,if_neg e] at HC;have HA:=Qh (LAccept_c pl m x w H.out hm);obtain⟨q,hq⟩:∃q,q=lac x m:=⟨_,rfl⟩;rw[←hq] at hst HA;clear e hnx hq;by_cases e:q= -1
    ·rw[if_pos e] at hst;subst e;have HS:=Qh hst;have HM:=Qh hm;clear hst hm;go_wp2_with fail
     refine HC.out.mono ?_;rintro e w' ⟨rfl,rfl⟩;go_wp2_with fail
     refine HA.out.mono ?_;rintro e w' ⟨rfl,rfl⟩;go_wp2_with fail
     go_round
     case rel=>exact⟨k+1,m,z,r,rfl,rfl,rfl,by go_num,by omega,HM,HS⟩
     case measure=>simp[intOf];omega
    ·rw[if_neg e] at hst;have e2:(q != -1)=true:=by simp[e]
     have HS:=Qh hst;have HM:=Qh hm;clear hst hm e;go_wp2_with fail
     refine HC.out.mono ?_;rintro e w' ⟨rfl,rfl⟩;go_wp2_with fail
     refine HA.out.mono ?_;rintro e w' ⟨rfl,rfl⟩;go_wp2_with fail
     refine HA.out.mono ?_;rintro e w' ⟨rfl,rfl⟩;go_wp2_with fail
     go_round
     case rel=>exact⟨k+1,m,k+1,q,rfl,by go_num,rfl,by go_num,by omega,HM,HS⟩
     case measure=>simp[intOf];omega
  ·obtain rfl:k=s.size:=by omega
   have HS:=Qh (longGo_end HG.out);clear HG;go_wp2_with fail
   go_ret3
   exact⟨by rw[HS.out];try rfl,rfl⟩
def runV(o:Option Nat):Value:=match o with|some n=> .tuple #[.int .i64 n,.bool true]|none=> .tuple #[.int .i64 0,.bool false]
theorem lrun_c(pl:Nat)(x:LS)(s:ByteArray)(w:World)(h:LeastAt w pl x)(hs:s.size≤1000000000):
  Calls Tryz.prog 140 #[ptr pl,.string s] w fun e w'=>e= .returned (runV (runF x s))∧w=w':=by
 have hok:=h.ok;have H:=Qh h;have HK:=Qh hok;clear h hok;go_enter Tryz.func140,Tryz.ntmps140;go_wp2_with fail
 go_loop [6,7,8] (fun s6 s7 s8=>(∃(k n:Nat),s6= .int .i64 n∧s7= .bool true∧s8= .int .i64 k∧k≤s.size∧Hid (n<x.length)∧Hid (runGo x s (s.size+1-k) k n=runF x s))∨(∃k:Nat,s6= .int .i64 0∧s7= .bool false∧s8= .int .i64 k∧k≤s.size∧Hid (runF x s=none))) (fun _ _ s8=>s.size-(intOf s8).toNat)
 case atStart=>exact .inl ⟨0,0,rfl,rfl,rfl,Nat.zero_le _,Qh HK.out.2.1,Qh rfl⟩
 case round=>
  rcases hrel with⟨k,n,rfl,rfl,rfl,hk,HN,HG⟩|⟨k,rfl,rfl,rfl,hk,HF⟩
  ·by_cases hlt:k<s.size
   ·have hE:=bt_in hlt;have hst:=runGo_step HG.out hlt;rw[hE] at hst;have hnx:=HK.out.1.nx HK.out.2.1 n s[k].toNat;have HC:=Qh (LNext_c pl n s[k].toNat x w H.out HN.out s[k].toNat_lt);obtain⟨y,hy⟩:∃y,y=lnx x n s[k].toNat:=⟨_,rfl⟩;rw[←hy] at hst hnx HC;clear hE hy;by_cases e:y= -1
    ·rw[if_pos e] at hst;subst e;have HS:=Qh hst;clear hst hnx;go_wp2_with fail
     refine HC.out.mono ?_;rintro e w' ⟨rfl,rfl⟩;rw[nxV,if_pos rfl];go_wp2_with fail
     go_round
     case rel=>exact .inr ⟨k+1,rfl,rfl,by go_num,by omega,Qh HS.out.symm⟩
     case measure=>simp[intOf];omega
    ·rw[if_neg e] at hst;obtain⟨m,rfl⟩:=Int.eq_ofNat_of_zero_le (show 0≤y by omega);have hm:m<x.length:=by omega
     rw[Int.toNat_natCast] at hst;rw[nxV,if_neg e] at HC;have HS:=Qh hst;have HM:=Qh hm;clear hst hm e hnx;go_wp2_with fail
     refine HC.out.mono ?_;rintro e w' ⟨rfl,rfl⟩;go_wp2_with fail
     go_round
     case rel=>exact .inl ⟨k+1,m,rfl,rfl,by go_num,by omega,HM,HS⟩
     case measure=>simp[intOf];omega
   ·obtain rfl:k=s.size:=by omega
    have HS:=Qh (runGo_end HG.out);clear HG;go_wp2_with fail
    go_ret2
    exact⟨by rw[HS.out];try rfl,rfl⟩
  ·by_cases hlt:k<s.size
   all_goals
    go_wp2_with fail
    go_ret2
    exact⟨by rw[HF.out];try rfl,rfl⟩
abbrev TTk:TypeId:=39
structure Tok where
 cls:Int
 lo:Nat
 hi:Nat
 look:Nat
def tkL(t:Tok):List Value:=[.int .i64 t.cls,.int .i64 t.lo,.int .i64 t.hi,.int .i64 t.look]
def tkV(t:Tok):Value:= .agg (tkL t).toArray
def tokF(x:LS)(s:ByteArray)(k:Nat):Tok:=
 let z:=longF x (s.extract k s.size)
 ⟨z.1,k,k+(if z.1= -1 then 1 else z.2.1),if(runF x (s.extract k (k+z.2.2))).isSome=true∧k+z.2.2=s.size then k+z.2.2+1 else k+z.2.2⟩
def scanGo(x:LS)(s:ByteArray):Nat→Nat→List Tok
 |0,_=>[]
 |f+1,k=>if k<s.size then tokF x s k::scanGo x s f (tokF x s k).hi else[]
def scanTok(x:LS)(s:ByteArray):List Tok:=scanGo x s (s.size+1) 0
theorem extract_size(s:ByteArray)(a b:Nat)(h:a≤b)(hb:b≤s.size):(s.extract a b).size=b-a:=by
 rw[ByteArray.size_extract];omega
theorem tokF_ok(x:LS)(s:ByteArray)(k:Nat)(h:k<s.size):k<(tokF x s k).hi∧(tokF x s k).hi≤s.size∧(tokF x s k).lo=k:=by
 obtain⟨h1,h2,h3⟩:=longF_ok x (s.extract k s.size);rw[extract_size s k s.size (by omega) (Nat.le_refl _)] at h1 h2;unfold tokF;dsimp only;split
 ·exact⟨by omega,by omega,rfl⟩
 ·refine⟨by rcases h3 with h3|h3;contradiction;omega,by omega,rfl⟩
theorem set4{w w':World}{b:Nat}(h:Kn w w')(hb:¬b<w.heap.size){v0 v1 v2 v3:Value} :Kn w ((((w'.setCell ⟨b,0,none⟩ v0).setCell ⟨b,1,none⟩ v1).setCell ⟨b,2,none⟩ v2).setCell ⟨b,3,none⟩ v3):=
 (((h.setCell (fun x=>(hb x).elim) _).setCell (fun x=>(hb x).elim) _).setCell (fun x=>(hb x).elim) _).setCell (fun x=>(hb x).elim) _
theorem snext_c{ps k:Nat}{cs:List GC}{l:List DS}{x:LS}{w:World}(s:ByteArray)(h:ScanAt w ps cs l)(hx:x=leastF l)(hs:s.size≤1000000000)(hk:k<s.size):
  Calls Tryz.prog 101 #[ptr ps,.string s,.int .i64 k] w fun e w'=>e= .returned (tkV (tokF x s k))∧Kn w w':=by
 obtain⟨pl,bn,vcl,B,hn,hl⟩:=h;rw[←hx] at hl;have x0:w.cell? ⟨ps,0,none⟩=some (ptr pl):=by rw[Qa hn.blk];try rfl
 have hpl:=Qk hn.blk;obtain⟨h1,h2,h3⟩:=longF_ok x (s.extract k s.size);have hes:=extract_size s k s.size (by omega) (Nat.le_refl _);rw[hes] at h1 h2;obtain⟨o,ho⟩:∃o:Obj,o= .cells #[.int .i64 0,.int .i64 0,.int .i64 0,.int .i64 0] TTk:=⟨_,rfl⟩;have HL:Hid (∀n,Calls Tryz.prog 139 #[ptr pl,.string (s.extract k s.size)] ((w.alloc o).drewN n) fun e w'=>e= .returned (longV (longF x (s.extract k s.size)))∧(w.alloc o).drewN n=w'):=
  Qh (fun n=>longest_c pl x _ _ (hl.kn (((Qb _ _).alloc _).drewN n)) (by rw[hes];omega))
 have hF:tokF x s k=⟨(longF x (s.extract k s.size)).1,k,k+(if(longF x (s.extract k s.size)).1= -1 then 1 else(longF x (s.extract k s.size)).2.1),if(runF x (s.extract k (k+(longF x (s.extract k s.size)).2.2))).isSome=true∧k+(longF x (s.extract k s.size)).2.2=s.size then k+(longF x (s.extract k s.size)).2.2+1 else k+(longF x (s.extract k s.size)).2.2⟩:=rfl;obtain⟨z,hz⟩:∃z,z=longF x (s.extract k s.size):=⟨_,rfl⟩;rw[←hz] at HL h1 h2 h3 hF;obtain⟨c,sz,lk⟩:=z;dsimp only at h1 h2 h3 hF;obtain⟨lo,hlo⟩:∃lo,lo=k+lk:=⟨_,rfl⟩;rw[←hlo] at hF;have HR:Hid (∀n,Calls Tryz.prog 140 #[ptr pl,.string (s.extract k lo)] ((w.alloc o).drewN n) fun e w'=>e= .returned (runV (runF x (s.extract k lo)))∧(w.alloc o).drewN n=w'):=
  Qh (fun n=>lrun_c pl x _ _ (hl.kn (((Qb _ _).alloc _).drewN n)) (by rw[ByteArray.size_extract];omega))
 obtain⟨q,hq⟩:∃q,q=runF x (s.extract k lo):=⟨_,rfl⟩;rw[←hq] at HR hF;have e1:(k:Int)+(lk:Int)=(lo:Int):=by omega
 have b1:(k:Int)≤(lo:Int):=by omega
 have b2:(lo:Int)≤(s.size:Int):=by omega
 have b3:(0:Int)≤(k:Int):=by omega
 have b4:(k:Int)≤(s.size:Int):=by omega
 have b5:(0:Int)≤(lo:Int):=by omega
 have b6:lo≤s.size:=by omega
 have b7:(sz:Int)≤(s.size:Int):=by omega
 have E1:=Qh e1;unfold longV at HL;dsimp only at HL;have hcases:((c== -1)=true∧tokF x s k=⟨c,k,k+1,if q.isSome=true∧lo=s.size then lo+1 else lo⟩∧c= -1)∨((c== -1)=false∧tokF x s k=⟨c,k,k+sz,if q.isSome=true∧lo=s.size then lo+1 else lo⟩):=by
  by_cases e:c= -1
  ·rw[if_pos e] at hF;exact .inl ⟨by simp[e],hF,e⟩
  ·rw[if_neg e] at hF;exact .inr ⟨by simp[e],hF⟩
 subst ho;clear hn hl hx hz h3 hq hlo e1 hes hF;cases q with
 |none=>
  simp only[Option.isSome_none,Bool.false_eq_true,false_and,if_false] at hcases;unfold runV at HR;rcases hcases with⟨_,hF,rfl⟩|⟨hc,hF⟩
  all_goals
   have HF:=Qh hF;clear hF;go_enter Tryz.func101,Tryz.ntmps101;go_upto_region 1 with fail
   go_quiet ((go_at_call 139;first|exact quiet_left (HL.out _)|exact Ya (HL.out _)))
   go_upto_region 3 with fail
   rw[E1.out];go_quiet ((go_at_call 140;first|exact quiet_left (HR.out _)|exact Ya (HR.out _)))
   go_wp2_with fail
   refine bodyPost_ret (v:=tkV (tokF x s k)) (by rw[HF.out];simp[results,Tryz.results101,go_sem,tkV,tkL]) rfl ⟨rfl,?_⟩;exact set4 (((Qb _ _).alloc _).drewN _) (Nat.lt_irrefl _)
 |some m=>
  unfold runV at HR;dsimp only at HR;by_cases el:lo=s.size
  ·rw[if_pos ⟨rfl,el⟩] at hcases;have i1:((lo:Int)==(s.size:Int))=true:=by rw[beq_iff_eq];omega
   have EL:=Qh el;clear el;rcases hcases with⟨_,hF,rfl⟩|⟨hc,hF⟩
   all_goals
    have HF:=Qh hF;clear hF;go_enter Tryz.func101,Tryz.ntmps101;go_upto_region 1 with fail
    go_quiet ((go_at_call 139;first|exact quiet_left (HL.out _)|exact Ya (HL.out _)))
    go_upto_region 3 with fail
    rw[E1.out];go_quiet ((go_at_call 140;first|exact quiet_left (HR.out _)|exact Ya (HR.out _)))
    go_wp2_with fail
    refine bodyPost_ret (v:=tkV (tokF x s k)) (by rw[HF.out];simp[results,Tryz.results101,go_sem,tkV,tkL]) rfl ⟨rfl,?_⟩;exact set4 (((Qb _ _).alloc _).drewN _) (Nat.lt_irrefl _)
  ·rw[if_neg (fun h=>el h.2)] at hcases;have i1:((lo:Int)==(s.size:Int))=false:=by rw[beq_eq_false_iff_ne];omega
   have EL:=Qh el;clear el;rcases hcases with⟨_,hF,rfl⟩|⟨hc,hF⟩
   all_goals
    have HF:=Qh hF;clear hF;go_enter Tryz.func101,Tryz.ntmps101;go_upto_region 1 with fail
    go_quiet ((go_at_call 139;first|exact quiet_left (HL.out _)|exact Ya (HL.out _)))
    go_upto_region 3 with fail
    rw[E1.out];go_quiet ((go_at_call 140;first|exact quiet_left (HR.out _)|exact Ya (HR.out _)))
    go_wp2_with fail
    refine bodyPost_ret (v:=tkV (tokF x s k)) (by rw[HF.out];simp[results,Tryz.results101,go_sem,tkV,tkL]) rfl ⟨rfl,?_⟩;exact set4 (((Qb _ _).alloc _).drewN _) (Nat.lt_irrefl _)
theorem info_tk:(Tryz.prog.info? TTk).map (fun i=>(i.zero,i.size,i.bytes))=some (some (.agg #[.int .i64 0,.int .i64 0,.int .i64 0,.int .i64 0]),4,32):=by kernel_rfl
theorem scanGo_fuel{x:LS}{s:ByteArray} :∀(f g k:Nat),s.size-k<f→s.size-k<g→scanGo x s f k=scanGo x s g k
 |0,_,_,h,_=>by omega
 |_+1,0,_,_,h=>by omega
 |f+1,g+1,k,hf,hg=>by
  rw[scanGo,scanGo];split
  ·rename_i hk;obtain⟨h1,h2,_⟩:=tokF_ok x s k hk;rw[scanGo_fuel f g _ (by omega) (by omega)]
  ·rfl
theorem scan_step{x:LS}{s:ByteArray}{k:Nat}{ts Z:List Tok}(h:ts++scanGo x s (s.size+1) k=Z)(hk:k<s.size):(ts++[tokF x s k])++scanGo x s (s.size+1) (tokF x s k).hi=Z:=by
 obtain⟨h1,h2,_⟩:=tokF_ok x s k hk;have e1:scanGo x s (s.size+1) k=tokF x s k::scanGo x s s.size (tokF x s k).hi:=by rw[scanGo,if_pos hk]
 rw[←h,e1,scanGo_fuel (s.size+1) s.size _ (by omega) (by omega)];simp
theorem scan_c{ps:Nat}{cs:List GC}{l:List DS}{x:LS}{w:World}(s:ByteArray)(h:ScanAt w ps cs l)(hx:x=leastF l)(hs:s.size≤1000000):
  Calls Tryz.prog 59 #[ptr ps,.string s] w fun e w'=>∃v,e= .returned (.tuple #[v,.int .i64 0])∧OwnK w' w.heap.size TTk 4 v ((scanTok x s).map tkL)∧Kn w w':=by
 obtain⟨i0,hi,hz0,hz1,hz2⟩:=info_parts info_tk;have HI:=Qh (And.intro hi (And.intro hz0 (And.intro hz1 hz2)));have HN:=Qh (fun(W:World) (hk:Kn w W) (k:Nat) (hlt:k<s.size)=>snext_c s (h.kn hk) hx (by omega) hlt);have hps:ps<w.heap.size:=by obtain⟨_,_,_,_,h1,_⟩:=h;exact Qk h1.blk
 clear h hi hz0 hz1 hz2 hx;go_enter Tryz.func59,Tryz.ntmps59;go_wp2_with fail
 go_loopw [6,7] (fun s6 s7 wr=>∃(k:Nat) (v:Value) (ts:List Tok),v=s6∧s7= .int .i64 k∧k≤s.size∧Hid (ts.length≤k)∧Hid (ts++scanGo x s (s.size+1) k=scanTok x s)∧Hid (OwnK wr w.heap.size TTk 4 v (ts.map tkL))∧Kn w wr) (fun _ s7 _=>s.size-(intOf s7).toNat)
 case atStart=>exact⟨0,_,[],rfl,rfl,Nat.zero_le _,Qh (Nat.le_refl _),Qh rfl,Qh OwnK.nil,Qb _ _⟩
 case round=>
  obtain⟨k,v,ts,rfl,rfl,hk,HT,HG,HO,hkn⟩:=hrel;by_cases hlt:k<s.size
  ·have HC:=Qh (HN.out wr hkn k hlt);have HS:=Qh (scan_step HG.out hlt);obtain⟨o1,o2,o3⟩:=tokF_ok x s k hlt;obtain⟨t,ht⟩:∃t,t=tokF x s k:=⟨_,rfl⟩;rw[←ht] at HC HS o1 o2 o3;obtain⟨c,lo,hi,lk⟩:=t;unfold tkV tkL at HC;dsimp only at HC HS o1 o2 o3;subst o3;clear ht HG;go_wp2_with fail
   refine HC.out.mono ?_;rintro e w1 ⟨rfl,hk1⟩;have HK1:=Qh hk1;have HO1:=Qh (HO.out.kn hk1);have hsz:=(hkn.trans hk1).size;clear hk1;go_upto_region 10 with(at_builtin;refine QG _ rfl (.tmp 24) (.tmp 26) 117 rfl w.heap.size TTk i0 _ 4 32 Tryz.underlying117 HI.out.1 HI.out.2.1 HI.out.2.2.1 HI.out.2.2.2 rfl (by omega) v (ts.map tkL) rfl ((HO1.out.kn ((Qb _ _).alloc _)).kn ((Qb _ _).alloc _)) (w1.heap.size+1) 1 rfl #[.int .i64 c,.int .i64 lo,.int .i64 hi,.int .i64 lk] TTk (0,0) (blk_at _ _ (by simp)) rfl (by simp[Value.oneCell']) (by rw[List.length_map];have:=HT.out;unfold maxLen;omega) (by rw[List.length_map];have:=HT.out;omega) (by simp;omega) ?_;intro v' w2 hown hk2 _)
   have u2:w2.cell? ⟨w1.heap.size,2,none⟩=some (.int .i64 hi):=Qi hk2 (by rw[Qa (Qp (Qf w1 _) _)];try rfl) (fun e=>by obtain⟨cur,h9⟩:=YL HO1.out e.symm;exact Nat.lt_irrefl _ (Qk h9));have HO2:=Qh hown;have HK2:=Qh hk2;clear hown hk2;go_wp2_with fail
   go_roundw
   case rel=>
    refine⟨hi,v',ts++[⟨c,lo,hi,lk⟩],rfl,rfl,o2,Qh (by have:=HT.out;rw[List.length_append,List.length_singleton];omega),HS,Qh (by rw[List.map_append];exact HO2.out),?_⟩;refine(hkn.trans HK1.out).trans' ((((Qb _ w1).alloc _).alloc _).trans HK2.out) (fun i hi e=> ?_);have h9:=(HO.out.lt i e.symm).1;omega
   case measure=>simp[intOf];omega
  ·obtain rfl:k=s.size:=by omega
   have hE:scanTok x s=ts:=by
    have:=HG.out;rw[scanGo,if_neg (Nat.lt_irrefl _),List.append_nil] at this;exact this.symm
   have HE:=Qh hE;clear hE HG;go_wp2_with fail
   go_ret2
   exact⟨v,rfl,by rw[HE.out];exact HO.out,hkn⟩
abbrev TPt:TypeId:=124
def letterF(s:ByteArray):Bool:=decide (0<s.size)&&(decide (97≤bt s 0)&&decide (bt s 0≤122)||decide (65≤bt s 0)&&decide (bt s 0≤90))
def blankB:ByteArray:=⟨#[32,9,10,13]⟩
def trimF(s:ByteArray):List UInt8:=Lib.trimS s.data.toList blankB.data.toList
def pkF(R:RS)(t:Tok)(s:ByteArray):Nat:=
 if t.cls<0∨(QA R).length≤t.cls then 5 else match R.lits[t.cls.toNat]? with
 |some x=>if letterF x=true then 0 else 1
 |none=>match(QA R)[t.cls.toNat]? with
  |some c=>if c.layout=false then 2 else if trimF (s.extract t.lo t.hi)=[] then 4 else 3
  |none=>5
theorem pletter_c(s:ByteArray)(w:World):Calls Tryz.prog 103 #[.string s] w fun e w'=>e= .returned (.bool (letterF s))∧w=w':=by
 by_cases h0:s.size=0
 ·obtain rfl:s=⟨#[]⟩:=by
   obtain⟨d⟩:=s;have:d= #[]:=Array.eq_empty_of_size_eq_zero h0;rw[this]
  clear h0;go_enter Tryz.func103,Tryz.ntmps103;go_wp2_with fail
  go_ret;exact⟨rfl,rfl⟩
 ·have hlt:0<s.size:=by omega
  have b0:(0:Int)<s.size:=by omega
  have hE:=bt_in hlt;have f0:s.toList.isEmpty=false:=by
   rw[Lib.toList_data];cases e:s.data.toList with
   |nil=>exact absurd (show s.size=0 by show s.data.size=0;rw[←Array.length_toList,e];try rfl) h0
   |cons a l=>rfl
  have hF:letterF s=(decide (97≤s[0].toNat)&&decide (s[0].toNat≤122)||decide (65≤s[0].toNat)&&decide (s[0].toNat≤90)):=by
   unfold letterF;rw[hE,decide_eq_true hlt,Bool.true_and]
  have hc:(97≤s[0].toNat∧s[0].toNat≤122)∨(122<s[0].toNat)∨(s[0].toNat<97∧90<s[0].toNat)∨(65≤s[0].toNat∧s[0].toNat≤90)∨s[0].toNat<65:=by omega
  obtain⟨c,hcc⟩:∃c,c=s[0].toNat:=⟨_,rfl⟩;rw[←hcc] at hc hF;have hD:∃d1 d2 d3 d4:Bool,decide ((97:Int)≤((s[0].toNat:Nat):Int))=d1∧decide (((s[0].toNat:Nat):Int)≤122)=d2∧decide ((65:Int)≤((s[0].toNat:Nat):Int))=d3∧decide (((s[0].toNat:Nat):Int)≤90)=d4∧letterF s=(d1&&d2||d3&&d4)∧((d1=true∧d2=true)∨(d1=true∧d2=false∧d3=true∧d4=false)∨(d1=false∧d3=true∧d4=false)∨(d1=false∧d3=true∧d4=true)∨(d1=false∧d3=false)):=by
   refine⟨_,_,_,_,rfl,rfl,rfl,rfl,?_,?_⟩
   ·rw[hF,←hcc];rw[show decide ((97:Int)≤((c:Nat):Int))=decide (97≤c) by(apply decide_eq_decide.2;omega),show decide (((c:Nat):Int)≤122)=decide (c≤122) by(apply decide_eq_decide.2;omega),show decide ((65:Int)≤((c:Nat):Int))=decide (65≤c) by(apply decide_eq_decide.2;omega),show decide (((c:Nat):Int)≤90)=decide (c≤90) by(apply decide_eq_decide.2;omega)]
   ·rw[←hcc];simp only[decide_eq_true_eq,decide_eq_false_iff_not];omega
  obtain⟨d1,d2,d3,d4,e1,e2,e3,e4,hL,hd⟩:=hD;have HL:=Qh hL;clear hL hF hcc hc hE h0;rcases hd with⟨rfl,rfl⟩|⟨rfl,rfl,rfl,rfl⟩|⟨rfl,rfl,rfl⟩|⟨rfl,rfl,rfl⟩|⟨rfl,rfl⟩
  all_goals
   go_enter Tryz.func103,Tryz.ntmps103;go_wp2_with fail
   go_ret;exact⟨by rw[HL.out];simp,rfl⟩
theorem cls_cell{w:World}{B:Nat}{v:Value}{cs:List GC}(h:OwnK w B TCl 3 v (cs.map clL)){i:Nat}(hi:i<cs.length):∃g c,v= .slice (some ⟨g,0,none⟩) cs.length c∧w.cell? ⟨g,i*3+2,none⟩=some (.bool cs[i].layout):=by
 obtain⟨a,c,hv,_,_,hg⟩:=h.row (fun C hC=>by obtain⟨x,_,rfl⟩:=List.mem_map.1 hC;rfl);rw[List.length_map] at hv;obtain⟨g,rfl,_,_,hc⟩:=hg (fun e=>by rw[List.map_eq_nil_iff] at e;rw[e] at hi;simp at hi);have:=(hc i (by rw[List.length_map];exact hi) 2 (by omega)).1;rw[show 0+3*i+2=i*3+2 by omega] at this;refine⟨g,c,hv,?_⟩;rw[this,List.getElem_map];try rfl
theorem pkind_c{B Bc p:Nat}{R:RS}{A:RA}{w:World}{vcl:Value}(t:Tok)(s:ByteArray)(h:RdAt w B p R A)(ok:RSok R)(hv:OwnK w Bc TCl 3 vcl ((QA R).map clL))(h1:t.lo≤t.hi)(h2:t.hi≤s.size)(hs:s.size≤1000000):
  Calls Tryz.prog 61 #[.agg #[ptr p,vcl],tkV t,.string s] w fun e w'=>e= .returned (.int .i64 (pkF R t s:Nat))∧Kn w w':=by
 obtain⟨cls,lo,hi,look⟩:=t;dsimp only at h1 h2;obtain⟨av,cv,hvs,_⟩:=hv.row (fun C hC=>by obtain⟨x,_,rfl⟩:=List.mem_map.1 hC;rfl);rw[List.length_map] at hvs;obtain⟨n,hn⟩:∃n,n=(QA R).length:=⟨_,rfl⟩;rw[←hn] at hvs;obtain⟨b3,hb3⟩:∃z,z=w.heap.size:=⟨_,rfl⟩;obtain⟨b4,hb4⟩:∃z,z=w.heap.size+1:=⟨_,rfl⟩;obtain⟨w2,hw2⟩:∃z,z=(w.alloc (.cells #[ptr p,vcl] TPt)).alloc (.cells #[.int .i64 cls,.int .i64 lo,.int .i64 hi,.int .i64 look] TTk):=⟨_,rfl⟩;have hk2:Kn w w2:=by rw[hw2];exact((Qb _ _).alloc _).alloc _
 have hB3:w2.heap[b3]? =some (.cells #[ptr p,vcl] TPt (0,0)):=by rw[hw2,hb3];exact Qp (Qf _ _) _
 have hB4:w2.heap[b4]? =some (.cells #[.int .i64 cls,.int .i64 lo,.int .i64 hi,.int .i64 look] TTk (0,0)):=by rw[hw2,hb4];exact blk_at _ _ (by simp)
 have x30:w2.cell? ⟨b3,0,none⟩=some (ptr p):=by rw[Qa hB3];try rfl
 have x31:w2.cell? ⟨b3,1,none⟩=some vcl:=by rw[Qa hB3];try rfl
 have x40:w2.cell? ⟨b4,0,none⟩=some (.int .i64 cls):=by rw[Qa hB4];try rfl
 have x41:w2.cell? ⟨b4,1,none⟩=some (.int .i64 lo):=by rw[Qa hB4];try rfl
 have x42:w2.cell? ⟨b4,2,none⟩=some (.int .i64 hi):=by rw[Qa hB4];try rfl
 rw[hvs] at x31;have HW:=Qh (And.intro hw2 (And.intro hb3 hb4));have HK2:=Qh hk2;have HVS:=Qh hvs;have HH:=Qh (h.kn hk2);have HOK:=Qh ok;have HV2:=Qh (hv.kn hk2);have HN:=Qh hn;have g1:decide ((lo:Int)<0)=false:=decide_eq_false (by omega);have g2:decide ((hi:Int)<(lo:Int))=false:=decide_eq_false (by omega);have g3:decide ((s.size:Int)<(hi:Int))=false:=decide_eq_false (by omega);have i1:(lo:Int)≤(hi:Int):=by omega
 have i2:(hi:Int)≤(s.size:Int):=by omega
 have i3:(0:Int)≤(lo:Int):=by omega
 have i4:(0:Int)≤(hi:Int):=by omega
 unfold tkV tkL;dsimp only;clear h ok hv hw2 hb3 hb4 hB3 hB4 hk2 hvs hn;by_cases hc0:cls<0
 ·have g4:decide (cls<0)=true:=decide_eq_true hc0;have HF:Hid (pkF R ⟨cls,lo,hi,look⟩ s=5):=Qh (by unfold pkF;rw[if_pos (.inl hc0)]);clear hc0;go_enter Tryz.func61,Tryz.ntmps61;go_upto_region 1 with fail
  rw[←HW.out.1,←HW.out.2.2,←HW.out.2.1];go_wp2_with fail
  go_ret;exact⟨by rw[HF.out];try rfl,HK2.out⟩
 ·have g4:decide (cls<0)=false:=decide_eq_false hc0;by_cases hc1:(n:Int)≤cls
  ·have g5:decide ((n:Int)≤cls)=true:=decide_eq_true hc1;have HF:Hid (pkF R ⟨cls,lo,hi,look⟩ s=5):=Qh (by unfold pkF;rw[←HN.out,if_pos (.inr hc1)]);clear hc0 hc1;go_enter Tryz.func61,Tryz.ntmps61;go_upto_region 1 with fail
   rw[←HW.out.1,←HW.out.2.2,←HW.out.2.1];rw[HVS.out];go_wp2_with fail
   go_ret;exact⟨by rw[HF.out];try rfl,HK2.out⟩
  ·have g5:decide ((n:Int)≤cls)=false:=decide_eq_false hc1;obtain⟨i,rfl⟩:=Int.eq_ofNat_of_zero_le (show 0≤cls by omega);have hin:i<n:=by omega
   have HLT:=Qh (literal_at HH.out HOK.out i);have hF:pkF R ⟨(i:Int),lo,hi,look⟩ s=match R.lits[i]? with
     |some x=>if letterF x=true then 0 else 1
     |none=>match(QA R)[i]? with
      |some c=>if c.layout=false then 2 else if trimF (s.extract lo hi)=[] then 4 else 3
      |none=>5:=by
    unfold pkF;rw[←HN.out,if_neg (by dsimp only;omega)];rfl
   clear hc0 hc1;cases hl:R.lits[i]? with
   |some x=>
    rw[hl] at hF HLT;dsimp only at hF;have HLL:=Qh (pletter_c x);obtain⟨b,hb⟩:∃b,b=letterF x:=⟨_,rfl⟩;rw[←hb] at hF HLL;unfold litV at HLT;clear hl hb;cases b
    all_goals
     have HF:=Qh hF;clear hF;go_enter Tryz.func61,Tryz.ntmps61;go_upto_region 1 with fail
     rw[←HW.out.1,←HW.out.2.2,←HW.out.2.1];go_wp2_with fail
     refine HLT.out.mono ?_;rintro e w' ⟨rfl,rfl⟩;go_wp2_with fail
     refine(HLL.out _).mono ?_;rintro e w' ⟨rfl,rfl⟩;go_wp2_with fail
     go_ret;exact⟨by rw[HF.out];try rfl,HK2.out⟩
   |none=>
    rw[hl] at hF HLT;dsimp only at hF;have hil:i<(QA R).length:=by rw[←HN.out];exact hin
    obtain⟨gc,cc,hvg,hcell⟩:=cls_cell HV2.out hil;rw[HVS.out] at hvg;obtain rfl:av=some ⟨gc,0,none⟩:=by injection hvg
    rw[List.getElem?_eq_getElem hil] at hF;dsimp only at hF;obtain⟨ly,hly⟩:∃b,b=(QA R)[i].layout:=⟨_,rfl⟩;rw[←hly] at hF hcell;unfold litV at HLT;have j1:(i:Int)<(n:Int):=by omega
    have j2:(0:Int)≤(i:Int):=by omega
    clear hl hly hvg hil;cases ly with
    |false=>
     rw[if_pos rfl] at hF;have HF:=Qh hF;clear hF;go_enter Tryz.func61,Tryz.ntmps61;go_upto_region 1 with fail
     rw[←HW.out.1,←HW.out.2.2,←HW.out.2.1];go_wp2_with fail
     refine HLT.out.mono ?_;rintro e w' ⟨rfl,rfl⟩;go_wp2_with fail
     go_ret;exact⟨by rw[HF.out];try rfl,HK2.out⟩
    |true=>
     rw[if_neg (by simp)] at hF;have hT:Calls Tryz.prog 104 #[.string (s.extract lo hi),.string ⟨#[32,9,10,13]⟩] w2 (fun e w'=>e= .returned (.string ⟨(trimF (s.extract lo hi)).toArray⟩)∧Below w2.heap.size w2 w'):=
      Any.strings_Trim_laid Tryz.trimL (by kernel_rfl) (s.extract lo hi) ⟨#[32,9,10,13]⟩ w2 (by rw[ByteArray.size_extract];omega) (by decide) (ascii_of_all (by decide))
     obtain⟨r,hr⟩:∃r,r=trimF (s.extract lo hi):=⟨_,rfl⟩;rw[←hr] at hT hF;clear hr;cases r with
     |nil=>
      rw[if_pos rfl] at hF;have HF:=Qh hF;have HT:=Qh hT;clear hF hT;go_enter Tryz.func61,Tryz.ntmps61;go_upto_region 1 with fail
      rw[←HW.out.1,←HW.out.2.2,←HW.out.2.1];go_wp2_with fail
      refine HLT.out.mono ?_;rintro e w' ⟨rfl,rfl⟩;go_wp2_with fail
      refine HT.out.mono ?_;rintro e w' ⟨rfl,hk⟩;have HK:=Qh (HK2.out.trans (YA hk));clear hk;go_wp2_with fail
      go_ret;exact⟨by rw[HF.out];try rfl,HK.out⟩
     |cons c0 r=>
      rw[if_neg (by simp)] at hF;have HF:=Qh hF;obtain⟨z,hz⟩:∃z:ByteArray,z=⟨(c0::r).toArray⟩:=⟨_,rfl⟩;rw[←hz] at hT;have f0:z.toList.isEmpty=false:=by rw[hz,Lib.toList_data];try rfl
      have HT:=Qh hT;clear hF hT hz;go_enter Tryz.func61,Tryz.ntmps61;go_upto_region 1 with fail
      rw[←HW.out.1,←HW.out.2.2,←HW.out.2.1];go_wp2_with fail
      refine HLT.out.mono ?_;rintro e w' ⟨rfl,rfl⟩;go_wp2_with fail
      refine HT.out.mono ?_;rintro e w' ⟨rfl,hk⟩;have HK:=Qh (HK2.out.trans (YA hk));clear hk;go_wp2_with fail
      go_ret;exact⟨by rw[HF.out];try rfl,HK.out⟩
abbrev TSp:TypeId:=115
structure Sp where
 lo:Nat
 hi:Nat
 kind:Nat
def spL(x:Sp):List Value:=[.int .i64 (x.lo:Nat),.int .i64 (x.hi:Nat),.int .i64 (x.kind:Nat)]
def ofF(R:RS)(s:ByteArray)(ts:List Tok):List Sp:=(ts.filter (fun t=>decide (pkF R t s≠4))).map (fun t=>⟨t.lo,t.hi,pkF R t s⟩)
theorem ofF_succ(R:RS)(s:ByteArray)(ts:List Tok)(k:Nat)(h:k<ts.length):ofF R s (ts.take (k+1))=if pkF R ts[k] s=4 then ofF R s (ts.take k) else ofF R s (ts.take k)++[⟨ts[k].lo,ts[k].hi,pkF R ts[k] s⟩]:=by
 unfold ofF;rw[List.take_succ_eq_append_getElem h,List.filter_append,List.map_append];split
 ·rename_i e;simp[e]
 ·rename_i e;simp[e]
theorem pkF_le(R:RS)(t:Tok)(s:ByteArray):pkF R t s≤5:=by
 unfold pkF
 repeat' split
 all_goals omega
theorem info_sp:(Tryz.prog.info? TSp).map (fun i=>(i.zero,i.size,i.bytes))=some (some (.agg #[.int .i64 0,.int .i64 0,.int .i64 0]),3,24):=by kernel_rfl
theorem tk_cells{w:World}{B:Nat}{v:Value}{ts:List Tok}(h:OwnK w B TTk 4 v (ts.map tkL)):∃a c,v= .slice a ts.length c∧(ts≠[]→∃g,a=some ⟨g,0,none⟩∧∀i (hi:i<ts.length),w.cell? ⟨g,i*4,none⟩=some (.int .i64 ts[i].cls)∧w.cell? ⟨g,i*4+1,none⟩=some (.int .i64 ts[i].lo)∧w.cell? ⟨g,i*4+2,none⟩=some (.int .i64 ts[i].hi)∧w.cell? ⟨g,i*4+3,none⟩=some (.int .i64 ts[i].look)):=by
 obtain⟨a,c,hv,_,_,hg⟩:=h.row (fun C hC=>by obtain⟨x,_,rfl⟩:=List.mem_map.1 hC;rfl);rw[List.length_map] at hv;refine⟨a,c,hv,fun hne=> ?_⟩;obtain⟨g,ha,_,_,hc⟩:=hg (by simpa using hne);refine⟨g,ha,fun i hi=> ?_⟩;have e0:=(hc i (by simpa using hi) 0 (by omega)).1;have e1:=(hc i (by simpa using hi) 1 (by omega)).1;have e2:=(hc i (by simpa using hi) 2 (by omega)).1;have e3:=(hc i (by simpa using hi) 3 (by omega)).1;rw[show 0+4*i+0=i*4 by omega] at e0;rw[show 0+4*i+1=i*4+1 by omega] at e1;rw[show 0+4*i+2=i*4+2 by omega] at e2;rw[show 0+4*i+3=i*4+3 by omega] at e3;rw[e0,e1,e2,e3];simp[tkL]
theorem of_c{B Bt p:Nat}{R:RS}{A:RA}{w:World}{vt:Value}(ts:List Tok)(s:ByteArray)(h:RdAt w B p R A)(ok:RSok R)(hv:OwnK w Bt TTk 4 vt (ts.map tkL))(hs:s.size≤1000000)(hl:ts.length≤1000000)(ht:∀t∈ts,t.lo≤t.hi∧t.hi≤s.size∧pkF R t s≠5):
  Calls Tryz.prog 60 #[ptr p,vt,.string s] w fun e w'=>∃v,e= .returned v∧OwnK w' w.heap.size TSp 3 v ((ofF R s ts).map spL)∧Kn w w':=by
 obtain⟨a,c,hvt,hg⟩:=tk_cells hv;subst hvt;obtain⟨i0,hi,hz0,hz1,hz2⟩:=info_parts info_sp;have HI:=Qh (And.intro hi (And.intro hz0 (And.intro hz1 hz2)));have HC:=Qh (classes_c h ok);have HK:=Qh (fun(W:World) (hk:Kn w W) (Bc:Nat) (vcl:Value) (hv:OwnK W Bc TCl 3 vcl ((QA R).map clL)) (i:Nat) (hi:i<ts.length)=>pkind_c ts[i] s (h.kn hk) ok hv (ht _ (List.getElem_mem hi)).1 (ht _ (List.getElem_mem hi)).2.1 hs);have HT:=Qh ht;have HG:=Qh hg;have hpl:=h.lt;clear h ok hv hi hz0 hz1 hz2 ht hg;go_enter Tryz.func60,Tryz.ntmps60;go_wp2_with fail
 refine HC.out.mono ?_;rintro e w1 ⟨vcl,rfl,hov,hk1⟩;obtain⟨ac,cc,hvc,_⟩:=hov.row (fun C hC=>by obtain⟨x,_,rfl⟩:=List.mem_map.1 hC;rfl);have HOV:=Qh hov;have HK1:=Qh hk1;have HVC:=Qh hvc;have hsz1:=hk1.size;clear hov hk1 hvc HC;obtain⟨nc,hnc⟩:∃nc,nc=(List.map clL (QA R)).length:=⟨_,rfl⟩;rw[←hnc] at HVC;rw[HVC.out];clear hnc;go_upto_region 2 with fail
 obtain⟨b7,hb7⟩:∃z,z=w1.heap.size:=⟨_,rfl⟩;obtain⟨w2,hw2⟩:∃z,z=w1.alloc (.cells #[ptr p,.slice ac nc cc] TPt):=⟨_,rfl⟩;have hB7:w2.heap[b7]? =some (.cells #[ptr p,.slice ac nc cc] TPt (0,0)):=by rw[hw2,hb7];exact Qf _ _
 have hk12:Kn w1 w2:=by rw[hw2];exact(Qb _ _).alloc _
 have x70:w2.cell? ⟨b7,0,none⟩=some (ptr p):=by rw[Qa hB7];try rfl
 have x71:w2.cell? ⟨b7,1,none⟩=some (.slice ac nc cc):=by rw[Qa hB7];try rfl
 have hlb7:=Qk hB7;rw[←hw2,←hb7];have HK2:=Qh (HK1.out.trans hk12);have HOV2:=Qh (HOV.out.kn hk12);have hsz2:=(HK1.out.trans hk12).size;clear hw2 hb7 hB7 hk12 HOV HK1 hsz1;go_wp2_with fail
 go_loopw [8,19] (fun s8 s19 wr=>∃(k:Nat) (v:Value),v=s8∧s19= .int .i64 k∧k≤ts.length∧Hid (OwnK wr w2.heap.size TSp 3 v ((ofF R s (ts.take k)).map spL))∧Kn w2 wr) (fun _ s19 _=>ts.length-(intOf s19).toNat)
 case atStart=>exact⟨0,_,rfl,rfl,Nat.zero_le _,Qh OwnK.nil,Qb _ _⟩
 case round=>
  obtain⟨k,v,rfl,rfl,hk,HO,hkn⟩:=hrel;by_cases hlt:k<ts.length
  ·obtain⟨g,rfl,hc⟩:=HG.out (fun e=>by rw[e] at hlt;simp at hlt);have hknw:=HK2.out.trans hkn;obtain⟨c0,c1,c2,c3⟩:=hc k hlt;have c0:=Qd hknw c0;have c1:=Qd hknw c1;have c2:=Qd hknw c2;have c3:=Qd hknw c3;have p0:=Qd hkn x70;have p1:=Qd hkn x71;have hgl:=World.block_lt_of_cell? _ _ c0;obtain⟨t1,t2,t3⟩:=HT.out _ (List.getElem_mem hlt);have HCC:=Qh (fun(W:World) (hW:Kn wr W)=>HK.out W (hknw.trans hW) _ _ ((HOV2.out.kn (hkn.trans hW))) k hlt);have hst:=ofF_succ R s ts k hlt;have hq5:=pkF_le R ts[k] s;have hol:((ofF R s (ts.take k)).map spL).length≤k:=by
    rw[List.length_map];unfold ofF;rw[List.length_map];exact Nat.le_trans (List.length_filter_le _ _) (by rw[List.length_take];omega)
   obtain⟨q,hq⟩:∃q,q=pkF R ts[k] s:=⟨_,rfl⟩;rw[←hq] at t3 hst hq5 HCC;rw[HVC.out] at HCC;obtain⟨t,ht⟩:∃t,t=ts[k]:=⟨_,rfl⟩;rw[←ht] at HCC t1 t2 hst c0 c1 c2 c3;obtain⟨cl,lo,hi,lk⟩:=t;unfold tkV tkL at HCC;dsimp only at HCC t1 t2 hst c0 c1 c2 c3;have g1:decide ((lo:Int)<0)=false:=decide_eq_false (by omega);have g2:decide ((hi:Int)<(lo:Int))=false:=decide_eq_false (by omega);have g3:decide ((s.size:Int)<(hi:Int))=false:=decide_eq_false (by omega);obtain⟨b8,hb8⟩:∃z,z=wr.heap.size:=⟨_,rfl⟩;obtain⟨w3,hw3⟩:∃z,z=wr.alloc (.cells #[.int .i64 cl,.int .i64 lo,.int .i64 hi,.int .i64 lk] TTk):=⟨_,rfl⟩;have hB8:w3.heap[b8]? =some (.cells #[.int .i64 cl,.int .i64 lo,.int .i64 hi,.int .i64 lk] TTk (0,0)):=by rw[hw3,hb8];exact Qf _ _
   have hk3:Kn wr w3:=by rw[hw3];exact(Qb _ _).alloc _
   have y0:w3.cell? ⟨b8,0,none⟩=some (.int .i64 cl):=by rw[Qa hB8];try rfl
   have y1:w3.cell? ⟨b8,1,none⟩=some (.int .i64 lo):=by rw[Qa hB8];try rfl
   have y2:w3.cell? ⟨b8,2,none⟩=some (.int .i64 hi):=by rw[Qa hB8];try rfl
   have y3:w3.cell? ⟨b8,3,none⟩=some (.int .i64 lk):=by rw[Qa hB8];try rfl
   have z0:=Qd hk3 p0;have z1:=Qd hk3 p1;have HW3:=Qh (And.intro hw3 hb8);have HK3:=Qh hk3;have hlb8:=Qk hB8;have HC3:=Qh (HCC.out w3 hk3);clear hq ht hB8 hw3 hb8 hk3 HCC hc p0 p1;go_upto_region 6 with fail
   rw[←HW3.out.1,←HW3.out.2];clear c0 c1 c2 c3;go_upto_region 7 with fail
   refine HC3.out.mono ?_;rintro e w4 ⟨rfl,hk4⟩;have v0:=Qd hk4 y0;have v1:=Qd hk4 y1;have v2:=Qd hk4 y2;have HK4:=Qh (HK3.out.trans hk4);have HO4:=Qh (HO.out.kn (HK3.out.trans hk4));have hsz4:=(hkn.trans (HK3.out.trans hk4)).size;clear y0 y1 y2 y3 z0 z1 hk4 HC3 HO;by_cases hq4:q=4
   ·subst hq4;rw[if_pos rfl] at hst;have HS:=Qh hst;clear hst hol t3 hq5;go_wp2_with fail
    go_roundw
    case rel=>exact⟨k+1,v,rfl,by go_num,by omega,Qh (by rw[HS.out];exact HO4.out),hkn.trans HK4.out⟩
    case measure=>simp[intOf];omega
   ·rw[if_neg hq4] at hst;have HS:=Qh hst;have e4:((q:Int)==4)=false:=by rw[beq_eq_false_iff_ne];omega
    have e5:((q:Int)==5)=false:=by rw[beq_eq_false_iff_ne];omega
    obtain⟨av,cv,hvv,hmc,_⟩:=HO4.out.row (fun C hC=>by obtain⟨x,_,rfl⟩:=List.mem_map.1 hC;rfl);obtain⟨m,hm⟩:∃m,m=((ofF R s (ts.take k)).map spL).length:=⟨_,rfl⟩;rw[←hm] at hvv hol;have HM:=Qh hm;subst hvv;clear hst hm t3 hq4;go_upto_region 9 with fail
    go_quiet (fail)
    have HO5:=Qh (HO4.out.kn ((Qb _ _).drewN nq));go_upto_region 12 with(at_builtin;refine QG _ rfl (.tmp 81) (.tmp 88) 40 rfl w2.heap.size TSp i0 _ 3 24 Tryz.underlying40 HI.out.1 HI.out.2.1 HI.out.2.2.1 HI.out.2.2.2 rfl (by omega) (.slice av m cv) ((ofF R s (ts.take k)).map spL) rfl (HO5.out.kn ((Qb _ _).alloc _)) w4.heap.size 1 rfl #[.int .i64 lo,.int .i64 hi,.int .i64 q] TSp (0,0) (blk_at _ _ (by simp)) rfl (by simp[Value.oneCell']) (by have:=HM.out;unfold maxLen;omega) (by have:=HM.out;omega) (by simp;omega) ?_;intro v' w5 hown hk5 _)
    have HO6:=Qh hown;have HK6:=Qh ((hkn.trans (HK4.out.drewN nq)).trans' ((Kp.alloc (S:=fun k=>some k=(Value.slice av m cv).ownBlock) (Qb _ _) _).trans hk5) (fun i hi e=>by have:=(HO5.out.lt i e.symm).1;omega));clear hown hk5;go_wp2_with fail
    go_roundw
    case rel=>exact⟨k+1,v',rfl,by go_num,by omega,Qh (by rw[HS.out,List.map_append];exact HO6.out),HK6.out⟩
    case measure=>simp[intOf];omega
  ·obtain rfl:k=ts.length:=by omega
   go_wp2_with fail
   go_ret;refine⟨v,rfl,?_,HK2.out.trans hkn⟩;have:=HO.out;rw[List.take_length] at this;exact OwnK.base this hsz2
def parseF(text:ByteArray):Option (RS×List GR×List (Nat×Nat)):=
 match RS.gather (text.size+1) 1 RS.none_ text with
 |none=>none
 |some R=>match finF R with|none=>none|some r=>some (R,r.1,r.2)
def ParsePost(text:ByteArray)(w:World)(e:Ending)(w':World):Prop:=
 Kn w w'∧match parseF text with
 |some r=>∃p:Nat,e= .returned (.tuple #[ptr p,.int .i64 0,.int .i64 0])∧GrAt w' p r.1 r.2.1 r.2.2
 |none=>∃k n:Int,n≠0∧e= .returned (.tuple #[.pointer none,.int .i64 k,.int .i64 n])
def strSz:Value→Nat
 | .string s=>s.size
 |_=>0
theorem cutZ_lt{s sep:ByteArray}(h:cutT s sep=true)(h1:1≤sep.size)(h0:¬s.size=0):(cutZ s sep).size<s.size:=by
 show(Lib.cut s.data.toList sep.data.toList).2.1.toArray.size<s.data.size;have h0':¬s.data.size=0:=h0;have h1':1≤sep.data.size:=h1;unfold cutT Lib.cut at h;unfold Lib.cut;split
 ·simp;omega
 ·rename_i hx;rw[if_neg hx] at h;cases h
theorem gather_end(f n:Nat)(R:RS)(s:ByteArray)(h:s.size=0):RS.gather (f+1) n R s=some R:=by
 unfold RS.gather;rw[if_pos h]
theorem gather_step(f n:Nat)(R:RS)(s:ByteArray)(h:¬s.size=0):RS.gather (f+1) n R s=if cutT s nlB=true then(match R.take n (cutA s nlB) with|some R1=>RS.gather f (n+1) R1 (cutZ s nlB)|none=>none) else none:=by
 rw[RS.gather,if_neg h];try rfl
theorem gparse_c(text:ByteArray)(w:World)(hm:MaxLenAt w)(hs:text.size≤1000000):
  Calls Tryz.prog 21 #[.string text] w (ParsePost text w):=by
 have hmm:= @run_makeMap Tryz.prog;have hno:¬(1048576:Int)<text.size:=by omega
 have hno':¬1048576<text.size:=by omega
 have HP:Hid (parseF text=match RS.gather (text.size+1) 1 RS.none_ text with
  |none=>none
  |some R=>match finF R with|none=>none|some r=>some (R,r.1,r.2)):=Qh rfl
 obtain⟨bn,hbn⟩:∃z,z=w.heap.size:=⟨_,rfl⟩;obtain⟨bc,hbc⟩:∃z,z=w.heap.size+1:=⟨_,rfl⟩;obtain⟨br,hbr⟩:∃z,z=w.heap.size+1+1:=⟨_,rfl⟩;obtain⟨p,hp⟩:∃z,z=w.heap.size+1+1+1:=⟨_,rfl⟩;obtain⟨W,hW⟩:∃z,z=(((w.alloc (.map #[] 0)).alloc (.map #[] 0)).alloc (.map #[] 0)).alloc (.cells #[.slice none 0 0,.slice none 0 0,.slice none 0 0,.slice none 0 0,.map none,.pointer none,.map (some bn),.map (some bc),.map (some br),.slice none 0 0] TGr):=⟨_,rfl⟩;have hkW:Kn w W:=by rw[hW];exact((((Qb _ _).alloc _).alloc _).alloc _).alloc _
 have e1:(w.alloc (.map #[] 0)).heap.size=bc:=by rw[size_alloc',hbc]
 have e2:((w.alloc (.map #[] 0)).alloc (.map #[] 0)).heap.size=br:=by rw[size_alloc',e1,hbr,hbc]
 have e3:(((w.alloc (.map #[] 0)).alloc (.map #[] 0)).alloc (.map #[] 0)).heap.size=p:=by rw[size_alloc',e2,hp,hbr]
 have hrd:RdAt W w.heap.size p RS.none_ ⟨.slice none 0 0,.slice none 0 0,.slice none 0 0,.slice none 0 0,.map none,.pointer none,bn,bc,br,.slice none 0 0,[]⟩:=by
  refine⟨?_,OwnK.nil (k:=1),OwnK.nil,OwnK.nil (k:=1),?_,?_,?_,OwnK.nil,rfl,(fun i a b=>by simp at a),⟨by show bn≠bc;omega,by show bn≠br;omega,by show bc≠br;omega⟩,(fun g hg=>by cases hg),⟨by omega,by show _≤bn;omega,by show _≤bc;omega,by show _≤br;omega⟩⟩
  ·have:=Qf (((w.alloc (.map #[] 0)).alloc (.map #[] 0)).alloc (.map #[] 0)) (.cells #[.slice none 0 0,.slice none 0 0,.slice none 0 0,.slice none 0 0,.map none,.pointer none,.map (some bn),.map (some bc),.map (some br),.slice none 0 0] TGr);rw[e3,←hW] at this;exact this
  ·have:=(((MapA.new w TS).kn ((Qb _ _).alloc (.map #[] 0))).kn ((Qb _ _).alloc (.map #[] 0))).kn ((Qb _ _).alloc (.cells #[.slice none 0 0,.slice none 0 0,.slice none 0 0,.slice none 0 0,.map none,.pointer none,.map (some bn),.map (some bc),.map (some br),.slice none 0 0] TGr));rw[←hW,←hbn] at this;exact this
  ·have:=(((MapA.new (w.alloc (.map #[] 0)) TS)).kn ((Qb _ _).alloc (.map #[] 0))).kn ((Qb _ _).alloc (.cells #[.slice none 0 0,.slice none 0 0,.slice none 0 0,.slice none 0 0,.map none,.pointer none,.map (some bn),.map (some bc),.map (some br),.slice none 0 0] TGr));rw[←hW,e1] at this;exact this
  ·have:=(MapA.new ((w.alloc (.map #[] 0)).alloc (.map #[] 0)) TS).kn ((Qb _ _).alloc (.cells #[.slice none 0 0,.slice none 0 0,.slice none 0 0,.slice none 0 0,.map none,.pointer none,.map (some bn),.map (some bc),.map (some br),.slice none 0 0] TGr));rw[←hW,e2] at this;exact this
 have HRD:=Qh hrd;have HOK:Hid (RSok RS.none_):=Qh ⟨by simp[RS.none_],by simp[RS.none_],by simp[RS.none_],by simp[RS.none_],fun s h=>by simp[RS.none_] at h,fun s h=>by simp[RS.none_] at h,fun s h=>by simp[RS.none_] at h⟩;have HW:=Qh hW;have HB:=Qh (And.intro hbn (And.intro hbc (And.intro hbr hp)));have HM:=Qh (fun w' (hk:Kn w w')=>hm.kn hk);clear hrd hW e1 e2 e3 hbn hbc hbr hp hm;go_enter Tryz.func21,Tryz.ntmps21;go_upto_region 4 with fail
 rw[←HB.out.2.2.2,←HB.out.2.2.1,←HB.out.2.1,←HB.out.1,←HW.out];go_wp2_with fail
 go_loopw [0,6] (fun s0 s6 wr=>∃(f n:Nat) (R:RS) (A:RA) (s:ByteArray),s0= .string s∧s6= .int .i64 n∧Hid (RS.gather f n R s=RS.gather (text.size+1) 1 RS.none_ text)∧s.size<f∧n+s.size≤text.size+1∧1≤n∧Hid (RdAt wr w.heap.size p R A)∧Hid (RSok R)∧Hid (A.vr= .slice none 0 0∧A.sc= .pointer none)∧Kn w wr) (fun s0 _ _=>strSz s0)
 case atStart=>exact⟨text.size+1,1,RS.none_,_,text,rfl,rfl,Qh rfl,by omega,by omega,Nat.le_refl _,HRD,HOK,Qh ⟨rfl,rfl⟩,hkW⟩
 case round=>
  clear HRD HOK;obtain⟨f,n,R,A,s,rfl,rfl,hga,hf,hn,hn1,hrd,hok,hnl,hkn⟩:=hrel;by_cases h0:s.size=0
  ·have he:=isE_true h0;obtain⟨f2,rfl⟩:∃f2,f=f2+1:=⟨f-1,by omega⟩;have HG:Hid (RS.gather (text.size+1) 1 RS.none_ text=some R):=Qh (by rw[←hga.out];exact gather_end _ _ _ _ h0);have HFI:=Qh (finish_c hrd.out hok.out hnl.out.1 hnl.out.2);clear h0 hga;go_wp2_with fail
   refine HFI.out.mono ?_;rintro e w2 ⟨k,n2,rfl,hk2,hmt⟩;have hkn2:=hkn.trans' hk2 (fun i hi e=>by omega);cases hfi:finF R with
   |none=>
    rw[hfi] at hmt;dsimp only at hmt;have hn2:(n2==0)=false:=by rw[beq_eq_false_iff_ne];exact hmt
    have hF:Hid (parseF text=none):=Qh (by rw[HP.out,HG.out];dsimp only;rw[hfi]);have HN:=Qh hmt;clear hfi hmt HP;go_wp2_with fail
    go_ret3
    refine⟨hkn2,?_⟩;rw[hF.out];exact⟨k,n2,HN.out,rfl⟩
   |some r=>
    rw[hfi] at hmt;dsimp only at hmt;obtain⟨rfl,rfl,hgr⟩:=hmt;have hF:Hid (parseF text=some (R,r.1,r.2)):=Qh (by rw[HP.out,HG.out];dsimp only;rw[hfi]);have HGR:=Qh hgr;clear hfi hgr HP;go_wp2_with fail
    go_ret3
    refine⟨hkn2,?_⟩;rw[hF.out];exact⟨p,rfl,HGR.out⟩
  ·have he:=Yg h0;obtain⟨f2,rfl⟩:∃f2,f=f2+1:=⟨f-1,by omega⟩;have hst:=gather_step f2 n R s h0;rw[hga.out] at hst;have HC:=Qh (cut_c s ⟨#[10]⟩ wr (HM.out wr hkn) (by omega));change _=if cutT s ⟨#[10]⟩=true then(match R.take n (cutA s ⟨#[10]⟩) with|some R1=>RS.gather f2 (n+1) R1 (cutZ s ⟨#[10]⟩)|none=>none) else none at hst;have hca:=cutA_le s ⟨#[10]⟩;cases ht:cutT s ⟨#[10]⟩ with
   |false=>
    rw[ht] at hst HC;have hF:Hid (parseF text=none):=Qh (by rw[HP.out,hst];try rfl);clear hst ht h0 hga HP;go_wp2_with fail
    refine HC.out.mono ?_;rintro e w2 ⟨rfl,hk2⟩;have hkn2:=hkn.trans hk2;go_wp2_with fail
    go_ret3
    refine⟨hkn2,?_⟩;rw[hF.out];exact⟨n,4,by decide,rfl⟩
   |true=>
    rw[ht] at hst HC;have hlt:=cutZ_lt ht (by decide) h0;obtain⟨la,hla⟩:∃la,la=cutA s ⟨#[10]⟩:=⟨_,rfl⟩;obtain⟨lz,hlz⟩:∃lz,lz=cutZ s ⟨#[10]⟩:=⟨_,rfl⟩;rw[←hla,←hlz] at hst HC;rw[←hla] at hca;rw[←hlz] at hlt;have HST:=Qh hst;clear hst ht h0 hga hla hlz;go_wp2_with fail
    refine HC.out.mono ?_;rintro e w2 ⟨rfl,hk2⟩;have hkn2:=hkn.trans hk2;have HTK:=Qh (take_c (num:=n) la (hrd.out.kn hk2) hok.out (HM.out w2 hkn2) (by omega) (by omega));clear hrd;go_wp2_with fail
    refine HTK.out.mono ?_;rintro e w3 ⟨n3,rfl,hk3,hmt⟩;have hkn3:=hkn2.trans' hk3 (fun i hi e=>by omega);cases htk:R.take n la with
    |none=>
     rw[htk] at hmt;dsimp only at hmt;have hn2:(n3==0)=false:=by rw[beq_eq_false_iff_ne];exact hmt
     have hF:Hid (parseF text=none):=Qh (by rw[HP.out,HST.out,htk];try rfl);have HN:=Qh hmt;clear htk hmt HP;go_wp2_with fail
     go_ret3
     refine⟨hkn3,?_⟩;rw[hF.out];exact⟨n,n3,HN.out,rfl⟩
    |some R2=>
     rw[htk] at hmt;dsimp only at hmt;obtain⟨rfl,hok2,A2,hrd2,hv2,hs2⟩:=hmt;have HGA:Hid (RS.gather f2 (n+1) R2 lz=RS.gather (text.size+1) 1 RS.none_ text):=Qh (by rw[HST.out,htk];try rfl);have HRD2:=Qh hrd2;have HOK2:=Qh hok2;have HNL2:=Qh (And.intro (hv2.trans hnl.out.1) (hs2.trans hnl.out.2));clear htk hrd2 hok2 hv2 hs2;go_wp2_with fail
     go_roundw
     case rel=>exact⟨f2,n+1,R2,A2,lz,rfl,by go_num,HGA,by omega,by omega,by omega,HRD2,HOK2,HNL2,hkn3⟩
     case measure=>simp[strSz];omega
end Go.Proofs.YtiehgcfckhepaaaGreatDoor
namespace Go.Proofs.YtiehgcfckhepaaaGreatDoor
instance:DecidableEq GC:=fun a b=>if h:a.name=b.name∧a.regex=b.regex∧a.layout=b.layout then isTrue (by cases a;cases b;obtain⟨h0,h1,h2⟩:=h;simp only at*;subst_vars;rfl) else isFalse (fun e=>h (by subst e;exact⟨rfl,rfl,rfl⟩))
instance:DecidableEq GW:=fun a b=>if h:a.lit=b.lit∧a.name=b.name∧a.level=b.level∧a.sort=b.sort then isTrue (by cases a;cases b;obtain⟨h0,h1,h2,h3⟩:=h;simp only at*;subst_vars;rfl) else isFalse (fun e=>h (by subst e;exact⟨rfl,rfl,rfl,rfl⟩))
instance:DecidableEq GL:=fun a b=>if h:a.number=b.number∧a.sort=b.sort∧a.cons=b.cons∧a.level=b.level∧a.words=b.words∧a.round=b.round then isTrue (by cases a;cases b;obtain⟨h0,h1,h2,h3,h4,h5⟩:=h;simp only at*;subst_vars;rfl) else isFalse (fun e=>h (by subst e;exact⟨rfl,rfl,rfl,rfl,rfl,rfl⟩))
instance:DecidableEq RS:=fun a b=>if h:a.lits=b.lits∧a.cls=b.cls∧a.sorts=b.sorts∧a.names=b.names∧a.cons=b.cons∧a.rounds=b.rounds∧a.lines=b.lines then isTrue (by cases a;cases b;obtain⟨h0,h1,h2,h3,h4,h5,h6⟩:=h;simp only at*;subst_vars;rfl) else isFalse (fun e=>h (by subst e;exact⟨rfl,rfl,rfl,rfl,rfl,rfl,rfl⟩))
instance:DecidableEq GP:=fun a b=>if h:a.cls=b.cls∧a.sort=b.sort∧a.level=b.level∧a.fixed=b.fixed then isTrue (by cases a;cases b;obtain⟨h0,h1,h2,h3⟩:=h;simp only at*;subst_vars;rfl) else isFalse (fun e=>h (by subst e;exact⟨rfl,rfl,rfl,rfl⟩))
instance:DecidableEq GR:=fun a b=>if h:a.sort=b.sort∧a.cons=b.cons∧a.level=b.level∧a.parts=b.parts then isTrue (by cases a;cases b;obtain⟨h0,h1,h2,h3⟩:=h;simp only at*;subst_vars;rfl) else isFalse (fun e=>h (by subst e;exact⟨rfl,rfl,rfl,rfl⟩))
def decX(i:Nat):ByteArray:=if i<10 then⟨#[UInt8.ofNat (48+i)]⟩ else if i<100 then⟨#[UInt8.ofNat (48+i/10),UInt8.ofNat (48+i%10)]⟩ else⟨(Lib.decDigits i).toArray⟩
theorem decB_X:decB=decX:=by
 funext i;unfold decB decX;split
 ·rename_i h;rw[Lib.decDigits_one h]
 ·split
  ·rename_i h1 h2;rw[Lib.decDigits_two h1 h2]
  ·rfl
def litG(dec:Nat→ByteArray)(R:RS):List GC:=R.lits.zipIdx.map (fun p=>⟨(⟨#[108,105,116]⟩:ByteArray)++dec p.2,escF p.1,false⟩)
theorem clsOf_G(R:RS):QA R=litG decX R++R.cls:=by rw[←decB_X];try rfl
def vB:ByteArray:=⟨#[116,111,107,101,110,32,105,100,32,91,97,45,122,93,43,10,108,97,121,111,117,116,32,119,115,32,92,115,43,10,115,111,114,116,32,115,10,114,117,108,101,32,115,32,48,32,73,102,32,61,32,39,105,102,32,105,100,10]⟩
def vT:ByteArray:=⟨#[105,102,32,97]⟩
def vId:ByteArray:=⟨#[105,100]⟩
def vIf:ByteArray:=⟨#[105,102]⟩
def vR:RS:=⟨[vIf],[⟨vId,⟨#[91,97,45,122,93,43]⟩,false⟩,⟨⟨#[119,115]⟩,⟨#[92,115,43]⟩,true⟩],[⟨#[115]⟩],[vId,⟨#[119,115]⟩,⟨#[115]⟩],[⟨#[73,102]⟩],[],[⟨4,⟨#[115]⟩,⟨#[73,102]⟩,0,[⟨vIf,emptyB,0,false⟩,⟨emptyB,vId,0,false⟩],false⟩]⟩
def vRs:List GR:=[⟨0,⟨#[73,102]⟩,0,[⟨0,-1,0,true⟩,⟨1,-1,0,false⟩]⟩]
theorem v_gather:RS.gather (vB.size+1) 1 RS.none_ vB=some vR:=by decide+kernel
theorem v_rest:RS.linkGo vR vR.lines [] []=some (vRs,[]):=by decide+kernel
def tkP(t:Tok):Int×Nat×Nat×Nat:=(t.cls,t.lo,t.hi,t.look)
def vToks:List Tok:=[⟨0,0,2,3⟩,⟨2,2,3,4⟩,⟨1,3,4,5⟩]
theorem v_toks:(match QX (litG decX vR++vR.cls) with|some r=>decide ((scanTok (leastF r.2) vT).map tkP=vToks.map tkP)|none=>false)=true:=by decide+kernel
theorem v_cls:(QX (QA vR)).isSome=true:=by
 rw[clsOf_G];have:=v_toks;cases h:QX (litG decX vR++vR.cls) with
 |none=>rw[h] at this;cases this
 |some r=>rfl
theorem v_parse:parseF vB=some (vR,vRs,[]):=by
 unfold parseF;rw[v_gather];dsimp only;have h2:finF vR=some (vRs,[]):=by
  unfold finF;rw[v_rest];dsimp only;rw[if_neg (by decide),if_neg (by rw[clsOf_G];decide),if_pos v_cls]
 rw[h2]
theorem v_scan{r:List Rw×List DS}(h:QX (QA vR)=some r):scanTok (leastF r.2) vT=vToks:=by
 rw[clsOf_G] at h;have h1:=v_toks;rw[h] at h1;have h2:=of_decide_eq_true h1;have inj:∀(a b:List Tok),a.map tkP=b.map tkP→a=b:=by
  intro a;induction a with
  |nil=>intro b hb;cases b with|nil=>rfl|cons y b=>simp at hb
  |cons x a ih=>
   intro b hb;cases b with
   |nil=>simp at hb
   |cons y b=>
    simp only[List.map_cons,List.cons.injEq] at hb;rw[ih b hb.2];obtain⟨x1,x2,x3,x4⟩:=x;obtain⟨y1,y2,y3,y4⟩:=y;have h3:=hb.1;simp only[tkP,Prod.mk.injEq] at h3;obtain⟨rfl,rfl,rfl,rfl⟩:=h3;rfl
 exact inj _ _ h2
theorem v_kinds:vToks.map (fun t=>pkF vR t vT)=[0,4,2]:=by
 simp only[pkF,clsOf_G];decide+kernel
theorem v_ok:∀t∈vToks,t.lo≤t.hi∧t.hi≤vT.size∧pkF vR t vT≠5:=by
 have h:=v_kinds;simp only[vToks,List.map_cons,List.map_nil,List.cons.injEq,and_true] at h;obtain⟨h1,h2,h3⟩:=h;intro t ht;simp only[vToks,List.mem_cons,List.not_mem_nil,or_false] at ht;rcases ht with rfl|rfl|rfl
 ·exact⟨by decide,by decide,by rw[h1];decide⟩
 ·exact⟨by decide,by decide,by rw[h2];decide⟩
 ·exact⟨by decide,by decide,by rw[h3];decide⟩
theorem v_of:(ofF vR vT vToks).map spL=[[.int .i64 0,.int .i64 2,.int .i64 0],[.int .i64 3,.int .i64 4,.int .i64 2]]:=by
 have h:=v_kinds;simp only[vToks,List.map_cons,List.map_nil,List.cons.injEq,and_true] at h;obtain⟨h1,h2,h3⟩:=h;simp[ofF,vToks,h1,h2,h3,spL]
open Go.Shelf Go.RowKit Go.Maps
theorem classes_nil(w:World):Calls Tryz.prog 56 #[.pointer none] w fun e w'=>e= .returned (.slice none 0 0)∧w=w':=by
 go_enter Tryz.func56,Tryz.ntmps56;go_wp2_with fail
 go_ret;exact⟨rfl,rfl⟩
theorem scanner_nil(w:World):Calls Tryz.prog 58 #[.pointer none] w fun e w'=>e= .returned (.pointer none)∧w=w':=by
 go_enter Tryz.func58,Tryz.ntmps58;go_wp2_with fail
 go_ret;exact⟨rfl,rfl⟩
end Go.Proofs.YtiehgcfckhepaaaGreatDoor
namespace Go.Proofs.YtiehgcfckhepaaaGreatDoor
open Go.RowKit Go.Maps
theorem scan_nil(s:ByteArray)(w:World):Calls Tryz.prog 59 #[.pointer none,.string s] w fun e w'=>e= .returned (.tuple #[.slice none 0 0,.int .i64 1])∧w=w':=by
 go_enter Tryz.func59,Tryz.ntmps59;go_wp2_with fail
 go_ret2
 exact⟨rfl,rfl⟩
theorem all_nil(s:ByteArray)(w:World):Calls Tryz.prog 17 #[.pointer none,.string s] w fun e w'=>e= .returned (.tuple #[.slice none 0 0,.int .i64 1])∧w=w':=by
 have H1:=Qh (scanner_nil w);have H2:=Qh (scan_nil s w);go_enter Tryz.func17,Tryz.ntmps17;go_wp2_with fail
 refine H1.out.mono ?_;rintro e w' ⟨rfl,rfl⟩;go_wp2_with fail
 refine H2.out.mono ?_;rintro e w' ⟨rfl,rfl⟩;go_wp2_with fail
 go_ret2
 exact⟨rfl,rfl⟩
theorem within_nil(a b:Int)(w:World):Calls Tryz.prog 19 #[.slice none 0 0,.agg #[.int .i64 a,.int .i64 b]] w fun e w'=>e= .returned (.slice none 0 0)∧Kn w w':=by
 go_enter Tryz.func19,Tryz.ntmps19;go_wp2_with fail
 go_loopw [5,10] (fun s5 s10 wr=>s5= .slice none 0 0∧s10= .int .i64 0∧Kn w wr) (fun _ _ _=>0)
 case atStart=>exact⟨rfl,rfl,(Qb _ _).alloc _⟩
 case round=>
  obtain⟨rfl,rfl,hkn⟩:=hrel;go_wp2_with fail
  go_ret;exact⟨rfl,hkn⟩
theorem name_two(w:World):Calls Tryz.prog 57 #[.int .i64 2] w fun e w'=>e= .returned (.string ⟨#[110,97,109,101]⟩)∧w=w':=by
 have i0:∀w,(Instr.index 215 (.agg #[.string ⟨#[119,111,114,100]⟩,.string ⟨#[109,97,114,107]⟩,.string ⟨#[110,97,109,101]⟩,.string ⟨#[110,111,116,101]⟩,.string ⟨#[98,108,97,110,107]⟩,.string ⟨#[98,97,100]⟩]) (.int .i64 2)).run Tryz.prog w= .ok (.string ⟨#[110,97,109,101]⟩) w:=fun _=>by kernel_rfl
 go_enter Tryz.func57,Tryz.ntmps57;go_wp2_with fail
 go_ret;exact⟨rfl,rfl⟩
theorem pkind_nil(c lo hi look:Int)(s:ByteArray)(w:World)(hs:s.size≤1000000):
  Calls Tryz.prog 61 #[.agg #[.pointer none,.slice none 0 0],.agg #[.int .i64 c,.int .i64 lo,.int .i64 hi,.int .i64 look],.string s] w fun e w'=>e= .returned (.int .i64 5)∧Kn w w':=by
 have key:∃d1 d2 d3 d4 d5:Bool,decide (lo<0)=d1∧decide (hi<lo)=d2∧decide ((s.size:Int)<hi)=d3∧decide (c<0)=d4∧decide ((0:Int)≤c)=d5∧(d1=true∨(d1=false∧d2=true)∨(d1=false∧d2=false∧d3=true)∨(d1=false∧d2=false∧d3=false∧d4=true)∨(d1=false∧d2=false∧d3=false∧d4=false∧d5=true)):=by
  refine⟨_,_,_,_,_,rfl,rfl,rfl,rfl,rfl,?_⟩;simp only[decide_eq_true_eq,decide_eq_false_iff_not];omega
 obtain⟨d1,d2,d3,d4,d5,e1,e2,e3,e4,e5,hd⟩:=key;rcases hd with rfl|⟨rfl,rfl⟩|⟨rfl,rfl,rfl⟩|⟨rfl,rfl,rfl,rfl⟩|⟨rfl,rfl,rfl,rfl,rfl⟩
 all_goals
  go_enter Tryz.func61,Tryz.ntmps61;go_wp2_with fail
  go_ret;exact⟨rfl,((Qb _ _).alloc _).alloc _⟩
theorem kind_nil(c lo hi look:Int)(s:ByteArray)(w:World)(hs:s.size≤1000000):
  Calls Tryz.prog 18 #[.pointer none,.agg #[.int .i64 c,.int .i64 lo,.int .i64 hi,.int .i64 look],.string s] w fun e w'=>e= .returned (.int .i64 5)∧Kn w w':=by
 obtain⟨b4,hb4⟩:∃z,z=w.heap.size:=⟨_,rfl⟩;obtain⟨w1,hw1⟩:∃z,z=w.alloc (.cells #[.int .i64 c,.int .i64 lo,.int .i64 hi,.int .i64 look] TTk):=⟨_,rfl⟩;have hB4:w1.heap[b4]? =some (.cells #[.int .i64 c,.int .i64 lo,.int .i64 hi,.int .i64 look] TTk (0,0)):=by rw[hw1,hb4];exact Qf _ _
 have y0:w1.cell? ⟨b4,0,none⟩=some (.int .i64 c):=by rw[Qa hB4];try rfl
 have y1:w1.cell? ⟨b4,1,none⟩=some (.int .i64 lo):=by rw[Qa hB4];try rfl
 have y2:w1.cell? ⟨b4,2,none⟩=some (.int .i64 hi):=by rw[Qa hB4];try rfl
 have y3:w1.cell? ⟨b4,3,none⟩=some (.int .i64 look):=by rw[Qa hB4];try rfl
 have HW:=Qh (And.intro hw1 hb4);have HK1:Hid (Kn w w1):=Qh (by rw[hw1];exact(Qb _ _).alloc _);clear hw1 hb4 hB4;go_enter Tryz.func18,Tryz.ntmps18;go_upto_region 1 with fail
 rw[←HW.out.1,←HW.out.2];refine rgn (fun w'=>w'.cell? ⟨b4,0,none⟩=some (.int .i64 c)∧w'.cell? ⟨b4,1,none⟩=some (.int .i64 lo)∧w'.cell? ⟨b4,2,none⟩=some (.int .i64 hi)∧w'.cell? ⟨b4,3,none⟩=some (.int .i64 look)) (X:=[]) ⟨Qd ((Qb _ _).drew) y0,Qd ((Qb _ _).drew) y1,Qd ((Qb _ _).drew) y2,Qd ((Qb _ _).drew) y3⟩ (fun hX hHeld=> ?_);refine tw 0 7 ?_;refine tw 1 8 ?_;refine tk 4 11 ?_;refine tw 5 12 ?_;refine ro 2 (fun K hK=> ?_);go_simp
 go_at_call 56
 refine(classes_nil _).mono ?_;rintro e v2 ⟨rfl,rfl⟩;refine hK.out _ _ hHeld (fun hHeld=> ?_);clear hK K
 try simp only[PP]
 refine tw 3 10 ?_;refine ro 6 (fun K hK=> ?_);go_simp
 go_at_call 61
 refine(pkind_nil c lo hi look s _ hs).mono ?_;rintro e v3 ⟨rfl,hk3⟩;refine hK.out _ _ ⟨Qd hk3 hHeld.1,Qd hk3 hHeld.2.1,Qd hk3 hHeld.2.2.1,Qd hk3 hHeld.2.2.2⟩ (fun hHeld=> ?_);have HK3:=Qh (HK1.out.trans (((Qb _ _).drew).trans hk3));clear hK K hk3
 try simp only[PP]
 refine re 7 (fun K hK=> ?_);go_simp;refine hK.out _ _ ?_;clear hK K;go_wp2_with fail
 go_ret;exact⟨rfl,HK3.out⟩
def VallPost(w:World)(e:Ending)(w':World):Prop:=∃v,e= .returned (.tuple #[v,.int .i64 0])∧OwnK w' w.heap.size TSp 3 v [[.int .i64 0,.int .i64 2,.int .i64 0],[.int .i64 3,.int .i64 4,.int .i64 2]]∧Kn w w'
theorem vall_c{p:Nat}{w:World}(hg:GrAt w p vR vRs []):Calls Tryz.prog 17 #[ptr p,.string vT] w (VallPost w):=by
 have hok:=hg.ok;obtain⟨⟨B,A,kb,vps,hlk,_,h3⟩,_,_⟩:=hg;obtain⟨r,hr⟩:=Option.isSome_iff_exists.1 v_cls;obtain⟨ps,hps,hsc⟩:=h3 r hr;have H1:=Qh (scanner_at hlk.rd);rw[hps] at H1;have H2:=scan_c vT hsc rfl (by decide);rw[v_scan hr] at H2;have HS:=Qh H2;have HO:=Qh (fun(W:World) (hk:Kn w W) (Bt:Nat) (vt:Value) (hv:OwnK W Bt TTk 4 vt (vToks.map tkL))=>of_c vToks vT (hlk.rd.kn hk) hok hv (by decide) (by decide) v_ok);clear H2 hlk h3 hr hps hsc hok;unfold vT at HS HO⊢;go_enter Tryz.func17,Tryz.ntmps17;go_wp2_with fail
 refine H1.out.mono ?_;rintro e w' ⟨rfl,rfl⟩;go_wp2_with fail
 refine HS.out.mono ?_;rintro e w1 ⟨vt,rfl,hvt,hk1⟩;have HK1:=Qh hk1;have HC:=Qh (HO.out w1 hk1 _ _ hvt);clear hk1 hvt HO HS H1;go_wp2_with fail
 refine HC.out.mono ?_;rintro e w2 ⟨v,rfl,hv,hk2⟩;have HV:=Qh hv;have HK2:=Qh hk2;clear hv hk2 HC;go_wp2_with fail
 go_ret2
 have h9:=HV.out;have hT:(⟨#[105,102,32,97]⟩:ByteArray)=vT:=rfl;rw[hT,v_of] at h9;exact⟨v,rfl,OwnK.base h9 HK1.out.size,HK1.out.trans HK2.out⟩
theorem v_size:vB.size≤1000000:=by decide
theorem pairEq_sp(w:World):(binOp .eql TSp (.agg #[.int .i64 0,.int .i64 2,.int .i64 0]) (.agg #[.int .i64 0,.int .i64 2,.int .i64 0])).run Tryz.prog w= .ok (.bool true) w:=by kernel_rfl
theorem vawake_c(w:World)(hm:MaxLenAt w):Calls Tryz.prog 16 #[] w fun e w'=>e= .returned (.bool true)∧Kn w w':=by
 have HPC:=Qh (gparse_c vB w hm v_size);have HP:=Qh (fun w=>pairEq_sp w);clear hm;go_enter Tryz.func16,Tryz.ntmps16;go_upto_region 2 with(first
  |(go_at_call 21;go_must (refine HPC.out.mono ?_;rintro e w1 ⟨hk1,hpp⟩;rw[v_parse] at hpp;obtain⟨p,rfl,hg⟩:=hpp;have HN:=Qh (vall_c hg);have HK1:=Qh hk1;clear hk1 HPC hg)))
 unfold vT at HN;go_upto_region 3 with(go_at_call 17;go_must (refine HN.out.mono ?_;rintro e w2 ⟨v,rfl,hv,hk2⟩))
 obtain⟨a,c,rfl,_,_,hg⟩:=hv.row (k:=3) (fun C hC=>by simp at hC;rcases hC with rfl|rfl<;>rfl)
 obtain⟨g,rfl,_,_,hc⟩:=hg (by simp);have c0:=(hc 0 (by simp) 0 (by omega)).1;have c1:=(hc 0 (by simp) 1 (by omega)).1;have c2:=(hc 0 (by simp) 2 (by omega)).1;have c5:=(hc 1 (by simp) 2 (by omega)).1;simp only[List.getElem_cons_zero,List.getElem_cons_succ,List.getElem?_cons_zero,List.getElem?_cons_succ,Nat.mul_zero,Nat.add_zero,Nat.zero_add,Nat.mul_one,Nat.reduceAdd] at c0 c1 c2 c5;have HK2:=Qh (HK1.out.trans hk2);have HN2:=Qh (fun w=>name_two w);simp only[List.length_cons,List.length_nil,Nat.zero_add,Nat.reduceAdd];clear hk2 hg hc hv HK1 HN;go_wp2_with (go_at_call 57;go_must (refine(HN2.out _).mono ?_;rintro e w' ⟨rfl,rfl⟩))
 go_ret;exact⟨rfl,HK2.out⟩
theorem pnone_c(s:ByteArray)(c lo hi look:Int)(w:World)(hm:MaxLenAt w):Calls Tryz.prog 4 #[.string s,.agg #[.int .i64 c,.int .i64 lo,.int .i64 hi,.int .i64 look]] w fun e w'=>e= .returned (.bool true)∧Kn w w':=by
 obtain⟨w1,hw1⟩:∃z,z=w.alloc (.cells #[.int .i64 c,.int .i64 lo,.int .i64 hi,.int .i64 look] TTk):=⟨_,rfl⟩;have hk1:Kn w w1:=by rw[hw1];exact(Qb _ _).alloc _
 have hB1:w1.heap[w.heap.size]? =some (.cells #[.int .i64 c,.int .i64 lo,.int .i64 hi,.int .i64 look] TTk (0,0)):=by rw[hw1];exact Qf _ _
 obtain⟨b4,hb4⟩:∃z,z=w.heap.size:=⟨_,rfl⟩;rw[←hb4] at hB1;have y0:w1.cell? ⟨b4,0,none⟩=some (.int .i64 c):=by rw[Qa hB1];try rfl
 have y1:w1.cell? ⟨b4,1,none⟩=some (.int .i64 lo):=by rw[Qa hB1];try rfl
 have y2:w1.cell? ⟨b4,2,none⟩=some (.int .i64 hi):=by rw[Qa hB1];try rfl
 have y3:w1.cell? ⟨b4,3,none⟩=some (.int .i64 look):=by rw[Qa hB1];try rfl
 have HW:=Qh (And.intro hw1 hb4);have HK1:=Qh hk1;have HA:=Qh (fun(W:World) (hk:Kn w W)=>vawake_c W (hm.kn hk));clear hw1 hb4 hB1 hk1 hm;by_cases hs:60<s.size
 ·have h1:(60:Int)<s.size:=by omega
  have HA1:=Qh (HA.out w1 HK1.out);clear hs;go_enter Tryz.func4,Tryz.ntmps4;go_upto_region 1 with fail
  rw[←HW.out.1,←HW.out.2];go_wp2_with (go_at_call 16;go_must (refine HA1.out.mono ?_;rintro e w2 ⟨rfl,hk2⟩;have HK2:=Qh (HK1.out.trans hk2);clear hk2))
  go_ret;exact⟨rfl,HK2.out⟩
 ·have h1:¬(60:Int)<s.size:=by omega
  have H1:=Qh (fun w=>all_nil s w);have H2:=Qh (fun w=>kind_nil c lo hi look s w (by omega));have H3:=Qh (fun w=>within_nil 0 9 w);clear hs;go_enter Tryz.func4,Tryz.ntmps4;go_upto_region 1 with fail
  rw[←HW.out.1,←HW.out.2];go_wp2_with (first
   |(go_at_call 17;go_must (refine(H1.out _).mono ?_;rintro e w' ⟨rfl,rfl⟩))
   |(go_at_call 18;go_must (refine(H2.out _).mono ?_;rintro e w3 ⟨rfl,hk3⟩;have HK3:=Qh (HK1.out.trans hk3);clear hk3))
   |(go_at_call 19;go_must (refine(H3.out _).mono ?_;rintro e w4 ⟨rfl,hk4⟩;have HK4:=Qh (HK3.out.trans hk4);have HA4:=Qh (HA.out _ HK4.out);clear hk4))
   |(go_at_call 16;go_must (refine HA4.out.mono ?_;rintro e w5 ⟨rfl,hk5⟩;have HK5:=Qh (HK4.out.trans hk5);clear hk5)))
  go_ret;exact⟨rfl,HK5.out⟩
end Go.Proofs.YtiehgcfckhepaaaGreatDoor
