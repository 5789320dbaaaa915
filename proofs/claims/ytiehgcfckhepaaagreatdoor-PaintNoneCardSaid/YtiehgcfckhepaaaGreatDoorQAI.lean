/-
  Texts of this claim, laid together: GTake, GTake2, GIdx, GPart2, GLkMem, GLink, GBuild, GEsc, GItoa, GClasses, GFin, GLit. Conditions: none.
-/
import Derived.Test.YtiehgcfckhepaaaGreatDoorQAH
import Derived.Test.YtiehgcfckhepaaaGreatDoorQAA
import Derived.Shelf.Strings.BuilderK
import Derived.Laws.BytesArg
import Derived.Laws.AppendOwnNone
set_option linter.unusedVariables false
set_option linter.unusedSimpArgs false
set_option maxRecDepth 100000
set_option maxHeartbeats 16000000
namespace Go.Proofs.YtiehgcfckhepaaaGreatDoor
open Go.RowKit Go.Maps
theorem token_nil{p c:Nat}{a:Option Addr}{w:World}(lay:Bool):
  Calls Tryz.prog 107 #[ptr p,.slice a 0 c,.bool lay] w fun e w'=>e= .returned (.int .i64 4)∧w'=w:=by
 go_enter Tryz.func107,Tryz.ntmps107;go_wp2_with fail
 go_ret;exact⟨rfl,rfl⟩
theorem sort_nil{p c:Nat}{a:Option Addr}{w:World} :
  Calls Tryz.prog 108 #[ptr p,.slice a 0 c] w fun e w'=>e= .returned (.int .i64 4)∧w'=w:=by
 go_enter Tryz.func108,Tryz.ntmps108;go_wp2_with fail
 go_ret;exact⟨rfl,rfl⟩
theorem rule_nil{p c num:Nat}{a:Option Addr}{w:World} :
  Calls Tryz.prog 109 #[ptr p,.int .i64 num,.slice a 0 c] w fun e w'=>e= .returned (.int .i64 4)∧w'=w:=by
 go_enter Tryz.func109,Tryz.ntmps109;go_wp2_with fail
 go_ret;exact⟨rfl,rfl⟩
theorem bracket_nil{p c num:Nat}{a:Option Addr}{w:World} :
  Calls Tryz.prog 110 #[ptr p,.int .i64 num,.slice a 0 c] w fun e w'=>e= .returned (.int .i64 4)∧w'=w:=by
 go_enter Tryz.func110,Tryz.ntmps110;go_wp2_with fail
 go_ret;exact⟨rfl,rfl⟩
theorem splitW_len(s:ByteArray):(splitW s).length=Lib.countB s spB+1:=Lib.splitB_all spB (by decide) 0 _ s rfl
theorem extract_le(s:ByteArray)(a b:Nat):(s.extract a b).size≤s.size:=by
 show(s.extract a b).data.size≤s.data.size;rw[ByteArray.data_extract];simp;omega
theorem splitB_size(sep:ByteArray)(sv:Nat):∀(k:Nat) (s:ByteArray),∀x∈Lib.splitB sep sv k s,x.size≤s.size
 |0,s=>fun x hx=>by simp[Lib.splitB] at hx;subst hx;exact Nat.le_refl _
 |k+1,s=>fun x hx=>by
  unfold Lib.splitB at hx;split at hx
  ·simp at hx;subst hx;exact Nat.le_refl _
  ·rcases List.mem_cons.1 hx with h|h
   ·subst h;exact extract_le _ _ _
   ·exact Nat.le_trans (splitB_size sep sv k _ x h) (extract_le _ _ _)
theorem splitW_size(s:ByteArray):∀x∈splitW s,x.size≤s.size:=splitB_size spB 0 _ s
theorem countB_le1(s:ByteArray):Lib.countB s spB≤s.size:=by
 have:=Lib.countB_le spB (by decide) s.size s (Nat.le_refl _);simpa using this
theorem split_c(s:ByteArray)(w:World)(h:MaxLenAt w)(hs:s.size≤1000000000):
  Calls Tryz.prog 106 #[.string s,.string ⟨#[32]⟩] w fun e w'=>e= .returned (.slice (some ⟨w.heap.size,0,none⟩) (splitW s).length (splitW s).length)∧w'=w.alloc (.cells ((splitW s).map Value.string).toArray TS):=by
 obtain⟨m,hm⟩:=h;rw[splitW_len];exact Tryz.strings_Split s ⟨#[32]⟩ m w (by omega) hm (by decide)
theorem ErrPost.none{B p:Nat}{A:RA}{o:Option RS}{w w':World}{n:Int}(ho:o=none)(hn:n≠0)(hk:Kp (fun k=>B≤k) w w'):ErrPost B p A o w (.returned (.int .i64 n)) w':=by
 subst ho;exact⟨n,rfl,hk,hn⟩
theorem RS.take_words{R:RS}{n:Nat}{s h:ByteArray}{l:List ByteArray}(h0:¬s.size=0)(h1:¬bt s 0=35)(hw:splitW s=h::l):
  R.take n s=if h=tokenB then R.token l false else if h=layoutB then R.token l true else if h=sortB then R.sort_ l
   else if h=ruleB then R.rule n l else if h=bracketB then R.bracket n l else none:=by
 unfold RS.take;rw[if_neg (by rintro(h2|h2);exact h0 h2;exact h1 h2),hw]
theorem take_c{B p num:Nat}{R:RS}{A:RA}{w:World}(s:ByteArray)(h:RdAt w B p R A)(ok:RSok R)(hm:MaxLenAt w)(hs:s.size≤1000000)(hnum:num≤2000000):
  Calls Tryz.prog 63 #[ptr p,.int .i64 num,.string s] w (ErrPost B p A (R.take num s) w):=by
 by_cases h0:s.size=0
 ·have he:=isE_true h0;have hF:Hid (R.take num s=some R):=Qh (by unfold RS.take;rw[if_pos (.inl h0)]);have H:=Qh (And.intro h ok);clear h ok h0;go_enter Tryz.func63,Tryz.ntmps63;go_wp2_with fail
  go_ret;refine⟨0,rfl,Qb _ _,?_⟩;rw[hF.out];exact⟨rfl,H.out.2,A,H.out.1,rfl,rfl⟩
 ·have he:=Yg h0;have hlt:0<s.size:=by omega
  have hlt':(0:Int)<s.size:=by omega
  have hE:=bt_in hlt;by_cases h1:bt s 0=35
  ·have i1:(((s[0].toNat:Nat):Int)==35)=true:=by rw[←hE];simp[h1]
   have hF:Hid (R.take num s=some R):=Qh (by unfold RS.take;rw[if_pos (.inr h1)]);have H:=Qh (And.intro h ok);clear h ok h1 hE;go_enter Tryz.func63,Tryz.ntmps63;go_wp2_with fail
   go_ret;refine⟨0,rfl,Qb _ _,?_⟩;rw[hF.out];exact⟨rfl,H.out.2,A,H.out.1,rfl,rfl⟩
  ·have i1:(((s[0].toNat:Nat):Int)==35)=false:=by rw[←hE];simp;omega
   obtain⟨hd,l,hsp⟩:∃hd l,splitW s=hd::l:=by
    have:=splitW_len s;cases hx:splitW s with
    |nil=>rw[hx] at this;simp at this
    |cons a l=>exact⟨a,l,rfl⟩
   have HSZ:Hid (∀x∈hd::l,x.size≤1000000):=Qh (fun x hx=>by have:=splitW_size s x (by rw[hsp];exact hx);omega);have hlen:l.length≤1000000:=by
    have e1:=splitW_len s;have e2:=countB_le1 s;rw[hsp] at e1;simp at e1;omega
   have hF:=RS.take_words (R:=R) (n:=num) h0 h1 hsp;have hSP:=split_c s w hm (by omega);rw[hsp] at hSP;simp only[List.length_cons] at hSP;obtain⟨bl,hbl⟩:∃z,z=w.heap.size:=⟨_,rfl⟩;obtain⟨w1,hw1⟩:∃z,z=w.alloc (.cells ((hd::l).map Value.string).toArray TS):=⟨_,rfl⟩;rw[←hbl,←hw1] at hSP;have HSP:=Qh hSP;have hk1:Kn w w1:=by rw[hw1];exact(Qb _ _).alloc _
   have hbb:w1.heap[bl]? =some (.cells ((hd::l).map Value.string).toArray TS (0,0)):=by rw[hw1,hbl];exact Qf _ _
   have x0:w1.cell? ⟨bl,0,none⟩=some (.string hd):=by rw[Qa hbb];try rfl
   have HWL:Hid (WL w1 bl 1 l):=Qh (fun i hi=>by
    rw[Qa hbb,List.getElem?_toArray,List.getElem?_map,show 1+i=i+1 by omega,List.getElem?_cons_succ,List.getElem?_eq_getElem hi];try rfl)
   have HO:Hid (Off A p bl):=Qh ⟨by have:=h.lt;omega,fun g hg=>by have:=(h.lits.lt g hg).2;omega,fun g hg=>by have:=(h.sorts.lt g hg).2;omega,by have:=h.names.lt;omega,by have:=h.cons.lt;omega,by have:=h.rounds.lt;omega⟩;have HR:=Qh (h.kn hk1);have HM:=Qh (hm.kn hk1);have HOK:=Qh ok;have HK1:=Qh hk1;have HF:=Qh hF;clear h ok hm hF hSP hbl hw1 hk1 hbb hsp h1 h0 hE;by_cases h1:hd=tokenB
   ·have c1:(hd.toList==[116,111,107,101,110])=true:=by rw[Yy];exact decide_eq_true h1
    have hF2:Hid (R.take num s=R.token l false):=Qh (by rw[HF.out,if_pos h1]);clear h1;by_cases hl0:l=[]
    ·subst hl0;have hF3:Hid (R.take num s=none):=Qh (by rw[hF2.out];exact R.token_not [] _ (by simp));simp only[List.length_nil,Nat.zero_add] at HSP;go_enter Tryz.func63,Tryz.ntmps63;go_wp2_with fail
     refine HSP.out.mono ?_;rintro e9 w9 ⟨rfl,rfl⟩;go_wp2_with fail
     refine(token_nil (p:=p) (c:=0) false).mono ?_;rintro e9 w8 ⟨rfl,rfl⟩;go_wp2_with fail
     go_ret;exact ErrPost.none hF3.out (by decide) (QO HK1.out)
    ·have hl1:0<l.length:=List.length_pos_iff.2 hl0;have hl2:¬l.length=0:=by omega
     have hl3:(0:Int)<l.length:=by omega
     clear hl0;go_enter Tryz.func63,Tryz.ntmps63;go_wp2_with fail
     refine HSP.out.mono ?_;rintro e9 w9 ⟨rfl,rfl⟩;go_wp2_with fail
     refine(token_c (c:=l.length) l false HR.out HOK.out HWL.out HO.out (by omega) (fun x hx=>by have:=HSZ.out x (by simp[hx]);omega)).mono ?_;rintro e9 w8 ⟨n9,rfl,hkz,hmz⟩;go_wp2_with fail
     go_ret;refine⟨n9,rfl,(QO HK1.out).trans hkz,?_⟩;rw[hF2.out];exact hmz
   ·have c1:(hd.toList==[116,111,107,101,110])=false:=by rw[Yy];exact decide_eq_false h1
    by_cases h2:hd=layoutB
    ·have c2:(hd.toList==[108,97,121,111,117,116])=true:=by rw[Yy];exact decide_eq_true h2
     have hF2:Hid (R.take num s=R.token l true):=Qh (by rw[HF.out,if_neg h1,if_pos h2]);clear h2 h1;by_cases hl0:l=[]
     ·subst hl0;have hF3:Hid (R.take num s=none):=Qh (by rw[hF2.out];exact R.token_not [] _ (by simp));simp only[List.length_nil,Nat.zero_add] at HSP;go_enter Tryz.func63,Tryz.ntmps63;go_wp2_with fail
      refine HSP.out.mono ?_;rintro e9 w9 ⟨rfl,rfl⟩;go_wp2_with fail
      refine(token_nil (p:=p) (c:=0) true).mono ?_;rintro e9 w8 ⟨rfl,rfl⟩;go_wp2_with fail
      go_ret;exact ErrPost.none hF3.out (by decide) (QO HK1.out)
     ·have hl1:0<l.length:=List.length_pos_iff.2 hl0;have hl2:¬l.length=0:=by omega
      have hl3:(0:Int)<l.length:=by omega
      clear hl0;go_enter Tryz.func63,Tryz.ntmps63;go_wp2_with fail
      refine HSP.out.mono ?_;rintro e9 w9 ⟨rfl,rfl⟩;go_wp2_with fail
      refine(token_c (c:=l.length) l true HR.out HOK.out HWL.out HO.out (by omega) (fun x hx=>by have:=HSZ.out x (by simp[hx]);omega)).mono ?_;rintro e9 w8 ⟨n9,rfl,hkz,hmz⟩;go_wp2_with fail
      go_ret;refine⟨n9,rfl,(QO HK1.out).trans hkz,?_⟩;rw[hF2.out];exact hmz
    ·have c2:(hd.toList==[108,97,121,111,117,116])=false:=by rw[Yy];exact decide_eq_false h2
     by_cases h3:hd=sortB
     ·have c3:(hd.toList==[115,111,114,116])=true:=by rw[Yy];exact decide_eq_true h3
      have hF2:Hid (R.take num s=R.sort_ l):=Qh (by rw[HF.out,if_neg h1,if_neg h2,if_pos h3]);clear h3 h1 h2;by_cases hl0:l=[]
      ·subst hl0;have hF3:Hid (R.take num s=none):=Qh (by rw[hF2.out];exact rfl);simp only[List.length_nil,Nat.zero_add] at HSP;go_enter Tryz.func63,Tryz.ntmps63;go_wp2_with fail
       refine HSP.out.mono ?_;rintro e9 w9 ⟨rfl,rfl⟩;go_wp2_with fail
       refine(sort_nil (p:=p) (c:=0)).mono ?_;rintro e9 w8 ⟨rfl,rfl⟩;go_wp2_with fail
       go_ret;exact ErrPost.none hF3.out (by decide) (QO HK1.out)
      ·have hl1:0<l.length:=List.length_pos_iff.2 hl0;have hl2:¬l.length=0:=by omega
       have hl3:(0:Int)<l.length:=by omega
       clear hl0;go_enter Tryz.func63,Tryz.ntmps63;go_wp2_with fail
       refine HSP.out.mono ?_;rintro e9 w9 ⟨rfl,rfl⟩;go_wp2_with fail
       refine(sort_c (c:=l.length) l HR.out HOK.out HWL.out HO.out (by omega) (fun x hx=>by have:=HSZ.out x (by simp[hx]);omega)).mono ?_;rintro e9 w8 ⟨n9,rfl,hkz,hmz⟩;go_wp2_with fail
       go_ret;refine⟨n9,rfl,(QO HK1.out).trans hkz,?_⟩;rw[hF2.out];exact hmz
     ·have c3:(hd.toList==[115,111,114,116])=false:=by rw[Yy];exact decide_eq_false h3
      by_cases h4:hd=ruleB
      ·have c4:(hd.toList==[114,117,108,101])=true:=by rw[Yy];exact decide_eq_true h4
       have hF2:Hid (R.take num s=R.rule num l):=Qh (by rw[HF.out,if_neg h1,if_neg h2,if_neg h3,if_pos h4]);clear h4 h1 h2 h3;by_cases hl0:l=[]
       ·subst hl0;have hF3:Hid (R.take num s=none):=Qh (by rw[hF2.out];exact R.rule_short num [] (by simp));simp only[List.length_nil,Nat.zero_add] at HSP;go_enter Tryz.func63,Tryz.ntmps63;go_wp2_with fail
        refine HSP.out.mono ?_;rintro e9 w9 ⟨rfl,rfl⟩;go_wp2_with fail
        refine(rule_nil (p:=p) (c:=0) (num:=num)).mono ?_;rintro e9 w8 ⟨rfl,rfl⟩;go_wp2_with fail
        go_ret;exact ErrPost.none hF3.out (by decide) (QO HK1.out)
       ·have hl1:0<l.length:=List.length_pos_iff.2 hl0;have hl2:¬l.length=0:=by omega
        have hl3:(0:Int)<l.length:=by omega
        clear hl0;go_enter Tryz.func63,Tryz.ntmps63;go_wp2_with fail
        refine HSP.out.mono ?_;rintro e9 w9 ⟨rfl,rfl⟩;go_wp2_with fail
        refine(grule_c (c0:=l.length) (num:=num) l HR.out HOK.out HM.out HWL.out HO.out (by omega) (Nat.le_refl _) (fun x hx=>HSZ.out x (by simp[hx])) hnum).mono ?_;rintro e9 w8 ⟨n9,rfl,hkz,hmz⟩;go_wp2_with fail
        go_ret;refine⟨n9,rfl,(QO HK1.out).trans hkz,?_⟩;rw[hF2.out];exact hmz
      ·have c4:(hd.toList==[114,117,108,101])=false:=by rw[Yy];exact decide_eq_false h4
       by_cases h5:hd=bracketB
       ·have c5:(hd.toList==[98,114,97,99,107,101,116])=true:=by rw[Yy];exact decide_eq_true h5
        have hF2:Hid (R.take num s=R.bracket num l):=Qh (by rw[HF.out,if_neg h1,if_neg h2,if_neg h3,if_neg h4,if_pos h5]);clear h5 h1 h2 h3 h4;by_cases hl0:l=[]
        ·subst hl0;have hF3:Hid (R.take num s=none):=Qh (by rw[hF2.out];exact R.bracket_not num [] (by simp));simp only[List.length_nil,Nat.zero_add] at HSP;go_enter Tryz.func63,Tryz.ntmps63;go_wp2_with fail
         refine HSP.out.mono ?_;rintro e9 w9 ⟨rfl,rfl⟩;go_wp2_with fail
         refine(bracket_nil (p:=p) (c:=0) (num:=num)).mono ?_;rintro e9 w8 ⟨rfl,rfl⟩;go_wp2_with fail
         go_ret;exact ErrPost.none hF3.out (by decide) (QO HK1.out)
        ·have hl1:0<l.length:=List.length_pos_iff.2 hl0;have hl2:¬l.length=0:=by omega
         have hl3:(0:Int)<l.length:=by omega
         clear hl0;go_enter Tryz.func63,Tryz.ntmps63;go_wp2_with fail
         refine HSP.out.mono ?_;rintro e9 w9 ⟨rfl,rfl⟩;go_wp2_with fail
         refine(bracket_c (c0:=l.length) (num:=num) l HR.out HOK.out HWL.out HO.out (by omega) (fun x hx=>HSZ.out x (by simp[hx])) hnum).mono ?_;rintro e9 w8 ⟨n9,rfl,hkz,hmz⟩;go_wp2_with fail
         go_ret;refine⟨n9,rfl,(QO HK1.out).trans hkz,?_⟩;rw[hF2.out];exact hmz
       ·have c5:(hd.toList==[98,114,97,99,107,101,116])=false:=by rw[Yy];exact decide_eq_false h5
        have hF2:Hid (R.take num s=none):=Qh (by rw[HF.out,if_neg h1,if_neg h2,if_neg h3,if_neg h4,if_neg h5]);clear h1 h2 h3 h4 h5;go_enter Tryz.func63,Tryz.ntmps63;go_wp2_with fail
        refine HSP.out.mono ?_;rintro e9 w9 ⟨rfl,rfl⟩;go_wp2_with fail
        go_ret;exact ErrPost.none hF2.out (by decide) (QO HK1.out)
def clIdx(cs:List GC)(x:ByteArray)(k:Nat):Prop:=∀j (h:j<cs.length),j<k→cs[j].name≠x
theorem str_eq2(a b:ByteArray):(a.toList==b.toList)=decide (a=b):=by
 rw[Yy];congr 1;rw[Lib.toList_data]
theorem class1_c{bx:Nat}{w:World}(c:GC)(x:ByteArray)(hb:w.heap[bx]? =some (.cells #[.string x] TS (0,0))):
  Calls Tryz.prog 253 #[.agg #[.string c.name,.string c.regex,.bool c.layout],.pointer (some ⟨bx,0,none⟩)] w fun e w'=>e= .returned (.bool (decide (c.name=x)))∧Kn w w':=by
 have c0:w.cell? ⟨bx,0,none⟩=some (.string x):=by rw[Qa hb];try rfl
 have hl:=Qk hb;have hE:=Qh (str_eq2 c.name x);clear hb;go_enter Tryz.func253,Tryz.ntmps253;go_wp2_with fail
 go_ret;exact⟨by rw[←hE.out];try rfl,(Qb _ _).alloc _⟩
def idxC(cs:List GC)(x:ByteArray):Int:=match cs.findIdx? (fun c=>decide (c.name=x)) with|some i=>(i:Int)|none=> -1
theorem clIdx_some{cs:List GC}{x:ByteArray}{k:Nat}(h:clIdx cs x k)(hk:k<cs.length)(hx:cs[k].name=x):cs.findIdx? (fun c=>decide (c.name=x))=some k:=by
 rw[List.findIdx?_eq_some_iff_getElem];exact⟨hk,decide_eq_true hx,fun j hj=>by simpa using h j (by omega) hj⟩
theorem clIdx_none{cs:List GC}{x:ByteArray}(h:clIdx cs x cs.length):cs.findIdx? (fun c=>decide (c.name=x))=none:=by
 rw[List.findIdx?_eq_none_iff];intro c hc;obtain⟨j,hj,rfl⟩:=List.getElem_of_mem hc;exact decide_eq_false (h j hj hj)
theorem indexFunc_c{B bx:Nat}{v:Value}{cs:List GC}{w:World}(x:ByteArray)(h:OwnK w B TCl 3 v (cs.map clL))(hb:w.heap[bx]? =some (.cells #[.string x] TS (0,0)))(hl:cs.length≤1000):
  Calls Tryz.prog 252 #[v,.func (.func 253) #[] #[.pointer (some ⟨bx,0,none⟩)]] w fun e w'=>e= .returned (.int .i64 (idxC cs x))∧Kn w w':=by
 obtain⟨a,c,rfl,_,_,hg⟩:=h.row (fun C hC=>by obtain⟨x,_,rfl⟩:=List.mem_map.1 hC;rfl);rw[List.length_map] at*;have H:=Qh h;have HB:=Qh hb;clear h hb;go_enter Tryz.func252,Tryz.ntmps252;go_wp2_with fail
 go_loopw [8] (fun s8 wr=>∃k:Nat,s8= .int .i64 k∧k≤cs.length∧Hid (clIdx cs x k)∧Kn w wr) (fun s8 _=>cs.length-(intOf s8).toNat)
 case atStart=>exact⟨0,rfl,Nat.zero_le _,Qh (fun j h1 h2=>by omega),Qb _ _⟩
 case round=>
  obtain⟨k,rfl,hk,hno,hkn⟩:=hrel;by_cases hlt:k<cs.length
  ·obtain⟨g,rfl,_,_,hcs⟩:=hg (fun e=>by rw[List.map_eq_nil_iff] at e;subst e;simp at hlt);have h3:=hcs k (by simpa using hlt);have c0:wr.cell? ⟨g,k*3,none⟩=some (.string cs[k].name):=by
    have:=(h3 0 (by omega)).1;rw[show 0+3*k+0=k*3 by omega] at this;refine Qd hkn ?_;rw[this];simp[clL]
   have c1:wr.cell? ⟨g,k*3+1,none⟩=some (.string cs[k].regex):=by
    have:=(h3 1 (by omega)).1;rw[show 0+3*k+1=k*3+1 by omega] at this;refine Qd hkn ?_;rw[this];simp[clL]
   have c2:wr.cell? ⟨g,k*3+2,none⟩=some (.bool cs[k].layout):=by
    have:=(h3 2 (by omega)).1;rw[show 0+3*k+2=k*3+2 by omega] at this;refine Qd hkn ?_;rw[this];simp[clL]
   obtain⟨y,hy⟩:∃y,y=cs[k]:=⟨_,rfl⟩;rw[←hy] at c0 c1 c2;have HC1:=Qh (class1_c y x (hkn.blk HB.out (fun x=>x)));have HY:=Qh hy;clear hy hcs h3;by_cases hx:y.name=x
   ·have hF:Hid (idxC cs x=(k:Nat)):=Qh (by unfold idxC;rw[clIdx_some hno.out hlt (by rw[←HY.out];exact hx)]);rw[decide_eq_true hx] at HC1;clear hx;go_wp2_with fail
    refine HC1.out.mono ?_;rintro e w4 ⟨rfl,hk4⟩;have hkn4:=hkn.trans hk4;go_wp2_with fail
    go_ret;exact⟨by rw[hF.out];try rfl,hkn4⟩
   ·have hN:Hid (clIdx cs x (k+1)):=Qh (fun j h1 h2=>by
     rcases Nat.lt_succ_iff_lt_or_eq.1 h2 with h|h
     ·exact hno.out j h1 h
     ·subst h;rw[←HY.out];exact hx)
    rw[decide_eq_false hx] at HC1;clear hx;go_wp2_with fail
    refine HC1.out.mono ?_;rintro e w4 ⟨rfl,hk4⟩;have hkn4:=hkn.trans hk4;go_wp2_with fail
    go_roundw
    case rel=>exact⟨k+1,by go_num,by omega,hN,hkn4⟩
    case measure=>simp[intOf];omega
  ·obtain rfl:k=cs.length:=by omega
   have hF:Hid (idxC cs x= -1):=Qh (by unfold idxC;rw[clIdx_none hno.out]);go_wp2_with fail
   go_ret;exact⟨by rw[hF.out];try rfl,hkn⟩
def clsV(R:RS)(x:ByteArray):Value:= .tuple #[.int .i64 ((R.lits.length:Int)+idxC R.cls x),.bool (decide (0≤idxC R.cls x))]
theorem idxC_ge(cs:List GC)(x:ByteArray): -1≤idxC cs x∧idxC cs x<cs.length:=by
 unfold idxC;split
 ·rename_i i h;obtain⟨h1,_⟩:=List.findIdx?_eq_some_iff_getElem.1 h;omega
 ·omega
theorem gclass_c{B p:Nat}{R:RS}{A:RA}{w:World}(x:ByteArray)(h:RdAt w B p R A)(ok:RSok R):
  Calls Tryz.prog 210 #[ptr p,.string x] w fun e w'=>e= .returned (clsV R x)∧Kn w w':=by
 obtain⟨a1,c1,hv1,_⟩:=h.cls.row (fun C hC=>by obtain⟨x,_,rfl⟩:=List.mem_map.1 hC;rfl);obtain⟨a0,c0,hv0,_⟩:=h.lits.look;rw[List.length_map] at hv1;have hk1:Kn w (w.alloc (.cells #[.string x] TS)):=(Qb _ _).alloc _;have hb:(w.alloc (.cells #[.string x] TS)).heap[w.heap.size]? =some (.cells #[.string x] TS (0,0)):=Qf _ _;obtain⟨w1,hw1⟩:∃z,z=w.alloc (.cells #[.string x] TS):=⟨_,rfl⟩;obtain⟨bx,hbx⟩:∃z,z=w.heap.size:=⟨_,rfl⟩;rw[←hw1,←hbx] at hb;rw[←hw1] at hk1;have hr1:=h.kn hk1;have hcl:=hr1.cls;rw[hv1] at hcl;have HIX:=Qh (indexFunc_c x hcl hb (by have:=ok.cls;omega));obtain⟨_,q1,_⟩:=hr1.cells;rw[hv1] at q1;have HR1:=Qh hr1;have HW:=Qh (And.intro hw1 hbx);have HV0:=Qh hv0;have hl:=ok.lits;have hc:=ok.cls;have hmf:∀(fn:Fn) (first cap:Array Value) (w:World),(Instr.makeFunc fn first cap).run Tryz.prog w= .ok (.func fn first cap) w:=fun _ _ _ _=>rfl
 have HRL:=Qh hl;clear h ok hv1 hb hw1 hbx hr1 hcl hv0;go_enter Tryz.func210,Tryz.ntmps210;go_upto_region 1 with fail
 rw[←HW.out.1,←HW.out.2];obtain⟨ix,hix⟩:∃ix,ix=idxC R.cls x:=⟨_,rfl⟩;have hge:=idxC_ge R.cls x;rw[←hix] at hge HIX;have HVV:Hid (clsV R x= .tuple #[.int .i64 ((R.lits.length:Int)+ix),.bool (decide (0≤ix))]):=Qh (by rw[hix];try rfl);clear hix;go_wp2_with fail
 refine HIX.out.mono ?_;rintro e w2 ⟨rfl,hk2⟩;have HK:=Qh (hk1.trans hk2);obtain⟨q0,_⟩:=(HR1.out.kn hk2).cells;rw[HV0.out] at q0;go_wp2_with fail
 go_ret2
 exact⟨by rw[HVV.out];try rfl,HK.out⟩
abbrev paV(q:GP):Value:= .agg #[.int .i64 q.cls,.int .i64 q.sort,.int .i64 q.level,.bool q.fixed]
def Part2Post(R:RS)(x:GW)(w:World)(e:Ending)(w':World):Prop:=
 Kn w w'∧∃(q:GP) (ok:Bool),e= .returned (.tuple #[paV q,.bool ok])∧match R.part x with|some q'=>ok=true∧q=q'|none=>ok=false
theorem part_sort{R:RS}{x:GW}(h0:x.lit.size=0)(h1:x.sort=true):R.part x=if 0≤Lib.idxOfS R.sorts x.name then some ⟨-1,Lib.idxOfS R.sorts x.name,x.level,false⟩ else none:=by
 unfold RS.part;rw[if_neg (by simp[h0]),if_pos h1]
theorem part_lit{R:RS}{x:GW}(h0:¬x.lit.size=0):R.part x=some ⟨Lib.idxOfS R.lits x.lit,-1,0,true⟩:=by
 unfold RS.part;rw[if_pos h0]
theorem part_cls{R:RS}{x:GW}(h0:x.lit.size=0)(h1:x.sort=false):(∃i:Nat,idxC R.cls x.name=i∧R.part x=some ⟨(R.lits.length+i:Nat),-1,0,false⟩)∨(idxC R.cls x.name= -1∧R.part x=none):=by
 unfold RS.part idxC;rw[if_neg (by simp[h0]),if_neg (by simp[h1])];cases R.cls.findIdx? (fun c=>decide (c.name=x.name)) with
 |some i=>exact .inl ⟨i,rfl,rfl⟩
 |none=>exact .inr ⟨rfl,rfl⟩
theorem part2_c{B p:Nat}{R:RS}{A:RA}{w:World}(x:GW)(h:RdAt w B p R A)(ok:RSok R):
  Calls Tryz.prog 160 #[ptr p,wdV x] w (Part2Post R x w):=by
 obtain⟨a0,c0,hv0,_⟩:=h.lits.look;obtain⟨a2,c2,hv2,_⟩:=h.sorts.look;have hl40:=ok.lits;obtain⟨bx,hbx⟩:∃z,z=w.heap.size:=⟨_,rfl⟩;obtain⟨b4,hb4⟩:∃z,z=w.heap.size+1:=⟨_,rfl⟩;obtain⟨w1,hw1⟩:∃z,z=(w.alloc (.cells #[.string x.lit,.string x.name,.int .i64 x.level,.bool x.sort] TWd)).alloc (.cells #[.int .i64 0,.int .i64 0,.int .i64 0,.bool false] TPa):=⟨_,rfl⟩;have hk1:Kn w w1:=by rw[hw1];exact((Qb _ _).alloc _).alloc _
 have hbb:w1.heap[bx]? =some (.cells #[.string x.lit,.string x.name,.int .i64 x.level,.bool x.sort] TWd (0,0)):=by rw[hw1,hbx];exact Qp (Qf _ _) _
 have hbr:w1.heap[b4]? =some (.cells #[.int .i64 0,.int .i64 0,.int .i64 0,.bool false] TPa (0,0)):=by
  have:=Qf (w.alloc (.cells #[.string x.lit,.string x.name,.int .i64 x.level,.bool x.sort] TWd)) (.cells #[.int .i64 0,.int .i64 0,.int .i64 0,.bool false] TPa);rw[size_alloc',←hb4,←hw1] at this;exact this
 have hr1:=h.kn hk1;obtain⟨q0,_,q2,_⟩:=hr1.cells;rw[hv0] at q0;rw[hv2] at q2;have d0:w1.cell? ⟨bx,0,none⟩=some (.string x.lit):=by rw[Qa hbb];try rfl
 have d1:w1.cell? ⟨bx,1,none⟩=some (.string x.name):=by rw[Qa hbb];try rfl
 have d2:w1.cell? ⟨bx,2,none⟩=some (.int .i64 x.level):=by rw[Qa hbb];try rfl
 have d3:w1.cell? ⟨bx,3,none⟩=some (.bool x.sort):=by rw[Qa hbb];try rfl
 have hol:=hr1.lits;have hos:=hr1.sorts;rw[hv0] at hol;rw[hv2] at hos;have HIL:=Qh (fun W (hk:Kn w1 W)=>index_c (w:=W) (Ys hol hk (fun _ _ x=>x)) x.lit (by have:=ok.lits;omega));have HIS:=Qh (fun W (hk:Kn w1 W)=>index_c (w:=W) (Ys hos hk (fun _ _ x=>x)) x.name (by have:=ok.sorts;omega));have HCL:=Qh (gclass_c x.name hr1 ok);have HW:=Qh (And.intro hw1 (And.intro hbx hb4));have HBR:=Qh hbr;have hnp:p≠b4:=by have:=h.lt;omega
 have hnx:bx≠b4:=by omega
 have HNW:=Qh (show w.heap.size≤b4 by omega);have HK1:=Qh hk1;have HB0:Hid (b4=w.heap.size+1):=Qh hb4;clear h ok hw1 hbx hb4 hbb hbr hr1 hol hos hk1 hv0 hv2;by_cases h0:x.lit.size=0
 ·have he:=isE_true h0;cases hso:x.sort with
  |true=>
   rw[hso] at d3;have hF:=part_sort (R:=R) h0 hso;obtain⟨ix,hix⟩:∃z,z=Lib.idxOfS R.sorts x.name:=⟨_,rfl⟩;rw[←hix] at hF HIS;have HF:=Qh hF;clear h0 hso hF hix;go_enter Tryz.func160,Tryz.ntmps160;go_upto_region 1 with fail
   rw[←HB0.out,←HW.out.1,←HW.out.2.1];go_wp2_with fail
   refine wp_region_held_drew (S:=fun w'=>w'.cell? ⟨p,2,none⟩=some (.slice a2 R.sorts.length c2)∧w'.cell? ⟨bx,1,none⟩=some (.string x.name)) (by kernel_rfl) ⟨Qd ((Qb _ _).drew) q2,Qd ((Qb _ _).drew) d1⟩ (fun hHeld=> ?_);obtain⟨wd,hwd⟩:∃zz,zz=w1.drew:=⟨_,rfl⟩;have hkd:Kn w1 wd:=by rw[hwd];exact(Qb _ _).drew
   rw[←hwd] at hHeld⊢;clear hwd;refine TW 0 23 ?_;refine TW 1 24 ?_;refine TW 2 25 ?_;refine TW 3 26 ?_;refine TH 4 27 ?_;refine TW 5 28 ?_;refine TH 6 29 ?_;refine RH 7 (fun K hK=> ?_);go_simp
   go_at_call 159
   refine(HIS.out wd hkd).mono ?_;rintro e9 w9 ⟨rfl,hw9⟩;rw[hw9];clear hw9 w9;dsimp only;refine hK.out _ _ hHeld (fun hHeld=> ?_);clear hK K
   try simp only[PP]
   refine TW 8 6 ?_;refine RD ?_;have x2l:=hHeld;clear hHeld;have hbd:=hkd.blk HBR.out (fun x=>x);have x0:wd.cell? ⟨b4,0,none⟩=some (.int .i64 0):=by rw[Qa hbd];try rfl
   have x1:wd.cell? ⟨b4,1,none⟩=some (.int .i64 0):=by rw[Qa hbd];try rfl
   have x2:wd.cell? ⟨b4,2,none⟩=some (.int .i64 0):=by rw[Qa hbd];try rfl
   have x3:wd.cell? ⟨b4,3,none⟩=some (.bool false):=by rw[Qa hbd];try rfl
   have f0:=Qc hbd 0;have f1:=Qc hbd 1;have f2:=Qc hbd 2;have f3:=Qc hbd 3;have e2:wd.cell? ⟨bx,2,none⟩=some (.int .i64 x.level):=Qd hkd d2;have hk13:=HK1.out.trans hkd;have HNW2:=HNW.out;clear x2l hbd d0 d1 d2 d3 q0 q2;go_wp2_with fail
   (try simp only[Exit.inBlock,Exit.then])
   refine bodyPost_ret (v:= .tuple #[paV ⟨-1,ix,x.level,false⟩,.bool (decide (0≤ix))]) (by rw[results_cell_tmp rfl];go_simp;try first|rfl|exact⟨rfl,rfl,rfl,rfl⟩) rfl ⟨?_,_,_,rfl,?_⟩
   ·(repeat' (first|exact hk13|refine Kp.drew ?_|refine Kp.setCell ?_ (fun hp=>by have hp2:b4<w.heap.size:=hp;omega) _))
   ·rw[HF.out];by_cases h9:0≤ix
    ·rw[if_pos h9];exact⟨decide_eq_true h9,rfl⟩
    ·rw[if_neg h9];exact decide_eq_false h9
  |false=>
   rw[hso] at d3;have hF:=part_cls (R:=R) h0 hso;have hge:=idxC_ge R.cls x.name;obtain⟨ix,hix⟩:∃z,z=idxC R.cls x.name:=⟨_,rfl⟩;have HVV:Hid (clsV R x.name= .tuple #[.int .i64 ((R.lits.length:Int)+ix),.bool (decide (0≤ix))]):=Qh (by rw[hix];try rfl);rw[HVV.out] at HCL;rw[←hix] at hF hge;have HF:=Qh hF;clear h0 hso hF hix HVV;go_enter Tryz.func160,Tryz.ntmps160;go_upto_region 1 with fail
   rw[←HB0.out,←HW.out.1,←HW.out.2.1];go_wp2_with fail
   refine HCL.out.mono ?_;rintro e9 w3 ⟨rfl,hk3⟩;have hb3:=hk3.blk HBR.out (fun x=>x);have x0:w3.cell? ⟨b4,0,none⟩=some (.int .i64 0):=by rw[Qa hb3];try rfl
   have x1:w3.cell? ⟨b4,1,none⟩=some (.int .i64 0):=by rw[Qa hb3];try rfl
   have x2:w3.cell? ⟨b4,2,none⟩=some (.int .i64 0):=by rw[Qa hb3];try rfl
   have x3:w3.cell? ⟨b4,3,none⟩=some (.bool false):=by rw[Qa hb3];try rfl
   have f0:=Qc hb3 0;have f1:=Qc hb3 1;have f2:=Qc hb3 2;have f3:=Qc hb3 3;have hk13:=HK1.out.trans hk3;have HNW2:=HNW.out;clear hb3 d0 d1 d2 d3 q0 q2;go_wp2_with fail
   (try simp only[Exit.inBlock,Exit.then])
   refine bodyPost_ret (v:= .tuple #[paV ⟨(R.lits.length:Int)+ix,-1,0,false⟩,.bool (decide (0≤ix))]) (by rw[results_cell_tmp rfl];go_simp;try first|rfl|exact⟨rfl,rfl,rfl,rfl⟩) rfl ⟨?_,_,_,rfl,?_⟩
   ·(repeat' (first|exact hk13|refine Kp.drew ?_|refine Kp.setCell ?_ (fun hp=>by have hp2:b4<w.heap.size:=hp;omega) _))
   ·rcases HF.out with⟨i,h1,h2⟩|⟨h1,h2⟩
    ·rw[h2,h1];exact⟨by simp,by simp⟩
    ·rw[h2,h1];try rfl
 ·have he:=Yg h0;have hF:=part_lit (R:=R) h0;obtain⟨ix,hix⟩:∃z,z=Lib.idxOfS R.lits x.lit:=⟨_,rfl⟩;rw[←hix] at hF HIL;have HF:=Qh hF;clear h0 hF hix;go_enter Tryz.func160,Tryz.ntmps160;go_upto_region 1 with fail
  rw[←HB0.out,←HW.out.1,←HW.out.2.1];go_wp2_with fail
  refine wp_region_held_drew (S:=fun w'=>True) (by kernel_rfl) trivial (fun hHeld=> ?_);obtain⟨wd,hwd⟩:∃zz,zz=w1.drew:=⟨_,rfl⟩;have hkd:Kn w1 wd:=by rw[hwd];exact(Qb _ _).drew
  rw[←hwd];clear hwd;refine TW 0 12 ?_;refine TW 1 13 ?_;refine TW 2 14 ?_;refine TW 3 15 ?_;refine TW 5 17 ?_;refine RH2 4 6 (fun K hK=> ?_) (fun K hK=> ?_)
  ·have xq:wd.cell? ⟨p,0,none⟩=some (.slice a0 R.lits.length c0):=Qd hkd q0;go_simp;clear xq;refine hK.out _ _ trivial (fun hHeld=> ?_);clear hK K
   try simp only[PP]
   refine RH 6 (fun K hK=> ?_);have xq:wd.cell? ⟨bx,0,none⟩=some (.string x.lit):=Qd hkd d0;go_simp;clear xq;refine hK.out _ _ trivial (fun hHeld=> ?_);clear hK K
   try simp only[PP]
   refine RH 7 (fun K hK=> ?_);go_simp
   go_at_call 159
   refine(HIL.out wd hkd).mono ?_;rintro e9 w9 ⟨rfl,hw9⟩;rw[hw9];clear hw9 w9;dsimp only;refine hK.out _ _ trivial (fun hHeld=> ?_);clear hK K
   try simp only[PP]
   refine TW 8 20 ?_;refine RH 9 (fun K hK=> ?_);have hbd:=hkd.blk HBR.out (fun x=>x);have x0:wd.cell? ⟨b4,0,none⟩=some (.int .i64 0):=by rw[Qa hbd];try rfl
   have x1:wd.cell? ⟨b4,1,none⟩=some (.int .i64 0):=by rw[Qa hbd];try rfl
   have x2:wd.cell? ⟨b4,2,none⟩=some (.int .i64 0):=by rw[Qa hbd];try rfl
   have x3:wd.cell? ⟨b4,3,none⟩=some (.bool false):=by rw[Qa hbd];try rfl
   have f0:=Qc hbd 0;have f1:=Qc hbd 1;have f2:=Qc hbd 2;have f3:=Qc hbd 3;go_simp;refine hK.out _ _ trivial (fun hHeld=> ?_);clear hK K
   try simp only[PP]
   refine TW 10 5 ?_;refine RD ?_;clear hHeld;have hk13:=HK1.out.trans hkd;have HNW2:=HNW.out;go_wp2_with fail
   (try simp only[Exit.inBlock,Exit.then])
   refine bodyPost_ret (v:= .tuple #[paV ⟨ix,-1,0,true⟩,.bool true]) (by rw[results_cell_tmp rfl];go_simp;try first|rfl|exact⟨rfl,rfl,rfl,rfl⟩) rfl ⟨?_,_,_,rfl,?_⟩
   ·(repeat' (first|exact hk13|refine Kp.drew ?_|refine Kp.setCell ?_ (fun hp=>by have hp2:b4<w.heap.size:=hp;omega) _))
   ·rw[HF.out];exact⟨rfl,rfl⟩
  ·have xq:wd.cell? ⟨bx,0,none⟩=some (.string x.lit):=Qd hkd d0;go_simp;clear xq;refine hK.out _ _ trivial (fun hHeld=> ?_);clear hK K
   try simp only[PP]
   refine RH 4 (fun K hK=> ?_);have xq:wd.cell? ⟨p,0,none⟩=some (.slice a0 R.lits.length c0):=Qd hkd q0;go_simp;clear xq;refine hK.out _ _ trivial (fun hHeld=> ?_);clear hK K
   try simp only[PP]
   refine RH 7 (fun K hK=> ?_);go_simp
   go_at_call 159
   refine(HIL.out wd hkd).mono ?_;rintro e9 w9 ⟨rfl,hw9⟩;rw[hw9];clear hw9 w9;dsimp only;refine hK.out _ _ trivial (fun hHeld=> ?_);clear hK K
   try simp only[PP]
   refine TW 8 20 ?_;refine RH 9 (fun K hK=> ?_);have hbd:=hkd.blk HBR.out (fun x=>x);have x0:wd.cell? ⟨b4,0,none⟩=some (.int .i64 0):=by rw[Qa hbd];try rfl
   have x1:wd.cell? ⟨b4,1,none⟩=some (.int .i64 0):=by rw[Qa hbd];try rfl
   have x2:wd.cell? ⟨b4,2,none⟩=some (.int .i64 0):=by rw[Qa hbd];try rfl
   have x3:wd.cell? ⟨b4,3,none⟩=some (.bool false):=by rw[Qa hbd];try rfl
   have f0:=Qc hbd 0;have f1:=Qc hbd 1;have f2:=Qc hbd 2;have f3:=Qc hbd 3;go_simp;refine hK.out _ _ trivial (fun hHeld=> ?_);clear hK K
   try simp only[PP]
   refine TW 10 5 ?_;refine RD ?_;clear hHeld;have hk13:=HK1.out.trans hkd;have HNW2:=HNW.out;go_wp2_with fail
   (try simp only[Exit.inBlock,Exit.then])
   refine bodyPost_ret (v:= .tuple #[paV ⟨ix,-1,0,true⟩,.bool true]) (by rw[results_cell_tmp rfl];go_simp;try first|rfl|exact⟨rfl,rfl,rfl,rfl⟩) rfl ⟨?_,_,_,rfl,?_⟩
   ·(repeat' (first|exact hk13|refine Kp.drew ?_|refine Kp.setCell ?_ (fun hp=>by have hp2:b4<w.heap.size:=hp;omega) _))
   ·rw[HF.out];exact⟨rfl,rfl⟩
def paL(q:GP):List Value:=[.int .i64 q.cls,.int .i64 q.sort,.int .i64 q.level,.bool q.fixed]
def ruL(r:GR)(v:Value):List Value:=[.int .i64 r.sort,.string r.cons,.int .i64 r.level,v]
def brM(m:List (Nat×Nat)):KV:=m.map (fun p=>(Value.int .i64 (p.1:Nat),Value.int .i64 (p.2:Nat)))
abbrev TI:TypeId:=3
theorem brM_mem{m:List (Nat×Nat)}{p:Value×Value} :p∈brM m↔∃q∈m,p=(.int .i64 (q.1:Nat),.int .i64 (q.2:Nat)):=by
 unfold brM;rw[List.mem_map];exact⟨fun⟨s,h,e⟩=>⟨s,h,e.symm⟩,fun⟨s,h,e⟩=>⟨s,h,e.symm⟩⟩
theorem int_keyOf(x:Nat)(h:x≤1000000):∃l,keyOf Tryz.prog TI (.int .i64 (x:Nat))=some l:=⟨_,keyOf_int_mk Tryz.underlying3 (by
 simp[Lit.wf,IntKind.min,IntKind.max,IntKind.signed,IntKind.bits];omega)⟩
theorem brPut_map{w:World}{kb:Nat}{m:List (Nat×Nat)}(x v:Nat)(hx:x≤1000000)(h:MapA w TI kb (brM m)):
  ∃w',(Instr.mapUpdate 129 (.map (some kb)) (.int .i64 (x:Nat)) (.int .i64 (v:Nat))).run Tryz.prog w= .ok () w'∧MapA w' TI kb (brM (brPut m x v))∧K1 kb w w':=by
 obtain⟨lx,hlx⟩:=int_keyOf x hx;unfold brPut;cases hf:m.findIdx? (fun p=>decide (p.1=x)) with
 |none=>
  have hn:∀p∈brM m,p.1≠Value.int .i64 (x:Nat):=by
   intro p hp e;obtain⟨q,hq,rfl⟩:=brM_mem.1 hp;have h1:=List.findIdx?_eq_none_iff.1 hf q hq;have e2:((q.1:Nat):Int)=(x:Nat):=by injection e
   exact absurd (by omega:q.1=x) (of_decide_eq_false h1)
  obtain⟨w',h1,h2,h3⟩:=h.put0 (int_keyed Tryz.underlying3) Tryz.underlying129 hlx hn (.int .i64 (v:Nat));exact⟨w',h1,by simpa[brM] using h2,h3⟩
 |some j=>
  obtain⟨hj,he,_⟩:=List.findIdx?_eq_some_iff_getElem.1 hf;have he2:m[j].1=x:=of_decide_eq_true he;have hmem:(Value.int .i64 (x:Nat),Value.int .i64 (m[j].2:Nat))∈brM m:=brM_mem.2 ⟨m[j],List.getElem_mem hj,by rw[he2]⟩;have hnd:((brM m).map (·.1)).Nodup:=by obtain⟨_,_,_,_,hd,_⟩:=h;exact hd
  obtain⟨w',j2,h1,h2,h3,h4⟩:=h.put1 (int_keyed Tryz.underlying3) Tryz.underlying129 hlx hmem (.int .i64 (v:Nat));have hj2:j2=j:=by
   have hl2:j2<(brM m).length:=(List.getElem?_eq_some_iff.1 h2).1;have e1:((brM m).map (·.1))[j2]? =some (.int .i64 (x:Nat)):=by rw[List.getElem?_map,h2];try rfl
   have e2:((brM m).map (·.1))[j]? =some (.int .i64 (x:Nat)):=by
    rw[List.getElem?_map];unfold brM;rw[List.getElem?_map,List.getElem?_eq_getElem hj];simp[he2]
   exact(List.getElem?_inj (by simpa using hl2) hnd).1 (e1.trans e2.symm)
  subst hj2;exact⟨w',h1,by simpa[brM,List.map_set] using h3,h4⟩
structure RuAt (w:World) (B:Nat) (vr:Value) (rs:List GR) (vps:List Value):Prop where
 row:OwnK w B TRu 4 vr (List.zipWith ruL rs vps)
 len:vps.length=rs.length
 parts:∀i (h:i<vps.length) (h':i<rs.length),OwnK w B TPa 4 vps[i] (rs[i].parts.map paL)
theorem RuAt.kn{w w':World}{B:Nat}{vr:Value}{rs:List GR}{vps:List Value}(h:RuAt w B vr rs vps)(hk:Kn w w'):RuAt w' B vr rs vps:=⟨h.row.kn hk,h.len,fun i a b=>(h.parts i a b).kn hk⟩
theorem RuAt.ty{S:Nat→Prop}{X:TypeId}{w w':World}{B:Nat}{vr:Value}{rs:List GR}{vps:List Value}(h:RuAt w B vr rs vps)(hk:Kp S w w')(hS:Ty S w X)(h1:X≠TRu)(h2:X≠TPa):RuAt w' B vr rs vps:=⟨Qm h.row hk hS h1,h.len,fun i a b=>Qm (h.parts i a b) hk hS h2⟩
theorem RuAt.tym{S:Nat→Prop}{w w':World}{B:Nat}{vr:Value}{rs:List GR}{vps:List Value}(h:RuAt w B vr rs vps)(hk:Kp S w w')(hS:TyM S w):RuAt w' B vr rs vps:=⟨Qy h.row hk hS,h.len,fun i a b=>Qy (h.parts i a b) hk hS⟩
theorem RuAt.snoc{w w1:World}{B:Nat}{vr v1 vp:Value}{rs:List GR}{vps:List Value}(h:RuAt w B vr rs vps){r:GR}(hp:OwnK w B TPa 4 vp (r.parts.map paL))(hr:OwnK w1 B TRu 4 v1 (List.zipWith ruL rs vps++[ruL r vp]))(hk:Kp (fun k=>some k=vr.ownBlock) w w1):
  RuAt w1 B v1 (rs++[r]) (vps++[vp]):=by
 have hS:=Yx h.row;refine⟨?_,by simp[h.len],fun i a b=> ?_⟩
 ·have e:List.zipWith ruL (rs++[r]) (vps++[vp])=List.zipWith ruL rs vps++[ruL r vp]:=by rw[List.zipWith_append h.len.symm];try rfl
  rw[e];exact hr
 ·have hl:=h.len;by_cases hi:i<vps.length
  ·have:=Qm (h.parts i hi (by omega)) hk hS (by decide);rw[List.getElem_append_left hi];simp only[List.getElem_append_left (show i<rs.length by omega)];exact this
  ·have ei:i=vps.length:=by simp at a;omega
   subst ei;have:=Qm hp hk hS (by decide);rw[List.getElem_append_right (Nat.le_refl _)];simp only[List.getElem_append_right (show rs.length≤vps.length by omega),Nat.sub_self,List.getElem_singleton,show vps.length-rs.length=0 by omega];exact this
structure LkAt (w:World) (B p:Nat) (R:RS) (A:RA) (kb:Nat) (rs:List GR) (vps:List Value) (br:List (Nat×Nat)):Prop where
 rd:RdAt w B p R A
 bb:A.bb= .map (some kb)
 brk:MapA w TI kb (brM br)
 ru:RuAt w B A.vr rs vps
 ne:B≤kb∧kb≠A.bn∧kb≠A.bc∧kb≠A.br
theorem LkAt.kn{w w':World}{B p:Nat}{R:RS}{A:RA}{kb:Nat}{rs:List GR}{vps:List Value}{br:List (Nat×Nat)}(h:LkAt w B p R A kb rs vps br)(hk:Kn w w'):LkAt w' B p R A kb rs vps br:=⟨h.rd.kn hk,h.bb,h.brk.kn hk,h.ru.kn hk,h.ne⟩
theorem LkAt.blk{w:World}{B p:Nat}{R:RS}{A:RA}{kb:Nat}{rs:List GR}{vps:List Value}{br:List (Nat×Nat)}(h:LkAt w B p R A kb rs vps br):w.heap[p]? =some (.cells (rdC A) TGr (0,0)):=h.rd.blk
theorem LkAt.lt{w:World}{B p:Nat}{R:RS}{A:RA}{kb:Nat}{rs:List GR}{vps:List Value}{br:List (Nat×Nat)}(h:LkAt w B p R A kb rs vps br):p<w.heap.size:=h.rd.lt
theorem LkAt.pB{w:World}{B p:Nat}{R:RS}{A:RA}{kb:Nat}{rs:List GR}{vps:List Value}{br:List (Nat×Nat)}(h:LkAt w B p R A kb rs vps br):B≤p∧B≤A.bn∧B≤A.bc∧B≤A.br:=h.rd.pB
theorem step_putbr{w:World}{kb:Nat}{m:List (Nat×Nat)}{ops:Array Oper}{o:Oper}{a:Act}{K:Act→World→Prop}{Q:Exit→Act→World→Prop}{E:Prop}(hg:o.guard=none)(mo xo vo:Operand)(hop:o.op=Op.mapUpdate 129 mo xo vo)
  (hm:a.eval mo= .map (some kb)) (h:MapA w TI kb (brM m)) (x v:Nat) (hx9:x≤1000000) (hx:a.eval xo= .int .i64 (x:Nat)) (hv:a.eval vo= .int .i64 (v:Nat))
  (hK:∀w',MapA w' TI kb (brM (brPut m x v))→K1 kb w w'→K (a.put o.dst undef) w'):if Region.wanted o (yielded ops a.tmps)=true then Oper.wp Tryz.prog o a w K Q else E:=by
 have hw:Region.wanted o (yielded ops a.tmps)=true:=by simp[Region.wanted,hg]
 rw[if_pos hw];obtain⟨w',hr,h1,h2⟩:=brPut_map x v hx9 h;unfold Oper.wp;simp[execOp,hop,hm,hx,hv,hr,Result.andThen];exact hK w' h1 h2
theorem RdAt.setVr{w:World}{B p:Nat}{R:RS}{A:RA}(h:RdAt w B p R A)(v:Value):RdAt (w.setCell ⟨p,3,none⟩ v) B p R {A with vr:=v} :=by
 have hk1:K1 p w (w.setCell ⟨p,3,none⟩ v):=Qg _ _;have hS1:=ty_one h.blk;exact⟨by have:=Qj h.blk 3 v;simpa[rdC] using this,Qm h.lits hk1 hS1 (by decide),Qm h.cls hk1 hS1 (by decide),Qm h.sorts hk1 hS1 (by decide),Qt h.names hk1 hS1,Qt h.cons hk1 hS1,Qt h.rounds hk1 hS1,
  Qm h.lines hk1 hS1 (by decide),h.wl,fun i a b=>Qm (h.words i a b) hk1 hS1 (by decide),h.ne1,h.ne2,h.pB⟩
theorem RdAt.setBb{w:World}{B p:Nat}{R:RS}{A:RA}(h:RdAt w B p R A)(v:Value):RdAt (w.setCell ⟨p,4,none⟩ v) B p R {A with bb:=v} :=by
 have hk1:K1 p w (w.setCell ⟨p,4,none⟩ v):=Qg _ _;have hS1:=ty_one h.blk;exact⟨by have:=Qj h.blk 4 v;simpa[rdC] using this,Qm h.lits hk1 hS1 (by decide),Qm h.cls hk1 hS1 (by decide),Qm h.sorts hk1 hS1 (by decide),Qt h.names hk1 hS1,Qt h.cons hk1 hS1,Qt h.rounds hk1 hS1,
  Qm h.lines hk1 hS1 (by decide),h.wl,fun i a b=>Qm (h.words i a b) hk1 hS1 (by decide),h.ne1,h.ne2,h.pB⟩
theorem RdAt.setSc{w:World}{B p:Nat}{R:RS}{A:RA}(h:RdAt w B p R A)(v:Value):RdAt (w.setCell ⟨p,5,none⟩ v) B p R {A with sc:=v} :=by
 have hk1:K1 p w (w.setCell ⟨p,5,none⟩ v):=Qg _ _;have hS1:=ty_one h.blk;exact⟨by have:=Qj h.blk 5 v;simpa[rdC] using this,Qm h.lits hk1 hS1 (by decide),Qm h.cls hk1 hS1 (by decide),Qm h.sorts hk1 hS1 (by decide),Qt h.names hk1 hS1,Qt h.cons hk1 hS1,Qt h.rounds hk1 hS1,
  Qm h.lines hk1 hS1 (by decide),h.wl,fun i a b=>Qm (h.words i a b) hk1 hS1 (by decide),h.ne1,h.ne2,h.pB⟩
theorem RdAt.ty{S:Nat→Prop}{X:TypeId}{w w':World}{B p:Nat}{R:RS}{A:RA}(h:RdAt w B p R A)(hk:Kp S w w')(hS:Ty S w X)(h1:X≠TGr)(h2:X≠TS)(h3:X≠TCl)(h4:X≠TLn)(h5:X≠TWd):RdAt w' B p R A:=
 ⟨Yw h.blk hk hS h1,Qm h.lits hk hS h2,Qm h.cls hk hS h3,Qm h.sorts hk hS h2,Qt h.names hk hS,Qt h.cons hk hS,Qt h.rounds hk hS,Qm h.lines hk hS h4,h.wl,fun i a b=>Qm (h.words i a b) hk hS h5,h.ne1,h.ne2,h.pB⟩
theorem RdAt.tym{w w':World}{B p kb:Nat}{R:RS}{A:RA}{m:KV}(h:RdAt w B p R A)(hk:K1 kb w w')(hm:MapA w TI kb m)(hn:kb≠A.bn∧kb≠A.bc∧kb≠A.br):RdAt w' B p R A:=by
 have hS:=tym_one hm;exact⟨blk_tym h.blk hk hS,Qy h.lits hk hS,Qy h.cls hk hS,Qy h.sorts hk hS,h.names.kp hk (fun e=>hn.1 e.symm),h.cons.kp hk (fun e=>hn.2.1 e.symm),h.rounds.kp hk (fun e=>hn.2.2 e.symm),Qy h.lines hk hS,h.wl,fun i a b=>Qy (h.words i a b) hk hS,h.ne1,h.ne2,h.pB⟩
theorem LkAt.putRule{w w1:World}{B p:Nat}{R:RS}{A:RA}{kb:Nat}{rs:List GR}{vps:List Value}{br:List (Nat×Nat)}{v1 vp:Value}{r:GR}(h:LkAt w B p R A kb rs vps br)(hp:OwnK w B TPa 4 vp (r.parts.map paL))(hr:OwnK w1 B TRu 4 v1 (List.zipWith ruL rs vps++[ruL r vp]))(hk:Kp (fun k=>some k=A.vr.ownBlock) w w1):
  LkAt (w1.setCell ⟨p,3,none⟩ v1) B p R {A with vr:=v1} kb (rs++[r]) (vps++[vp]) br:=by
 have hS:=Yx h.ru.row;have h1:=h.rd.ty hk hS (by decide) (by decide) (by decide) (by decide) (by decide);have hk1:K1 p w1 (w1.setCell ⟨p,3,none⟩ v1):=Qg _ _;have hS1:=ty_one h1.blk;exact⟨h1.setVr v1,h.bb,Qt (Qt h.brk hk hS) hk1 hS1,(h.ru.snoc hp hr hk).ty hk1 hS1 (by decide) (by decide),h.ne⟩
theorem LkAt.putBr{w w':World}{B p:Nat}{R:RS}{A:RA}{kb:Nat}{rs:List GR}{vps:List Value}{br:List (Nat×Nat)}{br':List (Nat×Nat)}(h:LkAt w B p R A kb rs vps br)(hm:MapA w' TI kb (brM br'))(hk:K1 kb w w'):LkAt w' B p R A kb rs vps br':=
 ⟨h.rd.tym hk h.brk h.ne.2,h.bb,hm,h.ru.tym hk (tym_one h.brk),h.ne⟩
theorem lines_cells{w:World}{B:Nat}{v:Value}{xs:List GL}{vws:List Value}(h:OwnK w B TLn 6 v (List.zipWith lnL xs vws))(hl:vws.length=xs.length):∃a c,v= .slice a xs.length c∧∀i (hi:i<xs.length) (hv:i<vws.length),∃g,a=some ⟨g,0,none⟩∧
  w.cell? ⟨g,i*6,none⟩=some (.int .i64 xs[i].number)∧w.cell? ⟨g,i*6+1,none⟩=some (.string xs[i].sort)∧w.cell? ⟨g,i*6+2,none⟩=some (.string xs[i].cons)∧w.cell? ⟨g,i*6+3,none⟩=some (.int .i64 xs[i].level)∧w.cell? ⟨g,i*6+4,none⟩=some vws[i]∧w.cell? ⟨g,i*6+5,none⟩=some (.bool xs[i].round):=by
 obtain⟨a,c,hv,_,_,h1⟩:=h.row (fun C hC=>by obtain⟨i,hi,rfl⟩:=List.getElem_of_mem hC;simp[lnL]);rw[List.length_zipWith,hl,Nat.min_self] at hv;refine⟨a,c,hv,fun i hi hv2=> ?_⟩;obtain⟨g,ha,_,_,h2⟩:=h1 (fun e=>by have:=congrArg List.length e;simp[hl] at this;subst this;simp at hi);have h3:=h2 i (by simp[hl];omega);have key:∀j,j<6→w.cell? ⟨g,i*6+j,none⟩=(lnL xs[i] vws[i])[j]? :=fun j hj=>by
  have:=(h3 j hj).1;rw[show 0+6*i+j=i*6+j by omega] at this;rw[this];simp
 exact⟨g,ha,(key 0 (by omega)).trans rfl,(key 1 (by omega)).trans rfl,(key 2 (by omega)).trans rfl,(key 3 (by omega)).trans rfl,(key 4 (by omega)).trans rfl,(key 5 (by omega)).trans rfl⟩
theorem info_pa:(Tryz.prog.info? TPa).map (fun i=>(i.zero,i.size,i.bytes))=some (some (.agg #[.int .i64 0,.int .i64 0,.int .i64 0,.bool false]),4,32):=by kernel_rfl
theorem info_ru:(Tryz.prog.info? TRu).map (fun i=>(i.zero,i.size,i.bytes))=some (some (.agg #[.int .i64 0,.string ByteArray.empty,.int .i64 0,.slice none 0 0]),4,56):=by kernel_rfl
theorem parts_step{R:RS}{ws:List GW}{ps:List GP}{k:Nat}(h:R.parts ws=match R.parts (ws.drop k) with|some r=>some (ps++r)|none=>none)(hk:k<ws.length):
  R.parts ws=match R.part ws[k] with|some x=>(match R.parts (ws.drop (k+1)) with|some r=>some ((ps++[x])++r)|none=>none)|none=>none:=by
 rw[h,List.drop_eq_getElem_cons hk,RS.parts];cases R.part ws[k] with
 |none=>rfl
 |some x=>
  dsimp only;cases R.parts (ws.drop (k+1)) with
  |none=>rfl
  |some r=>simp
theorem parts_end{R:RS}{ws:List GW}{ps:List GP}(h:R.parts ws=match R.parts (ws.drop ws.length) with|some r=>some (ps++r)|none=>none):R.parts ws=some ps:=by
 rw[h,List.drop_length];simp[RS.parts]
theorem linkGo_step{R:RS}{xs:List GL}{k:Nat}{rs:List GR}{br:List (Nat×Nat)}{Z:Option (List GR×List (Nat×Nat))}(h:R.linkGo (xs.drop k) rs br=Z)(hk:k<xs.length):
  Z=match R.ruleOf xs[k] with|some r=>R.linkGo (xs.drop (k+1)) (rs++[r]) (if xs[k].round=true then brPut br r.sort rs.length else br)|none=>none:=by
 rw[←h,List.drop_eq_getElem_cons hk];try rfl
theorem linkGo_end{R:RS}{xs:List GL}{rs:List GR}{br:List (Nat×Nat)}{Z:Option (List GR×List (Nat×Nat))}(h:R.linkGo (xs.drop xs.length) rs br=Z):Z=some (rs,br):=by
 rw[←h,List.drop_length];try rfl
theorem idxS_lt(ss:List ByteArray)(x:ByteArray): -1≤Lib.idxOfS ss x∧Lib.idxOfS ss x<ss.length:=by
 have gen:∀(zs:List ByteArray) (i:Nat),-1≤Lib.idxFromS zs x i∧Lib.idxFromS zs x i<(i+zs.length:Nat):=by
  intro zs;induction zs with
  |nil=>intro i;simp[Lib.idxFromS];omega
  |cons z zs ih=>
   intro i;unfold Lib.idxFromS;split
   ·simp;omega
   ·have:=ih (i+1);simp at this⊢;omega
 have:=gen ss 0;unfold Lib.idxOfS;simpa using this
def LinkPost(B p:Nat)(R:RS)(A0:RA)(w:World)(e:Ending)(w':World):Prop:=
 ∃k n:Int,e= .returned (.tuple #[.int .i64 k,.int .i64 n])∧Kp (fun i=>B≤i) w w'∧match R.linkGo R.lines [] [] with
 |some (rs,br)=>n=0∧∃A kb vps,LkAt w' B p R A kb rs vps br∧rs.length≤120∧A.sc=A0.sc
 |none=>n≠0
theorem glink_c{B p:Nat}{R:RS}{A0:RA}{w:World}(h:RdAt w B p R A0)(ok:RSok R)(hvr:A0.vr= .slice none 0 0):
  Calls Tryz.prog 111 #[ptr p] w (LinkPost B p R A0 w):=by
 have hmm:= @run_makeMap Tryz.prog;have hpl:=h.lt;have hpB:=h.pB.1;obtain⟨_,_,_,_,q4,_⟩:=h.cells;have f4:=h.fr 4;obtain⟨kb,hkb⟩:∃z,z=w.heap.size:=⟨_,rfl⟩;obtain⟨w1,hw1⟩:∃z,z=w.alloc (.map #[] 0):=⟨_,rfl⟩;have hk1:Kn w w1:=by rw[hw1];exact(Qb _ _).alloc _
 have hm1:MapA w1 TI kb (brM []):=by rw[hw1,hkb];exact MapA.new w _
 obtain⟨A,hA⟩:∃A:RA,A= {A0 with bb:= .map (some kb)} :=⟨_,rfl⟩;have HAS:Hid (A.sc=A0.sc):=Qh (by rw[hA]);obtain⟨w2,hw2⟩:∃z,z=w1.setCell ⟨p,4,none⟩ (.map (some kb)):=⟨_,rfl⟩;have hk2:K1 p w1 w2:=by rw[hw2];exact Qg _ _
 have hr1:=h.kn hk1;have hlk:LkAt w2 B p R A kb [] [] []:=by
  refine⟨by rw[hw2,hA];exact hr1.setBb _,by rw[hA],hm1.kp hk2 (by omega),⟨?_,rfl,fun i a b=>by simp at a⟩,?_⟩
  ·rw[hA];show OwnK w2 B TRu 4 A0.vr _;rw[hvr];exact OwnK.nil
  ·rw[hA];refine⟨by omega,?_,?_,?_⟩
   ·have:=h.names.lt;show kb≠A0.bn;omega
   ·have:=h.cons.lt;show kb≠A0.bc;omega
   ·have:=h.rounds.lt;show kb≠A0.br;omega
 have hkw2:Kp (fun i=>B≤i) w w2:=(QO hk1).trans (hk2.mono (fun i hi e=>by omega));have HLK:=Qh hlk;have HOK:=Qh ok;have HKW:=Qh hkw2;have HW:=Qh (And.intro hw2 (And.intro hw1 hkb));obtain⟨al,cl,hvl,_⟩:=lines_cells hlk.rd.lines hlk.rd.wl;have hll:=ok.lines;have HVL:=Qh hvl;obtain⟨_,_,_,_,_,_,_,_,_,q9⟩:=hlk.rd.cells;rw[hvl] at q9;obtain⟨ip,hi,hz0,hz1,hz2⟩:=info_parts info_pa;have HIP:=Qh (And.intro hi (And.intro hz0 (And.intro hz1 hz2)));obtain⟨ir,hi,hz0,hz1,hz2⟩:=info_parts info_ru;have HIR:=Qh (And.intro hi (And.intro hz0 (And.intro hz1 hz2)));clear h ok hvr hA hw1 hm1 hw2 hk2 hr1 hlk hkw2 hvl hi hz0 hz1 hz2 hk1 hkb;go_enter Tryz.func111,Tryz.ntmps111;go_upto_region 2 with fail
 rw[←HW.out.2.2,←World.setCell_alloc_past _ _ _ _ hpl,←HW.out.2.1,←HW.out.1];clear q4 f4;go_wp2_with fail
 go_loopw [22] (fun s22 wr=>∃(k:Nat) (v:Value) (rs:List GR) (vps:List Value) (br:List (Nat×Nat)),s22= .int .i64 k∧k≤R.lines.length∧Hid (R.linkGo (R.lines.drop k) rs br=R.linkGo R.lines [] [])∧Hid (rs.length=k)∧Hid (LkAt wr B p R {A with vr:=v} kb rs vps br)∧Hid (Kp (fun i=>B≤i) w wr)) (fun s22 _=>R.lines.length-(intOf s22).toNat)
 case atStart=>exact⟨0,A.vr,[],[],[],rfl,Nat.zero_le _,Qh rfl,Qh rfl,HLK,HKW⟩
 case round=>
  clear HLK HKW q9 hpl;obtain⟨k,v,rs,vps,br,rfl,hk,hgo,hrl,hlk,hkw⟩:=hrel;by_cases hlt:k<R.lines.length
  ·have hst:=linkGo_step hgo.out hlt;have hwl:=hlk.out.rd.wl;obtain⟨a2,c2,hve,hcs⟩:=lines_cells hlk.out.rd.lines hwl;change A.vn=_ at hve;rw[HVL.out] at hve;injection hve with e1 e2 e3;subst e1;subst e3;clear e2;have hkv:k<A.vws.length:=by have:A.vws.length=R.lines.length:=hwl;omega
   obtain⟨g,rfl,c0,c1,c2',c3,c4,c5⟩:=hcs k hlt hkv;have hwrd:=hlk.out.rd.words k hkv hlt;have hwb:=HOK.out.words _ (List.getElem_mem hlt);obtain⟨aw,cw,hvw,_⟩:=words_cells hwrd;obtain⟨x,hx⟩:∃x,x=R.lines[k]:=⟨_,rfl⟩;change OwnK wr B TWd 4 (A.vws[k]'hkv) _ at hwrd;change (A.vws[k]'hkv)=_ at hvw;change wr.cell? _=some (A.vws[k]'hkv) at c4;rw[hvw] at c4 hwrd;rw[←hx] at c0 c1 c2' c3 c4 c5 hwrd hst hwb;have HST:=Qh hst;have HWR:=Qh hwrd;have HX:=Qh hx;have hxw:=hwb.1;have hx2:=hwb.2.1;have hx3:=hwb.2.2;obtain⟨os,oc,hv2,_⟩:=hlk.out.rd.sorts.look;obtain⟨_,_,q2,_⟩:=hlk.out.rd.cells;change A.vs=_ at hv2;change wr.cell? _=some A.vs at q2;rw[hv2] at q2;have hos:=hlk.out.rd.sorts;change OwnT wr B A.vs R.sorts at hos;rw[hv2] at hos;obtain⟨b5,hb5⟩:∃z,z=wr.heap.size:=⟨_,rfl⟩;obtain⟨w3,hw3⟩:∃z,z=wr.alloc (.cells #[.int .i64 x.number,.string x.sort,.string x.cons,.int .i64 x.level,.slice aw x.words.length cw,.bool x.round] TLn):=⟨_,rfl⟩;have hk3:Kn wr w3:=by rw[hw3];exact(Qb _ _).alloc _
   have hbb:w3.heap[b5]? =some (.cells #[.int .i64 x.number,.string x.sort,.string x.cons,.int .i64 x.level,.slice aw x.words.length cw,.bool x.round] TLn (0,0)):=by rw[hw3,hb5];exact Qf _ _
   have HW3:=Qh (And.intro hw3 hb5);have r2:=Qd hk3 q2;have d1:w3.cell? ⟨b5,1,none⟩=some (.string x.sort):=by rw[Qa hbb];try rfl
   have HIS:=Qh (fun W (hk:Kn w3 W)=>index_c (w:=W) (Ys (Ys hos hk3 (fun _ _ x=>x)) hk (fun _ _ x=>x)) x.sort (by have:=HOK.out.sorts;omega));have hix2:=idxS_lt R.sorts x.sort;have hsl:=HOK.out.sorts;have hRO:Hid (R.ruleOf x=if Lib.idxOfS R.sorts x.sort<0 then none else match R.parts x.words with|some ps=>some ⟨(Lib.idxOfS R.sorts x.sort).toNat,x.cons,x.level,ps⟩|none=>none):=Qh rfl;obtain⟨ix,hix⟩:∃z,z=Lib.idxOfS R.sorts x.sort:=⟨_,rfl⟩;rw[←hix] at HIS hix2 hRO;have HBB:=Qh hbb;have HK3:=Qh hk3;have hb5l:=Qk hbb;clear hst hwrd hx hvw hcs hwl hwb hos hw3 hb5 hk3 hbb hix q2 hv2;go_upto_region 5 with fail
   rw[←HW3.out.2,←HW3.out.1];clear c0 c1 c2' c3 c4 c5;refine wp_region_held_drew (S:=fun w'=>w'.cell? ⟨p,2,none⟩=some (.slice os R.sorts.length oc)∧w'.cell? ⟨b5,1,none⟩=some (.string x.sort)) (by kernel_rfl) ⟨Qd ((Qb _ _).drew) r2,Qd ((Qb _ _).drew) d1⟩ (fun hHeld=> ?_);obtain⟨wd,hwd⟩:∃zz,zz=w3.drew:=⟨_,rfl⟩;have hkd:Kn w3 wd:=by rw[hwd];exact(Qb _ _).drew
   rw[←hwd] at hHeld⊢;clear hwd;refine TW 0 26 ?_;refine TW 1 27 ?_;refine TW 2 28 ?_;refine TW 3 29 ?_;refine TH 4 30 ?_;refine TW 5 31 ?_;refine TH 6 32 ?_;refine RH 7 (fun K hK=> ?_);go_simp
   go_at_call 159
   refine(HIS.out wd hkd).mono ?_;rintro e9 w9 ⟨rfl,hw9⟩;rw[hw9];clear hw9 w9;dsimp only;refine hK.out _ _ hHeld (fun hHeld=> ?_);clear hK K
   try simp only[PP]
   refine TW 8 6 ?_;refine RD ?_;clear hHeld;have hkd1:=HK3.out.trans hkd;have HBd:=Qh (hkd.blk HBB.out (fun x=>x));have HLd:=Qh (hlk.out.kn hkd1);have HKd:=Qh (hkw.out.trans (QO hkd1));have HWd:=Qh (HWR.out.kn hkd1);have e0:wd.cell? ⟨b5,0,none⟩=some (.int .i64 x.number):=by rw[Qa HBd.out];try rfl
   have e2:wd.cell? ⟨b5,2,none⟩=some (.string x.cons):=by rw[Qa HBd.out];try rfl
   have e3:wd.cell? ⟨b5,3,none⟩=some (.int .i64 x.level):=by rw[Qa HBd.out];try rfl
   have e4:wd.cell? ⟨b5,4,none⟩=some (.slice aw x.words.length cw):=by rw[Qa HBd.out];try rfl
   have e5:wd.cell? ⟨b5,5,none⟩=some (.bool x.round):=by rw[Qa HBd.out];try rfl
   have hb5d:=Qk HBd.out;clear r2 d1 hkd HK3 HBB hlk HWR;by_cases hneg:ix<0
   ·have hF:Hid (R.linkGo R.lines [] []=none):=Qh (by rw[HST.out,hRO.out,if_pos hneg]);go_wp2_with fail
    go_ret2
    refine⟨_,9,rfl,HKd.out,?_⟩;rw[hF.out];exact(by decide:(9:Int)≠0)
   ·have HRO:Hid (R.ruleOf x=match R.parts x.words with|some ps=>some ⟨ix.toNat,x.cons,x.level,ps⟩|none=>none):=Qh (by rw[hRO.out,if_neg hneg]);obtain⟨sn,hsn⟩:∃sn:Nat,(sn:Int)=ix:=⟨ix.toNat,by omega⟩;have hsn2:ix.toNat=sn:=by omega
    rw[hsn2] at HRO;clear hsn2;subst hsn;have hsn40:sn<R.sorts.length:=by omega
    clear hneg hix2 hRO;obtain⟨b7,hb7⟩:∃z,z=wd.heap.size:=⟨_,rfl⟩;obtain⟨w4,hw4⟩:∃z,z=wd.alloc (.cells #[.int .i64 (sn:Nat),.string x.cons,.int .i64 x.level,.slice none 0 0] TRu):=⟨_,rfl⟩;have hk4:Kn wd w4:=by rw[hw4];exact(Qb _ _).alloc _
    have HB7:Hid (w4.heap[b7]? =some (.cells #[.int .i64 (sn:Nat),.string x.cons,.int .i64 x.level,.slice none 0 0] TRu (0,0))):=Qh (by rw[hw4,hb7];exact Qf _ _);have HW4:=Qh (And.intro hw4 hb7);have g4:=Qd hk4 e4;have HK4:=Qh hk4;have hb57:b5<b7:=by omega
    have HSZ4:Hid (wd.heap.size≤w4.heap.size∧w4.heap.size=b7+1):=Qh ⟨hk4.size,by rw[HW4.out.1,size_alloc',HW4.out.2]⟩;have hwdl:wd.heap.size≤b7:=by omega
    clear hw4 hb7 e0 hk4;go_upto_region 9 with fail
    rw[←HW4.out.1,←HW4.out.2];clear e2 e3 e4 e5;go_wp2_with fail
    obtain⟨wo,hwo⟩:∃z,z=wr:=⟨_,rfl⟩;subst hwo;go_loopw [47] (fun s47 wi=>∃(j:Nat) (ps:List GP) (vp:Value),s47= .int .i64 j∧j≤x.words.length∧Hid (R.parts x.words=match R.parts (x.words.drop j) with|some r=>some (ps++r)|none=>none)∧Hid (ps.length=j)∧Hid (OwnK wi w4.heap.size TPa 4 vp (ps.map paL))∧Hid (wi.heap[b7]? =some (.cells #[.int .i64 (sn:Nat),.string x.cons,.int .i64 x.level,vp] TRu (0,0)))∧Kn wd wi) (fun s47 _=>x.words.length-(intOf s47).toNat)
    case atStart=>exact⟨0,[],_,rfl,Nat.zero_le _,Qh (by rw[List.drop_zero];cases R.parts x.words<;>rfl),Qh rfl,Qh OwnK.nil,HB7,HK4.out⟩
    case round=>
     clear HB7 g4;obtain⟨j,ps,vp,rfl,hj,hpa,hpl,hvp,hb7,hkn⟩:=hrel;have HKi:=Qh (HKd.out.trans (QO hkn));have HB5i:=Qh (hkn.blk HBd.out (fun x=>x));have hb7l:=Qk hb7.out;have hwi:=hkn.size;by_cases hlj:j<x.words.length
     ·obtain⟨a3,c3,hve3,hcs3⟩:=words_cells (HWd.out.kn hkn);injection hve3 with e1 e2 e3;subst e1;subst e3;clear e2;obtain⟨gw,rfl,k0,k1,k2,k3⟩:=hcs3 j hlj;have hps:=parts_step hpa.out hlj;obtain⟨y,hy⟩:∃y,y=x.words[j]:=⟨_,rfl⟩;rw[←hy] at k0 k1 k2 k3 hps;have HPST:=Qh hps;obtain⟨w6,hw6⟩:∃z,z=wr.alloc (.cells #[.string y.lit,.string y.name,.int .i64 y.level,.bool y.sort] TWd):=⟨_,rfl⟩;have hk6:Kn wr w6:=by rw[hw6];exact(Qb _ _).alloc _
      obtain⟨b9,hb9⟩:∃z,z=wr.heap.size:=⟨_,rfl⟩;have hb9b:w6.heap[b9]? =some (.cells #[.string y.lit,.string y.name,.int .i64 y.level,.bool y.sort] TWd (0,0)):=by rw[hw6,hb9];exact Qf _ _
      have m0:w6.cell? ⟨b9,0,none⟩=some (.string y.lit):=by rw[Qa hb9b];try rfl
      have m1:w6.cell? ⟨b9,1,none⟩=some (.string y.name):=by rw[Qa hb9b];try rfl
      have m2:w6.cell? ⟨b9,2,none⟩=some (.int .i64 y.level):=by rw[Qa hb9b];try rfl
      have m3:w6.cell? ⟨b9,3,none⟩=some (.bool y.sort):=by rw[Qa hb9b];try rfl
      have HW6:=Qh (And.intro hw6 hb9);have hkn6:=hkn.trans hk6;have HPA:=Qh (part2_c y (HLd.out.rd.kn hkn6) HOK.out);obtain⟨av,cv,hvp2,_⟩:=hvp.out.row (fun C hC=>by obtain⟨z,_,rfl⟩:=List.mem_map.1 hC;rfl);rw[List.length_map] at hvp2;subst hvp2;have HB76:=Qh (hk6.blk hb7.out (fun x=>x));have HVP6:=Qh (hvp.out.kn hk6);have hb96:=Qk hb9b;clear hps hy hcs3 hw6 hb9 hb9b;go_upto_region 12 with fail
      rw[←HW6.out.2,←HW6.out.1];clear k0 k1 k2 k3;go_wp2_with fail
      refine HPA.out.mono ?_;rintro e9 w7 ⟨hk7,q,okk,rfl,hmt⟩;have hkn7:=hkn6.trans hk7;obtain⟨w8,hw8⟩:∃z,z=w7.alloc (.cells #[.int .i64 q.cls,.int .i64 q.sort,.int .i64 q.level,.bool q.fixed] TPa):=⟨_,rfl⟩;have hk8:Kn w7 w8:=by rw[hw8];exact(Qb _ _).alloc _
      obtain⟨b10,hb10⟩:∃z,z=w7.heap.size:=⟨_,rfl⟩;have hbw:w8.heap[b10]? =some (.cells #[.int .i64 q.cls,.int .i64 q.sort,.int .i64 q.level,.bool q.fixed] TPa (0,0)):=by rw[hw8,hb10];exact Qf _ _
      have HW8:=Qh (And.intro hw8 hb10);have hkn8:=hkn7.trans hk8;have v0:w8.cell? ⟨b10,0,none⟩=some (.int .i64 q.cls):=by rw[Qa hbw];try rfl
      have v1:w8.cell? ⟨b10,1,none⟩=some (.int .i64 q.sort):=by rw[Qa hbw];try rfl
      have v2:w8.cell? ⟨b10,2,none⟩=some (.int .i64 q.level):=by rw[Qa hbw];try rfl
      have v3:w8.cell? ⟨b10,3,none⟩=some (.bool q.fixed):=by rw[Qa hbw];try rfl
      have hbl8:=Qk hbw;have HB78:=Qh ((hk7.trans hk8).blk HB76.out (fun x=>x));have HV8:=Qh ((HVP6.out.kn hk7).kn hk8);have HB58:=Qh (((hk6.trans hk7).trans hk8).blk HB5i.out (fun x=>x));have r3:w8.cell? ⟨b7,3,none⟩=some (.slice av ps.length cv):=by rw[Qa HB78.out];try rfl
      have o0:w8.cell? ⟨b5,0,none⟩=some (.int .i64 x.number):=by rw[Qa HB58.out];try rfl
      have hb78:=Qk HB78.out;have HK8:=Qh (HKd.out.trans (QO hkn8));clear hw8 hb10 hk8 hbw m0 m1 m2 m3 hk6;cases hpf2:R.part y with
      |none=>
       rw[hpf2] at hmt;dsimp only at hmt;subst hmt;have hF5:Hid (R.linkGo R.lines [] []=none):=Qh (by rw[HST.out,HRO.out,HPST.out,hpf2]);clear hpf2;go_upto_region 13 with fail
       rw[←HW8.out.1,←HW8.out.2];go_wp2_with fail
       go_ret2
       refine⟨_,9,rfl,HK8.out,?_⟩;rw[hF5.out];exact(by decide:(9:Int)≠0)
      |some q'=>
       rw[hpf2] at hmt;dsimp only at hmt;obtain⟨rfl,rfl⟩:=hmt;have HPF6:Hid (R.parts x.words=match R.parts (x.words.drop (j+1)) with|some r=>some ((ps++[q])++r)|none=>none):=Qh (by rw[HPST.out,hpf2]);have HKL:Hid (Kn w8 (w8.alloc (.cells #[.int .i64 q.cls,.int .i64 q.sort,.int .i64 q.level,.bool q.fixed] TPa))):=Qh ((Qb _ _).alloc _);have HV9:=Qh (HV8.out.kn HKL.out);have HBL:Hid ((w8.alloc (.cells #[.int .i64 q.cls,.int .i64 q.sort,.int .i64 q.level,.bool q.fixed] TPa)).heap[w8.heap.size]? =some (.cells #[.int .i64 q.cls,.int .i64 q.sort,.int .i64 q.level,.bool q.fixed] TPa (0,0))):=Qh (Qf _ _);have HB79:=Qh (HKL.out.blk HB78.out (fun x=>x));have hpsl:=hpl.out;have HSZ8:Hid (w4.heap.size≤w8.heap.size):=Qh (by have h2:=HSZ4.out.2;have h4:=hb78;omega);have HPSL:=Qh hpsl;clear hpf2 hpsl;go_upto_region 13 with fail
       rw[←HW8.out.1,←HW8.out.2];go_upto_region 16 with(first|(at_builtin;go_must (refine QG _ rfl (.tmp 62) (.tmp 64) 208 rfl w4.heap.size TPa ip (.agg #[.int .i64 0,.int .i64 0,.int .i64 0,.bool false]) 4 32 Tryz.underlying208 HIP.out.1 HIP.out.2.1 HIP.out.2.2.1 HIP.out.2.2.2 (by rfl) (by decide) (.slice av ps.length cv) (ps.map paL) rfl HV9.out w8.heap.size 1 rfl #[.int .i64 q.cls,.int .i64 q.sort,.int .i64 q.level,.bool q.fixed] TPa (0,0) HBL.out rfl (by simp[Value.oneCell']) (by rw[List.length_map,HPSL.out];simp only[maxLen];omega) (by rw[List.length_map,HPSL.out];omega) (by have h1:=HSZ8.out;rw[size_alloc'];omega) ?_;intro v1 w9 hown hka hat;obtain⟨av1,cv1,hv1,_⟩:=hown.row (k:=4) (fun D hD=>by simp only[List.mem_append,List.mem_map,List.mem_singleton] at hD;rcases hD with⟨y,_,rfl⟩|rfl<;>rfl);obtain⟨nl1,hv1⟩:∃n,v1= .slice av1 n cv1:=⟨_,hv1⟩;subst hv1;have HKA:=Qh (hka.mono (T:=fun i=>w4.heap.size≤i) (fun i hi e=>(HV9.out.lt i e.symm).1));have HOW:=Qh hown;have hb79:=Yw HB79.out hka (Yx HV9.out) (by decide);have r49:w9.cell? ⟨b7,3,none⟩=some (.slice av ps.length cv):=(by rw[Qa hb79];try rfl);have f49:=Qc hb79 3;have HBX:=Qh hb79;clear hb79 hown hka hat)))
       obtain⟨vN,hvN⟩:∃z,z=Value.slice av1 (ps.length+1) cv1:=⟨_,rfl⟩;obtain⟨w10,hw10⟩:∃z,z=w9.setCell ⟨b7,3,none⟩ vN:=⟨_,rfl⟩;rw[←hvN,←hw10];have HO2:Hid (OwnK w9 w4.heap.size TPa 4 vN ((ps++[q]).map paL)):=Qh (by
        have h1:=HOW.out;rw[List.length_append,List.length_map,List.length_singleton,←hvN] at h1;rw[List.map_append];exact h1)
       have hk9:K1 b7 w9 w10:=by rw[hw10];exact Qg _ _
       have hkn10:Kn wd w10:=((hkn8.trans HKL.out).trans' HKA.out (fun i hi e=>by have h2:=HSZ4.out.1;omega)).trans' hk9 (fun i hi e=>by omega);have HB10:=Qh (Qj HBX.out 3 vN);rw[←hw10] at HB10;have HO10:=Qh (HO2.out.kp hk9 (fun g hg e=>by subst e;obtain⟨cur,h1⟩:=YL HO2.out hg;exact Qv HBX.out h1 (by decide)));clear hvN hw10 HOW HKA;go_wp2_with fail
       go_roundw
       case rel=>exact⟨j+1,ps++[q],vN,by go_num,by omega,HPF6,Qh (by simp[hpl.out]),HO10,HB10,hkn10⟩
       case measure=>simp[intOf];omega
     ·obtain rfl:j=x.words.length:=by omega
      have hpe:=parts_end hpa.out;obtain⟨ap,cp,hvp2,_⟩:=hvp.out.row (fun C hC=>by obtain⟨z,_,rfl⟩:=List.mem_map.1 hC;rfl);rw[List.length_map] at hvp2;subst hvp2;have HROS:Hid (R.ruleOf x=some ⟨sn,x.cons,x.level,ps⟩):=Qh (by rw[HRO.out,hpe]);have HLi:=Qh (HLd.out.kn hkn);have o5:wr.cell? ⟨b5,5,none⟩=some (.bool x.round):=by rw[Qa HB5i.out];try rfl
      have HPB:=Qh (OwnK.base (B':=B) hvp.out (by have h1:=HLd.out.rd.pB.1;have h2:=HLd.out.rd.lt;have h3:=HSZ4.out.1;omega));obtain⟨og,ocg,hvg,_⟩:=HLi.out.ru.row.row (fun C hC=>by obtain⟨i,hi,rfl⟩:=List.getElem_of_mem hC;simp[ruL]);rw[List.length_zipWith,HLi.out.ru.len,Nat.min_self] at hvg;change v=_ at hvg;have HVG:=Qh hvg;have hrk:=hrl.out;have HNB7:Hid (∀g,v.ownBlock=some g→g≠b7):=Qh (fun g hg=>by have h1:=(HLd.out.ru.row.lt g hg).2;omega);have HNP7:Hid (b7≠p):=Qh (fun e=>by have h1:=HLd.out.rd.lt;omega);have HRSL:=Qh hrk;clear hpe hvg hrk;cases hro:x.round with
      |true=>
       rw[hro] at o5;have hF:Hid (R.linkGo (R.lines.drop (k+1)) (rs++[⟨sn,x.cons,x.level,ps⟩]) (brPut br sn rs.length)=R.linkGo R.lines [] []):=Qh (by rw[HST.out,HROS.out];simp only[hro];rfl);obtain⟨_,_,_,q3,q4,_⟩:=HLi.out.rd.cells;change wr.cell? _=some v at q3;rw[HVG.out] at q3;have hbbk:=HLi.out.bb;rw[hbbk] at q4;clear hro hbbk;go_upto_region 18 with fail
       refine wp_region_held_drew (S:=fun w'=>w'.cell? ⟨p,4,none⟩=some (.map (some kb))∧w'.cell? ⟨p,3,none⟩=some (.slice og rs.length ocg)) (by kernel_rfl) ⟨Qd ((Qb _ _).drew) q4,Qd ((Qb _ _).drew) q3⟩ (fun hHeld=> ?_);obtain⟨wp,hwp⟩:∃zz,zz=wr.drew:=⟨_,rfl⟩;have hkp:Kn wr wp:=by rw[hwp];exact(Qb _ _).drew
       rw[←hwp] at hHeld⊢;clear hwp;refine TW 0 70 ?_;refine TW 1 71 ?_;refine TW 2 72 ?_;refine TW 3 73 ?_;refine TH 4 74 ?_;refine TW 5 75 ?_;refine TW 6 76 ?_;refine TW 7 77 ?_;refine TW 8 78 ?_;refine TW 9 79 ?_;refine TH 10 80 ?_;refine TW 11 81 ?_;refine RH 12 (fun K hK=> ?_);refine step_putbr (by rfl) (.tmp 74) (.tmp 75) (.tmp 81) (by rfl) (by rfl) (HLi.out.brk.kn hkp) sn rs.length (by omega) (by rfl) (by rfl) ?_;intro w11 hm11 hk11;have HL11:=Qh ((HLi.out.kn hkp).putBr hm11 hk11);have hSm:=tym_one (HLi.out.brk.kn hkp);have HB11:=Qh (blk_tym (hkp.blk hb7.out (fun x=>x)) hk11 hSm);have HP11:=Qh (Qy (HPB.out.kn hkp) hk11 hSm);have KW11:=(HKi.out.trans (QO hkp)).trans (hk11.mono (fun i hi e=>by have h1:=HLi.out.ne.1;omega));have hX1:w11.cell? ⟨p,4,none⟩=some (.map (some kb)):=by obtain⟨_,_,_,_,q,_⟩:=HL11.out.rd.cells;rw[HL11.out.bb] at q;exact q
       have hX2:w11.cell? ⟨p,3,none⟩=some (.slice og rs.length ocg):=by obtain⟨_,_,_,q,_⟩:=HL11.out.rd.cells;change w11.cell? _=some v at q;rw[HVG.out] at q;exact q
       clear hm11 hk11 hSm;dsimp only;refine hK.out _ _ ⟨hX1,hX2⟩ (fun hHeld=> ?_);clear hK K hX1 hX2;refine RD ?_;clear hHeld q3 q4;have n0:w11.cell? ⟨b7,0,none⟩=some (.int .i64 (sn:Nat)):=by rw[Qa HB11.out];try rfl
       have n1:w11.cell? ⟨b7,1,none⟩=some (.string x.cons):=by rw[Qa HB11.out];try rfl
       have n2:w11.cell? ⟨b7,2,none⟩=some (.int .i64 x.level):=by rw[Qa HB11.out];try rfl
       have n3:w11.cell? ⟨b7,3,none⟩=some (.slice ap ps.length cp):=by rw[Qa HB11.out];try rfl
       go_upto_region 19 with fail
       refine rgn (fun w'=>w'.cell? ⟨p,3,none⟩=some (.slice og rs.length ocg)∧w'.cell? ⟨b7,0,none⟩=some (.int .i64 (sn:Nat))∧w'.cell? ⟨b7,1,none⟩=some (.string x.cons)∧w'.cell? ⟨b7,2,none⟩=some (.int .i64 x.level)∧w'.cell? ⟨b7,3,none⟩=some (.slice ap ps.length cp)) (X:=[]) ⟨Qd ((Qb _ _).drew) ((Qa HL11.out.blk 3).trans (congrArg some HVG.out)),Qd ((Qb _ _).drew) n0,Qd ((Qb _ _).drew) n1,Qd ((Qb _ _).drew) n2,Qd ((Qb _ _).drew) n3⟩ (fun hX hHeld=> ?_);refine tw 0 82 ?_;refine tw 1 83 ?_;refine tw 2 84 ?_;refine tw 3 85 ?_;refine tw 4 86 ?_;refine tk 5 87 ?_;refine tk 6 88 ?_;refine ro 7 (fun K hK=> ?_);obtain⟨wd,hwd⟩:∃zz,zz=w11.drew:=⟨_,rfl⟩;have KN0:Kn w11 wd:=by rw[hwd];exact(Qb _ _).drew
       have KW0:=KW11.trans (Kp.weak (S:=fun k=>B≤k) KN0);have RH0:=Qh (HL11.out.kn KN0);rw[←hwd] at hHeld⊢;clear hwd;go_simp;obtain⟨y1,hw1⟩:∃zz,zz=wd.alloc (.cells #[.int .i64 (sn:Nat),.string x.cons,.int .i64 x.level,.slice ap ps.length cp] TRu):=⟨_,rfl⟩;have hk1:Kn wd y1:=by rw[hw1];exact(Qb _ _).alloc _
       obtain⟨ge,hge⟩:∃zz,zz=wd.heap.size:=⟨_,rfl⟩;have GE:y1.heap[ge]? =some (.cells #[.int .i64 (sn:Nat),.string x.cons,.int .i64 x.level,.slice ap ps.length cp] TRu (0,0)):=by rw[hw1,hge];exact Qf _ _
       have RH1:=Qh (RH0.out.kn hk1);have KW1:=KW0.trans (Kp.weak hk1);have KN1:=KN0.trans hk1;rw[←hw1,←hge];refine hK.out _ _ (⟨Qd hk1 hHeld.1,Qd hk1 hHeld.2.1,Qd hk1 hHeld.2.2.1,Qd hk1 hHeld.2.2.2.1,Qd hk1 hHeld.2.2.2.2⟩) (fun hHeld=> ?_);clear hw1 hge hk1;clear hK K
       try simp only[PP]
       refine ro 8 (fun K hK=> ?_);have hownO:OwnK y1 B TRu 4 (.slice og rs.length ocg) (List.zipWith ruL rs vps):=by have h1:=RH1.out.ru.row;rw[HVG.out] at h1;exact h1
       refine Qn y1 (by rfl) _ _ 108 (by rfl) B TRu ir (.agg #[.int .i64 0,.string ByteArray.empty,.int .i64 0,.slice none 0 0]) 4 56 Tryz.underlying108 HIR.out.1 HIR.out.2.1 HIR.out.2.2.1 HIR.out.2.2.2 (by rfl) (by decide) (.slice og rs.length ocg) (List.zipWith ruL rs vps) (by rfl) hownO ge 1 (by rfl) #[.int .i64 (sn:Nat),.string x.cons,.int .i64 x.level,.slice ap ps.length cp] TRu (0,0) GE (by rfl) (by simp[Value.oneCell']) (by rw[List.length_zipWith,RH1.out.ru.len,Nat.min_self,HRSL.out];simp only[maxLen];omega) (by rw[List.length_zipWith,RH1.out.ru.len,Nat.min_self,HRSL.out];omega) (by have:=RH1.out.pB.1;have:=RH1.out.lt;omega) ?_;intro v1 y2 hown hka hat;have hke:Kp (fun k=>B≤k) y1 y2:=hka.mono (fun i hi e=>(hownO.lt i e.symm).1);have KX:=KW1.trans hke;obtain⟨av1,cv1,hv1,_⟩:=hown.row (k:=4) (fun D hD=>by simp only[List.mem_append,List.mem_map,List.mem_singleton] at hD;(first|(rcases hD with⟨y,_,rfl⟩|rfl<;>rfl)|(exact(by rcases hD with hD|rfl;obtain⟨i,hi,rfl⟩:=List.getElem_of_mem hD;simp[ruL];rfl))))
       obtain⟨nl1,hv1⟩:∃n,v1= .slice av1 n cv1:=⟨_,hv1⟩;have HV1:=Qh hv1;have HWD:=Ys HP11.out KN1 (fun _ _ x=>x);have RHP:=Qh (LkAt.putRule (r:=⟨sn,x.cons,x.level,ps⟩) (vp:= .slice ap ps.length cp) RH1.out HWD hown (by show Kp (fun k=>some k=v.ownBlock) _ _;rw[HVG.out];exact hka));have hpb:y2.heap[p]? =some (.cells (rdC {A with vr:=v}) TGr (0,0)):=Yw RH1.out.blk hka (Yx hownO) (by decide);have xp1:=Qc hpb 3;have xq1:y2.cell? ⟨p,3,none⟩=some (.slice og rs.length ocg):=by rw[Qa hpb];exact congrArg some HVG.out
       refine hK.out _ _ (⟨xq1,Qi hka hHeld.2.1 (fun e=>HNB7.out b7 (by rw[HVG.out];exact e.symm) rfl),Qi hka hHeld.2.2.1 (fun e=>HNB7.out b7 (by rw[HVG.out];exact e.symm) rfl),Qi hka hHeld.2.2.2.1 (fun e=>HNB7.out b7 (by rw[HVG.out];exact e.symm) rfl),Qi hka hHeld.2.2.2.2 (fun e=>HNB7.out b7 (by rw[HVG.out];exact e.symm) rfl)⟩) (fun hHeld=> ?_);clear hown hka hat hv1 hke hownO;clear hK K
       try simp only[PP]
       refine tw 9 91 ?_;refine tw 10 92 ?_;refine tw 11 93 ?_;refine re 12 (fun K hK=> ?_);rw[HV1.out];go_simp;rw[←HV1.out];obtain⟨w9,hw9⟩:∃zz,zz=y2.setCell ⟨p,3,none⟩ v1:=⟨_,rfl⟩;have hk9:K1 p y2 w9:=by rw[hw9];exact Qg _ _
       rw[←hw9] at RHP⊢;have KX9:=KX.trans (hk9.mono (fun i hi e=>by have:=RHP.out.pB.1;omega));clear xp1 xq1 hpb hw9 hk9 KX hHeld;refine hK.out _ _ ?_;clear hK K;go_wp2_with fail
       go_roundw
       case rel=>exact⟨k+1,v1,rs++[⟨sn,x.cons,x.level,ps⟩],vps++[.slice ap ps.length cp],brPut br sn rs.length,by go_num,by omega,hF,Qh (by rw[List.length_append,HRSL.out];try rfl),RHP,Qh KX9⟩
       case measure=>simp[intOf];omega
      |false=>
       rw[hro] at o5;have hF:Hid (R.linkGo (R.lines.drop (k+1)) (rs++[⟨sn,x.cons,x.level,ps⟩]) br=R.linkGo R.lines [] []):=Qh (by rw[HST.out,HROS.out];simp only[hro];rfl);have n0:wr.cell? ⟨b7,0,none⟩=some (.int .i64 (sn:Nat)):=by rw[Qa hb7.out];try rfl
       have n1:wr.cell? ⟨b7,1,none⟩=some (.string x.cons):=by rw[Qa hb7.out];try rfl
       have n2:wr.cell? ⟨b7,2,none⟩=some (.int .i64 x.level):=by rw[Qa hb7.out];try rfl
       have n3:wr.cell? ⟨b7,3,none⟩=some (.slice ap ps.length cp):=by rw[Qa hb7.out];try rfl
       have KWi:=HKi.out;clear hro;go_upto_region 19 with fail
       refine rgn (fun w'=>w'.cell? ⟨p,3,none⟩=some (.slice og rs.length ocg)∧w'.cell? ⟨b7,0,none⟩=some (.int .i64 (sn:Nat))∧w'.cell? ⟨b7,1,none⟩=some (.string x.cons)∧w'.cell? ⟨b7,2,none⟩=some (.int .i64 x.level)∧w'.cell? ⟨b7,3,none⟩=some (.slice ap ps.length cp)) (X:=[]) ⟨Qd ((Qb _ _).drew) ((Qa HLi.out.blk 3).trans (congrArg some HVG.out)),Qd ((Qb _ _).drew) n0,Qd ((Qb _ _).drew) n1,Qd ((Qb _ _).drew) n2,Qd ((Qb _ _).drew) n3⟩ (fun hX hHeld=> ?_);refine tw 0 82 ?_;refine tw 1 83 ?_;refine tw 2 84 ?_;refine tw 3 85 ?_;refine tw 4 86 ?_;refine tk 5 87 ?_;refine tk 6 88 ?_;refine ro 7 (fun K hK=> ?_);obtain⟨wd,hwd⟩:∃zz,zz=wr.drew:=⟨_,rfl⟩;have KN0:Kn wr wd:=by rw[hwd];exact(Qb _ _).drew
       have KW0:=KWi.trans (Kp.weak (S:=fun k=>B≤k) KN0);have RH0:=Qh (HLi.out.kn KN0);rw[←hwd] at hHeld⊢;clear hwd;go_simp;obtain⟨y1,hw1⟩:∃zz,zz=wd.alloc (.cells #[.int .i64 (sn:Nat),.string x.cons,.int .i64 x.level,.slice ap ps.length cp] TRu):=⟨_,rfl⟩;have hk1:Kn wd y1:=by rw[hw1];exact(Qb _ _).alloc _
       obtain⟨ge,hge⟩:∃zz,zz=wd.heap.size:=⟨_,rfl⟩;have GE:y1.heap[ge]? =some (.cells #[.int .i64 (sn:Nat),.string x.cons,.int .i64 x.level,.slice ap ps.length cp] TRu (0,0)):=by rw[hw1,hge];exact Qf _ _
       have RH1:=Qh (RH0.out.kn hk1);have KW1:=KW0.trans (Kp.weak hk1);have KN1:=KN0.trans hk1;rw[←hw1,←hge];refine hK.out _ _ (⟨Qd hk1 hHeld.1,Qd hk1 hHeld.2.1,Qd hk1 hHeld.2.2.1,Qd hk1 hHeld.2.2.2.1,Qd hk1 hHeld.2.2.2.2⟩) (fun hHeld=> ?_);clear hw1 hge hk1;clear hK K
       try simp only[PP]
       refine ro 8 (fun K hK=> ?_);have hownO:OwnK y1 B TRu 4 (.slice og rs.length ocg) (List.zipWith ruL rs vps):=by have h1:=RH1.out.ru.row;rw[HVG.out] at h1;exact h1
       refine Qn y1 (by rfl) _ _ 108 (by rfl) B TRu ir (.agg #[.int .i64 0,.string ByteArray.empty,.int .i64 0,.slice none 0 0]) 4 56 Tryz.underlying108 HIR.out.1 HIR.out.2.1 HIR.out.2.2.1 HIR.out.2.2.2 (by rfl) (by decide) (.slice og rs.length ocg) (List.zipWith ruL rs vps) (by rfl) hownO ge 1 (by rfl) #[.int .i64 (sn:Nat),.string x.cons,.int .i64 x.level,.slice ap ps.length cp] TRu (0,0) GE (by rfl) (by simp[Value.oneCell']) (by rw[List.length_zipWith,RH1.out.ru.len,Nat.min_self,HRSL.out];simp only[maxLen];omega) (by rw[List.length_zipWith,RH1.out.ru.len,Nat.min_self,HRSL.out];omega) (by have:=RH1.out.pB.1;have:=RH1.out.lt;omega) ?_;intro v1 y2 hown hka hat;have hke:Kp (fun k=>B≤k) y1 y2:=hka.mono (fun i hi e=>(hownO.lt i e.symm).1);have KX:=KW1.trans hke;obtain⟨av1,cv1,hv1,_⟩:=hown.row (k:=4) (fun D hD=>by simp only[List.mem_append,List.mem_map,List.mem_singleton] at hD;(first|(rcases hD with⟨y,_,rfl⟩|rfl<;>rfl)|(exact(by rcases hD with hD|rfl;obtain⟨i,hi,rfl⟩:=List.getElem_of_mem hD;simp[ruL];rfl))))
       obtain⟨nl1,hv1⟩:∃n,v1= .slice av1 n cv1:=⟨_,hv1⟩;have HV1:=Qh hv1;have HWD:=Ys HPB.out KN1 (fun _ _ x=>x);have RHP:=Qh (LkAt.putRule (r:=⟨sn,x.cons,x.level,ps⟩) (vp:= .slice ap ps.length cp) RH1.out HWD hown (by show Kp (fun k=>some k=v.ownBlock) _ _;rw[HVG.out];exact hka));have hpb:y2.heap[p]? =some (.cells (rdC {A with vr:=v}) TGr (0,0)):=Yw RH1.out.blk hka (Yx hownO) (by decide);have xp1:=Qc hpb 3;have xq1:y2.cell? ⟨p,3,none⟩=some (.slice og rs.length ocg):=by rw[Qa hpb];exact congrArg some HVG.out
       refine hK.out _ _ (⟨xq1,Qi hka hHeld.2.1 (fun e=>HNB7.out b7 (by rw[HVG.out];exact e.symm) rfl),Qi hka hHeld.2.2.1 (fun e=>HNB7.out b7 (by rw[HVG.out];exact e.symm) rfl),Qi hka hHeld.2.2.2.1 (fun e=>HNB7.out b7 (by rw[HVG.out];exact e.symm) rfl),Qi hka hHeld.2.2.2.2 (fun e=>HNB7.out b7 (by rw[HVG.out];exact e.symm) rfl)⟩) (fun hHeld=> ?_);clear hown hka hat hv1 hke hownO;clear hK K
       try simp only[PP]
       refine tw 9 91 ?_;refine tw 10 92 ?_;refine tw 11 93 ?_;refine re 12 (fun K hK=> ?_);rw[HV1.out];go_simp;rw[←HV1.out];obtain⟨w9,hw9⟩:∃zz,zz=y2.setCell ⟨p,3,none⟩ v1:=⟨_,rfl⟩;have hk9:K1 p y2 w9:=by rw[hw9];exact Qg _ _
       rw[←hw9] at RHP⊢;have KX9:=KX.trans (hk9.mono (fun i hi e=>by have:=RHP.out.pB.1;omega));clear xp1 xq1 hpb hw9 hk9 KX hHeld;refine hK.out _ _ ?_;clear hK K;go_wp2_with fail
       go_roundw
       case rel=>exact⟨k+1,v1,rs++[⟨sn,x.cons,x.level,ps⟩],vps++[.slice ap ps.length cp],br,by go_num,by omega,hF,Qh (by rw[List.length_append,HRSL.out];try rfl),RHP,Qh KX9⟩
       case measure=>simp[intOf];omega
  ·obtain rfl:k=R.lines.length:=by omega
   have he:=linkGo_end hgo.out;have HE:=Qh he;have h120:rs.length≤120:=by have:=hrl.out;omega
   clear he;go_wp2_with fail
   go_ret2
   refine⟨0,0,rfl,hkw.out,?_⟩;rw[HE.out];exact⟨rfl,_,kb,vps,hlk.out,h120,HAS.out⟩
end Go.Proofs.YtiehgcfckhepaaaGreatDoor
namespace Go.Proofs.YtiehgcfckhepaaaGreatDoor
open Go.Shelf Go.RowKit
abbrev TB:TypeId:=244
abbrev TU8:TypeId:=5
theorem xB:(Tryz.prog.info? TB).map (·.size)=some 2:=by kernel_rfl
theorem info_u8:(Tryz.prog.info? TU8).map (fun i=>(i.zero,i.size,i.bytes))=some (some (.int .u8 0),1,1):=by kernel_rfl
theorem copyCheck_used(b:Nat)(w:World)(h0:w.cell? ⟨b,0,none⟩=some (.pointer (some ⟨b,0,none⟩))):
  Calls Tryz.prog 181 #[.pointer (some ⟨b,0,none⟩)] w fun e w'=>e= .returned (.tuple #[])∧w'=w:=by
 obtain⟨j,hj,_⟩:=Option.map_eq_some_iff.1 xB;go_enter Tryz.func181,Tryz.ntmps181;go_wp2_with fail
 try rw[Lib.run_neq_ptr_same w _ Tryz.underlying241 hj]
 go_wp2_with fail
 go_end0
 exact⟨rfl,rfl⟩
theorem copyCheck_fresh(b:Nat)(w:World)(h0:w.cell? ⟨b,0,none⟩=some (.pointer none))(hsh:w.shape? b=some (TB,2))(hfz:w.frozen? ⟨b,0,none⟩=false):
  Calls Tryz.prog 181 #[.pointer (some ⟨b,0,none⟩)] w fun e w'=>e= .returned (.tuple #[])∧w'=w.setCell ⟨b,0,none⟩ (.pointer (some ⟨b,0,none⟩)):=by
 obtain⟨j,hj,hjs⟩:=Option.map_eq_some_iff.1 xB;go_enter Tryz.func181,Tryz.ntmps181;go_wp2_with fail
 rw[Lib.run_to_unsafe w ⟨b,0,none⟩ Tryz.underlying241 Tryz.underlying376 hj (by rw[hjs];decide) hsh (Nat.zero_lt_succ 1)];simp only[Result.andThen];rw[Oper.upon_value];go_wp2_with fail
 rw[run_callFunc_extern Tryz.func231 (by kernel_rfl) (by kernel_rfl) (by kernel_rfl) (e:=Extern.AbiNoEscape.same) (by kernel_rfl)];rw[Lib.run_noEscape];simp only[Result.andThen];rw[Oper.upon_value];go_wp2_with fail
 rw[Lib.run_from_unsafe w ⟨b,0,none⟩ Tryz.underlying376 Tryz.underlying241 hj hsh Tryz.Builder_Extra_169.liesBuilder];simp only[Result.andThen];rw[Oper.upon_value];go_wp2_with fail
 go_end0
 exact⟨rfl,rfl⟩
theorem copyCheck_k(B b:Nat)(bs:List Value)(w:World)(h:Lib.IsBuilderF TB TU8 B b bs w):
  Calls Tryz.prog 181 #[.pointer (some ⟨b,0,none⟩)] w fun e w'=>e= .returned (.tuple #[])∧(Lib.BuilderAtF TB TU8 B b (.pointer (some ⟨b,0,none⟩)) bs w'∧Below B w w'):=by
 rcases h with h|h
 ·refine(copyCheck_fresh b w h.cell0 h.shape h.frozen0).mono ?_;rintro e w' ⟨rfl,rfl⟩;exact⟨rfl,h.used _,(Below.refl B w).setCell (p:=⟨b,0,none⟩) h.1 _⟩
 ·refine(copyCheck_used b w h.cell0).mono ?_;rintro e w' ⟨rfl,rfl⟩;exact⟨rfl,h,Below.refl B _⟩
theorem WriteByte_k(B b:Nat)(bs:List Value)(c:Int)(w:World)(h:Lib.IsBuilderF TB TU8 B b bs w)(hlen:bs.length+1≤140737488355328)(hBw:B≤w.heap.size):
  Calls Tryz.prog 126 #[.pointer (some ⟨b,0,none⟩),.int .u8 c] w fun e w'=>e= .returned .nilIface∧(Lib.BuilderAtF TB TU8 B b (.pointer (some ⟨b,0,none⟩)) (bs++[.int .u8 c]) w'∧Below B w w'):=by
 obtain⟨i0,hi,hz0,hz1,hz2⟩:=info_parts info_u8;have HCC:=Qh (copyCheck_k B b bs w h);go_enter Tryz.func126,Tryz.ntmps126;go_wp2_with fail
 refine HCC.out.mono ?_;rintro e w1 ⟨rfl,h1,hb1⟩;obtain⟨hB,v,hbk,hown,hne⟩:=h1;have c0:w1.cell? ⟨b,0,none⟩=some (.pointer (some ⟨b,0,none⟩)):=by rw[Lib.cell_of_heap hbk];try rfl
 have c1:w1.cell? ⟨b,1,none⟩=some v:=by rw[Lib.cell_of_heap hbk];try rfl
 go_wp2_with (at_builtin;refine wpList_append_ownF _ rfl _ _ 242 rfl B TU8 i0 (.int .u8 0) 1 1 Tryz.underlying242 hi hz0 hz1 hz2 rfl (by decide) _ _ _ rfl (hown.alloc _) ⟨w1.heap.size,0,none⟩ 1 1 [.int .u8 c] rfl rfl ?c1 ?c2 ?c3 ?c4 ?c5 ?_)
 case c1=>
  intro j u hj
  match j,hj with
  |0,hj=>simp at hj;subst hj;simp[Addr.add]
 case c2=>intro u hu;simp at hu;subst hu;rfl
 case c3=>unfold maxLen;omega
 case c4=>omega
 case c5=>have:=hb1.size;simp;omega
 intro v' w2 hown' hgrow _;have hlt:b<w1.heap.size:=Qk hbk;have hb2:w2.heap[b]? =some (.cells #[.pointer (some ⟨b,0,none⟩),v] TB (0,0)):=by
  rw[hgrow.block b (by simp;omega) (fun e=>hne e.symm),Lib.alloc_old w1 _ b hlt];exact hbk
 have d0:w2.cell? ⟨b,0,none⟩=some (.pointer (some ⟨b,0,none⟩)):=by rw[Lib.cell_of_heap hb2];try rfl
 have d1:w2.cell? ⟨b,1,none⟩=some v:=by rw[Lib.cell_of_heap hb2];try rfl
 have f1:w2.frozen? ⟨b,1,none⟩=false:=Lib.frozen_of_heap hb2 1;obtain⟨g,cap,rfl⟩:∃g cap,v'= .slice (some ⟨g,0,none⟩) (bs.length+1) cap:=by
  rcases hown'.2 with⟨_,h0⟩|⟨g,cap,cur,fz,hv,_⟩
  ·omega
  ·exact⟨g,cap,hv⟩
 go_wp2_with fail
 go_ret;refine⟨rfl,?_,?_⟩
 ·exact Lib.BuilderAtF.put (T:=TB) (e:=TU8) hB hb2 (bs':=bs++[.int .u8 c]) (by simpa using hown') (by decide)
 ·exact((hb1.alloc (by have:=hb1.size;omega) _).grown hgrow (by have:=hb1.size;simp;omega) (fun k hk=>(hown.lt k hk).1)).setCell (p:=⟨b,1,none⟩) hB _
theorem WriteString_k(B b:Nat)(bs:List Value)(s:ByteArray)(w:World)(h:Lib.IsBuilderF TB TU8 B b bs w)(hlen:bs.length+s.size≤140737488355328)(hBw:B≤w.heap.size):
  Calls Tryz.prog 125 #[.pointer (some ⟨b,0,none⟩),.string s] w fun e w'=>e= .returned (.tuple #[.int .i64 s.size,.nilIface])∧(Lib.BuilderAtF TB TU8 B b (.pointer (some ⟨b,0,none⟩)) (bs++Lib.strCells s) w'∧Below B w w'):=by
 obtain⟨i0,hi,hz0,hz1,hz2⟩:=info_parts info_u8;have HCC:=Qh (copyCheck_k B b bs w h);go_enter Tryz.func125,Tryz.ntmps125;go_wp2_with fail
 refine HCC.out.mono ?_;rintro e w1 ⟨rfl,h1,hb1⟩;obtain⟨hB,v,hbk,hown,hne⟩:=h1;have c0:w1.cell? ⟨b,0,none⟩=some (.pointer (some ⟨b,0,none⟩)):=by rw[Lib.cell_of_heap hbk];try rfl
 have c1:w1.cell? ⟨b,1,none⟩=some v:=by rw[Lib.cell_of_heap hbk];try rfl
 go_wp2_with (at_builtin;refine Lib.wpList_append_own_stringF _ rfl _ _ 242 9 rfl B TU8 i0 Tryz.underlying242 Tryz.underlying9 hi hz0 hz1 hz2 _ _ _ rfl hown s rfl ?c3 ?c4 ?c5 ?_)
 case c3=>unfold maxLen;omega
 case c4=>omega
 case c5=>have:=hb1.size;omega
 intro v' w2 hown' hgrow _;have hlt:b<w1.heap.size:=Qk hbk;have hb2:w2.heap[b]? =some (.cells #[.pointer (some ⟨b,0,none⟩),v] TB (0,0)):=by
  rw[hgrow.block b hlt (fun e=>hne e.symm)];exact hbk
 have d0:w2.cell? ⟨b,0,none⟩=some (.pointer (some ⟨b,0,none⟩)):=by rw[Lib.cell_of_heap hb2];try rfl
 have d1:w2.cell? ⟨b,1,none⟩=some v:=by rw[Lib.cell_of_heap hb2];try rfl
 have f1:w2.frozen? ⟨b,1,none⟩=false:=Lib.frozen_of_heap hb2 1;obtain⟨ao,n',cap,rfl⟩:∃ao n' cap,v'= .slice ao n' cap:=by
  rcases hown'.2 with⟨hv,_⟩|⟨g,cap,cur,fz,hv,_⟩
  ·exact⟨_,_,_,hv⟩
  ·exact⟨_,_,_,hv⟩
 go_wp2_with fail
 go_ret2
 refine⟨rfl,?_,?_⟩
 ·exact Lib.BuilderAtF.put (T:=TB) (e:=TU8) hB hb2 (bs':=bs++Lib.strCells s) (by simpa[Lib.strCells_length] using hown') (by decide)
 ·exact(hb1.grown hgrow (by have:=hb1.size;omega) (fun k hk=>(hown.lt k hk).1)).setCell (p:=⟨b,1,none⟩) hB _
def hx(d:Nat):UInt8:=hexs.data.toList.getD d 0
def escL(c:Nat):List UInt8:=if inS QC c=true then[92,c.toUInt8] else if 32<c∧c<127 then[c.toUInt8] else[92,120,hx (c/16),hx (c%16)]
def YB(s:ByteArray)(k:Nat):List UInt8:=(List.range k).flatMap (fun i=>escL (bt s i))
def escF(s:ByteArray):ByteArray:=⟨(YB s s.size).toArray⟩
theorem escTo_succ(s:ByteArray)(k:Nat):YB s (k+1)=YB s k++escL (bt s k):=by
 unfold YB;rw[List.range_succ,List.flatMap_append];simp
theorem escL_len(c:Nat):(escL c).length≤4:=by
 unfold escL;split
 ·simp
 ·split<;>simp
theorem escTo_len(s:ByteArray):∀k,(YB s k).length≤4*k
 |0=>by simp[YB]
 |k+1=>by have:=escTo_len s k;have:=escL_len (bt s k);rw[escTo_succ,List.length_append];omega
theorem byteCells_app(a b:List UInt8):Lib.byteCells (a++b)=Lib.byteCells a++Lib.byteCells b:=by simp[Lib.byteCells]
theorem byteCells_len(l:List UInt8):(Lib.byteCells l).length=l.length:=by simp[Lib.byteCells]
theorem and15(c:Nat)(h:c<256):bits BinOp.and IntKind.u8 (c:Int) 15=((c%16:Nat):Int):=by
 have key:∀c:_root_.Fin 256,bits BinOp.and IntKind.u8 ((c.val:Nat):Int) 15=((c.val%16:Nat):Int):=by decide+kernel
 exact key ⟨c,h⟩
theorem hx_get(d:Nat)(h:d<16):hx d=(⟨#[48,49,50,51,52,53,54,55,56,57,97,98,99,100,101,102]⟩:ByteArray)[d]'h:=by
 have key:∀d:_root_.Fin 16,hx d.val=(⟨#[48,49,50,51,52,53,54,55,56,57,97,98,99,100,101,102]⟩:ByteArray)[d.val]'d.isLt:=by decide+kernel
 exact key ⟨d,h⟩
theorem hxi(d:Nat)(h:d<16){i:Nat}(hi:i<16)(hp:i<(⟨#[48,49,50,51,52,53,54,55,56,57,97,98,99,100,101,102]⟩:ByteArray).size)(e:i=d):(((⟨#[48,49,50,51,52,53,54,55,56,57,97,98,99,100,101,102]⟩:ByteArray)[i]'hp).toNat:Int)=((hx d).toNat:Nat):=by
 subst e;rw[hx_get i h]
theorem Kp.below'{w w':World}{B:Nat}(hk:Kn w w')(hB:B≤w.heap.size):Below B w w':=⟨hk.os,hk.tape,hk.output,hk.size,fun k hk2=>hk.block k (Nat.lt_of_lt_of_le hk2 hB) (fun x=>x)⟩
theorem isB_kn{w w':World}{B b:Nat}{bs:List Value}(h:Lib.IsBuilderF TB TU8 B b bs w)(hk:Kn w w'):Lib.IsBuilderF TB TU8 B b bs w':=by
 have key:∀p,Lib.BuilderAtF TB TU8 B b p bs w→Lib.BuilderAtF TB TU8 B b p bs w':=fun p h=>by
  obtain⟨h1,v,h2,h3,h4⟩:=h;refine⟨h1,v,hk.blk h2 (fun x=>x),⟨h3.1,?_⟩,h4⟩;rcases h3.2 with h5|⟨g,cap,cur,fz,h5,h6,h7,h8⟩
  ·exact .inl h5
  ·exact .inr ⟨g,cap,cur,fz,h5,h6,hk.blk h7 (fun x=>x),h8⟩
 exact h.imp (key _) (key _)
theorem strOf4_le(a b:Int):((⟨#[92,120]⟩:ByteArray)++strOfNums [a,b]).size=4:=by
 show((⟨#[92,120]⟩:ByteArray)++strOfNums [a,b]).data.size=4;rw[ByteArray.data_append];simp[strOfNums]
theorem esc4{a b:Int}{x y:UInt8}(ha:a=(x.toNat:Nat))(hb:b=(y.toNat:Nat)):Lib.strCells ((⟨#[92,120]⟩:ByteArray)++strOfNums [a,b])=Lib.byteCells [92,120,x,y]:=by
 subst ha;subst hb;unfold Lib.strCells;rw[ByteArray.data_append];simp[strOfNums,Lib.byteCells]
theorem strOf2_le(c:Nat):((⟨#[92]⟩:ByteArray)++strOfNums [(c:Int)]).size=2:=by
 show((⟨#[92]⟩:ByteArray)++strOfNums [(c:Int)]).data.size=2;rw[ByteArray.data_append];simp[strOfNums]
theorem esc2(c:Nat)(h:c<256):Lib.strCells ((⟨#[92]⟩:ByteArray)++strOfNums [(c:Int)])=Lib.byteCells [92,c.toUInt8]:=by
 unfold Lib.strCells;rw[ByteArray.data_append];simp[strOfNums,Lib.byteCells]
theorem esc1(c:Nat)(h:c<256):Lib.byteCells [c.toUInt8]=[.int .u8 (c:Int)]:=by
 simp[Lib.byteCells];omega
theorem escape_c(s:ByteArray)(w:World)(hs:s.size≤1000000):
  Calls Tryz.prog 100 #[.string s] w fun e w'=>e= .returned (.string (escF s))∧Kn w w':=by
 have HI:=Qh (fun c W=>Tryz.strings_IndexByte ⟨#[124,42,43,63,40,41,91,93,46,92]⟩ c W);have HEF:Hid (escF s=⟨(YB s s.size).toArray⟩):=Qh rfl;go_enter Tryz.func100,Tryz.ntmps100;go_wp2_with fail
 obtain⟨w1,hw1⟩:∃z,z=w.alloc (.cells #[.pointer none,.slice none 0 0] TB):=⟨_,rfl⟩;obtain⟨b,hb⟩:∃z,z=w.heap.size:=⟨_,rfl⟩;have hb0:w1.heap[b]? =some (.cells #[.pointer none,.slice none 0 0] TB (0,0)):=by rw[hw1,hb];exact Qf _ _
 have hB0:Lib.IsBuilderF TB TU8 b b (Lib.byteCells (YB s 0)) w1:= .inl ⟨Nat.le_refl _,_,hb0,⟨by simp[YB,Lib.byteCells],.inl ⟨rfl,rfl⟩⟩,by simp[Value.ownBlock]⟩;have hbel:Below b w w1:=by rw[hw1,hb];exact(Below.refl _ w).alloc (Nat.le_refl _) _
 rw[←hw1,←hb];have HB0:=Qh hB0;have HBE:=Qh hbel;have hbs:b≤w.heap.size:=by omega
 have hFIN:Hid (∀w',Below b w w'→Kn w w'):=Qh (fun w' h=>by rw[hb] at h;exact YA h);clear hw1 hb hb0 hB0 hbel;go_loopw [8] (fun i wr=>∃k:Nat,k≤s.size∧i= .int .i64 k∧Hid (Lib.IsBuilderF TB TU8 b b (Lib.byteCells (YB s k)) wr)∧Hid (Below b w wr)) (fun i _=>s.size-(intOf i).toNat)
 case atStart=>exact⟨0,Nat.zero_le _,rfl,HB0,HBE⟩
 case round=>
  clear HB0 HBE;obtain⟨k,hk,rfl,hbi,hbe⟩:=hrel;by_cases hlt:k<s.size
  ·have hlt':(k:Int)<s.size:=by omega
   have hE:=bt_in hlt;have hc:=bt_lt s k;have HES:=Qh (escTo_succ s k);have hel:=escTo_len s k;by_cases h1:inS QC (bt s k)=true
   ·have hIx:0≤Lib.indexByte (⟨#[124,42,43,63,40,41,91,93,46,92]⟩:ByteArray).data.toList (((s[k].toNat:Nat):Int).toNat.toUInt8):=by
     rw[hE] at h1;simpa[inS,QC] using h1
    have HL:Hid (escL (bt s k)=[92,(bt s k).toUInt8]):=Qh (by unfold escL;rw[if_pos h1]);have HE:=Qh hE;obtain⟨ix,hix⟩:∃ix,ix=Lib.indexByte (⟨#[124,42,43,63,40,41,91,93,46,92]⟩:ByteArray).data.toList (((s[k].toNat:Nat):Int).toNat.toUInt8):=⟨_,rfl⟩;have HIX:=Qh hix;rw[←hix] at hIx;clear hE h1 hix;go_wp2_with fail
    refine(HI.out _ _).mono ?_;rintro e w' ⟨rfl,rfl⟩;rw[←HIX.out];go_wp2_with fail
    rw[run_convert_bytes_arg _ 242 TU8 Tryz.underlying242 Tryz.underlying5 w'.heap.size 0 1 1 [((s[k].toNat:Nat):Int)] rfl (fun i hi=>by
     have e:i=0:=by omega
     subst e;rw[Qa (Qf w' _)];try rfl) 9 Tryz.underlying9]
    simp only[Result.andThen];rw[Oper.upon_value];go_wp2_with fail
    refine(WriteString_k b b _ _ _ (hbi.out.alloc _) (by have:=byteCells_len (YB s k);have:=strOf2_le s[k].toNat;omega) (by have:=hbe.out.size;simp;omega)).mono ?_;rintro e w2 ⟨rfl,hb2,he2⟩;have HB2:Hid (Lib.IsBuilderF TB TU8 b b (Lib.byteCells (YB s (k+1))) w2):=Qh (.inr (by
     rw[HES.out,HL.out,byteCells_app,←esc2 _ hc,HE.out];exact hb2))
    have HE2:=Qh ((hbe.out.alloc (by have:=hbe.out.size;omega) _).trans he2);clear hb2 he2;go_wp2_with fail
    go_roundw
    case rel=>exact⟨k+1,by omega,by go_num,HB2,HE2⟩
    case measure=>simp[intOf];omega
   ·have hIx:¬0≤Lib.indexByte (⟨#[124,42,43,63,40,41,91,93,46,92]⟩:ByteArray).data.toList (((s[k].toNat:Nat):Int).toNat.toUInt8):=by
     rw[hE] at h1;simpa[inS,QC] using h1
    obtain⟨ix,hix⟩:∃ix,ix=Lib.indexByte (⟨#[124,42,43,63,40,41,91,93,46,92]⟩:ByteArray).data.toList (((s[k].toNat:Nat):Int).toNat.toUInt8):=⟨_,rfl⟩;have HIX:=Qh hix;rw[←hix] at hIx;clear hix;by_cases h2:32<bt s k∧bt s k<127
    ·have i1:(32:Int)<((s[k].toNat:Nat):Int):=by have:=h2.1;omega
     have i2:((s[k].toNat:Nat):Int)<127:=by have:=h2.2;omega
     have HL:Hid (escL (bt s k)=[(bt s k).toUInt8]):=Qh (by unfold escL;rw[if_neg h1,if_pos h2]);have HE:=Qh hE;clear hE h1 h2;go_wp2_with fail
     refine(HI.out _ _).mono ?_;rintro e w' ⟨rfl,rfl⟩;rw[←HIX.out];go_wp2_with fail
     refine(WriteByte_k b b _ _ _ hbi.out (by have:=byteCells_len (YB s k);omega) (by have:=hbe.out.size;omega)).mono ?_;rintro e w2 ⟨rfl,hb2,he2⟩;have HB2:Hid (Lib.IsBuilderF TB TU8 b b (Lib.byteCells (YB s (k+1))) w2):=Qh (.inr (by
      rw[HES.out,HL.out,byteCells_app,esc1 _ hc,HE.out];exact hb2))
     have HE2:=Qh (hbe.out.trans he2);clear hb2 he2;go_wp2_with fail
     go_roundw
     case rel=>exact⟨k+1,by omega,by go_num,HB2,HE2⟩
     case measure=>simp[intOf];omega
    ·have i1:(32:Int)<((s[k].toNat:Nat):Int)→¬((s[k].toNat:Nat):Int)<127:=by intro h;omega
     have HL:Hid (escL (bt s k)=[92,120,hx (bt s k/16),hx (bt s k%16)]):=Qh (by unfold escL;rw[if_neg h1,if_neg h2]);have HE:=Qh hE;clear h1 i1;have hx1:0≤((s[k].toNat:Nat):Int)/16∧((s[k].toNat:Nat):Int)/16<16:=by omega
     have hx2:0≤bits BinOp.and IntKind.u8 ((s[k].toNat:Nat):Int) 15∧bits BinOp.and IntKind.u8 ((s[k].toNat:Nat):Int) 15<16:=by rw[and15 _ (by omega)];omega
     obtain⟨a1,ha1⟩:∃a:Int,a=(((⟨#[48,49,50,51,52,53,54,55,56,57,97,98,99,100,101,102]⟩:ByteArray)[(((s[k].toNat:Nat):Int)/16).toNat]'(by show _<16;omega)).toNat:Nat):=⟨_,rfl⟩;obtain⟨a2,ha2⟩:∃a:Int,a=(((⟨#[48,49,50,51,52,53,54,55,56,57,97,98,99,100,101,102]⟩:ByteArray)[(bits BinOp.and IntKind.u8 ((s[k].toNat:Nat):Int) 15).toNat]'(by show _<16;omega)).toNat:Nat):=⟨_,rfl⟩;have HA1v:=Qh ha1;have HA2v:=Qh ha2;have HX1:=Qh hx1;have HX2:=Qh hx2;have HA1:Hid (a1=((hx (bt s k/16)).toNat:Nat)):=Qh (by rw[ha1];exact hxi (bt s k/16) (by omega) (by omega) _ (by rw[hE];omega));have HA2:Hid (a2=((hx (bt s k%16)).toNat:Nat)):=Qh (by rw[ha2];exact hxi (bt s k%16) (by omega) (by omega) _ (by rw[and15 _ (by omega),hE];omega));clear ha1 ha2;have hso:(strOfNums [a1,a2]).size=2:=by show(strOfNums [a1,a2]).data.size=2;simp[strOfNums]
     by_cases h3:32<bt s k
     ·have i1:(32:Int)<((s[k].toNat:Nat):Int):=by omega
      have i2:¬((s[k].toNat:Nat):Int)<127:=by omega
      clear hE h2 h3;go_upto_region 6 with(first|(go_at_call 138;refine(HI.out _ _).mono ?_;rintro e w' ⟨rfl,rfl⟩;rw[←HIX.out]))
      refine wp_region_held_drew (S:=fun w'=>True) (by kernel_rfl) trivial (fun hHeld=> ?_);obtain⟨wd,hwd⟩:∃zz,zz=w'.drew:=⟨_,rfl⟩;have hkd:Kn w' wd:=by rw[hwd];exact(Qb _ _).drew
      rw[←hwd];clear hwd;refine TW 0 14 ?_;refine TW 1 15 ?_;refine TH 2 16 ?_ (hy:=by(intro w hs1;go_simp;exact congrArg (Value.int IntKind.u8) HA1v.out.symm;try with_reducible rfl));refine TW 3 17 ?_;refine TW 4 18 ?_;refine TH 5 19 ?_ (hy:=by(intro w hs1;go_simp;exact congrArg (Value.int IntKind.u8) HA2v.out.symm;try with_reducible rfl));refine RH 6 (fun K hK=> ?_);go_simp;refine hK.out _ _ trivial (fun hHeld=> ?_);clear hK K
      try simp only[PP]
      refine RH 7 (fun K hK=> ?_);go_simp;rw[run_convert_bytes_arg _ 242 TU8 Tryz.underlying242 Tryz.underlying5 wd.heap.size 0 2 2 [a1,a2] rfl (fun i hi=>by
       rw[Qa (Qf wd _),Nat.zero_add];rcases i with _|_|i
       ·rfl
       ·rfl
       ·omega) 9 Tryz.underlying9]
      simp only[Result.andThen];rw[Oper.upon_value];refine hK.out _ _ trivial (fun hHeld=> ?_);clear hK K
      try simp only[PP]
      refine TW 8 22 ?_;refine RH 9 (fun K hK=> ?_);go_simp
      go_at_call 125
      refine(WriteString_k b b _ _ _ ((isB_kn hbi.out hkd).alloc _) (by have:=byteCells_len (YB s k);have:=strOf4_le a1 a2;omega) (by have:=hbe.out.size;have:=hkd.size;simp;omega)).mono ?_;rintro e w2 ⟨rfl,hb2,he2⟩;have HB2:Hid (Lib.IsBuilderF TB TU8 b b (Lib.byteCells (YB s (k+1))) w2):=Qh (.inr (by rw[HES.out,HL.out,byteCells_app,←esc4 HA1.out HA2.out];exact hb2));have HE2:=Qh (((hbe.out.trans (Kp.below' hkd (by have:=hbe.out.size;omega))).alloc (by have:=hbe.out.size;have:=hkd.size;omega) _).trans he2);clear hb2 he2;dsimp only;refine hK.out _ _ trivial (fun hHeld=> ?_);clear hK K;refine RD ?_;go_wp2_with fail
      go_roundw
      case rel=>exact⟨k+1,by omega,by go_num,HB2,HE2⟩
      case measure=>simp[intOf];omega
     ·have i1:¬(32:Int)<((s[k].toNat:Nat):Int):=by omega
      clear hE h2 h3;go_upto_region 6 with(first|(go_at_call 138;refine(HI.out _ _).mono ?_;rintro e w' ⟨rfl,rfl⟩;rw[←HIX.out]))
      refine wp_region_held_drew (S:=fun w'=>True) (by kernel_rfl) trivial (fun hHeld=> ?_);obtain⟨wd,hwd⟩:∃zz,zz=w'.drew:=⟨_,rfl⟩;have hkd:Kn w' wd:=by rw[hwd];exact(Qb _ _).drew
      rw[←hwd];clear hwd;refine TW 0 14 ?_;refine TW 1 15 ?_;refine TH 2 16 ?_ (hy:=by(intro w hs1;go_simp;exact congrArg (Value.int IntKind.u8) HA1v.out.symm;try with_reducible rfl));refine TW 3 17 ?_;refine TW 4 18 ?_;refine TH 5 19 ?_ (hy:=by(intro w hs1;go_simp;exact congrArg (Value.int IntKind.u8) HA2v.out.symm;try with_reducible rfl));refine RH 6 (fun K hK=> ?_);go_simp;refine hK.out _ _ trivial (fun hHeld=> ?_);clear hK K
      try simp only[PP]
      refine RH 7 (fun K hK=> ?_);go_simp;rw[run_convert_bytes_arg _ 242 TU8 Tryz.underlying242 Tryz.underlying5 wd.heap.size 0 2 2 [a1,a2] rfl (fun i hi=>by
       rw[Qa (Qf wd _),Nat.zero_add];rcases i with _|_|i
       ·rfl
       ·rfl
       ·omega) 9 Tryz.underlying9]
      simp only[Result.andThen];rw[Oper.upon_value];refine hK.out _ _ trivial (fun hHeld=> ?_);clear hK K
      try simp only[PP]
      refine TW 8 22 ?_;refine RH 9 (fun K hK=> ?_);go_simp
      go_at_call 125
      refine(WriteString_k b b _ _ _ ((isB_kn hbi.out hkd).alloc _) (by have:=byteCells_len (YB s k);have:=strOf4_le a1 a2;omega) (by have:=hbe.out.size;have:=hkd.size;simp;omega)).mono ?_;rintro e w2 ⟨rfl,hb2,he2⟩;have HB2:Hid (Lib.IsBuilderF TB TU8 b b (Lib.byteCells (YB s (k+1))) w2):=Qh (.inr (by rw[HES.out,HL.out,byteCells_app,←esc4 HA1.out HA2.out];exact hb2));have HE2:=Qh (((hbe.out.trans (Kp.below' hkd (by have:=hbe.out.size;omega))).alloc (by have:=hbe.out.size;have:=hkd.size;omega) _).trans he2);clear hb2 he2;dsimp only;refine hK.out _ _ trivial (fun hHeld=> ?_);clear hK K;refine RD ?_;go_wp2_with fail
      go_roundw
      case rel=>exact⟨k+1,by omega,by go_num,HB2,HE2⟩
      case measure=>simp[intOf];omega
  ·obtain rfl:k=s.size:=by omega
   have hST:=Tryz.Builder_String_any_k b b (YB s s.size) wr hbi.out (by have:=hbe.out.size;omega);have HST:=Qh hST;clear hST;go_wp2_with fail
   refine HST.out.mono ?_;rintro e w2 ⟨rfl,_,he2,_⟩;have he3:=hFIN.out _ (hbe.out.trans he2);go_wp2_with fail
   go_ret;exact⟨by rw[HEF.out];try rfl,he3⟩
theorem formatInt_c(i:Nat)(hi:i<100)(w:World):
  Calls Tryz.prog 193 #[.int .i64 i,.int .i64 10] w fun e w'=>e= .returned (.string ⟨(Lib.decDigits i).toArray⟩)∧w'=w:=by
 have HS:=Qh (fun W=>Tryz.internal_strconv_small i hi W);have h1:(i:Int)<100:=by omega
 have h0:(0:Int)≤i:=by omega
 go_enter Tryz.func193,Tryz.ntmps193;go_wp2_with fail
 refine(HS.out _).mono ?_;rintro e w' ⟨rfl,rfl⟩;go_wp2_with fail
 go_ret;exact⟨rfl,rfl⟩
theorem itoa1_c(i:Nat)(hi:i<100)(w:World):
  Calls Tryz.prog 137 #[.int .i64 i] w fun e w'=>e= .returned (.string ⟨(Lib.decDigits i).toArray⟩)∧w'=w:=by
 have HS:=Qh (formatInt_c i hi w);go_enter Tryz.func137,Tryz.ntmps137;go_wp2_with fail
 refine HS.out.mono ?_;rintro e w' ⟨rfl,rfl⟩;go_wp2_with fail
 go_ret;exact⟨rfl,rfl⟩
theorem itoa_c(i:Nat)(hi:i<100)(w:World):
  Calls Tryz.prog 99 #[.int .i64 i] w fun e w'=>e= .returned (.string ⟨(Lib.decDigits i).toArray⟩)∧w'=w:=by
 have HS:=Qh (itoa1_c i hi w);go_enter Tryz.func99,Tryz.ntmps99;go_wp2_with fail
 refine HS.out.mono ?_;rintro e w' ⟨rfl,rfl⟩;go_wp2_with fail
 go_ret;exact⟨rfl,rfl⟩
end Go.Proofs.YtiehgcfckhepaaaGreatDoor
namespace Go.Proofs.YtiehgcfckhepaaaGreatDoor
open Go.RowKit Go.Maps
def decB(i:Nat):ByteArray:=⟨(Lib.decDigits i).toArray⟩
def litC(R:RS):List GC:=R.lits.zipIdx.map (fun p=>⟨(⟨#[108,105,116]⟩:ByteArray)++decB p.2,escF p.1,false⟩)
def QA(R:RS):List GC:=litC R++R.cls
theorem Yn(R:RS):(litC R).length=R.lits.length:=by simp[litC]
theorem litC_get(R:RS)(i:Nat)(h:i<R.lits.length):(litC R)[i]'(by rw[Yn];exact h)=⟨(⟨#[108,105,116]⟩:ByteArray)++decB i,escF R.lits[i],false⟩:=by simp[litC]
theorem decB_le(i:Nat)(h:i<100):(decB i).size≤2:=by
 show(Lib.decDigits i).toArray.size≤2;rw[List.size_toArray];unfold Lib.decDigits;split
 ·simp
 ·rw[List.length_append];unfold Lib.decDigits;rw[dif_pos (by omega)];simp
theorem escF_le(s:ByteArray):(escF s).size≤4*s.size:=by
 show(YB s s.size).toArray.size≤_;rw[List.size_toArray];exact escTo_len s s.size
theorem classes_c{B p:Nat}{R:RS}{A:RA}{w:World}(h:RdAt w B p R A)(ok:RSok R):
  Calls Tryz.prog 56 #[ptr p] w fun e w'=>∃v,e= .returned v∧OwnK w' w.heap.size TCl 3 v ((QA R).map clL)∧Kn w w':=by
 obtain⟨oa,oc,hv0,_,_,hg⟩:=h.lits.look;obtain⟨a1,c1,hv1,_,_,hg1⟩:=h.cls.row (fun C hC=>by obtain⟨x,_,rfl⟩:=List.mem_map.1 hC;rfl);rw[List.length_map] at hv1;obtain⟨q0,q1,_⟩:=h.cells;rw[hv0] at q0;rw[hv1] at q1;have hl40:=ok.lits;have hc40:=ok.cls;obtain⟨ie,hi,hz0,hz1,hz2⟩:=info_parts info_cl;have HIE:=Qh (And.intro hi (And.intro hz0 (And.intro hz1 hz2)));have HZ:=Qh ok.litz;have HC:=Qh h.cls;have HV1:=Qh hv1;have HG1:=Qh hg1;have HG:=Qh hg;clear h ok hv0 hv1 hi hz0 hz1 hz2 hg hg1;go_enter Tryz.func56,Tryz.ntmps56;go_wp2_with fail
 go_loopw [3,13] (fun s3 s13 wr=>∃(k:Nat) (v:Value),v=s3∧s13= .int .i64 k∧k≤R.lits.length∧Hid (OwnK wr w.heap.size TCl 3 v (((litC R).take k).map clL))∧Kn w wr) (fun _ s13 _=>R.lits.length-(intOf s13).toNat)
 case atStart=>exact⟨0,_,rfl,rfl,Nat.zero_le _,Qh OwnK.nil,Qb _ _⟩
 case round=>
  obtain⟨k,v,rfl,rfl,hk,hov,hkn⟩:=hrel;by_cases hlt:k<R.lits.length
  ·obtain⟨g,rfl,_,_,hc⟩:=HG.out (fun e=>by rw[e] at hlt;simp at hlt);have hck:=Qd hkn (hc k hlt);have hsz:=HZ.out _ (List.getElem_mem hlt);have hlg:=litC_get R k hlt;obtain⟨s,hs⟩:∃s,s=R.lits[k]:=⟨_,rfl⟩;rw[←hs] at hck hsz hlg;have HLG:=Qh hlg;have HIT:=Qh (itoa_c k (by omega) wr);have hdl:=decB_le k (by omega);change Hid (Calls Tryz.prog 99 #[.int .i64 k] wr fun e w'=>e= .returned (.string (decB k))∧w'=wr) at HIT;obtain⟨t,ht⟩:∃t,t=decB k:=⟨_,rfl⟩;rw[←ht] at HIT hdl HLG;have HES:=Qh (escape_c s wr (by omega));obtain⟨es,hes⟩:∃es,es=escF s:=⟨_,rfl⟩;rw[←hes] at HES HLG;have hno:¬(9223372036854775807:Nat)<3+t.size:=by omega
   clear hlg hs hc ht hes;go_wp2_with fail
   refine HIT.out.mono ?_;rintro e w3 ⟨rfl,hw3⟩;rw[hw3];clear hw3 w3;go_wp2_with fail
   refine HES.out.mono ?_;rintro e w4 ⟨rfl,hk4⟩;have hkn4:=hkn.trans hk4;obtain⟨nm,hnm⟩:∃nm,nm=(⟨#[108,105,116]⟩:ByteArray)++t:=⟨_,rfl⟩;rw[←hnm] at HLG⊢;have hka:Kn w4 (w4.alloc (.cells #[.string nm,.string es,.bool false] TCl)):=(Qb _ _).alloc _;have HO4:=Qh ((hov.out.kn hk4).kn hka);have HBL:Hid ((w4.alloc (.cells #[.string nm,.string es,.bool false] TCl)).heap[w4.heap.size]? =some (.cells #[.string nm,.string es,.bool false] TCl (0,0))):=Qh (Qf _ _);have HKA:=Qh hka;have hw4:=hkn4.size;clear hnm hov hka;go_wp2_with (first|(at_builtin;go_must (refine QG _ rfl (.tmp 18) (.tmp 25) 110 rfl w.heap.size TCl ie (.agg #[.string ByteArray.empty,.string ByteArray.empty,.bool false]) 3 40 Tryz.underlying110 HIE.out.1 HIE.out.2.1 HIE.out.2.2.1 HIE.out.2.2.2 (by rfl) (by decide) v (((litC R).take k).map clL) rfl HO4.out w4.heap.size 1 rfl #[.string nm,.string es,.bool false] TCl (0,0) HBL.out rfl (by simp[Value.oneCell']) (by rw[List.length_map,List.length_take,Yn];simp only[maxLen];omega) (by rw[List.length_map,List.length_take,Yn];omega) (by rw[size_alloc'];omega) ?_;intro v1 w5 hown hkap hat;have HOW:=Qh hown;have HKP:=Qh (hkap.mono (T:=fun i=>w.heap.size≤i) (fun i hi e=>(HO4.out.lt i e.symm).1));clear hown hkap hat)))
   have hkn5:Kn w _:=(hkn4.trans HKA.out).trans' HKP.out (fun i hi e=>by omega);have HO5:Hid (OwnK w5 w.heap.size TCl 3 v1 (((litC R).take (k+1)).map clL)):=Qh (by
    rw[List.take_succ_eq_append_getElem (by rw[Yn];exact hlt),List.map_append,HLG.out];exact HOW.out)
   go_roundw
   case rel=>exact⟨k+1,v1,rfl,by go_num,by omega,HO5,hkn5⟩
   case measure=>simp[intOf];omega
  ·obtain rfl:k=R.lits.length:=by omega
   have ho:=hov.out;rw[List.take_of_length_le (by rw[Yn];exact Nat.le_refl _)] at ho;have HO:=Qh ho;have q1r:=Qd hkn q1;have hcr:=HC.out.kn hkn;rw[HV1.out] at hcr;have HCR:=Qh hcr;have hws:=hkn.size;clear hov ho q1 hcr;by_cases hc0:R.cls=[]
   ·have hE:Hid (QA R=litC R):=Qh (by unfold QA;rw[hc0,List.append_nil]);have ha1:(Value.slice a1 R.cls.length c1)= .slice none 0 0∨∃g,a1=some ⟨g,0,none⟩:=by
     rcases HCR.out.2 with⟨h1,_⟩|⟨g,cap,cur,h1,_⟩
     ·exact .inl h1
     ·injection h1 with h1;exact .inr ⟨g,h1⟩
    rcases ha1 with ha1|⟨g,rfl⟩
    ·rw[ha1] at q1r;clear hc0;go_wp2_with (first|(at_builtin;go_must (refine wpList_append_own_none rfl (.tmp 28) (.tmp 32) 110 rfl w.heap.size TCl ie 3 Tryz.underlying110 HIE.out.1 v _ _ rfl HO.out rfl ?_)))
     go_ret;exact⟨v,rfl,by rw[hE.out];exact HO.out,hkn⟩
    ·have hcl0:R.cls.length=0:=by rw[hc0];try rfl
     clear hc0;go_wp2_with (first|(at_builtin;go_must (refine wpList_append_own _ rfl (.tmp 28) (.tmp 32) 110 rfl w.heap.size TCl ie (.agg #[.string ByteArray.empty,.string ByteArray.empty,.bool false]) 3 40 Tryz.underlying110 HIE.out.1 HIE.out.2.1 HIE.out.2.2.1 HIE.out.2.2.2 (by rfl) (by decide) v _ _ rfl HO.out ⟨g,0,none⟩ 0 c1 [] rfl rfl (fun j u hj=>by simp at hj) (fun u hu=>by cases hu) (by rw[List.length_map,Yn];simp only[maxLen];omega) (by rw[List.length_map,Yn];omega) hws ?_;intro v1 w5 hown hgr hnn;have HOW:=Qh hown;have HGR:=Qh hgr;clear hown hgr hnn)))
     go_ret;refine⟨v1,rfl,?_,hkn.trans' (Kp.grownK HGR.out) (fun i hi e=>by have:=(HO.out.lt i e.symm).1;omega)⟩;rw[hE.out];have:=HOW.out;rw[List.append_nil] at this;exact this
   ·obtain⟨g,rfl,_,_,hcc⟩:=HG1.out (fun e=>hc0 (List.map_eq_nil_iff.1 e));have HNW:Hid (∀j u,(clC R.cls)[j]? =some u→wr.cell? ((⟨g,0,none⟩:Addr).add j)=some u):=Qh (fun j u hj=>HCR.out.cells rfl j u hj);clear hc0 hcc;go_wp2_with (first|(at_builtin;go_must (refine wpList_append_own _ rfl (.tmp 28) (.tmp 32) 110 rfl w.heap.size TCl ie (.agg #[.string ByteArray.empty,.string ByteArray.empty,.bool false]) 3 40 Tryz.underlying110 HIE.out.1 HIE.out.2.1 HIE.out.2.2.1 HIE.out.2.2.2 (by rfl) (by decide) v _ _ rfl HO.out ⟨g,0,none⟩ R.cls.length c1 (clC R.cls) rfl (clC_len _) HNW.out (clC_one _) (by rw[List.length_map,Yn];simp only[maxLen];omega) (by rw[List.length_map,Yn];omega) hws ?_;intro v1 w5 hown hgr hnn;have HOW:=Qh hown;have HGR:=Qh hgr;clear hown hgr hnn)))
    go_ret;refine⟨v1,rfl,?_,hkn.trans' (Kp.grownK HGR.out) (fun i hi e=>by have:=(HO.out.lt i e.symm).1;omega)⟩;have h1:=HOW.out;unfold OwnK QA;have e9:(R.cls.map clL).length=R.cls.length:=List.length_map _;rw[List.map_append,List.flatten_append,List.length_append,e9];exact h1
def finF(R:RS):Option (List GR×List (Nat×Nat)):=
 match R.linkGo R.lines [] [] with
 |none=>none
 |some r=>if R.sorts.length=0∨r.1.length=0 then none else if(QA R).length=0 then some r else if(QX (QA R)).isSome=true then some r else none
structure GrAt (w:World) (p:Nat) (R:RS) (rs:List GR) (br:List (Nat×Nat)):Prop where
 lk:∃B A kb vps,LkAt w B p R A kb rs vps br∧((QA R).length=0→A.sc= .pointer none)∧∀r,QX (QA R)=some r→∃ps:Nat,A.sc=ptr ps∧ScanAt w ps (QA R) r.2
 ok:RSok R
 rlen:rs.length≤120
theorem GrAt.kn{w w':World}{p:Nat}{R:RS}{rs:List GR}{br:List (Nat×Nat)}(h:GrAt w p R rs br)(hk:Kn w w'):GrAt w' p R rs br:=by
 obtain⟨⟨B,A,kb,vps,h1,h2,h3⟩,h4,h5⟩:=h;exact⟨⟨B,A,kb,vps,h1.kn hk,h2,fun r hr=>by obtain⟨ps,a,b⟩:=h3 r hr;exact⟨ps,a,b.kn hk⟩⟩,h4,h5⟩
theorem ScanAt.k1g{w w':World}{p ps:Nat}{cs:List GC}{l:List DS}{C:Array Value}(h:ScanAt w ps cs l)(hb:w.heap[p]? =some (.cells C TGr (0,0)))(hk:K1 p w w'):ScanAt w' ps cs l:=by
 have hS:=ty_one hb;obtain⟨pl,bn,vcl,B,h1,gof,n,vout,zs,h2,h3⟩:=h;refine⟨pl,bn,vcl,B,⟨Yw h1.blk hk hS (by decide),Qm h1.row hk hS (by decide),Qt h1.nms hk hS⟩,gof,n,vout,zs,h2.kp hk (fun e=> ?_) (fun e=> ?_) (fun g hg e=> ?_),h3⟩
 ·subst e;exact Qv hb h2.blk (by decide)
 ·subst e;have:=h2.of_;exact Qv hb this (by decide)
 ·subst e;obtain⟨cur,h4⟩:=h2.row.blkT hg;exact Qv hb h4 (by decide)
theorem LkAt.setSc{w:World}{B p:Nat}{R:RS}{A:RA}{kb:Nat}{rs:List GR}{vps:List Value}{br:List (Nat×Nat)}(h:LkAt w B p R A kb rs vps br)(v:Value):LkAt (w.setCell ⟨p,5,none⟩ v) B p R {A with sc:=v} kb rs vps br:=by
 have hk1:K1 p w (w.setCell ⟨p,5,none⟩ v):=Qg _ _;have hS1:=ty_one h.rd.blk;exact⟨h.rd.setSc v,h.bb,Qt h.brk hk1 hS1,h.ru.ty hk1 hS1 (by decide) (by decide),h.ne⟩
theorem clsOf_ok{R:RS}(ok:RSok R):∀x∈QA R,x.name.size≤1000000∧x.regex.size≤1099511627776:=by
 intro x hx;unfold QA at hx;rcases List.mem_append.1 hx with h|h
 ·obtain⟨i,hi,rfl⟩:=List.getElem_of_mem h;rw[Yn] at hi;have h1:=decB_le i (by have:=ok.lits;omega);have h2:=escF_le R.lits[i];have h3:=ok.litz _ (List.getElem_mem hi);rw[litC_get R i hi];refine⟨?_,?_⟩
  ·show((⟨#[108,105,116]⟩:ByteArray)++decB i).size≤_;rw[ByteArray.size_append];have:(⟨#[108,105,116]⟩:ByteArray).size=3:=rfl;omega
  ·show(escF R.lits[i]).size≤_;omega
 ·have:=ok.clz x h;omega
theorem clsR_own{w:World}{B g n c:Nat}{cs:List GC}(h:OwnK w B TCl 3 (.slice (some ⟨g,0,none⟩) n c) (cs.map clL)):ClsR w g cs:=by
 intro j u hj;have:=h.cells rfl j u hj;have hadd:(⟨g,0,none⟩:Addr).add j=⟨g,j,none⟩:=by unfold Addr.add;split<;>simp_all
 rwa[hadd] at this
def FinPost(B p:Nat)(R:RS)(w:World)(e:Ending)(w':World):Prop:=
 ∃k n:Int,e= .returned (.tuple #[.int .i64 k,.int .i64 n])∧Kp (fun i=>B≤i) w w'∧match finF R with|some r=>k=0∧n=0∧GrAt w' p R r.1 r.2|none=>n≠0
theorem finish_c{B p:Nat}{R:RS}{A0:RA}{w:World}(h:RdAt w B p R A0)(ok:RSok R)(hvr:A0.vr= .slice none 0 0)(hsc:A0.sc= .pointer none):
  Calls Tryz.prog 64 #[ptr p] w (FinPost B p R w):=by
 have HLN:=Qh (glink_c h ok hvr);have HF:Hid (finF R=match R.linkGo R.lines [] [] with
  |none=>none
  |some r=>if R.sorts.length=0∨r.1.length=0 then none else if(QA R).length=0 then some r else if(QX (QA R)).isSome=true then some r else none):=Qh rfl
 have HOK:=Qh ok;have HSC:=Qh hsc;clear h ok hvr hsc;go_enter Tryz.func64,Tryz.ntmps64;go_wp2_with fail
 refine HLN.out.mono ?_;rintro e w1 ⟨k,n,rfl,hk1,hm⟩;cases hl:R.linkGo R.lines [] [] with
 |none=>
  rw[hl] at hm;dsimp only at hm;have hn2:(n==0)=false:=by rw[beq_eq_false_iff_ne];exact hm
  have hF2:Hid (finF R=none):=Qh (by rw[HF.out,hl]);have HN0:=Qh hm;have HK1:=Qh hk1;clear hl hm hk1;go_wp2_with fail
  go_ret2
  refine⟨k,n,rfl,HK1.out,?_⟩;rw[hF2.out];exact HN0.out
 |some r=>
  rw[hl] at hm;obtain⟨rs,br⟩:=r;dsimp only at hm;obtain⟨rfl,A,kb,vps,hlk,h120,hsc⟩:=hm;have HF2:Hid (finF R=if R.sorts.length=0∨rs.length=0 then none else if(QA R).length=0 then some (rs,br) else if(QX (QA R)).isSome=true then some (rs,br) else none):=Qh (by rw[HF.out,hl]);have HL:=Qh hlk;have HA:=Qh (hsc.trans HSC.out);have HK1:=Qh hk1;obtain⟨os,oc,hv2,_⟩:=hlk.rd.sorts.look;obtain⟨og,ocg,hvg,_⟩:=hlk.ru.row.row (fun C hC=>by obtain⟨i,hi,rfl⟩:=List.getElem_of_mem hC;simp[ruL]);rw[List.length_zipWith,hlk.ru.len,Nat.min_self] at hvg;obtain⟨_,_,q2,q3,_⟩:=hlk.rd.cells;rw[hv2] at q2;rw[hvg] at q3;clear hl hlk hsc hk1 hv2 hvg HF HLN;by_cases h0:R.sorts.length=0
  ·have i0:((R.sorts.length:Int)==0)=true:=by simp[h0]
   have i0':(R.sorts.length:Int)=0:=by omega
   have hF3:Hid (finF R=none):=Qh (by rw[HF2.out,if_pos (.inl h0)]);clear h0 HF2;go_wp2_with fail
   go_ret2
   refine⟨0,12,rfl,HK1.out,?_⟩;rw[hF3.out];exact(by decide:(12:Int)≠0)
  ·have i0:((R.sorts.length:Int)==0)=false:=by rw[beq_eq_false_iff_ne];omega
   have i0':¬(R.sorts.length:Int)=0:=by omega
   by_cases h1:rs.length=0
   ·have j0:((rs.length:Int)==0)=true:=by simp[h1]
    have hF3:Hid (finF R=none):=Qh (by rw[HF2.out,if_pos (.inr h1)]);clear h0 h1 HF2;go_wp2_with fail
    go_ret2
    refine⟨0,12,rfl,HK1.out,?_⟩;rw[hF3.out];exact(by decide:(12:Int)≠0)
   ·have j0:((rs.length:Int)==0)=false:=by rw[beq_eq_false_iff_ne];omega
    have HF3:Hid (finF R=if(QA R).length=0 then some (rs,br) else if(QX (QA R)).isSome=true then some (rs,br) else none):=Qh (by rw[HF2.out,if_neg (by rintro(h|h);exact h0 h;exact h1 h)]);have HC1:=Qh (classes_c HL.out.rd HOK.out);have hcl:(QA R).length≤80:=by
     unfold QA;rw[List.length_append,Yn];have:=HOK.out.lits;have:=HOK.out.cls;omega
    clear h0 h1 HF2;go_wp2_with fail
    refine HC1.out.mono ?_;rintro e w2 ⟨v,rfl,hov,hk2⟩;obtain⟨a,c,rfl,_⟩:=hov.row (fun C hC=>by obtain⟨x,_,rfl⟩:=List.mem_map.1 hC;rfl);rw[List.length_map];have HK2:=Qh (HK1.out.trans (QO hk2));have HL2:=Qh (HL.out.kn hk2);clear hov hk2;by_cases h9:(QA R).length=0
    ·have k9:¬(0:Int)<(QA R).length:=by omega
     have k9':¬0<(QA R).length:=by omega
     have hF4:Hid (finF R=some (rs,br)):=Qh (by rw[HF3.out,if_pos h9]);have hS:Hid (QX (QA R)=none):=Qh (by unfold QX;rw[if_pos h9]);clear h9 HF3;go_wp2_with fail
     go_ret2
     refine⟨0,0,rfl,HK2.out,?_⟩;rw[hF4.out];exact⟨rfl,rfl,⟨B,A,kb,vps,HL2.out,fun _=>HA.out,fun r hr=>by rw[hS.out] at hr;cases hr⟩,HOK.out,h120⟩
    ·have k9:(0:Int)<(QA R).length:=by omega
     have k9':0<(QA R).length:=by omega
     have HF4:Hid (finF R=if(QX (QA R)).isSome=true then some (rs,br) else none):=Qh (by rw[HF3.out,if_neg h9]);have HN9:=Qh h9;have HC2:=Qh (classes_c HL2.out.rd HOK.out);clear h9 HF3;go_wp2_with fail
     refine HC2.out.mono ?_;rintro e w3 ⟨v,rfl,hov,hk3⟩;obtain⟨a3,c3,rfl,_,_,hg3⟩:=hov.row (fun C hC=>by obtain⟨x,_,rfl⟩:=List.mem_map.1 hC;rfl);obtain⟨g,rfl,_⟩:=hg3 (fun e=>HN9.out (by rw[List.map_eq_nil_iff.1 e];try rfl));have hcr:=clsR_own hov;have HSN:=Qh (scanNew_c g c3 (QA R) w3 hcr (by omega) (clsOf_ok HOK.out));rw[List.length_map];have HK3:=Qh (HK2.out.trans (QO hk3));have HL3:=Qh (HL2.out.kn hk3);clear hov hk3 hg3 hcr;go_wp2_with fail
     refine HSN.out.mono ?_;rintro e w4 ⟨hk4,hp⟩;have HK4:=Qh (HK3.out.trans (QO hk4));have HL4:=Qh (HL3.out.kn hk4);cases hsf:QX (QA R) with
     |none=>
      rw[hsf] at hp;dsimp only at hp;obtain⟨k,n,hn,rfl⟩:=hp;have hn2:(n==0)=false:=by rw[beq_eq_false_iff_ne];exact hn
      have hF5:Hid (finF R=none):=Qh (by rw[HF4.out,hsf];try rfl);clear hsf hn HF4;go_wp2_with fail
      go_ret2
      refine⟨0,3,rfl,HK4.out,?_⟩;rw[hF5.out];exact(by decide:(3:Int)≠0)
     |some r=>
      rw[hsf] at hp;dsimp only at hp;obtain⟨ps,rfl,_,hsa⟩:=hp;have hF5:Hid (finF R=some (rs,br)):=Qh (by rw[HF4.out,hsf];try rfl);have HSF:=Qh hsf;have HSA:=Qh hsa;have q5:w4.cell? ⟨p,5,none⟩=some (.pointer none):=by obtain⟨_,_,_,_,_,q,_⟩:=HL4.out.rd.cells;rw[HA.out] at q;exact q
      have f5:=HL4.out.rd.fr 5;clear hsf hsa HF4 q2 q3;go_wp2_with fail
      go_ret2
      obtain⟨w5,hw5⟩:∃z,z=w4.setCell ⟨p,5,none⟩ (ptr ps):=⟨_,rfl⟩;have hk5:K1 p w4 w5:=by rw[hw5];exact Qg _ _
      have hL5:=HL4.out.setSc (ptr ps);rw[←hw5] at hL5⊢;refine⟨0,0,rfl,HK4.out.trans (hk5.mono (fun i hi e=>by have:=HL4.out.rd.pB.1;omega)),?_⟩;rw[hF5.out];refine⟨rfl,rfl,⟨B,_,kb,vps,hL5,fun h=>absurd h HN9.out,fun r2 hr2=>⟨ps,rfl,?_⟩⟩,HOK.out,h120⟩;rw[HSF.out] at hr2;injection hr2 with hr2;subst hr2;exact HSA.out.k1g HL4.out.rd.blk hk5
open Go.Shelf Go.RowKit Go.Maps
def litV(o:Option ByteArray):Value:=match o with|some s=> .tuple #[.string s,.bool true]|none=> .tuple #[.string ByteArray.empty,.bool false]
theorem literal_at{B p:Nat}{R:RS}{A:RA}{w:World}(h:RdAt w B p R A)(ok:RSok R)(i:Nat):
  Calls Tryz.prog 102 #[ptr p,.int .i64 i] w fun e w'=>e= .returned (litV R.lits[i]?)∧w=w':=by
 have hl:=ok.lits;obtain⟨a2,c2,hv2,_,_,hg2⟩:=h.lits.look;obtain⟨q1,_⟩:=h.cells;rw[hv2] at q1;have hpl:=h.lt;by_cases hi:i<R.lits.length
 ·obtain⟨g,rfl,_,_,hc⟩:=hg2 (fun e=>by rw[e] at hi;simp at hi);have c0:=hc i hi;have hE:R.lits[i]? =some R.lits[i]:=List.getElem?_eq_getElem hi;obtain⟨s,hs⟩:∃s,s=R.lits[i]:=⟨_,rfl⟩;rw[←hs] at c0 hE;have HE:=Qh hE;obtain⟨n,hn⟩:∃n,n=R.lits.length:=⟨_,rfl⟩;rw[←hn] at hi q1 hl;clear h ok hv2 hg2 hc hs hn hE;go_enter Tryz.func102,Tryz.ntmps102;go_wp2_with fail
  go_ret2
  exact⟨by rw[HE.out];try rfl,rfl⟩
 ·have HE:Hid (R.lits[i]? =none):=Qh (List.getElem?_eq_none (by omega));obtain⟨n,hn⟩:∃n,n=R.lits.length:=⟨_,rfl⟩;rw[←hn] at hi q1 hl;clear h ok hv2 hg2 hn;go_enter Tryz.func102,Tryz.ntmps102;go_wp2_with fail
  go_ret2
  exact⟨by rw[HE.out];try rfl,rfl⟩
theorem scanner_at{B p:Nat}{R:RS}{A:RA}{w:World}(h:RdAt w B p R A):
  Calls Tryz.prog 58 #[ptr p] w fun e w'=>e= .returned A.sc∧w=w':=by
 have q5:w.cell? ⟨p,5,none⟩=some A.sc:=by rw[Qa h.blk];try rfl
 have hpl:=h.lt;obtain⟨v,hv⟩:∃v,v=A.sc:=⟨_,rfl⟩;rw[←hv] at q5⊢;clear h hv;go_enter Tryz.func58,Tryz.ntmps58;go_wp2_with fail
 go_ret;exact⟨rfl,rfl⟩
end Go.Proofs.YtiehgcfckhepaaaGreatDoor
