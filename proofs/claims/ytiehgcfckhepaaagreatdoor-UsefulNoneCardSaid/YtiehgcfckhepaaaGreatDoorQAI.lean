/-
  Texts of this claim, laid together: GTake, GTake2, GIdx, GPart2, GLkMem, TMem, TPlace, TBits, TSt, TBegin, TFirst. Conditions: none.
-/
import Derived.Test.YtiehgcfckhepaaaGreatDoorQAH
import Derived.Test.YtiehgcfckhepaaaGreatDoorQAG
set_option linter.unusedVariables false
set_option linter.unusedSimpArgs false
set_option maxRecDepth 100000
set_option maxHeartbeats 16000000
namespace Go.Proofs.YtiehgcfckhepaaaGreatDoor
open Go.RowKit Go.Maps
theorem token_nil{p c:Nat}{a:Option Addr}{w:World}(lay:Bool):
  Calls Tryz.prog 107 #[ptr p,.slice a 0 c,.bool lay] w fun e w'=>e= .returned (.int .i64 4)∧w'=w:=by
 go_enter Tryz.func107,Tryz.ntmps107;go_wp2_with fail
 go_ret;exact⟨rfl,rfl⟩
theorem sort_nil{p c:Nat}{a:Option Addr}{w:World} :
  Calls Tryz.prog 108 #[ptr p,.slice a 0 c] w fun e w'=>e= .returned (.int .i64 4)∧w'=w:=by
 go_enter Tryz.func108,Tryz.ntmps108;go_wp2_with fail
 go_ret;exact⟨rfl,rfl⟩
theorem rule_nil{p c num:Nat}{a:Option Addr}{w:World} :
  Calls Tryz.prog 109 #[ptr p,.int .i64 num,.slice a 0 c] w fun e w'=>e= .returned (.int .i64 4)∧w'=w:=by
 go_enter Tryz.func109,Tryz.ntmps109;go_wp2_with fail
 go_ret;exact⟨rfl,rfl⟩
theorem bracket_nil{p c num:Nat}{a:Option Addr}{w:World} :
  Calls Tryz.prog 110 #[ptr p,.int .i64 num,.slice a 0 c] w fun e w'=>e= .returned (.int .i64 4)∧w'=w:=by
 go_enter Tryz.func110,Tryz.ntmps110;go_wp2_with fail
 go_ret;exact⟨rfl,rfl⟩
theorem splitW_len(s:ByteArray):(splitW s).length=Lib.countB s spB+1:=Lib.splitB_all spB (by decide) 0 _ s rfl
theorem extract_le(s:ByteArray)(a b:Nat):(s.extract a b).size≤s.size:=by
 show(s.extract a b).data.size≤s.data.size;rw[ByteArray.data_extract];simp;omega
theorem splitB_size(sep:ByteArray)(sv:Nat):∀(k:Nat) (s:ByteArray),∀x∈Lib.splitB sep sv k s,x.size≤s.size
 |0,s=>fun x hx=>by simp[Lib.splitB] at hx;subst hx;exact Nat.le_refl _
 |k+1,s=>fun x hx=>by
  unfold Lib.splitB at hx;split at hx
  ·simp at hx;subst hx;exact Nat.le_refl _
  ·rcases List.mem_cons.1 hx with h|h
   ·subst h;exact extract_le _ _ _
   ·exact Nat.le_trans (splitB_size sep sv k _ x h) (extract_le _ _ _)
theorem splitW_size(s:ByteArray):∀x∈splitW s,x.size≤s.size:=splitB_size spB 0 _ s
theorem countB_le1(s:ByteArray):Lib.countB s spB≤s.size:=by
 have:=Lib.countB_le spB (by decide) s.size s (Nat.le_refl _);simpa using this
theorem split_c(s:ByteArray)(w:World)(h:MaxLenAt w)(hs:s.size≤1000000000):
  Calls Tryz.prog 106 #[.string s,.string ⟨#[32]⟩] w fun e w'=>e= .returned (.slice (some ⟨w.heap.size,0,none⟩) (splitW s).length (splitW s).length)∧w'=w.alloc (.cells ((splitW s).map Value.string).toArray TS):=by
 obtain⟨m,hm⟩:=h;rw[splitW_len];exact Tryz.strings_Split s ⟨#[32]⟩ m w (by omega) hm (by decide)
theorem ErrPost.none{B p:Nat}{A:RA}{o:Option RS}{w w':World}{n:Int}(ho:o=none)(hn:n≠0)(hk:Kp (fun k=>B≤k) w w'):ErrPost B p A o w (.returned (.int .i64 n)) w':=by
 subst ho;exact⟨n,rfl,hk,hn⟩
theorem RS.take_words{R:RS}{n:Nat}{s h:ByteArray}{l:List ByteArray}(h0:¬s.size=0)(h1:¬bt s 0=35)(hw:splitW s=h::l):
  R.take n s=if h=tokenB then R.token l false else if h=layoutB then R.token l true else if h=sortB then R.sort_ l
   else if h=ruleB then R.rule n l else if h=bracketB then R.bracket n l else none:=by
 unfold RS.take;rw[if_neg (by rintro(h2|h2);exact h0 h2;exact h1 h2),hw]
theorem take_c{B p num:Nat}{R:RS}{A:RA}{w:World}(s:ByteArray)(h:RdAt w B p R A)(ok:RSok R)(hm:MaxLenAt w)(hs:s.size≤1000000)(hnum:num≤2000000):
  Calls Tryz.prog 63 #[ptr p,.int .i64 num,.string s] w (ErrPost B p A (R.take num s) w):=by
 by_cases h0:s.size=0
 ·have he:=isE_true h0;have hF:Hid (R.take num s=some R):=Qh (by unfold RS.take;rw[if_pos (.inl h0)]);have H:=Qh (And.intro h ok);clear h ok h0;go_enter Tryz.func63,Tryz.ntmps63;go_wp2_with fail
  go_ret;refine⟨0,rfl,Qb _ _,?_⟩;rw[hF.out];exact⟨rfl,H.out.2,A,H.out.1,rfl,rfl⟩
 ·have he:=Ys h0;have hlt:0<s.size:=by omega
  have hlt':(0:Int)<s.size:=by omega
  have hE:=bt_in hlt;by_cases h1:bt s 0=35
  ·have i1:(((s[0].toNat:Nat):Int)==35)=true:=by rw[←hE];simp[h1]
   have hF:Hid (R.take num s=some R):=Qh (by unfold RS.take;rw[if_pos (.inr h1)]);have H:=Qh (And.intro h ok);clear h ok h1 hE;go_enter Tryz.func63,Tryz.ntmps63;go_wp2_with fail
   go_ret;refine⟨0,rfl,Qb _ _,?_⟩;rw[hF.out];exact⟨rfl,H.out.2,A,H.out.1,rfl,rfl⟩
  ·have i1:(((s[0].toNat:Nat):Int)==35)=false:=by rw[←hE];simp;omega
   obtain⟨hd,l,hsp⟩:∃hd l,splitW s=hd::l:=by
    have:=splitW_len s;cases hx:splitW s with
    |nil=>rw[hx] at this;simp at this
    |cons a l=>exact⟨a,l,rfl⟩
   have HSZ:Hid (∀x∈hd::l,x.size≤1000000):=Qh (fun x hx=>by have:=splitW_size s x (by rw[hsp];exact hx);omega);have hlen:l.length≤1000000:=by
    have e1:=splitW_len s;have e2:=countB_le1 s;rw[hsp] at e1;simp at e1;omega
   have hF:=RS.take_words (R:=R) (n:=num) h0 h1 hsp;have hSP:=split_c s w hm (by omega);rw[hsp] at hSP;simp only[List.length_cons] at hSP;obtain⟨bl,hbl⟩:∃z,z=w.heap.size:=⟨_,rfl⟩;obtain⟨w1,hw1⟩:∃z,z=w.alloc (.cells ((hd::l).map Value.string).toArray TS):=⟨_,rfl⟩;rw[←hbl,←hw1] at hSP;have HSP:=Qh hSP;have hk1:Kn w w1:=by rw[hw1];exact(Qb _ _).alloc _
   have hbb:w1.heap[bl]? =some (.cells ((hd::l).map Value.string).toArray TS (0,0)):=by rw[hw1,hbl];exact Qf _ _
   have x0:w1.cell? ⟨bl,0,none⟩=some (.string hd):=by rw[Qa hbb];try rfl
   have HWL:Hid (WL w1 bl 1 l):=Qh (fun i hi=>by
    rw[Qa hbb,List.getElem?_toArray,List.getElem?_map,show 1+i=i+1 by omega,List.getElem?_cons_succ,List.getElem?_eq_getElem hi];try rfl)
   have HO:Hid (Off A p bl):=Qh ⟨by have:=h.lt;omega,fun g hg=>by have:=(h.lits.lt g hg).2;omega,fun g hg=>by have:=(h.sorts.lt g hg).2;omega,by have:=h.names.lt;omega,by have:=h.cons.lt;omega,by have:=h.rounds.lt;omega⟩;have HR:=Qh (h.kn hk1);have HM:=Qh (hm.kn hk1);have HOK:=Qh ok;have HK1:=Qh hk1;have HF:=Qh hF;clear h ok hm hF hSP hbl hw1 hk1 hbb hsp h1 h0 hE;by_cases h1:hd=tokenB
   ·have c1:(hd.toList==[116,111,107,101,110])=true:=by rw[YI];exact decide_eq_true h1
    have hF2:Hid (R.take num s=R.token l false):=Qh (by rw[HF.out,if_pos h1]);clear h1;by_cases hl0:l=[]
    ·subst hl0;have hF3:Hid (R.take num s=none):=Qh (by rw[hF2.out];exact R.token_not [] _ (by simp));simp only[List.length_nil,Nat.zero_add] at HSP;go_enter Tryz.func63,Tryz.ntmps63;go_wp2_with fail
     refine HSP.out.mono ?_;rintro e9 w9 ⟨rfl,rfl⟩;go_wp2_with fail
     refine(token_nil (p:=p) (c:=0) false).mono ?_;rintro e9 w8 ⟨rfl,rfl⟩;go_wp2_with fail
     go_ret;exact ErrPost.none hF3.out (by decide) (QY HK1.out)
    ·have hl1:0<l.length:=List.length_pos_iff.2 hl0;have hl2:¬l.length=0:=by omega
     have hl3:(0:Int)<l.length:=by omega
     clear hl0;go_enter Tryz.func63,Tryz.ntmps63;go_wp2_with fail
     refine HSP.out.mono ?_;rintro e9 w9 ⟨rfl,rfl⟩;go_wp2_with fail
     refine(token_c (c:=l.length) l false HR.out HOK.out HWL.out HO.out (by omega) (fun x hx=>by have:=HSZ.out x (by simp[hx]);omega)).mono ?_;rintro e9 w8 ⟨n9,rfl,hkz,hmz⟩;go_wp2_with fail
     go_ret;refine⟨n9,rfl,(QY HK1.out).trans hkz,?_⟩;rw[hF2.out];exact hmz
   ·have c1:(hd.toList==[116,111,107,101,110])=false:=by rw[YI];exact decide_eq_false h1
    by_cases h2:hd=layoutB
    ·have c2:(hd.toList==[108,97,121,111,117,116])=true:=by rw[YI];exact decide_eq_true h2
     have hF2:Hid (R.take num s=R.token l true):=Qh (by rw[HF.out,if_neg h1,if_pos h2]);clear h2 h1;by_cases hl0:l=[]
     ·subst hl0;have hF3:Hid (R.take num s=none):=Qh (by rw[hF2.out];exact R.token_not [] _ (by simp));simp only[List.length_nil,Nat.zero_add] at HSP;go_enter Tryz.func63,Tryz.ntmps63;go_wp2_with fail
      refine HSP.out.mono ?_;rintro e9 w9 ⟨rfl,rfl⟩;go_wp2_with fail
      refine(token_nil (p:=p) (c:=0) true).mono ?_;rintro e9 w8 ⟨rfl,rfl⟩;go_wp2_with fail
      go_ret;exact ErrPost.none hF3.out (by decide) (QY HK1.out)
     ·have hl1:0<l.length:=List.length_pos_iff.2 hl0;have hl2:¬l.length=0:=by omega
      have hl3:(0:Int)<l.length:=by omega
      clear hl0;go_enter Tryz.func63,Tryz.ntmps63;go_wp2_with fail
      refine HSP.out.mono ?_;rintro e9 w9 ⟨rfl,rfl⟩;go_wp2_with fail
      refine(token_c (c:=l.length) l true HR.out HOK.out HWL.out HO.out (by omega) (fun x hx=>by have:=HSZ.out x (by simp[hx]);omega)).mono ?_;rintro e9 w8 ⟨n9,rfl,hkz,hmz⟩;go_wp2_with fail
      go_ret;refine⟨n9,rfl,(QY HK1.out).trans hkz,?_⟩;rw[hF2.out];exact hmz
    ·have c2:(hd.toList==[108,97,121,111,117,116])=false:=by rw[YI];exact decide_eq_false h2
     by_cases h3:hd=sortB
     ·have c3:(hd.toList==[115,111,114,116])=true:=by rw[YI];exact decide_eq_true h3
      have hF2:Hid (R.take num s=R.sort_ l):=Qh (by rw[HF.out,if_neg h1,if_neg h2,if_pos h3]);clear h3 h1 h2;by_cases hl0:l=[]
      ·subst hl0;have hF3:Hid (R.take num s=none):=Qh (by rw[hF2.out];exact rfl);simp only[List.length_nil,Nat.zero_add] at HSP;go_enter Tryz.func63,Tryz.ntmps63;go_wp2_with fail
       refine HSP.out.mono ?_;rintro e9 w9 ⟨rfl,rfl⟩;go_wp2_with fail
       refine(sort_nil (p:=p) (c:=0)).mono ?_;rintro e9 w8 ⟨rfl,rfl⟩;go_wp2_with fail
       go_ret;exact ErrPost.none hF3.out (by decide) (QY HK1.out)
      ·have hl1:0<l.length:=List.length_pos_iff.2 hl0;have hl2:¬l.length=0:=by omega
       have hl3:(0:Int)<l.length:=by omega
       clear hl0;go_enter Tryz.func63,Tryz.ntmps63;go_wp2_with fail
       refine HSP.out.mono ?_;rintro e9 w9 ⟨rfl,rfl⟩;go_wp2_with fail
       refine(sort_c (c:=l.length) l HR.out HOK.out HWL.out HO.out (by omega) (fun x hx=>by have:=HSZ.out x (by simp[hx]);omega)).mono ?_;rintro e9 w8 ⟨n9,rfl,hkz,hmz⟩;go_wp2_with fail
       go_ret;refine⟨n9,rfl,(QY HK1.out).trans hkz,?_⟩;rw[hF2.out];exact hmz
     ·have c3:(hd.toList==[115,111,114,116])=false:=by rw[YI];exact decide_eq_false h3
      by_cases h4:hd=ruleB
      ·have c4:(hd.toList==[114,117,108,101])=true:=by rw[YI];exact decide_eq_true h4
       have hF2:Hid (R.take num s=R.rule num l):=Qh (by rw[HF.out,if_neg h1,if_neg h2,if_neg h3,if_pos h4]);clear h4 h1 h2 h3;by_cases hl0:l=[]
       ·subst hl0;have hF3:Hid (R.take num s=none):=Qh (by rw[hF2.out];exact R.rule_short num [] (by simp));simp only[List.length_nil,Nat.zero_add] at HSP;go_enter Tryz.func63,Tryz.ntmps63;go_wp2_with fail
        refine HSP.out.mono ?_;rintro e9 w9 ⟨rfl,rfl⟩;go_wp2_with fail
        refine(rule_nil (p:=p) (c:=0) (num:=num)).mono ?_;rintro e9 w8 ⟨rfl,rfl⟩;go_wp2_with fail
        go_ret;exact ErrPost.none hF3.out (by decide) (QY HK1.out)
       ·have hl1:0<l.length:=List.length_pos_iff.2 hl0;have hl2:¬l.length=0:=by omega
        have hl3:(0:Int)<l.length:=by omega
        clear hl0;go_enter Tryz.func63,Tryz.ntmps63;go_wp2_with fail
        refine HSP.out.mono ?_;rintro e9 w9 ⟨rfl,rfl⟩;go_wp2_with fail
        refine(grule_c (c0:=l.length) (num:=num) l HR.out HOK.out HM.out HWL.out HO.out (by omega) (Nat.le_refl _) (fun x hx=>HSZ.out x (by simp[hx])) hnum).mono ?_;rintro e9 w8 ⟨n9,rfl,hkz,hmz⟩;go_wp2_with fail
        go_ret;refine⟨n9,rfl,(QY HK1.out).trans hkz,?_⟩;rw[hF2.out];exact hmz
      ·have c4:(hd.toList==[114,117,108,101])=false:=by rw[YI];exact decide_eq_false h4
       by_cases h5:hd=bracketB
       ·have c5:(hd.toList==[98,114,97,99,107,101,116])=true:=by rw[YI];exact decide_eq_true h5
        have hF2:Hid (R.take num s=R.bracket num l):=Qh (by rw[HF.out,if_neg h1,if_neg h2,if_neg h3,if_neg h4,if_pos h5]);clear h5 h1 h2 h3 h4;by_cases hl0:l=[]
        ·subst hl0;have hF3:Hid (R.take num s=none):=Qh (by rw[hF2.out];exact R.bracket_not num [] (by simp));simp only[List.length_nil,Nat.zero_add] at HSP;go_enter Tryz.func63,Tryz.ntmps63;go_wp2_with fail
         refine HSP.out.mono ?_;rintro e9 w9 ⟨rfl,rfl⟩;go_wp2_with fail
         refine(bracket_nil (p:=p) (c:=0) (num:=num)).mono ?_;rintro e9 w8 ⟨rfl,rfl⟩;go_wp2_with fail
         go_ret;exact ErrPost.none hF3.out (by decide) (QY HK1.out)
        ·have hl1:0<l.length:=List.length_pos_iff.2 hl0;have hl2:¬l.length=0:=by omega
         have hl3:(0:Int)<l.length:=by omega
         clear hl0;go_enter Tryz.func63,Tryz.ntmps63;go_wp2_with fail
         refine HSP.out.mono ?_;rintro e9 w9 ⟨rfl,rfl⟩;go_wp2_with fail
         refine(bracket_c (c0:=l.length) (num:=num) l HR.out HOK.out HWL.out HO.out (by omega) (fun x hx=>HSZ.out x (by simp[hx])) hnum).mono ?_;rintro e9 w8 ⟨n9,rfl,hkz,hmz⟩;go_wp2_with fail
         go_ret;refine⟨n9,rfl,(QY HK1.out).trans hkz,?_⟩;rw[hF2.out];exact hmz
       ·have c5:(hd.toList==[98,114,97,99,107,101,116])=false:=by rw[YI];exact decide_eq_false h5
        have hF2:Hid (R.take num s=none):=Qh (by rw[HF.out,if_neg h1,if_neg h2,if_neg h3,if_neg h4,if_neg h5]);clear h1 h2 h3 h4 h5;go_enter Tryz.func63,Tryz.ntmps63;go_wp2_with fail
        refine HSP.out.mono ?_;rintro e9 w9 ⟨rfl,rfl⟩;go_wp2_with fail
        go_ret;exact ErrPost.none hF2.out (by decide) (QY HK1.out)
def clIdx(cs:List GC)(x:ByteArray)(k:Nat):Prop:=∀j (h:j<cs.length),j<k→cs[j].name≠x
theorem str_eq2(a b:ByteArray):(a.toList==b.toList)=decide (a=b):=by
 rw[YI];congr 1;rw[Lib.toList_data]
theorem class1_c{bx:Nat}{w:World}(c:GC)(x:ByteArray)(hb:w.heap[bx]? =some (.cells #[.string x] TS (0,0))):
  Calls Tryz.prog 253 #[.agg #[.string c.name,.string c.regex,.bool c.layout],.pointer (some ⟨bx,0,none⟩)] w fun e w'=>e= .returned (.bool (decide (c.name=x)))∧Kn w w':=by
 have c0:w.cell? ⟨bx,0,none⟩=some (.string x):=by rw[Qa hb];try rfl
 have hl:=Ql hb;have hE:=Qh (str_eq2 c.name x);clear hb;go_enter Tryz.func253,Tryz.ntmps253;go_wp2_with fail
 go_ret;exact⟨by rw[←hE.out];try rfl,(Qb _ _).alloc _⟩
def idxC(cs:List GC)(x:ByteArray):Int:=match cs.findIdx? (fun c=>decide (c.name=x)) with|some i=>(i:Int)|none=> -1
theorem clIdx_some{cs:List GC}{x:ByteArray}{k:Nat}(h:clIdx cs x k)(hk:k<cs.length)(hx:cs[k].name=x):cs.findIdx? (fun c=>decide (c.name=x))=some k:=by
 rw[List.findIdx?_eq_some_iff_getElem];exact⟨hk,decide_eq_true hx,fun j hj=>by simpa using h j (by omega) hj⟩
theorem clIdx_none{cs:List GC}{x:ByteArray}(h:clIdx cs x cs.length):cs.findIdx? (fun c=>decide (c.name=x))=none:=by
 rw[List.findIdx?_eq_none_iff];intro c hc;obtain⟨j,hj,rfl⟩:=List.getElem_of_mem hc;exact decide_eq_false (h j hj hj)
theorem indexFunc_c{B bx:Nat}{v:Value}{cs:List GC}{w:World}(x:ByteArray)(h:OwnK w B TCl 3 v (cs.map clL))(hb:w.heap[bx]? =some (.cells #[.string x] TS (0,0)))(hl:cs.length≤1000):
  Calls Tryz.prog 252 #[v,.func (.func 253) #[] #[.pointer (some ⟨bx,0,none⟩)]] w fun e w'=>e= .returned (.int .i64 (idxC cs x))∧Kn w w':=by
 obtain⟨a,c,rfl,_,_,hg⟩:=h.row (fun C hC=>by obtain⟨x,_,rfl⟩:=List.mem_map.1 hC;rfl);rw[List.length_map] at*;have H:=Qh h;have HB:=Qh hb;clear h hb;go_enter Tryz.func252,Tryz.ntmps252;go_wp2_with fail
 go_loopw [8] (fun s8 wr=>∃k:Nat,s8= .int .i64 k∧k≤cs.length∧Hid (clIdx cs x k)∧Kn w wr) (fun s8 _=>cs.length-(intOf s8).toNat)
 case atStart=>exact⟨0,rfl,Nat.zero_le _,Qh (fun j h1 h2=>by omega),Qb _ _⟩
 case round=>
  obtain⟨k,rfl,hk,hno,hkn⟩:=hrel;by_cases hlt:k<cs.length
  ·obtain⟨g,rfl,_,_,hcs⟩:=hg (fun e=>by rw[List.map_eq_nil_iff] at e;subst e;simp at hlt);have h3:=hcs k (by simpa using hlt);have c0:wr.cell? ⟨g,k*3,none⟩=some (.string cs[k].name):=by
    have:=(h3 0 (by omega)).1;rw[show 0+3*k+0=k*3 by omega] at this;refine Qc hkn ?_;rw[this];simp[clL]
   have c1:wr.cell? ⟨g,k*3+1,none⟩=some (.string cs[k].regex):=by
    have:=(h3 1 (by omega)).1;rw[show 0+3*k+1=k*3+1 by omega] at this;refine Qc hkn ?_;rw[this];simp[clL]
   have c2:wr.cell? ⟨g,k*3+2,none⟩=some (.bool cs[k].layout):=by
    have:=(h3 2 (by omega)).1;rw[show 0+3*k+2=k*3+2 by omega] at this;refine Qc hkn ?_;rw[this];simp[clL]
   obtain⟨y,hy⟩:∃y,y=cs[k]:=⟨_,rfl⟩;rw[←hy] at c0 c1 c2;have HC1:=Qh (class1_c y x (hkn.blk HB.out (fun x=>x)));have HY:=Qh hy;clear hy hcs h3;by_cases hx:y.name=x
   ·have hF:Hid (idxC cs x=(k:Nat)):=Qh (by unfold idxC;rw[clIdx_some hno.out hlt (by rw[←HY.out];exact hx)]);rw[decide_eq_true hx] at HC1;clear hx;go_wp2_with fail
    refine HC1.out.mono ?_;rintro e w4 ⟨rfl,hk4⟩;have hkn4:=hkn.trans hk4;go_wp2_with fail
    go_ret;exact⟨by rw[hF.out];try rfl,hkn4⟩
   ·have hN:Hid (clIdx cs x (k+1)):=Qh (fun j h1 h2=>by
     rcases Nat.lt_succ_iff_lt_or_eq.1 h2 with h|h
     ·exact hno.out j h1 h
     ·subst h;rw[←HY.out];exact hx)
    rw[decide_eq_false hx] at HC1;clear hx;go_wp2_with fail
    refine HC1.out.mono ?_;rintro e w4 ⟨rfl,hk4⟩;have hkn4:=hkn.trans hk4;go_wp2_with fail
    go_roundw
    case rel=>exact⟨k+1,by go_num,by omega,hN,hkn4⟩
    case measure=>simp[intOf];omega
  ·obtain rfl:k=cs.length:=by omega
   have hF:Hid (idxC cs x= -1):=Qh (by unfold idxC;rw[clIdx_none hno.out]);go_wp2_with fail
   go_ret;exact⟨by rw[hF.out];try rfl,hkn⟩
def clsV(R:RS)(x:ByteArray):Value:= .tuple #[.int .i64 ((R.lits.length:Int)+idxC R.cls x),.bool (decide (0≤idxC R.cls x))]
theorem idxC_ge(cs:List GC)(x:ByteArray): -1≤idxC cs x∧idxC cs x<cs.length:=by
 unfold idxC;split
 ·rename_i i h;obtain⟨h1,_⟩:=List.findIdx?_eq_some_iff_getElem.1 h;omega
 ·omega
theorem gclass_c{B p:Nat}{R:RS}{A:RA}{w:World}(x:ByteArray)(h:RdAt w B p R A)(ok:RSok R):
  Calls Tryz.prog 210 #[ptr p,.string x] w fun e w'=>e= .returned (clsV R x)∧Kn w w':=by
 obtain⟨a1,c1,hv1,_⟩:=h.cls.row (fun C hC=>by obtain⟨x,_,rfl⟩:=List.mem_map.1 hC;rfl);obtain⟨a0,c0,hv0,_⟩:=h.lits.look;rw[List.length_map] at hv1;have hk1:Kn w (w.alloc (.cells #[.string x] TS)):=(Qb _ _).alloc _;have hb:(w.alloc (.cells #[.string x] TS)).heap[w.heap.size]? =some (.cells #[.string x] TS (0,0)):=Qf _ _;obtain⟨w1,hw1⟩:∃z,z=w.alloc (.cells #[.string x] TS):=⟨_,rfl⟩;obtain⟨bx,hbx⟩:∃z,z=w.heap.size:=⟨_,rfl⟩;rw[←hw1,←hbx] at hb;rw[←hw1] at hk1;have hr1:=h.kn hk1;have hcl:=hr1.cls;rw[hv1] at hcl;have HIX:=Qh (indexFunc_c x hcl hb (by have:=ok.cls;omega));obtain⟨_,q1,_⟩:=hr1.cells;rw[hv1] at q1;have HR1:=Qh hr1;have HW:=Qh (And.intro hw1 hbx);have HV0:=Qh hv0;have hl:=ok.lits;have hc:=ok.cls;have hmf:∀(fn:Fn) (first cap:Array Value) (w:World),(Instr.makeFunc fn first cap).run Tryz.prog w= .ok (.func fn first cap) w:=fun _ _ _ _=>rfl
 have HRL:=Qh hl;clear h ok hv1 hb hw1 hbx hr1 hcl hv0;go_enter Tryz.func210,Tryz.ntmps210;go_upto_region 1 with fail
 rw[←HW.out.1,←HW.out.2];obtain⟨ix,hix⟩:∃ix,ix=idxC R.cls x:=⟨_,rfl⟩;have hge:=idxC_ge R.cls x;rw[←hix] at hge HIX;have HVV:Hid (clsV R x= .tuple #[.int .i64 ((R.lits.length:Int)+ix),.bool (decide (0≤ix))]):=Qh (by rw[hix];try rfl);clear hix;go_wp2_with fail
 refine HIX.out.mono ?_;rintro e w2 ⟨rfl,hk2⟩;have HK:=Qh (hk1.trans hk2);obtain⟨q0,_⟩:=(HR1.out.kn hk2).cells;rw[HV0.out] at q0;go_wp2_with fail
 go_ret2
 exact⟨by rw[HVV.out];try rfl,HK.out⟩
abbrev paV(q:GP):Value:= .agg #[.int .i64 q.cls,.int .i64 q.sort,.int .i64 q.level,.bool q.fixed]
def Part2Post(R:RS)(x:GW)(w:World)(e:Ending)(w':World):Prop:=
 Kn w w'∧∃(q:GP) (ok:Bool),e= .returned (.tuple #[paV q,.bool ok])∧match R.part x with|some q'=>ok=true∧q=q'|none=>ok=false
theorem part_sort{R:RS}{x:GW}(h0:x.lit.size=0)(h1:x.sort=true):R.part x=if 0≤Lib.idxOfS R.sorts x.name then some ⟨-1,Lib.idxOfS R.sorts x.name,x.level,false⟩ else none:=by
 unfold RS.part;rw[if_neg (by simp[h0]),if_pos h1]
theorem part_lit{R:RS}{x:GW}(h0:¬x.lit.size=0):R.part x=some ⟨Lib.idxOfS R.lits x.lit,-1,0,true⟩:=by
 unfold RS.part;rw[if_pos h0]
theorem part_cls{R:RS}{x:GW}(h0:x.lit.size=0)(h1:x.sort=false):(∃i:Nat,idxC R.cls x.name=i∧R.part x=some ⟨(R.lits.length+i:Nat),-1,0,false⟩)∨(idxC R.cls x.name= -1∧R.part x=none):=by
 unfold RS.part idxC;rw[if_neg (by simp[h0]),if_neg (by simp[h1])];cases R.cls.findIdx? (fun c=>decide (c.name=x.name)) with
 |some i=>exact .inl ⟨i,rfl,rfl⟩
 |none=>exact .inr ⟨rfl,rfl⟩
theorem part2_c{B p:Nat}{R:RS}{A:RA}{w:World}(x:GW)(h:RdAt w B p R A)(ok:RSok R):
  Calls Tryz.prog 160 #[ptr p,wdV x] w (Part2Post R x w):=by
 obtain⟨a0,c0,hv0,_⟩:=h.lits.look;obtain⟨a2,c2,hv2,_⟩:=h.sorts.look;have hl40:=ok.lits;obtain⟨bx,hbx⟩:∃z,z=w.heap.size:=⟨_,rfl⟩;obtain⟨b4,hb4⟩:∃z,z=w.heap.size+1:=⟨_,rfl⟩;obtain⟨w1,hw1⟩:∃z,z=(w.alloc (.cells #[.string x.lit,.string x.name,.int .i64 x.level,.bool x.sort] TWd)).alloc (.cells #[.int .i64 0,.int .i64 0,.int .i64 0,.bool false] TPa):=⟨_,rfl⟩;have hk1:Kn w w1:=by rw[hw1];exact((Qb _ _).alloc _).alloc _
 have hbb:w1.heap[bx]? =some (.cells #[.string x.lit,.string x.name,.int .i64 x.level,.bool x.sort] TWd (0,0)):=by rw[hw1,hbx];exact Qr (Qf _ _) _
 have hbr:w1.heap[b4]? =some (.cells #[.int .i64 0,.int .i64 0,.int .i64 0,.bool false] TPa (0,0)):=by
  have:=Qf (w.alloc (.cells #[.string x.lit,.string x.name,.int .i64 x.level,.bool x.sort] TWd)) (.cells #[.int .i64 0,.int .i64 0,.int .i64 0,.bool false] TPa);rw[size_alloc',←hb4,←hw1] at this;exact this
 have hr1:=h.kn hk1;obtain⟨q0,_,q2,_⟩:=hr1.cells;rw[hv0] at q0;rw[hv2] at q2;have d0:w1.cell? ⟨bx,0,none⟩=some (.string x.lit):=by rw[Qa hbb];try rfl
 have d1:w1.cell? ⟨bx,1,none⟩=some (.string x.name):=by rw[Qa hbb];try rfl
 have d2:w1.cell? ⟨bx,2,none⟩=some (.int .i64 x.level):=by rw[Qa hbb];try rfl
 have d3:w1.cell? ⟨bx,3,none⟩=some (.bool x.sort):=by rw[Qa hbb];try rfl
 have hol:=hr1.lits;have hos:=hr1.sorts;rw[hv0] at hol;rw[hv2] at hos;have HIL:=Qh (fun W (hk:Kn w1 W)=>index_c (w:=W) (QG hol hk (fun _ _ x=>x)) x.lit (by have:=ok.lits;omega));have HIS:=Qh (fun W (hk:Kn w1 W)=>index_c (w:=W) (QG hos hk (fun _ _ x=>x)) x.name (by have:=ok.sorts;omega));have HCL:=Qh (gclass_c x.name hr1 ok);have HW:=Qh (And.intro hw1 (And.intro hbx hb4));have HBR:=Qh hbr;have hnp:p≠b4:=by have:=h.lt;omega
 have hnx:bx≠b4:=by omega
 have HNW:=Qh (show w.heap.size≤b4 by omega);have HK1:=Qh hk1;have HB0:Hid (b4=w.heap.size+1):=Qh hb4;clear h ok hw1 hbx hb4 hbb hbr hr1 hol hos hk1 hv0 hv2;by_cases h0:x.lit.size=0
 ·have he:=isE_true h0;cases hso:x.sort with
  |true=>
   rw[hso] at d3;have hF:=part_sort (R:=R) h0 hso;obtain⟨ix,hix⟩:∃z,z=Lib.idxOfS R.sorts x.name:=⟨_,rfl⟩;rw[←hix] at hF HIS;have HF:=Qh hF;clear h0 hso hF hix;go_enter Tryz.func160,Tryz.ntmps160;go_upto_region 1 with fail
   rw[←HB0.out,←HW.out.1,←HW.out.2.1];go_wp2_with fail
   refine wp_region_held_drew (S:=fun w'=>w'.cell? ⟨p,2,none⟩=some (.slice a2 R.sorts.length c2)∧w'.cell? ⟨bx,1,none⟩=some (.string x.name)) (by kernel_rfl) ⟨Qc ((Qb _ _).drew) q2,Qc ((Qb _ _).drew) d1⟩ (fun hHeld=> ?_);obtain⟨wd,hwd⟩:∃zz,zz=w1.drew:=⟨_,rfl⟩;have hkd:Kn w1 wd:=by rw[hwd];exact(Qb _ _).drew
   rw[←hwd] at hHeld⊢;clear hwd;refine TW 0 23 ?_;refine TW 1 24 ?_;refine TW 2 25 ?_;refine TW 3 26 ?_;refine TH 4 27 ?_;refine TW 5 28 ?_;refine TH 6 29 ?_;refine RH 7 (fun K hK=> ?_);go_simp
   go_at_call 159
   refine(HIS.out wd hkd).mono ?_;rintro e9 w9 ⟨rfl,hw9⟩;rw[hw9];clear hw9 w9;dsimp only;refine hK.out _ _ hHeld (fun hHeld=> ?_);clear hK K
   try simp only[PP]
   refine TW 8 6 ?_;refine RD ?_;have x2l:=hHeld;clear hHeld;have hbd:=hkd.blk HBR.out (fun x=>x);have x0:wd.cell? ⟨b4,0,none⟩=some (.int .i64 0):=by rw[Qa hbd];try rfl
   have x1:wd.cell? ⟨b4,1,none⟩=some (.int .i64 0):=by rw[Qa hbd];try rfl
   have x2:wd.cell? ⟨b4,2,none⟩=some (.int .i64 0):=by rw[Qa hbd];try rfl
   have x3:wd.cell? ⟨b4,3,none⟩=some (.bool false):=by rw[Qa hbd];try rfl
   have f0:=Qd hbd 0;have f1:=Qd hbd 1;have f2:=Qd hbd 2;have f3:=Qd hbd 3;have e2:wd.cell? ⟨bx,2,none⟩=some (.int .i64 x.level):=Qc hkd d2;have hk13:=HK1.out.trans hkd;have HNW2:=HNW.out;clear x2l hbd d0 d1 d2 d3 q0 q2;go_wp2_with fail
   (try simp only[Exit.inBlock,Exit.then])
   refine bodyPost_ret (v:= .tuple #[paV ⟨-1,ix,x.level,false⟩,.bool (decide (0≤ix))]) (by rw[results_cell_tmp rfl];go_simp;try first|rfl|exact⟨rfl,rfl,rfl,rfl⟩) rfl ⟨?_,_,_,rfl,?_⟩
   ·(repeat' (first|exact hk13|refine Kp.drew ?_|refine Kp.setCell ?_ (fun hp=>by have hp2:b4<w.heap.size:=hp;omega) _))
   ·rw[HF.out];by_cases h9:0≤ix
    ·rw[if_pos h9];exact⟨decide_eq_true h9,rfl⟩
    ·rw[if_neg h9];exact decide_eq_false h9
  |false=>
   rw[hso] at d3;have hF:=part_cls (R:=R) h0 hso;have hge:=idxC_ge R.cls x.name;obtain⟨ix,hix⟩:∃z,z=idxC R.cls x.name:=⟨_,rfl⟩;have HVV:Hid (clsV R x.name= .tuple #[.int .i64 ((R.lits.length:Int)+ix),.bool (decide (0≤ix))]):=Qh (by rw[hix];try rfl);rw[HVV.out] at HCL;rw[←hix] at hF hge;have HF:=Qh hF;clear h0 hso hF hix HVV;go_enter Tryz.func160,Tryz.ntmps160;go_upto_region 1 with fail
   rw[←HB0.out,←HW.out.1,←HW.out.2.1];go_wp2_with fail
   refine HCL.out.mono ?_;rintro e9 w3 ⟨rfl,hk3⟩;have hb3:=hk3.blk HBR.out (fun x=>x);have x0:w3.cell? ⟨b4,0,none⟩=some (.int .i64 0):=by rw[Qa hb3];try rfl
   have x1:w3.cell? ⟨b4,1,none⟩=some (.int .i64 0):=by rw[Qa hb3];try rfl
   have x2:w3.cell? ⟨b4,2,none⟩=some (.int .i64 0):=by rw[Qa hb3];try rfl
   have x3:w3.cell? ⟨b4,3,none⟩=some (.bool false):=by rw[Qa hb3];try rfl
   have f0:=Qd hb3 0;have f1:=Qd hb3 1;have f2:=Qd hb3 2;have f3:=Qd hb3 3;have hk13:=HK1.out.trans hk3;have HNW2:=HNW.out;clear hb3 d0 d1 d2 d3 q0 q2;go_wp2_with fail
   (try simp only[Exit.inBlock,Exit.then])
   refine bodyPost_ret (v:= .tuple #[paV ⟨(R.lits.length:Int)+ix,-1,0,false⟩,.bool (decide (0≤ix))]) (by rw[results_cell_tmp rfl];go_simp;try first|rfl|exact⟨rfl,rfl,rfl,rfl⟩) rfl ⟨?_,_,_,rfl,?_⟩
   ·(repeat' (first|exact hk13|refine Kp.drew ?_|refine Kp.setCell ?_ (fun hp=>by have hp2:b4<w.heap.size:=hp;omega) _))
   ·rcases HF.out with⟨i,h1,h2⟩|⟨h1,h2⟩
    ·rw[h2,h1];exact⟨by simp,by simp⟩
    ·rw[h2,h1];try rfl
 ·have he:=Ys h0;have hF:=part_lit (R:=R) h0;obtain⟨ix,hix⟩:∃z,z=Lib.idxOfS R.lits x.lit:=⟨_,rfl⟩;rw[←hix] at hF HIL;have HF:=Qh hF;clear h0 hF hix;go_enter Tryz.func160,Tryz.ntmps160;go_upto_region 1 with fail
  rw[←HB0.out,←HW.out.1,←HW.out.2.1];go_wp2_with fail
  refine wp_region_held_drew (S:=fun w'=>True) (by kernel_rfl) trivial (fun hHeld=> ?_);obtain⟨wd,hwd⟩:∃zz,zz=w1.drew:=⟨_,rfl⟩;have hkd:Kn w1 wd:=by rw[hwd];exact(Qb _ _).drew
  rw[←hwd];clear hwd;refine TW 0 12 ?_;refine TW 1 13 ?_;refine TW 2 14 ?_;refine TW 3 15 ?_;refine TW 5 17 ?_;refine RH2 4 6 (fun K hK=> ?_) (fun K hK=> ?_)
  ·have xq:wd.cell? ⟨p,0,none⟩=some (.slice a0 R.lits.length c0):=Qc hkd q0;go_simp;clear xq;refine hK.out _ _ trivial (fun hHeld=> ?_);clear hK K
   try simp only[PP]
   refine RH 6 (fun K hK=> ?_);have xq:wd.cell? ⟨bx,0,none⟩=some (.string x.lit):=Qc hkd d0;go_simp;clear xq;refine hK.out _ _ trivial (fun hHeld=> ?_);clear hK K
   try simp only[PP]
   refine RH 7 (fun K hK=> ?_);go_simp
   go_at_call 159
   refine(HIL.out wd hkd).mono ?_;rintro e9 w9 ⟨rfl,hw9⟩;rw[hw9];clear hw9 w9;dsimp only;refine hK.out _ _ trivial (fun hHeld=> ?_);clear hK K
   try simp only[PP]
   refine TW 8 20 ?_;refine RH 9 (fun K hK=> ?_);have hbd:=hkd.blk HBR.out (fun x=>x);have x0:wd.cell? ⟨b4,0,none⟩=some (.int .i64 0):=by rw[Qa hbd];try rfl
   have x1:wd.cell? ⟨b4,1,none⟩=some (.int .i64 0):=by rw[Qa hbd];try rfl
   have x2:wd.cell? ⟨b4,2,none⟩=some (.int .i64 0):=by rw[Qa hbd];try rfl
   have x3:wd.cell? ⟨b4,3,none⟩=some (.bool false):=by rw[Qa hbd];try rfl
   have f0:=Qd hbd 0;have f1:=Qd hbd 1;have f2:=Qd hbd 2;have f3:=Qd hbd 3;go_simp;refine hK.out _ _ trivial (fun hHeld=> ?_);clear hK K
   try simp only[PP]
   refine TW 10 5 ?_;refine RD ?_;clear hHeld;have hk13:=HK1.out.trans hkd;have HNW2:=HNW.out;go_wp2_with fail
   (try simp only[Exit.inBlock,Exit.then])
   refine bodyPost_ret (v:= .tuple #[paV ⟨ix,-1,0,true⟩,.bool true]) (by rw[results_cell_tmp rfl];go_simp;try first|rfl|exact⟨rfl,rfl,rfl,rfl⟩) rfl ⟨?_,_,_,rfl,?_⟩
   ·(repeat' (first|exact hk13|refine Kp.drew ?_|refine Kp.setCell ?_ (fun hp=>by have hp2:b4<w.heap.size:=hp;omega) _))
   ·rw[HF.out];exact⟨rfl,rfl⟩
  ·have xq:wd.cell? ⟨bx,0,none⟩=some (.string x.lit):=Qc hkd d0;go_simp;clear xq;refine hK.out _ _ trivial (fun hHeld=> ?_);clear hK K
   try simp only[PP]
   refine RH 4 (fun K hK=> ?_);have xq:wd.cell? ⟨p,0,none⟩=some (.slice a0 R.lits.length c0):=Qc hkd q0;go_simp;clear xq;refine hK.out _ _ trivial (fun hHeld=> ?_);clear hK K
   try simp only[PP]
   refine RH 7 (fun K hK=> ?_);go_simp
   go_at_call 159
   refine(HIL.out wd hkd).mono ?_;rintro e9 w9 ⟨rfl,hw9⟩;rw[hw9];clear hw9 w9;dsimp only;refine hK.out _ _ trivial (fun hHeld=> ?_);clear hK K
   try simp only[PP]
   refine TW 8 20 ?_;refine RH 9 (fun K hK=> ?_);have hbd:=hkd.blk HBR.out (fun x=>x);have x0:wd.cell? ⟨b4,0,none⟩=some (.int .i64 0):=by rw[Qa hbd];try rfl
   have x1:wd.cell? ⟨b4,1,none⟩=some (.int .i64 0):=by rw[Qa hbd];try rfl
   have x2:wd.cell? ⟨b4,2,none⟩=some (.int .i64 0):=by rw[Qa hbd];try rfl
   have x3:wd.cell? ⟨b4,3,none⟩=some (.bool false):=by rw[Qa hbd];try rfl
   have f0:=Qd hbd 0;have f1:=Qd hbd 1;have f2:=Qd hbd 2;have f3:=Qd hbd 3;go_simp;refine hK.out _ _ trivial (fun hHeld=> ?_);clear hK K
   try simp only[PP]
   refine TW 10 5 ?_;refine RD ?_;clear hHeld;have hk13:=HK1.out.trans hkd;have HNW2:=HNW.out;go_wp2_with fail
   (try simp only[Exit.inBlock,Exit.then])
   refine bodyPost_ret (v:= .tuple #[paV ⟨ix,-1,0,true⟩,.bool true]) (by rw[results_cell_tmp rfl];go_simp;try first|rfl|exact⟨rfl,rfl,rfl,rfl⟩) rfl ⟨?_,_,_,rfl,?_⟩
   ·(repeat' (first|exact hk13|refine Kp.drew ?_|refine Kp.setCell ?_ (fun hp=>by have hp2:b4<w.heap.size:=hp;omega) _))
   ·rw[HF.out];exact⟨rfl,rfl⟩
def paL(q:GP):List Value:=[.int .i64 q.cls,.int .i64 q.sort,.int .i64 q.level,.bool q.fixed]
def ruL(r:GR)(v:Value):List Value:=[.int .i64 r.sort,.string r.cons,.int .i64 r.level,v]
def brM(m:List (Nat×Nat)):KV:=m.map (fun p=>(Value.int .i64 (p.1:Nat),Value.int .i64 (p.2:Nat)))
abbrev TI:TypeId:=3
theorem brM_mem{m:List (Nat×Nat)}{p:Value×Value} :p∈brM m↔∃q∈m,p=(.int .i64 (q.1:Nat),.int .i64 (q.2:Nat)):=by
 unfold brM;rw[List.mem_map];exact⟨fun⟨s,h,e⟩=>⟨s,h,e.symm⟩,fun⟨s,h,e⟩=>⟨s,h,e.symm⟩⟩
theorem int_keyOf(x:Nat)(h:x≤1000000):∃l,keyOf Tryz.prog TI (.int .i64 (x:Nat))=some l:=⟨_,keyOf_int_mk Tryz.underlying3 (by
 simp[Lit.wf,IntKind.min,IntKind.max,IntKind.signed,IntKind.bits];omega)⟩
theorem brPut_map{w:World}{kb:Nat}{m:List (Nat×Nat)}(x v:Nat)(hx:x≤1000000)(h:MapA w TI kb (brM m)):
  ∃w',(Instr.mapUpdate 129 (.map (some kb)) (.int .i64 (x:Nat)) (.int .i64 (v:Nat))).run Tryz.prog w= .ok () w'∧MapA w' TI kb (brM (brPut m x v))∧K1 kb w w':=by
 obtain⟨lx,hlx⟩:=int_keyOf x hx;unfold brPut;cases hf:m.findIdx? (fun p=>decide (p.1=x)) with
 |none=>
  have hn:∀p∈brM m,p.1≠Value.int .i64 (x:Nat):=by
   intro p hp e;obtain⟨q,hq,rfl⟩:=brM_mem.1 hp;have h1:=List.findIdx?_eq_none_iff.1 hf q hq;have e2:((q.1:Nat):Int)=(x:Nat):=by injection e
   exact absurd (by omega:q.1=x) (of_decide_eq_false h1)
  obtain⟨w',h1,h2,h3⟩:=h.put0 (int_keyed Tryz.underlying3) Tryz.underlying129 hlx hn (.int .i64 (v:Nat));exact⟨w',h1,by simpa[brM] using h2,h3⟩
 |some j=>
  obtain⟨hj,he,_⟩:=List.findIdx?_eq_some_iff_getElem.1 hf;have he2:m[j].1=x:=of_decide_eq_true he;have hmem:(Value.int .i64 (x:Nat),Value.int .i64 (m[j].2:Nat))∈brM m:=brM_mem.2 ⟨m[j],List.getElem_mem hj,by rw[he2]⟩;have hnd:((brM m).map (·.1)).Nodup:=by obtain⟨_,_,_,_,hd,_⟩:=h;exact hd
  obtain⟨w',j2,h1,h2,h3,h4⟩:=h.put1 (int_keyed Tryz.underlying3) Tryz.underlying129 hlx hmem (.int .i64 (v:Nat));have hj2:j2=j:=by
   have hl2:j2<(brM m).length:=(List.getElem?_eq_some_iff.1 h2).1;have e1:((brM m).map (·.1))[j2]? =some (.int .i64 (x:Nat)):=by rw[List.getElem?_map,h2];try rfl
   have e2:((brM m).map (·.1))[j]? =some (.int .i64 (x:Nat)):=by
    rw[List.getElem?_map];unfold brM;rw[List.getElem?_map,List.getElem?_eq_getElem hj];simp[he2]
   exact(List.getElem?_inj (by simpa using hl2) hnd).1 (e1.trans e2.symm)
  subst hj2;exact⟨w',h1,by simpa[brM,List.map_set] using h3,h4⟩
structure RuAt (w:World) (B:Nat) (vr:Value) (rs:List GR) (vps:List Value):Prop where
 row:OwnK w B TRu 4 vr (List.zipWith ruL rs vps)
 len:vps.length=rs.length
 parts:∀i (h:i<vps.length) (h':i<rs.length),OwnK w B TPa 4 vps[i] (rs[i].parts.map paL)
theorem RuAt.kn{w w':World}{B:Nat}{vr:Value}{rs:List GR}{vps:List Value}(h:RuAt w B vr rs vps)(hk:Kn w w'):RuAt w' B vr rs vps:=⟨h.row.kn hk,h.len,fun i a b=>(h.parts i a b).kn hk⟩
theorem RuAt.ty{S:Nat→Prop}{X:TypeId}{w w':World}{B:Nat}{vr:Value}{rs:List GR}{vps:List Value}(h:RuAt w B vr rs vps)(hk:Kp S w w')(hS:Ty S w X)(h1:X≠TRu)(h2:X≠TPa):RuAt w' B vr rs vps:=⟨Qk h.row hk hS h1,h.len,fun i a b=>Qk (h.parts i a b) hk hS h2⟩
theorem RuAt.tym{S:Nat→Prop}{w w':World}{B:Nat}{vr:Value}{rs:List GR}{vps:List Value}(h:RuAt w B vr rs vps)(hk:Kp S w w')(hS:TyM S w):RuAt w' B vr rs vps:=⟨Qx h.row hk hS,h.len,fun i a b=>Qx (h.parts i a b) hk hS⟩
theorem RuAt.snoc{w w1:World}{B:Nat}{vr v1 vp:Value}{rs:List GR}{vps:List Value}(h:RuAt w B vr rs vps){r:GR}(hp:OwnK w B TPa 4 vp (r.parts.map paL))(hr:OwnK w1 B TRu 4 v1 (List.zipWith ruL rs vps++[ruL r vp]))(hk:Kp (fun k=>some k=vr.ownBlock) w w1):
  RuAt w1 B v1 (rs++[r]) (vps++[vp]):=by
 have hS:=QR h.row;refine⟨?_,by simp[h.len],fun i a b=> ?_⟩
 ·have e:List.zipWith ruL (rs++[r]) (vps++[vp])=List.zipWith ruL rs vps++[ruL r vp]:=by rw[List.zipWith_append h.len.symm];try rfl
  rw[e];exact hr
 ·have hl:=h.len;by_cases hi:i<vps.length
  ·have:=Qk (h.parts i hi (by omega)) hk hS (by decide);rw[List.getElem_append_left hi];simp only[List.getElem_append_left (show i<rs.length by omega)];exact this
  ·have ei:i=vps.length:=by simp at a;omega
   subst ei;have:=Qk hp hk hS (by decide);rw[List.getElem_append_right (Nat.le_refl _)];simp only[List.getElem_append_right (show rs.length≤vps.length by omega),Nat.sub_self,List.getElem_singleton,show vps.length-rs.length=0 by omega];exact this
structure LkAt (w:World) (B p:Nat) (R:RS) (A:RA) (kb:Nat) (rs:List GR) (vps:List Value) (br:List (Nat×Nat)):Prop where
 rd:RdAt w B p R A
 bb:A.bb= .map (some kb)
 brk:MapA w TI kb (brM br)
 ru:RuAt w B A.vr rs vps
 ne:B≤kb∧kb≠A.bn∧kb≠A.bc∧kb≠A.br
theorem LkAt.kn{w w':World}{B p:Nat}{R:RS}{A:RA}{kb:Nat}{rs:List GR}{vps:List Value}{br:List (Nat×Nat)}(h:LkAt w B p R A kb rs vps br)(hk:Kn w w'):LkAt w' B p R A kb rs vps br:=⟨h.rd.kn hk,h.bb,h.brk.kn hk,h.ru.kn hk,h.ne⟩
theorem LkAt.blk{w:World}{B p:Nat}{R:RS}{A:RA}{kb:Nat}{rs:List GR}{vps:List Value}{br:List (Nat×Nat)}(h:LkAt w B p R A kb rs vps br):w.heap[p]? =some (.cells (rdC A) TGr (0,0)):=h.rd.blk
theorem LkAt.lt{w:World}{B p:Nat}{R:RS}{A:RA}{kb:Nat}{rs:List GR}{vps:List Value}{br:List (Nat×Nat)}(h:LkAt w B p R A kb rs vps br):p<w.heap.size:=h.rd.lt
theorem LkAt.pB{w:World}{B p:Nat}{R:RS}{A:RA}{kb:Nat}{rs:List GR}{vps:List Value}{br:List (Nat×Nat)}(h:LkAt w B p R A kb rs vps br):B≤p∧B≤A.bn∧B≤A.bc∧B≤A.br:=h.rd.pB
theorem step_putbr{w:World}{kb:Nat}{m:List (Nat×Nat)}{ops:Array Oper}{o:Oper}{a:Act}{K:Act→World→Prop}{Q:Exit→Act→World→Prop}{E:Prop}(hg:o.guard=none)(mo xo vo:Operand)(hop:o.op=Op.mapUpdate 129 mo xo vo)
  (hm:a.eval mo= .map (some kb)) (h:MapA w TI kb (brM m)) (x v:Nat) (hx9:x≤1000000) (hx:a.eval xo= .int .i64 (x:Nat)) (hv:a.eval vo= .int .i64 (v:Nat))
  (hK:∀w',MapA w' TI kb (brM (brPut m x v))→K1 kb w w'→K (a.put o.dst undef) w'):if Region.wanted o (yielded ops a.tmps)=true then Oper.wp Tryz.prog o a w K Q else E:=by
 have hw:Region.wanted o (yielded ops a.tmps)=true:=by simp[Region.wanted,hg]
 rw[if_pos hw];obtain⟨w',hr,h1,h2⟩:=brPut_map x v hx9 h;unfold Oper.wp;simp[execOp,hop,hm,hx,hv,hr,Result.andThen];exact hK w' h1 h2
theorem RdAt.setVr{w:World}{B p:Nat}{R:RS}{A:RA}(h:RdAt w B p R A)(v:Value):RdAt (w.setCell ⟨p,3,none⟩ v) B p R {A with vr:=v} :=by
 have hk1:K1 p w (w.setCell ⟨p,3,none⟩ v):=Qg _ _;have hS1:=QO h.blk;exact⟨by have:=Qj h.blk 3 v;simpa[rdC] using this,Qk h.lits hk1 hS1 (by decide),Qk h.cls hk1 hS1 (by decide),Qk h.sorts hk1 hS1 (by decide),Qs h.names hk1 hS1,Qs h.cons hk1 hS1,Qs h.rounds hk1 hS1,
  Qk h.lines hk1 hS1 (by decide),h.wl,fun i a b=>Qk (h.words i a b) hk1 hS1 (by decide),h.ne1,h.ne2,h.pB⟩
theorem RdAt.setBb{w:World}{B p:Nat}{R:RS}{A:RA}(h:RdAt w B p R A)(v:Value):RdAt (w.setCell ⟨p,4,none⟩ v) B p R {A with bb:=v} :=by
 have hk1:K1 p w (w.setCell ⟨p,4,none⟩ v):=Qg _ _;have hS1:=QO h.blk;exact⟨by have:=Qj h.blk 4 v;simpa[rdC] using this,Qk h.lits hk1 hS1 (by decide),Qk h.cls hk1 hS1 (by decide),Qk h.sorts hk1 hS1 (by decide),Qs h.names hk1 hS1,Qs h.cons hk1 hS1,Qs h.rounds hk1 hS1,
  Qk h.lines hk1 hS1 (by decide),h.wl,fun i a b=>Qk (h.words i a b) hk1 hS1 (by decide),h.ne1,h.ne2,h.pB⟩
theorem RdAt.setSc{w:World}{B p:Nat}{R:RS}{A:RA}(h:RdAt w B p R A)(v:Value):RdAt (w.setCell ⟨p,5,none⟩ v) B p R {A with sc:=v} :=by
 have hk1:K1 p w (w.setCell ⟨p,5,none⟩ v):=Qg _ _;have hS1:=QO h.blk;exact⟨by have:=Qj h.blk 5 v;simpa[rdC] using this,Qk h.lits hk1 hS1 (by decide),Qk h.cls hk1 hS1 (by decide),Qk h.sorts hk1 hS1 (by decide),Qs h.names hk1 hS1,Qs h.cons hk1 hS1,Qs h.rounds hk1 hS1,
  Qk h.lines hk1 hS1 (by decide),h.wl,fun i a b=>Qk (h.words i a b) hk1 hS1 (by decide),h.ne1,h.ne2,h.pB⟩
theorem RdAt.ty{S:Nat→Prop}{X:TypeId}{w w':World}{B p:Nat}{R:RS}{A:RA}(h:RdAt w B p R A)(hk:Kp S w w')(hS:Ty S w X)(h1:X≠TGr)(h2:X≠TS)(h3:X≠TCl)(h4:X≠TLn)(h5:X≠TWd):RdAt w' B p R A:=
 ⟨QA h.blk hk hS h1,Qk h.lits hk hS h2,Qk h.cls hk hS h3,Qk h.sorts hk hS h2,Qs h.names hk hS,Qs h.cons hk hS,Qs h.rounds hk hS,Qk h.lines hk hS h4,h.wl,fun i a b=>Qk (h.words i a b) hk hS h5,h.ne1,h.ne2,h.pB⟩
theorem RdAt.tym{w w':World}{B p kb:Nat}{R:RS}{A:RA}{m:KV}(h:RdAt w B p R A)(hk:K1 kb w w')(hm:MapA w TI kb m)(hn:kb≠A.bn∧kb≠A.bc∧kb≠A.br):RdAt w' B p R A:=by
 have hS:=YY hm;exact⟨blk_tym h.blk hk hS,Qx h.lits hk hS,Qx h.cls hk hS,Qx h.sorts hk hS,h.names.kp hk (fun e=>hn.1 e.symm),h.cons.kp hk (fun e=>hn.2.1 e.symm),h.rounds.kp hk (fun e=>hn.2.2 e.symm),Qx h.lines hk hS,h.wl,fun i a b=>Qx (h.words i a b) hk hS,h.ne1,h.ne2,h.pB⟩
theorem LkAt.putRule{w w1:World}{B p:Nat}{R:RS}{A:RA}{kb:Nat}{rs:List GR}{vps:List Value}{br:List (Nat×Nat)}{v1 vp:Value}{r:GR}(h:LkAt w B p R A kb rs vps br)(hp:OwnK w B TPa 4 vp (r.parts.map paL))(hr:OwnK w1 B TRu 4 v1 (List.zipWith ruL rs vps++[ruL r vp]))(hk:Kp (fun k=>some k=A.vr.ownBlock) w w1):
  LkAt (w1.setCell ⟨p,3,none⟩ v1) B p R {A with vr:=v1} kb (rs++[r]) (vps++[vp]) br:=by
 have hS:=QR h.ru.row;have h1:=h.rd.ty hk hS (by decide) (by decide) (by decide) (by decide) (by decide);have hk1:K1 p w1 (w1.setCell ⟨p,3,none⟩ v1):=Qg _ _;have hS1:=QO h1.blk;exact⟨h1.setVr v1,h.bb,Qs (Qs h.brk hk hS) hk1 hS1,(h.ru.snoc hp hr hk).ty hk1 hS1 (by decide) (by decide),h.ne⟩
theorem LkAt.putBr{w w':World}{B p:Nat}{R:RS}{A:RA}{kb:Nat}{rs:List GR}{vps:List Value}{br:List (Nat×Nat)}{br':List (Nat×Nat)}(h:LkAt w B p R A kb rs vps br)(hm:MapA w' TI kb (brM br'))(hk:K1 kb w w'):LkAt w' B p R A kb rs vps br':=
 ⟨h.rd.tym hk h.brk h.ne.2,h.bb,hm,h.ru.tym hk (YY h.brk),h.ne⟩
theorem lines_cells{w:World}{B:Nat}{v:Value}{xs:List GL}{vws:List Value}(h:OwnK w B TLn 6 v (List.zipWith lnL xs vws))(hl:vws.length=xs.length):∃a c,v= .slice a xs.length c∧∀i (hi:i<xs.length) (hv:i<vws.length),∃g,a=some ⟨g,0,none⟩∧
  w.cell? ⟨g,i*6,none⟩=some (.int .i64 xs[i].number)∧w.cell? ⟨g,i*6+1,none⟩=some (.string xs[i].sort)∧w.cell? ⟨g,i*6+2,none⟩=some (.string xs[i].cons)∧w.cell? ⟨g,i*6+3,none⟩=some (.int .i64 xs[i].level)∧w.cell? ⟨g,i*6+4,none⟩=some vws[i]∧w.cell? ⟨g,i*6+5,none⟩=some (.bool xs[i].round):=by
 obtain⟨a,c,hv,_,_,h1⟩:=h.row (fun C hC=>by obtain⟨i,hi,rfl⟩:=List.getElem_of_mem hC;simp[lnL]);rw[List.length_zipWith,hl,Nat.min_self] at hv;refine⟨a,c,hv,fun i hi hv2=> ?_⟩;obtain⟨g,ha,_,_,h2⟩:=h1 (fun e=>by have:=congrArg List.length e;simp[hl] at this;subst this;simp at hi);have h3:=h2 i (by simp[hl];omega);have key:∀j,j<6→w.cell? ⟨g,i*6+j,none⟩=(lnL xs[i] vws[i])[j]? :=fun j hj=>by
  have:=(h3 j hj).1;rw[show 0+6*i+j=i*6+j by omega] at this;rw[this];simp
 exact⟨g,ha,(key 0 (by omega)).trans rfl,(key 1 (by omega)).trans rfl,(key 2 (by omega)).trans rfl,(key 3 (by omega)).trans rfl,(key 4 (by omega)).trans rfl,(key 5 (by omega)).trans rfl⟩
abbrev TSt:TypeId:=144
abbrev TPc:TypeId:=206
abbrev TSy:TypeId:=64
abbrev TPr:TypeId:=106
abbrev TBi:TypeId:=149
abbrev TIs:TypeId:=28
def pcV(p:Nat×Nat):Value:= .agg #[.int .i64 (p.1:Nat),.int .i64 (p.2:Nat)]
def pcL(p:Nat×Nat):List Value:=[.int .i64 (p.1:Nat),.int .i64 (p.2:Nat)]
def syL(y:SY):List Value:=[.bool y.place,.int .i64 y.n]
def prL(p:PR)(v:Value):List Value:=[.int .i64 (p.place:Nat),.int .i64 (p.rule:Nat),v]
def biV(l:List Nat):List Value:=l.map (fun x:Nat=>Value.int .u64 (x:Nat))
def pcM(ps:PL):KV:=ps.zipIdx.map (fun p=>(pcV p.1,Value.int .i64 (p.2:Nat)))
theorem pcM_mem{ps:PL}{p:Value×Value} :p∈pcM ps↔∃q i,ps[i]? =some q∧p=(pcV q,.int .i64 (i:Nat)):=by
 unfold pcM;rw[List.mem_map];constructor
 ·rintro⟨⟨q,i⟩,h,rfl⟩;exact⟨q,i,List.mem_zipIdx_iff_getElem?.1 h,rfl⟩
 ·rintro⟨q,i,h,rfl⟩;exact⟨(q,i),List.mem_zipIdx_iff_getElem?.2 h,rfl⟩
theorem pcM_snoc(ps:PL)(q:Nat×Nat):pcM (ps++[q])=pcM ps++[(pcV q,.int .i64 (ps.length:Nat))]:=by
 simp[pcM,List.zipIdx_append]
theorem pcV_inj{p q:Nat×Nat}(h:pcV p=pcV q):p=q:=by
 unfold pcV at h;injection h with h;have h2:=congrArg Array.toList h;simp at h2;exact Prod.ext (by omega) (by omega)
structure PrAt (w:World) (B:Nat) (v:Value) (l:List PR) (vs:List Value):Prop where
 row:OwnK w B TPr 3 v (List.zipWith prL l vs)
 len:vs.length=l.length
 syms:∀i (h:i<vs.length) (h':i<l.length),OwnK w B TSy 2 vs[i] (l[i].syms.map syL)
structure OfAt (w:World) (B:Nat) (v:Value) (o:List (List Nat)) (vs:List Value):Prop where
 row:OwnK w B TIs 1 v (vs.map (fun x=>[x]))
 len:vs.length=o.length
 nums:∀i (h:i<vs.length) (h':i<o.length),OwnI w B vs[i] o[i]
section
variable {S:Nat→Prop} {w w' w1:World} {B:Nat} {v v1:Value} {l:List PR} {o:List (List Nat)} {vs:List Value} {X:TypeId}
theorem PrAt.kn(h:PrAt w B v l vs)(hk:Kn w w'):PrAt w' B v l vs:=⟨h.row.kn hk,h.len,fun i a b=>(h.syms i a b).kn hk⟩
theorem OfAt.kn(h:OfAt w B v o vs)(hk:Kn w w'):OfAt w' B v o vs:=⟨h.row.kn hk,h.len,fun i a b=>QG (h.nums i a b) hk (fun _ _ x=>x)⟩
theorem row_off{T:TypeId}{k n:Nat}{cs:List Value}(h:w.ownsRow B T k v n cs)(hk:Kp S w w')(hS:∀g (c:Array Value),w.heap[g]? =some (.cells c T (0,0))→¬S g):w'.ownsRow B T k v n cs:=
 QG h hk (fun g hg e=>by obtain⟨cur,h1⟩:=QX h hg;exact hS g cur h1 e)
theorem PrAt.off(h:PrAt w B v l vs)(hk:Kp S w w')(h1:∀g (c:Array Value),w.heap[g]? =some (.cells c TPr (0,0))→¬S g)(h2:∀g (c:Array Value),w.heap[g]? =some (.cells c TSy (0,0))→¬S g):PrAt w' B v l vs:=
 ⟨row_off h.row hk h1,h.len,fun i a b=>row_off (h.syms i a b) hk h2⟩
theorem OfAt.off(h:OfAt w B v o vs)(hk:Kp S w w')(h1:∀g (c:Array Value),w.heap[g]? =some (.cells c TIs (0,0))→¬S g)(h2:∀g (c:Array Value),w.heap[g]? =some (.cells c 3 (0,0))→¬S g):OfAt w' B v o vs:=
 ⟨row_off h.row hk h1,h.len,fun i a b=>row_off (h.nums i a b) hk h2⟩
theorem Qv{T:TypeId}(hS:Ty S w X)(hX:X≠T):∀g (c:Array Value),w.heap[g]? =some (.cells c T (0,0))→¬S g:=fun g c h e=>by obtain⟨c1,h1⟩:=hS g e;exact Qn h1 h hX
end
structure SA where
 vp:Value
 vl:Value
 vo:Value
 ve:Value
 vf:Value
 vw:Value
 bm:Nat
 fin:Nat
 vls:List Value
 vos:List Value
def seC(A:SA):Array Value:= #[A.vp,.map (some A.bm),A.vl,A.vo,.int .i64 (A.fin:Nat),A.ve,A.vf,A.vw]
structure BdAt (w:World) (B p:Nat) (S:SB) (A:SA):Prop where
 blk:w.heap[p]? =some (.cells (seC A) TSt (0,0))
 pl:OwnK w B TPc 2 A.vp (S.places.map pcL)
 mt:MapA w TPc A.bm (pcM S.places)
 pr:PrAt w B A.vl S.l A.vls
 of_:OfAt w B A.vo S.own A.vos
 pB:B≤p∧B≤A.bm
def PSt(A:SA)(p:Nat):Nat→Prop:=fun k=>k=p∨k=A.bm∨some k=A.vp.ownBlock
structure PlKeep (w w':World) (p:Nat) (A A':SA):Prop where
 kp:Kp (PSt A p) w w'
 vp:∀k,A'.vp.ownBlock=some k→A.vp.ownBlock=some k∨w.heap.size≤k
 rest:A'= {A with vp:=A'.vp}
section
variable {w w' w1:World} {B p:Nat} {S:SB} {A A' A2:SA}
theorem BdAt.cell(h:BdAt w B p S A)(i:Nat):w.cell? ⟨p,i,none⟩=(seC A)[i]? :=Qa h.blk i
theorem BdAt.fr(h:BdAt w B p S A)(i:Nat):w.frozen? ⟨p,i,none⟩=false:=Qd h.blk i
theorem BdAt.lt(h:BdAt w B p S A):p<w.heap.size:=Ql h.blk
theorem BdAt.kn(h:BdAt w B p S A)(hk:Kn w w'):BdAt w' B p S A:=⟨hk.blk h.blk (fun x=>x),h.pl.kn hk,h.mt.kn hk,h.pr.kn hk,h.of_.kn hk,h.pB⟩
theorem BdAt.other(h:BdAt w B p S A){T:TypeId}(h1:TSt≠T)(h2:TPc≠T):∀g (c:Array Value),w.heap[g]? =some (.cells c T (0,0))→¬PSt A p g:=by
 rintro g c hg (rfl|rfl|e)
 ·exact Qn h.blk hg h1
 ·obtain⟨es,cl,hb,_⟩:=h.mt;rw[hg] at hb;injection hb with hb;cases hb
 ·obtain⟨cur,hb⟩:=QX h.pl e.symm;exact Qn hb hg h2
theorem PlKeep.refl(w:World)(p:Nat)(A:SA):PlKeep w w p A A:=⟨Qb _ _,fun _ h=> .inl h,rfl⟩
theorem PlKeep.kn(h:PlKeep w w' p A A')(hk:Kn w' w1):PlKeep w w1 p A A':=⟨h.kp.trans (Kp.weak hk),h.vp,h.rest⟩
theorem PlKeep.trans(h:PlKeep w w' p A A')(k:PlKeep w' w1 p A' A2):PlKeep w w1 p A A2:=by
 have hr:=h.rest;refine⟨h.kp.trans' k.kp (fun i hi e=> ?_),fun j hj=> ?_,by rw[k.rest,hr]⟩
 ·rcases e with e|e|e
  ·exact .inl e
  ·rw[hr] at e;exact .inr (.inl e)
  ·rcases h.vp i e.symm with h1|h1
   ·exact .inr (.inr h1.symm)
   ·omega
 ·rcases k.vp j hj with h1|h1
  ·exact h.vp j h1
  ·exact .inr (Nat.le_trans h.kp.size h1)
theorem Kn.pl(hk:Kn w w')(k:PlKeep w' w1 p A A')(hp:p<w.heap.size)(hv:∀g,A.vp.ownBlock=some g→g<w.heap.size):PlKeep w w1 p A A':=by
 refine⟨(Kp.weak hk).trans k.kp,fun j hj=> ?_,k.rest⟩;rcases k.vp j hj with h1|h1
 ·exact .inl h1
 ·exact .inr (Nat.le_trans hk.size h1)
theorem BdAt.putPlace{q:Nat×Nat}{v1:Value}{w2:World}(h:BdAt w B p S A)(hm:MapA w1 TPc A.bm (pcM S.places++[(pcV q,.int .i64 (S.places.length:Nat))]))(hk1:K1 A.bm w w1)
  (hr:OwnK w2 B TPc 2 v1 (S.places.map pcL++[pcL q])) (hk2:Kp (fun k=>some k=A.vp.ownBlock) w1 w2) (hat:v1.ownBlock=A.vp.ownBlock∨∃z,v1.ownBlock=some z∧w.heap.size≤z):
  BdAt (w2.setCell ⟨p,0,none⟩ v1) B p {S with places:=S.places++[q]} {A with vp:=v1} ∧PlKeep w (w2.setCell ⟨p,0,none⟩ v1) p A {A with vp:=v1} :=by
 have hS1:=YY h.mt;have hb1:=blk_tym h.blk hk1 hS1;have hpl1:=Qx h.pl hk1 hS1;have hS2:=QR hpl1;have hb2:=QA hb1 hk2 hS2 (by decide);have hk3:K1 p w2 (w2.setCell ⟨p,0,none⟩ v1):=Qg _ _;have hS3:=QO hb2;have hpr:=((h.pr.off hk1 (fun g c hg e=>by subst e;obtain⟨es,cl,hb,_⟩:=h.mt;rw[hg] at hb;injection hb with hb;cases hb) (fun g c hg e=>by subst e;obtain⟨es,cl,hb,_⟩:=h.mt;rw[hg] at hb;injection hb with hb;cases hb)).off hk2 (Qv hS2 (by decide)) (Qv hS2 (by decide))).off hk3 (Qv hS3 (by decide)) (Qv hS3 (by decide));have hof:=((h.of_.off hk1 (fun g c hg e=>by subst e;obtain⟨es,cl,hb,_⟩:=h.mt;rw[hg] at hb;injection hb with hb;cases hb) (fun g c hg e=>by subst e;obtain⟨es,cl,hb,_⟩:=h.mt;rw[hg] at hb;injection hb with hb;cases hb)).off hk2 (Qv hS2 (by decide)) (Qv hS2 (by decide))).off hk3 (Qv hS3 (by decide)) (Qv hS3 (by decide));refine⟨⟨by have:=Qj hb2 0 v1;simpa[seC] using this,?_,?_,hpr,hof,h.pB⟩,?_,?_,rfl⟩
 ·have:=Qk hr hk3 hS3 (by decide);rw[List.map_append];exact this
 ·rw[pcM_snoc];exact Qs (Qs hm hk2 hS2) hk3 hS3
 ·exact(((hk1.mono (fun i hi e=>Or.inr (Or.inl e))).trans' hk2 (fun i hi e=>Or.inr (Or.inr e))).trans' hk3 (fun i hi e=>Or.inl e))
 ·intro k hk;rcases hat with e|⟨z,e,hz⟩
  ·exact .inl (e▸hk)
  ·rw[show({A with vp:=v1} :SA).vp=v1 from rfl,e] at hk;injection hk with hk;subst hk;exact .inr hz
end
theorem pc_key:Keyed Tryz.prog TPc:=Keyed.of_law (deep_law (m:=4) (by decide) (by kernel_rfl) (by kernel_rfl) (by kernel_rfl))
theorem pc_fit(q:Nat×Nat)(h1:q.1≤1000000)(h2:q.2≤1000000):∃lx,keyOf Tryz.prog TPc (pcV q)=some lx:=by
 have hkt:Tryz.prog.keyType TPc=true:=by kernel_rfl
 have hc:Tryz.prog.cellsOf TPc=2:=by kernel_rfl
 have hi:Tryz.prog.cellsOf 3=1:=by kernel_rfl
 have h2':decide (2≤Tryz.prog.types.size)=true:=by kernel_rfl
 have h3:=of_decide_eq_true h2';obtain⟨d,hd⟩:∃d,Tryz.prog.types.size=d+2:=⟨Tryz.prog.types.size-2,by omega⟩;obtain⟨la,hla⟩:=int_lits (d+1) ((q.1:Nat):Int) (by omega);obtain⟨lb,hlb⟩:=int_lits (d+1) ((q.2:Nat):Int) (by omega);have hfo:(pcV q).formed Tryz.prog TPc=true:=by
  unfold Value.formed pcV;simp only[Tryz.underlying206,hc];rfl
 refine⟨.string (keyBytes [la,lb].flatten),?_⟩;unfold keyOf;simp only[Tryz.underlying206,hkt,hfo,Bool.and_self,if_true,hd];unfold pcV;simp only[Value.cells];unfold Program.keyLits;simp only[Tryz.underlying206,hc];simp[hi,hla,hlb]
theorem info_pc:(Tryz.prog.info? TPc).map (fun i=>(i.zero,i.size,i.bytes))=some (some (.agg #[.int .i64 0,.int .i64 0]),2,16):=by kernel_rfl
def SPlacePost(B p:Nat)(S:SB)(A:SA)(q:Nat×Nat)(w:World)(e:Ending)(w':World):Prop:=
 e= .returned (.int .i64 ((Yt S.places q).2:Nat))∧∃A',BdAt w' B p {S with places:=(Yt S.places q).1} A'∧PlKeep w w' p A A'
theorem look_pc1{w:World}{b:Nat}{ps:PL}{q:Nat×Nat}{j:Nat}(h1:q.1≤1000000)(h2:q.2≤1000000)(hm:MapA w TPc b (pcM ps))(hj:placeI ps q=some j):
  (Instr.lookup 139 (.map (some b)) (pcV q) true).run Tryz.prog w= .ok (.tuple #[.int .i64 (j:Nat),.bool true]) w:=by
 obtain⟨l,hl⟩:=pc_fit q h1 h2;obtain⟨hjl,hx,_⟩:=List.findIdx?_eq_some_iff_getElem.1 hj;exact hm.look1 pc_key Tryz.underlying139 hl (pcM_mem.2 ⟨ps[j],j,List.getElem?_eq_getElem hjl,by rw[of_decide_eq_true hx]⟩) true
theorem pcM_not{ps:PL}{q:Nat×Nat}(hj:placeI ps q=none):∀p∈pcM ps,p.1≠pcV q:=by
 intro p hp e;obtain⟨z,i,hz,rfl⟩:=pcM_mem.1 hp;have:=List.findIdx?_eq_none_iff.1 hj z (List.mem_of_getElem? hz);exact absurd (pcV_inj e) (of_decide_eq_false this)
theorem szero_int(w:World):(zeroValue 3).run Tryz.prog w= .ok (.int .i64 0) w:=Tryz.zeroValue3 w
theorem look_pc0{w:World}{b:Nat}{ps:PL}{q:Nat×Nat}(h1:q.1≤1000000)(h2:q.2≤1000000)(hm:MapA w TPc b (pcM ps))(hj:placeI ps q=none):
  (Instr.lookup 139 (.map (some b)) (pcV q) true).run Tryz.prog w= .ok (.tuple #[.int .i64 0,.bool false]) w:=by
 obtain⟨l,hl⟩:=pc_fit q h1 h2;exact hm.look0 pc_key Tryz.underlying139 (szero_int w) hl (pcM_not hj) true
theorem put_pc{w:World}{b n:Nat}{ps:PL}{q:Nat×Nat}(h1:q.1≤1000000)(h2:q.2≤1000000)(hm:MapA w TPc b (pcM ps))(hj:placeI ps q=none):
  ∃w',(Instr.mapUpdate 139 (.map (some b)) (pcV q) (.int .i64 (n:Nat))).run Tryz.prog w= .ok () w'∧MapA w' TPc b (pcM ps++[(pcV q,.int .i64 (n:Nat))])∧K1 b w w':=by
 obtain⟨l,hl⟩:=pc_fit q h1 h2;exact hm.put0 pc_key Tryz.underlying139 hl (pcM_not hj) _
theorem splace_c{B p:Nat}{S:SB}{A:SA}{w:World}(q:Nat×Nat)(h:BdAt w B p S A)(h1:q.1≤1000000)(h2:q.2≤1000000)(hl:S.places.length≤1000):
  Calls Tryz.prog 113 #[ptr p,pcV q] w (SPlacePost B p S A q w):=by
 obtain⟨x,y⟩:=q;dsimp only at h1 h2;have hpl:=h.lt;obtain⟨w1,hw1⟩:∃z,z=w.alloc (.cells #[.int .i64 (x:Nat),.int .i64 (y:Nat)] TPc):=⟨_,rfl⟩;have hk1:Kn w w1:=by rw[hw1];exact(Qb _ _).alloc _
 obtain⟨b3,hb3⟩:∃z,z=w.heap.size:=⟨_,rfl⟩;have hbb:w1.heap[b3]? =some (.cells #[.int .i64 (x:Nat),.int .i64 (y:Nat)] TPc (0,0)):=by rw[hw1,hb3];exact Qf _ _
 have hr1:=h.kn hk1;have y0:w1.cell? ⟨b3,0,none⟩=some (.int .i64 (x:Nat)):=by rw[Qa hbb];try rfl
 have y1:w1.cell? ⟨b3,1,none⟩=some (.int .i64 (y:Nat)):=by rw[Qa hbb];try rfl
 obtain⟨a0,c0,hv0,hc1,hc2,hg⟩:=h.pl.row (fun C hC=>by obtain⟨x,_,rfl⟩:=List.mem_map.1 hC;rfl);rw[List.length_map] at hv0;have x0:=hr1.cell 0;have x1:=hr1.cell 1;change w1.cell? ⟨p,0,none⟩=some A.vp at x0;change w1.cell? ⟨p,1,none⟩=some (.map (some A.bm)) at x1;rw[hv0] at x0;have H:=Qh h;have HR1:=Qh hr1;have HK1:=Qh hk1;have HV:=Qh hv0;have HW:=Qh (And.intro hw1 hb3);have HBB:=Qh hbb;cases hj:placeI S.places (x,y) with
 |some j=>
  have hlk:∀n,(Instr.lookup 139 (.map (some A.bm)) (.agg #[.int .i64 (x:Nat),.int .i64 (y:Nat)]) true).run Tryz.prog (w1.drewN n)= .ok (.tuple #[.int .i64 (j:Nat),.bool true]) (w1.drewN n):=fun n=>look_pc1 h1 h2 (HR1.out.mt.kn ((Qb _ _).drewN n)) hj
  have hF:Hid (Yt S.places (x,y)=(S.places,j)):=Qh (by unfold Yt;rw[hj]);clear h hr1 hk1 hv0 hw1 hb3 hbb hj hg;unfold pcV;go_enter Tryz.func113,Tryz.ntmps113;go_upto_region 1 with fail
  rw[←HW.out.1,←HW.out.2];go_quiet (fail)
  go_wp2_with fail
  go_ret;exact⟨by rw[hF.out];try rfl,A,by rw[hF.out];exact HR1.out.kn ((Qb _ _).drewN _),(PlKeep.refl _ _ _).kn (HK1.out.drewN _)⟩
 |none=>
  have hlk:∀n,(Instr.lookup 139 (.map (some A.bm)) (.agg #[.int .i64 (x:Nat),.int .i64 (y:Nat)]) true).run Tryz.prog (w1.drewN n)= .ok (.tuple #[.int .i64 0,.bool false]) (w1.drewN n):=fun n=>look_pc0 h1 h2 (HR1.out.mt.kn ((Qb _ _).drewN n)) hj
  have hF:Hid (Yt S.places (x,y)=(S.places++[(x,y)],S.places.length)):=Qh (by unfold Yt;rw[hj]);have HJ:=Qh hj;clear h hr1 hk1 hv0 hw1 hb3 hbb hj hg;unfold pcV;go_enter Tryz.func113,Tryz.ntmps113;go_upto_region 1 with fail
  rw[←HW.out.1,←HW.out.2];go_quiet (fail)
  clear hlk;obtain⟨w2,hw2⟩:∃z,z=w1.drewN nq:=⟨_,rfl⟩;have hk2:Kn w1 w2:=by rw[hw2];exact(Qb _ _).drewN _
  rw[←hw2];have z0:=Qc hk2 x0;have z1:=Qc hk2 x1;have u0:=Qc hk2 y0;have u1:=Qc hk2 y1;have HK2:=Qh hk2;clear x0 x1 y0 y1 hw2 hk2;go_wp2_with fail
  refine rgn (fun w'=>w'.cell? ⟨p,1,none⟩=some (.map (some A.bm))∧w'.cell? ⟨b3,0,none⟩=some (.int .i64 (x:Nat))∧w'.cell? ⟨b3,1,none⟩=some (.int .i64 (y:Nat))) (X:=[]) ⟨Qc ((Qb _ _).drew) z1,Qc ((Qb _ _).drew) u0,Qc ((Qb _ _).drew) u1⟩ (fun hX hHeld=> ?_);refine tw 0 23 ?_;refine tw 1 24 ?_;refine tw 2 25 ?_;refine tk 3 26 ?_;refine tk 4 27 ?_;refine tw 5 28 ?_;refine re 6 (fun K hK=> ?_);obtain⟨wd,hwd⟩:∃z,z=w2.drew:=⟨_,rfl⟩;have hk3:Kn w2 wd:=by rw[hwd];exact(Qb _ _).drew
  have HK3:=Qh hk3;have HB3:=Qh (HR1.out.kn (HK2.out.trans hk3));obtain⟨w3,hrun,hm3,hk4⟩:=put_pc (n:=S.places.length) h1 h2 HB3.out.mt HJ.out;unfold pcV at hrun;dsimp only at hrun;rw[←hwd] at hHeld⊢;clear hwd;go_simp;refine hK.out _ _ ?_;have q0:=Qi hk4 (Qc hk3 z0) (fun e=>by obtain⟨es,cl,hb,_⟩:=HB3.out.mt;have h9:=HB3.out.blk;rw[show p=A.bm from e] at h9;rw[h9] at hb;injection hb with hb;cases hb);have u30:=Qi hk4 (Qc hk3 u0) (fun e=>by obtain⟨es,cl,hb,_⟩:=HB3.out.mt;have h9:=HBB.out;rw[show b3=A.bm from e] at h9;have h8:=(HK2.out.trans hk3).blk h9 (fun x=>x);rw[h8] at hb;injection hb with hb;cases hb);have u31:=Qi hk4 (Qc hk3 u1) (fun e=>by obtain⟨es,cl,hb,_⟩:=HB3.out.mt;have h9:=HBB.out;rw[show b3=A.bm from e] at h9;have h8:=(HK2.out.trans hk3).blk h9 (fun x=>x);rw[h8] at hb;injection hb with hb;cases hb);have HM3:=Qh (And.intro hm3 hk4);clear hrun hm3 hk4 hk3 z0 z1 u0 u1 hHeld;clear hK K;go_wp2_with fail
  refine rgn (fun w'=>w'.cell? ⟨p,0,none⟩=some (.slice a0 S.places.length c0)∧w'.cell? ⟨b3,0,none⟩=some (.int .i64 (x:Nat))∧w'.cell? ⟨b3,1,none⟩=some (.int .i64 (y:Nat))) (X:=[]) ⟨Qc ((Qb _ _).drew) q0,Qc ((Qb _ _).drew) u30,Qc ((Qb _ _).drew) u31⟩ (fun hX hHeld=> ?_);refine tw 0 29 ?_;refine tw 1 30 ?_;refine tw 2 31 ?_;refine tw 3 32 ?_;refine tk 4 33 ?_;refine tk 5 34 ?_;refine ro 6 (fun K hK=> ?_);obtain⟨w4,hw4⟩:∃z,z=w3.drew:=⟨_,rfl⟩;have hk4:Kn w3 w4:=by rw[hw4];exact(Qb _ _).drew
  rw[←hw4] at hHeld⊢;clear hw4;go_simp;obtain⟨w5,hw5⟩:∃z,z=w4.alloc (.cells #[.int .i64 (x:Nat),.int .i64 (y:Nat)] TPc):=⟨_,rfl⟩;obtain⟨ge,hge⟩:∃z,z=w4.heap.size:=⟨_,rfl⟩;have GE:w5.heap[ge]? =some (.cells #[.int .i64 (x:Nat),.int .i64 (y:Nat)] TPc (0,0)):=by rw[hw5,hge];exact Qf _ _
  have hk5:Kn w4 w5:=by rw[hw5];exact(Qb _ _).alloc _
  have HK5:=Qh (hk4.trans hk5);rw[←hw5,←hge];refine hK.out _ _ (⟨Qc hk5 hHeld.1,Qc hk5 hHeld.2.1,Qc hk5 hHeld.2.2⟩) (fun hHeld=> ?_);clear hk4 hw5 hk5 hge q0 u30 u31;clear hK K
  try simp only[PP]
  refine ro 7 (fun K hK=> ?_);have hown:OwnK w5 B TPc 2 (.slice a0 S.places.length c0) (S.places.map pcL):=by have h9:=(Qx HB3.out.pl HM3.out.2 (YY HB3.out.mt));rw[HV.out] at h9;exact OwnK.kn h9 HK5.out
  obtain⟨ie,hi,hz0,hz1,hz2⟩:=info_parts info_pc;refine Qm w5 (by rfl) _ _ 101 (by rfl) B TPc ie (.agg #[.int .i64 0,.int .i64 0]) 2 16 Tryz.underlying101 hi hz0 hz1 hz2 (by rfl) (by decide) (.slice a0 S.places.length c0) (S.places.map pcL) (by rfl) hown ge 1 (by rfl) #[.int .i64 (x:Nat),.int .i64 (y:Nat)] TPc (0,0) GE (by rfl) (by simp[Value.oneCell']) (by rw[List.length_map];simp only[maxLen];omega) (by rw[List.length_map];omega) (by have:=H.out.pB.1;have:=H.out.lt;have:=(HK1.out.trans (HK2.out.trans HK3.out)).size;have:=HM3.out.2.size;have:=HK5.out.size;omega) ?_;intro v1 w6 hown1 hka hat;have hp6:w6.heap[p]? =some (.cells (seC A) TSt (0,0)):=QA (HK5.out.blk (blk_tym HB3.out.blk HM3.out.2 (YY HB3.out.mt)) (fun x=>x)) hka (QR hown) (by decide);have hq6:w6.cell? ⟨p,0,none⟩=some (.slice a0 S.places.length c0):=by rw[Qa hp6,←HV.out];try rfl
  have hf6:=Qd hp6 0;obtain⟨av,cv,hv1,_⟩:=hown1.row (k:=2) (fun C hC=>by rcases List.mem_append.1 hC with h|h;obtain⟨x,_,rfl⟩:=List.mem_map.1 h;rfl;simp at h;rw[h];try rfl);have hv1:v1= .slice av (S.places.length+1) cv:=by rw[hv1,List.length_append,List.length_map];try rfl
  have HV1:=Qh hv1;have HP:=Qh (BdAt.putPlace (w:=wd) (q:=(x,y)) HB3.out HM3.out.1 HM3.out.2 hown1 ((Kp.weak HK5.out).trans (by rw[HV.out];exact hka)) (by rw[HV.out];rcases hat with e|e;exact .inl e;exact .inr ⟨_,e,Nat.le_trans HM3.out.2.size HK5.out.size⟩));have hb39:∀i:Nat,¬some (⟨b3,i,none⟩:Addr).block=(Value.slice a0 S.places.length c0).ownBlock:=fun i e=>by have:=(H.out.pl.lt b3 (by rw[HV.out];exact e.symm)).2;have:=HW.out.2;omega
  refine hK.out _ _ (⟨hq6,Qi hka hHeld.2.1 (hb39 0),Qi hka hHeld.2.2 (hb39 1)⟩) (fun hHeld=> ?_);clear hb39 hown hown1 hka hat hi hz0 hz1 hz2 hv1 hp6 GE;clear hK K
  try simp only[PP]
  refine tw 8 37 ?_;refine tw 9 38 ?_;refine re 10 (fun K hK=> ?_);rw[HV1.out];go_simp;rw[←HV1.out];refine hK.out _ _ ?_;clear hHeld hq6 hf6;clear hK K;go_wp2_with fail
  go_ret;have HP2:=HP.out;rw[HV1.out] at HP2;exact⟨by rw[hF.out];try rfl,_,by rw[hF.out];exact HP2.1,Kn.pl (HK1.out.trans (HK2.out.trans HK3.out)) HP2.2 H.out.lt (fun g hg=>(H.out.pl.lt g hg).2)⟩
abbrev M41:Nat:=2199023255552
def bV1(x:Nat):Value:= .agg #[.int .u64 (x:Nat)]
theorem or_lt{x y:Nat}(hx:x<M41)(hy:y<M41):x|||y<M41:=Nat.or_lt_two_pow (n:=41) hx hy
theorem or_u64{x y:Nat}(hx:x<M41)(hy:y<M41):bits .or .u64 (x:Int) (y:Int)=((x|||y:Nat):Int):=by
 have e:M41=2199023255552:=rfl;rw[u64_or _ _ (by omega) (by omega) (by omega) (by omega)];simp
theorem pow_u64{m:Nat}(h:m≤40):IntKind.u64.wrap ((2:Int)^m)=((2^m:Nat):Int):=by
 have h1:(2:Nat)^m≤2^40:=Nat.pow_le_pow_right (by omega) h;have e:((2:Int)^m)=((2^m:Nat):Int):=by simp
 rw[IntKind.wrap_u64,e];generalize (2:Nat)^m=z at*;omega
theorem oneB_lt(n:Int):oneB n<M41:=by
 unfold oneB;split
 ·decide
 ·have h:n.toNat<41:=by omega
  exact Nat.pow_lt_pow_right (by omega) h
theorem resB{fn:Func}{t:Tmp}{tmps:Array Value}{W:World}{b:Nat}{x:Value}(h:fn.results= #[.cell t TBi])(ht:tmps[t]?.getD undef=ptr b)(hb:W.cell? ⟨b,0,none⟩=some x):(results fn tmps).run Tryz.prog W= .ok (.agg #[x]) W:=by
 simp[results,h,ht,go_sem,hb]
theorem resBT{fn:Func}{t u:Tmp}{tmps:Array Value}{W:World}{b:Nat}{x y:Value}(h:fn.results= #[.cell t TBi,.tmp u])(ht:tmps[t]?.getD undef=ptr b)(hu:tmps[u]?.getD undef=y)(hb:W.cell? ⟨b,0,none⟩=some x):(results fn tmps).run Tryz.prog W= .ok (.tuple #[.agg #[x],y]) W:=by
 simp[results,h,ht,hu,go_sem,hb]
theorem new_cell(w:World)(x:Value)(T:TypeId):(w.alloc (.cells #[x] T)).cell? ⟨w.heap.size,0,none⟩=some x:=by rw[Qa (Qf w _)];try rfl
theorem QI{w:World}{b:Nat}{a v:Value}{T:TypeId}{fr:Nat×Nat}(hb:w.heap[b]? =some (.cells #[a] T fr)):(w.setCell ⟨b,0,none⟩ v).cell? ⟨b,0,none⟩=some v:=by rw[Qa (Qj hb 0 v)];try rfl
theorem sone_c(n:Int)(w:World):Calls Tryz.prog 68 #[.int .i64 n] w fun e w'=>e= .returned (bV1 (oneB n))∧Kn w w':=by
 by_cases h0:n<0
 ·have hF:oneB n=0:=by unfold oneB;rw[if_pos (.inl h0)]
  have HF:=Qh hF;clear hF;go_enter Tryz.func68,Tryz.ntmps68;go_wp2_with fail
  refine bodyPost_ret (v:=bV1 (oneB n)) (resB rfl rfl ?_) rfl ⟨rfl,(Qb _ _).alloc _⟩;rw[new_cell,HF.out];try rfl
 ·by_cases h1:40<n
  ·have hF:oneB n=0:=by unfold oneB;rw[if_pos (.inr h1)]
   have HF:=Qh hF;clear hF;go_enter Tryz.func68,Tryz.ntmps68;go_wp2_with fail
   refine bodyPost_ret (v:=bV1 (oneB n)) (resB rfl rfl ?_) rfl ⟨rfl,(Qb _ _).alloc _⟩;rw[new_cell,HF.out];try rfl
  ·obtain⟨m,rfl⟩:=Int.eq_ofNat_of_zero_le (show 0≤n by omega);have hm:m≤40:=by omega
   have hF:oneB (m:Int)=2^m:=by unfold oneB;rw[if_neg (by omega)];simp
   have HF:=Qh hF;clear hF;go_enter Tryz.func68,Tryz.ntmps68;go_wp2_with fail
   refine bodyPost_ret (v:=bV1 (oneB m)) (resB rfl rfl ?_) rfl ⟨rfl,(Qb _ _).alloc _⟩;rw[new_cell,HF.out,pow_u64 hm]
theorem swith_c(x y:Nat)(hx:x<M41)(hy:y<M41)(w:World):Calls Tryz.prog 116 #[.agg #[.int .u64 (x:Nat)],.agg #[.int .u64 (y:Nat)]] w fun e w'=>e= .returned (.agg #[.int .u64 ((x|||y:Nat):Int)])∧Kn w w':=by
 have HO:=Qh (or_u64 hx hy);clear hx hy;go_enter Tryz.func116,Tryz.ntmps116;go_wp2_with fail
 refine bodyPost_ret (v:= .agg #[.int .u64 ((x|||y:Nat):Int)]) (resB rfl rfl ?_) rfl ⟨rfl,(((Qb _ _).alloc _).alloc _).alloc _⟩;have:=new_cell ((w.alloc (.cells #[.int .u64 (x:Nat)] TBi)).alloc (.cells #[.int .u64 (y:Nat)] TBi)) (.int .u64 (bits .or .u64 (x:Int) (y:Int))) TBi;rw[size_alloc',size_alloc'] at this;rw[this,HO.out]
structure SBok (S:SB):Prop where
 pos:0<S.places.length
 le:S.places.length≤500
 ll:S.l.length≤60000
 pr:∀p∈S.l,p.place<S.places.length∧p.rule≤1000000∧p.syms.length≤20∧∀y∈p.syms,if y.place=true then 0≤y.n∧y.n<S.places.length else 0≤y.n∧y.n≤1000
 own:S.own.length=S.places.length
structure StAt (w:World) (B p:Nat) (S:SB) (A:SA) (E:List Bool) (F W:List Nat) (ge gf gw:Nat):Prop where
 blk:w.heap[p]? =some (.cells (seC A) TSt (0,0))
 pl:OwnK w B TPc 2 A.vp (S.places.map pcL)
 pr:PrAt w B A.vl S.l A.vls
 of_:OfAt w B A.vo S.own A.vos
 ve:A.ve= .slice (some ⟨ge,0,none⟩) S.places.length S.places.length
 vf:A.vf= .slice (some ⟨gf,0,none⟩) S.places.length S.places.length
 vw:A.vw= .slice (some ⟨gw,0,none⟩) S.places.length S.places.length
 re:RowV w 4 ge (bV E)
 rf:RowV w TBi gf (biV F)
 rw_:RowV w TBi gw (biV W)
 el:E.length=S.places.length
 fl:F.length=S.places.length
 wl:W.length=S.places.length
 fz:∀x∈F,x<M41
 wz:∀x∈W,x<M41
 ne:gf≠gw
 pB:B≤p∧B≤ge∧B≤gf∧B≤gw
theorem biV_get{L:List Nat}{i:Nat}(hi:i<L.length):(biV L)[i]'(by simpa[biV] using hi)= .int .u64 (L.getD i 0:Nat):=by
 simp[biV,List.getD_eq_getElem?_getD,List.getElem?_eq_getElem hi]
theorem biV_len(L:List Nat):(biV L).length=L.length:=by simp[biV]
theorem biV_set(L:List Nat)(i x:Nat):(biV L).set i (.int .u64 (x:Nat))=biV (L.set i x):=by simp[biV,List.map_set]
theorem getD_lt{L:List Nat}{M:Nat}(h:∀x∈L,x<M)(hM:0<M)(i:Nat):L.getD i 0<M:=by
 rw[List.getD_eq_getElem?_getD];rcases Nat.lt_or_ge i L.length with hi|hi
 ·rw[List.getElem?_eq_getElem hi];exact h _ (List.getElem_mem hi)
 ·rw[List.getElem?_eq_none hi];exact hM
theorem set_lt{L:List Nat}{M:Nat}(h:∀x∈L,x<M)(i x:Nat)(hx:x<M):∀y∈L.set i x,y<M:=fun y hy=>by
 rcases List.mem_or_eq_of_mem_set hy with h1|rfl
 ·exact h y h1
 ·exact hx
section
variable {w w':World} {B p:Nat} {S:SB} {A:SA} {E:List Bool} {F W:List Nat} {ge gf gw:Nat}
theorem StAt.cell(h:StAt w B p S A E F W ge gf gw)(i:Nat):w.cell? ⟨p,i,none⟩=(seC A)[i]? :=Qa h.blk i
theorem StAt.fr(h:StAt w B p S A E F W ge gf gw)(i:Nat):w.frozen? ⟨p,i,none⟩=false:=Qd h.blk i
theorem StAt.lt(h:StAt w B p S A E F W ge gf gw):p<w.heap.size:=Ql h.blk
theorem StAt.kn(h:StAt w B p S A E F W ge gf gw)(hk:Kn w w'):StAt w' B p S A E F W ge gf gw:=
 ⟨hk.blk h.blk (fun x=>x),h.pl.kn hk,h.pr.kn hk,h.of_.kn hk,h.ve,h.vf,h.vw,h.re.kn hk,h.rf.kn hk,h.rw_.kn hk,h.el,h.fl,h.wl,h.fz,h.wz,h.ne,h.pB⟩
theorem StAt.pcs(h:StAt w B p S A E F W ge gf gw):∃a c,w.cell? ⟨p,0,none⟩=some (.slice a S.places.length c):=by
 obtain⟨a,c,hv,_⟩:=h.pl.row (fun C hC=>by obtain⟨x,_,rfl⟩:=List.mem_map.1 hC;rfl);rw[List.length_map] at hv;exact⟨a,c,by rw[h.cell 0,←hv];try rfl⟩
theorem StAt.c5(h:StAt w B p S A E F W ge gf gw):w.cell? ⟨p,5,none⟩=some (.slice (some ⟨ge,0,none⟩) S.places.length S.places.length):=by rw[h.cell 5,←h.ve];try rfl
theorem StAt.c6(h:StAt w B p S A E F W ge gf gw):w.cell? ⟨p,6,none⟩=some (.slice (some ⟨gf,0,none⟩) S.places.length S.places.length):=by rw[h.cell 6,←h.vf];try rfl
theorem StAt.c7(h:StAt w B p S A E F W ge gf gw):w.cell? ⟨p,7,none⟩=some (.slice (some ⟨gw,0,none⟩) S.places.length S.places.length):=by rw[h.cell 7,←h.vw];try rfl
theorem StAt.ecell(h:StAt w B p S A E F W ge gf gw){i:Nat}(hi:i<S.places.length):w.cell? ⟨ge,i,none⟩=some (.bool (E.getD i false)):=h.re.bcell (by rw[h.el];exact hi)
theorem StAt.fcell(h:StAt w B p S A E F W ge gf gw){i:Nat}(hi:i<S.places.length):w.cell? ⟨gf,i,none⟩=some (.int .u64 (F.getD i 0:Nat)):=by
 rw[h.rf.cell (by rw[biV_len,h.fl];exact hi),biV_get (by rw[h.fl];exact hi)]
theorem StAt.wcell(h:StAt w B p S A E F W ge gf gw){i:Nat}(hi:i<S.places.length):w.cell? ⟨gw,i,none⟩=some (.int .u64 (W.getD i 0:Nat)):=by
 rw[h.rw_.cell (by rw[biV_len,h.wl];exact hi),biV_get (by rw[h.wl];exact hi)]
theorem StAt.setE(h:StAt w B p S A E F W ge gf gw)(i:Nat)(b:Bool):StAt (w.setCell ⟨ge,i,none⟩ (.bool b)) B p S A (E.set i b) F W ge gf gw:=by
 have hk:K1 ge w (w.setCell ⟨ge,i,none⟩ (.bool b)):=Qg _ _;have hS:Ty (fun k=>k=ge) w 4:=QO h.re;exact⟨QA h.blk hk hS (by decide),Qk h.pl hk hS (by decide),h.pr.off hk (Qv hS (by decide)) (Qv hS (by decide)),h.of_.off hk (Qv hS (by decide)) (Qv hS (by decide)),h.ve,h.vf,h.vw,h.re.bset i b,
  QA h.rf hk hS (by decide),QA h.rw_ hk hS (by decide),by rw[List.length_set];exact h.el,h.fl,h.wl,h.fz,h.wz,h.ne,h.pB⟩
theorem StAt.setF(h:StAt w B p S A E F W ge gf gw)(i x:Nat)(hx:x<M41):StAt (w.setCell ⟨gf,i,none⟩ (.int .u64 (x:Nat))) B p S A E (F.set i x) W ge gf gw:=by
 have hk:K1 gf w (w.setCell ⟨gf,i,none⟩ (.int .u64 (x:Nat))):=Qg _ _;have hS:Ty (fun k=>k=gf) w TBi:=QO h.rf;have hn:=h.ne;exact⟨QA h.blk hk hS (by decide),Qk h.pl hk hS (by decide),h.pr.off hk (Qv hS (by decide)) (Qv hS (by decide)),h.of_.off hk (Qv hS (by decide)) (Qv hS (by decide)),h.ve,h.vf,h.vw,
  QA h.re hk hS (by decide),by have:=h.rf.set i (.int .u64 (x:Nat));rwa[biV_set] at this,h.rw_.kp hk (fun e=>hn e.symm),h.el,by rw[List.length_set];exact h.fl,h.wl,set_lt h.fz i x hx,h.wz,h.ne,h.pB⟩
theorem StAt.setW(h:StAt w B p S A E F W ge gf gw)(i x:Nat)(hx:x<M41):StAt (w.setCell ⟨gw,i,none⟩ (.int .u64 (x:Nat))) B p S A E F (W.set i x) ge gf gw:=by
 have hk:K1 gw w (w.setCell ⟨gw,i,none⟩ (.int .u64 (x:Nat))):=Qg _ _;have hS:Ty (fun k=>k=gw) w TBi:=QO h.rw_;have hn:=h.ne;exact⟨QA h.blk hk hS (by decide),Qk h.pl hk hS (by decide),h.pr.off hk (Qv hS (by decide)) (Qv hS (by decide)),h.of_.off hk (Qv hS (by decide)) (Qv hS (by decide)),h.ve,h.vf,h.vw,
  QA h.re hk hS (by decide),h.rf.kp hk (fun e=>hn e),by have:=h.rw_.set i (.int .u64 (x:Nat));rwa[biV_set] at this,h.el,h.fl,by rw[List.length_set];exact h.wl,h.fz,set_lt h.wz i x hx,h.ne,h.pB⟩
end
def SyR(w:World)(g off:Nat)(l:List SY):Prop:=∀i (h:i<l.length),w.cell? ⟨g,off+i*2,none⟩=some (.bool l[i].place)∧w.cell? ⟨g,off+i*2+1,none⟩=some (.int .i64 l[i].n)
def SyS(w:World)(a:Option Addr)(l:List SY):Prop:=l≠[]→∃g off,a=some ⟨g,off,none⟩∧SyR w g off l
theorem SyS.kn{w w':World}{a:Option Addr}{l:List SY}(h:SyS w a l)(hk:Kn w w'):SyS w' a l:=fun hne=>by
 obtain⟨g,off,ha,h1⟩:=h hne;exact⟨g,off,ha,fun i hi=>⟨Qc hk (h1 i hi).1,Qc hk (h1 i hi).2⟩⟩
theorem SyS.of{w:World}{B:Nat}{v:Value}{l:List SY}(h:OwnK w B TSy 2 v (l.map syL)):∃a c,v= .slice a l.length c∧l.length≤c∧c≤maxLen∧(l≠[]→∃g,a=some ⟨g,0,none⟩∧SyR w g 0 l∧∃cur,w.heap[g]? =some (.cells cur TSy (0,0))):=by
 obtain⟨a,c,hv,h1,h2,hg⟩:=h.row (fun C hC=>by obtain⟨x,_,rfl⟩:=List.mem_map.1 hC;rfl);rw[List.length_map] at hv h1;refine⟨a,c,hv,h1,h2,fun hne=> ?_⟩;obtain⟨g,ha,_,ho,hc⟩:=hg (by simpa using hne);refine⟨g,ha,fun i hi=> ?_,QX h ho⟩;have e0:=(hc i (by simpa using hi) 0 (by omega)).1;have e1:=(hc i (by simpa using hi) 1 (by omega)).1;rw[show 0+2*i+0=0+i*2 by omega] at e0;rw[show 0+2*i+1=0+i*2+1 by omega] at e1;rw[e0,e1];simp[syL]
theorem beginsF_lt{E:List Bool}{F:List Nat}(hF:∀x∈F,x<M41):∀(l:List SY) (x:Nat),x<M41→(QB E F x l).1<M41
 |[],x,h=>h
 |y::l,x,h=>by
  unfold QB;split
  ·exact or_lt h (oneB_lt _)
  ·split
   ·exact h
   ·have h1:=or_lt h (getD_lt hF (by decide) y.n.toNat);split
    ·exact beginsF_lt hF l _ h1
    ·exact h1
theorem with_kn(x y:Nat)(hx:x<M41)(hy:y<M41)(w:World):Calls Tryz.prog 116 #[.agg #[.int .u64 (x:Nat)],.agg #[.int .u64 (y:Nat)]] w fun e w'=>e= .returned (.agg #[.int .u64 ((x|||y:Nat):Int)])∧Kn w w':=swith_c x y hx hy w
theorem beginsF_step(E:List Bool)(F:List Nat)(x:Nat)(l:List SY)(k:Nat)(hk:k<l.length):QB E F x (l.drop k)=if l[k].place=false then(x|||oneB l[k].n,false) else if l[k].n<0∨(E.length:Int)≤l[k].n then(x,false)
  else if E.getD l[k].n.toNat false=true then QB E F (x|||F.getD l[k].n.toNat 0) (l.drop (k+1)) else(x|||F.getD l[k].n.toNat 0,false):=by
 rw[List.drop_eq_getElem_cons hk];try rfl
theorem begins_c{B p c ge gf gw:Nat}{a:Option Addr}{S:SB}{A:SA}{E:List Bool}{F W:List Nat}{w:World}(l:List SY)(h:StAt w B p S A E F W ge gf gw)(hS:S.places.length≤500)(hl:SyS w a l)(hll:l.length≤1000000):
  Calls Tryz.prog 115 #[ptr p,.slice a l.length c] w fun e w'=>e= .returned (.tuple #[.agg #[.int .u64 ((QB E F 0 l).1:Nat)],.bool (QB E F 0 l).2])∧Kn w w':=by
 have HEL:=h.el;have hFl:=h.fz;have hpl:=h.lt;have H:=Qh h;have HL:=Qh hl;obtain⟨b4,hb4⟩:∃z,z=w.heap.size:=⟨_,rfl⟩;obtain⟨b6,hb6⟩:∃z,z=w.heap.size+1:=⟨_,rfl⟩;obtain⟨w1,hw1⟩:∃z,z=(w.alloc (.cells #[.int .u64 0] TBi)).alloc (.cells #[.int .u64 0] TBi):=⟨_,rfl⟩;have hk1:Kn w w1:=by rw[hw1];exact((Qb _ _).alloc _).alloc _
 have hB4:w1.heap[b4]? =some (.cells #[.int .u64 0] TBi (0,0)):=by rw[hw1,hb4];exact Qr (Qf _ _) _
 have hB6:w1.heap[b6]? =some (.cells #[.int .u64 0] TBi (0,0)):=by
  have:=Qf (w.alloc (.cells #[.int .u64 0] TBi)) (.cells #[.int .u64 0] TBi);rw[size_alloc',←hb6,←hw1] at this;exact this
 have n46:b4≠b6:=by omega
 have hb4w:w.heap.size≤b4:=by omega
 have hb6w:w.heap.size≤b6:=by omega
 have HW:=Qh (And.intro hw1 (And.intro hb4 hb6));have HB4:=Qh hB4;have HB6:=Qh hB6;have HZ0:Hid ((0:Nat)<M41):=Qh (by decide);clear h hl hw1 hb4 hb6 hB4 hB6;go_enter Tryz.func115,Tryz.ntmps115;go_upto_region 2 with fail
 rw[←HW.out.1,←HW.out.2.2,←HW.out.2.1];go_wp2_with fail
 go_loopw [11] (fun s11 wr=>∃(k x:Nat),s11= .int .i64 k∧k≤l.length∧Hid (QB E F x (l.drop k)=QB E F 0 l)∧x<M41∧Hid (wr.heap[b6]? =some (.cells #[.int .u64 (x:Nat)] TBi (0,0)))∧Hid (wr.heap[b4]? =some (.cells #[.int .u64 0] TBi (0,0)))∧Kn w wr) (fun s11 _=>l.length-(intOf s11).toNat)
 case atStart=>exact⟨0,0,rfl,Nat.zero_le _,Qh rfl,HZ0.out,HB6,HB4,hk1⟩
 case round=>
  clear HB4 HB6 hk1 HW;obtain⟨k,x,rfl,hk,hbf,hx,hb6,hb4,hkn⟩:=hrel;have c6:wr.cell? ⟨b6,0,none⟩=some (.int .u64 (x:Nat)):=by rw[Qa hb6.out];try rfl
  have c4:wr.cell? ⟨b4,0,none⟩=some (.int .u64 0):=by rw[Qa hb4.out];try rfl
  have f4:=Qd hb4.out 0;have l4:=Ql hb4.out;have l6:=Ql hb6.out;by_cases hlt:k<l.length
  ·obtain⟨g,off,rfl,hc⟩:=HL.out (fun e=>by rw[e] at hlt;simp at hlt);obtain⟨c0,c1⟩:=hc k hlt;have x0:=Qc hkn c0;have x1:=Qc hkn c1;have HST:=Qh (beginsF_step E F x l k hlt);obtain⟨y,hy⟩:∃y,y=l[k]:=⟨_,rfl⟩;rw[←hy] at x0 x1 HST;have hgl:=World.block_lt_of_cell? wr _ x0;obtain⟨w2,hw2⟩:∃z,z=wr.alloc (.cells #[.bool y.place,.int .i64 y.n] TSy):=⟨_,rfl⟩;have hk2:Kn wr w2:=by rw[hw2];exact(Qb _ _).alloc _
   obtain⟨b8,hb8⟩:∃z,z=wr.heap.size:=⟨_,rfl⟩;have hB8:w2.heap[b8]? =some (.cells #[.bool y.place,.int .i64 y.n] TSy (0,0)):=by rw[hw2,hb8];exact Qf _ _
   have n84:b8≠b4:=by omega
   have n86:b8≠b6:=by omega
   have y0:w2.cell? ⟨b8,0,none⟩=some (.bool y.place):=by rw[Qa hB8];try rfl
   have y1:w2.cell? ⟨b8,1,none⟩=some (.int .i64 y.n):=by rw[Qa hB8];try rfl
   have hkn2:=hkn.trans hk2;have d6:=Qc hk2 c6;have d4:=Qc hk2 c4;have f42:=Qd (hk2.blk hb4.out (fun x=>x)) 0;have HB42:=Qh (hk2.blk hb4.out (fun x=>x));have HB62:=Qh (hk2.blk hb6.out (fun x=>x));have HW2:=Qh (And.intro hw2 hb8);clear hy hc c0 c1 hw2 hb8 hk2 hB8;go_upto_region 5 with fail
   rw[←HW2.out.1,←HW2.out.2];clear x0 x1 HW2 c6 c4 f4 hgl hb6 hb4 hkn;cases hyp:y.place with
   |false=>
    rw[hyp] at y0;have hF:Hid (QB E F 0 l=(x|||oneB y.n,false)):=Qh (by rw[←hbf.out,HST.out,if_pos hyp]);have ho:=oneB_lt y.n;clear hyp HST hbf;go_wp2_with fail
    refine rgn (fun w'=>w'.cell? ⟨b6,0,none⟩=some (.int .u64 (x:Nat))∧w'.cell? ⟨b8,1,none⟩=some (.int .i64 y.n)) (X:=[]) ⟨Qc ((Qb _ _).drew) d6,Qc ((Qb _ _).drew) y1⟩ (fun hX hHeld=> ?_);refine tk 0 18 ?_;refine tw 1 19 ?_;refine tk 2 20 ?_;refine ro 3 (fun K hK=> ?_);go_simp
    go_at_call 68
    refine(sone_c y.n _).mono ?_;rintro e w4 ⟨rfl,hk4⟩;refine hK.out _ _ (⟨Qc hk4 hHeld.1,Qc hk4 hHeld.2⟩) (fun hHeld=> ?_);clear hK K
    try simp only[PP]
    refine ro 4 (fun K hK=> ?_);go_simp
    go_at_call 116
    refine(with_kn x (oneB y.n) hx ho _).mono ?_;rintro e w5 ⟨rfl,hk5⟩;have hk25:Kn w2 w5:=(((Qb _ _).drew).trans hk4).trans hk5;have g4:=Qc hk25 d4;have fr4:=Qd (hk25.blk HB42.out (fun x=>x)) 0;refine hK.out _ _ (⟨Qc hk5 hHeld.1,Qc hk5 hHeld.2⟩) (fun hHeld=> ?_);clear hK K
    try simp only[PP]
    refine ro 5 (fun K hK=> ?_);go_simp;obtain⟨w9,hw9⟩:∃z,z=w5.setCell ⟨b4,0,none⟩ (.int .u64 ((x|||oneB y.n:Nat):Int)):=⟨_,rfl⟩;have hk9:K1 b4 w5 w9:=by rw[hw9];exact Qg _ _
    have HK9:=Qh ((hkn2.trans hk25).trans' hk9 (fun i hi e=>by omega));have r4:w9.cell? ⟨b4,0,none⟩=some (.int .u64 ((x|||oneB y.n:Nat):Int)):=by rw[hw9,Qa (Qj (hk25.blk HB42.out (fun x=>x)) 0 _)];try rfl
    rw[←hw9];refine hK.out _ _ (⟨Qi hk9 hHeld.1 (fun e=>n46 e.symm),Qi hk9 hHeld.2 n84⟩) (fun hHeld=> ?_);clear hk25 hk4 hk5 hw9 hk9 g4 fr4;clear hK K
    try simp only[PP]
    refine re 6 (fun K hK=> ?_);go_simp;clear hHeld;refine hK.out _ _ ?_;clear hK K;go_wp2_with fail
    (try simp only[Exit.inBlock,Exit.then])
    refine bodyPost_ret (resBT rfl rfl rfl ?_) rfl ⟨by rw[hF.out];try rfl,HK9.out⟩
    first|exact r4|exact QI HB42.out|exact QI HB49.out|exact QI hb4.out
   |true=>
    rw[hyp] at y0;have hST2:Hid (QB E F 0 l=if y.n<0∨(E.length:Int)≤y.n then(x,false) else if E.getD y.n.toNat false=true then QB E F (x|||F.getD y.n.toNat 0) (l.drop (k+1)) else(x|||F.getD y.n.toNat 0,false)):=Qh (by rw[←hbf.out,HST.out,if_neg (by rw[hyp];simp)]);obtain⟨ap,cp,p0⟩:=(H.out.kn hkn2).pcs;clear hyp HST hbf;by_cases hn:y.n<0∨(E.length:Int)≤y.n
    ·have hF:Hid (QB E F 0 l=(x,false)):=Qh (by rw[hST2.out,if_pos hn]);have hn2:y.n<0∨¬y.n<0∧(S.places.length:Int)≤y.n:=by omega
     clear hST2 hn;rcases hn2 with hn|⟨hn,hn2⟩
     ·go_wp2_with fail
      go_quiet (fail)
      go_wp2_with fail
      (try simp only[Exit.inBlock,Exit.then])
      refine bodyPost_ret (resBT rfl rfl rfl ?_) rfl ⟨by rw[hF.out];try rfl,(hkn2.drewN _).setCell (fun hp=>absurd hp (by show¬b4<_;omega)) _⟩
      first|exact r4|exact QI HB42.out|exact QI HB49.out|exact QI hb4.out
     ·go_wp2_with fail
      go_quiet (fail)
      go_wp2_with fail
      (try simp only[Exit.inBlock,Exit.then])
      refine bodyPost_ret (resBT rfl rfl rfl ?_) rfl ⟨by rw[hF.out];try rfl,(hkn2.drewN _).setCell (fun hp=>absurd hp (by show¬b4<_;omega)) _⟩
      first|exact r4|exact QI HB42.out|exact QI HB49.out|exact QI hb4.out
    ·have hn1:¬y.n<0:=fun h=>hn (.inl h)
     have hn2:¬(S.places.length:Int)≤y.n:=fun h=>hn (.inr (by omega))
     obtain⟨m,hm⟩:=Int.eq_ofNat_of_zero_le (show 0≤y.n by omega);rw[hm] at y1 hn1 hn2;have hST3:Hid (QB E F 0 l=if E.getD m false=true then QB E F (x|||F.getD m 0) (l.drop (k+1)) else(x|||F.getD m 0,false)):=Qh (by rw[hST2.out,if_neg hn,hm];try rfl);have hml:m<S.places.length:=by omega
     clear hST2 hn;go_wp2_with fail
     go_quiet (fail)
     obtain⟨w3,hw3⟩:∃z,z=w2.drewN nq:=⟨_,rfl⟩;have hk3:Kn w2 w3:=by rw[hw3];exact(Qb _ _).drewN _
     rw[←hw3];have e6:=Qc hk3 d6;have e1:=Qc hk3 y1;have hkn3:=hkn2.trans hk3;have HB43:=Qh (hk3.blk HB42.out (fun x=>x));have HB63:=Qh (hk3.blk HB62.out (fun x=>x));have H3:=H.out.kn hkn3;have e0:=H3.c6;have ef:=H3.fcell hml;have hfm:=getD_lt hFl (by decide) m;obtain⟨fm,hfe⟩:∃z,z=F.getD m 0:=⟨_,rfl⟩;rw[←hfe] at ef hfm hST3;clear hw3 hk3 d6 d4 f42 y0 y1 p0 HB42 HB62 hfe H3;go_wp2_with fail
     refine rgn (fun w'=>w'.cell? ⟨b6,0,none⟩=some (.int .u64 (x:Nat))∧w'.cell? ⟨b8,1,none⟩=some (.int .i64 (m:Nat))∧w'.cell? ⟨p,6,none⟩=some (.slice (some ⟨gf,0,none⟩) S.places.length S.places.length)∧w'.cell? ⟨gf,m,none⟩=some (.int .u64 (fm:Nat))) (X:=[]) ⟨Qc ((Qb _ _).drew) e6,Qc ((Qb _ _).drew) e1,Qc ((Qb _ _).drew) e0,Qc ((Qb _ _).drew) ef⟩ (fun hX hHeld=> ?_);refine tk 0 37 ?_;refine tw 1 38 ?_;refine tw 2 39 ?_;refine tw 3 40 ?_;refine tk 4 41 ?_;refine tw 5 42 ?_;refine tk 6 43 ?_;refine tw 7 44 ?_;refine tk 8 45 ?_;refine ro 9 (fun K hK=> ?_);go_simp
     go_at_call 116
     refine(with_kn x fm hx hfm _).mono ?_;rintro e w5 ⟨rfl,hk5⟩;have hk35:Kn w3 w5:=((Qb _ _).drew).trans hk5;have HB45:=Qh (hk35.blk HB43.out (fun x=>x));have HB65:=Qh (hk35.blk HB63.out (fun x=>x));have fr6:=Qd HB65.out 0;have HK5:=Qh (hkn3.trans hk35);have z1:=Qh (Qc hk35 e1);refine hK.out _ _ (⟨Qc hk5 hHeld.1,Qc hk5 hHeld.2.1,Qc hk5 hHeld.2.2.1,Qc hk5 hHeld.2.2.2⟩) (fun hHeld=> ?_);clear hk35 hk5 e0 e1 e6 ef;clear hK K
     try simp only[PP]
     refine re 10 (fun K hK=> ?_);go_simp;obtain⟨w9,hw9⟩:∃z,z=w5.setCell ⟨b6,0,none⟩ (.int .u64 ((x|||fm:Nat):Int)):=⟨_,rfl⟩;have hk9:K1 b6 w5 w9:=by rw[hw9];exact Qg _ _
     have HK9:=Qh (HK5.out.trans' hk9 (fun i hi e=>by omega));have HB49:=Qh (hk9.blk HB45.out n46);have HB69:Hid (w9.heap[b6]? =some (.cells #[.int .u64 ((x|||fm:Nat):Int)] TBi (0,0))):=Qh (by rw[hw9];exact Qj HB65.out 0 _)
     replace z1:=Qh (Qi hk9 z1.out n86)
     rw[←hw9];clear hw9 hk9 hHeld fr6;refine hK.out _ _ ?_;clear hK K;have H5:=H.out.kn HK9.out;have e5:=H5.c5;have ee:=H5.ecell hml;have s1:=z1.out;have g4:w9.cell? ⟨b4,0,none⟩=some (.int .u64 0):=by rw[Qa HB49.out];try rfl
     have g6:w9.cell? ⟨b6,0,none⟩=some (.int .u64 ((x|||fm:Nat):Int)):=by rw[Qa HB69.out];try rfl
     have fr4:=Qd HB49.out 0;have hxf:=or_lt hx hfm;have l49:=Ql HB49.out;clear H5;cases hE:E.getD m false with
     |false=>
      rw[hE] at ee;have hF:Hid (QB E F 0 l=(x|||fm,false)):=Qh (by rw[hST3.out,if_neg (by rw[hE];simp)]);clear hE hST3;go_wp2_with fail
      go_quiet (fail)
      go_wp2_with fail
      (try simp only[Exit.inBlock,Exit.then])
      refine bodyPost_ret (resBT rfl rfl rfl ?_) rfl ⟨by rw[hF.out];try rfl,(HK9.out.drewN _).setCell (fun hp=>absurd hp (by show¬b4<_;omega)) _⟩
      first|exact r4|exact QI HB42.out|exact QI HB49.out|exact QI hb4.out
     |true=>
      rw[hE] at ee;have hF:Hid (QB E F (x|||fm) (l.drop (k+1))=QB E F 0 l):=Qh (by rw[hST3.out,if_pos hE]);have hkd:∀n,Kn w9 (w9.drewN n):=fun n=>(Qb _ _).drewN n
      have HKD:=Qh hkd;clear hE hST3 hkd;go_wp2_with fail
      go_quiet (fail)
      go_wp2_with fail
      go_roundw
      case rel=>exact⟨k+1,x|||fm,by go_num,by omega,hF,hxf,Qh ((HKD.out _).blk HB69.out (fun x=>x)),Qh ((HKD.out _).blk HB49.out (fun x=>x)),HK9.out.drewN _⟩
      case measure=>simp[intOf];omega
  ·obtain rfl:k=l.length:=by omega
   have hF:Hid (QB E F 0 l=(x,true)):=Qh (by rw[←hbf.out,List.drop_length];try rfl);go_wp2_with fail
   (try simp only[Exit.inBlock,Exit.then])
   refine bodyPost_ret (resBT rfl rfl rfl ?_) rfl ⟨by rw[hF.out];try rfl,hkn.setCell (fun hp=>absurd hp (by show¬b4<_;omega)) _⟩
   first|exact r4|exact QI HB42.out|exact QI HB49.out|exact QI hb4.out
theorem StAt.prod{w:World}{B p ge gf gw:Nat}{S:SB}{A:SA}{E:List Bool}{F W:List Nat}(h:StAt w B p S A E F W ge gf gw):∃a c,A.vl= .slice a S.l.length c∧w.cell? ⟨p,2,none⟩=some (.slice a S.l.length c)∧(S.l≠[]→∃g,a=some ⟨g,0,none⟩∧
  ∀k (hk:k<S.l.length),w.cell? ⟨g,k*3,none⟩=some (.int .i64 (S.l[k].place:Nat))∧w.cell? ⟨g,k*3+1,none⟩=some (.int .i64 (S.l[k].rule:Nat))∧∃asy cs,w.cell? ⟨g,k*3+2,none⟩=some (.slice asy S.l[k].syms.length cs)∧S.l[k].syms.length≤cs∧cs≤maxLen∧
   (S.l[k].syms≠[]→∃gs,asy=some ⟨gs,0,none⟩∧SyR w gs 0 S.l[k].syms∧∃cur,w.heap[gs]? =some (.cells cur TSy (0,0)))):=by
 obtain⟨a,c,hv,_,_,hg⟩:=h.pr.row.row (fun C hC=>by obtain⟨i,hi,rfl⟩:=List.getElem_of_mem hC;simp[prL]);have hlen:=h.pr.len;rw[List.length_zipWith,hlen,Nat.min_self] at hv;refine⟨a,c,hv,by rw[h.cell 2,←hv];try rfl,fun hne=> ?_⟩;obtain⟨g,ha,_,_,hc⟩:=hg (fun e=>hne (by have h2:=congrArg List.length e;rw[List.length_zipWith,hlen,Nat.min_self] at h2;exact List.eq_nil_of_length_eq_zero h2));refine⟨g,ha,fun k hk=> ?_⟩;have hc3:=hc k (by rw[List.length_zipWith,hlen,Nat.min_self];exact hk);have e0:=(hc3 0 (by omega)).1;have e1:=(hc3 1 (by omega)).1;have e2:=(hc3 2 (by omega)).1;rw[show 0+3*k+0=k*3 by omega] at e0;rw[show 0+3*k+1=k*3+1 by omega] at e1;rw[show 0+3*k+2=k*3+2 by omega] at e2;obtain⟨asy,cs,hvs,h1,h2,h3⟩:=SyS.of (h.pr.syms k (by omega) hk);refine⟨by rw[e0];simp[prL],by rw[e1];simp[prL],asy,cs,by rw[e2];simp[prL,hvs],h1,h2,h3⟩
def FK(l:List PR)(a:FS)(k:Nat):FS:=(l.take k).foldl Ya a
theorem FK_succ{l:List PR}{k:Nat}(a:FS)(hk:k<l.length):FK l a (k+1)=Ya (FK l a k) l[k]:=by
 unfold FK;rw[List.take_succ_eq_append_getElem hk,List.foldl_append];try rfl
abbrev FSt(ge gf:Nat):World→World→Prop:=Kp (fun k=>k=ge∨k=gf)
theorem firsts_c{B p ge gf gw:Nat}{S:SB}{A:SA}{E:List Bool}{F W:List Nat}{w:World}(h:StAt w B p S A E F W ge gf gw)(ok:SBok S):
  Calls Tryz.prog 67 #[ptr p] w fun e w'=>e= .returned (.bool (YU S.l (E,F)).more)∧StAt w' B p S A (YU S.l (E,F)).empty (YU S.l (E,F)).first W ge gf gw∧FSt ge gf w w':=by
 have hpl:=h.lt;have H:=Qh h;have HOK:=Qh ok;have hle:=ok.le;obtain⟨al,cl,hvl,q2,hg⟩:=h.prod;have HVL:=Qh hvl;have hll:=ok.ll;have HG:=Qh hg;have HTT:Hid (∀(x y:Bool),(x==y)=decide (x=y)):=Qh (by decide);clear h ok hg hvl;go_enter Tryz.func67,Tryz.ntmps67;go_wp2_with fail
 go_loopw [3,13] (fun s3 s13 wr=>∃(k:Nat) (a:FS),s3= .bool a.more∧s13= .int .i64 k∧k≤S.l.length∧Hid (a=FK S.l ⟨E,F,false⟩ k)∧Hid (StAt wr B p S A a.empty a.first W ge gf gw)∧FSt ge gf w wr) (fun _ s13 _=>S.l.length-(intOf s13).toNat)
 case atStart=>exact⟨0,⟨E,F,false⟩,rfl,rfl,Nat.zero_le _,Qh rfl,H,Qb _ _⟩
 case round=>
  obtain⟨k,a,rfl,rfl,hk,hak,hst,hkp⟩:=hrel;by_cases hlt:k<S.l.length
  ·obtain⟨ar,cr,hv2,q2r,hgr⟩:=hst.out.prod;obtain⟨rfl,rfl⟩:ar=al∧cr=cl:=by
    have h9:=hv2.symm.trans HVL.out;injection h9 with e1 e2 e3;exact⟨e1,e3⟩
   obtain⟨g,rfl,hcs⟩:=hgr (fun e=>by rw[e] at hlt;simp at hlt);obtain⟨c0,c1,asy,cs,c2,hcs1,hcs2,hsy⟩:=hcs k hlt;obtain⟨hpp,hpr,hps,hpy⟩:=HOK.out.pr _ (List.getElem_mem hlt);have HST:=Qh (FK_succ ⟨E,F,false⟩ hlt);obtain⟨pr,hpre⟩:∃z,z=S.l[k]:=⟨_,rfl⟩;rw[←hpre] at c0 c1 c2 hcs1 hsy hpp hps HST;rw[←hak.out] at HST;have hgl3:=World.block_lt_of_cell? wr _ c0;obtain⟨w2,hw2⟩:∃z,z=wr.alloc (.cells #[.int .i64 (pr.place:Nat),.int .i64 (pr.rule:Nat),.slice asy pr.syms.length cs] TPr):=⟨_,rfl⟩;have hk2:Kn wr w2:=by rw[hw2];exact(Qb _ _).alloc _
   obtain⟨b5,hb5⟩:∃z,z=wr.heap.size:=⟨_,rfl⟩;have hB5:w2.heap[b5]? =some (.cells #[.int .i64 (pr.place:Nat),.int .i64 (pr.rule:Nat),.slice asy pr.syms.length cs] TPr (0,0)):=by rw[hw2,hb5];exact Qf _ _
   have y0:w2.cell? ⟨b5,0,none⟩=some (.int .i64 (pr.place:Nat)):=by rw[Qa hB5];try rfl
   have y2:w2.cell? ⟨b5,2,none⟩=some (.slice asy pr.syms.length cs):=by rw[Qa hB5];try rfl
   have HS2:=Qh (hst.out.kn hk2);have hkp2:=hkp.trans (Kp.weak hk2);have HBG:=Qh (begins_c (c:=cs) (a:=asy) pr.syms HS2.out hle (fun hne=>by obtain⟨gs,hgs,hr,_⟩:=hsy hne;exact⟨gs,0,hgs,fun i hi=>⟨Qc hk2 (hr i hi).1,Qc hk2 (hr i hi).2⟩⟩) (by omega));have hrl:=beginsF_lt (E:=a.empty) hst.out.fz pr.syms 0 (by decide);obtain⟨r,hr⟩:∃z,z=QB a.empty a.first 0 pr.syms:=⟨_,rfl⟩;rw[←hr] at HBG hrl;have HF2:Hid (Ya a pr=⟨a.empty.set pr.place (r.2||a.empty.getD pr.place false),a.first.set pr.place (r.1|||a.first.getD pr.place 0),
    a.more||(decide (r.1|||a.first.getD pr.place 0≠a.first.getD pr.place 0)||(r.2&& !a.empty.getD pr.place false))⟩):=Qh (by rw[hr];try rfl)
   have hfm:=getD_lt hst.out.fz (by decide) pr.place;have HW2:=Qh (And.intro hw2 hb5);have HG5:Hid (b5≠ge∧b5≠gf):=Qh (by have h1:=Ql hst.out.re;have h2:=Ql hst.out.rf;omega);clear hw2 hb5 hB5 hk2 hpre hr hcs hgr hsy;go_upto_region 5 with fail
   rw[←HW2.out.1,←HW2.out.2];clear c0 c1 c2 HW2 hgl3 q2r hv2;go_wp2_with (first|(go_at_call 115;go_must (refine HBG.out.mono ?_;rintro e w3 ⟨rfl,hk3⟩;have z0:=Qc hk3 y0;have HS3:=Qh (HS2.out.kn hk3);have hkp3:=hkp2.trans (Kp.weak hk3);clear HBG y2 y0 hk3 HS2 hkp2)))
   obtain⟨w4,hw4⟩:∃z,z=w3.alloc (.cells #[.int .u64 (r.1:Nat)] TBi):=⟨_,rfl⟩;have hk4:Kn w3 w4:=by rw[hw4];exact(Qb _ _).alloc _
   obtain⟨b6,hb6⟩:∃z,z=w3.heap.size:=⟨_,rfl⟩;have hB6:w4.heap[b6]? =some (.cells #[.int .u64 (r.1:Nat)] TBi (0,0)):=by rw[hw4,hb6];exact Qf _ _
   have e6:w4.cell? ⟨b6,0,none⟩=some (.int .u64 (r.1:Nat)):=by rw[Qa hB6];try rfl
   have e0:=Qc hk4 z0;have hb56:b5≠b6:=by have:=World.block_lt_of_cell? w3 _ z0;have:b5<w3.heap.size:=this;omega
   rw[←hw4,←hb6];have HB6:=Qh hB6;have HK34:=Qh hk4;have HS4:=HS3.out.kn hk4;have c6:=HS4.c6;have ef:=HS4.fcell hpp;obtain⟨fm,hfe⟩:∃z,z=a.first.getD pr.place 0:=⟨_,rfl⟩;rw[←hfe] at ef hfm HF2;have HFE:=Qh hfe;have hb6l:w3.heap.size≤b6:=by omega
   have HG6:Hid (b6≠gf):=Qh (by have h2:=Ql HS3.out.rf;omega);clear hw4 hk4 hB6 z0 hfe HS4 hb6;refine rgn (fun w'=>w'.cell? ⟨b6,0,none⟩=some (.int .u64 (r.1:Nat))∧w'.cell? ⟨b5,0,none⟩=some (.int .i64 (pr.place:Nat))∧w'.cell? ⟨p,6,none⟩=some (.slice (some ⟨gf,0,none⟩) S.places.length S.places.length)∧w'.cell? ⟨gf,pr.place,none⟩=some (.int .u64 (fm:Nat))) (X:=[]) ⟨Qc ((Qb _ _).drew) e6,Qc ((Qb _ _).drew) e0,Qc ((Qb _ _).drew) c6,Qc ((Qb _ _).drew) ef⟩ (fun hX hHeld=> ?_);refine tk 0 24 ?_;refine tw 1 25 ?_;refine tw 2 26 ?_;refine tw 3 27 ?_;refine tk 4 28 ?_;refine tw 5 29 ?_;refine tk 6 30 ?_;refine tw 7 31 ?_;refine tk 8 32 ?_;refine ro 9 (fun K hK=> ?_);go_simp
   go_at_call 116
   refine(with_kn r.1 fm hrl hfm _).mono ?_;rintro e v3 ⟨rfl,hk5⟩;have hk35:Kn w4 v3:=((Qb _ _).drew).trans hk5;have HB63:=Qh (hk35.blk HB6.out (fun x=>x));have fr6:=Qd HB63.out 0;have z1:=Qh (Qc hk35 e0);have HK35:=Qh (HK34.out.trans hk35);refine hK.out _ _ (⟨Qc hk5 hHeld.1,Qc hk5 hHeld.2.1,Qc hk5 hHeld.2.2.1,Qc hk5 hHeld.2.2.2⟩) (fun hHeld=> ?_);clear hk35 hk5 e0 e6 c6 ef;clear hK K
   try simp only[PP]
   refine re 10 (fun K hK=> ?_);go_simp;obtain⟨w5,hw5⟩:∃z,z=v3.setCell ⟨b6,0,none⟩ (.int .u64 ((r.1|||fm:Nat):Int)):=⟨_,rfl⟩;have hk9:K1 b6 v3 w5:=by rw[hw5];exact Qg _ _
   have HB65:Hid (w5.heap[b6]? =some (.cells #[.int .u64 ((r.1|||fm:Nat):Int)] TBi (0,0))):=Qh (by rw[hw5];exact Qj HB63.out 0 _);have hk5:Kn w3 w5:=HK35.out.trans' hk9 (fun i hi e=>by omega);have HS5:=Qh (HS3.out.kn hk5);have HKP5:=Qh (hkp3.trans (Kp.weak hk5))
   replace z1:=Qh (Qi hk9 z1.out hb56)
   rw[←hw5];clear hw5 hk9 hk5 hHeld fr6;refine hK.out _ _ ?_;clear hK K;obtain⟨x1,hx1⟩:∃z,z=r.1|||fm:=⟨_,rfl⟩;rw[←hx1] at HF2 HB65;have hx1l:=or_lt hrl hfm;rw[←hx1] at hx1l;have c6:=HS5.out.c6;have c5:=HS5.out.c5;have ef:=HS5.out.fcell hpp;rw[←HFE.out] at ef;have ee:=HS5.out.ecell hpp;have e6:w5.cell? ⟨b6,0,none⟩=some (.int .u64 (x1:Nat)):=by rw[Qa HB65.out];try rfl
   have ez:=z1.out;obtain⟨em,hem⟩:∃z,z=a.empty.getD pr.place false:=⟨_,rfl⟩;rw[←hem] at ee HF2;obtain⟨al,hal⟩:∃z,z=r.2:=⟨_,rfl⟩;rw[←hal] at HF2⊢;obtain⟨cd,hcd⟩:∃z,z=(decide (x1≠fm)||(al&& !em)):=⟨_,rfl⟩;rw[←hcd] at HF2;have HCD:=Qh hcd;have HEM:=Qh hem;clear hx1 hem hcd hal;go_upto_region 7 with fail
   go_cut [57] (fun s57 wc=>s57= .bool cd∧Kn w5 wc)
   case first=>
    by_cases hx:x1=fm
    ·subst hx;have hcd:cd=(al&& !em):=by rw[HCD.out,decide_eq_false (fun h=>h rfl)];try rfl
     cases al with
     |false=>
      go_quiet (fail)
      go_wp2_with fail
      go_meet
      case rel=>exact⟨by rw[hcd];try rfl,(Qb _ _).drewN _⟩
     |true=>
      go_quiet (fail)
      go_wp2_with fail
      go_meet
      case rel=>exact⟨by rw[hcd];try rfl,(Qb _ _).drewN _⟩
    ·have hx2:¬(x1:Int)=fm:=by omega
     have hcd:cd=true:=by rw[HCD.out,decide_eq_true hx];try rfl
     clear hx;go_quiet (fail)
     go_wp2_with fail
     go_meet
     case rel=>exact⟨by rw[hcd],(Qb _ _).drewN _⟩
   case rest=>
    obtain⟨rfl,hkc⟩:=hcut;have HS6:=Qh (HS5.out.kn hkc);have HKP6:=Qh (HKP5.out.trans (Kp.weak hkc));have HB66:=Qh (hkc.blk HB65.out (fun x=>x));have z6:=Qh (Qc hkc ez);clear HS5 HKP5 HB65 c6 c5 ef ee e6 ez z1 hkc;obtain⟨w6,hw6⟩:∃z,z=wc:=⟨_,rfl⟩;subst hw6
    go_upto_if 57 with fail
    go_cut [3] (fun s3 wc=>s3= .bool (a.more||cd)∧wc=w6)
    case first=>
     cases cd with
     |true=>
      go_wp2_with fail
      go_meet
      case rel=>exact⟨by simp,rfl⟩
     |false=>
      go_wp2_with fail
      go_meet
      case rel=>exact⟨by simp,rfl⟩
    case rest=>
     obtain⟨rfl,rfl⟩:=hcut;have c6:=HS6.out.c6;have c5:=HS6.out.c5;have ee:=HS6.out.ecell hpp;rw[←HEM.out] at ee;have e6:wc.cell? ⟨b6,0,none⟩=some (.int .u64 (x1:Nat)):=by rw[Qa HB66.out];try rfl
     have ez:=z6.out;have hfr:∀i:Nat,wc.frozen? ⟨gf,i,none⟩=false:=fun i=>HS6.out.rf.fr i
     have hcf:=HS6.out.fcell hpp;have hfre:=HS6.out.re.fr pr.place;have hgeq:gf≠ge:=fun e=>by have h1:=HS6.out.rf;have h2:=HS6.out.re;rw[e] at h1;exact Qn h1 h2 (by decide)
     clear HB66 z6;go_wp2_with fail
     have HS7:=Qh ((HS6.out.kn (w':=wc.drew) (Qb _ _).drew).setF pr.place x1 hx1l);have HS8:=Qh (HS7.out.setE pr.place (al||em));have HKP8:Hid (FSt ge gf w ((wc.drew.setCell ⟨gf,pr.place,none⟩ (.int .u64 (x1:Nat))).setCell ⟨ge,pr.place,none⟩ (.bool (al||em)))):=Qh (((HKP6.out.drew).trans ((Qg _ _).mono (fun i hi e=>Or.inr e))).trans ((Qg _ _).mono (fun i hi e=>Or.inl e)));have HFN:Hid (Ya a pr=⟨a.empty.set pr.place (al||em),a.first.set pr.place x1,a.more||cd⟩):=HF2;have HNG:Hid (p≠gf∧b5≠gf∧b6≠gf):=Qh ⟨fun e=>by have h1:=HS6.out.blk;have h2:=HS6.out.rf;rw[e] at h1;exact Qn h1 h2 (by decide),HG5.out.2,HG6.out⟩;clear HCD HF2;cases al with
     |false=>
      rw[Bool.false_or] at HS8 HKP8 HFN;refine rgn (fun w'=>w'.cell? ⟨p,6,none⟩=some (.slice (some ⟨gf,0,none⟩) S.places.length S.places.length)∧w'.cell? ⟨p,5,none⟩=some (.slice (some ⟨ge,0,none⟩) S.places.length S.places.length)∧w'.cell? ⟨b5,0,none⟩=some (.int .i64 (pr.place:Nat))∧w'.cell? ⟨b6,0,none⟩=some (.int .u64 (x1:Nat))∧w'.cell? ⟨ge,pr.place,none⟩=some (.bool em)) (X:=[]) ⟨Qc ((Qb _ _).drew) c6,Qc ((Qb _ _).drew) c5,Qc ((Qb _ _).drew) ez,Qc ((Qb _ _).drew) e6,Qc ((Qb _ _).drew) ee⟩ (fun hX hHeld=> ?_);refine tw 0 58 ?_;refine tw 1 59 ?_;refine tw 2 60 ?_;refine tk 3 61 ?_;refine tw 4 62 ?_;refine tk 5 63 ?_;refine tw 6 64 ?_;refine tw 7 65 ?_;refine tw 8 66 ?_;refine tk 9 67 ?_;refine tw 10 68 ?_;refine tk 11 69 ?_;refine tk 12 70 ?_;refine tw 13 71 ?_;refine tw 14 72 ?_;refine tw 15 73 ?_;refine tw 16 74 ?_;refine tw 17 75 ?_;refine tk 18 76 ?_;refine tw 19 77 ?_;refine tk 20 78 ?_;refine tw 21 79 ?_;refine tk 22 80 ?_;refine tw 23 81 ?_;refine tw 24 82 ?_;refine ro 25 (fun K hK=> ?_);go_simp;have hk9:K1 gf wc.drew (wc.drew.setCell ⟨gf,pr.place,none⟩ (.int .u64 (x1:Nat))):=Qg _ _;refine hK.out _ _ (⟨Qi hk9 hHeld.1 HNG.out.1,Qi hk9 hHeld.2.1 HNG.out.1,Qi hk9 hHeld.2.2.1 HNG.out.2.1,Qi hk9 hHeld.2.2.2.1 HNG.out.2.2,Qi hk9 hHeld.2.2.2.2 hgeq.symm⟩) (fun hHeld=> ?_);have e9:=hHeld.2.2.2.2;clear hk9;clear hK K
      try simp only[PP]
      refine tw 26 83 ?_;refine re 27 (fun K hK=> ?_);go_simp;clear hHeld;refine hK.out _ _ ?_;clear hK K;go_wp2_with fail
      go_roundw
      case rel=>exact⟨k+1,Ya a pr,by rw[HFN.out],by go_num,by omega,Qh HST.out.symm,Qh (by rw[HFN.out];exact HS8.out),HKP8.out⟩
      case measure=>simp[intOf];omega
     |true=>
      rw[Bool.true_or] at HS8 HKP8 HFN;refine rgn (fun w'=>w'.cell? ⟨p,6,none⟩=some (.slice (some ⟨gf,0,none⟩) S.places.length S.places.length)∧w'.cell? ⟨p,5,none⟩=some (.slice (some ⟨ge,0,none⟩) S.places.length S.places.length)∧w'.cell? ⟨b5,0,none⟩=some (.int .i64 (pr.place:Nat))∧w'.cell? ⟨b6,0,none⟩=some (.int .u64 (x1:Nat))∧w'.cell? ⟨ge,pr.place,none⟩=some (.bool em)) (X:=[]) ⟨Qc ((Qb _ _).drew) c6,Qc ((Qb _ _).drew) c5,Qc ((Qb _ _).drew) ez,Qc ((Qb _ _).drew) e6,Qc ((Qb _ _).drew) ee⟩ (fun hX hHeld=> ?_);refine tw 0 58 ?_;refine tw 1 59 ?_;refine tw 2 60 ?_;refine tk 3 61 ?_;refine tw 4 62 ?_;refine tk 5 63 ?_;refine tw 6 64 ?_;refine tw 7 65 ?_;refine tw 8 66 ?_;refine tk 9 67 ?_;refine tw 10 68 ?_;refine tk 11 69 ?_;refine tk 12 70 ?_;refine tw 13 71 ?_;refine tw 14 72 ?_;refine tu 15 73 ?_;refine tu 16 74 ?_;refine tu 17 75 ?_;refine tu 18 76 ?_;refine tu 19 77 ?_;refine tu 20 78 ?_;refine tu 21 79 ?_;refine tu 22 80 ?_;refine tw 23 81 ?_;refine tw 24 82 ?_;refine ro 25 (fun K hK=> ?_);go_simp;have hk9:K1 gf wc.drew (wc.drew.setCell ⟨gf,pr.place,none⟩ (.int .u64 (x1:Nat))):=Qg _ _;refine hK.out _ _ (⟨Qi hk9 hHeld.1 HNG.out.1,Qi hk9 hHeld.2.1 HNG.out.1,Qi hk9 hHeld.2.2.1 HNG.out.2.1,Qi hk9 hHeld.2.2.2.1 HNG.out.2.2,Qi hk9 hHeld.2.2.2.2 hgeq.symm⟩) (fun hHeld=> ?_);have e9:=hHeld.2.2.2.2;clear hk9;clear hK K
      try simp only[PP]
      refine tw 26 83 ?_;refine re 27 (fun K hK=> ?_);go_simp;clear hHeld;refine hK.out _ _ ?_;clear hK K;go_wp2_with fail
      go_roundw
      case rel=>exact⟨k+1,Ya a pr,by rw[HFN.out],by go_num,by omega,Qh HST.out.symm,Qh (by rw[HFN.out];exact HS8.out),HKP8.out⟩
      case measure=>simp[intOf];omega
  ·obtain rfl:k=S.l.length:=by omega
   have hfk:a=YU S.l (E,F):=by rw[hak.out];unfold FK YU;rw[List.take_length]
   have HFK:=Qh hfk;clear hfk;go_wp2_with fail
   go_ret;exact⟨by rw[HFK.out];try rfl,by rw[←HFK.out];exact hst.out,hkp⟩
end Go.Proofs.YtiehgcfckhepaaaGreatDoor
