/-
  Texts of this claim, laid together: GBuild, GEsc, GItoa, GClasses, GFin, GRules, GClR, GRuls, TNew, TAcc, UProd, UPure, USize. Conditions: none.
-/
import Derived.Test.YtiehgcfckhepaaaGreatDoorQAA
import Derived.Shelf.Strings.BuilderK
import Derived.Laws.BytesArg
import Derived.Test.YtiehgcfckhepaaaGreatDoorQAJ
import Derived.Laws.AppendOwnNone
set_option linter.unusedVariables false
set_option linter.unusedSimpArgs false
set_option maxRecDepth 100000
set_option maxHeartbeats 16000000
namespace Go.Proofs.YtiehgcfckhepaaaGreatDoor
open Go.Shelf Go.RowKit
abbrev TB:TypeId:=244
abbrev TU8:TypeId:=5
theorem xB:(Tryz.prog.info? TB).map (·.size)=some 2:=by kernel_rfl
theorem info_u8:(Tryz.prog.info? TU8).map (fun i=>(i.zero,i.size,i.bytes))=some (some (.int .u8 0),1,1):=by kernel_rfl
theorem copyCheck_used(b:Nat)(w:World)(h0:w.cell? ⟨b,0,none⟩=some (.pointer (some ⟨b,0,none⟩))):
  Calls Tryz.prog 181 #[.pointer (some ⟨b,0,none⟩)] w fun e w'=>e= .returned (.tuple #[])∧w'=w:=by
 obtain⟨j,hj,_⟩:=Option.map_eq_some_iff.1 xB;go_enter Tryz.func181,Tryz.ntmps181;go_wp2_with fail
 try rw[Lib.run_neq_ptr_same w _ Tryz.underlying241 hj]
 go_wp2_with fail
 go_end0
 exact⟨rfl,rfl⟩
theorem copyCheck_fresh(b:Nat)(w:World)(h0:w.cell? ⟨b,0,none⟩=some (.pointer none))(hsh:w.shape? b=some (TB,2))(hfz:w.frozen? ⟨b,0,none⟩=false):
  Calls Tryz.prog 181 #[.pointer (some ⟨b,0,none⟩)] w fun e w'=>e= .returned (.tuple #[])∧w'=w.setCell ⟨b,0,none⟩ (.pointer (some ⟨b,0,none⟩)):=by
 obtain⟨j,hj,hjs⟩:=Option.map_eq_some_iff.1 xB;go_enter Tryz.func181,Tryz.ntmps181;go_wp2_with fail
 rw[Lib.run_to_unsafe w ⟨b,0,none⟩ Tryz.underlying241 Tryz.underlying376 hj (by rw[hjs];decide) hsh (Nat.zero_lt_succ 1)];simp only[Result.andThen];rw[Oper.upon_value];go_wp2_with fail
 rw[run_callFunc_extern Tryz.func231 (by kernel_rfl) (by kernel_rfl) (by kernel_rfl) (e:=Extern.AbiNoEscape.same) (by kernel_rfl)];rw[Lib.run_noEscape];simp only[Result.andThen];rw[Oper.upon_value];go_wp2_with fail
 rw[Lib.run_from_unsafe w ⟨b,0,none⟩ Tryz.underlying376 Tryz.underlying241 hj hsh Tryz.Builder_Extra_169.liesBuilder];simp only[Result.andThen];rw[Oper.upon_value];go_wp2_with fail
 go_end0
 exact⟨rfl,rfl⟩
theorem copyCheck_k(B b:Nat)(bs:List Value)(w:World)(h:Lib.IsBuilderF TB TU8 B b bs w):
  Calls Tryz.prog 181 #[.pointer (some ⟨b,0,none⟩)] w fun e w'=>e= .returned (.tuple #[])∧(Lib.BuilderAtF TB TU8 B b (.pointer (some ⟨b,0,none⟩)) bs w'∧Below B w w'):=by
 rcases h with h|h
 ·refine(copyCheck_fresh b w h.cell0 h.shape h.frozen0).mono ?_;rintro e w' ⟨rfl,rfl⟩;exact⟨rfl,h.used _,(Below.refl B w).setCell (p:=⟨b,0,none⟩) h.1 _⟩
 ·refine(copyCheck_used b w h.cell0).mono ?_;rintro e w' ⟨rfl,rfl⟩;exact⟨rfl,h,Below.refl B _⟩
theorem WriteByte_k(B b:Nat)(bs:List Value)(c:Int)(w:World)(h:Lib.IsBuilderF TB TU8 B b bs w)(hlen:bs.length+1≤140737488355328)(hBw:B≤w.heap.size):
  Calls Tryz.prog 126 #[.pointer (some ⟨b,0,none⟩),.int .u8 c] w fun e w'=>e= .returned .nilIface∧(Lib.BuilderAtF TB TU8 B b (.pointer (some ⟨b,0,none⟩)) (bs++[.int .u8 c]) w'∧Below B w w'):=by
 obtain⟨i0,hi,hz0,hz1,hz2⟩:=info_parts info_u8;have HCC:=Qh (copyCheck_k B b bs w h);go_enter Tryz.func126,Tryz.ntmps126;go_wp2_with fail
 refine HCC.out.mono ?_;rintro e w1 ⟨rfl,h1,hb1⟩;obtain⟨hB,v,hbk,hown,hne⟩:=h1;have c0:w1.cell? ⟨b,0,none⟩=some (.pointer (some ⟨b,0,none⟩)):=by rw[Lib.cell_of_heap hbk];try rfl
 have c1:w1.cell? ⟨b,1,none⟩=some v:=by rw[Lib.cell_of_heap hbk];try rfl
 go_wp2_with (at_builtin;refine wpList_append_ownF _ rfl _ _ 242 rfl B TU8 i0 (.int .u8 0) 1 1 Tryz.underlying242 hi hz0 hz1 hz2 rfl (by decide) _ _ _ rfl (hown.alloc _) ⟨w1.heap.size,0,none⟩ 1 1 [.int .u8 c] rfl rfl ?c1 ?c2 ?c3 ?c4 ?c5 ?_)
 case c1=>
  intro j u hj
  match j,hj with
  |0,hj=>simp at hj;subst hj;simp[Addr.add]
 case c2=>intro u hu;simp at hu;subst hu;rfl
 case c3=>unfold maxLen;omega
 case c4=>omega
 case c5=>have:=hb1.size;simp;omega
 intro v' w2 hown' hgrow _;have hlt:b<w1.heap.size:=Ql hbk;have hb2:w2.heap[b]? =some (.cells #[.pointer (some ⟨b,0,none⟩),v] TB (0,0)):=by
  rw[hgrow.block b (by simp;omega) (fun e=>hne e.symm),Lib.alloc_old w1 _ b hlt];exact hbk
 have d0:w2.cell? ⟨b,0,none⟩=some (.pointer (some ⟨b,0,none⟩)):=by rw[Lib.cell_of_heap hb2];try rfl
 have d1:w2.cell? ⟨b,1,none⟩=some v:=by rw[Lib.cell_of_heap hb2];try rfl
 have f1:w2.frozen? ⟨b,1,none⟩=false:=Lib.frozen_of_heap hb2 1;obtain⟨g,cap,rfl⟩:∃g cap,v'= .slice (some ⟨g,0,none⟩) (bs.length+1) cap:=by
  rcases hown'.2 with⟨_,h0⟩|⟨g,cap,cur,fz,hv,_⟩
  ·omega
  ·exact⟨g,cap,hv⟩
 go_wp2_with fail
 go_ret;refine⟨rfl,?_,?_⟩
 ·exact Lib.BuilderAtF.put (T:=TB) (e:=TU8) hB hb2 (bs':=bs++[.int .u8 c]) (by simpa using hown') (by decide)
 ·exact((hb1.alloc (by have:=hb1.size;omega) _).grown hgrow (by have:=hb1.size;simp;omega) (fun k hk=>(hown.lt k hk).1)).setCell (p:=⟨b,1,none⟩) hB _
theorem WriteString_k(B b:Nat)(bs:List Value)(s:ByteArray)(w:World)(h:Lib.IsBuilderF TB TU8 B b bs w)(hlen:bs.length+s.size≤140737488355328)(hBw:B≤w.heap.size):
  Calls Tryz.prog 125 #[.pointer (some ⟨b,0,none⟩),.string s] w fun e w'=>e= .returned (.tuple #[.int .i64 s.size,.nilIface])∧(Lib.BuilderAtF TB TU8 B b (.pointer (some ⟨b,0,none⟩)) (bs++Lib.strCells s) w'∧Below B w w'):=by
 obtain⟨i0,hi,hz0,hz1,hz2⟩:=info_parts info_u8;have HCC:=Qh (copyCheck_k B b bs w h);go_enter Tryz.func125,Tryz.ntmps125;go_wp2_with fail
 refine HCC.out.mono ?_;rintro e w1 ⟨rfl,h1,hb1⟩;obtain⟨hB,v,hbk,hown,hne⟩:=h1;have c0:w1.cell? ⟨b,0,none⟩=some (.pointer (some ⟨b,0,none⟩)):=by rw[Lib.cell_of_heap hbk];try rfl
 have c1:w1.cell? ⟨b,1,none⟩=some v:=by rw[Lib.cell_of_heap hbk];try rfl
 go_wp2_with (at_builtin;refine Lib.wpList_append_own_stringF _ rfl _ _ 242 9 rfl B TU8 i0 Tryz.underlying242 Tryz.underlying9 hi hz0 hz1 hz2 _ _ _ rfl hown s rfl ?c3 ?c4 ?c5 ?_)
 case c3=>unfold maxLen;omega
 case c4=>omega
 case c5=>have:=hb1.size;omega
 intro v' w2 hown' hgrow _;have hlt:b<w1.heap.size:=Ql hbk;have hb2:w2.heap[b]? =some (.cells #[.pointer (some ⟨b,0,none⟩),v] TB (0,0)):=by
  rw[hgrow.block b hlt (fun e=>hne e.symm)];exact hbk
 have d0:w2.cell? ⟨b,0,none⟩=some (.pointer (some ⟨b,0,none⟩)):=by rw[Lib.cell_of_heap hb2];try rfl
 have d1:w2.cell? ⟨b,1,none⟩=some v:=by rw[Lib.cell_of_heap hb2];try rfl
 have f1:w2.frozen? ⟨b,1,none⟩=false:=Lib.frozen_of_heap hb2 1;obtain⟨ao,n',cap,rfl⟩:∃ao n' cap,v'= .slice ao n' cap:=by
  rcases hown'.2 with⟨hv,_⟩|⟨g,cap,cur,fz,hv,_⟩
  ·exact⟨_,_,_,hv⟩
  ·exact⟨_,_,_,hv⟩
 go_wp2_with fail
 go_ret2
 refine⟨rfl,?_,?_⟩
 ·exact Lib.BuilderAtF.put (T:=TB) (e:=TU8) hB hb2 (bs':=bs++Lib.strCells s) (by simpa[Lib.strCells_length] using hown') (by decide)
 ·exact(hb1.grown hgrow (by have:=hb1.size;omega) (fun k hk=>(hown.lt k hk).1)).setCell (p:=⟨b,1,none⟩) hB _
def hx(d:Nat):UInt8:=hexs.data.toList.getD d 0
def escL(c:Nat):List UInt8:=if inS QD c=true then[92,c.toUInt8] else if 32<c∧c<127 then[c.toUInt8] else[92,120,hx (c/16),hx (c%16)]
def YL(s:ByteArray)(k:Nat):List UInt8:=(List.range k).flatMap (fun i=>escL (bt s i))
def escF(s:ByteArray):ByteArray:=⟨(YL s s.size).toArray⟩
theorem escTo_succ(s:ByteArray)(k:Nat):YL s (k+1)=YL s k++escL (bt s k):=by
 unfold YL;rw[List.range_succ,List.flatMap_append];simp
theorem escL_len(c:Nat):(escL c).length≤4:=by
 unfold escL;split
 ·simp
 ·split<;>simp
theorem escTo_len(s:ByteArray):∀k,(YL s k).length≤4*k
 |0=>by simp[YL]
 |k+1=>by have:=escTo_len s k;have:=escL_len (bt s k);rw[escTo_succ,List.length_append];omega
theorem byteCells_app(a b:List UInt8):Lib.byteCells (a++b)=Lib.byteCells a++Lib.byteCells b:=by simp[Lib.byteCells]
theorem byteCells_len(l:List UInt8):(Lib.byteCells l).length=l.length:=by simp[Lib.byteCells]
theorem and15(c:Nat)(h:c<256):bits BinOp.and IntKind.u8 (c:Int) 15=((c%16:Nat):Int):=by
 have key:∀c:_root_.Fin 256,bits BinOp.and IntKind.u8 ((c.val:Nat):Int) 15=((c.val%16:Nat):Int):=by decide+kernel
 exact key ⟨c,h⟩
theorem hx_get(d:Nat)(h:d<16):hx d=(⟨#[48,49,50,51,52,53,54,55,56,57,97,98,99,100,101,102]⟩:ByteArray)[d]'h:=by
 have key:∀d:_root_.Fin 16,hx d.val=(⟨#[48,49,50,51,52,53,54,55,56,57,97,98,99,100,101,102]⟩:ByteArray)[d.val]'d.isLt:=by decide+kernel
 exact key ⟨d,h⟩
theorem hxi(d:Nat)(h:d<16){i:Nat}(hi:i<16)(hp:i<(⟨#[48,49,50,51,52,53,54,55,56,57,97,98,99,100,101,102]⟩:ByteArray).size)(e:i=d):(((⟨#[48,49,50,51,52,53,54,55,56,57,97,98,99,100,101,102]⟩:ByteArray)[i]'hp).toNat:Int)=((hx d).toNat:Nat):=by
 subst e;rw[hx_get i h]
theorem Kp.below'{w w':World}{B:Nat}(hk:Kn w w')(hB:B≤w.heap.size):Below B w w':=⟨hk.os,hk.tape,hk.output,hk.size,fun k hk2=>hk.block k (Nat.lt_of_lt_of_le hk2 hB) (fun x=>x)⟩
theorem isB_kn{w w':World}{B b:Nat}{bs:List Value}(h:Lib.IsBuilderF TB TU8 B b bs w)(hk:Kn w w'):Lib.IsBuilderF TB TU8 B b bs w':=by
 have key:∀p,Lib.BuilderAtF TB TU8 B b p bs w→Lib.BuilderAtF TB TU8 B b p bs w':=fun p h=>by
  obtain⟨h1,v,h2,h3,h4⟩:=h;refine⟨h1,v,hk.blk h2 (fun x=>x),⟨h3.1,?_⟩,h4⟩;rcases h3.2 with h5|⟨g,cap,cur,fz,h5,h6,h7,h8⟩
  ·exact .inl h5
  ·exact .inr ⟨g,cap,cur,fz,h5,h6,hk.blk h7 (fun x=>x),h8⟩
 exact h.imp (key _) (key _)
theorem strOf4_le(a b:Int):((⟨#[92,120]⟩:ByteArray)++strOfNums [a,b]).size=4:=by
 show((⟨#[92,120]⟩:ByteArray)++strOfNums [a,b]).data.size=4;rw[ByteArray.data_append];simp[strOfNums]
theorem esc4{a b:Int}{x y:UInt8}(ha:a=(x.toNat:Nat))(hb:b=(y.toNat:Nat)):Lib.strCells ((⟨#[92,120]⟩:ByteArray)++strOfNums [a,b])=Lib.byteCells [92,120,x,y]:=by
 subst ha;subst hb;unfold Lib.strCells;rw[ByteArray.data_append];simp[strOfNums,Lib.byteCells]
theorem strOf2_le(c:Nat):((⟨#[92]⟩:ByteArray)++strOfNums [(c:Int)]).size=2:=by
 show((⟨#[92]⟩:ByteArray)++strOfNums [(c:Int)]).data.size=2;rw[ByteArray.data_append];simp[strOfNums]
theorem esc2(c:Nat)(h:c<256):Lib.strCells ((⟨#[92]⟩:ByteArray)++strOfNums [(c:Int)])=Lib.byteCells [92,c.toUInt8]:=by
 unfold Lib.strCells;rw[ByteArray.data_append];simp[strOfNums,Lib.byteCells]
theorem esc1(c:Nat)(h:c<256):Lib.byteCells [c.toUInt8]=[.int .u8 (c:Int)]:=by
 simp[Lib.byteCells];omega
theorem escape_c(s:ByteArray)(w:World)(hs:s.size≤1000000):
  Calls Tryz.prog 100 #[.string s] w fun e w'=>e= .returned (.string (escF s))∧Kn w w':=by
 have HI:=Qh (fun c W=>Tryz.strings_IndexByte ⟨#[124,42,43,63,40,41,91,93,46,92]⟩ c W);have HEF:Hid (escF s=⟨(YL s s.size).toArray⟩):=Qh rfl;go_enter Tryz.func100,Tryz.ntmps100;go_wp2_with fail
 obtain⟨w1,hw1⟩:∃z,z=w.alloc (.cells #[.pointer none,.slice none 0 0] TB):=⟨_,rfl⟩;obtain⟨b,hb⟩:∃z,z=w.heap.size:=⟨_,rfl⟩;have hb0:w1.heap[b]? =some (.cells #[.pointer none,.slice none 0 0] TB (0,0)):=by rw[hw1,hb];exact Qf _ _
 have hB0:Lib.IsBuilderF TB TU8 b b (Lib.byteCells (YL s 0)) w1:= .inl ⟨Nat.le_refl _,_,hb0,⟨by simp[YL,Lib.byteCells],.inl ⟨rfl,rfl⟩⟩,by simp[Value.ownBlock]⟩;have hbel:Below b w w1:=by rw[hw1,hb];exact(Below.refl _ w).alloc (Nat.le_refl _) _
 rw[←hw1,←hb];have HB0:=Qh hB0;have HBE:=Qh hbel;have hbs:b≤w.heap.size:=by omega
 have hFIN:Hid (∀w',Below b w w'→Kn w w'):=Qh (fun w' h=>by rw[hb] at h;exact Yd h);clear hw1 hb hb0 hB0 hbel;go_loopw [8] (fun i wr=>∃k:Nat,k≤s.size∧i= .int .i64 k∧Hid (Lib.IsBuilderF TB TU8 b b (Lib.byteCells (YL s k)) wr)∧Hid (Below b w wr)) (fun i _=>s.size-(intOf i).toNat)
 case atStart=>exact⟨0,Nat.zero_le _,rfl,HB0,HBE⟩
 case round=>
  clear HB0 HBE;obtain⟨k,hk,rfl,hbi,hbe⟩:=hrel;by_cases hlt:k<s.size
  ·have hlt':(k:Int)<s.size:=by omega
   have hE:=bt_in hlt;have hc:=bt_lt s k;have HES:=Qh (escTo_succ s k);have hel:=escTo_len s k;by_cases h1:inS QD (bt s k)=true
   ·have hIx:0≤Lib.indexByte (⟨#[124,42,43,63,40,41,91,93,46,92]⟩:ByteArray).data.toList (((s[k].toNat:Nat):Int).toNat.toUInt8):=by
     rw[hE] at h1;simpa[inS,QD] using h1
    have HL:Hid (escL (bt s k)=[92,(bt s k).toUInt8]):=Qh (by unfold escL;rw[if_pos h1]);have HE:=Qh hE;obtain⟨ix,hix⟩:∃ix,ix=Lib.indexByte (⟨#[124,42,43,63,40,41,91,93,46,92]⟩:ByteArray).data.toList (((s[k].toNat:Nat):Int).toNat.toUInt8):=⟨_,rfl⟩;have HIX:=Qh hix;rw[←hix] at hIx;clear hE h1 hix;go_wp2_with fail
    refine(HI.out _ _).mono ?_;rintro e w' ⟨rfl,rfl⟩;rw[←HIX.out];go_wp2_with fail
    rw[run_convert_bytes_arg _ 242 TU8 Tryz.underlying242 Tryz.underlying5 w'.heap.size 0 1 1 [((s[k].toNat:Nat):Int)] rfl (fun i hi=>by
     have e:i=0:=by omega
     subst e;rw[Qa (Qf w' _)];try rfl) 9 Tryz.underlying9]
    simp only[Result.andThen];rw[Oper.upon_value];go_wp2_with fail
    refine(WriteString_k b b _ _ _ (hbi.out.alloc _) (by have:=byteCells_len (YL s k);have:=strOf2_le s[k].toNat;omega) (by have:=hbe.out.size;simp;omega)).mono ?_;rintro e w2 ⟨rfl,hb2,he2⟩;have HB2:Hid (Lib.IsBuilderF TB TU8 b b (Lib.byteCells (YL s (k+1))) w2):=Qh (.inr (by
     rw[HES.out,HL.out,byteCells_app,←esc2 _ hc,HE.out];exact hb2))
    have HE2:=Qh ((hbe.out.alloc (by have:=hbe.out.size;omega) _).trans he2);clear hb2 he2;go_wp2_with fail
    go_roundw
    case rel=>exact⟨k+1,by omega,by go_num,HB2,HE2⟩
    case measure=>simp[intOf];omega
   ·have hIx:¬0≤Lib.indexByte (⟨#[124,42,43,63,40,41,91,93,46,92]⟩:ByteArray).data.toList (((s[k].toNat:Nat):Int).toNat.toUInt8):=by
     rw[hE] at h1;simpa[inS,QD] using h1
    obtain⟨ix,hix⟩:∃ix,ix=Lib.indexByte (⟨#[124,42,43,63,40,41,91,93,46,92]⟩:ByteArray).data.toList (((s[k].toNat:Nat):Int).toNat.toUInt8):=⟨_,rfl⟩;have HIX:=Qh hix;rw[←hix] at hIx;clear hix;by_cases h2:32<bt s k∧bt s k<127
    ·have i1:(32:Int)<((s[k].toNat:Nat):Int):=by have:=h2.1;omega
     have i2:((s[k].toNat:Nat):Int)<127:=by have:=h2.2;omega
     have HL:Hid (escL (bt s k)=[(bt s k).toUInt8]):=Qh (by unfold escL;rw[if_neg h1,if_pos h2]);have HE:=Qh hE;clear hE h1 h2;go_wp2_with fail
     refine(HI.out _ _).mono ?_;rintro e w' ⟨rfl,rfl⟩;rw[←HIX.out];go_wp2_with fail
     refine(WriteByte_k b b _ _ _ hbi.out (by have:=byteCells_len (YL s k);omega) (by have:=hbe.out.size;omega)).mono ?_;rintro e w2 ⟨rfl,hb2,he2⟩;have HB2:Hid (Lib.IsBuilderF TB TU8 b b (Lib.byteCells (YL s (k+1))) w2):=Qh (.inr (by
      rw[HES.out,HL.out,byteCells_app,esc1 _ hc,HE.out];exact hb2))
     have HE2:=Qh (hbe.out.trans he2);clear hb2 he2;go_wp2_with fail
     go_roundw
     case rel=>exact⟨k+1,by omega,by go_num,HB2,HE2⟩
     case measure=>simp[intOf];omega
    ·have i1:(32:Int)<((s[k].toNat:Nat):Int)→¬((s[k].toNat:Nat):Int)<127:=by intro h;omega
     have HL:Hid (escL (bt s k)=[92,120,hx (bt s k/16),hx (bt s k%16)]):=Qh (by unfold escL;rw[if_neg h1,if_neg h2]);have HE:=Qh hE;clear h1 i1;have hx1:0≤((s[k].toNat:Nat):Int)/16∧((s[k].toNat:Nat):Int)/16<16:=by omega
     have hx2:0≤bits BinOp.and IntKind.u8 ((s[k].toNat:Nat):Int) 15∧bits BinOp.and IntKind.u8 ((s[k].toNat:Nat):Int) 15<16:=by rw[and15 _ (by omega)];omega
     obtain⟨a1,ha1⟩:∃a:Int,a=(((⟨#[48,49,50,51,52,53,54,55,56,57,97,98,99,100,101,102]⟩:ByteArray)[(((s[k].toNat:Nat):Int)/16).toNat]'(by show _<16;omega)).toNat:Nat):=⟨_,rfl⟩;obtain⟨a2,ha2⟩:∃a:Int,a=(((⟨#[48,49,50,51,52,53,54,55,56,57,97,98,99,100,101,102]⟩:ByteArray)[(bits BinOp.and IntKind.u8 ((s[k].toNat:Nat):Int) 15).toNat]'(by show _<16;omega)).toNat:Nat):=⟨_,rfl⟩;have HA1v:=Qh ha1;have HA2v:=Qh ha2;have HX1:=Qh hx1;have HX2:=Qh hx2;have HA1:Hid (a1=((hx (bt s k/16)).toNat:Nat)):=Qh (by rw[ha1];exact hxi (bt s k/16) (by omega) (by omega) _ (by rw[hE];omega));have HA2:Hid (a2=((hx (bt s k%16)).toNat:Nat)):=Qh (by rw[ha2];exact hxi (bt s k%16) (by omega) (by omega) _ (by rw[and15 _ (by omega),hE];omega));clear ha1 ha2;have hso:(strOfNums [a1,a2]).size=2:=by show(strOfNums [a1,a2]).data.size=2;simp[strOfNums]
     by_cases h3:32<bt s k
     ·have i1:(32:Int)<((s[k].toNat:Nat):Int):=by omega
      have i2:¬((s[k].toNat:Nat):Int)<127:=by omega
      clear hE h2 h3;go_upto_region 6 with(first|(go_at_call 138;refine(HI.out _ _).mono ?_;rintro e w' ⟨rfl,rfl⟩;rw[←HIX.out]))
      refine wp_region_held_drew (S:=fun w'=>True) (by kernel_rfl) trivial (fun hHeld=> ?_);obtain⟨wd,hwd⟩:∃zz,zz=w'.drew:=⟨_,rfl⟩;have hkd:Kn w' wd:=by rw[hwd];exact(Qb _ _).drew
      rw[←hwd];clear hwd;refine TW 0 14 ?_;refine TW 1 15 ?_;refine TH 2 16 ?_ (hy:=by(intro w hs1;go_simp;exact congrArg (Value.int IntKind.u8) HA1v.out.symm;try with_reducible rfl));refine TW 3 17 ?_;refine TW 4 18 ?_;refine TH 5 19 ?_ (hy:=by(intro w hs1;go_simp;exact congrArg (Value.int IntKind.u8) HA2v.out.symm;try with_reducible rfl));refine RH 6 (fun K hK=> ?_);go_simp;refine hK.out _ _ trivial (fun hHeld=> ?_);clear hK K
      try simp only[PP]
      refine RH 7 (fun K hK=> ?_);go_simp;rw[run_convert_bytes_arg _ 242 TU8 Tryz.underlying242 Tryz.underlying5 wd.heap.size 0 2 2 [a1,a2] rfl (fun i hi=>by
       rw[Qa (Qf wd _),Nat.zero_add];rcases i with _|_|i
       ·rfl
       ·rfl
       ·omega) 9 Tryz.underlying9]
      simp only[Result.andThen];rw[Oper.upon_value];refine hK.out _ _ trivial (fun hHeld=> ?_);clear hK K
      try simp only[PP]
      refine TW 8 22 ?_;refine RH 9 (fun K hK=> ?_);go_simp
      go_at_call 125
      refine(WriteString_k b b _ _ _ ((isB_kn hbi.out hkd).alloc _) (by have:=byteCells_len (YL s k);have:=strOf4_le a1 a2;omega) (by have:=hbe.out.size;have:=hkd.size;simp;omega)).mono ?_;rintro e w2 ⟨rfl,hb2,he2⟩;have HB2:Hid (Lib.IsBuilderF TB TU8 b b (Lib.byteCells (YL s (k+1))) w2):=Qh (.inr (by rw[HES.out,HL.out,byteCells_app,←esc4 HA1.out HA2.out];exact hb2));have HE2:=Qh (((hbe.out.trans (Kp.below' hkd (by have:=hbe.out.size;omega))).alloc (by have:=hbe.out.size;have:=hkd.size;omega) _).trans he2);clear hb2 he2;dsimp only;refine hK.out _ _ trivial (fun hHeld=> ?_);clear hK K;refine RD ?_;go_wp2_with fail
      go_roundw
      case rel=>exact⟨k+1,by omega,by go_num,HB2,HE2⟩
      case measure=>simp[intOf];omega
     ·have i1:¬(32:Int)<((s[k].toNat:Nat):Int):=by omega
      clear hE h2 h3;go_upto_region 6 with(first|(go_at_call 138;refine(HI.out _ _).mono ?_;rintro e w' ⟨rfl,rfl⟩;rw[←HIX.out]))
      refine wp_region_held_drew (S:=fun w'=>True) (by kernel_rfl) trivial (fun hHeld=> ?_);obtain⟨wd,hwd⟩:∃zz,zz=w'.drew:=⟨_,rfl⟩;have hkd:Kn w' wd:=by rw[hwd];exact(Qb _ _).drew
      rw[←hwd];clear hwd;refine TW 0 14 ?_;refine TW 1 15 ?_;refine TH 2 16 ?_ (hy:=by(intro w hs1;go_simp;exact congrArg (Value.int IntKind.u8) HA1v.out.symm;try with_reducible rfl));refine TW 3 17 ?_;refine TW 4 18 ?_;refine TH 5 19 ?_ (hy:=by(intro w hs1;go_simp;exact congrArg (Value.int IntKind.u8) HA2v.out.symm;try with_reducible rfl));refine RH 6 (fun K hK=> ?_);go_simp;refine hK.out _ _ trivial (fun hHeld=> ?_);clear hK K
      try simp only[PP]
      refine RH 7 (fun K hK=> ?_);go_simp;rw[run_convert_bytes_arg _ 242 TU8 Tryz.underlying242 Tryz.underlying5 wd.heap.size 0 2 2 [a1,a2] rfl (fun i hi=>by
       rw[Qa (Qf wd _),Nat.zero_add];rcases i with _|_|i
       ·rfl
       ·rfl
       ·omega) 9 Tryz.underlying9]
      simp only[Result.andThen];rw[Oper.upon_value];refine hK.out _ _ trivial (fun hHeld=> ?_);clear hK K
      try simp only[PP]
      refine TW 8 22 ?_;refine RH 9 (fun K hK=> ?_);go_simp
      go_at_call 125
      refine(WriteString_k b b _ _ _ ((isB_kn hbi.out hkd).alloc _) (by have:=byteCells_len (YL s k);have:=strOf4_le a1 a2;omega) (by have:=hbe.out.size;have:=hkd.size;simp;omega)).mono ?_;rintro e w2 ⟨rfl,hb2,he2⟩;have HB2:Hid (Lib.IsBuilderF TB TU8 b b (Lib.byteCells (YL s (k+1))) w2):=Qh (.inr (by rw[HES.out,HL.out,byteCells_app,←esc4 HA1.out HA2.out];exact hb2));have HE2:=Qh (((hbe.out.trans (Kp.below' hkd (by have:=hbe.out.size;omega))).alloc (by have:=hbe.out.size;have:=hkd.size;omega) _).trans he2);clear hb2 he2;dsimp only;refine hK.out _ _ trivial (fun hHeld=> ?_);clear hK K;refine RD ?_;go_wp2_with fail
      go_roundw
      case rel=>exact⟨k+1,by omega,by go_num,HB2,HE2⟩
      case measure=>simp[intOf];omega
  ·obtain rfl:k=s.size:=by omega
   have hST:=Tryz.Builder_String_any_k b b (YL s s.size) wr hbi.out (by have:=hbe.out.size;omega);have HST:=Qh hST;clear hST;go_wp2_with fail
   refine HST.out.mono ?_;rintro e w2 ⟨rfl,_,he2,_⟩;have he3:=hFIN.out _ (hbe.out.trans he2);go_wp2_with fail
   go_ret;exact⟨by rw[HEF.out];try rfl,he3⟩
theorem formatInt_c(i:Nat)(hi:i<100)(w:World):
  Calls Tryz.prog 193 #[.int .i64 i,.int .i64 10] w fun e w'=>e= .returned (.string ⟨(Lib.decDigits i).toArray⟩)∧w'=w:=by
 have HS:=Qh (fun W=>Tryz.internal_strconv_small i hi W);have h1:(i:Int)<100:=by omega
 have h0:(0:Int)≤i:=by omega
 go_enter Tryz.func193,Tryz.ntmps193;go_wp2_with fail
 refine(HS.out _).mono ?_;rintro e w' ⟨rfl,rfl⟩;go_wp2_with fail
 go_ret;exact⟨rfl,rfl⟩
theorem itoa1_c(i:Nat)(hi:i<100)(w:World):
  Calls Tryz.prog 137 #[.int .i64 i] w fun e w'=>e= .returned (.string ⟨(Lib.decDigits i).toArray⟩)∧w'=w:=by
 have HS:=Qh (formatInt_c i hi w);go_enter Tryz.func137,Tryz.ntmps137;go_wp2_with fail
 refine HS.out.mono ?_;rintro e w' ⟨rfl,rfl⟩;go_wp2_with fail
 go_ret;exact⟨rfl,rfl⟩
theorem itoa_c(i:Nat)(hi:i<100)(w:World):
  Calls Tryz.prog 99 #[.int .i64 i] w fun e w'=>e= .returned (.string ⟨(Lib.decDigits i).toArray⟩)∧w'=w:=by
 have HS:=Qh (itoa1_c i hi w);go_enter Tryz.func99,Tryz.ntmps99;go_wp2_with fail
 refine HS.out.mono ?_;rintro e w' ⟨rfl,rfl⟩;go_wp2_with fail
 go_ret;exact⟨rfl,rfl⟩
end Go.Proofs.YtiehgcfckhepaaaGreatDoor
namespace Go.Proofs.YtiehgcfckhepaaaGreatDoor
open Go.RowKit Go.Maps
def decB(i:Nat):ByteArray:=⟨(Lib.decDigits i).toArray⟩
def litC(R:RS):List GC:=R.lits.zipIdx.map (fun p=>⟨(⟨#[108,105,116]⟩:ByteArray)++decB p.2,escF p.1,false⟩)
def QH(R:RS):List GC:=litC R++R.cls
theorem Yq(R:RS):(litC R).length=R.lits.length:=by simp[litC]
theorem litC_get(R:RS)(i:Nat)(h:i<R.lits.length):(litC R)[i]'(by rw[Yq];exact h)=⟨(⟨#[108,105,116]⟩:ByteArray)++decB i,escF R.lits[i],false⟩:=by simp[litC]
theorem decB_le(i:Nat)(h:i<100):(decB i).size≤2:=by
 show(Lib.decDigits i).toArray.size≤2;rw[List.size_toArray];unfold Lib.decDigits;split
 ·simp
 ·rw[List.length_append];unfold Lib.decDigits;rw[dif_pos (by omega)];simp
theorem escF_le(s:ByteArray):(escF s).size≤4*s.size:=by
 show(YL s s.size).toArray.size≤_;rw[List.size_toArray];exact escTo_len s s.size
theorem classes_c{B p:Nat}{R:RS}{A:RA}{w:World}(h:RdAt w B p R A)(ok:RSok R):
  Calls Tryz.prog 56 #[ptr p] w fun e w'=>∃v,e= .returned v∧OwnK w' w.heap.size TCl 3 v ((QH R).map clL)∧Kn w w':=by
 obtain⟨oa,oc,hv0,_,_,hg⟩:=h.lits.look;obtain⟨a1,c1,hv1,_,_,hg1⟩:=h.cls.row (fun C hC=>by obtain⟨x,_,rfl⟩:=List.mem_map.1 hC;rfl);rw[List.length_map] at hv1;obtain⟨q0,q1,_⟩:=h.cells;rw[hv0] at q0;rw[hv1] at q1;have hl40:=ok.lits;have hc40:=ok.cls;obtain⟨ie,hi,hz0,hz1,hz2⟩:=info_parts info_cl;have HIE:=Qh (And.intro hi (And.intro hz0 (And.intro hz1 hz2)));have HZ:=Qh ok.litz;have HC:=Qh h.cls;have HV1:=Qh hv1;have HG1:=Qh hg1;have HG:=Qh hg;clear h ok hv0 hv1 hi hz0 hz1 hz2 hg hg1;go_enter Tryz.func56,Tryz.ntmps56;go_wp2_with fail
 go_loopw [3,13] (fun s3 s13 wr=>∃(k:Nat) (v:Value),v=s3∧s13= .int .i64 k∧k≤R.lits.length∧Hid (OwnK wr w.heap.size TCl 3 v (((litC R).take k).map clL))∧Kn w wr) (fun _ s13 _=>R.lits.length-(intOf s13).toNat)
 case atStart=>exact⟨0,_,rfl,rfl,Nat.zero_le _,Qh OwnK.nil,Qb _ _⟩
 case round=>
  obtain⟨k,v,rfl,rfl,hk,hov,hkn⟩:=hrel;by_cases hlt:k<R.lits.length
  ·obtain⟨g,rfl,_,_,hc⟩:=HG.out (fun e=>by rw[e] at hlt;simp at hlt);have hck:=Qc hkn (hc k hlt);have hsz:=HZ.out _ (List.getElem_mem hlt);have hlg:=litC_get R k hlt;obtain⟨s,hs⟩:∃s,s=R.lits[k]:=⟨_,rfl⟩;rw[←hs] at hck hsz hlg;have HLG:=Qh hlg;have HIT:=Qh (itoa_c k (by omega) wr);have hdl:=decB_le k (by omega);change Hid (Calls Tryz.prog 99 #[.int .i64 k] wr fun e w'=>e= .returned (.string (decB k))∧w'=wr) at HIT;obtain⟨t,ht⟩:∃t,t=decB k:=⟨_,rfl⟩;rw[←ht] at HIT hdl HLG;have HES:=Qh (escape_c s wr (by omega));obtain⟨es,hes⟩:∃es,es=escF s:=⟨_,rfl⟩;rw[←hes] at HES HLG;have hno:¬(9223372036854775807:Nat)<3+t.size:=by omega
   clear hlg hs hc ht hes;go_wp2_with fail
   refine HIT.out.mono ?_;rintro e w3 ⟨rfl,hw3⟩;rw[hw3];clear hw3 w3;go_wp2_with fail
   refine HES.out.mono ?_;rintro e w4 ⟨rfl,hk4⟩;have hkn4:=hkn.trans hk4;obtain⟨nm,hnm⟩:∃nm,nm=(⟨#[108,105,116]⟩:ByteArray)++t:=⟨_,rfl⟩;rw[←hnm] at HLG⊢;have hka:Kn w4 (w4.alloc (.cells #[.string nm,.string es,.bool false] TCl)):=(Qb _ _).alloc _;have HO4:=Qh ((hov.out.kn hk4).kn hka);have HBL:Hid ((w4.alloc (.cells #[.string nm,.string es,.bool false] TCl)).heap[w4.heap.size]? =some (.cells #[.string nm,.string es,.bool false] TCl (0,0))):=Qh (Qf _ _);have HKA:=Qh hka;have hw4:=hkn4.size;clear hnm hov hka;go_wp2_with (first|(at_builtin;go_must (refine QF _ rfl (.tmp 18) (.tmp 25) 110 rfl w.heap.size TCl ie (.agg #[.string ByteArray.empty,.string ByteArray.empty,.bool false]) 3 40 Tryz.underlying110 HIE.out.1 HIE.out.2.1 HIE.out.2.2.1 HIE.out.2.2.2 (by rfl) (by decide) v (((litC R).take k).map clL) rfl HO4.out w4.heap.size 1 rfl #[.string nm,.string es,.bool false] TCl (0,0) HBL.out rfl (by simp[Value.oneCell']) (by rw[List.length_map,List.length_take,Yq];simp only[maxLen];omega) (by rw[List.length_map,List.length_take,Yq];omega) (by rw[size_alloc'];omega) ?_;intro v1 w5 hown hkap hat;have HOW:=Qh hown;have HKP:=Qh (hkap.mono (T:=fun i=>w.heap.size≤i) (fun i hi e=>(HO4.out.lt i e.symm).1));clear hown hkap hat)))
   have hkn5:Kn w _:=(hkn4.trans HKA.out).trans' HKP.out (fun i hi e=>by omega);have HO5:Hid (OwnK w5 w.heap.size TCl 3 v1 (((litC R).take (k+1)).map clL)):=Qh (by
    rw[List.take_succ_eq_append_getElem (by rw[Yq];exact hlt),List.map_append,HLG.out];exact HOW.out)
   go_roundw
   case rel=>exact⟨k+1,v1,rfl,by go_num,by omega,HO5,hkn5⟩
   case measure=>simp[intOf];omega
  ·obtain rfl:k=R.lits.length:=by omega
   have ho:=hov.out;rw[List.take_of_length_le (by rw[Yq];exact Nat.le_refl _)] at ho;have HO:=Qh ho;have q1r:=Qc hkn q1;have hcr:=HC.out.kn hkn;rw[HV1.out] at hcr;have HCR:=Qh hcr;have hws:=hkn.size;clear hov ho q1 hcr;by_cases hc0:R.cls=[]
   ·have hE:Hid (QH R=litC R):=Qh (by unfold QH;rw[hc0,List.append_nil]);have ha1:(Value.slice a1 R.cls.length c1)= .slice none 0 0∨∃g,a1=some ⟨g,0,none⟩:=by
     rcases HCR.out.2 with⟨h1,_⟩|⟨g,cap,cur,h1,_⟩
     ·exact .inl h1
     ·injection h1 with h1;exact .inr ⟨g,h1⟩
    rcases ha1 with ha1|⟨g,rfl⟩
    ·rw[ha1] at q1r;clear hc0;go_wp2_with (first|(at_builtin;go_must (refine wpList_append_own_none rfl (.tmp 28) (.tmp 32) 110 rfl w.heap.size TCl ie 3 Tryz.underlying110 HIE.out.1 v _ _ rfl HO.out rfl ?_)))
     go_ret;exact⟨v,rfl,by rw[hE.out];exact HO.out,hkn⟩
    ·have hcl0:R.cls.length=0:=by rw[hc0];try rfl
     clear hc0;go_wp2_with (first|(at_builtin;go_must (refine wpList_append_own _ rfl (.tmp 28) (.tmp 32) 110 rfl w.heap.size TCl ie (.agg #[.string ByteArray.empty,.string ByteArray.empty,.bool false]) 3 40 Tryz.underlying110 HIE.out.1 HIE.out.2.1 HIE.out.2.2.1 HIE.out.2.2.2 (by rfl) (by decide) v _ _ rfl HO.out ⟨g,0,none⟩ 0 c1 [] rfl rfl (fun j u hj=>by simp at hj) (fun u hu=>by cases hu) (by rw[List.length_map,Yq];simp only[maxLen];omega) (by rw[List.length_map,Yq];omega) hws ?_;intro v1 w5 hown hgr hnn;have HOW:=Qh hown;have HGR:=Qh hgr;clear hown hgr hnn)))
     go_ret;refine⟨v1,rfl,?_,hkn.trans' (Kp.grownK HGR.out) (fun i hi e=>by have:=(HO.out.lt i e.symm).1;omega)⟩;rw[hE.out];have:=HOW.out;rw[List.append_nil] at this;exact this
   ·obtain⟨g,rfl,_,_,hcc⟩:=HG1.out (fun e=>hc0 (List.map_eq_nil_iff.1 e));have HNW:Hid (∀j u,(clC R.cls)[j]? =some u→wr.cell? ((⟨g,0,none⟩:Addr).add j)=some u):=Qh (fun j u hj=>HCR.out.cells rfl j u hj);clear hc0 hcc;go_wp2_with (first|(at_builtin;go_must (refine wpList_append_own _ rfl (.tmp 28) (.tmp 32) 110 rfl w.heap.size TCl ie (.agg #[.string ByteArray.empty,.string ByteArray.empty,.bool false]) 3 40 Tryz.underlying110 HIE.out.1 HIE.out.2.1 HIE.out.2.2.1 HIE.out.2.2.2 (by rfl) (by decide) v _ _ rfl HO.out ⟨g,0,none⟩ R.cls.length c1 (clC R.cls) rfl (clC_len _) HNW.out (clC_one _) (by rw[List.length_map,Yq];simp only[maxLen];omega) (by rw[List.length_map,Yq];omega) hws ?_;intro v1 w5 hown hgr hnn;have HOW:=Qh hown;have HGR:=Qh hgr;clear hown hgr hnn)))
    go_ret;refine⟨v1,rfl,?_,hkn.trans' (Kp.grownK HGR.out) (fun i hi e=>by have:=(HO.out.lt i e.symm).1;omega)⟩;have h1:=HOW.out;unfold OwnK QH;have e9:(R.cls.map clL).length=R.cls.length:=List.length_map _;rw[List.map_append,List.flatten_append,List.length_append,e9];exact h1
def finF(R:RS):Option (List GR×List (Nat×Nat)):=
 match R.linkGo R.lines [] [] with
 |none=>none
 |some r=>if R.sorts.length=0∨r.1.length=0 then none else if(QH R).length=0 then some r else if(Ym (QH R)).isSome=true then some r else none
structure GrAt (w:World) (p:Nat) (R:RS) (rs:List GR) (br:List (Nat×Nat)):Prop where
 lk:∃B A kb vps,LkAt w B p R A kb rs vps br∧((QH R).length=0→A.sc= .pointer none)∧∀r,Ym (QH R)=some r→∃ps:Nat,A.sc=ptr ps∧ScanAt w ps (QH R) r.2
 ok:RSok R
 rlen:rs.length≤120
theorem GrAt.kn{w w':World}{p:Nat}{R:RS}{rs:List GR}{br:List (Nat×Nat)}(h:GrAt w p R rs br)(hk:Kn w w'):GrAt w' p R rs br:=by
 obtain⟨⟨B,A,kb,vps,h1,h2,h3⟩,h4,h5⟩:=h;exact⟨⟨B,A,kb,vps,h1.kn hk,h2,fun r hr=>by obtain⟨ps,a,b⟩:=h3 r hr;exact⟨ps,a,b.kn hk⟩⟩,h4,h5⟩
theorem ScanAt.k1g{w w':World}{p ps:Nat}{cs:List GC}{l:List DS}{C:Array Value}(h:ScanAt w ps cs l)(hb:w.heap[p]? =some (.cells C TGr (0,0)))(hk:K1 p w w'):ScanAt w' ps cs l:=by
 have hS:=QO hb;obtain⟨pl,bn,vcl,B,h1,gof,n,vout,zs,h2,h3⟩:=h;refine⟨pl,bn,vcl,B,⟨QA h1.blk hk hS (by decide),Qk h1.row hk hS (by decide),Qs h1.nms hk hS⟩,gof,n,vout,zs,h2.kp hk (fun e=> ?_) (fun e=> ?_) (fun g hg e=> ?_),h3⟩
 ·subst e;exact Qn hb h2.blk (by decide)
 ·subst e;have:=h2.of_;exact Qn hb this (by decide)
 ·subst e;obtain⟨cur,h4⟩:=h2.row.blkT hg;exact Qn hb h4 (by decide)
theorem LkAt.setSc{w:World}{B p:Nat}{R:RS}{A:RA}{kb:Nat}{rs:List GR}{vps:List Value}{br:List (Nat×Nat)}(h:LkAt w B p R A kb rs vps br)(v:Value):LkAt (w.setCell ⟨p,5,none⟩ v) B p R {A with sc:=v} kb rs vps br:=by
 have hk1:K1 p w (w.setCell ⟨p,5,none⟩ v):=Qg _ _;have hS1:=QO h.rd.blk;exact⟨h.rd.setSc v,h.bb,Qs h.brk hk1 hS1,h.ru.ty hk1 hS1 (by decide) (by decide),h.ne⟩
theorem clsOf_ok{R:RS}(ok:RSok R):∀x∈QH R,x.name.size≤1000000∧x.regex.size≤1099511627776:=by
 intro x hx;unfold QH at hx;rcases List.mem_append.1 hx with h|h
 ·obtain⟨i,hi,rfl⟩:=List.getElem_of_mem h;rw[Yq] at hi;have h1:=decB_le i (by have:=ok.lits;omega);have h2:=escF_le R.lits[i];have h3:=ok.litz _ (List.getElem_mem hi);rw[litC_get R i hi];refine⟨?_,?_⟩
  ·show((⟨#[108,105,116]⟩:ByteArray)++decB i).size≤_;rw[ByteArray.size_append];have:(⟨#[108,105,116]⟩:ByteArray).size=3:=rfl;omega
  ·show(escF R.lits[i]).size≤_;omega
 ·have:=ok.clz x h;omega
theorem clsR_own{w:World}{B g n c:Nat}{cs:List GC}(h:OwnK w B TCl 3 (.slice (some ⟨g,0,none⟩) n c) (cs.map clL)):ClsR w g cs:=by
 intro j u hj;have:=h.cells rfl j u hj;have hadd:(⟨g,0,none⟩:Addr).add j=⟨g,j,none⟩:=by unfold Addr.add;split<;>simp_all
 rwa[hadd] at this
def FinPost(B p:Nat)(R:RS)(w:World)(e:Ending)(w':World):Prop:=
 ∃k n:Int,e= .returned (.tuple #[.int .i64 k,.int .i64 n])∧Kp (fun i=>B≤i) w w'∧match finF R with|some r=>k=0∧n=0∧GrAt w' p R r.1 r.2|none=>n≠0
theorem finish_c{B p:Nat}{R:RS}{A0:RA}{w:World}(h:RdAt w B p R A0)(ok:RSok R)(hvr:A0.vr= .slice none 0 0)(hsc:A0.sc= .pointer none):
  Calls Tryz.prog 64 #[ptr p] w (FinPost B p R w):=by
 have HLN:=Qh (glink_c h ok hvr);have HF:Hid (finF R=match R.linkGo R.lines [] [] with
  |none=>none
  |some r=>if R.sorts.length=0∨r.1.length=0 then none else if(QH R).length=0 then some r else if(Ym (QH R)).isSome=true then some r else none):=Qh rfl
 have HOK:=Qh ok;have HSC:=Qh hsc;clear h ok hvr hsc;go_enter Tryz.func64,Tryz.ntmps64;go_wp2_with fail
 refine HLN.out.mono ?_;rintro e w1 ⟨k,n,rfl,hk1,hm⟩;cases hl:R.linkGo R.lines [] [] with
 |none=>
  rw[hl] at hm;dsimp only at hm;have hn2:(n==0)=false:=by rw[beq_eq_false_iff_ne];exact hm
  have hF2:Hid (finF R=none):=Qh (by rw[HF.out,hl]);have HN0:=Qh hm;have HK1:=Qh hk1;clear hl hm hk1;go_wp2_with fail
  go_ret2
  refine⟨k,n,rfl,HK1.out,?_⟩;rw[hF2.out];exact HN0.out
 |some r=>
  rw[hl] at hm;obtain⟨rs,br⟩:=r;dsimp only at hm;obtain⟨rfl,A,kb,vps,hlk,h120,hsc⟩:=hm;have HF2:Hid (finF R=if R.sorts.length=0∨rs.length=0 then none else if(QH R).length=0 then some (rs,br) else if(Ym (QH R)).isSome=true then some (rs,br) else none):=Qh (by rw[HF.out,hl]);have HL:=Qh hlk;have HA:=Qh (hsc.trans HSC.out);have HK1:=Qh hk1;obtain⟨os,oc,hv2,_⟩:=hlk.rd.sorts.look;obtain⟨og,ocg,hvg,_⟩:=hlk.ru.row.row (fun C hC=>by obtain⟨i,hi,rfl⟩:=List.getElem_of_mem hC;simp[ruL]);rw[List.length_zipWith,hlk.ru.len,Nat.min_self] at hvg;obtain⟨_,_,q2,q3,_⟩:=hlk.rd.cells;rw[hv2] at q2;rw[hvg] at q3;clear hl hlk hsc hk1 hv2 hvg HF HLN;by_cases h0:R.sorts.length=0
  ·have i0:((R.sorts.length:Int)==0)=true:=by simp[h0]
   have i0':(R.sorts.length:Int)=0:=by omega
   have hF3:Hid (finF R=none):=Qh (by rw[HF2.out,if_pos (.inl h0)]);clear h0 HF2;go_wp2_with fail
   go_ret2
   refine⟨0,12,rfl,HK1.out,?_⟩;rw[hF3.out];exact(by decide:(12:Int)≠0)
  ·have i0:((R.sorts.length:Int)==0)=false:=by rw[beq_eq_false_iff_ne];omega
   have i0':¬(R.sorts.length:Int)=0:=by omega
   by_cases h1:rs.length=0
   ·have j0:((rs.length:Int)==0)=true:=by simp[h1]
    have hF3:Hid (finF R=none):=Qh (by rw[HF2.out,if_pos (.inr h1)]);clear h0 h1 HF2;go_wp2_with fail
    go_ret2
    refine⟨0,12,rfl,HK1.out,?_⟩;rw[hF3.out];exact(by decide:(12:Int)≠0)
   ·have j0:((rs.length:Int)==0)=false:=by rw[beq_eq_false_iff_ne];omega
    have HF3:Hid (finF R=if(QH R).length=0 then some (rs,br) else if(Ym (QH R)).isSome=true then some (rs,br) else none):=Qh (by rw[HF2.out,if_neg (by rintro(h|h);exact h0 h;exact h1 h)]);have HC1:=Qh (classes_c HL.out.rd HOK.out);have hcl:(QH R).length≤80:=by
     unfold QH;rw[List.length_append,Yq];have:=HOK.out.lits;have:=HOK.out.cls;omega
    clear h0 h1 HF2;go_wp2_with fail
    refine HC1.out.mono ?_;rintro e w2 ⟨v,rfl,hov,hk2⟩;obtain⟨a,c,rfl,_⟩:=hov.row (fun C hC=>by obtain⟨x,_,rfl⟩:=List.mem_map.1 hC;rfl);rw[List.length_map];have HK2:=Qh (HK1.out.trans (QY hk2));have HL2:=Qh (HL.out.kn hk2);clear hov hk2;by_cases h9:(QH R).length=0
    ·have k9:¬(0:Int)<(QH R).length:=by omega
     have k9':¬0<(QH R).length:=by omega
     have hF4:Hid (finF R=some (rs,br)):=Qh (by rw[HF3.out,if_pos h9]);have hS:Hid (Ym (QH R)=none):=Qh (by unfold Ym;rw[if_pos h9]);clear h9 HF3;go_wp2_with fail
     go_ret2
     refine⟨0,0,rfl,HK2.out,?_⟩;rw[hF4.out];exact⟨rfl,rfl,⟨B,A,kb,vps,HL2.out,fun _=>HA.out,fun r hr=>by rw[hS.out] at hr;cases hr⟩,HOK.out,h120⟩
    ·have k9:(0:Int)<(QH R).length:=by omega
     have k9':0<(QH R).length:=by omega
     have HF4:Hid (finF R=if(Ym (QH R)).isSome=true then some (rs,br) else none):=Qh (by rw[HF3.out,if_neg h9]);have HN9:=Qh h9;have HC2:=Qh (classes_c HL2.out.rd HOK.out);clear h9 HF3;go_wp2_with fail
     refine HC2.out.mono ?_;rintro e w3 ⟨v,rfl,hov,hk3⟩;obtain⟨a3,c3,rfl,_,_,hg3⟩:=hov.row (fun C hC=>by obtain⟨x,_,rfl⟩:=List.mem_map.1 hC;rfl);obtain⟨g,rfl,_⟩:=hg3 (fun e=>HN9.out (by rw[List.map_eq_nil_iff.1 e];try rfl));have hcr:=clsR_own hov;have HSN:=Qh (scanNew_c g c3 (QH R) w3 hcr (by omega) (clsOf_ok HOK.out));rw[List.length_map];have HK3:=Qh (HK2.out.trans (QY hk3));have HL3:=Qh (HL2.out.kn hk3);clear hov hk3 hg3 hcr;go_wp2_with fail
     refine HSN.out.mono ?_;rintro e w4 ⟨hk4,hp⟩;have HK4:=Qh (HK3.out.trans (QY hk4));have HL4:=Qh (HL3.out.kn hk4);cases hsf:Ym (QH R) with
     |none=>
      rw[hsf] at hp;dsimp only at hp;obtain⟨k,n,hn,rfl⟩:=hp;have hn2:(n==0)=false:=by rw[beq_eq_false_iff_ne];exact hn
      have hF5:Hid (finF R=none):=Qh (by rw[HF4.out,hsf];try rfl);clear hsf hn HF4;go_wp2_with fail
      go_ret2
      refine⟨0,3,rfl,HK4.out,?_⟩;rw[hF5.out];exact(by decide:(3:Int)≠0)
     |some r=>
      rw[hsf] at hp;dsimp only at hp;obtain⟨ps,rfl,_,hsa⟩:=hp;have hF5:Hid (finF R=some (rs,br)):=Qh (by rw[HF4.out,hsf];try rfl);have HSF:=Qh hsf;have HSA:=Qh hsa;have q5:w4.cell? ⟨p,5,none⟩=some (.pointer none):=by obtain⟨_,_,_,_,_,q,_⟩:=HL4.out.rd.cells;rw[HA.out] at q;exact q
      have f5:=HL4.out.rd.fr 5;clear hsf hsa HF4 q2 q3;go_wp2_with fail
      go_ret2
      obtain⟨w5,hw5⟩:∃z,z=w4.setCell ⟨p,5,none⟩ (ptr ps):=⟨_,rfl⟩;have hk5:K1 p w4 w5:=by rw[hw5];exact Qg _ _
      have hL5:=HL4.out.setSc (ptr ps);rw[←hw5] at hL5⊢;refine⟨0,0,rfl,HK4.out.trans (hk5.mono (fun i hi e=>by have:=HL4.out.rd.pB.1;omega)),?_⟩;rw[hF5.out];refine⟨rfl,rfl,⟨B,_,kb,vps,hL5,fun h=>absurd h HN9.out,fun r2 hr2=>⟨ps,rfl,?_⟩⟩,HOK.out,h120⟩;rw[HSF.out] at hr2;injection hr2 with hr2;subst hr2;exact HSA.out.k1g HL4.out.rd.blk hk5
open Go.Shelf Go.RowKit Go.Maps
end Go.Proofs.YtiehgcfckhepaaaGreatDoor
namespace Go.Proofs.YtiehgcfckhepaaaGreatDoor
open Go.RowKit Go.Maps
theorem CloneP_c{B:Nat}{v:Value}{Cs:List (List Value)}(w:World)(hbig:Cs.length≤1000000)(h3:∀C∈Cs,C.length=4)(h1:∀u∈Cs.flatten,u.oneCell'=true)(h:OwnK w B TPa 4 v Cs):
  Calls Tryz.prog 98 #[v] w fun e w'=>∃v',e= .returned v'∧OwnK w' w.heap.size TPa 4 v' Cs∧Kn w w':=by
 obtain⟨i0,hi,hz0,hz1,hz2⟩:=info_parts info_pa;have HI:=Qh (And.intro hi (And.intro hz0 (And.intro hz1 hz2)));have q24:∀(w:World) (a:Option Addr) (n c n' c':Nat),(binOp .eql 208 (.slice a n c) (.slice none n' c')).run Tryz.prog w= .ok (.bool a.isNone) w:=fun w a n c n' c'=>Lib.run_eql_slice_nil w _ _ a n c n' c' Tryz.underlying208
 have HC:=Qh h;have H1:=Qh h1;have hfl:=flat_len h3;rcases h.2 with⟨hv,hcs⟩|⟨g,cap,cur,hv,hg,_,hc1,hc2,_⟩
 ·have hn:Cs=[]:=by simpa using hcs
  subst hv hn;clear hi hz0 hz1 hz2 h h1;go_enter Tryz.func98,Tryz.ntmps98;go_wp2_with fail
  go_ret;exact⟨_,rfl,OwnK.nil,Qb _ _⟩
 ·subst hv;obtain⟨n,hn⟩:∃n,n=Cs.length:=⟨_,rfl⟩;have HN:=Qh hn;rw[←hn] at HC hc1 hbig hfl⊢;have HF:=Qh hfl;clear hi hz0 hz1 hz2 h h1 hn hfl h3;go_enter Tryz.func98,Tryz.ntmps98;go_wp2_with (at_builtin;refine wpList_append_own _ rfl _ _ 208 rfl w.heap.size TPa i0 _ 4 32 Tryz.underlying208 HI.out.1 HI.out.2.1 HI.out.2.2.1 HI.out.2.2.2 rfl (by decide) _ _ _ rfl (World.ownsRow_made w #[] 0 (Nat.le_refl _) (Nat.zero_le _) rfl) ⟨g,0,none⟩ n cap Cs.flatten rfl ?qc1 ?qc2 ?qc3 ?qc4 ?qc5 ?qc6 ?_)
  case qc1=>exact HF.out
  case qc2=>
   intro j u hj;exact Lib.cell?_alloc_some _ (HC.out.cells rfl j u hj)
  case qc3=>exact H1.out
  case qc4=>unfold maxLen;omega
  case qc5=>omega
  case qc6=>simp
  intro v' w1 hown hgrow hnil;go_wp2_with fail
  go_ret;refine⟨v',rfl,by unfold OwnK;rw[←HN.out];simpa using hown,?_⟩;exact Yd (((Below.refl _ w).alloc (Nat.le_refl _) _).grown hgrow (by simp) (by intro k hk;simp[Value.ownBlock] at hk;omega))
theorem CloneR_c{B:Nat}{v:Value}{Cs:List (List Value)}(w:World)(hbig:Cs.length≤1000000)(h3:∀C∈Cs,C.length=4)(h1:∀u∈Cs.flatten,u.oneCell'=true)(h:OwnK w B TRu 4 v Cs):
  Calls Tryz.prog 97 #[v] w fun e w'=>∃v',e= .returned v'∧OwnK w' w.heap.size TRu 4 v' Cs∧Kn w w':=by
 obtain⟨i0,hi,hz0,hz1,hz2⟩:=info_parts info_ru;have HI:=Qh (And.intro hi (And.intro hz0 (And.intro hz1 hz2)));have q24:∀(w:World) (a:Option Addr) (n c n' c':Nat),(binOp .eql 108 (.slice a n c) (.slice none n' c')).run Tryz.prog w= .ok (.bool a.isNone) w:=fun w a n c n' c'=>Lib.run_eql_slice_nil w _ _ a n c n' c' Tryz.underlying108
 have HC:=Qh h;have H1:=Qh h1;have hfl:=flat_len h3;rcases h.2 with⟨hv,hcs⟩|⟨g,cap,cur,hv,hg,_,hc1,hc2,_⟩
 ·have hn:Cs=[]:=by simpa using hcs
  subst hv hn;clear hi hz0 hz1 hz2 h h1;go_enter Tryz.func97,Tryz.ntmps97;go_wp2_with fail
  go_ret;exact⟨_,rfl,OwnK.nil,Qb _ _⟩
 ·subst hv;obtain⟨n,hn⟩:∃n,n=Cs.length:=⟨_,rfl⟩;have HN:=Qh hn;rw[←hn] at HC hc1 hbig hfl⊢;have HF:=Qh hfl;clear hi hz0 hz1 hz2 h h1 hn hfl h3;go_enter Tryz.func97,Tryz.ntmps97;go_wp2_with (at_builtin;refine wpList_append_own _ rfl _ _ 108 rfl w.heap.size TRu i0 _ 4 56 Tryz.underlying108 HI.out.1 HI.out.2.1 HI.out.2.2.1 HI.out.2.2.2 rfl (by decide) _ _ _ rfl (World.ownsRow_made w #[] 0 (Nat.le_refl _) (Nat.zero_le _) rfl) ⟨g,0,none⟩ n cap Cs.flatten rfl ?qc1 ?qc2 ?qc3 ?qc4 ?qc5 ?qc6 ?_)
  case qc1=>exact HF.out
  case qc2=>
   intro j u hj;exact Lib.cell?_alloc_some _ (HC.out.cells rfl j u hj)
  case qc3=>exact H1.out
  case qc4=>unfold maxLen;omega
  case qc5=>omega
  case qc6=>simp
  intro v' w1 hown hgrow hnil;go_wp2_with fail
  go_ret;refine⟨v',rfl,by unfold OwnK;rw[←HN.out];simpa using hown,?_⟩;exact Yd (((Below.refl _ w).alloc (Nat.le_refl _) _).grown hgrow (by simp) (by intro k hk;simp[Value.ownBlock] at hk;omega))
theorem zip_ru_set(rs:List GR)(vk:List Value)(k:Nat)(v:Value)(hk:k<(List.zipWith ruL rs vk).length):
  (List.zipWith ruL rs vk).set k ((List.zipWith ruL rs vk)[k].set 3 v)=List.zipWith ruL rs (vk.set k v):=by
 apply List.ext_getElem
 ·simp
 ·intro i h1 h2;rw[List.getElem_set];split
  ·subst_vars;simp[ruL]
  ·rename_i hne;simp only[List.getElem_zipWith];rw[List.getElem_set_ne hne]
def RulesPost(w:World)(rs:List GR)(e:Ending)(w':World):Prop:=∃v vps,e= .returned v∧RuAt w' w.heap.size v rs vps∧Kn w w'
theorem rules_c{B p kb:Nat}{R:RS}{A:RA}{rs:List GR}{vps:List Value}{br:List (Nat×Nat)}{w:World}(h:LkAt w B p R A kb rs vps br)(hrl:rs.length≤120)(hpz:∀r∈rs,r.parts.length≤1000000):
  Calls Tryz.prog 55 #[ptr p] w (RulesPost w rs):=by
 have h4:∀vk:List Value,∀C∈List.zipWith ruL rs vk,C.length=4:=fun vk C hC=>by obtain⟨i,hi,rfl⟩:=List.getElem_of_mem hC;simp[ruL]
 have hlen:=h.ru.len;have hon1:∀u∈(List.zipWith ruL rs vps).flatten,u.oneCell'=true:=by
  intro u hu;obtain⟨C,hC,hu⟩:=List.mem_flatten.1 hu;obtain⟨i,hi,rfl⟩:=List.getElem_of_mem hC;have hi2:i<rs.length∧i<vps.length:=by rw[List.length_zipWith] at hi;omega
  have hp:=h.ru.parts i hi2.2 hi2.1;obtain⟨a,c,hv,_⟩:=hp.row (k:=4) (fun C hC=>by obtain⟨x,_,rfl⟩:=List.mem_map.1 hC;rfl);simp only[List.getElem_zipWith,ruL,hv] at hu;simp at hu;rcases hu with rfl|rfl|rfl|rfl<;>rfl
 have HCL:=Qh (CloneR_c w (by rw[List.length_zipWith];omega) (h4 vps) hon1 h.ru.row);have HP:=Qh (fun(wr:World) (hk:Kn w wr) (i:Nat) (h1:i<rs.length) (h2:i<vps.length)=>
  CloneP_c wr (by rw[List.length_map];exact hpz _ (List.getElem_mem h1)) (fun C hC=>by obtain⟨x,_,rfl⟩:=List.mem_map.1 hC;rfl) (fun u hu=>by
   obtain⟨C,hC,hu⟩:=List.mem_flatten.1 hu;obtain⟨x,_,rfl⟩:=List.mem_map.1 hC;simp[paL] at hu;rcases hu with rfl|rfl|rfl|rfl<;>rfl) ((h.ru.parts i h2 h1).kn hk))
 obtain⟨_,_,_,q3,_⟩:=h.rd.cells;have hpl:=h.rd.lt;clear h hon1;go_enter Tryz.func55,Tryz.ntmps55;go_wp2_with fail
 refine HCL.out.mono ?_;rintro e w1 ⟨v,rfl,hown,hk1⟩;obtain⟨a,c,rfl,hc1,hc2,hg⟩:=hown.row (h4 vps);have HX:=Qh hg;have hzl:(List.zipWith ruL rs vps).length=rs.length:=by rw[List.length_zipWith,hlen,Nat.min_self]
 rw[hzl] at hown hc1⊢;have HOW:=Qh hown;have HLN:=Qh hlen;clear hg hown HCL q3 hzl hlen;go_wp2_with fail
 go_loopw [14] (fun s14 wr=>∃(k:Nat) (vk:List Value),s14= .int .i64 k∧k≤rs.length∧Hid (OwnK wr w.heap.size TRu 4 (.slice a rs.length c) (List.zipWith ruL rs vk))∧Hid (vk.length=rs.length)∧Hid (∀i (h1:i<vk.length) (h2:i<rs.length),i<k→OwnK wr w.heap.size TPa 4 vk[i] (rs[i].parts.map paL))∧Hid (∀i,k≤i→vk[i]? =vps[i]?)∧Kn w wr) (fun s14 _=>rs.length-(intOf s14).toNat)
 case atStart=>exact⟨0,vps,rfl,Nat.zero_le _,HOW,HLN,Qh (fun i _ _ h=>absurd h (Nat.not_lt_zero _)),Qh (fun _ _=>rfl),hk1⟩
 case round=>
  clear HOW hk1;obtain⟨k,vk,rfl,hk,HO,HV,HPA,HR,hkn⟩:=hrel;by_cases hlt:k<rs.length
  ·have hvk:=HV.out;obtain⟨a',c',hv,_,_,hg⟩:=HO.out.row (h4 vk);have hzl:(List.zipWith ruL rs vk).length=rs.length:=by rw[List.length_zipWith,hvk,Nat.min_self]
   obtain⟨g,rfl,hgH,_,hc⟩:=hg (fun e=>by rw[e] at hzl;simp at hzl;omega);obtain rfl:a=some ⟨g,0,none⟩:=by injection hv
   have c3:wr.cell? ⟨g,k*4+3,none⟩=some (vk[k]'(by omega)):=by
    have:=(hc k (by omega) 3 (by omega)).1;rw[show 0+4*k+3=k*4+3 by omega] at this;rw[this];simp[ruL]
   have f3:wr.frozen? ⟨g,k*4+3,none⟩=false:=by
    have:=(hc k (by omega) 3 (by omega)).2;rwa[show 0+4*k+3=k*4+3 by omega] at this
   have hlv:k<vps.length:=by have:=HLN.out;omega
   have hvv:vk[k]'(by omega)=vps[k]:=by
    have:=HR.out k (Nat.le_refl _);rw[List.getElem?_eq_getElem (by omega),List.getElem?_eq_getElem hlv] at this;exact Option.some.inj this
   rw[hvv] at c3;have HPC:=Qh (HP.out wr hkn k hlt hlv);obtain⟨vp,hvp⟩:∃x,x=vps[k]:=⟨_,rfl⟩;rw[←hvp] at HPC c3;have HZL:=Qh hzl;have HGH:=Qh hgH;obtain⟨cur,hgb⟩:=OwnK.blkT HO.out (g:=g) rfl;have hgl:g<wr.heap.size:=by
    rcases Nat.lt_or_ge g wr.heap.size with h|h
    ·exact h
    ·rw[Array.getElem?_eq_none h] at hgb;cases hgb
   clear hv hg hc hvv hvp hzl hvk hgb hgH;go_wp2_with fail
   refine HPC.out.mono ?_;rintro e w2 ⟨v',rfl,hov,hk2⟩;have f32:w2.frozen? ⟨g,k*4+3,none⟩=false:=by
    obtain⟨cur,hgb⟩:=OwnK.blkT (HO.out.kn hk2) (g:=g) rfl;exact Qd hgb _
   obtain⟨a2,c2,rfl,_⟩:=hov.row (k:=4) (fun C hC=>by obtain⟨x,_,rfl⟩:=List.mem_map.1 hC;rfl);have hml:(List.map paL rs[k].parts).length=rs[k].parts.length:=List.length_map ..
   rw[hml] at hov⊢;clear hml;have HOV:=Qh hov;have HK2:=Qh hk2;have c32:=Qc hk2 c3;clear f3 c3 hov hk2;go_wp2_with fail
   go_roundw
   case rel=>
    have hkn2:=hkn.trans HK2.out;have hvk:=HV.out;have hkz:k<(List.zipWith ruL rs vk).length:=by have:=HZL.out;omega
    have hkv:k<vk.length:=by omega
    have hk3:K1 g w2 (w2.setCell ⟨g,k*4+3,none⟩ (.slice a2 rs[k].parts.length c2)):=Qg _ _;have hset:=OwnK.set (HO.out.kn HK2.out) (h4 vk) (g:=g) rfl k 3 hkz (by omega) (.slice a2 rs[k].parts.length c2);rw[zip_ru_set,show 0+4*k+3=k*4+3 by omega] at hset;obtain⟨cur,hgb⟩:=OwnK.blkT (HO.out.kn HK2.out) (g:=g) rfl;have hS:=QO hgb;refine⟨k+1,vk.set k (.slice a2 rs[k].parts.length c2),by go_num,by omega,Qh hset,Qh (by rw[List.length_set];exact HV.out),Qh ?_,Qh ?_,?_⟩
    ·intro i h1 h2 hi;rw[List.length_set] at h1;by_cases e:k=i
     ·subst e;rw[List.getElem_set_self];exact Qk (OwnK.base HOV.out (by have:=hkn.size;omega)) hk3 hS (by decide)
     ·rw[List.getElem_set_ne e];exact Qk ((HPA.out i h1 h2 (by omega)).kn HK2.out) hk3 hS (by decide)
    ·intro i hi;rw[List.getElem?_set_ne (by omega)];exact HR.out i (by omega)
    ·exact hkn2.trans' hk3 (fun i hi e=>by have:=HGH.out;omega)
   case measure=>simp[intOf];omega
  ·obtain rfl:k=rs.length:=by omega
   go_wp2_with fail
   go_ret;exact⟨_,vk,rfl,⟨HO.out,HV.out,fun i h1 h2=>HPA.out i h1 h2 h2⟩,hkn⟩
theorem step_make_v{P:Program}(w:World){x:Value}{ops:Array Oper}{o:Oper}{a:Act}{K:Act→World→Prop}{Q:Exit→Act→World→Prop}{E:Prop}
  (hg:o.guard=none) (l c:Operand) (t:TypeId) (hop:o.op=Op.makeSlice t l c) (e:TypeId) (i:TypeInfo) (z:Value) (h1:P.underlying t=some (.slice e)) (h2:P.info? e=some i) (h3:i.zero=some z) (h4:i.size=1) (hz:z.cells= #[x])
  (n:Nat) (hl:a.eval l= .int .i64 n) (hc:a.eval c= .int .i64 n) (b2:i.bytes*n≤281474976710656) (b3:n≤maxLen)
  (hK:∀w',RowV w' e w.heap.size (List.replicate n x)→Kn w w'→K (a.put o.dst (.slice (some ⟨w.heap.size,0,none⟩) n n)) w'):
  if Region.wanted o (yielded ops a.tmps)=true then Oper.wp P o a w K Q else E:=by
 have hw:Region.wanted o (yielded ops a.tmps)=true:=by simp[Region.wanted,hg]
 rw[if_pos hw];obtain⟨w',hr,h5,h6⟩:=run_make_full (P:=P) w 0 t e i z 1 h1 h2 h3 h4 .i64 .i64 n b2 b3 (Nat.zero_le _);rw[hz] at h5;have h7:=hK w' (RowV.of_made h5) (QT (S:=fun _=>False) h6 (fun k e _=>by cases e));unfold Oper.wp;simp[execOp,hop,hl,hc,hr,Result.andThen];exact h7
theorem info_bi:(Tryz.prog.info? TBi).map (fun i=>(i.zero,i.size,i.bytes))=some (some (.agg #[.int .u64 0]),1,8):=by kernel_rfl
structure NewI (w0 w:World) (p n:Nat) (c:SA) (o4 o6 o8:Option Nat):Prop where
 blk:w.heap[p]? =some (.cells (seC c) TSt (0,0))
 kp:K1 p w0 w
 r4:∀g,o4=some g→RowV w 4 g (List.replicate n (.bool false))∧w0.heap.size≤g∧g≠p
 r6:∀g,o6=some g→RowV w TBi g (List.replicate n (.int .u64 0))∧w0.heap.size≤g∧g≠p
 r8:∀g,o8=some g→RowV w TBi g (List.replicate n (.int .u64 0))∧w0.heap.size≤g∧g≠p
 ne:∀g h,o6=some g→o8=some h→g≠h
section
variable {w0 w w':World} {p n:Nat} {c:SA} {o4 o6 o8:Option Nat}
theorem NewI.kn(h:NewI w0 w p n c o4 o6 o8)(hk:Kn w w'):NewI w0 w' p n c o4 o6 o8:=⟨hk.blk h.blk (fun x=>x),h.kp.trans (Kp.weak hk),fun g e=>⟨(h.r4 g e).1.kn hk,(h.r4 g e).2⟩,fun g e=>⟨(h.r6 g e).1.kn hk,(h.r6 g e).2⟩,fun g e=>⟨(h.r8 g e).1.kn hk,(h.r8 g e).2⟩,h.ne⟩
theorem NewI.m4(h:NewI w0 w p n c none o6 o8)(hr:RowV w' 4 w.heap.size (List.replicate n (.bool false)))(hk:Kn w w'):NewI w0 w' p n c (some w.heap.size) o6 o8:=
 ⟨hk.blk h.blk (fun x=>x),h.kp.trans (Kp.weak hk),fun g e=>by injection e with e;subst e;exact⟨hr,h.kp.size,fun e=>absurd (Ql h.blk) (by omega)⟩,(h.kn hk).r6,(h.kn hk).r8,h.ne⟩
theorem NewI.m6(h:NewI w0 w p n c o4 none o8)(hr:RowV w' TBi w.heap.size (List.replicate n (.int .u64 0)))(hk:Kn w w'):NewI w0 w' p n c o4 (some w.heap.size) o8:=
 ⟨hk.blk h.blk (fun x=>x),h.kp.trans (Kp.weak hk),(h.kn hk).r4,fun g e=>by injection e with e;subst e;exact⟨hr,h.kp.size,fun e=>absurd (Ql h.blk) (by omega)⟩,(h.kn hk).r8,fun a b e1 e2=>by injection e1 with e1;subst e1;have:=(h.r8 b e2).1.lt;omega⟩
theorem NewI.m8(h:NewI w0 w p n c o4 o6 none)(hr:RowV w' TBi w.heap.size (List.replicate n (.int .u64 0)))(hk:Kn w w'):NewI w0 w' p n c o4 o6 (some w.heap.size):=
 ⟨hk.blk h.blk (fun x=>x),h.kp.trans (Kp.weak hk),(h.kn hk).r4,(h.kn hk).r6,fun g e=>by injection e with e;subst e;exact⟨hr,h.kp.size,fun e=>absurd (Ql h.blk) (by omega)⟩,fun a b e1 e2=>by injection e2 with e2;subst e2;have:=(h.r6 a e1).1.lt;omega⟩
theorem NewI.st{c':SA}{j:Nat}{v:Value}(h:NewI w0 w p n c o4 o6 o8)(hc:(seC c).setIfInBounds j v=seC c'):NewI w0 (w.setCell ⟨p,j,none⟩ v) p n c' o4 o6 o8:=by
 have hk:K1 p w (w.setCell ⟨p,j,none⟩ v):=Qg _ _;exact⟨by rw[Qj h.blk,hc],h.kp.trans hk,fun g e=>⟨(h.r4 g e).1.kp hk (h.r4 g e).2.2,(h.r4 g e).2⟩,fun g e=>⟨(h.r6 g e).1.kp hk (h.r6 g e).2.2,(h.r6 g e).2⟩,fun g e=>⟨(h.r8 g e).1.kp hk (h.r8 g e).2.2,(h.r8 g e).2⟩,h.ne⟩
theorem NewI.c5(h:NewI w0 w p n c o4 o6 o8):w.cell? ⟨p,5,none⟩=some c.ve:=by rw[Qa h.blk];try rfl
theorem NewI.c6(h:NewI w0 w p n c o4 o6 o8):w.cell? ⟨p,6,none⟩=some c.vf:=by rw[Qa h.blk];try rfl
theorem NewI.c7(h:NewI w0 w p n c o4 o6 o8):w.cell? ⟨p,7,none⟩=some c.vw:=by rw[Qa h.blk];try rfl
theorem NewI.fr(h:NewI w0 w p n c o4 o6 o8)(i:Nat):w.frozen? ⟨p,i,none⟩=false:=Qd h.blk i
end
def SetsIn(w:World)(p:Nat)(X:SX):Prop:=∃B A ge gf gw,StAt w B p X.b A X.empty X.first X.follow ge gf gw∧SBok X.b∧A.fin=X.fin
theorem SetsIn.kn{w w':World}{p:Nat}{X:SX}(h:SetsIn w p X)(hk:Kn w w'):SetsIn w' p X:=by
 obtain⟨B,A,ge,gf,gw,h1,h2⟩:=h;exact⟨B,A,ge,gf,gw,h1.kn hk,h2⟩
theorem setsNew_c{pg:Nat}{R:RS}{rs:List GR}{br:List (Nat×Nat)}{w:World}(h:GrAt w pg R rs br)(ok:RulesOk rs):
  Calls Tryz.prog 22 #[ptr pg] w fun e w'=>∃(ps:Nat) (X:SX),e= .returned (.tuple #[ptr ps,.int .i64 0])∧SetsIn w' ps X∧IsSets rs (QH R).length X∧Kn w w':=by
 have hmm:= @run_makeMap Tryz.prog;have hmf:∀(fn:Fn) (first cap:Array Value) (w:World),(Instr.makeFunc fn first cap).run Tryz.prog w= .ok (.func fn first cap) w:=fun _ _ _ _=>rfl
 obtain⟨⟨B0,A0,kb,vps0,hlk,-,-⟩,hok,hrl⟩:=h;obtain⟨w1,hw1⟩:∃z,z=w.alloc (.map #[] 0):=⟨_,rfl⟩;have hk1:Kn w w1:=by rw[hw1];exact(Qb _ _).alloc _
 obtain⟨bm,hbm⟩:∃z,z=w.heap.size:=⟨_,rfl⟩;have hm1:MapA w1 TPc bm []:=by rw[hw1,hbm];exact MapA.new w TPc
 have HCL:=Qh (classes_c (hlk.rd.kn hk1) hok);have HLK:=Qh hlk;have HW1:=Qh (And.intro hw1 hbm);have HK1:=Qh hk1;have HM1:=Qh hm1;have HOK:=Qh ok;have HRO:=Qh hok;have hcl80:(QH R).length≤80:=by
  unfold QH;rw[List.length_append,Yq];have:=hok.lits;have:=hok.cls;omega
 obtain⟨m,hm⟩:∃m,m=(QH R).length:=⟨_,rfl⟩;have HME:=Qh hm;have hpgl:=hlk.lt;clear ok hlk hw1 hk1 hm1 hok hbm hm;have HRL:=Qh hrl;go_enter Tryz.func22,Tryz.ntmps22;go_upto_region 3 with fail
 go_wp2_with (first|(go_at_call 56;go_must (rw[←HW1.out.1,←HW1.out.2];refine HCL.out.mono ?_;rintro e w2 ⟨v,rfl,hov,hk2⟩;obtain⟨ac,cc,hv,_⟩:=hov.row (fun C hC=>by {obtain⟨x,_,rfl⟩:=List.mem_map.1 hC;rfl});rw[List.length_map,←HME.out] at hv;subst hv;have HK2:=Qh (HK1.out.trans hk2);have HM2:=Qh (HM1.out.kn hk2);clear hov hk2 HCL HM1)))
 obtain⟨p,hp⟩:∃z,z=w2.heap.size:=⟨_,rfl⟩;obtain⟨w3,hw3⟩:∃z,z=w2.alloc (.cells (seC ⟨.slice none 0 0,.slice none 0 0,.slice none 0 0,.slice none 0 0,.slice none 0 0,.slice none 0 0,bm,m,[],[]⟩) TSt):=⟨_,rfl⟩;rw[show(.cells #[.slice none 0 0,.map (some bm),.slice none 0 0,.slice none 0 0,.int .i64 (m:Nat),.slice none 0 0,.slice none 0 0,.slice none 0 0] TSt:Obj)= .cells (seC ⟨.slice none 0 0,.slice none 0 0,.slice none 0 0,.slice none 0 0,.slice none 0 0,.slice none 0 0,bm,m,[],[]⟩) TSt from rfl,←hw3,←hp];have hk3:Kn w2 w3:=by rw[hw3];exact(Qb _ _).alloc _
 have hbp:w3.heap[p]? =some (.cells (seC ⟨.slice none 0 0,.slice none 0 0,.slice none 0 0,.slice none 0 0,.slice none 0 0,.slice none 0 0,bm,m,[],[]⟩) TSt (0,0)):=by rw[hw3,hp];exact Qf _ _
 have HRU:=Qh (rules_c (HLK.out.kn (HK2.out.trans hk3)) HRL.out (fun r hr=>by have:=HOK.out.pl r hr;omega));have hpw:w.heap.size≤p:=by rw[hp];exact HK2.out.size
 have HK3:=Qh (HK2.out.trans hk3);have HM3:=Qh (HM2.out.kn hk3);have HBP:=Qh hbp;have hbmw:w.heap.size≤bm:=by have:=HW1.out.2;omega
 clear hw3 hp hk3 hbp HK2 HM2;refine HRU.out.mono ?_;rintro e w4 ⟨v,vps,rfl,hru,hk4⟩;obtain⟨ar,cr,rfl,hrr⟩:=RuR.of hru;have hbd:BdAt w4 w.heap.size p ⟨[],[],[]⟩ ⟨.slice none 0 0,.slice none 0 0,.slice none 0 0,.slice none 0 0,.slice none 0 0,.slice none 0 0,bm,m,[],[]⟩:=
  ⟨hk4.blk HBP.out (fun x=>x),OwnK.nil,HM3.out.kn hk4,⟨OwnK.nil,rfl,fun i h=>by simp at h⟩,⟨OwnK.nil,rfl,fun i h=>by simp at h⟩,hpw,hbmw⟩
 have HBC:=Qh (build_c (c:=cr) hbd hrr HOK.out);have HK4:=Qh (HK3.out.trans hk4);clear hru hk4 hrr hbd HRU HBP HM3 HK3;go_wp2_with (first|(go_at_call 65;go_must (refine HBC.out.mono ?_;rintro e w5 ⟨rfl,A5,hb5,hak5,hkb5⟩;have HB5:=Qh hb5;have HAK5:=Qh hak5;have hkn5:Kn w w5:=hkb5.old HK4.out rfl (Nat.le_refl _) hpw hbmw;have HK5:=Qh hkn5;obtain⟨ap5,cp5,p5,_⟩:=hb5.pcell;clear hb5 hak5 hkb5 HBC hkn5)))
 obtain⟨X,hX⟩:∃z,z=buildF rs:=⟨_,rfl⟩;rw[←hX] at HB5 p5⊢;have HX:=Qh hX;have hbok:=buildF_ok HOK.out;rw[←hX] at hbok;have HBO:=Qh hbok;have hXle:=hbok.le;have hXpos:=hbok.pos;obtain⟨n,hn⟩:∃z,z=X.places.length:=⟨_,rfl⟩;rw[←hn] at p5 hXle hXpos⊢;have HN:=Qh hn;clear hX hbok hn;obtain⟨ib,hi,hz0,hz1,hz2⟩:=info_parts info_bool;have HIB:=Qh (And.intro hi (And.intro hz0 (And.intro hz1 hz2)));obtain⟨iu,hi,hz0,hz1,hz2⟩:=info_parts info_bi;have HIU:=Qh (And.intro hi (And.intro hz0 (And.intro hz1 hz2)));have hpb:=HB5.out.blk;have hve5:A5.ve= .slice none 0 0:=HAK5.out.ve;have hvf5:A5.vf= .slice none 0 0:=HAK5.out.vf;have hvw5:A5.vw= .slice none 0 0:=HAK5.out.vw;have HVE:=Qh (And.intro hve5 (And.intro hvf5 hvw5));have hmx:n≤maxLen:=by simp only[maxLen];omega
 have hbB:Hid (ib.bytes*n≤281474976710656):=Qh (by rw[HIB.out.2.2.2];omega);have hbU:Hid (iu.bytes*n≤281474976710656):=Qh (by rw[HIU.out.2.2.2];omega);have HI0:Hid (NewI w5 w5.drew p n A5 none none none):=Qh ⟨hpb,(Qb _ _).drew,fun g e=>(by cases e),fun g e=>(by cases e),fun g e=>(by cases e),fun a b e _=>(by cases e)⟩;clear hi hz0 hz1 hz2 hpb hve5 hvf5 hvw5;go_upto_region 6 with fail
 go_cut [] (fun wc=>∃ge gf gw:Nat,Hid (NewI w5 wc p n {A5 with ve:= .slice (some ⟨ge,0,none⟩) n n,vf:= .slice (some ⟨gf,0,none⟩) n n,vw:= .slice (some ⟨gw,0,none⟩) n n} (some ge) (some gf) (some gw)))
 case first=>
  refine rgn (fun _=>True) (X:=[]) trivial (fun hX hHeld=> ?_);obtain⟨v0,hv0⟩:∃z,z=w5.drew:=⟨_,rfl⟩;rw[←hv0] at HI0⊢;clear hv0;have HI:=HI0;clear HI0;refine tw 0 23 ?_;refine tw 1 24 ?_;refine tw 2 25 ?_;refine tw 3 26 ?_;refine tw 5 28 ?_;refine tw 7 30 ?_
  repeat' (first
   |((with_reducible show RG _ _ _ _ _ _ (Array.setIfInBounds _ 7 true) _ _);refine ro3 4 6 8 (fun K hK=> ?_) (fun K hK=> ?_) (fun K hK=> ?_))
   |((with_reducible show RG _ _ _ _ _ _ (Array.setIfInBounds (Array.setIfInBounds _ 7 true) 8 true) _ _);refine ro2 4 6 (fun K hK=> ?_) (fun K hK=> ?_))
   |((with_reducible show RG _ _ _ _ _ _ (Array.setIfInBounds (Array.setIfInBounds (Array.setIfInBounds _ 7 true) 8 true) 6 true) _ _);refine ro 4 (fun K hK=> ?_))
   |((with_reducible show RG _ _ _ _ _ _ (Array.setIfInBounds _ 4 true) _ _);refine tw 9 32 ?_)
   |((with_reducible show RG _ _ _ _ _ _ (Array.setIfInBounds _ 9 true) _ _);refine tw 10 33 ?_)
   |((with_reducible show RG _ _ _ _ _ _ (Array.setIfInBounds (Array.setIfInBounds (Array.setIfInBounds (Array.setIfInBounds (Array.setIfInBounds _ 8 true) 6 true) 4 true) 9 true) 10 true) _ _);refine ro 11 (fun K hK=> ?_))
   |((with_reducible show RG _ _ _ _ _ _ (Array.setIfInBounds (Array.setIfInBounds (Array.setIfInBounds (Array.setIfInBounds (Array.setIfInBounds _ 6 true) 4 true) 9 true) 10 true) 11 true) _ _);refine tw 12 34 ?_)
   |((with_reducible show RG _ _ _ _ _ _ (Array.setIfInBounds _ 12 true) _ _);refine tw 13 35 ?_)
   |((with_reducible show RG _ _ _ _ _ _ (Array.setIfInBounds (Array.setIfInBounds (Array.setIfInBounds (Array.setIfInBounds (Array.setIfInBounds (Array.setIfInBounds (Array.setIfInBounds (Array.setIfInBounds _ 8 true) 6 true) 4 true) 9 true) 10 true) 11 true) 12 true) 13 true) _ _);refine ro 14 (fun K hK=> ?_))
   |((with_reducible show RG _ _ _ _ _ _ (Array.setIfInBounds (Array.setIfInBounds (Array.setIfInBounds (Array.setIfInBounds (Array.setIfInBounds (Array.setIfInBounds (Array.setIfInBounds (Array.setIfInBounds (Array.setIfInBounds _ 8 true) 6 true) 4 true) 9 true) 10 true) 11 true) 12 true) 13 true) 14 true) _ _);refine tw 15 36 ?_)
   |((with_reducible show RG _ _ _ _ _ _ (Array.setIfInBounds _ 15 true) _ _);refine tw 16 37 ?_)
   |((with_reducible show RG _ _ _ _ _ _ (Array.setIfInBounds _ 16 true) _ _);refine re 17 (fun K hK=> ?_))
   |((with_reducible show RG _ _ _ _ _ _ (Array.setIfInBounds (Array.setIfInBounds (Array.setIfInBounds (Array.setIfInBounds (Array.setIfInBounds _ 7 true) 8 true) 4 true) 9 true) 10 true) _ _);refine ro2 6 11 (fun K hK=> ?_) (fun K hK=> ?_))
   |((with_reducible show RG _ _ _ _ _ _ (Array.setIfInBounds (Array.setIfInBounds (Array.setIfInBounds (Array.setIfInBounds (Array.setIfInBounds (Array.setIfInBounds _ 7 true) 8 true) 4 true) 9 true) 10 true) 11 true) _ _);refine ro 6 (fun K hK=> ?_))
   |((with_reducible show RG _ _ _ _ _ _ (Array.setIfInBounds (Array.setIfInBounds _ 11 true) 6 true) _ _);refine tw 12 34 ?_)
   |((with_reducible show RG _ _ _ _ _ _ (Array.setIfInBounds (Array.setIfInBounds (Array.setIfInBounds (Array.setIfInBounds (Array.setIfInBounds (Array.setIfInBounds (Array.setIfInBounds (Array.setIfInBounds _ 8 true) 4 true) 9 true) 10 true) 11 true) 6 true) 12 true) 13 true) _ _);refine ro 14 (fun K hK=> ?_))
   |((with_reducible show RG _ _ _ _ _ _ (Array.setIfInBounds (Array.setIfInBounds (Array.setIfInBounds (Array.setIfInBounds (Array.setIfInBounds (Array.setIfInBounds (Array.setIfInBounds (Array.setIfInBounds (Array.setIfInBounds _ 8 true) 4 true) 9 true) 10 true) 11 true) 6 true) 12 true) 13 true) 14 true) _ _);refine tw 15 36 ?_)
   |((with_reducible show RG _ _ _ _ _ _ (Array.setIfInBounds (Array.setIfInBounds (Array.setIfInBounds (Array.setIfInBounds (Array.setIfInBounds _ 8 true) 4 true) 9 true) 10 true) 6 true) _ _);refine ro 11 (fun K hK=> ?_))
   |((with_reducible show RG _ _ _ _ _ _ (Array.setIfInBounds (Array.setIfInBounds _ 6 true) 11 true) _ _);refine tw 12 34 ?_)
   |((with_reducible show RG _ _ _ _ _ _ (Array.setIfInBounds (Array.setIfInBounds (Array.setIfInBounds (Array.setIfInBounds (Array.setIfInBounds (Array.setIfInBounds (Array.setIfInBounds (Array.setIfInBounds _ 8 true) 4 true) 9 true) 10 true) 6 true) 11 true) 12 true) 13 true) _ _);refine ro 14 (fun K hK=> ?_))
   |((with_reducible show RG _ _ _ _ _ _ (Array.setIfInBounds (Array.setIfInBounds (Array.setIfInBounds (Array.setIfInBounds (Array.setIfInBounds (Array.setIfInBounds (Array.setIfInBounds (Array.setIfInBounds (Array.setIfInBounds _ 8 true) 4 true) 9 true) 10 true) 6 true) 11 true) 12 true) 13 true) 14 true) _ _);refine tw 15 36 ?_)
   |((with_reducible show RG _ _ _ _ _ _ (Array.setIfInBounds (Array.setIfInBounds _ 7 true) 6 true) _ _);refine ro2 4 8 (fun K hK=> ?_) (fun K hK=> ?_))
   |((with_reducible show RG _ _ _ _ _ _ (Array.setIfInBounds (Array.setIfInBounds (Array.setIfInBounds _ 7 true) 6 true) 8 true) _ _);refine ro 4 (fun K hK=> ?_))
   |((with_reducible show RG _ _ _ _ _ _ (Array.setIfInBounds (Array.setIfInBounds (Array.setIfInBounds (Array.setIfInBounds (Array.setIfInBounds _ 6 true) 8 true) 4 true) 9 true) 10 true) _ _);refine ro 11 (fun K hK=> ?_))
   |((with_reducible show RG _ _ _ _ _ _ (Array.setIfInBounds (Array.setIfInBounds (Array.setIfInBounds (Array.setIfInBounds (Array.setIfInBounds (Array.setIfInBounds _ 6 true) 8 true) 4 true) 9 true) 10 true) 11 true) _ _);refine tw 12 34 ?_)
   |((with_reducible show RG _ _ _ _ _ _ (Array.setIfInBounds (Array.setIfInBounds (Array.setIfInBounds (Array.setIfInBounds (Array.setIfInBounds (Array.setIfInBounds (Array.setIfInBounds _ 8 true) 4 true) 9 true) 10 true) 11 true) 12 true) 13 true) _ _);refine ro 14 (fun K hK=> ?_))
   |((with_reducible show RG _ _ _ _ _ _ (Array.setIfInBounds (Array.setIfInBounds (Array.setIfInBounds (Array.setIfInBounds (Array.setIfInBounds (Array.setIfInBounds (Array.setIfInBounds (Array.setIfInBounds _ 8 true) 4 true) 9 true) 10 true) 11 true) 12 true) 13 true) 14 true) _ _);refine tw 15 36 ?_)
   |((with_reducible show RG _ _ _ _ _ _ (Array.setIfInBounds (Array.setIfInBounds (Array.setIfInBounds (Array.setIfInBounds (Array.setIfInBounds _ 7 true) 6 true) 4 true) 9 true) 10 true) _ _);refine ro2 8 11 (fun K hK=> ?_) (fun K hK=> ?_))
   |((with_reducible show RG _ _ _ _ _ _ (Array.setIfInBounds (Array.setIfInBounds (Array.setIfInBounds (Array.setIfInBounds (Array.setIfInBounds (Array.setIfInBounds (Array.setIfInBounds (Array.setIfInBounds _ 7 true) 6 true) 4 true) 9 true) 10 true) 11 true) 12 true) 13 true) _ _);refine ro2 8 14 (fun K hK=> ?_) (fun K hK=> ?_))
   |((with_reducible show RG _ _ _ _ _ _ (Array.setIfInBounds (Array.setIfInBounds (Array.setIfInBounds (Array.setIfInBounds (Array.setIfInBounds (Array.setIfInBounds (Array.setIfInBounds (Array.setIfInBounds (Array.setIfInBounds _ 7 true) 6 true) 4 true) 9 true) 10 true) 11 true) 12 true) 13 true) 14 true) _ _);refine ro 8 (fun K hK=> ?_))
   |((with_reducible show RG _ _ _ _ _ _ (Array.setIfInBounds (Array.setIfInBounds _ 14 true) 8 true) _ _);refine tw 15 36 ?_)
   |((with_reducible show RG _ _ _ _ _ _ (Array.setIfInBounds (Array.setIfInBounds _ 13 true) 8 true) _ _);refine ro 14 (fun K hK=> ?_))
   |((with_reducible show RG _ _ _ _ _ _ (Array.setIfInBounds (Array.setIfInBounds _ 8 true) 14 true) _ _);refine tw 15 36 ?_)
   |((with_reducible show RG _ _ _ _ _ _ (Array.setIfInBounds (Array.setIfInBounds (Array.setIfInBounds (Array.setIfInBounds (Array.setIfInBounds _ 6 true) 4 true) 9 true) 10 true) 8 true) _ _);refine ro 11 (fun K hK=> ?_))
   |((with_reducible show RG _ _ _ _ _ _ (Array.setIfInBounds (Array.setIfInBounds (Array.setIfInBounds (Array.setIfInBounds (Array.setIfInBounds (Array.setIfInBounds _ 6 true) 4 true) 9 true) 10 true) 8 true) 11 true) _ _);refine tw 12 34 ?_)
   |((with_reducible show RG _ _ _ _ _ _ (Array.setIfInBounds (Array.setIfInBounds (Array.setIfInBounds (Array.setIfInBounds _ 8 true) 11 true) 12 true) 13 true) _ _);refine ro 14 (fun K hK=> ?_))
   |((with_reducible show RG _ _ _ _ _ _ (Array.setIfInBounds (Array.setIfInBounds (Array.setIfInBounds (Array.setIfInBounds (Array.setIfInBounds _ 8 true) 11 true) 12 true) 13 true) 14 true) _ _);refine tw 15 36 ?_)
   |((with_reducible show RG _ _ _ _ _ _ (Array.setIfInBounds (Array.setIfInBounds (Array.setIfInBounds (Array.setIfInBounds _ 7 true) 4 true) 9 true) 10 true) _ _);refine ro3 6 8 11 (fun K hK=> ?_) (fun K hK=> ?_) (fun K hK=> ?_))
   |((with_reducible show RG _ _ _ _ _ _ (Array.setIfInBounds (Array.setIfInBounds (Array.setIfInBounds (Array.setIfInBounds (Array.setIfInBounds _ 7 true) 4 true) 9 true) 10 true) 11 true) _ _);refine ro2 6 8 (fun K hK=> ?_) (fun K hK=> ?_))
   |((with_reducible show RG _ _ _ _ _ _ (Array.setIfInBounds (Array.setIfInBounds _ 11 true) 8 true) _ _);refine ro 6 (fun K hK=> ?_))
   |((with_reducible show RG _ _ _ _ _ _ (Array.setIfInBounds (Array.setIfInBounds (Array.setIfInBounds _ 11 true) 8 true) 6 true) _ _);refine tw 12 34 ?_)
   |((with_reducible show RG _ _ _ _ _ _ (Array.setIfInBounds (Array.setIfInBounds (Array.setIfInBounds (Array.setIfInBounds _ 8 true) 6 true) 12 true) 13 true) _ _);refine ro 14 (fun K hK=> ?_))
   |((with_reducible show RG _ _ _ _ _ _ (Array.setIfInBounds (Array.setIfInBounds (Array.setIfInBounds (Array.setIfInBounds (Array.setIfInBounds _ 8 true) 6 true) 12 true) 13 true) 14 true) _ _);refine tw 15 36 ?_)
   |((with_reducible show RG _ _ _ _ _ _ (Array.setIfInBounds (Array.setIfInBounds (Array.setIfInBounds (Array.setIfInBounds (Array.setIfInBounds (Array.setIfInBounds (Array.setIfInBounds (Array.setIfInBounds _ 7 true) 4 true) 9 true) 10 true) 11 true) 6 true) 12 true) 13 true) _ _);refine ro2 8 14 (fun K hK=> ?_) (fun K hK=> ?_))
   |((with_reducible show RG _ _ _ _ _ _ (Array.setIfInBounds (Array.setIfInBounds (Array.setIfInBounds (Array.setIfInBounds (Array.setIfInBounds (Array.setIfInBounds (Array.setIfInBounds (Array.setIfInBounds (Array.setIfInBounds _ 7 true) 4 true) 9 true) 10 true) 11 true) 6 true) 12 true) 13 true) 14 true) _ _);refine ro 8 (fun K hK=> ?_))
   |((with_reducible show RG _ _ _ _ _ _ (Array.setIfInBounds (Array.setIfInBounds (Array.setIfInBounds (Array.setIfInBounds (Array.setIfInBounds _ 7 true) 4 true) 9 true) 10 true) 8 true) _ _);refine ro2 6 11 (fun K hK=> ?_) (fun K hK=> ?_))
   |((with_reducible show RG _ _ _ _ _ _ (Array.setIfInBounds (Array.setIfInBounds (Array.setIfInBounds (Array.setIfInBounds (Array.setIfInBounds (Array.setIfInBounds _ 7 true) 4 true) 9 true) 10 true) 8 true) 11 true) _ _);refine ro 6 (fun K hK=> ?_))
   |((with_reducible show RG _ _ _ _ _ _ (Array.setIfInBounds (Array.setIfInBounds (Array.setIfInBounds (Array.setIfInBounds (Array.setIfInBounds _ 8 true) 11 true) 6 true) 12 true) 13 true) _ _);refine ro 14 (fun K hK=> ?_))
   |((with_reducible show RG _ _ _ _ _ _ (Array.setIfInBounds (Array.setIfInBounds (Array.setIfInBounds (Array.setIfInBounds (Array.setIfInBounds (Array.setIfInBounds _ 8 true) 11 true) 6 true) 12 true) 13 true) 14 true) _ _);refine tw 15 36 ?_)
   |((with_reducible show RG _ _ _ _ _ _ (Array.setIfInBounds (Array.setIfInBounds (Array.setIfInBounds _ 10 true) 8 true) 6 true) _ _);refine ro 11 (fun K hK=> ?_))
   |((with_reducible show RG _ _ _ _ _ _ (Array.setIfInBounds (Array.setIfInBounds (Array.setIfInBounds (Array.setIfInBounds (Array.setIfInBounds _ 8 true) 6 true) 11 true) 12 true) 13 true) _ _);refine ro 14 (fun K hK=> ?_))
   |((with_reducible show RG _ _ _ _ _ _ (Array.setIfInBounds (Array.setIfInBounds (Array.setIfInBounds (Array.setIfInBounds (Array.setIfInBounds (Array.setIfInBounds _ 8 true) 6 true) 11 true) 12 true) 13 true) 14 true) _ _);refine tw 15 36 ?_)
   |((with_reducible show RG _ _ _ _ _ _ (Array.setIfInBounds (Array.setIfInBounds (Array.setIfInBounds (Array.setIfInBounds (Array.setIfInBounds _ 7 true) 4 true) 9 true) 10 true) 6 true) _ _);refine ro2 8 11 (fun K hK=> ?_) (fun K hK=> ?_))
   |((with_reducible show RG _ _ _ _ _ _ (Array.setIfInBounds (Array.setIfInBounds (Array.setIfInBounds (Array.setIfInBounds (Array.setIfInBounds (Array.setIfInBounds (Array.setIfInBounds (Array.setIfInBounds _ 7 true) 4 true) 9 true) 10 true) 6 true) 11 true) 12 true) 13 true) _ _);refine ro2 8 14 (fun K hK=> ?_) (fun K hK=> ?_))
   |((with_reducible show RG _ _ _ _ _ _ (Array.setIfInBounds (Array.setIfInBounds (Array.setIfInBounds (Array.setIfInBounds (Array.setIfInBounds (Array.setIfInBounds (Array.setIfInBounds (Array.setIfInBounds (Array.setIfInBounds _ 7 true) 4 true) 9 true) 10 true) 6 true) 11 true) 12 true) 13 true) 14 true) _ _);refine ro 8 (fun K hK=> ?_))
   |((with_reducible show RG _ _ _ _ _ _ (Array.setIfInBounds (Array.setIfInBounds (Array.setIfInBounds _ 10 true) 6 true) 8 true) _ _);refine ro 11 (fun K hK=> ?_))
   |((with_reducible show RG _ _ _ _ _ _ (Array.setIfInBounds (Array.setIfInBounds (Array.setIfInBounds _ 6 true) 8 true) 11 true) _ _);refine tw 12 34 ?_)
   |(with_reducible show if Region.wanted (Oper.mk (some 27) _ _ _ _ _) _=true then _ else _
     refine step_make_v v0 (by rfl) (.tmp 26) (.tmp 26) 141 (by rfl) 4 ib (.bool false) Tryz.underlying141 HIB.out.1 HIB.out.2.1 HIB.out.2.2.1 (x:= .bool false) (by rfl) n (by rfl) (by rfl) hbB.out hmx ?_;obtain⟨g4,hg⟩:∃z,z=v0.heap.size:=⟨_,rfl⟩;intro v0 hr hk
     replace HI:=Qh (HI.out.m4 hr hk)
     rw[←hg] at HI⊢;clear hr hk hg;refine hK.out _ _ hHeld (fun hHeld=> ?_);clear hK K
     try simp only[PP])
   |(with_reducible show if Region.wanted (Oper.mk (some 29) _ _ _ _ _) _=true then _ else _
     refine step_make_v v0 (by rfl) (.tmp 28) (.tmp 28) 142 (by rfl) TBi iu (.agg #[.int .u64 0]) Tryz.underlying142 HIU.out.1 HIU.out.2.1 HIU.out.2.2.1 (x:= .int .u64 0) (by rfl) n (by rfl) (by rfl) hbU.out hmx ?_;obtain⟨g6,hg⟩:∃z,z=v0.heap.size:=⟨_,rfl⟩;intro v0 hr hk
     replace HI:=Qh (HI.out.m6 hr hk)
     rw[←hg] at HI⊢;clear hr hk hg;refine hK.out _ _ hHeld (fun hHeld=> ?_);clear hK K
     try simp only[PP])
   |(with_reducible show if Region.wanted (Oper.mk (some 31) _ _ _ _ _) _=true then _ else _
     refine step_make_v v0 (by rfl) (.tmp 30) (.tmp 30) 142 (by rfl) TBi iu (.agg #[.int .u64 0]) Tryz.underlying142 HIU.out.1 HIU.out.2.1 HIU.out.2.2.1 (x:= .int .u64 0) (by rfl) n (by rfl) (by rfl) hbU.out hmx ?_;obtain⟨g8,hg⟩:∃z,z=v0.heap.size:=⟨_,rfl⟩;intro v0 hr hk
     replace HI:=Qh (HI.out.m8 hr hk)
     rw[←hg] at HI⊢;clear hr hk hg;refine hK.out _ _ hHeld (fun hHeld=> ?_);clear hK K
     try simp only[PP])
   |(with_reducible show if Region.wanted (Oper.mk none (Op.store _ (Operand.tmp 33) _) _ _ _ _) _=true then _ else _
     have c:=HI.out.c5;have f:=HI.out.fr 5;go_simp
     replace HI:=Qh (HI.out.st (j:=5) (c':= {A5 with ve:= .slice (some ⟨g4,0,none⟩) n n}) (v:= .slice (some ⟨g4,0,none⟩) n n) rfl)
     obtain⟨v0,hw⟩:∃z,z=v0.setCell ⟨p,5,none⟩ (.slice (some ⟨g4,0,none⟩) n n):=⟨_,rfl⟩;rw[←hw] at HI⊢;clear hw c f;refine hK.out _ _ hHeld (fun hHeld=> ?_);clear hK K
     try simp only[PP])
   |(with_reducible show if Region.wanted (Oper.mk none (Op.store _ (Operand.tmp 35) _) _ _ _ _) _=true then _ else _
     have c:=HI.out.c6;have f:=HI.out.fr 6;go_simp
     replace HI:=Qh (HI.out.st (j:=6) (c':= {A5 with ve:= .slice (some ⟨g4,0,none⟩) n n,vf:= .slice (some ⟨g6,0,none⟩) n n}) (v:= .slice (some ⟨g6,0,none⟩) n n) rfl)
     obtain⟨v0,hw⟩:∃z,z=v0.setCell ⟨p,6,none⟩ (.slice (some ⟨g6,0,none⟩) n n):=⟨_,rfl⟩;rw[←hw] at HI⊢;clear hw c f;refine hK.out _ _ hHeld (fun hHeld=> ?_);clear hK K
     try simp only[PP])
   |(with_reducible show if Region.wanted (Oper.mk none (Op.store _ (Operand.tmp 37) _) _ _ _ _) _=true then _ else _
     have c:=HI.out.c7;have f:=HI.out.fr 7;go_simp
     replace HI:=Qh (HI.out.st (j:=7) (c':= {A5 with ve:= .slice (some ⟨g4,0,none⟩) n n,vf:= .slice (some ⟨g6,0,none⟩) n n,vw:= .slice (some ⟨g8,0,none⟩) n n}) (v:= .slice (some ⟨g8,0,none⟩) n n) rfl)
     obtain⟨v0,hw⟩:∃z,z=v0.setCell ⟨p,7,none⟩ (.slice (some ⟨g8,0,none⟩) n n):=⟨_,rfl⟩;rw[←hw] at HI⊢;clear hw c f;refine hK.out _ _ ?_;clear hK K))
  all_goals (go_wp2_with fail)
  all_goals go_meet
  all_goals exact⟨g4,g6,g8,HI⟩
 case rest=>
  obtain⟨ge,gf,gw,hni⟩:=hcut;have hst:StAt wc w.heap.size p X {A5 with ve:= .slice (some ⟨ge,0,none⟩) n n,vf:= .slice (some ⟨gf,0,none⟩) n n,vw:= .slice (some ⟨gw,0,none⟩) n n} (List.replicate n false) (List.replicate n 0) (List.replicate n 0) ge gf gw:=by
   have h1:=hni.out;have hS:=QO HB5.out.blk;obtain⟨r4,b4,_⟩:=h1.r4 ge rfl;obtain⟨r6,b6,_⟩:=h1.r6 gf rfl;obtain⟨r8,b8,_⟩:=h1.r8 gw rfl;have hz:=HK5.out.size;refine⟨h1.blk,Qk HB5.out.pl h1.kp hS (by decide),HB5.out.pr.off h1.kp (Qv hS (by decide)) (Qv hS (by decide)),HB5.out.of_.off h1.kp (Qv hS (by decide)) (Qv hS (by decide)),by rw[←HN.out],by rw[←HN.out],by rw[←HN.out],?_,?_,?_,by rw[List.length_replicate,HN.out],by rw[List.length_replicate,HN.out],by rw[List.length_replicate,HN.out],?_,?_,h1.ne _ _ rfl rfl,HB5.out.pB.1,by omega,by omega,by omega⟩
   ·rw[show bV (List.replicate n false)=List.replicate n (.bool false) from List.map_replicate];exact r4
   ·rw[show biV (List.replicate n 0)=List.replicate n (.int .u64 0) from List.map_replicate];exact r6
   ·rw[show biV (List.replicate n 0)=List.replicate n (.int .u64 0) from List.map_replicate];exact r8
   ·intro x hx;rw[List.eq_of_mem_replicate hx];decide
   ·intro x hx;rw[List.eq_of_mem_replicate hx];decide
  have hkc:Kn w wc:=HK5.out.trans' hni.out.kp (fun i hi e=>by omega);have HKC:=Qh hkc;have HGE:Hid (w.heap.size≤ge∧w.heap.size≤gf∧w.heap.size≤gw):=Qh ⟨hst.pB.2.1,hst.pB.2.2.1,hst.pB.2.2.2⟩;have HR1:=Qh (rounds1_c hst HBO.out);clear hni hkc hst p5 HIB HIU hbB hbU HB5 HVE;go_wp2_with (first|(go_at_call 66;go_must (refine HR1.out.mono ?_;rintro e w6 ⟨rfl,E1,F1,hfin,hst6,hk6⟩;have HF1:=Qh hfin;have HS6:=Qh hst6;have HK6:Hid (Kn w w6):=Qh (HKC.out.trans' hk6 (fun i hi e=>by have:=HGE.out;omega));clear hfin hst6 hk6 HR1 HKC)))
  have c7:=HS6.out.c7;rw[←HN.out] at c7;have c4:w6.cell? ⟨p,4,none⟩=some (.int .i64 (m:Nat)):=by rw[HS6.out.cell 4];show some (Value.int .i64 (A5.fin:Nat))=_;rw[HAK5.out.fin]
  have hom:=oneB_lt (m:Int);have hn0:0<X.places.length:=by rw[←HN.out];exact hXpos
  refine rgn (fun w'=>w'.cell? ⟨p,7,none⟩=some (.slice (some ⟨gw,0,none⟩) n n)∧w'.cell? ⟨p,4,none⟩=some (.int .i64 (m:Nat))) (X:=[]) ⟨Qc ((Qb _ _).drew) c7,Qc ((Qb _ _).drew) c4⟩ (fun hX hHeld=> ?_);refine tw 0 41 ?_;refine tw 1 42 ?_;refine tw 2 43 ?_;refine tk 3 44 ?_;refine tw 4 45 ?_;refine tw 5 46 ?_;refine tw 6 47 ?_;refine tk 7 48 ?_;refine ro 8 (fun K hK=> ?_);obtain⟨v6,hv6⟩:∃z,z=w6.drew:=⟨_,rfl⟩;have hk6:Kn w6 v6:=by rw[hv6];exact(Qb _ _).drew
  have HSD:=Qh (HS6.out.kn hk6);have HKD:=Qh (HK6.out.trans hk6);rw[←hv6] at hHeld⊢;clear hv6 hk6;go_simp
  go_at_call 68
  refine(sone_c (m:Int) _).mono ?_;rintro e v7 ⟨rfl,hk7⟩;have HS7:=Qh (HSD.out.kn hk7);have HK7:=Qh (HKD.out.trans hk7);have e0:=HS7.out.wcell hn0;have f0:=HS7.out.rw_.fr 0;refine hK.out _ _ (⟨Qc hk7 hHeld.1,Qc hk7 hHeld.2⟩) (fun hHeld=> ?_);clear hk7 HSD HKD HS6 HK6 c7 c4;unfold bV1;clear hK K
  try simp only[PP]
  refine tw 9 50 ?_;refine re 10 (fun K hK=> ?_);go_simp;obtain⟨w8,hw8⟩:∃z,z=v7.setCell ⟨gw,0,none⟩ (.int .u64 (oneB (m:Int):Nat)):=⟨_,rfl⟩;have HS8:=Qh (HS7.out.setW 0 (oneB (m:Int)) hom);have HK8:Hid (Kn w w8):=Qh (by rw[hw8];exact HK7.out.setCell (fun hp=>absurd hp (by have:=HGE.out;show¬gw<_;omega)) _);rw[←hw8] at HS8⊢;clear hw8 e0 f0 HS7 HK7 hHeld;refine hK.out _ _ ?_;clear hK K;have HR2:=Qh (rounds2_c HS8.out HBO.out);go_wp2_with (first|(go_at_call 66;go_must (refine HR2.out.mono ?_;rintro e w9 ⟨rfl,W1,hfin,hst9,hk9⟩;have HF2:=Qh hfin;have HS9:=Qh hst9;have HK9:Hid (Kn w w9):=Qh (HK8.out.trans' hk9 (fun i hi e=>by have:=HGE.out;omega));clear hfin hst9 hk9 HR2 HK8)))
  go_ret2
  refine⟨p,⟨X,m,E1,F1,W1⟩,rfl,⟨_,_,ge,gf,gw,HS9.out,HBO.out,HAK5.out.fin⟩,⟨HX.out,HME.out,?_,?_⟩,HK9.out⟩
  ·show Fin (fstF X.l) (List.replicate X.places.length false,List.replicate X.places.length 0) (E1,F1);rw[←HN.out];exact HF1.out
  ·show Fin (flwF E1 F1 X.l) ((List.replicate X.places.length 0).set 0 (oneB (QH R).length)) W1;rw[←HN.out,←HME.out];exact HF2.out
theorem new_nil(w:World):Calls Tryz.prog 22 #[.pointer none] w fun e w'=>e= .returned (.tuple #[.pointer none,.int .i64 1])∧w=w':=by
 go_enter Tryz.func22,Tryz.ntmps22;go_wp2_with fail
 go_ret2
 exact⟨rfl,rfl⟩
section
variable {w:World} {B p ge gf gw:Nat} {S:SB} {A:SA} {E:List Bool} {F W:List Nat}
theorem ClonePc_c{v:Value}{Cs:List (List Value)}(w:World){B:Nat}(hbig:Cs.length≤1000000)(h3:∀C∈Cs,C.length=2)(h1:∀u∈Cs.flatten,u.oneCell'=true)(h:OwnK w B TPc 2 v Cs):
  Calls Tryz.prog 96 #[v] w fun e w'=>∃v',e= .returned v'∧OwnK w' w.heap.size TPc 2 v' Cs∧Kn w w':=by
 obtain⟨i0,hi,hz0,hz1,hz2⟩:=info_parts info_pc;have HI:=Qh (And.intro hi (And.intro hz0 (And.intro hz1 hz2)));have q24:∀(w:World) (a:Option Addr) (n c n' c':Nat),(binOp .eql 101 (.slice a n c) (.slice none n' c')).run Tryz.prog w= .ok (.bool a.isNone) w:=fun w a n c n' c'=>Lib.run_eql_slice_nil w _ _ a n c n' c' Tryz.underlying101
 have HC:=Qh h;have H1:=Qh h1;have hfl:=flat_len h3;rcases h.2 with⟨hv,hcs⟩|⟨g,cap,cur,hv,hg,_,hc1,hc2,_⟩
 ·have hn:Cs=[]:=by simpa using hcs
  subst hv hn;clear hi hz0 hz1 hz2 h h1;go_enter Tryz.func96,Tryz.ntmps96;go_wp2_with fail
  go_ret;exact⟨_,rfl,OwnK.nil,Qb _ _⟩
 ·subst hv;obtain⟨n,hn⟩:∃n,n=Cs.length:=⟨_,rfl⟩;have HN:=Qh hn;rw[←hn] at HC hc1 hbig hfl⊢;have HF:=Qh hfl;clear hi hz0 hz1 hz2 h h1 hn hfl h3;go_enter Tryz.func96,Tryz.ntmps96;go_wp2_with (at_builtin;refine wpList_append_own _ rfl _ _ 101 rfl w.heap.size TPc i0 _ 2 16 Tryz.underlying101 HI.out.1 HI.out.2.1 HI.out.2.2.1 HI.out.2.2.2 rfl (by decide) _ _ _ rfl (World.ownsRow_made w #[] 0 (Nat.le_refl _) (Nat.zero_le _) rfl) ⟨g,0,none⟩ n cap Cs.flatten rfl ?qc1 ?qc2 ?qc3 ?qc4 ?qc5 ?qc6 ?_)
  case qc1=>exact HF.out
  case qc2=>
   intro j u hj;exact Lib.cell?_alloc_some _ (HC.out.cells rfl j u hj)
  case qc3=>exact H1.out
  case qc4=>unfold maxLen;omega
  case qc5=>omega
  case qc6=>simp
  intro v' w1 hown hgrow hnil;go_wp2_with fail
  go_ret;refine⟨v',rfl,by unfold OwnK;rw[←HN.out];simpa using hown,?_⟩;exact Yd (((Below.refl _ w).alloc (Nat.le_refl _) _).grown hgrow (by simp) (by intro k hk;simp[Value.ownBlock] at hk;omega))
theorem places_c(h:StAt w B p S A E F W ge gf gw)(hl:S.places.length≤1000):Calls Tryz.prog 51 #[ptr p] w fun e w'=>∃v,e= .returned v∧OwnK w' w.heap.size TPc 2 v (S.places.map pcL)∧Kn w w':=by
 have c0:w.cell? ⟨p,0,none⟩=some A.vp:=h.cell 0;have HC:=Qh (ClonePc_c w (by rw[List.length_map];omega) (fun C hC=>by obtain⟨x,_,rfl⟩:=List.mem_map.1 hC;rfl) (fun u hu=>by
  obtain⟨C,hC,hu⟩:=List.mem_flatten.1 hu;obtain⟨x,_,rfl⟩:=List.mem_map.1 hC;simp[pcL] at hu;rcases hu with rfl|rfl<;>rfl) h.pl)
 obtain⟨a,c,hv,_⟩:=h.pl.row (fun C hC=>by obtain⟨x,_,rfl⟩:=List.mem_map.1 hC;rfl);rw[List.length_map] at hv;rw[hv] at c0 HC;clear h hv;go_enter Tryz.func51,Tryz.ntmps51;go_wp2_with fail
 refine HC.out.mono ?_;rintro e w' ⟨v,rfl,hv,hk⟩;have HV:=Qh (And.intro hv hk);clear hv hk;go_wp2_with fail
 go_ret;exact⟨v,rfl,HV.out.1,HV.out.2⟩
end
theorem CloneSy_c{B:Nat}{v:Value}{Cs:List (List Value)}(w:World)(hbig:Cs.length≤1000000)(h3:∀C∈Cs,C.length=2)(h1:∀u∈Cs.flatten,u.oneCell'=true)(h:OwnK w B TSy 2 v Cs):
  Calls Tryz.prog 95 #[v] w fun e w'=>∃v',e= .returned v'∧OwnK w' w.heap.size TSy 2 v' Cs∧Kn w w':=by
 obtain⟨i0,hi,hz0,hz1,hz2⟩:=info_parts info_sy;have HI:=Qh (And.intro hi (And.intro hz0 (And.intro hz1 hz2)));have q24:∀(w:World) (a:Option Addr) (n c n' c':Nat),(binOp .eql 104 (.slice a n c) (.slice none n' c')).run Tryz.prog w= .ok (.bool a.isNone) w:=fun w a n c n' c'=>Lib.run_eql_slice_nil w _ _ a n c n' c' Tryz.underlying104
 have HC:=Qh h;have H1:=Qh h1;have hfl:=flat_len h3;rcases h.2 with⟨hv,hcs⟩|⟨g,cap,cur,hv,hg,_,hc1,hc2,_⟩
 ·have hn:Cs=[]:=by simpa using hcs
  subst hv hn;clear hi hz0 hz1 hz2 h h1;go_enter Tryz.func95,Tryz.ntmps95;go_wp2_with fail
  go_ret;exact⟨_,rfl,OwnK.nil,Qb _ _⟩
 ·subst hv;obtain⟨n,hn⟩:∃n,n=Cs.length:=⟨_,rfl⟩;have HN:=Qh hn;rw[←hn] at HC hc1 hbig hfl⊢;have HF:=Qh hfl;clear hi hz0 hz1 hz2 h h1 hn hfl h3;go_enter Tryz.func95,Tryz.ntmps95;go_wp2_with (at_builtin;refine wpList_append_own _ rfl _ _ 104 rfl w.heap.size TSy i0 _ 2 16 Tryz.underlying104 HI.out.1 HI.out.2.1 HI.out.2.2.1 HI.out.2.2.2 rfl (by decide) _ _ _ rfl (World.ownsRow_made w #[] 0 (Nat.le_refl _) (Nat.zero_le _) rfl) ⟨g,0,none⟩ n cap Cs.flatten rfl ?qc1 ?qc2 ?qc3 ?qc4 ?qc5 ?qc6 ?_)
  case qc1=>exact HF.out
  case qc2=>
   intro j u hj;exact Lib.cell?_alloc_some _ (HC.out.cells rfl j u hj)
  case qc3=>exact H1.out
  case qc4=>unfold maxLen;omega
  case qc5=>omega
  case qc6=>simp
  intro v' w1 hown hgrow hnil;go_wp2_with fail
  go_ret;refine⟨v',rfl,by unfold OwnK;rw[←HN.out];simpa using hown,?_⟩;exact Yd (((Below.refl _ w).alloc (Nat.le_refl _) _).grown hgrow (by simp) (by intro k hk;simp[Value.ownBlock] at hk;omega))
theorem ClonePr_c{B:Nat}{v:Value}{Cs:List (List Value)}(w:World)(hbig:Cs.length≤1000000)(h3:∀C∈Cs,C.length=3)(h1:∀u∈Cs.flatten,u.oneCell'=true)(h:OwnK w B TPr 3 v Cs):
  Calls Tryz.prog 94 #[v] w fun e w'=>∃v',e= .returned v'∧OwnK w' w.heap.size TPr 3 v' Cs∧Kn w w':=by
 obtain⟨i0,hi,hz0,hz1,hz2⟩:=info_parts info_pr;have HI:=Qh (And.intro hi (And.intro hz0 (And.intro hz1 hz2)));have q24:∀(w:World) (a:Option Addr) (n c n' c':Nat),(binOp .eql 97 (.slice a n c) (.slice none n' c')).run Tryz.prog w= .ok (.bool a.isNone) w:=fun w a n c n' c'=>Lib.run_eql_slice_nil w _ _ a n c n' c' Tryz.underlying97
 have HC:=Qh h;have H1:=Qh h1;have hfl:=flat_len h3;rcases h.2 with⟨hv,hcs⟩|⟨g,cap,cur,hv,hg,_,hc1,hc2,_⟩
 ·have hn:Cs=[]:=by simpa using hcs
  subst hv hn;clear hi hz0 hz1 hz2 h h1;go_enter Tryz.func94,Tryz.ntmps94;go_wp2_with fail
  go_ret;exact⟨_,rfl,OwnK.nil,Qb _ _⟩
 ·subst hv;obtain⟨n,hn⟩:∃n,n=Cs.length:=⟨_,rfl⟩;have HN:=Qh hn;rw[←hn] at HC hc1 hbig hfl⊢;have HF:=Qh hfl;clear hi hz0 hz1 hz2 h h1 hn hfl h3;go_enter Tryz.func94,Tryz.ntmps94;go_wp2_with (at_builtin;refine wpList_append_own _ rfl _ _ 97 rfl w.heap.size TPr i0 _ 3 40 Tryz.underlying97 HI.out.1 HI.out.2.1 HI.out.2.2.1 HI.out.2.2.2 rfl (by decide) _ _ _ rfl (World.ownsRow_made w #[] 0 (Nat.le_refl _) (Nat.zero_le _) rfl) ⟨g,0,none⟩ n cap Cs.flatten rfl ?qc1 ?qc2 ?qc3 ?qc4 ?qc5 ?qc6 ?_)
  case qc1=>exact HF.out
  case qc2=>
   intro j u hj;exact Lib.cell?_alloc_some _ (HC.out.cells rfl j u hj)
  case qc3=>exact H1.out
  case qc4=>unfold maxLen;omega
  case qc5=>omega
  case qc6=>simp
  intro v' w1 hown hgrow hnil;go_wp2_with fail
  go_ret;refine⟨v',rfl,by unfold OwnK;rw[←HN.out];simpa using hown,?_⟩;exact Yd (((Below.refl _ w).alloc (Nat.le_refl _) _).grown hgrow (by simp) (by intro k hk;simp[Value.ownBlock] at hk;omega))
theorem zip_pr_set(rs:List PR)(vk:List Value)(k:Nat)(v:Value)(hk:k<(List.zipWith prL rs vk).length):
  (List.zipWith prL rs vk).set k ((List.zipWith prL rs vk)[k].set 2 v)=List.zipWith prL rs (vk.set k v):=by
 apply List.ext_getElem
 ·simp
 ·intro i h1 h2;rw[List.getElem_set];split
  ·subst_vars;simp[prL]
  ·rename_i hne;simp only[List.getElem_zipWith];rw[List.getElem_set_ne hne]
def ProdsPost(w:World)(rs:List PR)(e:Ending)(w':World):Prop:=∃v vps,e= .returned v∧PrAt w' w.heap.size v rs vps∧Kn w w'
theorem prods_c{B p ge gf gw:Nat}{S:SB}{A:SA}{E:List Bool}{F W:List Nat}{w:World}(h:StAt w B p S A E F W ge gf gw)(hrl:S.l.length≤60000)(hpz:∀r∈S.l,r.syms.length≤1000000):
  Calls Tryz.prog 50 #[ptr p] w (ProdsPost w S.l):=by
 obtain⟨rs,hrs⟩:∃x,x=S.l:=⟨_,rfl⟩;obtain⟨vps,hvps⟩:∃x,x=A.vls:=⟨_,rfl⟩;obtain⟨q3,hpr,hpl⟩:w.cell? ⟨p,2,none⟩=some A.vl∧PrAt w B A.vl S.l A.vls∧p<w.heap.size:=⟨h.cell 2,h.pr,h.lt⟩;rw[←hrs] at hrl hpz hpr⊢;rw[←hvps] at hpr;clear h hrs hvps;have h4:∀vk:List Value,∀C∈List.zipWith prL rs vk,C.length=3:=fun vk C hC=>by obtain⟨i,hi,rfl⟩:=List.getElem_of_mem hC;simp[prL]
 have hlen:=hpr.len;have hon1:∀u∈(List.zipWith prL rs vps).flatten,u.oneCell'=true:=by
  intro u hu;obtain⟨C,hC,hu⟩:=List.mem_flatten.1 hu;obtain⟨i,hi,rfl⟩:=List.getElem_of_mem hC;have hi2:i<rs.length∧i<vps.length:=by rw[List.length_zipWith] at hi;omega
  have hp:=hpr.syms i hi2.2 hi2.1;obtain⟨a,c,hv,_⟩:=hp.row (k:=2) (fun C hC=>by obtain⟨x,_,rfl⟩:=List.mem_map.1 hC;rfl);simp only[List.getElem_zipWith,prL,hv] at hu;simp at hu;rcases hu with rfl|rfl|rfl<;>rfl
 have HCL:=Qh (ClonePr_c w (by rw[List.length_zipWith];omega) (h4 vps) hon1 hpr.row);have HP:=Qh (fun(wr:World) (hk:Kn w wr) (i:Nat) (h1:i<rs.length) (h2:i<vps.length)=>
  CloneSy_c wr (by rw[List.length_map];exact hpz _ (List.getElem_mem h1)) (fun C hC=>by obtain⟨x,_,rfl⟩:=List.mem_map.1 hC;rfl) (fun u hu=>by
   obtain⟨C,hC,hu⟩:=List.mem_flatten.1 hu;obtain⟨x,_,rfl⟩:=List.mem_map.1 hC;simp[syL] at hu;rcases hu with rfl|rfl<;>rfl) ((hpr.syms i h2 h1).kn hk))
 obtain⟨a0,c0,hv0,_⟩:=hpr.row.row (h4 vps);rw[hv0] at HCL q3;have hzl:(List.zipWith prL rs vps).length=rs.length:=by rw[List.length_zipWith,hlen,Nat.min_self]
 rw[hzl] at HCL q3;clear hpr hon1 hv0;go_enter Tryz.func50,Tryz.ntmps50;go_wp2_with fail
 refine HCL.out.mono ?_;rintro e w1 ⟨v,rfl,hown,hk1⟩;obtain⟨a,c,rfl,hc1,hc2,hg⟩:=hown.row (h4 vps);have HX:=Qh hg;rw[hzl] at hown hc1⊢;have HOW:=Qh hown;have HLN:=Qh hlen;clear hg hown HCL q3 hzl hlen;go_wp2_with fail
 go_loopw [14] (fun s14 wr=>∃(k:Nat) (vk:List Value),s14= .int .i64 k∧k≤rs.length∧Hid (OwnK wr w.heap.size TPr 3 (.slice a rs.length c) (List.zipWith prL rs vk))∧Hid (vk.length=rs.length)∧Hid (∀i (h1:i<vk.length) (h2:i<rs.length),i<k→OwnK wr w.heap.size TSy 2 vk[i] (rs[i].syms.map syL))∧Hid (∀i,k≤i→vk[i]? =vps[i]?)∧Kn w wr) (fun s14 _=>rs.length-(intOf s14).toNat)
 case atStart=>exact⟨0,vps,rfl,Nat.zero_le _,HOW,HLN,Qh (fun i _ _ h=>absurd h (Nat.not_lt_zero _)),Qh (fun _ _=>rfl),hk1⟩
 case round=>
  clear HOW hk1;obtain⟨k,vk,rfl,hk,HO,HV,HPA,HR,hkn⟩:=hrel;by_cases hlt:k<rs.length
  ·have hvk:=HV.out;obtain⟨a',c',hv,_,_,hg⟩:=HO.out.row (h4 vk);have hzl:(List.zipWith prL rs vk).length=rs.length:=by rw[List.length_zipWith,hvk,Nat.min_self]
   obtain⟨g,rfl,hgH,_,hc⟩:=hg (fun e=>by rw[e] at hzl;simp at hzl;omega);obtain rfl:a=some ⟨g,0,none⟩:=by injection hv
   have c3:wr.cell? ⟨g,k*3+2,none⟩=some (vk[k]'(by omega)):=by
    have:=(hc k (by omega) 2 (by omega)).1;rw[show 0+3*k+2=k*3+2 by omega] at this;rw[this];simp[prL]
   have f3:wr.frozen? ⟨g,k*3+2,none⟩=false:=by
    have:=(hc k (by omega) 2 (by omega)).2;rwa[show 0+3*k+2=k*3+2 by omega] at this
   have hlv:k<vps.length:=by have:=HLN.out;omega
   have hvv:vk[k]'(by omega)=vps[k]:=by
    have:=HR.out k (Nat.le_refl _);rw[List.getElem?_eq_getElem (by omega),List.getElem?_eq_getElem hlv] at this;exact Option.some.inj this
   rw[hvv] at c3;have HPC:=Qh (HP.out wr hkn k hlt hlv);obtain⟨vp,hvp⟩:∃x,x=vps[k]:=⟨_,rfl⟩;rw[←hvp] at HPC c3;have HZL:=Qh hzl;have HGH:=Qh hgH;obtain⟨cur,hgb⟩:=OwnK.blkT HO.out (g:=g) rfl;have hgl:g<wr.heap.size:=by
    rcases Nat.lt_or_ge g wr.heap.size with h|h
    ·exact h
    ·rw[Array.getElem?_eq_none h] at hgb;cases hgb
   clear hv hg hc hvv hvp hzl hvk hgb hgH;go_wp2_with fail
   refine HPC.out.mono ?_;rintro e w2 ⟨v',rfl,hov,hk2⟩;have f32:w2.frozen? ⟨g,k*3+2,none⟩=false:=by
    obtain⟨cur,hgb⟩:=OwnK.blkT (HO.out.kn hk2) (g:=g) rfl;exact Qd hgb _
   obtain⟨a2,c2,rfl,_⟩:=hov.row (k:=2) (fun C hC=>by obtain⟨x,_,rfl⟩:=List.mem_map.1 hC;rfl);have hml:(List.map syL rs[k].syms).length=rs[k].syms.length:=List.length_map ..
   rw[hml] at hov⊢;clear hml;have HOV:=Qh hov;have HK2:=Qh hk2;have c32:=Qc hk2 c3;clear f3 c3 hov hk2;go_wp2_with fail
   go_roundw
   case rel=>
    have hkn2:=hkn.trans HK2.out;have hvk:=HV.out;have hkz:k<(List.zipWith prL rs vk).length:=by have:=HZL.out;omega
    have hkv:k<vk.length:=by omega
    have hk3:K1 g w2 (w2.setCell ⟨g,k*3+2,none⟩ (.slice a2 rs[k].syms.length c2)):=Qg _ _;have hset:=OwnK.set (HO.out.kn HK2.out) (h4 vk) (g:=g) rfl k 2 hkz (by omega) (.slice a2 rs[k].syms.length c2);rw[zip_pr_set,show 0+3*k+2=k*3+2 by omega] at hset;obtain⟨cur,hgb⟩:=OwnK.blkT (HO.out.kn HK2.out) (g:=g) rfl;have hS:=QO hgb;refine⟨k+1,vk.set k (.slice a2 rs[k].syms.length c2),by go_num,by omega,Qh hset,Qh (by rw[List.length_set];exact HV.out),Qh ?_,Qh ?_,?_⟩
    ·intro i h1 h2 hi;rw[List.length_set] at h1;by_cases e:k=i
     ·subst e;rw[List.getElem_set_self];exact Qk (OwnK.base HOV.out (by have:=hkn.size;omega)) hk3 hS (by decide)
     ·rw[List.getElem_set_ne e];exact Qk ((HPA.out i h1 h2 (by omega)).kn HK2.out) hk3 hS (by decide)
    ·intro i hi;rw[List.getElem?_set_ne (by omega)];exact HR.out i (by omega)
    ·exact hkn2.trans' hk3 (fun i hi e=>by have:=HGH.out;omega)
   case measure=>simp[intOf];omega
  ·obtain rfl:k=rs.length:=by omega
   go_wp2_with fail
   go_ret;exact⟨_,vk,rfl,⟨HO.out,HV.out,fun i h1 h2=>HPA.out i h1 h2 h2⟩,hkn⟩
end Go.Proofs.YtiehgcfckhepaaaGreatDoor
namespace Go.Proofs.YtiehgcfckhepaaaGreatDoor
def M6:Int:=1000000
def nU(z:List Int)(y:SY):Int:=if y.place=true then z.getD y.n.toNat 0 else 1
def YC(z:List Int):List SY→Int→Int
 |[],s=>s
 |y::l,s=>if nU z y= -1 then-1 else YC z l (min (s+nU z y) M6)
structure US where
 z:List Int
 b:List Int
 more:Bool
def stepU(i:Nat)(p:PR)(s:US):US:=
 if YC s.z p.syms 0≠-1∧(s.z.getD p.place 0= -1∨YC s.z p.syms 0<s.z.getD p.place 0) then⟨s.z.set p.place (YC s.z p.syms 0),s.b.set p.place i,true⟩ else s
def UK(l:List PR)(s:US):Nat→US
 |0=>s
 |k+1=>match l[k]? with|some p=>stepU k p (UK l s k)|none=>UK l s k
theorem UK_succ{l:List PR}{k:Nat}(s:US)(hk:k<l.length):UK l s (k+1)=stepU k l[k] (UK l s k):=by
 show(match l[k]? with|some p=>stepU k p (UK l s k)|none=>UK l s k)=_;rw[List.getElem?_eq_getElem hk]
def rndF(l:List PR)(s:List Int×List Int):(List Int×List Int)×Bool:=(((UK l ⟨s.1,s.2,false⟩ l.length).z,(UK l ⟨s.1,s.2,false⟩ l.length).b),(UK l ⟨s.1,s.2,false⟩ l.length).more)
def okZ(z:List Int):Prop:=∀x∈z,-1≤x∧x≤M6
theorem okZ.get{z:List Int}(h:okZ z)(i:Nat): -1≤z.getD i 0∧z.getD i 0≤M6:=by
 rw[List.getD_eq_getElem?_getD];rcases Nat.lt_or_ge i z.length with hi|hi
 ·rw[List.getElem?_eq_getElem hi];exact h _ (List.getElem_mem hi)
 ·rw[List.getElem?_eq_none hi];simp[M6]
theorem okZ.set{z:List Int}(h:okZ z)(i:Nat)(x:Int)(hx: -1≤x∧x≤M6):okZ (z.set i x):=fun y hy=>by
 rcases List.mem_or_eq_of_mem_set hy with hy|rfl
 ·exact h y hy
 ·exact hx
theorem nU_ok{z:List Int}(h:okZ z)(y:SY): -1≤nU z y∧nU z y≤M6:=by
 unfold nU;split
 ·exact h.get _
 ·simp[M6]
theorem sizeF_ok{z:List Int}(h:okZ z):∀(l:List SY) (s:Int),0≤s→s≤M6→-1≤YC z l s∧YC z l s≤M6
 |[],s,h0,h1=>⟨by unfold YC;omega,h1⟩
 |y::l,s,h0,h1=>by
  have hy:=nU_ok h y;unfold YC;split
  ·simp[M6]
  ·exact sizeF_ok h l _ (by unfold M6 at*;omega) (by unfold M6 at*;omega)
def wU(x:Int):Nat:=if x= -1 then 1000001 else x.toNat
def MU(z:List Int):Nat:=(z.map wU).sum
theorem MU_set(z:List Int)(i:Nat)(x:Int)(hi:i<z.length):MU (z.set i x)+wU (z.getD i 0)=MU z+wU x:=by
 have h:=sum_set (z.map wU) i (wU x) (by simpa using hi);unfold MU;rw[List.map_set];rw[show(z.map wU).getD i 0=wU (z.getD i 0) by rw[List.getD_eq_getElem?_getD,List.getD_eq_getElem?_getD,List.getElem?_map];cases z[i]? <;>rfl] at h
 exact h
structure UOk (n:Nat) (s:US):Prop where
 zl:s.z.length=n
 bl:s.b.length=n
 z:okZ s.z
theorem stepU_ok{n i:Nat}{p:PR}{s:US}(h:UOk n s):UOk n (stepU i p s):=by
 unfold stepU;split
 ·exact⟨by simp[h.zl],by simp[h.bl],h.z.set _ _ (sizeF_ok h.z _ _ (by omega) (by simp[M6]))⟩
 ·exact h
theorem stepU_mu{n i:Nat}{p:PR}{s:US}(h:UOk n s)(hp:p.place<n):MU (stepU i p s).z≤MU s.z∧((stepU i p s).more=true→s.more=true∨MU (stepU i p s).z<MU s.z):=by
 unfold stepU;split
 ·next hc=>
  have e:=MU_set s.z p.place (YC s.z p.syms 0) (by rw[h.zl];exact hp);have h1:=h.z.get p.place;have h2:=sizeF_ok h.z p.syms 0 (by omega) (by simp[M6]);have:wU (YC s.z p.syms 0)<wU (s.z.getD p.place 0):=by
   unfold wU;rw[if_neg hc.1];unfold M6 at*;split
   ·omega
   ·rcases hc.2 with h|h<;>omega
  exact⟨by dsimp only;omega,fun _=> .inr (by dsimp only;omega)⟩
 ·exact⟨Nat.le_refl _,fun h=> .inl h⟩
theorem UK_ok{n:Nat}{l:List PR}{s:US}(h:UOk n s):∀k,UOk n (UK l s k)
 |0=>h
 |k+1=>by
  show UOk n (match l[k]? with|some p=>stepU k p (UK l s k)|none=>UK l s k);split
  ·exact stepU_ok (UK_ok h k)
  ·exact UK_ok h k
theorem UK_mu{n:Nat}{l:List PR}{s:US}(h:UOk n s)(hl:∀p∈l,p.place<n):∀k,MU (UK l s k).z≤MU s.z∧((UK l s k).more=true→s.more=true∨MU (UK l s k).z<MU s.z)
 |0=>⟨Nat.le_refl _,fun h=> .inl h⟩
 |k+1=>by
  have ih:=UK_mu h hl k;rcases Nat.lt_or_ge k l.length with hk|hk
  ·rw[UK_succ s hk];have st:=stepU_mu (i:=k) (UK_ok (l:=l) h k) (hl _ (List.getElem_mem hk));refine⟨by omega,fun hm=> ?_⟩;rcases st.2 hm with h1|h1
   ·rcases ih.2 h1 with h2|h2
    ·exact .inl h2
    ·exact .inr (by omega)
   ·exact .inr (by omega)
  ·have e:UK l s (k+1)=UK l s k:=by
    show(match l[k]? with|some p=>stepU k p (UK l s k)|none=>UK l s k)=_;rw[List.getElem?_eq_none hk]
   rw[e];exact ih
def voidF(z:List Int):List Nat:=(List.range z.length).filter (fun n=>z.getD n 0= -1)
def zV(z:List Int):List (List Value):=z.map (fun x=>[Value.int .i64 x])
theorem zV_len(z:List Int):(zV z).length=z.length:=by simp[zV]
theorem zV_set(z:List Int)(i:Nat)(x:Int):(zV z).set i [Value.int .i64 x]=zV (z.set i x):=by simp[zV,List.map_set]
open Go.RowKit Go.Maps
abbrev TUs:TypeId:=100
structure UsAt (w:World) (B p st n:Nat) (l:List PR) (vl:Value) (vls:List Value) (z b:List Int) (gz gb cz cb:Nat):Prop where
 blk:w.heap[p]? =some (.cells #[ptr st,vl,.slice (some ⟨gz,0,none⟩) n cz,.slice (some ⟨gb,0,none⟩) n cb] TUs (0,0))
 pr:PrAt w B vl l vls
 rz:OwnK w B 3 1 (.slice (some ⟨gz,0,none⟩) n cz) (zV z)
 rb:OwnK w B 3 1 (.slice (some ⟨gb,0,none⟩) n cb) (zV b)
 zl:z.length=n
 bl:b.length=n
 ne:gz≠gb
 pB:B≤p
theorem zV_one(z:List Int):∀C∈zV z,C.length=1:=fun C hC=>by obtain⟨x,_,rfl⟩:=List.mem_map.1 hC;rfl
theorem zV_cell{w:World}{B g n c:Nat}{z:List Int}(h:OwnK w B 3 1 (.slice (some ⟨g,0,none⟩) n c) (zV z)){i:Nat}(hi:i<z.length):w.cell? ⟨g,i,none⟩=some (.int .i64 (z.getD i 0))∧w.frozen? ⟨g,i,none⟩=false:=by
 obtain⟨a,c',hv,_,_,hg⟩:=h.row (zV_one z);obtain⟨g',ha,_,_,hc⟩:=hg (fun e=>by have:=congrArg List.length e;rw[zV_len,List.length_nil] at this;omega);injection hv with e1 _ _;rw[ha] at e1;obtain rfl:g=g':=by injection e1 with e1;injection e1
 have h1:=hc i (by rw[zV_len];exact hi) 0 (by omega);rw[show 0+1*i+0=i by omega] at h1;refine⟨by rw[h1.1];simp[zV,List.getD_eq_getElem?_getD,List.getElem?_eq_getElem hi],h1.2⟩
section
variable {w w':World} {B p st n gz gb cz cb:Nat} {l:List PR} {vl:Value} {vls:List Value} {z b:List Int}
theorem UsAt.cell(h:UsAt w B p st n l vl vls z b gz gb cz cb)(i:Nat):w.cell? ⟨p,i,none⟩= #[ptr st,vl,.slice (some ⟨gz,0,none⟩) n cz,.slice (some ⟨gb,0,none⟩) n cb][i]? :=Qa h.blk i
theorem UsAt.kn(h:UsAt w B p st n l vl vls z b gz gb cz cb)(hk:Kn w w'):UsAt w' B p st n l vl vls z b gz gb cz cb:=⟨hk.blk h.blk (fun x=>x),h.pr.kn hk,h.rz.kn hk,h.rb.kn hk,h.zl,h.bl,h.ne,h.pB⟩
theorem UsAt.lt(h:UsAt w B p st n l vl vls z b gz gb cz cb):p<w.heap.size:=Ql h.blk
end
theorem sizeF_step(z:List Int)(s:Int)(l:List SY)(k:Nat)(hk:k<l.length):YC z (l.drop k) s=if nU z l[k]= -1 then-1 else YC z (l.drop (k+1)) (min (s+nU z l[k]) 1000000):=by
 rw[List.drop_eq_getElem_cons hk];try rfl
theorem size_c{w:World}{B p st n gz gb cz cb c:Nat}{l:List PR}{vl:Value}{vls:List Value}{z b:List Int}{a:Option Addr}(q1 q2:Value)(h:UsAt w B p st n l vl vls z b gz gb cz cb)(ok:okZ z)(hn:n≤1000000)
  (ys:List SY) (hl:SyS w a ys) (hll:ys.length≤1000000) (hy:∀y∈ys,y.place=true→0≤y.n∧y.n<n) (h1:q1.oneCell'=true) (h2:q2.oneCell'=true):
  Calls Tryz.prog 54 #[ptr p,.agg #[q1,q2,.slice a ys.length c]] w fun e w'=>e= .returned (.int .i64 (YC z ys 0))∧Kn w w':=by
 have hpl:=h.lt;have H:=Qh h;have HL:=Qh hl;have HOK:=Qh ok;have HY:=Qh hy;obtain⟨b3,hb3⟩:∃z,z=w.heap.size:=⟨_,rfl⟩;obtain⟨w1,hw1⟩:∃z,z=w.alloc (.cells #[q1,q2,.slice a ys.length c] 106):=⟨_,rfl⟩;have hk1:Kn w w1:=by rw[hw1];exact(Qb _ _).alloc _
 have hB3:w1.heap[b3]? =some (.cells #[q1,q2,.slice a ys.length c] 106 (0,0)):=by rw[hw1,hb3];exact Qf _ _
 have q2':w1.cell? ⟨b3,2,none⟩=some (.slice a ys.length c):=by rw[Qa hB3];try rfl
 have HW:=Qh (And.intro hw1 hb3);clear h hl ok hy hw1 hb3 hB3;go_enter Tryz.func54,Tryz.ntmps54;go_upto_region 1 with fail
 rw[←HW.out.1,←HW.out.2];go_wp2_with fail
 go_loopw [5,12] (fun s5 s12 wr=>∃(k:Nat) (s:Int),s5= .int .i64 s∧s12= .int .i64 k∧k≤ys.length∧Hid (YC z (ys.drop k) s=YC z ys 0)∧0≤s∧s≤1000000∧Kn w wr) (fun _ s12 _=>ys.length-(intOf s12).toNat)
 case atStart=>exact⟨0,0,rfl,rfl,Nat.zero_le _,Qh rfl,by omega,by omega,hk1⟩
 case round=>
  clear hk1 HW q2';obtain⟨k,s,rfl,rfl,hk,hsf,hs0,hs1,hkn⟩:=hrel;by_cases hlt:k<ys.length
  ·obtain⟨g,off,rfl,hc⟩:=HL.out (fun e=>by rw[e] at hlt;simp at hlt);obtain⟨c0,c1⟩:=hc k hlt;have x0:=Qc hkn c0;have x1:=Qc hkn c1;have HST:=Qh (sizeF_step z s ys k hlt);have hyr:=HY.out _ (List.getElem_mem hlt);have hyo:=nU_ok HOK.out ys[k];obtain⟨y,hy⟩:∃y,y=ys[k]:=⟨_,rfl⟩;rw[←hy] at x0 x1 HST hyr hyo;have hgl:=World.block_lt_of_cell? wr _ x0;obtain⟨w2,hw2⟩:∃z,z=wr.alloc (.cells #[.bool y.place,.int .i64 y.n] TSy):=⟨_,rfl⟩;have hk2:Kn wr w2:=by rw[hw2];exact(Qb _ _).alloc _
   obtain⟨b8,hb8⟩:∃z,z=wr.heap.size:=⟨_,rfl⟩;have hB8:w2.heap[b8]? =some (.cells #[.bool y.place,.int .i64 y.n] TSy (0,0)):=by rw[hw2,hb8];exact Qf _ _
   have y0:w2.cell? ⟨b8,0,none⟩=some (.bool y.place):=by rw[Qa hB8];try rfl
   have y1:w2.cell? ⟨b8,1,none⟩=some (.int .i64 y.n):=by rw[Qa hB8];try rfl
   have hkn2:=hkn.trans hk2;have HU2:=Qh (H.out.kn hkn2);have HW2:=Qh (And.intro hw2 hb8);have HB8:=Qh hB8;clear hy hc c0 c1 hw2 hb8 hk2 hB8 hkn;go_upto_region 5 with fail
   rw[←HW2.out.1,←HW2.out.2];clear x0 x1 HW2 hgl;cases hyp:y.place with
   |false=>
    rw[hyp] at y0;have hN:nU z y=1:=by unfold nU;rw[hyp];try rfl
    have HF:Hid (YC z (ys.drop (k+1)) (min (s+1) 1000000)=YC z ys 0):=Qh (by rw[←hsf.out,HST.out,hN,if_neg (by omega)]);clear hyp HST hsf hN hyr hyo;go_wp2_with fail
    go_roundw
    case rel=>exact⟨k+1,min (s+1) 1000000,by go_num,by go_num,by omega,HF,by omega,by omega,hkn2⟩
    case measure=>simp[intOf];omega
   |true=>
    rw[hyp] at y0;have hyr:=hyr hyp;obtain⟨m,hm⟩:∃m:Nat,y.n=m:=⟨y.n.toNat,by omega⟩;rw[hm] at y1;have hN:nU z y=z.getD m 0:=by unfold nU;rw[hyp,if_pos rfl,hm];try rfl
    rw[hN] at HST hyo;have hmn:m<n:=by omega
    have u2:w2.cell? ⟨p,2,none⟩=some (.slice (some ⟨gz,0,none⟩) n cz):=HU2.out.cell 2;have u3:=(zV_cell HU2.out.rz (i:=m) (by rw[HU2.out.zl];exact hmn)).1;obtain⟨x,hx⟩:∃x,x=z.getD m 0:=⟨_,rfl⟩;rw[←hx] at u3 HST hyo;obtain⟨hy0,hy1⟩:=hyo;clear hyp hN hm hyr hx;by_cases hx1:x= -1
    ·subst hx1;have HF:Hid (YC z ys 0= -1):=Qh (by rw[←hsf.out,HST.out,if_pos rfl]);clear HST hsf;go_wp2_with fail
     go_quiet (fail)
     go_wp2_with fail
     go_ret;exact⟨by rw[HF.out];try rfl,hkn2.drewN _⟩
    ·have HF:Hid (YC z (ys.drop (k+1)) (min (s+x) 1000000)=YC z ys 0):=Qh (by rw[←hsf.out,HST.out,if_neg hx1]);have hx2:x≤1000000:=hy1;clear HST hsf hy1;go_wp2_with fail
     go_quiet (fail)
     go_wp2_with fail
     go_roundw
     case rel=>exact⟨k+1,min (s+x) 1000000,by go_num,by go_num,by omega,HF,by omega,by omega,hkn2.drewN _⟩
     case measure=>simp[intOf];omega
  ·obtain rfl:k=ys.length:=by omega
   have HF:Hid (s=YC z ys 0):=Qh (by rw[←hsf.out,List.drop_length];try rfl);clear hsf;go_wp2_with fail
   go_ret;exact⟨by rw[←HF.out];try rfl,hkn⟩
end Go.Proofs.YtiehgcfckhepaaaGreatDoor
