/-
  Texts of this claim, laid together: GPart, GName, GSort, GToken, GMet, GAdd, GAlone. Conditions: none.
-/
import Derived.Test.YtiehgcfckhepaaaGreatDoorQAG
set_option linter.unusedVariables false
set_option linter.unusedSimpArgs false
set_option maxRecDepth 100000
set_option maxHeartbeats 16000000
namespace Go.Proofs.YtiehgcfckhepaaaGreatDoor
open Go.RowKit
abbrev wdV(x:GW):Value:= .agg #[.string x.lit,.string x.name,.int .i64 x.level,.bool x.sort]
def PartPost(s:ByteArray)(w:World)(e:Ending)(w':World):Prop:=
 Kn w w'∧∃(y:GW) (ok:Bool),e= .returned (.tuple #[wdV y,.bool ok])∧match partF s with|some x=>ok=true∧y=x|none=>ok=false
def MaxLenAt(w:World):Prop:=∃m:Int,w.cell? ⟨0,0,none⟩=some (.int .i64 m)
theorem MaxLenAt.kn{w w':World}(h:MaxLenAt w)(hk:Kn w w'):MaxLenAt w':=by obtain⟨m,h⟩:=h;exact⟨m,Qc hk h⟩
theorem MaxLenAt.kp{S:Nat→Prop}{w w':World}(h:MaxLenAt w)(hk:Kp S w w')(hS:¬S 0):MaxLenAt w':=by obtain⟨m,h⟩:=h;exact⟨m,Qi hk h hS⟩
theorem cut_c(s sep:ByteArray)(w:World)(h:MaxLenAt w)(hs:s.size≤1000000000):
  Calls Tryz.prog 62 #[.string s,.string sep] w fun e w'=>e= .returned (.tuple #[.string (cutA s sep),.string (cutZ s sep),.bool (cutT s sep)])∧Kn w w':=by
 obtain⟨m,hm⟩:=h;refine(Tryz.strings_Cut s sep m w (by omega) hm).mono ?_;rintro e w' ⟨rfl,n,rfl⟩;exact⟨rfl,(Qb _ _).drewN n⟩
theorem cutA_le(s sep:ByteArray):(cutA s sep).size≤s.size:=by
 show(Lib.cut s.data.toList sep.data.toList).1.toArray.size≤s.data.size;unfold Lib.cut;split<;>simp
 exact Nat.min_le_right _ _
theorem cutZ_le(s sep:ByteArray):(cutZ s sep).size≤s.size:=by
 show(Lib.cut s.data.toList sep.data.toList).2.1.toArray.size≤s.data.size;unfold Lib.cut;split<;>simp
theorem isE_true{t:ByteArray}(h:t.size=0):t.toList.isEmpty=true:=by
 have:t.data.toList=[]:=by
  apply List.eq_nil_of_length_eq_zero;simpa using h
 rw[Lib.toList_data,this];try rfl
theorem Yw{t:ByteArray}(h:¬t.size=0):t.toList.isEmpty=false:=by
 cases h1:t.toList.isEmpty with
 |false=>rfl
 |true=>exact(h (by
   rw[Lib.toList_data] at h1;have h2:=List.isEmpty_iff.1 h1;show t.data.size=0;rw[←Array.length_toList,h2];try rfl)).elim
theorem gpart_c(s:ByteArray)(w:World)(hm:MaxLenAt w)(hs:s.size≤1000000):
  Calls Tryz.prog 155 #[.string s] w (PartPost s w):=by
 have HP:Hid (∀W,Calls Tryz.prog 207 #[.string s,.string ⟨#[39]⟩] W fun e w'=>e= .returned (.bool (quoted s))∧w'=W):=Qh (fun W=>Tryz.strings_HasPrefix s ⟨#[39]⟩ W);have HL:=Qh (fun W=>literal_c s W (by omega));have HM:=Qh hm;cases hq:quoted s with
 |true=>
  rw[hq] at HP;obtain⟨t,ht⟩:∃t,t=litF s:=⟨_,rfl⟩;have hF:Hid (partF s=if t.size=0 then none else some (YV t)):=Qh (by unfold partF;rw[if_pos hq,←ht]);rw[←ht] at HL;clear hm hq ht;by_cases h0:t.size=0
  ·have he:=isE_true h0;have hF2:Hid (partF s=none):=Qh (by rw[hF.out];simp[h0]);clear hF h0;go_enter Tryz.func155,Tryz.ntmps155;go_wp2_with fail
   refine(HP.out _).mono ?_;rintro e w' ⟨rfl,rfl⟩;go_wp2_with fail
   refine(HL.out _).mono ?_;rintro e w1 ⟨rfl,rfl⟩;go_wp2_with fail
   go_region
   go_wp2_with fail
   (try simp only[Exit.inBlock,Exit.then])
   refine bodyPost_ret (v:= .tuple #[wdV (YV t),.bool false]) (by rw[results_cell_tmp rfl];go_simp;first|rfl|exact⟨rfl,rfl,rfl,rfl⟩) rfl ⟨?_,YV t,false,rfl,?_⟩
   ·(repeat' (first|exact Qb _ _|refine Kp.drew ?_|refine Kp.drewN ?_ _|refine Kp.alloc ?_ _|refine Kp.setCell ?_ (fun hp=>by simp at hp;omega) _))
   ·rw[hF2.out]<;>trivial
  ·have he:=Yw h0;have hF2:Hid (partF s=some (YV t)):=Qh (by rw[hF.out];simp[h0]);clear hF h0;go_enter Tryz.func155,Tryz.ntmps155;go_wp2_with fail
   refine(HP.out _).mono ?_;rintro e w' ⟨rfl,rfl⟩;go_wp2_with fail
   refine(HL.out _).mono ?_;rintro e w1 ⟨rfl,rfl⟩;go_wp2_with fail
   go_region
   go_wp2_with fail
   (try simp only[Exit.inBlock,Exit.then])
   refine bodyPost_ret (v:= .tuple #[wdV (YV t),.bool true]) (by rw[results_cell_tmp rfl];go_simp;first|rfl|exact⟨rfl,rfl,rfl,rfl⟩) rfl ⟨?_,YV t,true,rfl,?_⟩
   ·(repeat' (first|exact Qb _ _|refine Kp.drew ?_|refine Kp.drewN ?_ _|refine Kp.alloc ?_ _|refine Kp.setCell ?_ (fun hp=>by simp at hp;omega) _))
   ·rw[hF2.out]<;>exact⟨rfl,rfl⟩
 |false=>
  rw[hq] at HP;have HC:=Qh (fun W (h:MaxLenAt W)=>cut_c s ⟨#[58]⟩ W h (by omega));have hca:=cutA_le s ⟨#[58]⟩;have hcz:=cutZ_le s ⟨#[58]⟩;have hF:Hid (partF s=if cutT s ⟨#[58]⟩=true then(match digF (cutZ s ⟨#[58]⟩) with|some n=>if YG (cutA s ⟨#[58]⟩)=true then some ⟨emptyB,cutA s ⟨#[58]⟩,n,true⟩ else none|none=>none) else if YG (cutA s ⟨#[58]⟩)=true then some ⟨emptyB,cutA s ⟨#[58]⟩,0,false⟩ else none):=Qh (by unfold partF;rw[if_neg (by rw[hq];simp)];rfl);obtain⟨a,ha⟩:∃a,a=cutA s ⟨#[58]⟩:=⟨_,rfl⟩;obtain⟨z,hz⟩:∃z,z=cutZ s ⟨#[58]⟩:=⟨_,rfl⟩;obtain⟨t,ht⟩:∃t,t=cutT s ⟨#[58]⟩:=⟨_,rfl⟩;rw[←ha,←hz,←ht] at hF HC;rw[←ha] at hca;rw[←hz] at hcz;have HD:=Qh (fun W=>gdigit_c z W (by omega));have HN:=Qh (fun W=>gNamed_c a W (by omega));have hm1:=hm.kn ((Qb _ w).alloc (.cells #[.string ⟨#[]⟩,.string ⟨#[]⟩,.int .i64 0,.bool false] TWd));have HM1:=Qh hm1;clear hm hm1 hq ha hz ht HL;obtain⟨o,ho⟩:∃o,o=digF z:=⟨_,rfl⟩;obtain⟨g,hg⟩:∃g,g=YG a:=⟨_,rfl⟩;rw[←ho,←hg] at hF;rw[←ho] at HD;rw[←hg] at HN;clear ho hg;cases t with
  |false=>
   have hF2:Hid (partF s=if g=true then some ⟨emptyB,a,0,false⟩ else none):=Qh (by rw[hF.out];try rfl);clear hF;cases o with
   |none=>
    cases g with
    |true=>
     go_enter Tryz.func155,Tryz.ntmps155;go_wp2_with fail
     refine(HP.out _).mono ?_;rintro e w' ⟨rfl,rfl⟩;go_wp2_with fail
     refine(HC.out _ HM1.out).mono ?_;rintro e w1 ⟨rfl,hk1⟩;go_wp2_with fail
     refine(HD.out _).mono ?_;rintro e w2 ⟨rfl,rfl⟩;unfold digV;have hb2:w1.heap[w.heap.size]? =some (.cells #[.string ⟨#[]⟩,.string ⟨#[]⟩,.int .i64 0,.bool false] TWd (0,0)):=hk1.blk (Qf _ _) (fun x=>x);have x0:w1.cell? ⟨w.heap.size,0,none⟩=some (.string ⟨#[]⟩):=by rw[Qa hb2];try rfl
     have x1:w1.cell? ⟨w.heap.size,1,none⟩=some (.string ⟨#[]⟩):=by rw[Qa hb2];try rfl
     have x2:w1.cell? ⟨w.heap.size,2,none⟩=some (.int .i64 0):=by rw[Qa hb2];try rfl
     have x3:w1.cell? ⟨w.heap.size,3,none⟩=some (.bool false):=by rw[Qa hb2];try rfl
     have f0:=Qd hb2 0;have f1:=Qd hb2 1;have f2:=Qd hb2 2;have f3:=Qd hb2 3;go_wp2_with fail
     refine(HN.out _).mono ?_;rintro e w3 ⟨rfl,rfl⟩;go_wp2_with fail
     (try simp only[Exit.inBlock,Exit.then])
     refine bodyPost_ret (v:= .tuple #[wdV ⟨emptyB,a,0,false⟩,.bool true]) (by rw[results_cell_tmp rfl];go_simp;first|rfl|exact⟨rfl,rfl,rfl,rfl⟩) rfl ⟨?_,⟨emptyB,a,0,false⟩,true,rfl,?_⟩
     ·have hk0:Kn w w1:=((Qb _ w).alloc _).trans hk1
      (repeat' (first|exact hk0|refine Kp.drew ?_|refine Kp.setCell ?_ (fun hp=>by simp at hp) _))
     ·rw[hF2.out]<;>exact⟨rfl,rfl⟩
    |false=>
     go_enter Tryz.func155,Tryz.ntmps155;go_wp2_with fail
     refine(HP.out _).mono ?_;rintro e w' ⟨rfl,rfl⟩;go_wp2_with fail
     refine(HC.out _ HM1.out).mono ?_;rintro e w1 ⟨rfl,hk1⟩;go_wp2_with fail
     refine(HD.out _).mono ?_;rintro e w2 ⟨rfl,rfl⟩;unfold digV;have hb2:w1.heap[w.heap.size]? =some (.cells #[.string ⟨#[]⟩,.string ⟨#[]⟩,.int .i64 0,.bool false] TWd (0,0)):=hk1.blk (Qf _ _) (fun x=>x);have x0:w1.cell? ⟨w.heap.size,0,none⟩=some (.string ⟨#[]⟩):=by rw[Qa hb2];try rfl
     have x1:w1.cell? ⟨w.heap.size,1,none⟩=some (.string ⟨#[]⟩):=by rw[Qa hb2];try rfl
     have x2:w1.cell? ⟨w.heap.size,2,none⟩=some (.int .i64 0):=by rw[Qa hb2];try rfl
     have x3:w1.cell? ⟨w.heap.size,3,none⟩=some (.bool false):=by rw[Qa hb2];try rfl
     have f0:=Qd hb2 0;have f1:=Qd hb2 1;have f2:=Qd hb2 2;have f3:=Qd hb2 3;go_wp2_with fail
     refine(HN.out _).mono ?_;rintro e w3 ⟨rfl,rfl⟩;go_wp2_with fail
     (try simp only[Exit.inBlock,Exit.then])
     refine bodyPost_ret (v:= .tuple #[wdV ⟨emptyB,a,0,false⟩,.bool false]) (by rw[results_cell_tmp rfl];go_simp;first|rfl|exact⟨rfl,rfl,rfl,rfl⟩) rfl ⟨?_,⟨emptyB,a,0,false⟩,false,rfl,?_⟩
     ·have hk0:Kn w w1:=((Qb _ w).alloc _).trans hk1
      (repeat' (first|exact hk0|refine Kp.drew ?_|refine Kp.setCell ?_ (fun hp=>by simp at hp) _))
     ·rw[hF2.out]<;>trivial
   |some n=>
    cases g with
    |true=>
     go_enter Tryz.func155,Tryz.ntmps155;go_wp2_with fail
     refine(HP.out _).mono ?_;rintro e w' ⟨rfl,rfl⟩;go_wp2_with fail
     refine(HC.out _ HM1.out).mono ?_;rintro e w1 ⟨rfl,hk1⟩;go_wp2_with fail
     refine(HD.out _).mono ?_;rintro e w2 ⟨rfl,rfl⟩;unfold digV;have hb2:w1.heap[w.heap.size]? =some (.cells #[.string ⟨#[]⟩,.string ⟨#[]⟩,.int .i64 0,.bool false] TWd (0,0)):=hk1.blk (Qf _ _) (fun x=>x);have x0:w1.cell? ⟨w.heap.size,0,none⟩=some (.string ⟨#[]⟩):=by rw[Qa hb2];try rfl
     have x1:w1.cell? ⟨w.heap.size,1,none⟩=some (.string ⟨#[]⟩):=by rw[Qa hb2];try rfl
     have x2:w1.cell? ⟨w.heap.size,2,none⟩=some (.int .i64 0):=by rw[Qa hb2];try rfl
     have x3:w1.cell? ⟨w.heap.size,3,none⟩=some (.bool false):=by rw[Qa hb2];try rfl
     have f0:=Qd hb2 0;have f1:=Qd hb2 1;have f2:=Qd hb2 2;have f3:=Qd hb2 3;go_wp2_with fail
     refine(HN.out _).mono ?_;rintro e w3 ⟨rfl,rfl⟩;go_wp2_with fail
     (try simp only[Exit.inBlock,Exit.then])
     refine bodyPost_ret (v:= .tuple #[wdV ⟨emptyB,a,0,false⟩,.bool true]) (by rw[results_cell_tmp rfl];go_simp;first|rfl|exact⟨rfl,rfl,rfl,rfl⟩) rfl ⟨?_,⟨emptyB,a,0,false⟩,true,rfl,?_⟩
     ·have hk0:Kn w w1:=((Qb _ w).alloc _).trans hk1
      (repeat' (first|exact hk0|refine Kp.drew ?_|refine Kp.setCell ?_ (fun hp=>by simp at hp) _))
     ·rw[hF2.out]<;>exact⟨rfl,rfl⟩
    |false=>
     go_enter Tryz.func155,Tryz.ntmps155;go_wp2_with fail
     refine(HP.out _).mono ?_;rintro e w' ⟨rfl,rfl⟩;go_wp2_with fail
     refine(HC.out _ HM1.out).mono ?_;rintro e w1 ⟨rfl,hk1⟩;go_wp2_with fail
     refine(HD.out _).mono ?_;rintro e w2 ⟨rfl,rfl⟩;unfold digV;have hb2:w1.heap[w.heap.size]? =some (.cells #[.string ⟨#[]⟩,.string ⟨#[]⟩,.int .i64 0,.bool false] TWd (0,0)):=hk1.blk (Qf _ _) (fun x=>x);have x0:w1.cell? ⟨w.heap.size,0,none⟩=some (.string ⟨#[]⟩):=by rw[Qa hb2];try rfl
     have x1:w1.cell? ⟨w.heap.size,1,none⟩=some (.string ⟨#[]⟩):=by rw[Qa hb2];try rfl
     have x2:w1.cell? ⟨w.heap.size,2,none⟩=some (.int .i64 0):=by rw[Qa hb2];try rfl
     have x3:w1.cell? ⟨w.heap.size,3,none⟩=some (.bool false):=by rw[Qa hb2];try rfl
     have f0:=Qd hb2 0;have f1:=Qd hb2 1;have f2:=Qd hb2 2;have f3:=Qd hb2 3;go_wp2_with fail
     refine(HN.out _).mono ?_;rintro e w3 ⟨rfl,rfl⟩;go_wp2_with fail
     (try simp only[Exit.inBlock,Exit.then])
     refine bodyPost_ret (v:= .tuple #[wdV ⟨emptyB,a,0,false⟩,.bool false]) (by rw[results_cell_tmp rfl];go_simp;first|rfl|exact⟨rfl,rfl,rfl,rfl⟩) rfl ⟨?_,⟨emptyB,a,0,false⟩,false,rfl,?_⟩
     ·have hk0:Kn w w1:=((Qb _ w).alloc _).trans hk1
      (repeat' (first|exact hk0|refine Kp.drew ?_|refine Kp.setCell ?_ (fun hp=>by simp at hp) _))
     ·rw[hF2.out]<;>trivial
  |true=>
   cases o with
   |none=>
    have hF2:Hid (partF s=none):=Qh (by rw[hF.out];try rfl);clear hF;go_enter Tryz.func155,Tryz.ntmps155;go_wp2_with fail
    refine(HP.out _).mono ?_;rintro e w' ⟨rfl,rfl⟩;go_wp2_with fail
    refine(HC.out _ HM1.out).mono ?_;rintro e w1 ⟨rfl,hk1⟩;go_wp2_with fail
    refine(HD.out _).mono ?_;rintro e w2 ⟨rfl,rfl⟩;unfold digV;have hb2:w1.heap[w.heap.size]? =some (.cells #[.string ⟨#[]⟩,.string ⟨#[]⟩,.int .i64 0,.bool false] TWd (0,0)):=hk1.blk (Qf _ _) (fun x=>x);have x0:w1.cell? ⟨w.heap.size,0,none⟩=some (.string ⟨#[]⟩):=by rw[Qa hb2];try rfl
    have x1:w1.cell? ⟨w.heap.size,1,none⟩=some (.string ⟨#[]⟩):=by rw[Qa hb2];try rfl
    have x2:w1.cell? ⟨w.heap.size,2,none⟩=some (.int .i64 0):=by rw[Qa hb2];try rfl
    have x3:w1.cell? ⟨w.heap.size,3,none⟩=some (.bool false):=by rw[Qa hb2];try rfl
    have f0:=Qd hb2 0;have f1:=Qd hb2 1;have f2:=Qd hb2 2;have f3:=Qd hb2 3;go_wp2_with fail
    (try simp only[Exit.inBlock,Exit.then])
    refine bodyPost_ret (v:= .tuple #[wdV ⟨emptyB,a,0,true⟩,.bool false]) (by rw[results_cell_tmp rfl];go_simp;first|rfl|exact⟨rfl,rfl,rfl,rfl⟩) rfl ⟨?_,⟨emptyB,a,0,true⟩,false,rfl,?_⟩
    ·have hk0:Kn w w1:=((Qb _ w).alloc _).trans hk1
     (repeat' (first|exact hk0|refine Kp.drew ?_|refine Kp.setCell ?_ (fun hp=>by simp at hp) _))
    ·rw[hF2.out]<;>trivial
   |some n=>
    have hF2:Hid (partF s=if g=true then some ⟨emptyB,a,n,true⟩ else none):=Qh (by rw[hF.out];try rfl);clear hF;cases g with
    |true=>
     go_enter Tryz.func155,Tryz.ntmps155;go_wp2_with fail
     refine(HP.out _).mono ?_;rintro e w' ⟨rfl,rfl⟩;go_wp2_with fail
     refine(HC.out _ HM1.out).mono ?_;rintro e w1 ⟨rfl,hk1⟩;go_wp2_with fail
     refine(HD.out _).mono ?_;rintro e w2 ⟨rfl,rfl⟩;unfold digV;have hb2:w1.heap[w.heap.size]? =some (.cells #[.string ⟨#[]⟩,.string ⟨#[]⟩,.int .i64 0,.bool false] TWd (0,0)):=hk1.blk (Qf _ _) (fun x=>x);have x0:w1.cell? ⟨w.heap.size,0,none⟩=some (.string ⟨#[]⟩):=by rw[Qa hb2];try rfl
     have x1:w1.cell? ⟨w.heap.size,1,none⟩=some (.string ⟨#[]⟩):=by rw[Qa hb2];try rfl
     have x2:w1.cell? ⟨w.heap.size,2,none⟩=some (.int .i64 0):=by rw[Qa hb2];try rfl
     have x3:w1.cell? ⟨w.heap.size,3,none⟩=some (.bool false):=by rw[Qa hb2];try rfl
     have f0:=Qd hb2 0;have f1:=Qd hb2 1;have f2:=Qd hb2 2;have f3:=Qd hb2 3;go_wp2_with fail
     refine(HN.out _).mono ?_;rintro e w3 ⟨rfl,rfl⟩;go_wp2_with fail
     (try simp only[Exit.inBlock,Exit.then])
     refine bodyPost_ret (v:= .tuple #[wdV ⟨emptyB,a,n,true⟩,.bool true]) (by rw[results_cell_tmp rfl];go_simp;first|rfl|exact⟨rfl,rfl,rfl,rfl⟩) rfl ⟨?_,⟨emptyB,a,n,true⟩,true,rfl,?_⟩
     ·have hk0:Kn w w1:=((Qb _ w).alloc _).trans hk1
      (repeat' (first|exact hk0|refine Kp.drew ?_|refine Kp.setCell ?_ (fun hp=>by simp at hp) _))
     ·rw[hF2.out]<;>exact⟨rfl,rfl⟩
    |false=>
     go_enter Tryz.func155,Tryz.ntmps155;go_wp2_with fail
     refine(HP.out _).mono ?_;rintro e w' ⟨rfl,rfl⟩;go_wp2_with fail
     refine(HC.out _ HM1.out).mono ?_;rintro e w1 ⟨rfl,hk1⟩;go_wp2_with fail
     refine(HD.out _).mono ?_;rintro e w2 ⟨rfl,rfl⟩;unfold digV;have hb2:w1.heap[w.heap.size]? =some (.cells #[.string ⟨#[]⟩,.string ⟨#[]⟩,.int .i64 0,.bool false] TWd (0,0)):=hk1.blk (Qf _ _) (fun x=>x);have x0:w1.cell? ⟨w.heap.size,0,none⟩=some (.string ⟨#[]⟩):=by rw[Qa hb2];try rfl
     have x1:w1.cell? ⟨w.heap.size,1,none⟩=some (.string ⟨#[]⟩):=by rw[Qa hb2];try rfl
     have x2:w1.cell? ⟨w.heap.size,2,none⟩=some (.int .i64 0):=by rw[Qa hb2];try rfl
     have x3:w1.cell? ⟨w.heap.size,3,none⟩=some (.bool false):=by rw[Qa hb2];try rfl
     have f0:=Qd hb2 0;have f1:=Qd hb2 1;have f2:=Qd hb2 2;have f3:=Qd hb2 3;go_wp2_with fail
     refine(HN.out _).mono ?_;rintro e w3 ⟨rfl,rfl⟩;go_wp2_with fail
     (try simp only[Exit.inBlock,Exit.then])
     refine bodyPost_ret (v:= .tuple #[wdV ⟨emptyB,a,n,true⟩,.bool false]) (by rw[results_cell_tmp rfl];go_simp;first|rfl|exact⟨rfl,rfl,rfl,rfl⟩) rfl ⟨?_,⟨emptyB,a,n,true⟩,false,rfl,?_⟩
     ·have hk0:Kn w w1:=((Qb _ w).alloc _).trans hk1
      (repeat' (first|exact hk0|refine Kp.drew ?_|refine Kp.setCell ?_ (fun hp=>by simp at hp) _))
     ·rw[hF2.out]<;>trivial
open Go.RowKit Go.Maps
structure RSok (R:RS):Prop where
 lits:R.lits.length≤40
 cls:R.cls.length≤40
 sorts:R.sorts.length≤40
 lines:R.lines.length≤120
 litz:∀s∈R.lits,s.size≤20
 clz:∀c∈R.cls,c.name.size≤20∧c.regex.size≤2000000
 words:∀x∈R.lines,x.words.length≤20∧x.number≤2000000∧x.level≤9
theorem gnOk_le{s:ByteArray}(h:YG s=true):s.size≤20∧s.size≠0:=by
 unfold YG YT at h;simp at h;exact⟨h.1.2.2,fun e=>h.1.2.1 (by
  cases s with|mk d=>simp only[ByteArray.size] at e;have:d= #[]:=Array.eq_empty_of_size_eq_zero e;subst this;rfl)⟩
abbrev TMsb:TypeId:=127
theorem zero_bool(w:World):(zeroValue 4).run Tryz.prog w= .ok (.bool false) w:=Tryz.zeroValue4 w
theorem mbM_mem{ns:List ByteArray}{p:Value×Value} :p∈mbM ns↔∃s∈ns,p=(.string s,.bool true):=by
 unfold mbM;rw[List.mem_map];exact⟨fun⟨s,h,e⟩=>⟨s,h,e.symm⟩,fun⟨s,h,e⟩=>⟨s,h,e.symm⟩⟩
theorem mbM_not{ns:List ByteArray}{x:ByteArray}(h:YB ns x=false):∀p∈mbM ns,p.1≠Value.string x:=by
 intro p hp e;obtain⟨s,hs,rfl⟩:=mbM_mem.1 hp;have:s=x:=by injection e
 subst this;exact hasS_not.1 h hs
theorem look_mb{w:World}{b:Nat}{ns:List ByteArray}(x:ByteArray)(hsz:x.size≤1000000)(hm:MapA w TS b (mbM ns)):(Instr.lookup TMsb (.map (some b)) (.string x) false).run Tryz.prog w= .ok (.bool (YB ns x)) w:=by
 obtain⟨l,hl⟩:=str_keyOf x hsz;cases hx:YB ns x with
 |false=>exact hm.look0 (string_keyed Tryz.underlying9) Tryz.underlying127 (zero_bool w) hl (mbM_not hx) false
 |true=>exact hm.look1 (string_keyed Tryz.underlying9) Tryz.underlying127 hl (mbM_mem.2 ⟨x,hasS_iff.1 hx,rfl⟩) false
theorem put_mb{w:World}{b:Nat}{ns:List ByteArray}(x:ByteArray)(hsz:x.size≤1000000)(hx:YB ns x=false)(hm:MapA w TS b (mbM ns)):∃w',(Instr.mapUpdate TMsb (.map (some b)) (.string x) (.bool true)).run Tryz.prog w= .ok () w'∧MapA w' TS b (mbM ns++[(.string x,.bool true)])∧K1 b w w':=by
 obtain⟨l,hl⟩:=str_keyOf x hsz;exact hm.put0 (string_keyed Tryz.underlying9) Tryz.underlying127 hl (mbM_not hx) _
section
variable {w:World} {B p:Nat} {R:RS} {A:RA}
theorem RdAt.cell(h:RdAt w B p R A)(i:Nat):w.cell? ⟨p,i,none⟩=(rdC A)[i]? :=Qa h.blk i
theorem RdAt.cells(h:RdAt w B p R A):w.cell? ⟨p,0,none⟩=some A.vl∧w.cell? ⟨p,1,none⟩=some A.vc∧w.cell? ⟨p,2,none⟩=some A.vs∧w.cell? ⟨p,3,none⟩=some A.vr∧w.cell? ⟨p,4,none⟩=some A.bb∧
  w.cell? ⟨p,5,none⟩=some A.sc∧w.cell? ⟨p,6,none⟩=some (.map (some A.bn))∧w.cell? ⟨p,7,none⟩=some (.map (some A.bc))∧w.cell? ⟨p,8,none⟩=some (.map (some A.br))∧w.cell? ⟨p,9,none⟩=some A.vn:=
 ⟨h.cell 0,h.cell 1,h.cell 2,h.cell 3,h.cell 4,h.cell 5,h.cell 6,h.cell 7,h.cell 8,h.cell 9⟩
theorem RdAt.fr(h:RdAt w B p R A)(i:Nat):w.frozen? ⟨p,i,none⟩=false:=Qd h.blk i
end
def NamePost(B p:Nat)(R:RS)(A:RA)(s:ByteArray)(w:World)(e:Ending)(w':World):Prop:=
 ∃n:Int,e= .returned (.int .i64 n)∧match R.name s with|some R'=>n=0∧RdAt w' B p R' A∧K1 A.bn w w'|none=>n≠0∧w'=w
theorem name_c{B p:Nat}{R:RS}{A:RA}{w:World}(s:ByteArray)(h:RdAt w B p R A)(hs:s.size≤2000000):
  Calls Tryz.prog 150 #[ptr p,.string s] w (NamePost B p R A s w):=by
 have HN:=Qh (gNamed_c s w (by omega));have hF:Hid (R.name s=if YG s=true∧YB R.names s=false then some {R with names:=R.names++[s]} else none):=Qh rfl;obtain⟨_,_,_,_,_,_,h6,_⟩:=h.cells;have H:=Qh h;cases hg:YG s with
 |false=>
  have hF2:Hid (R.name s=none):=Qh (by rw[hF.out,if_neg (by rw[hg];simp)]);rw[hg] at HN;clear h hF hg;go_enter Tryz.func150,Tryz.ntmps150;go_wp2_with fail
  refine HN.out.mono ?_;rintro e w' ⟨rfl,rfl⟩;go_wp2_with fail
  go_ret;refine⟨4,rfl,?_⟩;rw[hF2.out];exact⟨by decide,rfl⟩
 |true=>
  have hsz:=(gnOk_le hg).1;have hlk:=look_mb s (by omega) H.out.names;rw[hg] at HN;cases hh:YB R.names s with
  |true=>
   rw[hh] at hlk;have hF2:Hid (R.name s=none):=Qh (by rw[hF.out,if_neg (by rw[hh];simp)]);clear h hF hg hh;go_enter Tryz.func150,Tryz.ntmps150;go_wp2_with fail
   refine HN.out.mono ?_;rintro e w' ⟨rfl,rfl⟩;go_wp2_with fail
   go_ret;refine⟨9,rfl,?_⟩;rw[hF2.out];exact⟨by decide,rfl⟩
  |false=>
   rw[hh] at hlk;have hF2:Hid (R.name s=some {R with names:=R.names++[s]}):=Qh (by rw[hF.out,if_pos ⟨hg,hh⟩]);obtain⟨w1,hput,hm1,hk1⟩:=put_mb s (by omega) hh H.out.names;have HM:=Qh (And.intro hm1 hk1);clear h hF hg hh hm1 hk1;go_enter Tryz.func150,Tryz.ntmps150;go_wp2_with fail
   refine HN.out.mono ?_;rintro e w' ⟨rfl,rfl⟩;go_wp2_with fail
   go_ret;refine⟨0,rfl,?_⟩;rw[hF2.out];exact⟨rfl,H.out.putName HM.out.1 HM.out.2,HM.out.2⟩
theorem full_c{B p:Nat}{R:RS}{A:RA}{w:World}(h:RdAt w B p R A)(ok:RSok R):
  Calls Tryz.prog 151 #[ptr p] w fun e w'=>e= .returned (.bool R.full)∧Kn w w':=by
 obtain⟨a1,c1,hv1,_⟩:=h.cls.row (fun C hC=>by obtain⟨x,_,rfl⟩:=List.mem_map.1 hC;rfl);obtain⟨a0,c0,hv0,_⟩:=h.lits.look;rw[List.length_map] at hv1;obtain⟨h0,h1,_⟩:=h.cells;rw[hv0] at h0;rw[hv1] at h1;have hl:=ok.lits;have hc:=ok.cls;have hF:Hid (R.full=decide ((40:Int)≤(R.cls.length:Int)+R.lits.length)):=Qh (by unfold RS.full;rw[decide_eq_decide];omega);clear h ok hv0 hv1;go_enter Tryz.func151,Tryz.ntmps151;go_wp2_with fail
 go_quiet (fail)
 go_wp2_with fail
 go_ret;exact⟨by rw[hF.out];try rfl,(Qb _ _).drewN _⟩
def WL(w:World)(bl off:Nat)(l:List ByteArray):Prop:=∀i (h:i<l.length),w.cell? ⟨bl,off+i,none⟩=some (.string l[i])
theorem WL.kp{S:Nat→Prop}{w w':World}{bl off:Nat}{l:List ByteArray}(h:WL w bl off l)(hk:Kp S w w')(hS:¬S bl):WL w' bl off l:=fun i hi=>Qi hk (h i hi) hS
theorem WL.kn{w w':World}{bl off:Nat}{l:List ByteArray}(h:WL w bl off l)(hk:Kn w w'):WL w' bl off l:=h.kp hk (fun x=>x)
def Off(A:RA)(p bl:Nat):Prop:=bl≠p∧(∀g,A.vl.ownBlock=some g→g≠bl)∧(∀g,A.vs.ownBlock=some g→g≠bl)∧A.bn≠bl∧A.bc≠bl∧A.br≠bl
def ErrPost(B p:Nat)(A:RA)(o:Option RS)(w:World)(e:Ending)(w':World):Prop:=
 ∃n:Int,e= .returned (.int .i64 n)∧Kp (fun k=>B≤k) w w'∧match o with|some R'=>n=0∧RSok R'∧∃A',RdAt w' B p R' A'∧A'.vr=A.vr∧A'.sc=A.sc|none=>n≠0
theorem name_ok{R R':RS}{s:ByteArray}(ok:RSok R)(h:R.name s=some R'):RSok R'∧s.size≤20∧R'.lits=R.lits∧R'.cls=R.cls∧R'.sorts=R.sorts:=by
 unfold RS.name at h;split at h
 ·rename_i hh;injection h with h;subst h;exact⟨⟨ok.lits,ok.cls,ok.sorts,ok.lines,ok.litz,ok.clz,ok.words⟩,(gnOk_le hh.1).1,rfl,rfl,rfl⟩
 ·cases h
theorem flat1(ss:List ByteArray):(ss.map (fun s=>[Value.string s])).flatten=ss.map Value.string:=by
 induction ss with
 |nil=>rfl
 |cons a l ih=>rw[List.map_cons,List.flatten_cons,ih];try rfl
theorem ownT_k{w:World}{B:Nat}{v:Value}{ss:List ByteArray}(h:OwnT w B v ss):OwnK w B TS 1 v (ss.map (fun s=>[Value.string s])):=by
 unfold OwnK;rw[List.length_map,flat1];exact h
theorem ownT_of{w:World}{B:Nat}{v:Value}{ss:List ByteArray}{s:ByteArray}(h:OwnK w B TS 1 v (ss.map (fun s=>[Value.string s])++[[Value.string s]])):w.ownsRow B TS 1 v (ss.length+1) (ss.map Value.string++[.string s]):=by
 unfold OwnK at h;rw[List.flatten_append,flat1,List.length_append,List.length_map] at h;exact h
theorem sort_c{B p bl c:Nat}{R:RS}{A:RA}{w:World}(l:List ByteArray)(h:RdAt w B p R A)(ok:RSok R)(hl:WL w bl 1 l)(ho:Off A p bl)(hll:l.length≤2000000)(hsz:∀s∈l,s.size≤2000000):
  Calls Tryz.prog 108 #[ptr p,.slice (some ⟨bl,1,none⟩) l.length c] w (ErrPost B p A (R.sort_ l) w):=by
 by_cases h1:l.length=1
 ·have i1:((l.length:Int)==1)=true:=by simp[h1]
  obtain⟨a,rfl⟩:∃a,l=[a]:=by
   rcases l with _|⟨a,_|⟨b,l⟩⟩
   ·simp at h1
   ·exact⟨a,rfl⟩
   ·simp at h1
  have hF:Hid (R.sort_ [a]=match R.name a with|some R1=>if R1.sorts.length<40 then some {R1 with sorts:=R1.sorts++[a]} else none|none=>none):=Qh rfl;have ha:=hsz a (by simp);have hc0:=hl 0 (by simp);simp only[List.getElem_cons_zero,Nat.add_zero] at hc0;have HN:=Qh (name_c a h ha);have hbp:=h.pB;obtain⟨ie,hi,hz0,hz1,hz2⟩:=info_parts info_str;have HIE:=Qh (And.intro hi (And.intro hz0 (And.intro hz1 hz2)));have HOK:=Qh ok;have HO:=Qh ho;have H0:=Qh h;simp only[List.length_singleton] at*;clear h ok hl ho hll hsz hi hz0 hz1 hz2 h1 i1;go_enter Tryz.func108,Tryz.ntmps108;go_wp2_with fail
  refine HN.out.mono ?_;rintro e w1 ⟨n,rfl,hp⟩;cases hn:R.name a with
  |none=>
   rw[hn] at hp;dsimp only at hp;obtain⟨hn0,rfl⟩:=hp;have hn2:(n==0)=false:=by rw[beq_eq_false_iff_ne];exact hn0
   have hF2:Hid (R.sort_ [a]=none):=Qh (by rw[hF.out,hn]);have HN0:=Qh hn0;clear hF hn hn0;go_wp2_with fail
   go_ret;refine⟨n,rfl,Qb _ _,?_⟩;rw[hF2.out];exact HN0.out
  |some R1=>
   rw[hn] at hp;dsimp only at hp;obtain⟨rfl,hr1,hk1⟩:=hp;have hok1:=(name_ok HOK.out hn).1;have hasz:=(name_ok HOK.out hn).2.1;have hF2:Hid (R.sort_ [a]=if R1.sorts.length<40 then some {R1 with sorts:=R1.sorts++[a]} else none):=Qh (by rw[hF.out,hn]);have HR1:=Qh hr1;have HOK1:=Qh hok1;obtain⟨oa,oc,hv,_⟩:=hr1.sorts.look;obtain⟨_,_,q2,_⟩:=hr1.cells;have q2':=q2;rw[hv] at q2';have HV:=Qh hv;have hcl:=Qi hk1 hc0 (show¬bl=A.bn from fun e=>HO.out.2.2.2.1 e.symm);have hsl:=hok1.sorts;have KW:=hk1.mono (T:=fun k=>B≤k) (fun i hi e=>by omega);clear hF hn hr1 hok1 hk1 hc0 q2 hv HN;by_cases h40:R1.sorts.length<40
   ·have i40:¬(40:Int)≤R1.sorts.length:=by omega
    have hF3:Hid (R.sort_ [a]=some {R1 with sorts:=R1.sorts++[a]}):=Qh (by rw[hF2.out,if_pos h40]);clear hF2;go_wp2_with fail
    clear q2';refine rgn (fun w'=>w'.cell? ⟨p,2,none⟩=some (.slice oa R1.sorts.length oc)∧w'.cell? ⟨bl,1,none⟩=some (.string a)) (X:=[]) ⟨Qc ((Qb _ _).drew) ((Qa HR1.out.blk 2).trans (congrArg some HV.out)),Qc ((Qb _ _).drew) hcl⟩ (fun hX hHeld=> ?_);refine tw 0 24 ?_;refine tw 1 25 ?_;refine tw 2 26 ?_;refine tw 3 27 ?_;refine tw 4 28 ?_;refine tk 5 29 ?_;refine tw 6 30 ?_;refine tw 7 31 ?_;refine tk 8 32 ?_;refine ro 9 (fun K hK=> ?_);obtain⟨wd,hwd⟩:∃zz,zz=w1.drew:=⟨_,rfl⟩;have KN0:Kn w1 wd:=by rw[hwd];exact(Qb _ _).drew
    have KW0:=KW.trans (Kp.weak (S:=fun k=>B≤k) KN0);have RH0:=Qh (HR1.out.kn KN0);rw[←hwd] at hHeld⊢;clear hwd;go_simp;obtain⟨y1,hw1⟩:∃zz,zz=wd.alloc (.cells #[.string a] TS):=⟨_,rfl⟩;have hk1:Kn wd y1:=by rw[hw1];exact(Qb _ _).alloc _
    obtain⟨ge,hge⟩:∃zz,zz=wd.heap.size:=⟨_,rfl⟩;have GE:y1.heap[ge]? =some (.cells #[.string a] TS (0,0)):=by rw[hw1,hge];exact Qf _ _
    have RH1:=Qh (RH0.out.kn hk1);have KW1:=KW0.trans (Kp.weak hk1);have KN1:=KN0.trans hk1;rw[←hw1,←hge];refine hK.out _ _ (⟨Qc hk1 hHeld.1,Qc hk1 hHeld.2⟩) (fun hHeld=> ?_);clear hw1 hge hk1;clear hK K
    try simp only[PP]
    refine ro 10 (fun K hK=> ?_);have hownO:OwnK y1 B TS 1 (.slice oa R1.sorts.length oc) (R1.sorts.map (fun s=>[Value.string s])):=by have h1:=ownT_k RH1.out.sorts;rw[HV.out] at h1;exact h1
    refine Qm y1 (by rfl) _ _ 128 (by rfl) B TS ie (.string ByteArray.empty) 1 16 Tryz.underlying128 HIE.out.1 HIE.out.2.1 HIE.out.2.2.1 HIE.out.2.2.2 (by rfl) (by decide) (.slice oa R1.sorts.length oc) (R1.sorts.map (fun s=>[Value.string s])) (by rfl) hownO ge 1 (by rfl) #[.string a] TS (0,0) GE (by rfl) (by simp[Value.oneCell']) (by rw[List.length_map];simp only[maxLen];omega) (by rw[List.length_map];omega) (by have:=RH1.out.pB.1;have:=RH1.out.lt;omega) ?_;intro v1 y2 hown hka hat;have hke:Kp (fun k=>B≤k) y1 y2:=hka.mono (fun i hi e=>(hownO.lt i e.symm).1);have KX:=KW1.trans hke;obtain⟨av1,cv1,hv1,_⟩:=hown.row (k:=1) (fun D hD=>by simp only[List.mem_append,List.mem_map,List.mem_singleton] at hD;(first|(rcases hD with⟨y,_,rfl⟩|rfl<;>rfl)|(exact rfl)))
    obtain⟨nl1,hv1⟩:∃n,v1= .slice av1 n cv1:=⟨_,hv1⟩;have HV1:=Qh hv1;have RHP:=Qh (RH1.out.putSort (ownT_of hown) (by rw[HV.out];exact hka) (fun g hg e=>by rcases hat with h1|h1<;>rw[h1] at e;exact RH1.out.ne2 g hg (by rw[HV.out];exact e);injection e with e;subst e;have:=(RH1.out.lits.lt _ hg).2;omega))
    have hpb:y2.heap[p]? =some (.cells (rdC A) TGr (0,0)):=QB RH1.out.blk hka (QR hownO) (by decide);have xp1:=Qd hpb 2;have xq1:y2.cell? ⟨p,2,none⟩=some (.slice oa R1.sorts.length oc):=by rw[Qa hpb];exact congrArg some HV.out
    refine hK.out _ _ (⟨xq1,Qi hka hHeld.2 (fun e=>HO.out.2.2.1 bl (by rw[HV.out];exact e.symm) rfl)⟩) (fun hHeld=> ?_);clear hown hka hat hv1 hke hownO;clear hK K
    try simp only[PP]
    refine tw 11 35 ?_;refine tw 12 36 ?_;refine tw 13 37 ?_;refine re 14 (fun K hK=> ?_);rw[HV1.out];go_simp;rw[←HV1.out];obtain⟨w9,hw9⟩:∃zz,zz=y2.setCell ⟨p,2,none⟩ v1:=⟨_,rfl⟩;have hk9:K1 p y2 w9:=by rw[hw9];exact Qg _ _
    rw[←hw9] at RHP⊢;have KX9:=KX.trans (hk9.mono (fun i hi e=>by have:=RHP.out.pB.1;omega));clear xp1 xq1 hpb hw9 hk9 KX hHeld;refine hK.out _ _ ?_;clear hK K;go_wp2_with fail
    go_ret;refine⟨0,rfl,KX9,?_⟩;rw[hF3.out];exact⟨rfl,⟨HOK1.out.lits,HOK1.out.cls,by simp;omega,HOK1.out.lines,HOK1.out.litz,HOK1.out.clz,HOK1.out.words⟩,_,RHP.out,rfl,rfl⟩
   ·have i40:(40:Int)≤R1.sorts.length:=by omega
    have hF3:Hid (R.sort_ [a]=none):=Qh (by rw[hF2.out,if_neg h40]);clear hF2;go_wp2_with fail
    go_ret;refine⟨3,rfl,KW,?_⟩;rw[hF3.out];exact(by decide:(3:Int)≠0)
 ·have i1:((l.length:Int)==1)=false:=by rw[beq_eq_false_iff_ne];omega
  have hF:Hid (R.sort_ l=none):=Qh (by
   rcases l with _|⟨a,_|⟨b,l⟩⟩
   ·rfl
   ·simp at h1
   ·rfl)
  go_enter Tryz.func108,Tryz.ntmps108;go_wp2_with fail
  go_ret;refine⟨4,rfl,Qb _ _,?_⟩;rw[hF.out];exact(by decide:(4:Int)≠0)
theorem RS.token_not(R:RS)(l:List ByteArray)(lay:Bool)(h:l.length≠2):R.token l lay=none:=by
 rcases l with _|⟨a,_|⟨b,_|⟨c,l⟩⟩⟩
 ·rfl
 ·rfl
 ·simp at h
 ·rfl
theorem clsR_one{w:World}{b:Nat}{c:GC}(h:w.heap[b]? =some (.cells #[.string c.name,.string c.regex,.bool c.layout] TCl (0,0))):ClsR w b [c]:=by
 intro j u hj;rw[Qa h,List.getElem?_toArray];simpa[clC,clL] using hj
theorem token_c{B p bl c:Nat}{R:RS}{A:RA}{w:World}(l:List ByteArray)(lay:Bool)(h:RdAt w B p R A)(ok:RSok R)(hl:WL w bl 1 l)(ho:Off A p bl)(hll:l.length≤2000000)(hsz:∀s∈l,s.size≤2000000):
  Calls Tryz.prog 107 #[ptr p,.slice (some ⟨bl,1,none⟩) l.length c,.bool lay] w (ErrPost B p A (R.token l lay) w):=by
 by_cases h1:l.length=2
 ·obtain⟨a,b,rfl⟩:∃a b,l=[a,b]:=by
   rcases l with _|⟨a,_|⟨b,_|⟨c,l⟩⟩⟩
   ·simp at h1
   ·simp at h1
   ·exact⟨a,b,rfl⟩
   ·simp at h1
  have hF:Hid (R.token [a,b] lay=match R.name a with|some R1=>if(Yn [⟨a,b,lay⟩]).isSome=true∧R1.full=false then some {R1 with cls:=R1.cls++[⟨a,b,lay⟩]} else none|none=>none):=Qh rfl;have ha:=hsz a (by simp);have hb:=hsz b (by simp);have hc0:w.cell? ⟨bl,1,none⟩=some (.string a):=hl 0 (by simp);have hc1:w.cell? ⟨bl,2,none⟩=some (.string b):=hl 1 (by simp);have HN:=Qh (name_c a h ha);have hbp:=h.pB;obtain⟨ie,hi,hz0,hz1,hz2⟩:=info_parts info_cl;have HIE:=Qh (And.intro hi (And.intro hz0 (And.intro hz1 hz2)));have HOK:=Qh ok;have HO:=Qh ho;simp only[List.length_cons,List.length_nil] at*;clear h ok hl ho hll hsz hi hz0 hz1 hz2 h1;go_enter Tryz.func107,Tryz.ntmps107;go_wp2_with fail
  refine HN.out.mono ?_;rintro e w1 ⟨n,rfl,hp⟩;cases hn:R.name a with
  |none=>
   rw[hn] at hp;dsimp only at hp;obtain⟨hn0,rfl⟩:=hp;have hn2:(n==0)=false:=by rw[beq_eq_false_iff_ne];exact hn0
   have hF2:Hid (R.token [a,b] lay=none):=Qh (by rw[hF.out,hn]);have HN0:=Qh hn0;clear hF hn hn0;go_wp2_with fail
   go_ret;refine⟨n,rfl,Qb _ _,?_⟩;rw[hF2.out];exact HN0.out
  |some R1=>
   rw[hn] at hp;dsimp only at hp;obtain⟨rfl,hr1,hk1⟩:=hp;have hok1:=(name_ok HOK.out hn).1;have hasz:=(name_ok HOK.out hn).2.1;have hF2:Hid (R.token [a,b] lay=if(Yn [⟨a,b,lay⟩]).isSome=true∧R1.full=false then some {R1 with cls:=R1.cls++[⟨a,b,lay⟩]} else none):=Qh (by rw[hF.out,hn]);have HR1:=Qh hr1;have HOK1:=Qh hok1;have x1:=Qi hk1 hc0 (show¬bl=A.bn from fun e=>HO.out.2.2.2.1 e.symm);have x2:=Qi hk1 hc1 (show¬bl=A.bn from fun e=>HO.out.2.2.2.1 e.symm);have KW1:=hk1.mono (T:=fun k=>B≤k) (fun i hi e=>by omega);clear hF hn hr1 hok1 hk1 hc0 hc1 HN;go_wp2_with fail
   refine wp_region_held_drew (S:=fun w'=>w'.cell? ⟨bl,1,none⟩=some (.string a)∧w'.cell? ⟨bl,2,none⟩=some (.string b)) (by kernel_rfl) ⟨Qc ((Qb _ _).drew) x1,Qc ((Qb _ _).drew) x2⟩ (fun hHeld=> ?_);have hH0:=hHeld;refine TW 0 23 ?_;refine TW 1 24 ?_;refine TH 2 25 ?_;refine TW 3 26 ?_;refine TW 4 27 ?_;refine TH 5 28 ?_;refine TW 6 29 ?_;refine TW 7 30 ?_;refine RH 8 (fun K hK=> ?_);go_simp;refine hK.out _ _ ⟨Qc ((Qb _ _).alloc _) hHeld.1,Qc ((Qb _ _).alloc _) hHeld.2⟩ (fun hHeld=> ?_);clear hK K
   try simp only[PP]
   refine RH 9 (fun K hK=> ?_);go_simp;refine hK.out _ _ ⟨Qc ((Qb _ _).alloc _) hH0.1,Qc ((Qb _ _).alloc _) hH0.2⟩ (fun hHeld=> ?_);clear hK K
   try simp only[PP]
   refine RD ?_;clear hHeld hH0;obtain⟨w2,hw2⟩:∃z,z=(w1.alloc (.cells #[.string a,.string b,.bool lay] TCl)).drew:=⟨_,rfl⟩;rw[←hw2];have hk2:Kn w1 w2:=by rw[hw2];exact((Qb _ _).alloc _).drew
   obtain⟨b8,hb8⟩:∃z,z=w1.heap.size:=⟨_,rfl⟩;have hbb:w2.heap[b8]? =some (.cells #[.string a,.string b,.bool lay] TCl (0,0)):=by rw[hw2,hb8];exact Qf w1 _
   rw[←hb8];have HB8:Hid (∀g,A.vc.ownBlock=some g→g<b8):=Qh (fun g hg=>by rw[hb8];exact(HR1.out.cls.lt g hg).2);have HR2:=Qh (HR1.out.kn hk2);have KW2:=KW1.trans (Kp.weak hk2);have c0:w2.cell? ⟨b8,0,none⟩=some (.string a):=by rw[Qa hbb];try rfl
   have c1:w2.cell? ⟨b8,1,none⟩=some (.string b):=by rw[Qa hbb];try rfl
   have c2:w2.cell? ⟨b8,2,none⟩=some (.bool lay):=by rw[Qa hbb];try rfl
   clear hw2 hb8 hk2 HR1 KW1 x1 x2;obtain⟨w3,hw3⟩:∃z,z=w2.alloc (.cells #[.string a,.string b,.bool lay] TCl):=⟨_,rfl⟩;have hk3:Kn w2 w3:=by rw[hw3];exact(Qb _ _).alloc _
   have HSC:Hid (Calls Tryz.prog 112 #[.slice (some ⟨w2.heap.size,0,none⟩) 1 1] w3 (ScanPost [⟨a,b,lay⟩] w3)):=Qh (scanNew_c w2.heap.size 1 [⟨a,b,lay⟩] w3 (clsR_one (c:=⟨a,b,lay⟩) (by rw[hw3];exact Qf _ _)) (by simp) (fun x hx=>by simp at hx;subst hx;exact⟨by show a.size≤_;omega,by show b.size≤_;omega⟩));have HK3:=Qh hk3;have HW3:=Qh hw3;clear hw3 hk3;go_wp2_with fail
   rw[←HW3.out];refine HSC.out.mono ?_;rintro e w4 ⟨hk4,hp⟩;have KW4:=KW2.trans (Kp.weak (HK3.out.trans hk4));have HR4:=Qh ((HR2.out.kn HK3.out).kn hk4);have hbb4:=(HK3.out.trans hk4).blk hbb (fun x=>x);cases hsf:Yn [⟨a,b,lay⟩] with
   |none=>
    rw[hsf] at hp;dsimp only at hp;obtain⟨k,n,hn,rfl⟩:=hp;have hn2:(n==0)=false:=by rw[beq_eq_false_iff_ne];exact hn
    have hF3:Hid (R.token [a,b] lay=none):=Qh (by rw[hF2.out,hsf,if_neg (by simp)]);have HN0:=Qh hn;clear hsf hF2 hn HSC HW3;go_wp2_with fail
    go_ret;refine⟨n,rfl,KW4,?_⟩;rw[hF3.out];exact HN0.out
   |some rr=>
    rw[hsf] at hp;dsimp only at hp;obtain⟨ps,rfl,_,_⟩:=hp;have HFU:=Qh (full_c HR4.out HOK1.out);cases hfu:R1.full with
    |true=>
     rw[hfu] at HFU;have hF3:Hid (R.token [a,b] lay=none):=Qh (by rw[hF2.out,hfu,if_neg (by simp)]);clear hsf hF2 hfu HSC HW3;go_wp2_with fail
     refine HFU.out.mono ?_;rintro e w5 ⟨rfl,hk5⟩;have KW5:=KW4.trans (Kp.weak hk5);go_wp2_with fail
     go_ret;refine⟨3,rfl,KW5,?_⟩;rw[hF3.out];exact(by decide:(3:Int)≠0)
    |false=>
     rw[hfu] at HFU;have hF3:Hid (R.token [a,b] lay=some {R1 with cls:=R1.cls++[⟨a,b,lay⟩]}):=Qh (by rw[hF2.out,hsf,hfu,if_pos ⟨rfl,rfl⟩]);have hf40:R1.cls.length+R1.lits.length<40:=by
      unfold RS.full at hfu;simp at hfu;omega
     obtain⟨oa,oc,hv,_⟩:=HR4.out.cls.row (fun C hC=>by obtain⟨x,_,rfl⟩:=List.mem_map.1 hC;rfl);rw[List.length_map] at hv;have HV:=Qh hv;clear hsf hF2 hfu hv HSC HW3;go_wp2_with fail
     refine HFU.out.mono ?_;rintro e w5 ⟨rfl,hk5⟩;have KW5:=KW4.trans (Kp.weak hk5);have HR5:=Qh (HR4.out.kn hk5);have hbb5:=hk5.blk hbb4 (fun x=>x);have d0:w5.cell? ⟨b8,0,none⟩=some (.string a):=by rw[Qa hbb5];try rfl
     have d1:w5.cell? ⟨b8,1,none⟩=some (.string b):=by rw[Qa hbb5];try rfl
     have d2:w5.cell? ⟨b8,2,none⟩=some (.bool lay):=by rw[Qa hbb5];try rfl
     have HNB:Hid (∀g,A.vc.ownBlock=some g→g≠b8):=Qh (fun g hg=>Nat.ne_of_lt (HB8.out g hg));have HNP:Hid (b8≠p):=Qh (fun e=>by subst e;exact Qo hbb5 HR5.out.blk (by decide));clear hbb5 hbb4 hbb c0 c1 c2 hk5 HR4 hk4;go_wp2_with fail
     refine rgn (fun w'=>w'.cell? ⟨p,1,none⟩=some (.slice oa R1.cls.length oc)∧w'.cell? ⟨b8,0,none⟩=some (.string a)∧w'.cell? ⟨b8,1,none⟩=some (.string b)∧w'.cell? ⟨b8,2,none⟩=some (.bool lay)) (X:=[]) ⟨Qc ((Qb _ _).drew) ((Qa HR5.out.blk 1).trans (congrArg some HV.out)),Qc ((Qb _ _).drew) d0,Qc ((Qb _ _).drew) d1,Qc ((Qb _ _).drew) d2⟩ (fun hX hHeld=> ?_);refine tw 0 43 ?_;refine tw 1 44 ?_;refine tw 2 45 ?_;refine tw 3 46 ?_;refine tw 4 47 ?_;refine tk 5 48 ?_;refine tk 6 49 ?_;refine ro 7 (fun K hK=> ?_);obtain⟨wd,hwd⟩:∃zz,zz=w5.drew:=⟨_,rfl⟩;have KN0:Kn w5 wd:=by rw[hwd];exact(Qb _ _).drew
     have KW0:=KW5.trans (Kp.weak (S:=fun k=>B≤k) KN0);have RH0:=Qh (HR5.out.kn KN0);rw[←hwd] at hHeld⊢;clear hwd;go_simp;obtain⟨y1,hw1⟩:∃zz,zz=wd.alloc (.cells #[.string a,.string b,.bool lay] TCl):=⟨_,rfl⟩;have hk1:Kn wd y1:=by rw[hw1];exact(Qb _ _).alloc _
     obtain⟨ge,hge⟩:∃zz,zz=wd.heap.size:=⟨_,rfl⟩;have GE:y1.heap[ge]? =some (.cells #[.string a,.string b,.bool lay] TCl (0,0)):=by rw[hw1,hge];exact Qf _ _
     have RH1:=Qh (RH0.out.kn hk1);have KW1:=KW0.trans (Kp.weak hk1);have KN1:=KN0.trans hk1;rw[←hw1,←hge];refine hK.out _ _ (⟨Qc hk1 hHeld.1,Qc hk1 hHeld.2.1,Qc hk1 hHeld.2.2.1,Qc hk1 hHeld.2.2.2⟩) (fun hHeld=> ?_);clear hw1 hge hk1;clear hK K
     try simp only[PP]
     refine ro 8 (fun K hK=> ?_);have hownO:OwnK y1 B TCl 3 (.slice oa R1.cls.length oc) (R1.cls.map clL):=by have h1:=RH1.out.cls;rw[HV.out] at h1;exact h1
     refine Qm y1 (by rfl) _ _ 110 (by rfl) B TCl ie (.agg #[.string ByteArray.empty,.string ByteArray.empty,.bool false]) 3 40 Tryz.underlying110 HIE.out.1 HIE.out.2.1 HIE.out.2.2.1 HIE.out.2.2.2 (by rfl) (by decide) (.slice oa R1.cls.length oc) (R1.cls.map clL) (by rfl) hownO ge 1 (by rfl) #[.string a,.string b,.bool lay] TCl (0,0) GE (by rfl) (by simp[Value.oneCell']) (by rw[List.length_map];simp only[maxLen];omega) (by rw[List.length_map];omega) (by have:=RH1.out.pB.1;have:=RH1.out.lt;omega) ?_;intro v1 y2 hown hka hat;have hke:Kp (fun k=>B≤k) y1 y2:=hka.mono (fun i hi e=>(hownO.lt i e.symm).1);have KX:=KW1.trans hke;obtain⟨av1,cv1,hv1,_⟩:=hown.row (k:=3) (fun D hD=>by simp only[List.mem_append,List.mem_map,List.mem_singleton] at hD;(first|(rcases hD with⟨y,_,rfl⟩|rfl<;>rfl)|(exact rfl)))
     obtain⟨nl1,hv1⟩:∃n,v1= .slice av1 n cv1:=⟨_,hv1⟩;have HV1:=Qh hv1;have RHP:=Qh (RH1.out.putCls (c:=⟨a,b,lay⟩) hown (by rw[HV.out];exact hka));have hpb:y2.heap[p]? =some (.cells (rdC A) TGr (0,0)):=QB RH1.out.blk hka (QR hownO) (by decide);have xp1:=Qd hpb 1;have xq1:y2.cell? ⟨p,1,none⟩=some (.slice oa R1.cls.length oc):=by rw[Qa hpb];exact congrArg some HV.out
     refine hK.out _ _ (⟨xq1,Qi hka hHeld.2.1 (fun e=>HNB.out b8 (by rw[HV.out];exact e.symm) rfl),Qi hka hHeld.2.2.1 (fun e=>HNB.out b8 (by rw[HV.out];exact e.symm) rfl),Qi hka hHeld.2.2.2 (fun e=>HNB.out b8 (by rw[HV.out];exact e.symm) rfl)⟩) (fun hHeld=> ?_);clear hown hka hat hv1 hke hownO;clear hK K
     try simp only[PP]
     refine tw 9 52 ?_;refine tw 10 53 ?_;refine tw 11 54 ?_;refine re 12 (fun K hK=> ?_);rw[HV1.out];go_simp;rw[←HV1.out];obtain⟨w9,hw9⟩:∃zz,zz=y2.setCell ⟨p,1,none⟩ v1:=⟨_,rfl⟩;have hk9:K1 p y2 w9:=by rw[hw9];exact Qg _ _
     rw[←hw9] at RHP⊢;have KX9:=KX.trans (hk9.mono (fun i hi e=>by have:=RHP.out.pB.1;omega));clear xp1 xq1 hpb hw9 hk9 KX hHeld;refine hK.out _ _ ?_;clear hK K;go_wp2_with fail
     go_ret;refine⟨0,rfl,KX9,?_⟩;rw[hF3.out];refine⟨rfl,⟨HOK1.out.lits,by simp;omega,HOK1.out.sorts,HOK1.out.lines,HOK1.out.litz,fun x hx=> ?_,HOK1.out.words⟩,_,RHP.out,rfl,rfl⟩;rcases List.mem_append.1 hx with hx|hx
     ·exact HOK1.out.clz x hx
     ·simp at hx;subst hx;exact⟨hasz,hb⟩
 ·have i1:((l.length:Int)==2)=false:=by rw[beq_eq_false_iff_ne];omega
  have hF:Hid (R.token l lay=none):=Qh (R.token_not l lay h1);clear h1;go_enter Tryz.func107,Tryz.ntmps107;go_wp2_with fail
  go_ret;refine⟨4,rfl,Qb _ _,?_⟩;rw[hF.out];exact(by decide:(4:Int)≠0)
def StrBlk(w:World)(k:Nat):Prop:=∃cs T f,w.heap[k]? =some (.cells cs T f)∧(T=TS∨T=TGr)
abbrev KS(w w':World):Prop:=Kp (StrBlk w) w w'
theorem KS.trans{a b c:World}(h:KS a b)(k:KS b c):KS a c:=by
 refine Kp.trans' h k (fun i hi e=> ?_);by_cases hs:StrBlk a i
 ·exact hs
 ·obtain⟨cs,T,f,h1,h2⟩:=e;rw[h.block i hi hs] at h1;exact⟨cs,T,f,h1,h2⟩
theorem KS.row{w w':World}{T:TypeId}{B k n:Nat}{v:Value}{cs:List Value}(h:KS w w')(hr:w.ownsRow B T k v n cs)(h1:T≠TS)(h2:T≠TGr):w'.ownsRow B T k v n cs:=
 QH hr h (fun g hg e=>by
  obtain⟨c1,T',f,h3,h4⟩:=e;obtain⟨c2,h5⟩:=QW hr hg;rw[h3] at h5;injection h5 with h5;injection h5 with _ h5 _;rcases h4 with h4|h4
  ·exact h1 (h5▸h4)
  ·exact h2 (h5▸h4))
theorem KS.blk'{w w':World}{T:TypeId}{g:Nat}{cs:Array Value}{f:Nat×Nat}(h:KS w w')(hb:w.heap[g]? =some (.cells cs T f))(h1:T≠TS)(h2:T≠TGr):w'.heap[g]? =some (.cells cs T f):=
 h.blk hb (fun e=>by
  obtain⟨c1,T',f',h3,h4⟩:=e;rw[h3] at hb;injection hb with hb;injection hb with _ hb _;rcases h4 with h4|h4
  ·exact h1 (hb▸h4)
  ·exact h2 (hb▸h4))
theorem hasS_contains(ss:List ByteArray)(x:ByteArray):Lib.containsS ss x=YB ss x:=by
 cases h:YB ss x with
 |true=>exact(Lib.containsS_iff ss x).2 (hasS_iff.1 h)
 |false=>
  cases h2:Lib.containsS ss x with
  |false=>rfl
  |true=>exact absurd ((Lib.containsS_iff ss x).1 h2) (hasS_not.1 h)
theorem contains_c{w:World}{B:Nat}{v:Value}{ss:List ByteArray}(h:OwnT w B v ss)(x:ByteArray)(hl:ss.length≤1000000):
  Calls Tryz.prog 250 #[v,.string x] w fun e w'=>e= .returned (.bool (YB ss x))∧w'=w:=by
 obtain⟨a,c,rfl,_,_,h1⟩:=h.look;by_cases h0:ss=[]
 ·subst h0;exact Tryz.slices_Contains_string_empty a c x w
 ·obtain⟨g,rfl,_,_,hc⟩:=h1 h0;have:=Tryz.slices_Contains_string g 0 ss.length c ss x w (Nat.le_refl _) (by omega) (fun j hj=>by
   rw[Nat.zero_add,hc j hj,List.getD_eq_getElem?_getD,List.getElem?_eq_getElem hj];try rfl)
  rw[List.take_length,hasS_contains] at this;exact this
theorem index_c{w:World}{B:Nat}{v:Value}{ss:List ByteArray}(h:OwnT w B v ss)(x:ByteArray)(hl:ss.length≤1000000):
  Calls Tryz.prog 159 #[v,.string x] w fun e w'=>e= .returned (.int .i64 (Lib.idxOfS ss x))∧w'=w:=by
 obtain⟨a,c,rfl,_,_,h1⟩:=h.look;by_cases h0:ss=[]
 ·subst h0;exact Tryz.slices_Index_string_empty a c x w
 ·obtain⟨g,rfl,_,_,hc⟩:=h1 h0;have:=Tryz.slices_Index_string g 0 ss.length c ss x w (Nat.le_refl _) (by omega) (fun j hj=>by
   rw[Nat.zero_add,hc j hj,List.getD_eq_getElem?_getD,List.getElem?_eq_getElem hj];try rfl)
  rw[List.take_length] at this;exact this
def MetPost(B p:Nat)(o:Option RS)(A:RA)(w:World)(e:Ending)(w':World):Prop:=
 ∃n:Int,e= .returned (.int .i64 n)∧Kp (fun k=>B≤k) w w'∧KS w w'∧match o with|some R'=>n=0∧RSok R'∧∃v1,RdAt w' B p R' {A with vl:=v1} |none=>n≠0
theorem QX{B:Nat}{w w':World}(h:Kn w w'):Kp (fun k=>B≤k) w w':=h.weak
theorem met_c{B p:Nat}{R:RS}{A:RA}{w:World}(s:ByteArray)(h:RdAt w B p R A)(ok:RSok R)(hs:s.size≤20):
  Calls Tryz.prog 208 #[ptr p,.string s] w (MetPost B p (R.met s) A w):=by
 have hF:Hid (R.met s=if YB R.lits s=true then some R else if R.full=true then none else some {R with lits:=R.lits++[s]}):=Qh rfl;have HFU:=Qh (full_c h ok);obtain⟨q0,_⟩:=h.cells;obtain⟨oa,oc,hv,_⟩:=h.lits.look;have hown:=h.lits;rw[hv] at q0 hown;have HCO:=Qh (contains_c hown s (by have:=ok.lits;omega));have HOW:=Qh hown;have HV:=Qh hv;have H:=Qh h;have HOK:=Qh ok;cases hh:YB R.lits s with
 |true=>
  rw[hh] at HCO;have hF2:Hid (R.met s=some R):=Qh (by rw[hF.out,hh];try rfl);clear h ok hF hh hown hv;go_enter Tryz.func208,Tryz.ntmps208;go_wp2_with fail
  refine HCO.out.mono ?_;rintro e w' ⟨rfl,rfl⟩;go_wp2_with fail
  go_ret;refine⟨0,rfl,Qb _ _,Qb _ _,?_⟩;rw[hF2.out];exact⟨rfl,HOK.out,A.vl,H.out⟩
 |false=>
  rw[hh] at HCO;cases hfu:R.full with
  |true=>
   rw[hfu] at HFU;have hF2:Hid (R.met s=none):=Qh (by rw[hF.out,hh,hfu];try rfl);clear h ok hF hh hown hv hfu;go_enter Tryz.func208,Tryz.ntmps208;go_wp2_with fail
   refine HCO.out.mono ?_;rintro e w' ⟨rfl,rfl⟩;go_wp2_with fail
   refine HFU.out.mono ?_;rintro e w2 ⟨rfl,hk2⟩;go_wp2_with fail
   go_ret;refine⟨3,rfl,QX hk2,hk2.weak,?_⟩;rw[hF2.out];exact(by decide:(3:Int)≠0)
  |false=>
   rw[hfu] at HFU;have hF2:Hid (R.met s=some {R with lits:=R.lits++[s]}):=Qh (by rw[hF.out,hh,hfu];try rfl);have hf40:R.cls.length+R.lits.length<40:=by
    unfold RS.full at hfu;simp at hfu;omega
   obtain⟨ie,hi,hz0,hz1,hz2⟩:=info_parts info_str;have HIE:=Qh (And.intro hi (And.intro hz0 (And.intro hz1 hz2)));clear h ok hF hh hown hv hfu hi hz0 hz1 hz2;go_enter Tryz.func208,Tryz.ntmps208;go_wp2_with fail
   refine HCO.out.mono ?_;rintro e w' ⟨rfl,rfl⟩;go_wp2_with fail
   refine HFU.out.mono ?_;rintro e w2 ⟨rfl,hk2⟩;have p0:=Qc hk2 q0;have hkl:Kn w2 (w2.alloc (.cells #[.string s] TS)):=(Qb _ _).alloc _;have HO2:=Qh (ownT_k (QH (QH HOW.out hk2 (fun _ _ x=>x)) hkl (fun _ _ x=>x)));have HR2:=Qh ((H.out.kn hk2).kn hkl);have HBL:Hid ((w2.alloc (.cells #[.string s] TS)).heap[w2.heap.size]? =some (.cells #[.string s] TS (0,0))):=Qh (Qf _ _);clear q0;go_wp2_with (first|(at_builtin;go_must (refine QG _ rfl (.tmp 19) (.tmp 21) 128 rfl B TS ie (.string ByteArray.empty) 1 16 Tryz.underlying128 HIE.out.1 HIE.out.2.1 HIE.out.2.2.1 HIE.out.2.2.2 (by rfl) (by decide) (.slice oa R.lits.length oc) (R.lits.map (fun s=>[Value.string s])) rfl HO2.out w2.heap.size 1 rfl #[.string s] TS (0,0) HBL.out rfl (by simp[Value.oneCell']) (by rw[List.length_map];simp only[maxLen];omega) (by rw[List.length_map];omega) (by have h1:=HR2.out.pB.1;have h2:=HR2.out.lt;rw[size_alloc'] at h2⊢;omega) ?_;intro v1 w3 hown hka hat;obtain⟨av1,cv1,hv1,_⟩:=hown.row (k:=1) (fun D hD=>by simp only[List.mem_append,List.mem_map,List.mem_singleton] at hD;rcases hD with⟨y,_,rfl⟩|rfl<;>rfl);obtain⟨nl1,hv1⟩:∃n,v1= .slice av1 n cv1:=⟨_,hv1⟩;subst hv1;have RHP:=Qh (HR2.out.putLit (ownT_of hown) (by rw[HV.out];exact hka) (fun g hg e=>by rcases hat with h1|h1<;>rw[h1] at hg;exact HR2.out.ne2 g (by rw[HV.out];exact hg) e;injection hg with hg;have h3:=(HR2.out.sorts.lt _ e).2;rw[size_alloc'] at h3 hg;omega));have hke:Kp (fun k=>B≤k) (w2.alloc (.cells #[.string s] TS)) w3:=hka.mono (fun i hi e=>(HO2.out.lt i e.symm).1);have hks:KS (w2.alloc (.cells #[.string s] TS)) w3:=hka.mono (fun i hi e=>by obtain⟨cur,h1⟩:=QW HO2.out e.symm;exact⟨_,_,_,h1,.inl rfl⟩);have hpb:w3.heap[p]? =some (.cells (rdC A) TGr (0,0)):=QB HR2.out.blk hka (QR HO2.out) (by decide);have hP:w3.cell? ⟨p,0,none⟩=some (.slice oa R.lits.length oc):=(by rw[Qa hpb];exact congrArg some HV.out);have hPf:=Qd hpb 0;have HPB:=Qh hpb;clear hpb hown hka hat)))
   go_ret;refine⟨0,rfl,(((QX hk2).trans (QX hkl)).trans hke).trans ((Qg (p:=p) (o:=0) w3 _).mono (fun i hi e=>by have:=RHP.out.pB.1;omega)),KS.trans (KS.trans (KS.trans hk2.weak hkl.weak) hks) ((Qg (p:=p) (o:=0) w3 _).mono (fun i hi e=>by subst e;exact⟨_,_,_,HPB.out,.inr rfl⟩)),?_⟩;rw[hF2.out];have RHQ:=RHP.out;rw[show(List.map (fun s=>[Value.string s]) R.lits++[[Value.string s]]).length=R.lits.length+1 by simp] at RHQ;refine⟨rfl,⟨by simp;omega,HOK.out.cls,HOK.out.sorts,HOK.out.lines,fun y hy=> ?_,HOK.out.clz,HOK.out.words⟩,_,RHQ⟩;rcases List.mem_append.1 hy with h1|h1
   ·exact HOK.out.litz y h1
   ·simp at h1;subst h1;exact hs
theorem info_ln:(Tryz.prog.info? TLn).map (fun i=>(i.zero,i.size,i.bytes))=some (some (.agg #[.int .i64 0,.string ByteArray.empty,.string ByteArray.empty,.int .i64 0,.slice none 0 0,.bool false]),6,80):=by kernel_rfl
theorem mets_step{R R0:RS}{ws:List GW}{k:Nat}(h:R.mets (ws.drop k)=R0.mets ws)(hk:k<ws.length):
  R0.mets ws=if ws[k].lit.size=0 then R.mets (ws.drop (k+1)) else match R.met ws[k].lit with|some R1=>R1.mets (ws.drop (k+1))|none=>none:=by
 rw[←h,List.drop_eq_getElem_cons hk];try rfl
theorem mets_end{R R0:RS}{ws:List GW}(h:R.mets (ws.drop ws.length)=R0.mets ws):R0.mets ws=some R:=by
 rw[←h,List.drop_length];try rfl
theorem met_lines{R R':RS}{s:ByteArray}(h:R.met s=some R'):R'.lines=R.lines:=by
 unfold RS.met at h;split at h
 ·injection h with h;subst h;rfl
 ·split at h
  ·cases h
  ·injection h with h;subst h;rfl
abbrev lnV(x:GL)(v:Value):Value:= .agg #[.int .i64 x.number,.string x.sort,.string x.cons,.int .i64 x.level,v,.bool x.round]
theorem words_cells{w:World}{B:Nat}{v:Value}{ws:List GW}(h:OwnK w B TWd 4 v (ws.map wdL)):∃a c,v= .slice a ws.length c∧∀i (hi:i<ws.length),∃g,a=some ⟨g,0,none⟩∧
  w.cell? ⟨g,i*4,none⟩=some (.string ws[i].lit)∧w.cell? ⟨g,i*4+1,none⟩=some (.string ws[i].name)∧w.cell? ⟨g,i*4+2,none⟩=some (.int .i64 ws[i].level)∧w.cell? ⟨g,i*4+3,none⟩=some (.bool ws[i].sort):=by
 obtain⟨a,c,hv,_,_,h1⟩:=h.row (fun C hC=>by obtain⟨x,_,rfl⟩:=List.mem_map.1 hC;rfl);rw[List.length_map] at hv;refine⟨a,c,hv,fun i hi=> ?_⟩;obtain⟨g,ha,_,_,h2⟩:=h1 (fun e=>by rw[List.map_eq_nil_iff] at e;subst e;simp at hi);have h3:=h2 i (by simpa using hi);refine⟨g,ha,?_,?_,?_,?_⟩
 ·have:=(h3 0 (by omega)).1;rw[show 0+4*i+0=i*4 by omega] at this;rw[this];simp[wdL]
 ·have:=(h3 1 (by omega)).1;rw[show 0+4*i+1=i*4+1 by omega] at this;rw[this];simp[wdL]
 ·have:=(h3 2 (by omega)).1;rw[show 0+4*i+2=i*4+2 by omega] at this;rw[this];simp[wdL]
 ·have:=(h3 3 (by omega)).1;rw[show 0+4*i+3=i*4+3 by omega] at this;rw[this];simp[wdL]
theorem gadd_c{B p cw:Nat}{aw:Option Addr}{R:RS}{A:RA}{w:World}(x:GL)(h:RdAt w B p R A)(ok:RSok R)(hw:OwnK w B TWd 4 (.slice aw x.words.length cw) (x.words.map wdL))(hx:x.words.length≤20∧x.number≤2000000∧x.level≤9)(hz:∀y∈x.words,y.lit.size≤20):
  Calls Tryz.prog 157 #[ptr p,lnV x (.slice aw x.words.length cw)] w (ErrPost B p A (R.add x) w):=by
 have hF:Hid (R.add x=if 120≤R.lines.length then none else match R.mets x.words with|some R1=>some {R1 with lines:=R1.lines++[x]} |none=>none):=Qh rfl;obtain⟨_,_,_,_,_,_,_,_,_,q9⟩:=h.cells;obtain⟨oa,oc,hv,_⟩:=h.lines.row (fun C hC=>by obtain⟨i,hi,rfl⟩:=List.getElem_of_mem hC;simp[lnL]);rw[List.length_zipWith,h.wl,Nat.min_self] at hv;rw[hv] at q9;have hll:=ok.lines;have hpl:=h.lt;have HX:=Qh hx;have HZ:=Qh hz;by_cases h120:120≤R.lines.length
 ·have i1:(120:Int)≤R.lines.length:=by omega
  have hF2:Hid (R.add x=none):=Qh (by rw[hF.out,if_pos h120]);clear h ok hw hF h120 hv;go_enter Tryz.func157,Tryz.ntmps157;go_wp2_with fail
  go_ret;refine⟨3,rfl,(Qb _ _).alloc _,?_⟩;rw[hF2.out];exact(by decide:(3:Int)≠0)
 ·have i1:¬(120:Int)≤R.lines.length:=by omega
  have hF2:Hid (R.add x=match R.mets x.words with|some R1=>some {R1 with lines:=R1.lines++[x]} |none=>none):=Qh (by rw[hF.out,if_neg h120]);obtain⟨ie,hi,hz0,hz1,hz2⟩:=info_parts info_ln;have HIE:=Qh (And.intro hi (And.intro hz0 (And.intro hz1 hz2)));have H0:=Qh h;have HOK:=Qh ok;have HW:=Qh hw;obtain⟨bx,hbx⟩:∃z,z=w.heap.size:=⟨_,rfl⟩;obtain⟨w1,hw1⟩:∃z,z=w.alloc (.cells #[.int .i64 x.number,.string x.sort,.string x.cons,.int .i64 x.level,.slice aw x.words.length cw,.bool x.round] TLn):=⟨_,rfl⟩;have hk1:Kn w w1:=by rw[hw1];exact(Qb _ _).alloc _
  have hbb:w1.heap[bx]? =some (.cells #[.int .i64 x.number,.string x.sort,.string x.cons,.int .i64 x.level,.slice aw x.words.length cw,.bool x.round] TLn (0,0)):=by rw[hw1,hbx];exact Qf _ _
  have HBB:=Qh hbb;have p9:=Qc hk1 q9;have p4:w1.cell? ⟨bx,4,none⟩=some (.slice aw x.words.length cw):=by rw[Qa hbb];try rfl
  have HR1:=Qh (h.kn hk1);have HW1:=Qh (hw.kn hk1);have HNB:Hid (∀g,A.vn.ownBlock=some g→g≠bx):=Qh (fun g hg=>by rw[hbx];exact Nat.ne_of_lt (h.lines.lt g hg).2);have HNP:Hid (bx≠p):=Qh (fun e=>by have:=h.lt;omega);have hwl:=hx.1;have HE1:=Qh (And.intro hw1 hbx);clear h ok hw hF h120 hv hi hz0 hz1 hz2 hbb q9 hx hz hw1 hbx;go_enter Tryz.func157,Tryz.ntmps157;go_upto_region 1 with fail
  rw[←HE1.out.1,←HE1.out.2];go_wp2_with fail
  go_loopw [17] (fun s17 wr=>∃(k:Nat) (R1:RS) (v1:Value),s17= .int .i64 k∧k≤x.words.length∧Hid (R1.mets (x.words.drop k)=R.mets x.words)∧Hid (RdAt wr B p R1 {A with vl:=v1})∧Hid (RSok R1)∧Hid (R1.lines.length=R.lines.length)∧Hid (KS w1 wr)∧Hid (Kp (fun i=>B≤i) w wr)) (fun s17 _=>x.words.length-(intOf s17).toNat)
  case atStart=>exact⟨0,R,A.vl,rfl,Nat.zero_le _,Qh rfl,HR1,HOK,Qh rfl,Qh (Qb _ _),Qh (QX hk1)⟩
  case round=>
   obtain⟨k,R1,v1,rfl,hk,hme,hr1,hok1,hln,hks,hkw⟩:=hrel;by_cases hlt:k<x.words.length
   ·obtain⟨a2,c2,hve,hcs⟩:=words_cells (KS.row hks.out HW1.out (by decide) (by decide));injection hve with e1 e2 e3;subst e1;subst e3;clear e2;obtain⟨g,rfl,c0,c1,c2',c3⟩:=hcs k hlt;have hst:=mets_step hme.out hlt;have hlz:=HZ.out _ (List.getElem_mem hlt);obtain⟨y,hy⟩:∃y,y=x.words[k]:=⟨_,rfl⟩;rw[←hy] at c0 c1 c2' c3 hst hlz;have HST:=Qh hst;clear hy hst hcs;by_cases h0:y.lit.size=0
    ·have he:=isE_true h0;have HS2:Hid (R1.mets (x.words.drop (k+1))=R.mets x.words):=Qh (by rw[HST.out,if_pos h0]);clear h0 HST;go_wp2_with fail
     have hka:Kn wr (wr.alloc (.cells #[.string y.lit,.string y.name,.int .i64 y.level,.bool y.sort] TWd)):=(Qb _ _).alloc _;have HR2:=Qh (hr1.out.kn hka);have HK2:=Qh (KS.trans hks.out hka.weak);have HKW2:=Qh (hkw.out.trans (QX hka));go_roundw
     case rel=>exact⟨k+1,R1,v1,by go_num,by omega,HS2,HR2,hok1,hln,HK2,HKW2⟩
     case measure=>simp[intOf];omega
    ·have he:=Yw h0;have HS2:Hid (R.mets x.words=match R1.met y.lit with|some R2=>R2.mets (x.words.drop (k+1))|none=>none):=Qh (by rw[HST.out,if_neg h0]);have hka:Kn wr (wr.alloc (.cells #[.string y.lit,.string y.name,.int .i64 y.level,.bool y.sort] TWd)):=(Qb _ _).alloc _;have HMT:=Qh (met_c y.lit (hr1.out.kn hka) hok1.out hlz);have HK2:=Qh (KS.trans hks.out hka.weak);have HKW2:=Qh (hkw.out.trans (QX hka));clear h0 HST hka;go_wp2_with fail
     refine HMT.out.mono ?_;rintro e w3 ⟨n,rfl,hkb,hks3,hp⟩;have HK3:=Qh (KS.trans HK2.out hks3);have HKW3:=Qh (HKW2.out.trans hkb);cases hm:R1.met y.lit with
     |none=>
      rw[hm] at hp;dsimp only at hp;have hn2:(n==0)=false:=by rw[beq_eq_false_iff_ne];exact hp
      have hF3:Hid (R.add x=none):=Qh (by rw[hF2.out,HS2.out,hm]);have HN0:=Qh hp;clear hm hp;go_wp2_with fail
      go_ret;refine⟨n,rfl,HKW3.out,?_⟩;rw[hF3.out];exact HN0.out
     |some R2=>
      rw[hm] at hp;dsimp only at hp;obtain⟨rfl,hok2,v2,hr2⟩:=hp;have HS3:Hid (R2.mets (x.words.drop (k+1))=R.mets x.words):=Qh (by rw[HS2.out,hm]);have hln2:Hid (R2.lines.length=R.lines.length):=Qh (by rw[met_lines hm];exact hln.out);have HR3:=Qh hr2;have HOK3:=Qh hok2;clear hm hr2 hok2;go_wp2_with fail
      go_roundw
      case rel=>exact⟨k+1,R2,v2,by go_num,by omega,HS3,HR3,HOK3,hln2,HK3,HKW3⟩
      case measure=>simp[intOf];omega
   ·obtain rfl:k=x.words.length:=by omega
    have hF3:Hid (R.add x=some {R1 with lines:=R1.lines++[x]}):=Qh (by rw[hF2.out,mets_end hme.out]);obtain⟨A1,hA1⟩:∃A1:RA,A1= {A with vl:=v1} :=⟨_,rfl⟩;have hvn:A1.vn=A.vn:=by rw[hA1]
    have hvr1:Hid (A1.vr=A.vr):=Qh (by rw[hA1]);have hsc1:Hid (A1.sc=A.sc):=Qh (by rw[hA1]);rw[←hA1] at hr1;obtain⟨ob,oc2,hv2,_⟩:=hr1.out.lines.row (fun C hC=>by obtain⟨i,hi,rfl⟩:=List.getElem_of_mem hC;simp[lnL]);rw[List.length_zipWith,hr1.out.wl,Nat.min_self] at hv2;have HV:=Qh hv2;have hbb:=KS.blk' hks.out HBB.out (by decide) (by decide);have d0:wr.cell? ⟨bx,0,none⟩=some (.int .i64 x.number):=by rw[Qa hbb];try rfl
    have d1:wr.cell? ⟨bx,1,none⟩=some (.string x.sort):=by rw[Qa hbb];try rfl
    have d2:wr.cell? ⟨bx,2,none⟩=some (.string x.cons):=by rw[Qa hbb];try rfl
    have d3:wr.cell? ⟨bx,3,none⟩=some (.int .i64 x.level):=by rw[Qa hbb];try rfl
    have d4:wr.cell? ⟨bx,4,none⟩=some (.slice aw x.words.length cw):=by rw[Qa hbb];try rfl
    have d5:wr.cell? ⟨bx,5,none⟩=some (.bool x.round):=by rw[Qa hbb];try rfl
    have HNB2:Hid (∀g,A1.vn.ownBlock=some g→g≠bx):=Qh (by rw[hvn];exact HNB.out);have HWR:=Qh (KS.row hks.out HW1.out (by decide) (by decide));have hl120:R1.lines.length<120:=by have:=hln.out;omega
    have KW:=hkw.out;clear hA1 hvn hv2 hbb hme hks;go_wp2_with fail
    refine rgn (fun w'=>w'.cell? ⟨p,9,none⟩=some (.slice ob R1.lines.length oc2)∧w'.cell? ⟨bx,0,none⟩=some (.int .i64 x.number)∧w'.cell? ⟨bx,1,none⟩=some (.string x.sort)∧w'.cell? ⟨bx,2,none⟩=some (.string x.cons)∧w'.cell? ⟨bx,3,none⟩=some (.int .i64 x.level)∧w'.cell? ⟨bx,4,none⟩=some (.slice aw x.words.length cw)∧w'.cell? ⟨bx,5,none⟩=some (.bool x.round)) (X:=[]) ⟨Qc ((Qb _ _).drew) ((Qa hr1.out.blk 9).trans (congrArg some HV.out)),Qc ((Qb _ _).drew) d0,Qc ((Qb _ _).drew) d1,Qc ((Qb _ _).drew) d2,Qc ((Qb _ _).drew) d3,Qc ((Qb _ _).drew) d4,Qc ((Qb _ _).drew) d5⟩ (fun hX hHeld=> ?_);refine tw 0 32 ?_;refine tw 1 33 ?_;refine tw 2 34 ?_;refine tw 3 35 ?_;refine tk 4 36 ?_;refine tk 5 37 ?_;refine ro 6 (fun K hK=> ?_);obtain⟨wd,hwd⟩:∃zz,zz=wr.drew:=⟨_,rfl⟩;have KN0:Kn wr wd:=by rw[hwd];exact(Qb _ _).drew
    have KW0:=KW.trans (Kp.weak (S:=fun k=>B≤k) KN0);have RH0:=Qh (hr1.out.kn KN0);rw[←hwd] at hHeld⊢;clear hwd;go_simp;obtain⟨y1,hw1⟩:∃zz,zz=wd.alloc (.cells #[.int .i64 x.number,.string x.sort,.string x.cons,.int .i64 x.level,.slice aw x.words.length cw,.bool x.round] TLn):=⟨_,rfl⟩;have hk1:Kn wd y1:=by rw[hw1];exact(Qb _ _).alloc _
    obtain⟨ge,hge⟩:∃zz,zz=wd.heap.size:=⟨_,rfl⟩;have GE:y1.heap[ge]? =some (.cells #[.int .i64 x.number,.string x.sort,.string x.cons,.int .i64 x.level,.slice aw x.words.length cw,.bool x.round] TLn (0,0)):=by rw[hw1,hge];exact Qf _ _
    have RH1:=Qh (RH0.out.kn hk1);have KW1:=KW0.trans (Kp.weak hk1);have KN1:=KN0.trans hk1;rw[←hw1,←hge];refine hK.out _ _ (⟨Qc hk1 hHeld.1,Qc hk1 hHeld.2.1,Qc hk1 hHeld.2.2.1,Qc hk1 hHeld.2.2.2.1,Qc hk1 hHeld.2.2.2.2.1,Qc hk1 hHeld.2.2.2.2.2.1,Qc hk1 hHeld.2.2.2.2.2.2⟩) (fun hHeld=> ?_);clear hw1 hge hk1;clear hK K
    try simp only[PP]
    refine ro 7 (fun K hK=> ?_);have hownO:OwnK y1 B TLn 6 (.slice ob R1.lines.length oc2) (List.zipWith lnL R1.lines A1.vws):=by have h1:=RH1.out.lines;rw[HV.out] at h1;exact h1
    refine Qm y1 (by rfl) _ _ 132 (by rfl) B TLn ie (.agg #[.int .i64 0,.string ByteArray.empty,.string ByteArray.empty,.int .i64 0,.slice none 0 0,.bool false]) 6 80 Tryz.underlying132 HIE.out.1 HIE.out.2.1 HIE.out.2.2.1 HIE.out.2.2.2 (by rfl) (by decide) (.slice ob R1.lines.length oc2) (List.zipWith lnL R1.lines A1.vws) (by rfl) hownO ge 1 (by rfl) #[.int .i64 x.number,.string x.sort,.string x.cons,.int .i64 x.level,.slice aw x.words.length cw,.bool x.round] TLn (0,0) GE (by rfl) (by simp[Value.oneCell']) (by rw[List.length_zipWith,RH1.out.wl,Nat.min_self];simp only[maxLen];omega) (by rw[List.length_zipWith,RH1.out.wl,Nat.min_self];omega) (by have:=RH1.out.pB.1;have:=RH1.out.lt;omega) ?_;intro v1 y2 hown hka hat;have hke:Kp (fun k=>B≤k) y1 y2:=hka.mono (fun i hi e=>(hownO.lt i e.symm).1);have KX:=KW1.trans hke;obtain⟨av1,cv1,hv1,_⟩:=hown.row (k:=6) (fun D hD=>by simp only[List.mem_append,List.mem_map,List.mem_singleton] at hD;(first|(rcases hD with⟨y,_,rfl⟩|rfl<;>rfl)|(exact(by rcases hD with hD|rfl;obtain⟨i,hi,rfl⟩:=List.getElem_of_mem hD;simp[lnL];rfl))))
    obtain⟨nl1,hv1⟩:∃n,v1= .slice av1 n cv1:=⟨_,hv1⟩;have HV1:=Qh hv1;have HWD:=QH HWR.out KN1 (fun _ _ x=>x);have RHP:=Qh (RH1.out.putLine (x:=x) HWD hown (by rw[HV.out];exact hka));have hpb:y2.heap[p]? =some (.cells (rdC A1) TGr (0,0)):=QB RH1.out.blk hka (QR hownO) (by decide);have xp1:=Qd hpb 9;have xq1:y2.cell? ⟨p,9,none⟩=some (.slice ob R1.lines.length oc2):=by rw[Qa hpb];exact congrArg some HV.out
    refine hK.out _ _ (⟨xq1,Qi hka hHeld.2.1 (fun e=>HNB2.out bx (by rw[HV.out];exact e.symm) rfl),Qi hka hHeld.2.2.1 (fun e=>HNB2.out bx (by rw[HV.out];exact e.symm) rfl),Qi hka hHeld.2.2.2.1 (fun e=>HNB2.out bx (by rw[HV.out];exact e.symm) rfl),Qi hka hHeld.2.2.2.2.1 (fun e=>HNB2.out bx (by rw[HV.out];exact e.symm) rfl),Qi hka hHeld.2.2.2.2.2.1 (fun e=>HNB2.out bx (by rw[HV.out];exact e.symm) rfl),Qi hka hHeld.2.2.2.2.2.2 (fun e=>HNB2.out bx (by rw[HV.out];exact e.symm) rfl)⟩) (fun hHeld=> ?_);clear hown hka hat hv1 hke hownO;clear hK K
    try simp only[PP]
    refine tw 8 40 ?_;refine tw 9 41 ?_;refine re 10 (fun K hK=> ?_);rw[HV1.out];go_simp;rw[←HV1.out];obtain⟨w9,hw9⟩:∃zz,zz=y2.setCell ⟨p,9,none⟩ v1:=⟨_,rfl⟩;have hk9:K1 p y2 w9:=by rw[hw9];exact Qg _ _
    rw[←hw9] at RHP⊢;have KX9:=KX.trans (hk9.mono (fun i hi e=>by have:=RHP.out.pB.1;omega));clear xp1 xq1 hpb hw9 hk9 KX hHeld;refine hK.out _ _ ?_;clear hK K;go_wp2_with fail
    go_ret;refine⟨0,rfl,KX9,?_⟩;rw[hF3.out];refine⟨rfl,⟨hok1.out.lits,hok1.out.cls,hok1.out.sorts,by simp;omega,hok1.out.litz,hok1.out.clz,fun y hy=> ?_⟩,_,RHP.out,hvr1.out,hsc1.out⟩;rcases List.mem_append.1 hy with hy|hy
    ·exact hok1.out.words y hy
    ·simp at hy;subst hy;exact HX.out
def litN(ws:List GW)(k:Nat):Nat:=(ws.take k).countP (fun x=>decide (x.lit.size=0))
def sortN(ws:List GW)(k:Nat):Nat:=(ws.take k).countP (fun x=>x.sort)
theorem litN_succ{ws:List GW}{k:Nat}(h:k<ws.length):litN ws (k+1)=litN ws k+if ws[k].lit.size=0 then 1 else 0:=by
 unfold litN;rw[List.take_succ_eq_append_getElem h,List.countP_append,List.countP_singleton];simp
theorem sortN_succ{ws:List GW}{k:Nat}(h:k<ws.length):sortN ws (k+1)=sortN ws k+if ws[k].sort=true then 1 else 0:=by
 unfold sortN;rw[List.take_succ_eq_append_getElem h,List.countP_append,List.countP_singleton]
theorem litN_le(ws:List GW)(k:Nat):litN ws k≤k:=Nat.le_trans List.countP_le_length (by simp;omega)
theorem sortN_le(ws:List GW)(k:Nat):sortN ws k≤k:=Nat.le_trans List.countP_le_length (by simp;omega)
theorem alone_c{B cw:Nat}{aw:Option Addr}{w:World}(ws:List GW)(hw:OwnK w B TWd 4 (.slice aw ws.length cw) (ws.map wdL))(hl:ws.length≤1000):
  Calls Tryz.prog 156 #[.slice aw ws.length cw] w fun e w'=>e= .returned (.bool (Zf ws))∧Kn w w':=by
 have HW:=Qh hw;have hF:Hid (Zf ws=(decide (litN ws ws.length=1)&&decide (sortN ws ws.length=1))):=Qh (by unfold Zf litN sortN;rw[List.take_length]);clear hw;go_enter Tryz.func156,Tryz.ntmps156;go_wp2_with fail
 go_loopw [3,4,9] (fun s3 s4 s9 wr=>∃k:Nat,s9= .int .i64 k∧s3= .int .i64 (litN ws k)∧s4= .int .i64 (sortN ws k)∧k≤ws.length∧Kn w wr) (fun _ _ s9 _=>ws.length-(intOf s9).toNat)
 case atStart=>exact⟨0,rfl,rfl,rfl,Nat.zero_le _,Qb _ _⟩
 case round=>
  obtain⟨k,rfl,rfl,rfl,hk,hkn⟩:=hrel;by_cases hlt:k<ws.length
  ·obtain⟨a2,c2,hve,hcs⟩:=words_cells (HW.out.kn hkn);injection hve with e1 e2 e3;subst e1;subst e3;clear e2;obtain⟨g,rfl,c0,c1,c2',c3⟩:=hcs k hlt;have HLS:=Qh (litN_succ hlt);have HSS:=Qh (sortN_succ hlt);have hl1:=litN_le ws k;have hs1:=sortN_le ws k;obtain⟨y,hy⟩:∃y,y=ws[k]:=⟨_,rfl⟩;rw[←hy] at c0 c1 c2' c3 HLS HSS;obtain⟨n1,hn1⟩:∃z,z=litN ws k:=⟨_,rfl⟩;obtain⟨n2,hn2⟩:∃z,z=sortN ws k:=⟨_,rfl⟩;rw[←hn1] at HLS hl1⊢;rw[←hn2] at HSS hs1⊢;have hka:Kn w (wr.alloc (.cells #[.string y.lit,.string y.name,.int .i64 y.level,.bool y.sort] TWd)):=hkn.alloc _;have HKA:=Qh hka;clear hy hcs hn1 hn2 hka;by_cases h0:y.lit.size=0
   ·have he:=isE_true h0;have HL2:Hid (litN ws (k+1)=n1+1):=Qh (by rw[HLS.out,if_pos h0]);clear h0;cases hso:y.sort with
    |true=>
     rw[hso] at c3;have HS2:Hid (sortN ws (k+1)=n2+1):=Qh (by rw[HSS.out,if_pos hso]);rw[hso] at HKA;clear hso;go_wp2_with fail
     go_roundw
     case rel=>exact⟨k+1,by go_num,by rw[HL2.out];go_num,by rw[HS2.out];go_num,by omega,HKA.out⟩
     case measure=>simp[intOf];omega
    |false=>
     rw[hso] at c3;have HS2:Hid (sortN ws (k+1)=n2):=Qh (by rw[HSS.out,if_neg (by rw[hso];simp)];rfl);rw[hso] at HKA;clear hso;go_wp2_with fail
     go_roundw
     case rel=>exact⟨k+1,by go_num,by rw[HL2.out];go_num,by rw[HS2.out],by omega,HKA.out⟩
     case measure=>simp[intOf];omega
   ·have he:=Yw h0;have HL2:Hid (litN ws (k+1)=n1):=Qh (by rw[HLS.out,if_neg h0];try rfl);clear h0;cases hso:y.sort with
    |true=>
     rw[hso] at c3;have HS2:Hid (sortN ws (k+1)=n2+1):=Qh (by rw[HSS.out,if_pos hso]);rw[hso] at HKA;clear hso;go_wp2_with fail
     go_roundw
     case rel=>exact⟨k+1,by go_num,by rw[HL2.out],by rw[HS2.out];go_num,by omega,HKA.out⟩
     case measure=>simp[intOf];omega
    |false=>
     rw[hso] at c3;have HS2:Hid (sortN ws (k+1)=n2):=Qh (by rw[HSS.out,if_neg (by rw[hso];simp)];rfl);rw[hso] at HKA;clear hso;go_wp2_with fail
     go_roundw
     case rel=>exact⟨k+1,by go_num,by rw[HL2.out],by rw[HS2.out],by omega,HKA.out⟩
     case measure=>simp[intOf];omega
  ·obtain rfl:k=ws.length:=by omega
   obtain⟨n1,hn1⟩:∃z,z=litN ws ws.length:=⟨_,rfl⟩;obtain⟨n2,hn2⟩:∃z,z=sortN ws ws.length:=⟨_,rfl⟩;rw[←hn1,←hn2] at hF;rw[←hn1,←hn2];clear hn1 hn2;by_cases h1:n1=1
   ·have i1:((n1:Int)==1)=true:=by simp[h1]
    have HF2:Hid (Zf ws=((n2:Int)==1)):=Qh (by rw[hF.out];simp[h1];rw[Bool.eq_iff_iff];simp;omega);clear h1;go_wp2_with fail
    go_ret;exact⟨by rw[HF2.out];try rfl,hkn⟩
   ·have i1:((n1:Int)==1)=false:=by rw[beq_eq_false_iff_ne];omega
    have HF2:Hid (Zf ws=false):=Qh (by rw[hF.out];simp[h1]);clear h1;go_wp2_with fail
    go_ret;exact⟨by rw[HF2.out];try rfl,hkn⟩
end Go.Proofs.YtiehgcfckhepaaaGreatDoor
