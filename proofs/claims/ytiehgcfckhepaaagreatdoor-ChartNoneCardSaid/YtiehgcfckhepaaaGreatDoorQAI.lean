/-
  Texts of this claim, laid together: GRule, GBrack, GTake, GTake2, GIdx, GPart2, GLkMem. Conditions: none.
-/
import Derived.Test.YtiehgcfckhepaaaGreatDoorQAH
set_option linter.unusedVariables false
set_option linter.unusedSimpArgs false
set_option maxRecDepth 100000
set_option maxHeartbeats 16000000
namespace Go.Proofs.YtiehgcfckhepaaaGreatDoor
open Go.RowKit Go.Maps
theorem info_wd:(Tryz.prog.info? TWd).map (fun i=>(i.zero,i.size,i.bytes))=some (some (.agg #[.string ByteArray.empty,.string ByteArray.empty,.int .i64 0,.bool false]),4,48):=by kernel_rfl
theorem blOk_le{s:ByteArray}(h:blOk s=true):s.size≤20∧¬s.size=0:=by
 unfold blOk at h;simp only[Bool.and_eq_true,decide_eq_true_eq] at h;exact⟨h.2.2,h.2.1⟩
theorem partsF_step{ps:List ByteArray}{ws:List GW}{k:Nat}(h:Qz ps=match Qz (ps.drop k) with|some r=>some (ws++r)|none=>none)(hk:k<ps.length):
  Qz ps=match partF ps[k] with|some x=>(match Qz (ps.drop (k+1)) with|some r=>some ((ws++[x])++r)|none=>none)|none=>none:=by
 rw[h,List.drop_eq_getElem_cons hk,Qz];cases partF ps[k] with
 |none=>rfl
 |some x=>
  dsimp only;cases Qz (ps.drop (k+1)) with
  |none=>rfl
  |some r=>simp
theorem partsF_end{ps:List ByteArray}{ws:List GW}(h:Qz ps=match Qz (ps.drop ps.length) with|some r=>some (ws++r)|none=>none):Qz ps=some ws:=by
 rw[h,List.drop_length];simp[Qz]
theorem partF_lit{s:ByteArray}{x:GW}(h:partF s=some x):x.lit.size≤20:=by
 unfold partF at h;split at h
 ·split at h
  ·cases h
  ·injection h with h;subst h;show(litF s).size≤20;unfold litF;split
   ·rename_i h2;exact h2.2
   ·decide
 ·split at h
  ·split at h
   ·split at h
    ·injection h with h;subst h;exact(by decide:emptyB.size≤20)
    ·cases h
   ·cases h
  ·split at h
   ·injection h with h;subst h;exact(by decide:emptyB.size≤20)
   ·cases h
theorem RS.rule_short(R:RS)(n:Nat)(l:List ByteArray)(h:l.length<4):R.rule n l=none:=by
 rcases l with _|⟨a,_|⟨b,_|⟨c,_|⟨d,l⟩⟩⟩⟩
 ·rfl
 ·rfl
 ·rfl
 ·rfl
 ·simp at h;omega
theorem RS.rule_eq(R:RS)(n:Nat)(so lv c e:ByteArray)(ps:List ByteArray):R.rule n (so::lv::c::e::ps)=if 12<ps.length∨e≠eqB∨YG so=false then none else
  match digF lv with
  |none=>none
  |some lv=>
   if c≠dashB∧blOk c=false then none else
   match Qz ps with
   |none=>none
   |some ws=>if c=dashB then(if Zf ws=true then R.ruleEnd n so emptyB lv ws else none) else R.ruleEnd n so c lv ws:=rfl
theorem YJ(a:ByteArray)(l:List UInt8):(a.toList==l)=decide (a=⟨l.toArray⟩):=by
 rw[Lib.toList_data];by_cases h:a=⟨l.toArray⟩
 ·subst h;simp
 ·rw[decide_eq_false h,beq_eq_false_iff_ne];intro e;exact h (by
   cases a with|mk a=>simp only at e;subst e;rfl)
theorem grule_c{B p bl c0 num:Nat}{R:RS}{A:RA}{w:World}(l:List ByteArray)(h:RdAt w B p R A)(ok:RSok R)(hm:MaxLenAt w)(hl:WL w bl 1 l)(ho:Off A p bl)(hll:l.length≤2000000)(hcap:l.length≤c0)(hsz:∀s∈l,s.size≤1000000)(hnum:num≤2000000):
  Calls Tryz.prog 109 #[ptr p,.int .i64 num,.slice (some ⟨bl,1,none⟩) l.length c0] w (ErrPost B p A (R.rule num l) w):=by
 by_cases h4:l.length<4
 ·have i4:(l.length:Int)<4:=by omega
  have hF:Hid (R.rule num l=none):=Qh (R.rule_short num l h4);clear h4;go_enter Tryz.func109,Tryz.ntmps109;go_wp2_with fail
  go_ret;refine⟨4,rfl,Qb _ _,?_⟩;rw[hF.out];exact(by decide:(4:Int)≠0)
 ·obtain⟨so,lv,c,e,ps,rfl⟩:∃so lv c e ps,l=so::lv::c::e::ps:=by
   rcases l with _|⟨a,_|⟨b,_|⟨c,_|⟨d,l⟩⟩⟩⟩
   ·simp at h4
   ·simp at h4
   ·simp at h4
   ·simp at h4
   ·exact⟨_,_,_,_,_,rfl⟩
  have hF:Hid (R.rule num (so::lv::c::e::ps)=_):=Qh (R.rule_eq num so lv c e ps);obtain⟨n,hn⟩:∃n,n=(so::lv::c::e::ps).length:=⟨_,rfl⟩;have hnp:n=ps.length+4:=by rw[hn];try rfl
  have x1:w.cell? ⟨bl,1,none⟩=some (.string so):=hl 0 (by simp);have x2:w.cell? ⟨bl,2,none⟩=some (.string lv):=hl 1 (by simp);have x3:w.cell? ⟨bl,3,none⟩=some (.string c):=hl 2 (by simp);have x4:w.cell? ⟨bl,4,none⟩=some (.string e):=hl 3 (by simp);have hps:WL w bl 5 ps:=fun i hi=>by
   have:=hl (i+4) (by simp;omega);rw[show 1+(i+4)=5+i by omega] at this;simpa using this
  rw[←hn] at hll hcap⊢;have z1:=hsz so (by simp);have z2:=hsz lv (by simp);have z3:=hsz c (by simp);have z4:=hsz e (by simp);have HZP:Hid (∀s∈ps,s.size≤1000000):=Qh (fun s hs=>hsz s (by simp[hs]));have HPS:=Qh hps;have HNP:=Qh hnp;have H:=Qh h;have HOK:=Qh ok;have HM:=Qh hm;have HO:=Qh ho;have hpl:=h.lt;have hbl:=World.block_lt_of_cell? w _ x1;have HGN:=Qh (fun W=>gNamed_c so W (by omega));have j4:¬(n:Int)<4:=by omega
  clear h ok hm hl ho hsz hn hps;by_cases h12:12<ps.length
  ·have i12:(12:Int)<(n:Int)-4:=by omega
   have hF2:Hid (R.rule num (so::lv::c::e::ps)=none):=Qh (by rw[hF.out,if_pos (.inl h12)]);clear hF h12 hnp;go_enter Tryz.func109,Tryz.ntmps109;go_wp2_with fail
   go_ret;refine⟨4,rfl,Qb _ _,?_⟩;rw[hF2.out];exact(by decide:(4:Int)≠0)
  ·have i12:¬(12:Int)<(n:Int)-4:=by omega
   have k3:(3:Int)<n:=by omega
   by_cases he:e=eqB
   ·have ie:(e.toList==[61])=true:=by rw[YJ];exact decide_eq_true he
    cases hg:YG so with
    |false=>
     rw[hg] at HGN;have hF2:Hid (R.rule num (so::lv::c::e::ps)=none):=Qh (by rw[hF.out,if_pos (.inr (.inr hg))]);clear hF h12 hnp he;go_enter Tryz.func109,Tryz.ntmps109;go_wp2_with fail
     refine(HGN.out _).mono ?_;rintro e w' ⟨rfl,rfl⟩;go_wp2_with fail
     go_ret;refine⟨4,rfl,Qb _ _,?_⟩;rw[hF2.out];exact(by decide:(4:Int)≠0)
    |true=>
     rw[hg] at HGN;have hF2:Hid (R.rule num (so::lv::c::e::ps)=match digF lv with
      |none=>none
      |some lv=>if c≠dashB∧blOk c=false then none else
       match Qz ps with
       |none=>none
       |some ws=>if c=dashB then(if Zf ws=true then R.ruleEnd num so emptyB lv ws else none) else R.ruleEnd num so c lv ws):=Qh (by rw[hF.out,if_neg (by rintro(h1|h1|h1);exact h12 h1;exact h1 he;rw[hg] at h1;cases h1)])
     have HDG:=Qh (fun W=>gdigit_c lv W (by omega));have HH12:=Qh h12;obtain⟨iw,hi,hz0,hz1,hz2⟩:=info_parts info_wd;have HIW:=Qh (And.intro hi (And.intro hz0 (And.intro hz1 hz2)));clear hi hz0 hz1 hz2;have k2:(2:Int)<n:=by omega
     have k1:(1:Int)<n:=by omega
     have k0:(0:Int)<n:=by omega
     have kn0:0<n:=by omega
     clear hF he hnp h12;go_enter Tryz.func109,Tryz.ntmps109;go_wp2_with fail
     refine(HGN.out _).mono ?_;rintro e9 w' ⟨rfl,rfl⟩;go_upto_region 3 with fail
     refine wp_region_held_drew (S:=fun w'=>w'.cell? ⟨bl,1,none⟩=some (.string so)∧w'.cell? ⟨bl,3,none⟩=some (.string c)) (by kernel_rfl) ⟨Qc ((Qb _ _).drew) x1,Qc ((Qb _ _).drew) x3⟩ (fun hHeld=> ?_);have hH0:=hHeld;refine TW 0 36 ?_;refine TW 1 37 ?_;refine TW 2 38 ?_;refine TH 3 39 ?_;refine TW 4 40 ?_;refine TW 5 41 ?_;refine TH 6 42 ?_;refine TW 7 43 ?_;refine RH 8 (fun K hK=> ?_);go_simp;refine hK.out _ _ ⟨Qc ((Qb _ _).alloc _) hHeld.1,Qc ((Qb _ _).alloc _) hHeld.2⟩ (fun hHeld=> ?_);clear hK K
     try simp only[PP]
     refine RH 9 (fun K hK=> ?_);go_simp;refine hK.out _ _ ⟨Qc ((Qb _ _).alloc _) hH0.1,Qc ((Qb _ _).alloc _) hH0.2⟩ (fun hHeld=> ?_);clear hK K
     try simp only[PP]
     refine RD ?_;clear hHeld hH0;obtain⟨w2,hw2⟩:∃z,z=(w.alloc (.cells #[.int .i64 num,.string so,.string c,.int .i64 0,.slice none 0 0,.bool false] TLn)).drew:=⟨_,rfl⟩;have hk2:Kn w w2:=by rw[hw2];exact((Qb _ _).alloc _).drew
     obtain⟨b7,hb7⟩:∃z,z=w.heap.size:=⟨_,rfl⟩;have hbb:w2.heap[b7]? =some (.cells #[.int .i64 num,.string so,.string c,.int .i64 0,.slice none 0 0,.bool false] TLn (0,0)):=by rw[hw2,hb7];exact Qf w _
     rw[←hw2,←hb7];have y2:=Qc hk2 x2;have y3:=Qc hk2 x3;have d3:w2.cell? ⟨b7,3,none⟩=some (.int .i64 0):=by rw[Qa hbb];try rfl
     have f3:=Qd hbb 3;have hbl7:bl<b7:=by omega
     have HBB:=Qh hbb;have hb7w:w.heap.size≤b7:=by omega
     clear hw2 hb7 hbb;cases hd:digF lv with
     |none=>
      have hF3:Hid (R.rule num (so::lv::c::e::ps)=none):=Qh (by rw[hF2.out,hd]);rw[hd] at HDG;clear hF2 hd;go_wp2_with fail
      refine(HDG.out _).mono ?_;rintro e9 w3 ⟨rfl,rfl⟩;unfold digV;go_wp2_with fail
      go_ret;have hk9:K1 b7 w2 (w2.setCell ⟨b7,3,none⟩ (.int .i64 0)):=Qg _ _;refine⟨4,rfl,(QX hk2).trans (hk9.mono (fun i hi e=>by have:=H.out.pB.1;have:=H.out.lt;omega)),?_⟩;rw[hF3.out];exact(by decide:(4:Int)≠0)
     |some lvl=>
      have hlv9:lvl≤9:=by
       unfold digF at hd;split at hd
       ·injection hd with hd;omega
       ·cases hd
      have hF3:Hid (R.rule num (so::lv::c::e::ps)=if c≠dashB∧blOk c=false then none else
       match Qz ps with
       |none=>none
       |some ws=>if c=dashB then(if Zf ws=true then R.ruleEnd num so emptyB lvl ws else none) else R.ruleEnd num so c lvl ws):=Qh (by rw[hF2.out,hd])
      rw[hd] at HDG;clear hF2 hd;go_wp2_with fail
      refine(HDG.out _).mono ?_;rintro e9 w3 ⟨rfl,rfl⟩;unfold digV;go_upto_region 6 with fail
      obtain⟨w3,hw3⟩:∃z,z=w2.setCell ⟨b7,3,none⟩ (.int .i64 lvl):=⟨_,rfl⟩;have hbb3:=Qj HBB.out 3 (.int .i64 lvl);rw[←hw3] at hbb3⊢;have hk93:K1 b7 w2 w3:=by rw[hw3];exact Qg _ _
      have hk3:Kn w w3:=hk2.trans' hk93 (fun i hi e=>by omega);have u3:=Qc hk3 x3;have HPS3:=Qh (HPS.out.kn hk3);have HB3:Hid (w3.heap[b7]? =some (.cells #[.int .i64 num,.string so,.string c,.int .i64 lvl,.slice none 0 0,.bool false] TLn (0,0))):=Qh hbb3;clear hw3 hbb3 hk93 y2 y3 d3 f3 HBB hk2;by_cases hc:c=dashB
      ·have ic:(c.toList==[45])=true:=by rw[YJ];exact decide_eq_true hc
       have hF4:Hid (R.rule num (so::lv::c::e::ps)=match Qz ps with
        |none=>none
        |some ws=>if Zf ws=true then R.ruleEnd num so emptyB lvl ws else none):=Qh (by rw[hF3.out,if_neg (fun h=>h.1 hc)];simp[hc])
       clear hF3 hc;by_cases h40:c0=4
       ·have hp0:ps.length=0:=by have:=HNP.out;omega
        go_upto_region 9 with fail
        have hnm:(n:Int)-4=(ps.length:Int):=by have:=HNP.out;omega
        have hnm2:n-4=ps.length:=by have:=HNP.out;omega
        simp only[hnm2];go_loopw [71] (fun s71 wr=>∃(k:Nat) (ws:List GW) (vw:Value),s71= .int .i64 k∧k≤ps.length∧Hid (Qz ps=match Qz (ps.drop k) with|some r=>some (ws++r)|none=>none)∧Hid (ws.length=k)∧Hid (∀y∈ws,y.lit.size≤20)∧Hid (OwnK wr w.heap.size TWd 4 vw (ws.map wdL))∧Hid (wr.heap[b7]? =some (.cells #[.int .i64 num,.string so,.string c,.int .i64 lvl,vw,.bool false] TLn (0,0)))∧Kn w wr) (fun s71 _=>ps.length-(intOf s71).toNat)
        case atStart=>exact⟨0,[],_,rfl,Nat.zero_le _,Qh (by rw[List.drop_zero];cases Qz ps<;>rfl),Qh rfl,Qh (fun y hy=>by cases hy),Qh OwnK.nil,HB3,hk3⟩
        case round=>
         clear hnm hnm2 HPS3 HB3 hk3 u3;obtain⟨k,ws,vw,rfl,hk,hpf,hwsl,hlz,hvw,hb7,hkn⟩:=hrel;by_cases hlt:k<ps.length
         ·exact absurd hlt (by omega)
         ·obtain rfl:k=ps.length:=by omega
          have hpe:=partsF_end hpf.out;obtain⟨av,cv,hve,_⟩:=hvw.out.row (fun C hC=>by obtain⟨x,_,rfl⟩:=List.mem_map.1 hC;rfl);rw[List.length_map] at hve;subst hve;have u3:=Qc hkn x3;have hwl20:ws.length≤20:=by have:=HH12.out;have:=hwsl.out;omega
          have HBS:Hid (B≤w.heap.size):=Qh (by have:=H.out.pB.1;omega);have hb7l:=Ql hb7.out;have hF5:Hid (R.rule num (so::lv::c::e::ps)=if Zf ws=true then R.ruleEnd num so emptyB lvl ws else none):=Qh (by rw[hF4.out,hpe]);have g2:wr.cell? ⟨b7,2,none⟩=some (.string c):=by rw[Qa hb7.out];try rfl
          have gf:=Qd hb7.out 2;clear hpe;go_upto_region 18 with fail
          obtain⟨w7,hw7⟩:∃z,z=wr.setCell ⟨b7,2,none⟩ (.string ⟨#[]⟩):=⟨_,rfl⟩;have hk7:K1 b7 wr w7:=by rw[hw7];exact Qg _ _
          have hbb7:=Qj hb7.out 2 (.string ⟨#[]⟩);rw[←hw7] at hbb7⊢;have HB7:Hid (w7.heap[b7]? =some (.cells #[.int .i64 num,.string so,.string ⟨#[]⟩,.int .i64 lvl,.slice av ws.length cv,.bool false] TLn (0,0))):=Qh hbb7;have hkn7:=hkn.trans' hk7 (fun i hi e=>by omega);have HO7:=Qh (hvw.out.kp hk7 (fun g hg e=>by subst e;obtain⟨cur,h1⟩:=QW hvw.out hg;exact Qo hb7.out h1 (by decide)));have HAL:=Qh (alone_c ws HO7.out (by omega));have g4:w7.cell? ⟨b7,4,none⟩=some (.slice av ws.length cv):=by rw[Qa HB7.out];try rfl
          clear hw7 hk7 hbb7 g2 gf u3;cases hal:Zf ws with
          |false=>
           rw[hal] at HAL;have hF6:Hid (R.rule num (so::lv::c::e::ps)=none):=Qh (by rw[hF5.out,hal];try rfl);clear hal;go_wp2_with fail
           refine HAL.out.mono ?_;rintro e9 w8 ⟨rfl,hk8⟩;go_wp2_with fail
           go_ret;refine⟨4,rfl,QX (hkn7.trans hk8),?_⟩;rw[hF6.out];exact(by decide:(4:Int)≠0)
          |true=>
           rw[hal] at HAL;have hF6:Hid (R.rule num (so::lv::c::e::ps)=R.ruleEnd num so emptyB lvl ws):=Qh (by rw[hF5.out,hal];try rfl);clear hal;go_wp2_with fail
           refine HAL.out.mono ?_;rintro e9 w8 ⟨rfl,hk8⟩;have hkn8:=hkn7.trans hk8;have HB8:=Qh (hk8.blk HB7.out (fun x=>x));have HO8:=Qh (HO7.out.kn hk8);clear hk8 g4 HB7 HO7;go_upto_region 20 with fail
           have HR8:=Qh (H.out.kn hkn8);obtain⟨_,_,_,_,_,_,_,m7,_⟩:=HR8.out.cells;have n2:w8.cell? ⟨b7,2,none⟩=some (.string ⟨#[]⟩):=by rw[Qa HB8.out];try rfl
           have hlkc:=fun W (hm:MapA W TS A.bc (mbM R.cons))=>look_mb (w:=W) ⟨#[]⟩ (by decide) hm
           have HLK:=Qh hlkc;clear hlkc;have hF7:Hid (R.ruleEnd num so ⟨#[]⟩ lvl ws=if YB R.cons ⟨#[]⟩=true then none else(if(⟨#[]⟩:ByteArray).size=0 then R else {R with cons:=R.cons++[⟨#[]⟩]}).add ⟨num,so,⟨#[]⟩,lvl,ws,false⟩):=Qh rfl;cases hhs:YB R.cons ⟨#[]⟩ with
           |true=>
            rw[hhs] at HLK;have hF8:Hid (R.rule num (so::lv::c::e::ps)=none):=Qh (by rw[hF6.out];exact(hF7.out.trans (by rw[hhs];try rfl)));clear hhs hF7;refine wp_region_held_drew (S:=fun w'=>w'.cell? ⟨p,7,none⟩=some (.map (some A.bc))∧w'.cell? ⟨b7,2,none⟩=some (.string ⟨#[]⟩)∧MapA w' TS A.bc (mbM R.cons)) (by kernel_rfl) ⟨Qc ((Qb _ _).drew) m7,Qc ((Qb _ _).drew) n2,HR8.out.cons.kn ((Qb _ _).drew)⟩ (fun hHeld=> ?_);refine TW 0 98 ?_;refine TW 1 99 ?_;refine TW 2 100 ?_;refine TH 3 101 ?_;refine TW 4 102 ?_;refine TH 5 103 ?_;refine TH 6 104 ?_ (hy:=by(intro w hSw;obtain⟨hs1,hs2,hs3⟩:=hSw;have hlk:=HLK.out w hs3;go_simp;try with_reducible rfl));refine RD ?_;go_wp2_with fail
            go_ret;refine⟨9,rfl,QX (hkn8.trans ((Qb _ _).drew)),?_⟩;rw[hF8.out];exact(by decide:(9:Int)≠0)
           |false=>
            rw[hhs] at HLK;have hF8:Hid (R.rule num (so::lv::c::e::ps)=R.add ⟨num,so,⟨#[]⟩,lvl,ws,false⟩):=Qh (by rw[hF6.out];exact(hF7.out.trans (by rw[hhs];try rfl)));clear hhs hF7;refine wp_region_held_drew (S:=fun w'=>w'.cell? ⟨p,7,none⟩=some (.map (some A.bc))∧w'.cell? ⟨b7,2,none⟩=some (.string ⟨#[]⟩)∧MapA w' TS A.bc (mbM R.cons)) (by kernel_rfl) ⟨Qc ((Qb _ _).drew) m7,Qc ((Qb _ _).drew) n2,HR8.out.cons.kn ((Qb _ _).drew)⟩ (fun hHeld=> ?_);refine TW 0 98 ?_;refine TW 1 99 ?_;refine TW 2 100 ?_;refine TH 3 101 ?_;refine TW 4 102 ?_;refine TH 5 103 ?_;refine TH 6 104 ?_ (hy:=by(intro w hSw;obtain⟨hs1,hs2,hs3⟩:=hSw;have hlk:=HLK.out w hs3;go_simp;try with_reducible rfl));refine RD ?_;obtain⟨wd,hwd⟩:∃zz,zz=w8.drew:=⟨_,rfl⟩;have hkd:Kn w8 wd:=by rw[hwd];exact(Qb _ _).drew
            rw[←hwd];have HBd:=hkd.blk HB8.out (fun x=>x);have t0:wd.cell? ⟨b7,0,none⟩=some (.int .i64 num):=by rw[Qa HBd];try rfl
            have t1:wd.cell? ⟨b7,1,none⟩=some (.string so):=by rw[Qa HBd];try rfl
            have t2:wd.cell? ⟨b7,2,none⟩=some (.string ⟨#[]⟩):=by rw[Qa HBd];try rfl
            have t3:wd.cell? ⟨b7,3,none⟩=some (.int .i64 lvl):=by rw[Qa HBd];try rfl
            have t4:wd.cell? ⟨b7,4,none⟩=some (.slice av ws.length cv):=by rw[Qa HBd];try rfl
            have t5:wd.cell? ⟨b7,5,none⟩=some (.bool false):=by rw[Qa HBd];try rfl
            have HADD:=Qh (gadd_c (cw:=cv) (aw:=av) ⟨num,so,⟨#[]⟩,lvl,ws,false⟩ (HR8.out.kn hkd) HOK.out ((HO8.out.kn hkd).base HBS.out) ⟨hwl20,hnum,hlv9⟩ hlz.out);have hknd:=hkn8.trans hkd;clear hwd hkd HBd hHeld;go_wp2_with fail
            refine HADD.out.mono ?_;rintro e9 w9 ⟨n9,rfl,hkz,hmz⟩;go_wp2_with fail
            go_ret;refine⟨n9,rfl,(QX hknd).trans hkz,?_⟩;rw[hF8.out];exact hmz
       ·go_upto_region 9 with fail
        obtain⟨sa,hsa⟩:∃sa,sa=some (⟨bl,5,none⟩:Addr):=⟨_,rfl⟩;have HSA:=Qh hsa;have hnm:(n:Int)-4=(ps.length:Int):=by have:=HNP.out;omega
        have hnm2:n-4=ps.length:=by have:=HNP.out;omega
        rw[←hsa];simp only[hnm2];clear hsa;go_loopw [71] (fun s71 wr=>∃(k:Nat) (ws:List GW) (vw:Value),s71= .int .i64 k∧k≤ps.length∧Hid (Qz ps=match Qz (ps.drop k) with|some r=>some (ws++r)|none=>none)∧Hid (ws.length=k)∧Hid (∀y∈ws,y.lit.size≤20)∧Hid (OwnK wr w.heap.size TWd 4 vw (ws.map wdL))∧Hid (wr.heap[b7]? =some (.cells #[.int .i64 num,.string so,.string c,.int .i64 lvl,vw,.bool false] TLn (0,0)))∧Kn w wr) (fun s71 _=>ps.length-(intOf s71).toNat)
        case atStart=>exact⟨0,[],_,rfl,Nat.zero_le _,Qh (by rw[List.drop_zero];cases Qz ps<;>rfl),Qh rfl,Qh (fun y hy=>by cases hy),Qh OwnK.nil,HB3,hk3⟩
        case round=>
         clear hnm hnm2 HPS3 HB3 hk3 u3;obtain⟨k,ws,vw,rfl,hk,hpf,hwsl,hlz,hvw,hb7,hkn⟩:=hrel;by_cases hlt:k<ps.length
         ·have hsk:=HZP.out _ (List.getElem_mem hlt);have hck:=(HPS.out.kn hkn) k hlt;have hst:=partsF_step hpf.out hlt;obtain⟨s,hs⟩:∃s,s=ps[k]:=⟨_,rfl⟩;rw[←hs] at hsk hck hst;have HST:=Qh hst;have HPA:=Qh (gpart_c s wr (HM.out.kn hkn) hsk);obtain⟨av,cv,hve,_⟩:=hvw.out.row (fun C hC=>by obtain⟨x,_,rfl⟩:=List.mem_map.1 hC;rfl);rw[List.length_map,hwsl.out] at hve;subst hve;have hb7l:=Ql hb7.out;rw[HSA.out];clear hst hs;go_wp2_with fail
          refine HPA.out.mono ?_;rintro e9 w4 ⟨hk4,y,okk,rfl,hmt⟩;have hkn4:=hkn.trans hk4;obtain⟨w5,hw5⟩:∃z,z=w4.alloc (.cells #[.string y.lit,.string y.name,.int .i64 y.level,.bool y.sort] TWd):=⟨_,rfl⟩;have hk5:Kn w4 w5:=by rw[hw5];exact(Qb _ _).alloc _
          obtain⟨b12,hb12⟩:∃z,z=w4.heap.size:=⟨_,rfl⟩;have hbw:w5.heap[b12]? =some (.cells #[.string y.lit,.string y.name,.int .i64 y.level,.bool y.sort] TWd (0,0)):=by rw[hw5,hb12];exact Qf _ _
          have HW5:=Qh (And.intro hw5 hb12);have hkn5:=hkn4.trans hk5;have v0:w5.cell? ⟨b12,0,none⟩=some (.string y.lit):=by rw[Qa hbw];try rfl
          have v1:w5.cell? ⟨b12,1,none⟩=some (.string y.name):=by rw[Qa hbw];try rfl
          have v2:w5.cell? ⟨b12,2,none⟩=some (.int .i64 y.level):=by rw[Qa hbw];try rfl
          have v3:w5.cell? ⟨b12,3,none⟩=some (.bool y.sort):=by rw[Qa hbw];try rfl
          have hbl5:=Ql hbw;have HB75:=Qh ((hk4.trans hk5).blk hb7.out (fun x=>x));have HV5:=Qh ((hvw.out.kn hk4).kn hk5);have r4:w5.cell? ⟨b7,4,none⟩=some (.slice av k cv):=by rw[Qa HB75.out];try rfl
          have hb75:=Ql HB75.out;clear hw5 hb12 hk5 hck hbw;cases hpf2:partF s with
          |none=>
           rw[hpf2] at hmt;dsimp only at hmt;subst hmt;have hF5:Hid (R.rule num (so::lv::c::e::ps)=none):=Qh (by rw[hF4.out,HST.out,hpf2]);clear hpf2;go_upto_region 12 with fail
           rw[←HW5.out.1,←HW5.out.2];go_wp2_with fail
           go_ret;refine⟨4,rfl,QX hkn5,?_⟩;rw[hF5.out];exact(by decide:(4:Int)≠0)
          |some x=>
           rw[hpf2] at hmt;dsimp only at hmt;obtain⟨rfl,rfl⟩:=hmt;have HPF6:Hid (Qz ps=match Qz (ps.drop (k+1)) with|some r=>some ((ws++[y])++r)|none=>none):=Qh (by rw[HST.out,hpf2]);have hyl:=partF_lit hpf2;have HKL:Hid (Kn w5 (w5.alloc (.cells #[.string y.lit,.string y.name,.int .i64 y.level,.bool y.sort] TWd))):=Qh ((Qb _ _).alloc _);have HV6:=Qh (HV5.out.kn HKL.out);have HBL:Hid ((w5.alloc (.cells #[.string y.lit,.string y.name,.int .i64 y.level,.bool y.sort] TWd)).heap[w5.heap.size]? =some (.cells #[.string y.lit,.string y.name,.int .i64 y.level,.bool y.sort] TWd (0,0))):=Qh (Qf _ _);have HB76:=Qh (HKL.out.blk HB75.out (fun x=>x));have hkpl:=HH12.out;clear hpf2;go_upto_region 12 with fail
           rw[←HW5.out.1,←HW5.out.2];go_upto_region 15 with(first|(at_builtin;go_must (refine QG _ rfl (.tmp 83) (.tmp 85) 281 rfl w.heap.size TWd iw (.agg #[.string ByteArray.empty,.string ByteArray.empty,.int .i64 0,.bool false]) 4 48 Tryz.underlying281 HIW.out.1 HIW.out.2.1 HIW.out.2.2.1 HIW.out.2.2.2 (by rfl) (by decide) (.slice av k cv) (ws.map wdL) rfl HV6.out w5.heap.size 1 rfl #[.string y.lit,.string y.name,.int .i64 y.level,.bool y.sort] TWd (0,0) HBL.out rfl (by simp[Value.oneCell']) (by rw[List.length_map,hwsl.out];simp only[maxLen];omega) (by rw[List.length_map,hwsl.out];omega) (by have h1:=hkn5.size;rw[size_alloc'];omega) ?_;intro v1 w6 hown hka hat;obtain⟨av1,cv1,hv1,_⟩:=hown.row (k:=4) (fun D hD=>by simp only[List.mem_append,List.mem_map,List.mem_singleton] at hD;rcases hD with⟨y,_,rfl⟩|rfl<;>rfl);obtain⟨nl1,hv1⟩:∃n,v1= .slice av1 n cv1:=⟨_,hv1⟩;have HV1:=Qh hv1;subst hv1;have HKA:=Qh (hka.mono (T:=fun i=>w.heap.size≤i) (fun i hi e=>(HV6.out.lt i e.symm).1));have HOW:=Qh hown;have hb76:=QB HB76.out hka (QR HV6.out) (by decide);have r46:w6.cell? ⟨b7,4,none⟩=some (.slice av k cv):=(by rw[Qa hb76];try rfl);have f46:=Qd hb76 4;have HBX:=Qh hb76;clear hb76 hown hka hat)))
           obtain⟨vN,hvN⟩:∃z,z=Value.slice av1 (ws.length+1) cv1:=⟨_,rfl⟩;obtain⟨w7,hw7⟩:∃z,z=w6.setCell ⟨b7,4,none⟩ vN:=⟨_,rfl⟩;rw[←hvN,←hw7];have HO2:Hid (OwnK w6 w.heap.size TWd 4 vN ((ws++[y]).map wdL)):=Qh (by
            have h1:=HOW.out;rw[List.length_append,List.length_map,List.length_singleton,←hvN] at h1;rw[List.map_append];exact h1)
           have hk9:K1 b7 w6 w7:=by rw[hw7];exact Qg _ _
           have hkn9:Kn w w7:=((hkn5.trans HKL.out).trans' HKA.out (fun i hi e=>by omega)).trans' hk9 (fun i hi e=>by omega);have HB9:=Qh (Qj HBX.out 4 vN);rw[←hw7] at HB9;have HO9:=Qh (HO2.out.kp hk9 (fun g hg e=>by subst e;obtain⟨cur,h1⟩:=QW HO2.out hg;exact Qo HBX.out h1 (by decide)));clear hvN hw7 HOW HKA HV1;go_wp2_with fail
           go_roundw
           case rel=>exact⟨k+1,ws++[y],vN,by go_num,by omega,HPF6,Qh (by simp[hwsl.out]),Qh (fun z hz=>by
            rcases List.mem_append.1 hz with h1|h1
            ·exact hlz.out z h1
            ·simp at h1;subst h1;exact hyl),HO9,HB9,hkn9⟩
           case measure=>simp[intOf];omega
         ·obtain rfl:k=ps.length:=by omega
          have hpe:=partsF_end hpf.out;obtain⟨av,cv,hve,_⟩:=hvw.out.row (fun C hC=>by obtain⟨x,_,rfl⟩:=List.mem_map.1 hC;rfl);rw[List.length_map] at hve;subst hve;have u3:=Qc hkn x3;have hwl20:ws.length≤20:=by have:=HH12.out;have:=hwsl.out;omega
          have HBS:Hid (B≤w.heap.size):=Qh (by have:=H.out.pB.1;omega);have hb7l:=Ql hb7.out;have hF5:Hid (R.rule num (so::lv::c::e::ps)=if Zf ws=true then R.ruleEnd num so emptyB lvl ws else none):=Qh (by rw[hF4.out,hpe]);have g2:wr.cell? ⟨b7,2,none⟩=some (.string c):=by rw[Qa hb7.out];try rfl
          have gf:=Qd hb7.out 2;clear hpe;go_upto_region 18 with fail
          obtain⟨w7,hw7⟩:∃z,z=wr.setCell ⟨b7,2,none⟩ (.string ⟨#[]⟩):=⟨_,rfl⟩;have hk7:K1 b7 wr w7:=by rw[hw7];exact Qg _ _
          have hbb7:=Qj hb7.out 2 (.string ⟨#[]⟩);rw[←hw7] at hbb7⊢;have HB7:Hid (w7.heap[b7]? =some (.cells #[.int .i64 num,.string so,.string ⟨#[]⟩,.int .i64 lvl,.slice av ws.length cv,.bool false] TLn (0,0))):=Qh hbb7;have hkn7:=hkn.trans' hk7 (fun i hi e=>by omega);have HO7:=Qh (hvw.out.kp hk7 (fun g hg e=>by subst e;obtain⟨cur,h1⟩:=QW hvw.out hg;exact Qo hb7.out h1 (by decide)));have HAL:=Qh (alone_c ws HO7.out (by omega));have g4:w7.cell? ⟨b7,4,none⟩=some (.slice av ws.length cv):=by rw[Qa HB7.out];try rfl
          clear hw7 hk7 hbb7 g2 gf u3;cases hal:Zf ws with
          |false=>
           rw[hal] at HAL;have hF6:Hid (R.rule num (so::lv::c::e::ps)=none):=Qh (by rw[hF5.out,hal];try rfl);clear hal;go_wp2_with fail
           refine HAL.out.mono ?_;rintro e9 w8 ⟨rfl,hk8⟩;go_wp2_with fail
           go_ret;refine⟨4,rfl,QX (hkn7.trans hk8),?_⟩;rw[hF6.out];exact(by decide:(4:Int)≠0)
          |true=>
           rw[hal] at HAL;have hF6:Hid (R.rule num (so::lv::c::e::ps)=R.ruleEnd num so emptyB lvl ws):=Qh (by rw[hF5.out,hal];try rfl);clear hal;go_wp2_with fail
           refine HAL.out.mono ?_;rintro e9 w8 ⟨rfl,hk8⟩;have hkn8:=hkn7.trans hk8;have HB8:=Qh (hk8.blk HB7.out (fun x=>x));have HO8:=Qh (HO7.out.kn hk8);clear hk8 g4 HB7 HO7;go_upto_region 20 with fail
           have HR8:=Qh (H.out.kn hkn8);obtain⟨_,_,_,_,_,_,_,m7,_⟩:=HR8.out.cells;have n2:w8.cell? ⟨b7,2,none⟩=some (.string ⟨#[]⟩):=by rw[Qa HB8.out];try rfl
           have hlkc:=fun W (hm:MapA W TS A.bc (mbM R.cons))=>look_mb (w:=W) ⟨#[]⟩ (by decide) hm
           have HLK:=Qh hlkc;clear hlkc;have hF7:Hid (R.ruleEnd num so ⟨#[]⟩ lvl ws=if YB R.cons ⟨#[]⟩=true then none else(if(⟨#[]⟩:ByteArray).size=0 then R else {R with cons:=R.cons++[⟨#[]⟩]}).add ⟨num,so,⟨#[]⟩,lvl,ws,false⟩):=Qh rfl;cases hhs:YB R.cons ⟨#[]⟩ with
           |true=>
            rw[hhs] at HLK;have hF8:Hid (R.rule num (so::lv::c::e::ps)=none):=Qh (by rw[hF6.out];exact(hF7.out.trans (by rw[hhs];try rfl)));clear hhs hF7;refine wp_region_held_drew (S:=fun w'=>w'.cell? ⟨p,7,none⟩=some (.map (some A.bc))∧w'.cell? ⟨b7,2,none⟩=some (.string ⟨#[]⟩)∧MapA w' TS A.bc (mbM R.cons)) (by kernel_rfl) ⟨Qc ((Qb _ _).drew) m7,Qc ((Qb _ _).drew) n2,HR8.out.cons.kn ((Qb _ _).drew)⟩ (fun hHeld=> ?_);refine TW 0 98 ?_;refine TW 1 99 ?_;refine TW 2 100 ?_;refine TH 3 101 ?_;refine TW 4 102 ?_;refine TH 5 103 ?_;refine TH 6 104 ?_ (hy:=by(intro w hSw;obtain⟨hs1,hs2,hs3⟩:=hSw;have hlk:=HLK.out w hs3;go_simp;try with_reducible rfl));refine RD ?_;go_wp2_with fail
            go_ret;refine⟨9,rfl,QX (hkn8.trans ((Qb _ _).drew)),?_⟩;rw[hF8.out];exact(by decide:(9:Int)≠0)
           |false=>
            rw[hhs] at HLK;have hF8:Hid (R.rule num (so::lv::c::e::ps)=R.add ⟨num,so,⟨#[]⟩,lvl,ws,false⟩):=Qh (by rw[hF6.out];exact(hF7.out.trans (by rw[hhs];try rfl)));clear hhs hF7;refine wp_region_held_drew (S:=fun w'=>w'.cell? ⟨p,7,none⟩=some (.map (some A.bc))∧w'.cell? ⟨b7,2,none⟩=some (.string ⟨#[]⟩)∧MapA w' TS A.bc (mbM R.cons)) (by kernel_rfl) ⟨Qc ((Qb _ _).drew) m7,Qc ((Qb _ _).drew) n2,HR8.out.cons.kn ((Qb _ _).drew)⟩ (fun hHeld=> ?_);refine TW 0 98 ?_;refine TW 1 99 ?_;refine TW 2 100 ?_;refine TH 3 101 ?_;refine TW 4 102 ?_;refine TH 5 103 ?_;refine TH 6 104 ?_ (hy:=by(intro w hSw;obtain⟨hs1,hs2,hs3⟩:=hSw;have hlk:=HLK.out w hs3;go_simp;try with_reducible rfl));refine RD ?_;obtain⟨wd,hwd⟩:∃zz,zz=w8.drew:=⟨_,rfl⟩;have hkd:Kn w8 wd:=by rw[hwd];exact(Qb _ _).drew
            rw[←hwd];have HBd:=hkd.blk HB8.out (fun x=>x);have t0:wd.cell? ⟨b7,0,none⟩=some (.int .i64 num):=by rw[Qa HBd];try rfl
            have t1:wd.cell? ⟨b7,1,none⟩=some (.string so):=by rw[Qa HBd];try rfl
            have t2:wd.cell? ⟨b7,2,none⟩=some (.string ⟨#[]⟩):=by rw[Qa HBd];try rfl
            have t3:wd.cell? ⟨b7,3,none⟩=some (.int .i64 lvl):=by rw[Qa HBd];try rfl
            have t4:wd.cell? ⟨b7,4,none⟩=some (.slice av ws.length cv):=by rw[Qa HBd];try rfl
            have t5:wd.cell? ⟨b7,5,none⟩=some (.bool false):=by rw[Qa HBd];try rfl
            have HADD:=Qh (gadd_c (cw:=cv) (aw:=av) ⟨num,so,⟨#[]⟩,lvl,ws,false⟩ (HR8.out.kn hkd) HOK.out ((HO8.out.kn hkd).base HBS.out) ⟨hwl20,hnum,hlv9⟩ hlz.out);have hknd:=hkn8.trans hkd;clear hwd hkd HBd hHeld;go_wp2_with fail
            refine HADD.out.mono ?_;rintro e9 w9 ⟨n9,rfl,hkz,hmz⟩;go_wp2_with fail
            go_ret;refine⟨n9,rfl,(QX hknd).trans hkz,?_⟩;rw[hF8.out];exact hmz
      ·have ic:(c.toList==[45])=false:=by rw[YJ];exact decide_eq_false hc
       have HBU:=Qh (fun W=>gBuilt_c c W (by omega));cases hb:blOk c with
       |false=>
        rw[hb] at HBU;have hF4:Hid (R.rule num (so::lv::c::e::ps)=none):=Qh (by rw[hF3.out,if_pos ⟨hc,hb⟩]);clear hF3 hc hb;go_wp2_with fail
        refine(HBU.out _).mono ?_;rintro e9 w4 ⟨rfl,rfl⟩;go_wp2_with fail
        go_ret;refine⟨4,rfl,QX hk3,?_⟩;rw[hF4.out];exact(by decide:(4:Int)≠0)
       |true=>
        rw[hb] at HBU;have hcz:=blOk_le hb;have hF4:Hid (R.rule num (so::lv::c::e::ps)=match Qz ps with
         |none=>none
         |some ws=>R.ruleEnd num so c lvl ws):=Qh (by rw[hF3.out,if_neg (fun h=>by rw[hb] at h;cases h.2)];simp[hc])
        clear hF3 hc hb;go_upto_region 8 with(first|(go_at_call 154;refine(HBU.out _).mono ?_;rintro e9 w4 ⟨rfl,rfl⟩))
        by_cases h40:c0=4
        ·have hp0:ps.length=0:=by have:=HNP.out;omega
         go_upto_region 9 with fail
         have hnm:(n:Int)-4=(ps.length:Int):=by have:=HNP.out;omega
         have hnm2:n-4=ps.length:=by have:=HNP.out;omega
         simp only[hnm2];go_loopw [71] (fun s71 wr=>∃(k:Nat) (ws:List GW) (vw:Value),s71= .int .i64 k∧k≤ps.length∧Hid (Qz ps=match Qz (ps.drop k) with|some r=>some (ws++r)|none=>none)∧Hid (ws.length=k)∧Hid (∀y∈ws,y.lit.size≤20)∧Hid (OwnK wr w.heap.size TWd 4 vw (ws.map wdL))∧Hid (wr.heap[b7]? =some (.cells #[.int .i64 num,.string so,.string c,.int .i64 lvl,vw,.bool false] TLn (0,0)))∧Kn w wr) (fun s71 _=>ps.length-(intOf s71).toNat)
         case atStart=>exact⟨0,[],_,rfl,Nat.zero_le _,Qh (by rw[List.drop_zero];cases Qz ps<;>rfl),Qh rfl,Qh (fun y hy=>by cases hy),Qh OwnK.nil,HB3,hk3⟩
         case round=>
          clear hnm hnm2 HPS3 HB3 hk3 u3;obtain⟨k,ws,vw,rfl,hk,hpf,hwsl,hlz,hvw,hb7,hkn⟩:=hrel;by_cases hlt:k<ps.length
          ·exact absurd hlt (by omega)
          ·obtain rfl:k=ps.length:=by omega
           have hpe:=partsF_end hpf.out;obtain⟨av,cv,hve,_⟩:=hvw.out.row (fun C hC=>by obtain⟨x,_,rfl⟩:=List.mem_map.1 hC;rfl);rw[List.length_map] at hve;subst hve;have u3:=Qc hkn x3;have hwl20:ws.length≤20:=by have:=HH12.out;have:=hwsl.out;omega
           have HBS:Hid (B≤w.heap.size):=Qh (by have:=H.out.pB.1;omega);have hb7l:=Ql hb7.out;have hF6:Hid (R.rule num (so::lv::c::e::ps)=R.ruleEnd num so c lvl ws):=Qh (by rw[hF4.out,hpe]);obtain⟨w8,hw8⟩:∃z,z=wr:=⟨_,rfl⟩;subst hw8;have hkn8:=hkn;have HB8:=hb7;have HO8:=hvw;clear hpe;go_upto_region 20 with fail
           have HR8:=Qh (H.out.kn hkn8);obtain⟨_,_,_,_,_,_,_,m7,_⟩:=HR8.out.cells;have n2:w8.cell? ⟨b7,2,none⟩=some (.string c):=by rw[Qa HB8.out];try rfl
           have hlkc:=fun W (hm:MapA W TS A.bc (mbM R.cons))=>look_mb (w:=W) c (by omega) hm
           have HLK:=Qh hlkc;clear hlkc;have hF7:Hid (R.ruleEnd num so c lvl ws=if YB R.cons c=true then none else(if(c:ByteArray).size=0 then R else {R with cons:=R.cons++[c]}).add ⟨num,so,c,lvl,ws,false⟩):=Qh rfl;cases hhs:YB R.cons c with
           |true=>
            rw[hhs] at HLK;have hF8:Hid (R.rule num (so::lv::c::e::ps)=none):=Qh (by rw[hF6.out];exact(hF7.out.trans (by rw[hhs];try rfl)));clear hhs hF7;refine wp_region_held_drew (S:=fun w'=>w'.cell? ⟨p,7,none⟩=some (.map (some A.bc))∧w'.cell? ⟨b7,2,none⟩=some (.string c)∧MapA w' TS A.bc (mbM R.cons)) (by kernel_rfl) ⟨Qc ((Qb _ _).drew) m7,Qc ((Qb _ _).drew) n2,HR8.out.cons.kn ((Qb _ _).drew)⟩ (fun hHeld=> ?_);refine TW 0 98 ?_;refine TW 1 99 ?_;refine TW 2 100 ?_;refine TH 3 101 ?_;refine TW 4 102 ?_;refine TH 5 103 ?_;refine TH 6 104 ?_ (hy:=by(intro w hSw;obtain⟨hs1,hs2,hs3⟩:=hSw;have hlk:=HLK.out w hs3;go_simp;try with_reducible rfl));refine RD ?_;go_wp2_with fail
            go_ret;refine⟨9,rfl,QX (hkn8.trans ((Qb _ _).drew)),?_⟩;rw[hF8.out];exact(by decide:(9:Int)≠0)
           |false=>
            rw[hhs] at HLK;have hF8:Hid (R.rule num (so::lv::c::e::ps)=({R with cons:=R.cons++[c]} :RS).add ⟨num,so,c,lvl,ws,false⟩):=Qh (by rw[hF6.out];exact(hF7.out.trans (by rw[hhs,if_neg (by simp),if_neg hcz.2])));have HNH:=Qh hhs;clear hhs hF7;refine wp_region_held_drew (S:=fun w'=>w'.cell? ⟨p,7,none⟩=some (.map (some A.bc))∧w'.cell? ⟨b7,2,none⟩=some (.string c)∧MapA w' TS A.bc (mbM R.cons)) (by kernel_rfl) ⟨Qc ((Qb _ _).drew) m7,Qc ((Qb _ _).drew) n2,HR8.out.cons.kn ((Qb _ _).drew)⟩ (fun hHeld=> ?_);refine TW 0 98 ?_;refine TW 1 99 ?_;refine TW 2 100 ?_;refine TH 3 101 ?_;refine TW 4 102 ?_;refine TH 5 103 ?_;refine TH 6 104 ?_ (hy:=by(intro w hSw;obtain⟨hs1,hs2,hs3⟩:=hSw;have hlk:=HLK.out w hs3;go_simp;try with_reducible rfl));refine RD ?_;obtain⟨wd,hwd⟩:∃zz,zz=w8.drew:=⟨_,rfl⟩;have hkd:Kn w8 wd:=by rw[hwd];exact(Qb _ _).drew
            rw[←hwd];have HRd:=Qh (HR8.out.kn hkd);have HBd:=Qh (hkd.blk HB8.out (fun x=>x));have HOd:=Qh (HO8.out.kn hkd);have hknd:=hkn8.trans hkd;obtain⟨_,_,_,_,_,_,_,m7d,_⟩:=HRd.out.cells;have t2:wd.cell? ⟨b7,2,none⟩=some (.string c):=by rw[Qa HBd.out];try rfl
            have ice:=Yw hcz.2;clear hwd hkd hHeld m7 n2;go_upto_region 23 with fail
            refine wp_region_held_drew (S:=fun w'=>w'.cell? ⟨p,7,none⟩=some (.map (some A.bc))∧w'.cell? ⟨b7,2,none⟩=some (.string c)) (by kernel_rfl) ⟨Qc ((Qb _ _).drew) m7d,Qc ((Qb _ _).drew) t2⟩ (fun hHeld=> ?_);obtain⟨wp,hwp⟩:∃zz,zz=wd.drew:=⟨_,rfl⟩;have hkp:Kn wd wp:=by rw[hwp];exact(Qb _ _).drew
            rw[←hwp] at hHeld⊢;clear hwp;refine TW 0 108 ?_;refine TW 1 109 ?_;refine TW 2 110 ?_;refine TH 3 111 ?_;refine TW 4 112 ?_;refine TH 5 113 ?_;refine RH 6 (fun K hK=> ?_);obtain⟨lx,hlx⟩:=str_keyOf c (by omega);refine step_put0 (by rfl) (.tmp 111) (.tmp 113) (.const (.bool true)) (by rfl) (string_keyed Tryz.underlying9) Tryz.underlying127 (by rfl) (HRd.out.cons.kn hkp) (.string c) (.bool true) lx (by rfl) (by rfl) hlx (mbM_not HNH.out) ?_;intro w10 hm10 hk10;have HR10:=Qh ((HRd.out.kn hkp).putCons hm10 hk10);have hSm:=Ze (HRd.out.cons.kn hkp);have HB10:=Qh (blk_tym (hkp.blk HBd.out (fun x=>x)) hk10 hSm);have HO10:=Qh (Qy (HOd.out.kn hkp) hk10 hSm);have KB10:=(QX (B:=B) (hknd.trans hkp)).trans (hk10.mono (fun i hi e=>by have:=HRd.out.pB;omega));have hX1:w10.cell? ⟨p,7,none⟩=some (.map (some A.bc)):=by obtain⟨_,_,_,_,_,_,_,q,_⟩:=HR10.out.cells;exact q
            have hX2:w10.cell? ⟨b7,2,none⟩=some (.string c):=by rw[Qa HB10.out];try rfl
            clear hm10 hk10 hSm;dsimp only;refine hK.out _ _ ⟨hX1,hX2⟩ (fun hHeld=> ?_);clear hK K hX1 hX2;refine RD ?_;clear hHeld;have t0:w10.cell? ⟨b7,0,none⟩=some (.int .i64 num):=by rw[Qa HB10.out];try rfl
            have t1:w10.cell? ⟨b7,1,none⟩=some (.string so):=by rw[Qa HB10.out];try rfl
            have t2':w10.cell? ⟨b7,2,none⟩=some (.string c):=by rw[Qa HB10.out];try rfl
            have t3:w10.cell? ⟨b7,3,none⟩=some (.int .i64 lvl):=by rw[Qa HB10.out];try rfl
            have t4:w10.cell? ⟨b7,4,none⟩=some (.slice av ws.length cv):=by rw[Qa HB10.out];try rfl
            have t5:w10.cell? ⟨b7,5,none⟩=some (.bool false):=by rw[Qa HB10.out];try rfl
            have HADD:=Qh (gadd_c (cw:=cv) (aw:=av) ⟨num,so,c,lvl,ws,false⟩ HR10.out ⟨HOK.out.lits,HOK.out.cls,HOK.out.sorts,HOK.out.lines,HOK.out.litz,HOK.out.clz,HOK.out.words⟩ (OwnK.base HO10.out HBS.out) ⟨hwl20,hnum,hlv9⟩ hlz.out);clear t2;go_wp2_with fail
            refine HADD.out.mono ?_;rintro e9 w9 ⟨n9,rfl,hkz,hmz⟩;go_wp2_with fail
            go_ret;refine⟨n9,rfl,KB10.trans hkz,?_⟩;rw[hF8.out];exact hmz
        ·go_upto_region 9 with fail
         obtain⟨sa,hsa⟩:∃sa,sa=some (⟨bl,5,none⟩:Addr):=⟨_,rfl⟩;have HSA:=Qh hsa;have hnm:(n:Int)-4=(ps.length:Int):=by have:=HNP.out;omega
         have hnm2:n-4=ps.length:=by have:=HNP.out;omega
         rw[←hsa];simp only[hnm2];clear hsa;go_loopw [71] (fun s71 wr=>∃(k:Nat) (ws:List GW) (vw:Value),s71= .int .i64 k∧k≤ps.length∧Hid (Qz ps=match Qz (ps.drop k) with|some r=>some (ws++r)|none=>none)∧Hid (ws.length=k)∧Hid (∀y∈ws,y.lit.size≤20)∧Hid (OwnK wr w.heap.size TWd 4 vw (ws.map wdL))∧Hid (wr.heap[b7]? =some (.cells #[.int .i64 num,.string so,.string c,.int .i64 lvl,vw,.bool false] TLn (0,0)))∧Kn w wr) (fun s71 _=>ps.length-(intOf s71).toNat)
         case atStart=>exact⟨0,[],_,rfl,Nat.zero_le _,Qh (by rw[List.drop_zero];cases Qz ps<;>rfl),Qh rfl,Qh (fun y hy=>by cases hy),Qh OwnK.nil,HB3,hk3⟩
         case round=>
          clear hnm hnm2 HPS3 HB3 hk3 u3;obtain⟨k,ws,vw,rfl,hk,hpf,hwsl,hlz,hvw,hb7,hkn⟩:=hrel;by_cases hlt:k<ps.length
          ·have hsk:=HZP.out _ (List.getElem_mem hlt);have hck:=(HPS.out.kn hkn) k hlt;have hst:=partsF_step hpf.out hlt;obtain⟨s,hs⟩:∃s,s=ps[k]:=⟨_,rfl⟩;rw[←hs] at hsk hck hst;have HST:=Qh hst;have HPA:=Qh (gpart_c s wr (HM.out.kn hkn) hsk);obtain⟨av,cv,hve,_⟩:=hvw.out.row (fun C hC=>by obtain⟨x,_,rfl⟩:=List.mem_map.1 hC;rfl);rw[List.length_map,hwsl.out] at hve;subst hve;have hb7l:=Ql hb7.out;rw[HSA.out];clear hst hs;go_wp2_with fail
           refine HPA.out.mono ?_;rintro e9 w4 ⟨hk4,y,okk,rfl,hmt⟩;have hkn4:=hkn.trans hk4;obtain⟨w5,hw5⟩:∃z,z=w4.alloc (.cells #[.string y.lit,.string y.name,.int .i64 y.level,.bool y.sort] TWd):=⟨_,rfl⟩;have hk5:Kn w4 w5:=by rw[hw5];exact(Qb _ _).alloc _
           obtain⟨b12,hb12⟩:∃z,z=w4.heap.size:=⟨_,rfl⟩;have hbw:w5.heap[b12]? =some (.cells #[.string y.lit,.string y.name,.int .i64 y.level,.bool y.sort] TWd (0,0)):=by rw[hw5,hb12];exact Qf _ _
           have HW5:=Qh (And.intro hw5 hb12);have hkn5:=hkn4.trans hk5;have v0:w5.cell? ⟨b12,0,none⟩=some (.string y.lit):=by rw[Qa hbw];try rfl
           have v1:w5.cell? ⟨b12,1,none⟩=some (.string y.name):=by rw[Qa hbw];try rfl
           have v2:w5.cell? ⟨b12,2,none⟩=some (.int .i64 y.level):=by rw[Qa hbw];try rfl
           have v3:w5.cell? ⟨b12,3,none⟩=some (.bool y.sort):=by rw[Qa hbw];try rfl
           have hbl5:=Ql hbw;have HB75:=Qh ((hk4.trans hk5).blk hb7.out (fun x=>x));have HV5:=Qh ((hvw.out.kn hk4).kn hk5);have r4:w5.cell? ⟨b7,4,none⟩=some (.slice av k cv):=by rw[Qa HB75.out];try rfl
           have hb75:=Ql HB75.out;clear hw5 hb12 hk5 hck hbw;cases hpf2:partF s with
           |none=>
            rw[hpf2] at hmt;dsimp only at hmt;subst hmt;have hF5:Hid (R.rule num (so::lv::c::e::ps)=none):=Qh (by rw[hF4.out,HST.out,hpf2]);clear hpf2;go_upto_region 12 with fail
            rw[←HW5.out.1,←HW5.out.2];go_wp2_with fail
            go_ret;refine⟨4,rfl,QX hkn5,?_⟩;rw[hF5.out];exact(by decide:(4:Int)≠0)
           |some x=>
            rw[hpf2] at hmt;dsimp only at hmt;obtain⟨rfl,rfl⟩:=hmt;have HPF6:Hid (Qz ps=match Qz (ps.drop (k+1)) with|some r=>some ((ws++[y])++r)|none=>none):=Qh (by rw[HST.out,hpf2]);have hyl:=partF_lit hpf2;have HKL:Hid (Kn w5 (w5.alloc (.cells #[.string y.lit,.string y.name,.int .i64 y.level,.bool y.sort] TWd))):=Qh ((Qb _ _).alloc _);have HV6:=Qh (HV5.out.kn HKL.out);have HBL:Hid ((w5.alloc (.cells #[.string y.lit,.string y.name,.int .i64 y.level,.bool y.sort] TWd)).heap[w5.heap.size]? =some (.cells #[.string y.lit,.string y.name,.int .i64 y.level,.bool y.sort] TWd (0,0))):=Qh (Qf _ _);have HB76:=Qh (HKL.out.blk HB75.out (fun x=>x));have hkpl:=HH12.out;clear hpf2;go_upto_region 12 with fail
            rw[←HW5.out.1,←HW5.out.2];go_upto_region 15 with(first|(at_builtin;go_must (refine QG _ rfl (.tmp 83) (.tmp 85) 281 rfl w.heap.size TWd iw (.agg #[.string ByteArray.empty,.string ByteArray.empty,.int .i64 0,.bool false]) 4 48 Tryz.underlying281 HIW.out.1 HIW.out.2.1 HIW.out.2.2.1 HIW.out.2.2.2 (by rfl) (by decide) (.slice av k cv) (ws.map wdL) rfl HV6.out w5.heap.size 1 rfl #[.string y.lit,.string y.name,.int .i64 y.level,.bool y.sort] TWd (0,0) HBL.out rfl (by simp[Value.oneCell']) (by rw[List.length_map,hwsl.out];simp only[maxLen];omega) (by rw[List.length_map,hwsl.out];omega) (by have h1:=hkn5.size;rw[size_alloc'];omega) ?_;intro v1 w6 hown hka hat;obtain⟨av1,cv1,hv1,_⟩:=hown.row (k:=4) (fun D hD=>by simp only[List.mem_append,List.mem_map,List.mem_singleton] at hD;rcases hD with⟨y,_,rfl⟩|rfl<;>rfl);obtain⟨nl1,hv1⟩:∃n,v1= .slice av1 n cv1:=⟨_,hv1⟩;have HV1:=Qh hv1;subst hv1;have HKA:=Qh (hka.mono (T:=fun i=>w.heap.size≤i) (fun i hi e=>(HV6.out.lt i e.symm).1));have HOW:=Qh hown;have hb76:=QB HB76.out hka (QR HV6.out) (by decide);have r46:w6.cell? ⟨b7,4,none⟩=some (.slice av k cv):=(by rw[Qa hb76];try rfl);have f46:=Qd hb76 4;have HBX:=Qh hb76;clear hb76 hown hka hat)))
            obtain⟨vN,hvN⟩:∃z,z=Value.slice av1 (ws.length+1) cv1:=⟨_,rfl⟩;obtain⟨w7,hw7⟩:∃z,z=w6.setCell ⟨b7,4,none⟩ vN:=⟨_,rfl⟩;rw[←hvN,←hw7];have HO2:Hid (OwnK w6 w.heap.size TWd 4 vN ((ws++[y]).map wdL)):=Qh (by
             have h1:=HOW.out;rw[List.length_append,List.length_map,List.length_singleton,←hvN] at h1;rw[List.map_append];exact h1)
            have hk9:K1 b7 w6 w7:=by rw[hw7];exact Qg _ _
            have hkn9:Kn w w7:=((hkn5.trans HKL.out).trans' HKA.out (fun i hi e=>by omega)).trans' hk9 (fun i hi e=>by omega);have HB9:=Qh (Qj HBX.out 4 vN);rw[←hw7] at HB9;have HO9:=Qh (HO2.out.kp hk9 (fun g hg e=>by subst e;obtain⟨cur,h1⟩:=QW HO2.out hg;exact Qo HBX.out h1 (by decide)));clear hvN hw7 HOW HKA HV1;go_wp2_with fail
            go_roundw
            case rel=>exact⟨k+1,ws++[y],vN,by go_num,by omega,HPF6,Qh (by simp[hwsl.out]),Qh (fun z hz=>by
             rcases List.mem_append.1 hz with h1|h1
             ·exact hlz.out z h1
             ·simp at h1;subst h1;exact hyl),HO9,HB9,hkn9⟩
            case measure=>simp[intOf];omega
          ·obtain rfl:k=ps.length:=by omega
           have hpe:=partsF_end hpf.out;obtain⟨av,cv,hve,_⟩:=hvw.out.row (fun C hC=>by obtain⟨x,_,rfl⟩:=List.mem_map.1 hC;rfl);rw[List.length_map] at hve;subst hve;have u3:=Qc hkn x3;have hwl20:ws.length≤20:=by have:=HH12.out;have:=hwsl.out;omega
           have HBS:Hid (B≤w.heap.size):=Qh (by have:=H.out.pB.1;omega);have hb7l:=Ql hb7.out;have hF6:Hid (R.rule num (so::lv::c::e::ps)=R.ruleEnd num so c lvl ws):=Qh (by rw[hF4.out,hpe]);obtain⟨w8,hw8⟩:∃z,z=wr:=⟨_,rfl⟩;subst hw8;have hkn8:=hkn;have HB8:=hb7;have HO8:=hvw;clear hpe;go_upto_region 20 with fail
           have HR8:=Qh (H.out.kn hkn8);obtain⟨_,_,_,_,_,_,_,m7,_⟩:=HR8.out.cells;have n2:w8.cell? ⟨b7,2,none⟩=some (.string c):=by rw[Qa HB8.out];try rfl
           have hlkc:=fun W (hm:MapA W TS A.bc (mbM R.cons))=>look_mb (w:=W) c (by omega) hm
           have HLK:=Qh hlkc;clear hlkc;have hF7:Hid (R.ruleEnd num so c lvl ws=if YB R.cons c=true then none else(if(c:ByteArray).size=0 then R else {R with cons:=R.cons++[c]}).add ⟨num,so,c,lvl,ws,false⟩):=Qh rfl;cases hhs:YB R.cons c with
           |true=>
            rw[hhs] at HLK;have hF8:Hid (R.rule num (so::lv::c::e::ps)=none):=Qh (by rw[hF6.out];exact(hF7.out.trans (by rw[hhs];try rfl)));clear hhs hF7;refine wp_region_held_drew (S:=fun w'=>w'.cell? ⟨p,7,none⟩=some (.map (some A.bc))∧w'.cell? ⟨b7,2,none⟩=some (.string c)∧MapA w' TS A.bc (mbM R.cons)) (by kernel_rfl) ⟨Qc ((Qb _ _).drew) m7,Qc ((Qb _ _).drew) n2,HR8.out.cons.kn ((Qb _ _).drew)⟩ (fun hHeld=> ?_);refine TW 0 98 ?_;refine TW 1 99 ?_;refine TW 2 100 ?_;refine TH 3 101 ?_;refine TW 4 102 ?_;refine TH 5 103 ?_;refine TH 6 104 ?_ (hy:=by(intro w hSw;obtain⟨hs1,hs2,hs3⟩:=hSw;have hlk:=HLK.out w hs3;go_simp;try with_reducible rfl));refine RD ?_;go_wp2_with fail
            go_ret;refine⟨9,rfl,QX (hkn8.trans ((Qb _ _).drew)),?_⟩;rw[hF8.out];exact(by decide:(9:Int)≠0)
           |false=>
            rw[hhs] at HLK;have hF8:Hid (R.rule num (so::lv::c::e::ps)=({R with cons:=R.cons++[c]} :RS).add ⟨num,so,c,lvl,ws,false⟩):=Qh (by rw[hF6.out];exact(hF7.out.trans (by rw[hhs,if_neg (by simp),if_neg hcz.2])));have HNH:=Qh hhs;clear hhs hF7;refine wp_region_held_drew (S:=fun w'=>w'.cell? ⟨p,7,none⟩=some (.map (some A.bc))∧w'.cell? ⟨b7,2,none⟩=some (.string c)∧MapA w' TS A.bc (mbM R.cons)) (by kernel_rfl) ⟨Qc ((Qb _ _).drew) m7,Qc ((Qb _ _).drew) n2,HR8.out.cons.kn ((Qb _ _).drew)⟩ (fun hHeld=> ?_);refine TW 0 98 ?_;refine TW 1 99 ?_;refine TW 2 100 ?_;refine TH 3 101 ?_;refine TW 4 102 ?_;refine TH 5 103 ?_;refine TH 6 104 ?_ (hy:=by(intro w hSw;obtain⟨hs1,hs2,hs3⟩:=hSw;have hlk:=HLK.out w hs3;go_simp;try with_reducible rfl));refine RD ?_;obtain⟨wd,hwd⟩:∃zz,zz=w8.drew:=⟨_,rfl⟩;have hkd:Kn w8 wd:=by rw[hwd];exact(Qb _ _).drew
            rw[←hwd];have HRd:=Qh (HR8.out.kn hkd);have HBd:=Qh (hkd.blk HB8.out (fun x=>x));have HOd:=Qh (HO8.out.kn hkd);have hknd:=hkn8.trans hkd;obtain⟨_,_,_,_,_,_,_,m7d,_⟩:=HRd.out.cells;have t2:wd.cell? ⟨b7,2,none⟩=some (.string c):=by rw[Qa HBd.out];try rfl
            have ice:=Yw hcz.2;clear hwd hkd hHeld m7 n2;go_upto_region 23 with fail
            refine wp_region_held_drew (S:=fun w'=>w'.cell? ⟨p,7,none⟩=some (.map (some A.bc))∧w'.cell? ⟨b7,2,none⟩=some (.string c)) (by kernel_rfl) ⟨Qc ((Qb _ _).drew) m7d,Qc ((Qb _ _).drew) t2⟩ (fun hHeld=> ?_);obtain⟨wp,hwp⟩:∃zz,zz=wd.drew:=⟨_,rfl⟩;have hkp:Kn wd wp:=by rw[hwp];exact(Qb _ _).drew
            rw[←hwp] at hHeld⊢;clear hwp;refine TW 0 108 ?_;refine TW 1 109 ?_;refine TW 2 110 ?_;refine TH 3 111 ?_;refine TW 4 112 ?_;refine TH 5 113 ?_;refine RH 6 (fun K hK=> ?_);obtain⟨lx,hlx⟩:=str_keyOf c (by omega);refine step_put0 (by rfl) (.tmp 111) (.tmp 113) (.const (.bool true)) (by rfl) (string_keyed Tryz.underlying9) Tryz.underlying127 (by rfl) (HRd.out.cons.kn hkp) (.string c) (.bool true) lx (by rfl) (by rfl) hlx (mbM_not HNH.out) ?_;intro w10 hm10 hk10;have HR10:=Qh ((HRd.out.kn hkp).putCons hm10 hk10);have hSm:=Ze (HRd.out.cons.kn hkp);have HB10:=Qh (blk_tym (hkp.blk HBd.out (fun x=>x)) hk10 hSm);have HO10:=Qh (Qy (HOd.out.kn hkp) hk10 hSm);have KB10:=(QX (B:=B) (hknd.trans hkp)).trans (hk10.mono (fun i hi e=>by have:=HRd.out.pB;omega));have hX1:w10.cell? ⟨p,7,none⟩=some (.map (some A.bc)):=by obtain⟨_,_,_,_,_,_,_,q,_⟩:=HR10.out.cells;exact q
            have hX2:w10.cell? ⟨b7,2,none⟩=some (.string c):=by rw[Qa HB10.out];try rfl
            clear hm10 hk10 hSm;dsimp only;refine hK.out _ _ ⟨hX1,hX2⟩ (fun hHeld=> ?_);clear hK K hX1 hX2;refine RD ?_;clear hHeld;have t0:w10.cell? ⟨b7,0,none⟩=some (.int .i64 num):=by rw[Qa HB10.out];try rfl
            have t1:w10.cell? ⟨b7,1,none⟩=some (.string so):=by rw[Qa HB10.out];try rfl
            have t2':w10.cell? ⟨b7,2,none⟩=some (.string c):=by rw[Qa HB10.out];try rfl
            have t3:w10.cell? ⟨b7,3,none⟩=some (.int .i64 lvl):=by rw[Qa HB10.out];try rfl
            have t4:w10.cell? ⟨b7,4,none⟩=some (.slice av ws.length cv):=by rw[Qa HB10.out];try rfl
            have t5:w10.cell? ⟨b7,5,none⟩=some (.bool false):=by rw[Qa HB10.out];try rfl
            have HADD:=Qh (gadd_c (cw:=cv) (aw:=av) ⟨num,so,c,lvl,ws,false⟩ HR10.out ⟨HOK.out.lits,HOK.out.cls,HOK.out.sorts,HOK.out.lines,HOK.out.litz,HOK.out.clz,HOK.out.words⟩ (OwnK.base HO10.out HBS.out) ⟨hwl20,hnum,hlv9⟩ hlz.out);clear t2;go_wp2_with fail
            refine HADD.out.mono ?_;rintro e9 w9 ⟨n9,rfl,hkz,hmz⟩;go_wp2_with fail
            go_ret;refine⟨n9,rfl,KB10.trans hkz,?_⟩;rw[hF8.out];exact hmz
   ·have ie:(e.toList==[61])=false:=by rw[YJ];exact decide_eq_false he
    have hF2:Hid (R.rule num (so::lv::c::e::ps)=none):=Qh (by rw[hF.out,if_pos (.inr (.inl he))]);clear hF h12 hnp he;go_enter Tryz.func109,Tryz.ntmps109;go_wp2_with fail
    go_ret;refine⟨4,rfl,Qb _ _,?_⟩;rw[hF2.out];exact(by decide:(4:Int)≠0)
theorem RS.bracket_three(R:RS)(n:Nat)(so a b:ByteArray):R.bracket n [so,a,b]=if YG so=false then none else if(litF a).size=0∨(litF b).size=0 then none else if YB R.rounds so=true then none else
  ({R with rounds:=R.rounds++[so]} :RS).add ⟨n,so,emptyB,9,[YV (litF a),⟨emptyB,so,0,true⟩,YV (litF b)],true⟩:=rfl
theorem RS.bracket_not(R:RS)(n:Nat)(l:List ByteArray)(h:l.length≠3):R.bracket n l=none:=by
 rcases l with _|⟨a,_|⟨b,_|⟨c,_|⟨d,l⟩⟩⟩⟩
 ·rfl
 ·rfl
 ·rfl
 ·simp at h
 ·rfl
theorem litF_le(s:ByteArray):(litF s).size≤20:=by
 unfold litF;split
 ·rename_i h;exact h.2
 ·decide
theorem own_three{w:World}{B g:Nat}{x y z:GW}(hB:B≤g)(h:w.heap[g]? =some (.cells (wdL x++wdL y++wdL z).toArray TWd (0,0))):OwnK w B TWd 4 (.slice (some ⟨g,0,none⟩) 3 3) ([x,y,z].map wdL):=by
 refine⟨by simp[wdL],.inr ⟨g,3,_,rfl,hB,h,Nat.le_refl _,by simp[maxLen],by simp[wdL],?_⟩⟩;simp[wdL]
theorem bracket_c{B p bl c0 num:Nat}{R:RS}{A:RA}{w:World}(l:List ByteArray)(h:RdAt w B p R A)(ok:RSok R)(hl:WL w bl 1 l)(ho:Off A p bl)(hll:l.length≤2000000)(hsz:∀s∈l,s.size≤1000000)(hnum:num≤2000000):
  Calls Tryz.prog 110 #[ptr p,.int .i64 num,.slice (some ⟨bl,1,none⟩) l.length c0] w (ErrPost B p A (R.bracket num l) w):=by
 by_cases h3:l.length=3
 ·obtain⟨so,a,b,rfl⟩:∃so a b,l=[so,a,b]:=by
   rcases l with _|⟨a,_|⟨b,_|⟨c,_|⟨d,l⟩⟩⟩⟩
   ·simp at h3
   ·simp at h3
   ·simp at h3
   ·exact⟨_,_,_,rfl⟩
   ·simp at h3
  have hF:Hid (R.bracket num [so,a,b]=_):=Qh (R.bracket_three num so a b);have x1:w.cell? ⟨bl,1,none⟩=some (.string so):=hl 0 (by simp);have x2:w.cell? ⟨bl,2,none⟩=some (.string a):=hl 1 (by simp);have x3:w.cell? ⟨bl,3,none⟩=some (.string b):=hl 2 (by simp);have z1:=hsz so (by simp);have z2:=hsz a (by simp);have z3:=hsz b (by simp);have H:=Qh h;have HOK:=Qh ok;have HO:=Qh ho;have HGN:=Qh (fun W=>gNamed_c so W (by omega));have HLA:=Qh (fun W=>literal_c a W (by omega));have HLB:=Qh (fun W=>literal_c b W (by omega));have hal:=litF_le a;have hbl:=litF_le b;obtain⟨ta,hta⟩:∃x,x=litF a:=⟨_,rfl⟩;obtain⟨tb,htb⟩:∃x,x=litF b:=⟨_,rfl⟩;rw[←hta,←htb] at hF;rw[←hta] at HLA hal;rw[←htb] at HLB hbl;simp only[List.length_cons,List.length_nil] at*;clear h ok hl ho hll hsz h3 hta htb;cases hg:YG so with
  |false=>
   rw[hg] at HGN;have hF2:Hid (R.bracket num [so,a,b]=none):=Qh (by rw[hF.out,hg];try rfl);clear hF hg;go_enter Tryz.func110,Tryz.ntmps110;go_wp2_with fail
   refine(HGN.out _).mono ?_;rintro e9 w' ⟨rfl,rfl⟩;go_wp2_with fail
   go_ret;refine⟨4,rfl,Qb _ _,?_⟩;rw[hF2.out];exact(by decide:(4:Int)≠0)
  |true=>
   have hsoz:=(gnOk_le hg).1;rw[hg] at HGN;have hF2:Hid (R.bracket num [so,a,b]=if ta.size=0∨tb.size=0 then none else if YB R.rounds so=true then none else
    ({R with rounds:=R.rounds++[so]} :RS).add ⟨num,so,emptyB,9,[YV ta,⟨emptyB,so,0,true⟩,YV tb],true⟩):=Qh (by rw[hF.out,hg];try rfl)
   clear hF hg;go_enter Tryz.func110,Tryz.ntmps110;go_wp2_with fail
   refine(HGN.out _).mono ?_;rintro e9 w' ⟨rfl,rfl⟩;go_wp2_with fail
   refine wp_region_held_drew (S:=fun w'=>w'.cell? ⟨bl,2,none⟩=some (.string a)∧w'.cell? ⟨bl,3,none⟩=some (.string b)) (by kernel_rfl) ⟨Qc ((Qb _ _).drew) x2,Qc ((Qb _ _).drew) x3⟩ (fun hHeld=> ?_);refine TW 0 19 ?_;refine TW 1 20 ?_;refine TH 2 21 ?_;refine TW 4 23 ?_;refine TW 5 24 ?_;refine TH 6 25 ?_;refine RH 3 (fun K hK=> ?_);go_simp
   go_at_call 158
   refine(HLA.out _).mono ?_;rintro e9 w9 ⟨rfl,rfl⟩;dsimp only;refine hK.out _ _ hHeld (fun hHeld=> ?_);clear hK K
   try simp only[PP]
   refine RH 7 (fun K hK=> ?_);go_simp
   go_at_call 158
   refine(HLB.out _).mono ?_;rintro e9 w9 ⟨rfl,rfl⟩;dsimp only;refine hK.out _ _ hHeld (fun hHeld=> ?_);clear hK K
   try simp only[PP]
   refine TW 8 7 ?_;refine TW 9 8 ?_;refine RD ?_;clear hHeld;obtain⟨wd,hwd⟩:∃zz,zz=w.drew:=⟨_,rfl⟩;have hkd:Kn w wd:=by rw[hwd];exact(Qb _ _).drew
   rw[←hwd];have HRd:=Qh (H.out.kn hkd);have y1:=Qc hkd x1;clear hwd;by_cases ha0:ta.size=0
   ·have iea:=isE_true ha0;have hF3:Hid (R.bracket num [so,a,b]=none):=Qh (by rw[hF2.out,if_pos (.inl ha0)]);clear ha0 hF2;go_wp2_with fail
    go_ret;refine⟨4,rfl,QX hkd,?_⟩;rw[hF3.out];exact(by decide:(4:Int)≠0)
   ·have iea:=Yw ha0;by_cases hb0:tb.size=0
    ·have ieb:=isE_true hb0;have hF3:Hid (R.bracket num [so,a,b]=none):=Qh (by rw[hF2.out,if_pos (.inr hb0)]);clear ha0 hb0 hF2;go_wp2_with fail
     go_ret;refine⟨4,rfl,QX hkd,?_⟩;rw[hF3.out];exact(by decide:(4:Int)≠0)
    ·have ieb:=Yw hb0;have hF3:Hid (R.bracket num [so,a,b]=if YB R.rounds so=true then none else
       ({R with rounds:=R.rounds++[so]} :RS).add ⟨num,so,emptyB,9,[YV ta,⟨emptyB,so,0,true⟩,YV tb],true⟩):=Qh (by rw[hF2.out,if_neg (by rintro(h1|h1);exact ha0 h1;exact hb0 h1)])
     have HLK:=Qh (fun W (hm:MapA W TS A.br (mbM R.rounds))=>look_mb (w:=W) so (by omega) hm);obtain⟨_,_,_,_,_,_,_,_,m8,_⟩:=HRd.out.cells;clear ha0 hb0 hF2;cases hhs:YB R.rounds so with
     |true=>
      rw[hhs] at HLK;have hF4:Hid (R.bracket num [so,a,b]=none):=Qh (by rw[hF3.out,hhs];try rfl);clear hhs hF3;go_upto_region 6 with fail
      refine wp_region_held_drew (S:=fun w'=>w'.cell? ⟨p,8,none⟩=some (.map (some A.br))∧w'.cell? ⟨bl,1,none⟩=some (.string so)∧MapA w' TS A.br (mbM R.rounds)) (by kernel_rfl) ⟨Qc ((Qb _ _).drew) m8,Qc ((Qb _ _).drew) y1,HRd.out.rounds.kn ((Qb _ _).drew)⟩ (fun hHeld=> ?_);refine TW 0 35 ?_;refine TW 1 36 ?_;refine TW 2 37 ?_;refine TH 3 38 ?_;refine TW 4 39 ?_;refine TW 5 40 ?_;refine TH 6 41 ?_;refine TH 7 42 ?_ (hy:=by(intro w hSw;obtain⟨hs1,hs2,hs3⟩:=hSw;have hlk:=HLK.out w hs3;go_simp;try with_reducible rfl));refine TW 8 34 ?_;refine RD ?_;go_wp2_with fail
      go_ret;refine⟨9,rfl,QX (hkd.trans ((Qb _ _).drew)),?_⟩;rw[hF4.out];exact(by decide:(9:Int)≠0)
     |false=>
      rw[hhs] at HLK;have hF4:Hid (R.bracket num [so,a,b]=({R with rounds:=R.rounds++[so]} :RS).add ⟨num,so,emptyB,9,[YV ta,⟨emptyB,so,0,true⟩,YV tb],true⟩):=Qh (by rw[hF3.out,hhs];try rfl);have HNH:=Qh hhs;clear hhs hF3;go_upto_region 6 with fail
      refine wp_region_held_drew (S:=fun w'=>w'.cell? ⟨p,8,none⟩=some (.map (some A.br))∧w'.cell? ⟨bl,1,none⟩=some (.string so)∧MapA w' TS A.br (mbM R.rounds)) (by kernel_rfl) ⟨Qc ((Qb _ _).drew) m8,Qc ((Qb _ _).drew) y1,HRd.out.rounds.kn ((Qb _ _).drew)⟩ (fun hHeld=> ?_);refine TW 0 35 ?_;refine TW 1 36 ?_;refine TW 2 37 ?_;refine TH 3 38 ?_;refine TW 4 39 ?_;refine TW 5 40 ?_;refine TH 6 41 ?_;refine TH 7 42 ?_ (hy:=by(intro w hSw;obtain⟨hs1,hs2,hs3⟩:=hSw;have hlk:=HLK.out w hs3;go_simp;try with_reducible rfl));refine TW 8 34 ?_;refine RD ?_;obtain⟨we,hwe⟩:∃zz,zz=wd.drew:=⟨_,rfl⟩;have hke:Kn wd we:=by rw[hwe];exact(Qb _ _).drew
      rw[←hwe];have HRe:=Qh (HRd.out.kn hke);have u1:=Qc hke y1;have hkne:=hkd.trans hke;obtain⟨_,_,_,_,_,_,_,_,m8e,_⟩:=HRe.out.cells;clear hwe hHeld m8 y1 hkd hke HRd;go_upto_region 8 with fail
      refine wp_region_held_drew (S:=fun w'=>w'.cell? ⟨p,8,none⟩=some (.map (some A.br))∧w'.cell? ⟨bl,1,none⟩=some (.string so)) (by kernel_rfl) ⟨Qc ((Qb _ _).drew) m8e,Qc ((Qb _ _).drew) u1⟩ (fun hHeld=> ?_);obtain⟨wp,hwp⟩:∃zz,zz=we.drew:=⟨_,rfl⟩;have hkp:Kn we wp:=by rw[hwp];exact(Qb _ _).drew
      rw[←hwp] at hHeld⊢;clear hwp;refine TW 0 43 ?_;refine TW 1 44 ?_;refine TW 2 45 ?_;refine TH 3 46 ?_;refine TW 4 47 ?_;refine TW 5 48 ?_;refine TH 6 49 ?_;refine RH 7 (fun K hK=> ?_);obtain⟨lx,hlx⟩:=str_keyOf so (by omega);refine step_put0 (by rfl) (.tmp 46) (.tmp 49) (.const (.bool true)) (by rfl) (string_keyed Tryz.underlying9) Tryz.underlying127 (by rfl) (HRe.out.rounds.kn hkp) (.string so) (.bool true) lx (by rfl) (by rfl) hlx (mbM_not HNH.out) ?_;intro w10 hm10 hk10;have HR10:=Qh ((HRe.out.kn hkp).putRound hm10 hk10);have KB10:=(QX (B:=B) (hkne.trans hkp)).trans (hk10.mono (fun i hi e=>by have:=HRe.out.pB;omega));have hX1:w10.cell? ⟨p,8,none⟩=some (.map (some A.br)):=by obtain⟨_,_,_,_,_,_,_,_,q,_⟩:=HR10.out.cells;exact q
      have hX2:w10.cell? ⟨bl,1,none⟩=some (.string so):=Qi hk10 (Qc hkp u1) (show¬bl=A.br from fun e=>HO.out.2.2.2.2.2 e.symm);clear hm10 hk10;dsimp only;refine hK.out _ _ ⟨hX1,hX2⟩ (fun hHeld=> ?_);have q1:=hX2;clear hK K hX1 hX2;refine RD ?_;clear hHeld;go_upto_region 9 with fail
      refine wp_region_held_drew (S:=fun w'=>True) (by kernel_rfl) trivial (fun hHeld=> ?_);obtain⟨wq,hwq⟩:∃zz,zz=w10.drew:=⟨_,rfl⟩;have KN0:Kn w10 wq:=by rw[hwq];exact(Qb _ _).drew
      rw[←hwq];clear hwq;refine TW 0 50 ?_;refine TW 1 51 ?_;refine TW 2 52 ?_;refine TW 3 53 ?_;refine TW 5 55 ?_;refine TW 6 56 ?_;refine TW 7 57 ?_;refine TW 8 58 ?_;refine TW 11 61 ?_;refine TW 12 62 ?_;refine RH2 4 9 (fun K hK=> ?_) (fun K hK=> ?_)
      ·have xq:wq.cell? ⟨bl,1,none⟩=some (.string so):=Qc KN0 q1;go_simp;clear xq;refine hK.out _ _ trivial (fun hHeld=> ?_);clear hK K
       try simp only[PP]
       refine RH 9 (fun K hK=> ?_);have xq:wq.cell? ⟨bl,1,none⟩=some (.string so):=Qc KN0 q1;go_simp;clear xq;refine hK.out _ _ trivial (fun hHeld=> ?_);clear hK K
       try simp only[PP]
       refine TW 10 60 ?_;refine RH 13 (fun K hK=> ?_);go_simp;obtain⟨y1,hw1⟩:∃zz,zz=wq.alloc (.cells #[.string ta,.string ⟨#[]⟩,.int .i64 0,.bool false,.string ⟨#[]⟩,.string so,.int .i64 0,.bool true,.string tb,.string ⟨#[]⟩,.int .i64 0,.bool false] TWd):=⟨_,rfl⟩;have hk1:Kn wq y1:=by rw[hw1];exact(Qb _ _).alloc _
       obtain⟨ge,hge⟩:∃zz,zz=wq.heap.size:=⟨_,rfl⟩;have GE:y1.heap[ge]? =some (.cells #[.string ta,.string ⟨#[]⟩,.int .i64 0,.bool false,.string ⟨#[]⟩,.string so,.int .i64 0,.bool true,.string tb,.string ⟨#[]⟩,.int .i64 0,.bool false] TWd (0,0)):=by rw[hw1,hge];exact Qf _ _
       have KN1:=KN0.trans hk1;have HGB:Hid (B≤ge):=Qh (by have h1:=HR10.out.pB.1;have h2:=HR10.out.lt;have h3:=(KN0).size;omega);rw[←hw1,←hge];clear hw1 hge hk1;refine hK.out _ _ trivial (fun hHeld=> ?_);clear hK K
       try simp only[PP]
       refine TW 14 64 ?_;refine RH 15 (fun K hK=> ?_);go_simp
       go_at_call 157
       have HADD:Calls Tryz.prog 157 #[ptr p,.agg #[.int .i64 num,.string so,.string ⟨#[]⟩,.int .i64 9,.slice (some ⟨ge,0,none⟩) 3 3,.bool true]] y1 (ErrPost B p A (({R with rounds:=R.rounds++[so]} :RS).add ⟨num,so,⟨#[]⟩,9,[YV ta,⟨⟨#[]⟩,so,0,true⟩,YV tb],true⟩) y1):=gadd_c (cw:=3) (aw:=some ⟨ge,0,none⟩) ⟨num,so,⟨#[]⟩,9,[YV ta,⟨⟨#[]⟩,so,0,true⟩,YV tb],true⟩ (HR10.out.kn KN1) ⟨HOK.out.lits,HOK.out.cls,HOK.out.sorts,HOK.out.lines,HOK.out.litz,HOK.out.clz,HOK.out.words⟩ (own_three HGB.out GE) ⟨by simp,hnum,by simp⟩ (fun y hy=>by simp at hy;rcases hy with rfl|rfl|rfl;exact hal;exact(by decide:(⟨#[]⟩:ByteArray).size≤20);exact hbl);refine HADD.mono ?_;rintro e9 w9 ⟨n9,rfl,hkz,hmz⟩;dsimp only;refine hK.out _ _ trivial (fun hHeld=> ?_);clear hK K
       try simp only[PP]
       refine TW 16 6 ?_;refine RD ?_;go_wp2_with fail
       go_ret;refine⟨n9,rfl,(KB10.trans (QX KN1)).trans hkz,?_⟩;rw[hF4.out];exact hmz
      ·have xq:wq.cell? ⟨bl,1,none⟩=some (.string so):=Qc KN0 q1;go_simp;clear xq;refine hK.out _ _ trivial (fun hHeld=> ?_);clear hK K
       try simp only[PP]
       refine TW 10 60 ?_;refine RH2 4 13 (fun K hK=> ?_) (fun K hK=> ?_)
       ·have xq:wq.cell? ⟨bl,1,none⟩=some (.string so):=Qc KN0 q1;go_simp;clear xq;refine hK.out _ _ trivial (fun hHeld=> ?_);clear hK K
        try simp only[PP]
        refine RH 13 (fun K hK=> ?_);go_simp;obtain⟨y2,hw2⟩:∃zz,zz=wq.alloc (.cells #[.string ta,.string ⟨#[]⟩,.int .i64 0,.bool false,.string ⟨#[]⟩,.string so,.int .i64 0,.bool true,.string tb,.string ⟨#[]⟩,.int .i64 0,.bool false] TWd):=⟨_,rfl⟩;have hk2:Kn wq y2:=by rw[hw2];exact(Qb _ _).alloc _
        obtain⟨ge,hge⟩:∃zz,zz=wq.heap.size:=⟨_,rfl⟩;have GE:y2.heap[ge]? =some (.cells #[.string ta,.string ⟨#[]⟩,.int .i64 0,.bool false,.string ⟨#[]⟩,.string so,.int .i64 0,.bool true,.string tb,.string ⟨#[]⟩,.int .i64 0,.bool false] TWd (0,0)):=by rw[hw2,hge];exact Qf _ _
        have KN2:=KN0.trans hk2;have HGB:Hid (B≤ge):=Qh (by have h1:=HR10.out.pB.1;have h2:=HR10.out.lt;have h3:=(KN0).size;omega);rw[←hw2,←hge];clear hw2 hge hk2;refine hK.out _ _ trivial (fun hHeld=> ?_);clear hK K
        try simp only[PP]
        refine TW 14 64 ?_;refine RH 15 (fun K hK=> ?_);go_simp
        go_at_call 157
        have HADD:Calls Tryz.prog 157 #[ptr p,.agg #[.int .i64 num,.string so,.string ⟨#[]⟩,.int .i64 9,.slice (some ⟨ge,0,none⟩) 3 3,.bool true]] y2 (ErrPost B p A (({R with rounds:=R.rounds++[so]} :RS).add ⟨num,so,⟨#[]⟩,9,[YV ta,⟨⟨#[]⟩,so,0,true⟩,YV tb],true⟩) y2):=gadd_c (cw:=3) (aw:=some ⟨ge,0,none⟩) ⟨num,so,⟨#[]⟩,9,[YV ta,⟨⟨#[]⟩,so,0,true⟩,YV tb],true⟩ (HR10.out.kn KN2) ⟨HOK.out.lits,HOK.out.cls,HOK.out.sorts,HOK.out.lines,HOK.out.litz,HOK.out.clz,HOK.out.words⟩ (own_three HGB.out GE) ⟨by simp,hnum,by simp⟩ (fun y hy=>by simp at hy;rcases hy with rfl|rfl|rfl;exact hal;exact(by decide:(⟨#[]⟩:ByteArray).size≤20);exact hbl);refine HADD.mono ?_;rintro e9 w9 ⟨n9,rfl,hkz,hmz⟩;dsimp only;refine hK.out _ _ trivial (fun hHeld=> ?_);clear hK K
        try simp only[PP]
        refine TW 16 6 ?_;refine RD ?_;go_wp2_with fail
        go_ret;refine⟨n9,rfl,(KB10.trans (QX KN2)).trans hkz,?_⟩;rw[hF4.out];exact hmz
       ·go_simp;obtain⟨y3,hw3⟩:∃zz,zz=wq.alloc (.cells #[.string ta,.string ⟨#[]⟩,.int .i64 0,.bool false,.string ⟨#[]⟩,.string so,.int .i64 0,.bool true,.string tb,.string ⟨#[]⟩,.int .i64 0,.bool false] TWd):=⟨_,rfl⟩;have hk3:Kn wq y3:=by rw[hw3];exact(Qb _ _).alloc _
        obtain⟨ge,hge⟩:∃zz,zz=wq.heap.size:=⟨_,rfl⟩;have GE:y3.heap[ge]? =some (.cells #[.string ta,.string ⟨#[]⟩,.int .i64 0,.bool false,.string ⟨#[]⟩,.string so,.int .i64 0,.bool true,.string tb,.string ⟨#[]⟩,.int .i64 0,.bool false] TWd (0,0)):=by rw[hw3,hge];exact Qf _ _
        have KN3:=KN0.trans hk3;have HGB:Hid (B≤ge):=Qh (by have h1:=HR10.out.pB.1;have h2:=HR10.out.lt;have h3:=(KN0).size;omega);rw[←hw3,←hge];clear hw3 hge hk3;refine hK.out _ _ trivial (fun hHeld=> ?_);clear hK K
        try simp only[PP]
        refine RH 4 (fun K hK=> ?_);have xq:y3.cell? ⟨bl,1,none⟩=some (.string so):=Qc KN3 q1;go_simp;clear xq;refine hK.out _ _ trivial (fun hHeld=> ?_);clear hK K
        try simp only[PP]
        refine TW 14 64 ?_;refine RH 15 (fun K hK=> ?_);go_simp
        go_at_call 157
        have HADD:Calls Tryz.prog 157 #[ptr p,.agg #[.int .i64 num,.string so,.string ⟨#[]⟩,.int .i64 9,.slice (some ⟨ge,0,none⟩) 3 3,.bool true]] y3 (ErrPost B p A (({R with rounds:=R.rounds++[so]} :RS).add ⟨num,so,⟨#[]⟩,9,[YV ta,⟨⟨#[]⟩,so,0,true⟩,YV tb],true⟩) y3):=gadd_c (cw:=3) (aw:=some ⟨ge,0,none⟩) ⟨num,so,⟨#[]⟩,9,[YV ta,⟨⟨#[]⟩,so,0,true⟩,YV tb],true⟩ (HR10.out.kn KN3) ⟨HOK.out.lits,HOK.out.cls,HOK.out.sorts,HOK.out.lines,HOK.out.litz,HOK.out.clz,HOK.out.words⟩ (own_three HGB.out GE) ⟨by simp,hnum,by simp⟩ (fun y hy=>by simp at hy;rcases hy with rfl|rfl|rfl;exact hal;exact(by decide:(⟨#[]⟩:ByteArray).size≤20);exact hbl);refine HADD.mono ?_;rintro e9 w9 ⟨n9,rfl,hkz,hmz⟩;dsimp only;refine hK.out _ _ trivial (fun hHeld=> ?_);clear hK K
        try simp only[PP]
        refine TW 16 6 ?_;refine RD ?_;go_wp2_with fail
        go_ret;refine⟨n9,rfl,(KB10.trans (QX KN3)).trans hkz,?_⟩;rw[hF4.out];exact hmz
 ·have i3:((l.length:Int)==3)=false:=by rw[beq_eq_false_iff_ne];omega
  have i3':¬(l.length:Int)=3:=by omega
  have hF:Hid (R.bracket num l=none):=Qh (R.bracket_not num l h3);clear h3;go_enter Tryz.func110,Tryz.ntmps110;go_wp2_with fail
  go_ret;refine⟨4,rfl,Qb _ _,?_⟩;rw[hF.out];exact(by decide:(4:Int)≠0)
theorem token_nil{p c:Nat}{a:Option Addr}{w:World}(lay:Bool):
  Calls Tryz.prog 107 #[ptr p,.slice a 0 c,.bool lay] w fun e w'=>e= .returned (.int .i64 4)∧w'=w:=by
 go_enter Tryz.func107,Tryz.ntmps107;go_wp2_with fail
 go_ret;exact⟨rfl,rfl⟩
theorem sort_nil{p c:Nat}{a:Option Addr}{w:World} :
  Calls Tryz.prog 108 #[ptr p,.slice a 0 c] w fun e w'=>e= .returned (.int .i64 4)∧w'=w:=by
 go_enter Tryz.func108,Tryz.ntmps108;go_wp2_with fail
 go_ret;exact⟨rfl,rfl⟩
theorem rule_nil{p c num:Nat}{a:Option Addr}{w:World} :
  Calls Tryz.prog 109 #[ptr p,.int .i64 num,.slice a 0 c] w fun e w'=>e= .returned (.int .i64 4)∧w'=w:=by
 go_enter Tryz.func109,Tryz.ntmps109;go_wp2_with fail
 go_ret;exact⟨rfl,rfl⟩
theorem bracket_nil{p c num:Nat}{a:Option Addr}{w:World} :
  Calls Tryz.prog 110 #[ptr p,.int .i64 num,.slice a 0 c] w fun e w'=>e= .returned (.int .i64 4)∧w'=w:=by
 go_enter Tryz.func110,Tryz.ntmps110;go_wp2_with fail
 go_ret;exact⟨rfl,rfl⟩
theorem splitW_len(s:ByteArray):(splitW s).length=Lib.countB s spB+1:=Lib.splitB_all spB (by decide) 0 _ s rfl
theorem extract_le(s:ByteArray)(a b:Nat):(s.extract a b).size≤s.size:=by
 show(s.extract a b).data.size≤s.data.size;rw[ByteArray.data_extract];simp;omega
theorem splitB_size(sep:ByteArray)(sv:Nat):∀(k:Nat) (s:ByteArray),∀x∈Lib.splitB sep sv k s,x.size≤s.size
 |0,s=>fun x hx=>by simp[Lib.splitB] at hx;subst hx;exact Nat.le_refl _
 |k+1,s=>fun x hx=>by
  unfold Lib.splitB at hx;split at hx
  ·simp at hx;subst hx;exact Nat.le_refl _
  ·rcases List.mem_cons.1 hx with h|h
   ·subst h;exact extract_le _ _ _
   ·exact Nat.le_trans (splitB_size sep sv k _ x h) (extract_le _ _ _)
theorem splitW_size(s:ByteArray):∀x∈splitW s,x.size≤s.size:=splitB_size spB 0 _ s
theorem countB_le1(s:ByteArray):Lib.countB s spB≤s.size:=by
 have:=Lib.countB_le spB (by decide) s.size s (Nat.le_refl _);simpa using this
theorem split_c(s:ByteArray)(w:World)(h:MaxLenAt w)(hs:s.size≤1000000000):
  Calls Tryz.prog 106 #[.string s,.string ⟨#[32]⟩] w fun e w'=>e= .returned (.slice (some ⟨w.heap.size,0,none⟩) (splitW s).length (splitW s).length)∧w'=w.alloc (.cells ((splitW s).map Value.string).toArray TS):=by
 obtain⟨m,hm⟩:=h;rw[splitW_len];exact Tryz.strings_Split s ⟨#[32]⟩ m w (by omega) hm (by decide)
theorem ErrPost.none{B p:Nat}{A:RA}{o:Option RS}{w w':World}{n:Int}(ho:o=none)(hn:n≠0)(hk:Kp (fun k=>B≤k) w w'):ErrPost B p A o w (.returned (.int .i64 n)) w':=by
 subst ho;exact⟨n,rfl,hk,hn⟩
theorem RS.take_words{R:RS}{n:Nat}{s h:ByteArray}{l:List ByteArray}(h0:¬s.size=0)(h1:¬bt s 0=35)(hw:splitW s=h::l):
  R.take n s=if h=tokenB then R.token l false else if h=layoutB then R.token l true else if h=sortB then R.sort_ l
   else if h=ruleB then R.rule n l else if h=bracketB then R.bracket n l else none:=by
 unfold RS.take;rw[if_neg (by rintro(h2|h2);exact h0 h2;exact h1 h2),hw]
theorem take_c{B p num:Nat}{R:RS}{A:RA}{w:World}(s:ByteArray)(h:RdAt w B p R A)(ok:RSok R)(hm:MaxLenAt w)(hs:s.size≤1000000)(hnum:num≤2000000):
  Calls Tryz.prog 63 #[ptr p,.int .i64 num,.string s] w (ErrPost B p A (R.take num s) w):=by
 by_cases h0:s.size=0
 ·have he:=isE_true h0;have hF:Hid (R.take num s=some R):=Qh (by unfold RS.take;rw[if_pos (.inl h0)]);have H:=Qh (And.intro h ok);clear h ok h0;go_enter Tryz.func63,Tryz.ntmps63;go_wp2_with fail
  go_ret;refine⟨0,rfl,Qb _ _,?_⟩;rw[hF.out];exact⟨rfl,H.out.2,A,H.out.1,rfl,rfl⟩
 ·have he:=Yw h0;have hlt:0<s.size:=by omega
  have hlt':(0:Int)<s.size:=by omega
  have hE:=bt_in hlt;by_cases h1:bt s 0=35
  ·have i1:(((s[0].toNat:Nat):Int)==35)=true:=by rw[←hE];simp[h1]
   have hF:Hid (R.take num s=some R):=Qh (by unfold RS.take;rw[if_pos (.inr h1)]);have H:=Qh (And.intro h ok);clear h ok h1 hE;go_enter Tryz.func63,Tryz.ntmps63;go_wp2_with fail
   go_ret;refine⟨0,rfl,Qb _ _,?_⟩;rw[hF.out];exact⟨rfl,H.out.2,A,H.out.1,rfl,rfl⟩
  ·have i1:(((s[0].toNat:Nat):Int)==35)=false:=by rw[←hE];simp;omega
   obtain⟨hd,l,hsp⟩:∃hd l,splitW s=hd::l:=by
    have:=splitW_len s;cases hx:splitW s with
    |nil=>rw[hx] at this;simp at this
    |cons a l=>exact⟨a,l,rfl⟩
   have HSZ:Hid (∀x∈hd::l,x.size≤1000000):=Qh (fun x hx=>by have:=splitW_size s x (by rw[hsp];exact hx);omega);have hlen:l.length≤1000000:=by
    have e1:=splitW_len s;have e2:=countB_le1 s;rw[hsp] at e1;simp at e1;omega
   have hF:=RS.take_words (R:=R) (n:=num) h0 h1 hsp;have hSP:=split_c s w hm (by omega);rw[hsp] at hSP;simp only[List.length_cons] at hSP;obtain⟨bl,hbl⟩:∃z,z=w.heap.size:=⟨_,rfl⟩;obtain⟨w1,hw1⟩:∃z,z=w.alloc (.cells ((hd::l).map Value.string).toArray TS):=⟨_,rfl⟩;rw[←hbl,←hw1] at hSP;have HSP:=Qh hSP;have hk1:Kn w w1:=by rw[hw1];exact(Qb _ _).alloc _
   have hbb:w1.heap[bl]? =some (.cells ((hd::l).map Value.string).toArray TS (0,0)):=by rw[hw1,hbl];exact Qf _ _
   have x0:w1.cell? ⟨bl,0,none⟩=some (.string hd):=by rw[Qa hbb];try rfl
   have HWL:Hid (WL w1 bl 1 l):=Qh (fun i hi=>by
    rw[Qa hbb,List.getElem?_toArray,List.getElem?_map,show 1+i=i+1 by omega,List.getElem?_cons_succ,List.getElem?_eq_getElem hi];try rfl)
   have HO:Hid (Off A p bl):=Qh ⟨by have:=h.lt;omega,fun g hg=>by have:=(h.lits.lt g hg).2;omega,fun g hg=>by have:=(h.sorts.lt g hg).2;omega,by have:=h.names.lt;omega,by have:=h.cons.lt;omega,by have:=h.rounds.lt;omega⟩;have HR:=Qh (h.kn hk1);have HM:=Qh (hm.kn hk1);have HOK:=Qh ok;have HK1:=Qh hk1;have HF:=Qh hF;clear h ok hm hF hSP hbl hw1 hk1 hbb hsp h1 h0 hE;by_cases h1:hd=tokenB
   ·have c1:(hd.toList==[116,111,107,101,110])=true:=by rw[YJ];exact decide_eq_true h1
    have hF2:Hid (R.take num s=R.token l false):=Qh (by rw[HF.out,if_pos h1]);clear h1;by_cases hl0:l=[]
    ·subst hl0;have hF3:Hid (R.take num s=none):=Qh (by rw[hF2.out];exact R.token_not [] _ (by simp));simp only[List.length_nil,Nat.zero_add] at HSP;go_enter Tryz.func63,Tryz.ntmps63;go_wp2_with fail
     refine HSP.out.mono ?_;rintro e9 w9 ⟨rfl,rfl⟩;go_wp2_with fail
     refine(token_nil (p:=p) (c:=0) false).mono ?_;rintro e9 w8 ⟨rfl,rfl⟩;go_wp2_with fail
     go_ret;exact ErrPost.none hF3.out (by decide) (QX HK1.out)
    ·have hl1:0<l.length:=List.length_pos_iff.2 hl0;have hl2:¬l.length=0:=by omega
     have hl3:(0:Int)<l.length:=by omega
     clear hl0;go_enter Tryz.func63,Tryz.ntmps63;go_wp2_with fail
     refine HSP.out.mono ?_;rintro e9 w9 ⟨rfl,rfl⟩;go_wp2_with fail
     refine(token_c (c:=l.length) l false HR.out HOK.out HWL.out HO.out (by omega) (fun x hx=>by have:=HSZ.out x (by simp[hx]);omega)).mono ?_;rintro e9 w8 ⟨n9,rfl,hkz,hmz⟩;go_wp2_with fail
     go_ret;refine⟨n9,rfl,(QX HK1.out).trans hkz,?_⟩;rw[hF2.out];exact hmz
   ·have c1:(hd.toList==[116,111,107,101,110])=false:=by rw[YJ];exact decide_eq_false h1
    by_cases h2:hd=layoutB
    ·have c2:(hd.toList==[108,97,121,111,117,116])=true:=by rw[YJ];exact decide_eq_true h2
     have hF2:Hid (R.take num s=R.token l true):=Qh (by rw[HF.out,if_neg h1,if_pos h2]);clear h2 h1;by_cases hl0:l=[]
     ·subst hl0;have hF3:Hid (R.take num s=none):=Qh (by rw[hF2.out];exact R.token_not [] _ (by simp));simp only[List.length_nil,Nat.zero_add] at HSP;go_enter Tryz.func63,Tryz.ntmps63;go_wp2_with fail
      refine HSP.out.mono ?_;rintro e9 w9 ⟨rfl,rfl⟩;go_wp2_with fail
      refine(token_nil (p:=p) (c:=0) true).mono ?_;rintro e9 w8 ⟨rfl,rfl⟩;go_wp2_with fail
      go_ret;exact ErrPost.none hF3.out (by decide) (QX HK1.out)
     ·have hl1:0<l.length:=List.length_pos_iff.2 hl0;have hl2:¬l.length=0:=by omega
      have hl3:(0:Int)<l.length:=by omega
      clear hl0;go_enter Tryz.func63,Tryz.ntmps63;go_wp2_with fail
      refine HSP.out.mono ?_;rintro e9 w9 ⟨rfl,rfl⟩;go_wp2_with fail
      refine(token_c (c:=l.length) l true HR.out HOK.out HWL.out HO.out (by omega) (fun x hx=>by have:=HSZ.out x (by simp[hx]);omega)).mono ?_;rintro e9 w8 ⟨n9,rfl,hkz,hmz⟩;go_wp2_with fail
      go_ret;refine⟨n9,rfl,(QX HK1.out).trans hkz,?_⟩;rw[hF2.out];exact hmz
    ·have c2:(hd.toList==[108,97,121,111,117,116])=false:=by rw[YJ];exact decide_eq_false h2
     by_cases h3:hd=sortB
     ·have c3:(hd.toList==[115,111,114,116])=true:=by rw[YJ];exact decide_eq_true h3
      have hF2:Hid (R.take num s=R.sort_ l):=Qh (by rw[HF.out,if_neg h1,if_neg h2,if_pos h3]);clear h3 h1 h2;by_cases hl0:l=[]
      ·subst hl0;have hF3:Hid (R.take num s=none):=Qh (by rw[hF2.out];exact rfl);simp only[List.length_nil,Nat.zero_add] at HSP;go_enter Tryz.func63,Tryz.ntmps63;go_wp2_with fail
       refine HSP.out.mono ?_;rintro e9 w9 ⟨rfl,rfl⟩;go_wp2_with fail
       refine(sort_nil (p:=p) (c:=0)).mono ?_;rintro e9 w8 ⟨rfl,rfl⟩;go_wp2_with fail
       go_ret;exact ErrPost.none hF3.out (by decide) (QX HK1.out)
      ·have hl1:0<l.length:=List.length_pos_iff.2 hl0;have hl2:¬l.length=0:=by omega
       have hl3:(0:Int)<l.length:=by omega
       clear hl0;go_enter Tryz.func63,Tryz.ntmps63;go_wp2_with fail
       refine HSP.out.mono ?_;rintro e9 w9 ⟨rfl,rfl⟩;go_wp2_with fail
       refine(sort_c (c:=l.length) l HR.out HOK.out HWL.out HO.out (by omega) (fun x hx=>by have:=HSZ.out x (by simp[hx]);omega)).mono ?_;rintro e9 w8 ⟨n9,rfl,hkz,hmz⟩;go_wp2_with fail
       go_ret;refine⟨n9,rfl,(QX HK1.out).trans hkz,?_⟩;rw[hF2.out];exact hmz
     ·have c3:(hd.toList==[115,111,114,116])=false:=by rw[YJ];exact decide_eq_false h3
      by_cases h4:hd=ruleB
      ·have c4:(hd.toList==[114,117,108,101])=true:=by rw[YJ];exact decide_eq_true h4
       have hF2:Hid (R.take num s=R.rule num l):=Qh (by rw[HF.out,if_neg h1,if_neg h2,if_neg h3,if_pos h4]);clear h4 h1 h2 h3;by_cases hl0:l=[]
       ·subst hl0;have hF3:Hid (R.take num s=none):=Qh (by rw[hF2.out];exact R.rule_short num [] (by simp));simp only[List.length_nil,Nat.zero_add] at HSP;go_enter Tryz.func63,Tryz.ntmps63;go_wp2_with fail
        refine HSP.out.mono ?_;rintro e9 w9 ⟨rfl,rfl⟩;go_wp2_with fail
        refine(rule_nil (p:=p) (c:=0) (num:=num)).mono ?_;rintro e9 w8 ⟨rfl,rfl⟩;go_wp2_with fail
        go_ret;exact ErrPost.none hF3.out (by decide) (QX HK1.out)
       ·have hl1:0<l.length:=List.length_pos_iff.2 hl0;have hl2:¬l.length=0:=by omega
        have hl3:(0:Int)<l.length:=by omega
        clear hl0;go_enter Tryz.func63,Tryz.ntmps63;go_wp2_with fail
        refine HSP.out.mono ?_;rintro e9 w9 ⟨rfl,rfl⟩;go_wp2_with fail
        refine(grule_c (c0:=l.length) (num:=num) l HR.out HOK.out HM.out HWL.out HO.out (by omega) (Nat.le_refl _) (fun x hx=>HSZ.out x (by simp[hx])) hnum).mono ?_;rintro e9 w8 ⟨n9,rfl,hkz,hmz⟩;go_wp2_with fail
        go_ret;refine⟨n9,rfl,(QX HK1.out).trans hkz,?_⟩;rw[hF2.out];exact hmz
      ·have c4:(hd.toList==[114,117,108,101])=false:=by rw[YJ];exact decide_eq_false h4
       by_cases h5:hd=bracketB
       ·have c5:(hd.toList==[98,114,97,99,107,101,116])=true:=by rw[YJ];exact decide_eq_true h5
        have hF2:Hid (R.take num s=R.bracket num l):=Qh (by rw[HF.out,if_neg h1,if_neg h2,if_neg h3,if_neg h4,if_pos h5]);clear h5 h1 h2 h3 h4;by_cases hl0:l=[]
        ·subst hl0;have hF3:Hid (R.take num s=none):=Qh (by rw[hF2.out];exact R.bracket_not num [] (by simp));simp only[List.length_nil,Nat.zero_add] at HSP;go_enter Tryz.func63,Tryz.ntmps63;go_wp2_with fail
         refine HSP.out.mono ?_;rintro e9 w9 ⟨rfl,rfl⟩;go_wp2_with fail
         refine(bracket_nil (p:=p) (c:=0) (num:=num)).mono ?_;rintro e9 w8 ⟨rfl,rfl⟩;go_wp2_with fail
         go_ret;exact ErrPost.none hF3.out (by decide) (QX HK1.out)
        ·have hl1:0<l.length:=List.length_pos_iff.2 hl0;have hl2:¬l.length=0:=by omega
         have hl3:(0:Int)<l.length:=by omega
         clear hl0;go_enter Tryz.func63,Tryz.ntmps63;go_wp2_with fail
         refine HSP.out.mono ?_;rintro e9 w9 ⟨rfl,rfl⟩;go_wp2_with fail
         refine(bracket_c (c0:=l.length) (num:=num) l HR.out HOK.out HWL.out HO.out (by omega) (fun x hx=>HSZ.out x (by simp[hx])) hnum).mono ?_;rintro e9 w8 ⟨n9,rfl,hkz,hmz⟩;go_wp2_with fail
         go_ret;refine⟨n9,rfl,(QX HK1.out).trans hkz,?_⟩;rw[hF2.out];exact hmz
       ·have c5:(hd.toList==[98,114,97,99,107,101,116])=false:=by rw[YJ];exact decide_eq_false h5
        have hF2:Hid (R.take num s=none):=Qh (by rw[HF.out,if_neg h1,if_neg h2,if_neg h3,if_neg h4,if_neg h5]);clear h1 h2 h3 h4 h5;go_enter Tryz.func63,Tryz.ntmps63;go_wp2_with fail
        refine HSP.out.mono ?_;rintro e9 w9 ⟨rfl,rfl⟩;go_wp2_with fail
        go_ret;exact ErrPost.none hF2.out (by decide) (QX HK1.out)
def clIdx(cs:List GC)(x:ByteArray)(k:Nat):Prop:=∀j (h:j<cs.length),j<k→cs[j].name≠x
theorem str_eq2(a b:ByteArray):(a.toList==b.toList)=decide (a=b):=by
 rw[YJ];congr 1;rw[Lib.toList_data]
theorem class1_c{bx:Nat}{w:World}(c:GC)(x:ByteArray)(hb:w.heap[bx]? =some (.cells #[.string x] TS (0,0))):
  Calls Tryz.prog 253 #[.agg #[.string c.name,.string c.regex,.bool c.layout],.pointer (some ⟨bx,0,none⟩)] w fun e w'=>e= .returned (.bool (decide (c.name=x)))∧Kn w w':=by
 have c0:w.cell? ⟨bx,0,none⟩=some (.string x):=by rw[Qa hb];try rfl
 have hl:=Ql hb;have hE:=Qh (str_eq2 c.name x);clear hb;go_enter Tryz.func253,Tryz.ntmps253;go_wp2_with fail
 go_ret;exact⟨by rw[←hE.out];try rfl,(Qb _ _).alloc _⟩
def idxC(cs:List GC)(x:ByteArray):Int:=match cs.findIdx? (fun c=>decide (c.name=x)) with|some i=>(i:Int)|none=> -1
theorem clIdx_some{cs:List GC}{x:ByteArray}{k:Nat}(h:clIdx cs x k)(hk:k<cs.length)(hx:cs[k].name=x):cs.findIdx? (fun c=>decide (c.name=x))=some k:=by
 rw[List.findIdx?_eq_some_iff_getElem];exact⟨hk,decide_eq_true hx,fun j hj=>by simpa using h j (by omega) hj⟩
theorem clIdx_none{cs:List GC}{x:ByteArray}(h:clIdx cs x cs.length):cs.findIdx? (fun c=>decide (c.name=x))=none:=by
 rw[List.findIdx?_eq_none_iff];intro c hc;obtain⟨j,hj,rfl⟩:=List.getElem_of_mem hc;exact decide_eq_false (h j hj hj)
theorem indexFunc_c{B bx:Nat}{v:Value}{cs:List GC}{w:World}(x:ByteArray)(h:OwnK w B TCl 3 v (cs.map clL))(hb:w.heap[bx]? =some (.cells #[.string x] TS (0,0)))(hl:cs.length≤1000):
  Calls Tryz.prog 252 #[v,.func (.func 253) #[] #[.pointer (some ⟨bx,0,none⟩)]] w fun e w'=>e= .returned (.int .i64 (idxC cs x))∧Kn w w':=by
 obtain⟨a,c,rfl,_,_,hg⟩:=h.row (fun C hC=>by obtain⟨x,_,rfl⟩:=List.mem_map.1 hC;rfl);rw[List.length_map] at*;have H:=Qh h;have HB:=Qh hb;clear h hb;go_enter Tryz.func252,Tryz.ntmps252;go_wp2_with fail
 go_loopw [8] (fun s8 wr=>∃k:Nat,s8= .int .i64 k∧k≤cs.length∧Hid (clIdx cs x k)∧Kn w wr) (fun s8 _=>cs.length-(intOf s8).toNat)
 case atStart=>exact⟨0,rfl,Nat.zero_le _,Qh (fun j h1 h2=>by omega),Qb _ _⟩
 case round=>
  obtain⟨k,rfl,hk,hno,hkn⟩:=hrel;by_cases hlt:k<cs.length
  ·obtain⟨g,rfl,_,_,hcs⟩:=hg (fun e=>by rw[List.map_eq_nil_iff] at e;subst e;simp at hlt);have h3:=hcs k (by simpa using hlt);have c0:wr.cell? ⟨g,k*3,none⟩=some (.string cs[k].name):=by
    have:=(h3 0 (by omega)).1;rw[show 0+3*k+0=k*3 by omega] at this;refine Qc hkn ?_;rw[this];simp[clL]
   have c1:wr.cell? ⟨g,k*3+1,none⟩=some (.string cs[k].regex):=by
    have:=(h3 1 (by omega)).1;rw[show 0+3*k+1=k*3+1 by omega] at this;refine Qc hkn ?_;rw[this];simp[clL]
   have c2:wr.cell? ⟨g,k*3+2,none⟩=some (.bool cs[k].layout):=by
    have:=(h3 2 (by omega)).1;rw[show 0+3*k+2=k*3+2 by omega] at this;refine Qc hkn ?_;rw[this];simp[clL]
   obtain⟨y,hy⟩:∃y,y=cs[k]:=⟨_,rfl⟩;rw[←hy] at c0 c1 c2;have HC1:=Qh (class1_c y x (hkn.blk HB.out (fun x=>x)));have HY:=Qh hy;clear hy hcs h3;by_cases hx:y.name=x
   ·have hF:Hid (idxC cs x=(k:Nat)):=Qh (by unfold idxC;rw[clIdx_some hno.out hlt (by rw[←HY.out];exact hx)]);rw[decide_eq_true hx] at HC1;clear hx;go_wp2_with fail
    refine HC1.out.mono ?_;rintro e w4 ⟨rfl,hk4⟩;have hkn4:=hkn.trans hk4;go_wp2_with fail
    go_ret;exact⟨by rw[hF.out];try rfl,hkn4⟩
   ·have hN:Hid (clIdx cs x (k+1)):=Qh (fun j h1 h2=>by
     rcases Nat.lt_succ_iff_lt_or_eq.1 h2 with h|h
     ·exact hno.out j h1 h
     ·subst h;rw[←HY.out];exact hx)
    rw[decide_eq_false hx] at HC1;clear hx;go_wp2_with fail
    refine HC1.out.mono ?_;rintro e w4 ⟨rfl,hk4⟩;have hkn4:=hkn.trans hk4;go_wp2_with fail
    go_roundw
    case rel=>exact⟨k+1,by go_num,by omega,hN,hkn4⟩
    case measure=>simp[intOf];omega
  ·obtain rfl:k=cs.length:=by omega
   have hF:Hid (idxC cs x= -1):=Qh (by unfold idxC;rw[clIdx_none hno.out]);go_wp2_with fail
   go_ret;exact⟨by rw[hF.out];try rfl,hkn⟩
def clsV(R:RS)(x:ByteArray):Value:= .tuple #[.int .i64 ((R.lits.length:Int)+idxC R.cls x),.bool (decide (0≤idxC R.cls x))]
theorem idxC_ge(cs:List GC)(x:ByteArray): -1≤idxC cs x∧idxC cs x<cs.length:=by
 unfold idxC;split
 ·rename_i i h;obtain⟨h1,_⟩:=List.findIdx?_eq_some_iff_getElem.1 h;omega
 ·omega
theorem gclass_c{B p:Nat}{R:RS}{A:RA}{w:World}(x:ByteArray)(h:RdAt w B p R A)(ok:RSok R):
  Calls Tryz.prog 210 #[ptr p,.string x] w fun e w'=>e= .returned (clsV R x)∧Kn w w':=by
 obtain⟨a1,c1,hv1,_⟩:=h.cls.row (fun C hC=>by obtain⟨x,_,rfl⟩:=List.mem_map.1 hC;rfl);obtain⟨a0,c0,hv0,_⟩:=h.lits.look;rw[List.length_map] at hv1;have hk1:Kn w (w.alloc (.cells #[.string x] TS)):=(Qb _ _).alloc _;have hb:(w.alloc (.cells #[.string x] TS)).heap[w.heap.size]? =some (.cells #[.string x] TS (0,0)):=Qf _ _;obtain⟨w1,hw1⟩:∃z,z=w.alloc (.cells #[.string x] TS):=⟨_,rfl⟩;obtain⟨bx,hbx⟩:∃z,z=w.heap.size:=⟨_,rfl⟩;rw[←hw1,←hbx] at hb;rw[←hw1] at hk1;have hr1:=h.kn hk1;have hcl:=hr1.cls;rw[hv1] at hcl;have HIX:=Qh (indexFunc_c x hcl hb (by have:=ok.cls;omega));obtain⟨_,q1,_⟩:=hr1.cells;rw[hv1] at q1;have HR1:=Qh hr1;have HW:=Qh (And.intro hw1 hbx);have HV0:=Qh hv0;have hl:=ok.lits;have hc:=ok.cls;have hmf:∀(fn:Fn) (first cap:Array Value) (w:World),(Instr.makeFunc fn first cap).run Tryz.prog w= .ok (.func fn first cap) w:=fun _ _ _ _=>rfl
 have HRL:=Qh hl;clear h ok hv1 hb hw1 hbx hr1 hcl hv0;go_enter Tryz.func210,Tryz.ntmps210;go_upto_region 1 with fail
 rw[←HW.out.1,←HW.out.2];obtain⟨ix,hix⟩:∃ix,ix=idxC R.cls x:=⟨_,rfl⟩;have hge:=idxC_ge R.cls x;rw[←hix] at hge HIX;have HVV:Hid (clsV R x= .tuple #[.int .i64 ((R.lits.length:Int)+ix),.bool (decide (0≤ix))]):=Qh (by rw[hix];try rfl);clear hix;go_wp2_with fail
 refine HIX.out.mono ?_;rintro e w2 ⟨rfl,hk2⟩;have HK:=Qh (hk1.trans hk2);obtain⟨q0,_⟩:=(HR1.out.kn hk2).cells;rw[HV0.out] at q0;go_wp2_with fail
 go_ret2
 exact⟨by rw[HVV.out];try rfl,HK.out⟩
abbrev paV(q:GP):Value:= .agg #[.int .i64 q.cls,.int .i64 q.sort,.int .i64 q.level,.bool q.fixed]
def Part2Post(R:RS)(x:GW)(w:World)(e:Ending)(w':World):Prop:=
 Kn w w'∧∃(q:GP) (ok:Bool),e= .returned (.tuple #[paV q,.bool ok])∧match R.part x with|some q'=>ok=true∧q=q'|none=>ok=false
theorem part_sort{R:RS}{x:GW}(h0:x.lit.size=0)(h1:x.sort=true):R.part x=if 0≤Lib.idxOfS R.sorts x.name then some ⟨-1,Lib.idxOfS R.sorts x.name,x.level,false⟩ else none:=by
 unfold RS.part;rw[if_neg (by simp[h0]),if_pos h1]
theorem part_lit{R:RS}{x:GW}(h0:¬x.lit.size=0):R.part x=some ⟨Lib.idxOfS R.lits x.lit,-1,0,true⟩:=by
 unfold RS.part;rw[if_pos h0]
theorem part_cls{R:RS}{x:GW}(h0:x.lit.size=0)(h1:x.sort=false):(∃i:Nat,idxC R.cls x.name=i∧R.part x=some ⟨(R.lits.length+i:Nat),-1,0,false⟩)∨(idxC R.cls x.name= -1∧R.part x=none):=by
 unfold RS.part idxC;rw[if_neg (by simp[h0]),if_neg (by simp[h1])];cases R.cls.findIdx? (fun c=>decide (c.name=x.name)) with
 |some i=>exact .inl ⟨i,rfl,rfl⟩
 |none=>exact .inr ⟨rfl,rfl⟩
theorem part2_c{B p:Nat}{R:RS}{A:RA}{w:World}(x:GW)(h:RdAt w B p R A)(ok:RSok R):
  Calls Tryz.prog 160 #[ptr p,wdV x] w (Part2Post R x w):=by
 obtain⟨a0,c0,hv0,_⟩:=h.lits.look;obtain⟨a2,c2,hv2,_⟩:=h.sorts.look;have hl40:=ok.lits;obtain⟨bx,hbx⟩:∃z,z=w.heap.size:=⟨_,rfl⟩;obtain⟨b4,hb4⟩:∃z,z=w.heap.size+1:=⟨_,rfl⟩;obtain⟨w1,hw1⟩:∃z,z=(w.alloc (.cells #[.string x.lit,.string x.name,.int .i64 x.level,.bool x.sort] TWd)).alloc (.cells #[.int .i64 0,.int .i64 0,.int .i64 0,.bool false] TPa):=⟨_,rfl⟩;have hk1:Kn w w1:=by rw[hw1];exact((Qb _ _).alloc _).alloc _
 have hbb:w1.heap[bx]? =some (.cells #[.string x.lit,.string x.name,.int .i64 x.level,.bool x.sort] TWd (0,0)):=by rw[hw1,hbx];exact Qq (Qf _ _) _
 have hbr:w1.heap[b4]? =some (.cells #[.int .i64 0,.int .i64 0,.int .i64 0,.bool false] TPa (0,0)):=by
  have:=Qf (w.alloc (.cells #[.string x.lit,.string x.name,.int .i64 x.level,.bool x.sort] TWd)) (.cells #[.int .i64 0,.int .i64 0,.int .i64 0,.bool false] TPa);rw[size_alloc',←hb4,←hw1] at this;exact this
 have hr1:=h.kn hk1;obtain⟨q0,_,q2,_⟩:=hr1.cells;rw[hv0] at q0;rw[hv2] at q2;have d0:w1.cell? ⟨bx,0,none⟩=some (.string x.lit):=by rw[Qa hbb];try rfl
 have d1:w1.cell? ⟨bx,1,none⟩=some (.string x.name):=by rw[Qa hbb];try rfl
 have d2:w1.cell? ⟨bx,2,none⟩=some (.int .i64 x.level):=by rw[Qa hbb];try rfl
 have d3:w1.cell? ⟨bx,3,none⟩=some (.bool x.sort):=by rw[Qa hbb];try rfl
 have hol:=hr1.lits;have hos:=hr1.sorts;rw[hv0] at hol;rw[hv2] at hos;have HIL:=Qh (fun W (hk:Kn w1 W)=>index_c (w:=W) (QH hol hk (fun _ _ x=>x)) x.lit (by have:=ok.lits;omega));have HIS:=Qh (fun W (hk:Kn w1 W)=>index_c (w:=W) (QH hos hk (fun _ _ x=>x)) x.name (by have:=ok.sorts;omega));have HCL:=Qh (gclass_c x.name hr1 ok);have HW:=Qh (And.intro hw1 (And.intro hbx hb4));have HBR:=Qh hbr;have hnp:p≠b4:=by have:=h.lt;omega
 have hnx:bx≠b4:=by omega
 have HNW:=Qh (show w.heap.size≤b4 by omega);have HK1:=Qh hk1;have HB0:Hid (b4=w.heap.size+1):=Qh hb4;clear h ok hw1 hbx hb4 hbb hbr hr1 hol hos hk1 hv0 hv2;by_cases h0:x.lit.size=0
 ·have he:=isE_true h0;cases hso:x.sort with
  |true=>
   rw[hso] at d3;have hF:=part_sort (R:=R) h0 hso;obtain⟨ix,hix⟩:∃z,z=Lib.idxOfS R.sorts x.name:=⟨_,rfl⟩;rw[←hix] at hF HIS;have HF:=Qh hF;clear h0 hso hF hix;go_enter Tryz.func160,Tryz.ntmps160;go_upto_region 1 with fail
   rw[←HB0.out,←HW.out.1,←HW.out.2.1];go_wp2_with fail
   refine wp_region_held_drew (S:=fun w'=>w'.cell? ⟨p,2,none⟩=some (.slice a2 R.sorts.length c2)∧w'.cell? ⟨bx,1,none⟩=some (.string x.name)) (by kernel_rfl) ⟨Qc ((Qb _ _).drew) q2,Qc ((Qb _ _).drew) d1⟩ (fun hHeld=> ?_);obtain⟨wd,hwd⟩:∃zz,zz=w1.drew:=⟨_,rfl⟩;have hkd:Kn w1 wd:=by rw[hwd];exact(Qb _ _).drew
   rw[←hwd] at hHeld⊢;clear hwd;refine TW 0 23 ?_;refine TW 1 24 ?_;refine TW 2 25 ?_;refine TW 3 26 ?_;refine TH 4 27 ?_;refine TW 5 28 ?_;refine TH 6 29 ?_;refine RH 7 (fun K hK=> ?_);go_simp
   go_at_call 159
   refine(HIS.out wd hkd).mono ?_;rintro e9 w9 ⟨rfl,hw9⟩;rw[hw9];clear hw9 w9;dsimp only;refine hK.out _ _ hHeld (fun hHeld=> ?_);clear hK K
   try simp only[PP]
   refine TW 8 6 ?_;refine RD ?_;have x2l:=hHeld;clear hHeld;have hbd:=hkd.blk HBR.out (fun x=>x);have x0:wd.cell? ⟨b4,0,none⟩=some (.int .i64 0):=by rw[Qa hbd];try rfl
   have x1:wd.cell? ⟨b4,1,none⟩=some (.int .i64 0):=by rw[Qa hbd];try rfl
   have x2:wd.cell? ⟨b4,2,none⟩=some (.int .i64 0):=by rw[Qa hbd];try rfl
   have x3:wd.cell? ⟨b4,3,none⟩=some (.bool false):=by rw[Qa hbd];try rfl
   have f0:=Qd hbd 0;have f1:=Qd hbd 1;have f2:=Qd hbd 2;have f3:=Qd hbd 3;have e2:wd.cell? ⟨bx,2,none⟩=some (.int .i64 x.level):=Qc hkd d2;have hk13:=HK1.out.trans hkd;have HNW2:=HNW.out;clear x2l hbd d0 d1 d2 d3 q0 q2;go_wp2_with fail
   (try simp only[Exit.inBlock,Exit.then])
   refine bodyPost_ret (v:= .tuple #[paV ⟨-1,ix,x.level,false⟩,.bool (decide (0≤ix))]) (by rw[results_cell_tmp rfl];go_simp;try first|rfl|exact⟨rfl,rfl,rfl,rfl⟩) rfl ⟨?_,_,_,rfl,?_⟩
   ·(repeat' (first|exact hk13|refine Kp.drew ?_|refine Kp.setCell ?_ (fun hp=>by have hp2:b4<w.heap.size:=hp;omega) _))
   ·rw[HF.out];by_cases h9:0≤ix
    ·rw[if_pos h9];exact⟨decide_eq_true h9,rfl⟩
    ·rw[if_neg h9];exact decide_eq_false h9
  |false=>
   rw[hso] at d3;have hF:=part_cls (R:=R) h0 hso;have hge:=idxC_ge R.cls x.name;obtain⟨ix,hix⟩:∃z,z=idxC R.cls x.name:=⟨_,rfl⟩;have HVV:Hid (clsV R x.name= .tuple #[.int .i64 ((R.lits.length:Int)+ix),.bool (decide (0≤ix))]):=Qh (by rw[hix];try rfl);rw[HVV.out] at HCL;rw[←hix] at hF hge;have HF:=Qh hF;clear h0 hso hF hix HVV;go_enter Tryz.func160,Tryz.ntmps160;go_upto_region 1 with fail
   rw[←HB0.out,←HW.out.1,←HW.out.2.1];go_wp2_with fail
   refine HCL.out.mono ?_;rintro e9 w3 ⟨rfl,hk3⟩;have hb3:=hk3.blk HBR.out (fun x=>x);have x0:w3.cell? ⟨b4,0,none⟩=some (.int .i64 0):=by rw[Qa hb3];try rfl
   have x1:w3.cell? ⟨b4,1,none⟩=some (.int .i64 0):=by rw[Qa hb3];try rfl
   have x2:w3.cell? ⟨b4,2,none⟩=some (.int .i64 0):=by rw[Qa hb3];try rfl
   have x3:w3.cell? ⟨b4,3,none⟩=some (.bool false):=by rw[Qa hb3];try rfl
   have f0:=Qd hb3 0;have f1:=Qd hb3 1;have f2:=Qd hb3 2;have f3:=Qd hb3 3;have hk13:=HK1.out.trans hk3;have HNW2:=HNW.out;clear hb3 d0 d1 d2 d3 q0 q2;go_wp2_with fail
   (try simp only[Exit.inBlock,Exit.then])
   refine bodyPost_ret (v:= .tuple #[paV ⟨(R.lits.length:Int)+ix,-1,0,false⟩,.bool (decide (0≤ix))]) (by rw[results_cell_tmp rfl];go_simp;try first|rfl|exact⟨rfl,rfl,rfl,rfl⟩) rfl ⟨?_,_,_,rfl,?_⟩
   ·(repeat' (first|exact hk13|refine Kp.drew ?_|refine Kp.setCell ?_ (fun hp=>by have hp2:b4<w.heap.size:=hp;omega) _))
   ·rcases HF.out with⟨i,h1,h2⟩|⟨h1,h2⟩
    ·rw[h2,h1];exact⟨by simp,by simp⟩
    ·rw[h2,h1];try rfl
 ·have he:=Yw h0;have hF:=part_lit (R:=R) h0;obtain⟨ix,hix⟩:∃z,z=Lib.idxOfS R.lits x.lit:=⟨_,rfl⟩;rw[←hix] at hF HIL;have HF:=Qh hF;clear h0 hF hix;go_enter Tryz.func160,Tryz.ntmps160;go_upto_region 1 with fail
  rw[←HB0.out,←HW.out.1,←HW.out.2.1];go_wp2_with fail
  refine wp_region_held_drew (S:=fun w'=>True) (by kernel_rfl) trivial (fun hHeld=> ?_);obtain⟨wd,hwd⟩:∃zz,zz=w1.drew:=⟨_,rfl⟩;have hkd:Kn w1 wd:=by rw[hwd];exact(Qb _ _).drew
  rw[←hwd];clear hwd;refine TW 0 12 ?_;refine TW 1 13 ?_;refine TW 2 14 ?_;refine TW 3 15 ?_;refine TW 5 17 ?_;refine RH2 4 6 (fun K hK=> ?_) (fun K hK=> ?_)
  ·have xq:wd.cell? ⟨p,0,none⟩=some (.slice a0 R.lits.length c0):=Qc hkd q0;go_simp;clear xq;refine hK.out _ _ trivial (fun hHeld=> ?_);clear hK K
   try simp only[PP]
   refine RH 6 (fun K hK=> ?_);have xq:wd.cell? ⟨bx,0,none⟩=some (.string x.lit):=Qc hkd d0;go_simp;clear xq;refine hK.out _ _ trivial (fun hHeld=> ?_);clear hK K
   try simp only[PP]
   refine RH 7 (fun K hK=> ?_);go_simp
   go_at_call 159
   refine(HIL.out wd hkd).mono ?_;rintro e9 w9 ⟨rfl,hw9⟩;rw[hw9];clear hw9 w9;dsimp only;refine hK.out _ _ trivial (fun hHeld=> ?_);clear hK K
   try simp only[PP]
   refine TW 8 20 ?_;refine RH 9 (fun K hK=> ?_);have hbd:=hkd.blk HBR.out (fun x=>x);have x0:wd.cell? ⟨b4,0,none⟩=some (.int .i64 0):=by rw[Qa hbd];try rfl
   have x1:wd.cell? ⟨b4,1,none⟩=some (.int .i64 0):=by rw[Qa hbd];try rfl
   have x2:wd.cell? ⟨b4,2,none⟩=some (.int .i64 0):=by rw[Qa hbd];try rfl
   have x3:wd.cell? ⟨b4,3,none⟩=some (.bool false):=by rw[Qa hbd];try rfl
   have f0:=Qd hbd 0;have f1:=Qd hbd 1;have f2:=Qd hbd 2;have f3:=Qd hbd 3;go_simp;refine hK.out _ _ trivial (fun hHeld=> ?_);clear hK K
   try simp only[PP]
   refine TW 10 5 ?_;refine RD ?_;clear hHeld;have hk13:=HK1.out.trans hkd;have HNW2:=HNW.out;go_wp2_with fail
   (try simp only[Exit.inBlock,Exit.then])
   refine bodyPost_ret (v:= .tuple #[paV ⟨ix,-1,0,true⟩,.bool true]) (by rw[results_cell_tmp rfl];go_simp;try first|rfl|exact⟨rfl,rfl,rfl,rfl⟩) rfl ⟨?_,_,_,rfl,?_⟩
   ·(repeat' (first|exact hk13|refine Kp.drew ?_|refine Kp.setCell ?_ (fun hp=>by have hp2:b4<w.heap.size:=hp;omega) _))
   ·rw[HF.out];exact⟨rfl,rfl⟩
  ·have xq:wd.cell? ⟨bx,0,none⟩=some (.string x.lit):=Qc hkd d0;go_simp;clear xq;refine hK.out _ _ trivial (fun hHeld=> ?_);clear hK K
   try simp only[PP]
   refine RH 4 (fun K hK=> ?_);have xq:wd.cell? ⟨p,0,none⟩=some (.slice a0 R.lits.length c0):=Qc hkd q0;go_simp;clear xq;refine hK.out _ _ trivial (fun hHeld=> ?_);clear hK K
   try simp only[PP]
   refine RH 7 (fun K hK=> ?_);go_simp
   go_at_call 159
   refine(HIL.out wd hkd).mono ?_;rintro e9 w9 ⟨rfl,hw9⟩;rw[hw9];clear hw9 w9;dsimp only;refine hK.out _ _ trivial (fun hHeld=> ?_);clear hK K
   try simp only[PP]
   refine TW 8 20 ?_;refine RH 9 (fun K hK=> ?_);have hbd:=hkd.blk HBR.out (fun x=>x);have x0:wd.cell? ⟨b4,0,none⟩=some (.int .i64 0):=by rw[Qa hbd];try rfl
   have x1:wd.cell? ⟨b4,1,none⟩=some (.int .i64 0):=by rw[Qa hbd];try rfl
   have x2:wd.cell? ⟨b4,2,none⟩=some (.int .i64 0):=by rw[Qa hbd];try rfl
   have x3:wd.cell? ⟨b4,3,none⟩=some (.bool false):=by rw[Qa hbd];try rfl
   have f0:=Qd hbd 0;have f1:=Qd hbd 1;have f2:=Qd hbd 2;have f3:=Qd hbd 3;go_simp;refine hK.out _ _ trivial (fun hHeld=> ?_);clear hK K
   try simp only[PP]
   refine TW 10 5 ?_;refine RD ?_;clear hHeld;have hk13:=HK1.out.trans hkd;have HNW2:=HNW.out;go_wp2_with fail
   (try simp only[Exit.inBlock,Exit.then])
   refine bodyPost_ret (v:= .tuple #[paV ⟨ix,-1,0,true⟩,.bool true]) (by rw[results_cell_tmp rfl];go_simp;try first|rfl|exact⟨rfl,rfl,rfl,rfl⟩) rfl ⟨?_,_,_,rfl,?_⟩
   ·(repeat' (first|exact hk13|refine Kp.drew ?_|refine Kp.setCell ?_ (fun hp=>by have hp2:b4<w.heap.size:=hp;omega) _))
   ·rw[HF.out];exact⟨rfl,rfl⟩
def paL(q:GP):List Value:=[.int .i64 q.cls,.int .i64 q.sort,.int .i64 q.level,.bool q.fixed]
def ruL(r:GR)(v:Value):List Value:=[.int .i64 r.sort,.string r.cons,.int .i64 r.level,v]
def brM(m:List (Nat×Nat)):KV:=m.map (fun p=>(Value.int .i64 (p.1:Nat),Value.int .i64 (p.2:Nat)))
abbrev TI:TypeId:=3
theorem brM_mem{m:List (Nat×Nat)}{p:Value×Value} :p∈brM m↔∃q∈m,p=(.int .i64 (q.1:Nat),.int .i64 (q.2:Nat)):=by
 unfold brM;rw[List.mem_map];exact⟨fun⟨s,h,e⟩=>⟨s,h,e.symm⟩,fun⟨s,h,e⟩=>⟨s,h,e.symm⟩⟩
theorem int_keyOf(x:Nat)(h:x≤1000000):∃l,keyOf Tryz.prog TI (.int .i64 (x:Nat))=some l:=⟨_,keyOf_int_mk Tryz.underlying3 (by
 simp[Lit.wf,IntKind.min,IntKind.max,IntKind.signed,IntKind.bits];omega)⟩
theorem brPut_map{w:World}{kb:Nat}{m:List (Nat×Nat)}(x v:Nat)(hx:x≤1000000)(h:MapA w TI kb (brM m)):
  ∃w',(Instr.mapUpdate 129 (.map (some kb)) (.int .i64 (x:Nat)) (.int .i64 (v:Nat))).run Tryz.prog w= .ok () w'∧MapA w' TI kb (brM (brPut m x v))∧K1 kb w w':=by
 obtain⟨lx,hlx⟩:=int_keyOf x hx;unfold brPut;cases hf:m.findIdx? (fun p=>decide (p.1=x)) with
 |none=>
  have hn:∀p∈brM m,p.1≠Value.int .i64 (x:Nat):=by
   intro p hp e;obtain⟨q,hq,rfl⟩:=brM_mem.1 hp;have h1:=List.findIdx?_eq_none_iff.1 hf q hq;have e2:((q.1:Nat):Int)=(x:Nat):=by injection e
   exact absurd (by omega:q.1=x) (of_decide_eq_false h1)
  obtain⟨w',h1,h2,h3⟩:=h.put0 (int_keyed Tryz.underlying3) Tryz.underlying129 hlx hn (.int .i64 (v:Nat));exact⟨w',h1,by simpa[brM] using h2,h3⟩
 |some j=>
  obtain⟨hj,he,_⟩:=List.findIdx?_eq_some_iff_getElem.1 hf;have he2:m[j].1=x:=of_decide_eq_true he;have hmem:(Value.int .i64 (x:Nat),Value.int .i64 (m[j].2:Nat))∈brM m:=brM_mem.2 ⟨m[j],List.getElem_mem hj,by rw[he2]⟩;have hnd:((brM m).map (·.1)).Nodup:=by obtain⟨_,_,_,_,hd,_⟩:=h;exact hd
  obtain⟨w',j2,h1,h2,h3,h4⟩:=h.put1 (int_keyed Tryz.underlying3) Tryz.underlying129 hlx hmem (.int .i64 (v:Nat));have hj2:j2=j:=by
   have hl2:j2<(brM m).length:=(List.getElem?_eq_some_iff.1 h2).1;have e1:((brM m).map (·.1))[j2]? =some (.int .i64 (x:Nat)):=by rw[List.getElem?_map,h2];try rfl
   have e2:((brM m).map (·.1))[j]? =some (.int .i64 (x:Nat)):=by
    rw[List.getElem?_map];unfold brM;rw[List.getElem?_map,List.getElem?_eq_getElem hj];simp[he2]
   exact(List.getElem?_inj (by simpa using hl2) hnd).1 (e1.trans e2.symm)
  subst hj2;exact⟨w',h1,by simpa[brM,List.map_set] using h3,h4⟩
structure RuAt (w:World) (B:Nat) (vr:Value) (rs:List GR) (vps:List Value):Prop where
 row:OwnK w B TRu 4 vr (List.zipWith ruL rs vps)
 len:vps.length=rs.length
 parts:∀i (h:i<vps.length) (h':i<rs.length),OwnK w B TPa 4 vps[i] (rs[i].parts.map paL)
theorem RuAt.kn{w w':World}{B:Nat}{vr:Value}{rs:List GR}{vps:List Value}(h:RuAt w B vr rs vps)(hk:Kn w w'):RuAt w' B vr rs vps:=⟨h.row.kn hk,h.len,fun i a b=>(h.parts i a b).kn hk⟩
theorem RuAt.ty{S:Nat→Prop}{X:TypeId}{w w':World}{B:Nat}{vr:Value}{rs:List GR}{vps:List Value}(h:RuAt w B vr rs vps)(hk:Kp S w w')(hS:Ty S w X)(h1:X≠TRu)(h2:X≠TPa):RuAt w' B vr rs vps:=⟨Qk h.row hk hS h1,h.len,fun i a b=>Qk (h.parts i a b) hk hS h2⟩
theorem RuAt.tym{S:Nat→Prop}{w w':World}{B:Nat}{vr:Value}{rs:List GR}{vps:List Value}(h:RuAt w B vr rs vps)(hk:Kp S w w')(hS:TyM S w):RuAt w' B vr rs vps:=⟨Qy h.row hk hS,h.len,fun i a b=>Qy (h.parts i a b) hk hS⟩
theorem RuAt.snoc{w w1:World}{B:Nat}{vr v1 vp:Value}{rs:List GR}{vps:List Value}(h:RuAt w B vr rs vps){r:GR}(hp:OwnK w B TPa 4 vp (r.parts.map paL))(hr:OwnK w1 B TRu 4 v1 (List.zipWith ruL rs vps++[ruL r vp]))(hk:Kp (fun k=>some k=vr.ownBlock) w w1):
  RuAt w1 B v1 (rs++[r]) (vps++[vp]):=by
 have hS:=QR h.row;refine⟨?_,by simp[h.len],fun i a b=> ?_⟩
 ·have e:List.zipWith ruL (rs++[r]) (vps++[vp])=List.zipWith ruL rs vps++[ruL r vp]:=by rw[List.zipWith_append h.len.symm];try rfl
  rw[e];exact hr
 ·have hl:=h.len;by_cases hi:i<vps.length
  ·have:=Qk (h.parts i hi (by omega)) hk hS (by decide);rw[List.getElem_append_left hi];simp only[List.getElem_append_left (show i<rs.length by omega)];exact this
  ·have ei:i=vps.length:=by simp at a;omega
   subst ei;have:=Qk hp hk hS (by decide);rw[List.getElem_append_right (Nat.le_refl _)];simp only[List.getElem_append_right (show rs.length≤vps.length by omega),Nat.sub_self,List.getElem_singleton,show vps.length-rs.length=0 by omega];exact this
structure LkAt (w:World) (B p:Nat) (R:RS) (A:RA) (kb:Nat) (rs:List GR) (vps:List Value) (br:List (Nat×Nat)):Prop where
 rd:RdAt w B p R A
 bb:A.bb= .map (some kb)
 brk:MapA w TI kb (brM br)
 ru:RuAt w B A.vr rs vps
 ne:B≤kb∧kb≠A.bn∧kb≠A.bc∧kb≠A.br
theorem LkAt.kn{w w':World}{B p:Nat}{R:RS}{A:RA}{kb:Nat}{rs:List GR}{vps:List Value}{br:List (Nat×Nat)}(h:LkAt w B p R A kb rs vps br)(hk:Kn w w'):LkAt w' B p R A kb rs vps br:=⟨h.rd.kn hk,h.bb,h.brk.kn hk,h.ru.kn hk,h.ne⟩
theorem LkAt.blk{w:World}{B p:Nat}{R:RS}{A:RA}{kb:Nat}{rs:List GR}{vps:List Value}{br:List (Nat×Nat)}(h:LkAt w B p R A kb rs vps br):w.heap[p]? =some (.cells (rdC A) TGr (0,0)):=h.rd.blk
theorem LkAt.lt{w:World}{B p:Nat}{R:RS}{A:RA}{kb:Nat}{rs:List GR}{vps:List Value}{br:List (Nat×Nat)}(h:LkAt w B p R A kb rs vps br):p<w.heap.size:=h.rd.lt
theorem LkAt.pB{w:World}{B p:Nat}{R:RS}{A:RA}{kb:Nat}{rs:List GR}{vps:List Value}{br:List (Nat×Nat)}(h:LkAt w B p R A kb rs vps br):B≤p∧B≤A.bn∧B≤A.bc∧B≤A.br:=h.rd.pB
theorem step_putbr{w:World}{kb:Nat}{m:List (Nat×Nat)}{ops:Array Oper}{o:Oper}{a:Act}{K:Act→World→Prop}{Q:Exit→Act→World→Prop}{E:Prop}(hg:o.guard=none)(mo xo vo:Operand)(hop:o.op=Op.mapUpdate 129 mo xo vo)
  (hm:a.eval mo= .map (some kb)) (h:MapA w TI kb (brM m)) (x v:Nat) (hx9:x≤1000000) (hx:a.eval xo= .int .i64 (x:Nat)) (hv:a.eval vo= .int .i64 (v:Nat))
  (hK:∀w',MapA w' TI kb (brM (brPut m x v))→K1 kb w w'→K (a.put o.dst undef) w'):if Region.wanted o (yielded ops a.tmps)=true then Oper.wp Tryz.prog o a w K Q else E:=by
 have hw:Region.wanted o (yielded ops a.tmps)=true:=by simp[Region.wanted,hg]
 rw[if_pos hw];obtain⟨w',hr,h1,h2⟩:=brPut_map x v hx9 h;unfold Oper.wp;simp[execOp,hop,hm,hx,hv,hr,Result.andThen];exact hK w' h1 h2
theorem RdAt.setVr{w:World}{B p:Nat}{R:RS}{A:RA}(h:RdAt w B p R A)(v:Value):RdAt (w.setCell ⟨p,3,none⟩ v) B p R {A with vr:=v} :=by
 have hk1:K1 p w (w.setCell ⟨p,3,none⟩ v):=Qg _ _;have hS1:=Yl h.blk;exact⟨by have:=Qj h.blk 3 v;simpa[rdC] using this,Qk h.lits hk1 hS1 (by decide),Qk h.cls hk1 hS1 (by decide),Qk h.sorts hk1 hS1 (by decide),Qs h.names hk1 hS1,Qs h.cons hk1 hS1,Qs h.rounds hk1 hS1,
  Qk h.lines hk1 hS1 (by decide),h.wl,fun i a b=>Qk (h.words i a b) hk1 hS1 (by decide),h.ne1,h.ne2,h.pB⟩
theorem RdAt.setBb{w:World}{B p:Nat}{R:RS}{A:RA}(h:RdAt w B p R A)(v:Value):RdAt (w.setCell ⟨p,4,none⟩ v) B p R {A with bb:=v} :=by
 have hk1:K1 p w (w.setCell ⟨p,4,none⟩ v):=Qg _ _;have hS1:=Yl h.blk;exact⟨by have:=Qj h.blk 4 v;simpa[rdC] using this,Qk h.lits hk1 hS1 (by decide),Qk h.cls hk1 hS1 (by decide),Qk h.sorts hk1 hS1 (by decide),Qs h.names hk1 hS1,Qs h.cons hk1 hS1,Qs h.rounds hk1 hS1,
  Qk h.lines hk1 hS1 (by decide),h.wl,fun i a b=>Qk (h.words i a b) hk1 hS1 (by decide),h.ne1,h.ne2,h.pB⟩
theorem RdAt.setSc{w:World}{B p:Nat}{R:RS}{A:RA}(h:RdAt w B p R A)(v:Value):RdAt (w.setCell ⟨p,5,none⟩ v) B p R {A with sc:=v} :=by
 have hk1:K1 p w (w.setCell ⟨p,5,none⟩ v):=Qg _ _;have hS1:=Yl h.blk;exact⟨by have:=Qj h.blk 5 v;simpa[rdC] using this,Qk h.lits hk1 hS1 (by decide),Qk h.cls hk1 hS1 (by decide),Qk h.sorts hk1 hS1 (by decide),Qs h.names hk1 hS1,Qs h.cons hk1 hS1,Qs h.rounds hk1 hS1,
  Qk h.lines hk1 hS1 (by decide),h.wl,fun i a b=>Qk (h.words i a b) hk1 hS1 (by decide),h.ne1,h.ne2,h.pB⟩
theorem RdAt.ty{S:Nat→Prop}{X:TypeId}{w w':World}{B p:Nat}{R:RS}{A:RA}(h:RdAt w B p R A)(hk:Kp S w w')(hS:Ty S w X)(h1:X≠TGr)(h2:X≠TS)(h3:X≠TCl)(h4:X≠TLn)(h5:X≠TWd):RdAt w' B p R A:=
 ⟨QB h.blk hk hS h1,Qk h.lits hk hS h2,Qk h.cls hk hS h3,Qk h.sorts hk hS h2,Qs h.names hk hS,Qs h.cons hk hS,Qs h.rounds hk hS,Qk h.lines hk hS h4,h.wl,fun i a b=>Qk (h.words i a b) hk hS h5,h.ne1,h.ne2,h.pB⟩
theorem RdAt.tym{w w':World}{B p kb:Nat}{R:RS}{A:RA}{m:KV}(h:RdAt w B p R A)(hk:K1 kb w w')(hm:MapA w TI kb m)(hn:kb≠A.bn∧kb≠A.bc∧kb≠A.br):RdAt w' B p R A:=by
 have hS:=Ze hm;exact⟨blk_tym h.blk hk hS,Qy h.lits hk hS,Qy h.cls hk hS,Qy h.sorts hk hS,h.names.kp hk (fun e=>hn.1 e.symm),h.cons.kp hk (fun e=>hn.2.1 e.symm),h.rounds.kp hk (fun e=>hn.2.2 e.symm),Qy h.lines hk hS,h.wl,fun i a b=>Qy (h.words i a b) hk hS,h.ne1,h.ne2,h.pB⟩
theorem LkAt.putRule{w w1:World}{B p:Nat}{R:RS}{A:RA}{kb:Nat}{rs:List GR}{vps:List Value}{br:List (Nat×Nat)}{v1 vp:Value}{r:GR}(h:LkAt w B p R A kb rs vps br)(hp:OwnK w B TPa 4 vp (r.parts.map paL))(hr:OwnK w1 B TRu 4 v1 (List.zipWith ruL rs vps++[ruL r vp]))(hk:Kp (fun k=>some k=A.vr.ownBlock) w w1):
  LkAt (w1.setCell ⟨p,3,none⟩ v1) B p R {A with vr:=v1} kb (rs++[r]) (vps++[vp]) br:=by
 have hS:=QR h.ru.row;have h1:=h.rd.ty hk hS (by decide) (by decide) (by decide) (by decide) (by decide);have hk1:K1 p w1 (w1.setCell ⟨p,3,none⟩ v1):=Qg _ _;have hS1:=Yl h1.blk;exact⟨h1.setVr v1,h.bb,Qs (Qs h.brk hk hS) hk1 hS1,(h.ru.snoc hp hr hk).ty hk1 hS1 (by decide) (by decide),h.ne⟩
theorem LkAt.putBr{w w':World}{B p:Nat}{R:RS}{A:RA}{kb:Nat}{rs:List GR}{vps:List Value}{br:List (Nat×Nat)}{br':List (Nat×Nat)}(h:LkAt w B p R A kb rs vps br)(hm:MapA w' TI kb (brM br'))(hk:K1 kb w w'):LkAt w' B p R A kb rs vps br':=
 ⟨h.rd.tym hk h.brk h.ne.2,h.bb,hm,h.ru.tym hk (Ze h.brk),h.ne⟩
theorem lines_cells{w:World}{B:Nat}{v:Value}{xs:List GL}{vws:List Value}(h:OwnK w B TLn 6 v (List.zipWith lnL xs vws))(hl:vws.length=xs.length):∃a c,v= .slice a xs.length c∧∀i (hi:i<xs.length) (hv:i<vws.length),∃g,a=some ⟨g,0,none⟩∧
  w.cell? ⟨g,i*6,none⟩=some (.int .i64 xs[i].number)∧w.cell? ⟨g,i*6+1,none⟩=some (.string xs[i].sort)∧w.cell? ⟨g,i*6+2,none⟩=some (.string xs[i].cons)∧w.cell? ⟨g,i*6+3,none⟩=some (.int .i64 xs[i].level)∧w.cell? ⟨g,i*6+4,none⟩=some vws[i]∧w.cell? ⟨g,i*6+5,none⟩=some (.bool xs[i].round):=by
 obtain⟨a,c,hv,_,_,h1⟩:=h.row (fun C hC=>by obtain⟨i,hi,rfl⟩:=List.getElem_of_mem hC;simp[lnL]);rw[List.length_zipWith,hl,Nat.min_self] at hv;refine⟨a,c,hv,fun i hi hv2=> ?_⟩;obtain⟨g,ha,_,_,h2⟩:=h1 (fun e=>by have:=congrArg List.length e;simp[hl] at this;subst this;simp at hi);have h3:=h2 i (by simp[hl];omega);have key:∀j,j<6→w.cell? ⟨g,i*6+j,none⟩=(lnL xs[i] vws[i])[j]? :=fun j hj=>by
  have:=(h3 j hj).1;rw[show 0+6*i+j=i*6+j by omega] at this;rw[this];simp
 exact⟨g,ha,(key 0 (by omega)).trans rfl,(key 1 (by omega)).trans rfl,(key 2 (by omega)).trans rfl,(key 3 (by omega)).trans rfl,(key 4 (by omega)).trans rfl,(key 5 (by omega)).trans rfl⟩
end Go.Proofs.YtiehgcfckhepaaaGreatDoor
