/-
  Texts of this claim, laid together: TNew, TAcc, GPp, GPr, GPrint, GParse, GEval, TEval, TAwake. Conditions: none.
-/
import Derived.Test.YtopmadkajacniaaGreatDoorQAM
import Derived.Test.YtopmadkajacniaaGreatDoorQAN
import Derived.Test.YtopmadkajacniaaGreatDoorQAL
set_option linter.unusedVariables false
set_option linter.unusedSimpArgs false
namespace Go.Proofs.YtopmadkajacniaaGreatDoor
open Go.RowKit Go.Maps
theorem ro3 {P : Program} {ops : Array Oper} {Q : Exit → Act → World → Prop} {md : Region.Mode} {S : World → Prop} (i j k : Nat) {d d2 d3 : Option Tmp} {op op2 op3 : Op} {ty ty2 ty3 : TypeId} {pos pos2 pos3 : String} {after after2 after3 : Array Edge} {gd gd2 gd3 : Option (Nat × Bool)} {f : Nat} {l : Array Bool} {a : Act} {w : World}
  (h : ∀ K' : Act → World → Prop, Shut (∀ a w, S w → (S w → RG P md ops Q S f (l.setIfInBounds i true) a w) → K' a w) → if Region.wanted (Oper.mk d op ty pos after gd) (yielded ops a.tmps) = true then Oper.wp P (Oper.mk d op ty pos after gd) a w K' Q else K' (a.put d undef) w)
  (h2 : ∀ K' : Act → World → Prop, Shut (∀ a w, S w → (S w → RG P md ops Q S f (l.setIfInBounds j true) a w) → K' a w) → if Region.wanted (Oper.mk d2 op2 ty2 pos2 after2 gd2) (yielded ops a.tmps) = true then Oper.wp P (Oper.mk d2 op2 ty2 pos2 after2 gd2) a w K' Q else K' (a.put d2 undef) w)
  (h3 : ∀ K' : Act → World → Prop, Shut (∀ a w, S w → (S w → RG P md ops Q S f (l.setIfInBounds k true) a w) → K' a w) → if Region.wanted (Oper.mk d3 op3 ty3 pos3 after3 gd3) (yielded ops a.tmps) = true then Oper.wp P (Oper.mk d3 op3 ty3 pos3 after3 gd3) a w K' Q else K' (a.put d3 undef) w)
  (hi : ops[i]? = some (Oper.mk d op ty pos after gd) := by rfl) (hj : ops[j]? = some (Oper.mk d2 op2 ty2 pos2 after2 gd2) := by rfl) (hk : ops[k]? = some (Oper.mk d3 op3 ty3 pos3 after3 gd3) := by rfl) (hr : Region.ready md ops l = [i, j, k] := by kernel_rfl) : RG P md ops Q S (f + 1) l a w := fun hc => by
 have hm : i ∈ Region.ready md ops l := by rw [hr]; simp
 have hm2 : j ∈ Region.ready md ops l := by rw [hr]; simp
 have hm3 : k ∈ Region.ready md ops l := by rw [hr]; simp
 refine ⟨fun e => (by rw [hr] at e; cases e), fun x hx => ?_⟩
 rw [hr] at hx
 simp only [List.mem_cons, List.not_mem_nil, or_false] at hx
 rcases hx with e | e | e
 ·subst e; exact wpOp_step hi (fun K' hK => h K' (fun a w hS hW => hK a w ⟨fun _ => hS, hW hS (hc.set hm)⟩))
 ·subst e; exact wpOp_step hj (fun K' hK => h2 K' (fun a w hS hW => hK a w ⟨fun _ => hS, hW hS (hc.set hm2)⟩))
 ·subst e; exact wpOp_step hk (fun K' hK => h3 K' (fun a w hS hW => hK a w ⟨fun _ => hS, hW hS (hc.set hm3)⟩))
theorem step_make_v {P : Program} (w : World) {x : Value} {ops : Array Oper} {o : Oper} {a : Act} {K : Act → World → Prop} {Q : Exit → Act → World → Prop} {E : Prop}
  (hg : o.guard = none) (l c : Operand) (t : TypeId) (hop : o.op = Op.makeSlice t l c) (e : TypeId) (i : TypeInfo) (z : Value) (h1 : P.underlying t = some (.slice e)) (h2 : P.info? e = some i) (h3 : i.zero = some z) (h4 : i.size = 1) (hz : z.cells = #[x])
  (n : Nat) (hl : a.eval l = .int .i64 n) (hc : a.eval c = .int .i64 n) (b2 : i.bytes * n ≤ 281474976710656) (b3 : n ≤ maxLen)
  (hK : ∀ w', RowV w' e w.heap.size (List.replicate n x) → Kn w w' → K (a.put o.dst (.slice (some ⟨w.heap.size, 0, none⟩) n n)) w') :
  if Region.wanted o (yielded ops a.tmps) = true then Oper.wp P o a w K Q else E := by
 have hw : Region.wanted o (yielded ops a.tmps) = true := by simp [Region.wanted, hg]
 rw [if_pos hw]
 obtain ⟨w', hr, h5, h6⟩ := run_make_full (P := P) w 0 t e i z 1 h1 h2 h3 h4 .i64 .i64 n b2 b3 (Nat.zero_le _)
 rw [hz] at h5
 have h7 := hK w' (RowV.of_made h5) (Kp.of_grown (S := fun _ => False) h6 (fun k e _ => by cases e))
 unfold Oper.wp
 simp [execOp, hop, hl, hc, hr, Result.andThen]
 exact h7
theorem info_bi : (Tryz.prog.info? TBi).map (fun i => (i.zero, i.size, i.bytes)) = some (some (.agg #[.int .u64 0]), 1, 8) := by kernel_rfl
structure NewI (w0 w : World) (p n : Nat) (c : SA) (o4 o6 o8 : Option Nat) : Prop where
 blk : w.heap[p]? = some (.cells (seC c) TSt (0, 0))
 kp : K1 p w0 w
 r4 : ∀ g, o4 = some g → RowV w 4 g (List.replicate n (.bool false)) ∧ w0.heap.size ≤ g ∧ g ≠ p
 r6 : ∀ g, o6 = some g → RowV w TBi g (List.replicate n (.int .u64 0)) ∧ w0.heap.size ≤ g ∧ g ≠ p
 r8 : ∀ g, o8 = some g → RowV w TBi g (List.replicate n (.int .u64 0)) ∧ w0.heap.size ≤ g ∧ g ≠ p
 ne : ∀ g h, o6 = some g → o8 = some h → g ≠ h
section
variable {w0 w w' : World} {p n : Nat} {c : SA} {o4 o6 o8 : Option Nat}
theorem NewI.kn (h : NewI w0 w p n c o4 o6 o8) (hk : Kn w w') : NewI w0 w' p n c o4 o6 o8 := ⟨hk.blk h.blk (fun x => x), h.kp.trans (Kp.weak hk), fun g e => ⟨(h.r4 g e).1.kn hk, (h.r4 g e).2⟩, fun g e => ⟨(h.r6 g e).1.kn hk, (h.r6 g e).2⟩, fun g e => ⟨(h.r8 g e).1.kn hk, (h.r8 g e).2⟩, h.ne⟩
theorem NewI.m4 (h : NewI w0 w p n c none o6 o8) (hr : RowV w' 4 w.heap.size (List.replicate n (.bool false))) (hk : Kn w w') : NewI w0 w' p n c (some w.heap.size) o6 o8 :=
 ⟨hk.blk h.blk (fun x => x), h.kp.trans (Kp.weak hk), fun g e => by injection e with e; subst e; exact ⟨hr, h.kp.size, fun e => absurd (blk_lt h.blk) (by omega)⟩, (h.kn hk).r6, (h.kn hk).r8, h.ne⟩
theorem NewI.m6 (h : NewI w0 w p n c o4 none o8) (hr : RowV w' TBi w.heap.size (List.replicate n (.int .u64 0))) (hk : Kn w w') : NewI w0 w' p n c o4 (some w.heap.size) o8 :=
 ⟨hk.blk h.blk (fun x => x), h.kp.trans (Kp.weak hk), (h.kn hk).r4, fun g e => by injection e with e; subst e; exact ⟨hr, h.kp.size, fun e => absurd (blk_lt h.blk) (by omega)⟩, (h.kn hk).r8, fun a b e1 e2 => by injection e1 with e1; subst e1; have := (h.r8 b e2).1.lt; omega⟩
theorem NewI.m8 (h : NewI w0 w p n c o4 o6 none) (hr : RowV w' TBi w.heap.size (List.replicate n (.int .u64 0))) (hk : Kn w w') : NewI w0 w' p n c o4 o6 (some w.heap.size) :=
 ⟨hk.blk h.blk (fun x => x), h.kp.trans (Kp.weak hk), (h.kn hk).r4, (h.kn hk).r6, fun g e => by injection e with e; subst e; exact ⟨hr, h.kp.size, fun e => absurd (blk_lt h.blk) (by omega)⟩, fun a b e1 e2 => by injection e2 with e2; subst e2; have := (h.r6 a e1).1.lt; omega⟩
theorem NewI.st {c' : SA} {j : Nat} {v : Value} (h : NewI w0 w p n c o4 o6 o8) (hc : (seC c).setIfInBounds j v = seC c') : NewI w0 (w.setCell ⟨p, j, none⟩ v) p n c' o4 o6 o8 := by
 have hk : K1 p w (w.setCell ⟨p, j, none⟩ v) := Kp.set1 _ _
 exact ⟨by rw [blk_set h.blk, hc], h.kp.trans hk, fun g e => ⟨(h.r4 g e).1.kp hk (h.r4 g e).2.2, (h.r4 g e).2⟩, fun g e => ⟨(h.r6 g e).1.kp hk (h.r6 g e).2.2, (h.r6 g e).2⟩, fun g e => ⟨(h.r8 g e).1.kp hk (h.r8 g e).2.2, (h.r8 g e).2⟩, h.ne⟩
theorem NewI.c5 (h : NewI w0 w p n c o4 o6 o8) : w.cell? ⟨p, 5, none⟩ = some c.ve := by rw [cell_blk h.blk]; rfl
theorem NewI.c6 (h : NewI w0 w p n c o4 o6 o8) : w.cell? ⟨p, 6, none⟩ = some c.vf := by rw [cell_blk h.blk]; rfl
theorem NewI.c7 (h : NewI w0 w p n c o4 o6 o8) : w.cell? ⟨p, 7, none⟩ = some c.vw := by rw [cell_blk h.blk]; rfl
theorem NewI.fr (h : NewI w0 w p n c o4 o6 o8) (i : Nat) : w.frozen? ⟨p, i, none⟩ = false := frozen_blk h.blk i
end
def SetsIn (w : World) (p : Nat) (X : SX) : Prop := ∃ B A ge gf gw, StAt w B p X.b A X.empty X.first X.follow ge gf gw ∧ SBok X.b ∧ A.fin = X.fin
theorem SetsIn.kn {w w' : World} {p : Nat} {X : SX} (h : SetsIn w p X) (hk : Kn w w') : SetsIn w' p X := by
 obtain ⟨B, A, ge, gf, gw, h1, h2⟩ := h
 exact ⟨B, A, ge, gf, gw, h1.kn hk, h2⟩
set_option maxRecDepth 100000 in
set_option maxHeartbeats 16000000 in
theorem setsNew_c {pg : Nat} {R : RS} {rs : List GR} {br : List (Nat × Nat)} {w : World} (h : GrAt w pg R rs br) (ok : RulesOk rs) :
  Calls Tryz.prog 34 #[ptr pg] w fun e w' => ∃ (ps : Nat) (X : SX), e = .returned (.tuple #[ptr ps, .int .i64 0]) ∧ SetsIn w' ps X ∧ IsSets rs (clsOf R).length X ∧ Kn w w' := by
 have hmm := @run_makeMap Tryz.prog
 have hmf : ∀ (fn : Fn) (first cap : Array Value) (w : World), (Instr.makeFunc fn first cap).run Tryz.prog w = .ok (.func fn first cap) w := fun _ _ _ _ => rfl
 obtain ⟨⟨B0, A0, kb, vps0, hlk, -, -⟩, hok, hrl⟩ := h
 obtain ⟨w1, hw1⟩ : ∃ z, z = w.alloc (.map #[] 0) := ⟨_, rfl⟩
 have hk1 : Kn w w1 := by rw [hw1]; exact (Kp.refl _ _).alloc _
 obtain ⟨bm, hbm⟩ : ∃ z, z = w.heap.size := ⟨_, rfl⟩
 have hm1 : MapA w1 TPc bm [] := by rw [hw1, hbm]; exact MapA.new w TPc
 have HCL := Qh (classes_c (hlk.rd.kn hk1) hok)
 have HLK := Qh hlk
 have HW1 := Qh (And.intro hw1 hbm)
 have HK1 := Qh hk1
 have HM1 := Qh hm1
 have HOK := Qh ok
 have HRO := Qh hok
 have hcl80 : (clsOf R).length ≤ 80 := by
  unfold clsOf; rw [List.length_append, litC_len]
  have := hok.lits; have := hok.cls; omega
 obtain ⟨m, hm⟩ : ∃ m, m = (clsOf R).length := ⟨_, rfl⟩
 have HME := Qh hm
 have hpgl := hlk.lt
 clear ok hlk hw1 hk1 hm1 hok hbm hm
 have HRL := Qh hrl
 go_enter Tryz.func34, Tryz.ntmps34
 go_upto_region 3 with fail
 go_wp2_with (first | (go_at_call 24; go_must (rw [← HW1.out.1, ← HW1.out.2]; refine HCL.out.mono ?_; rintro e w2 ⟨v, rfl, hov, hk2⟩; obtain ⟨ac, cc, hv, _⟩ := hov.row (fun C hC => by { obtain ⟨x, _, rfl⟩ := List.mem_map.1 hC; rfl }); rw [List.length_map, ← HME.out] at hv; subst hv; have HK2 := Qh (HK1.out.trans hk2); have HM2 := Qh (HM1.out.kn hk2); clear hov hk2 HCL HM1)))
 obtain ⟨p, hp⟩ : ∃ z, z = w2.heap.size := ⟨_, rfl⟩
 obtain ⟨w3, hw3⟩ : ∃ z, z = w2.alloc (.cells (seC ⟨.slice none 0 0, .slice none 0 0, .slice none 0 0, .slice none 0 0, .slice none 0 0, .slice none 0 0, bm, m, [], []⟩) TSt) := ⟨_, rfl⟩
 rw [show (.cells #[.slice none 0 0, .map (some bm), .slice none 0 0, .slice none 0 0, .int .i64 (m : Nat), .slice none 0 0, .slice none 0 0, .slice none 0 0] TSt : Obj) = .cells (seC ⟨.slice none 0 0, .slice none 0 0, .slice none 0 0, .slice none 0 0, .slice none 0 0, .slice none 0 0, bm, m, [], []⟩) TSt from rfl, ← hw3, ← hp]
 have hk3 : Kn w2 w3 := by rw [hw3]; exact (Kp.refl _ _).alloc _
 have hbp : w3.heap[p]? = some (.cells (seC ⟨.slice none 0 0, .slice none 0 0, .slice none 0 0, .slice none 0 0, .slice none 0 0, .slice none 0 0, bm, m, [], []⟩) TSt (0, 0)) := by rw [hw3, hp]; exact blk_new _ _
 have HRU := Qh (rules_c (HLK.out.kn (HK2.out.trans hk3)) HRL.out (fun r hr => by have := HOK.out.pl r hr; omega))
 have hpw : w.heap.size ≤ p := by rw [hp]; exact HK2.out.size
 have HK3 := Qh (HK2.out.trans hk3)
 have HM3 := Qh (HM2.out.kn hk3)
 have HBP := Qh hbp
 have hbmw : w.heap.size ≤ bm := by have := HW1.out.2; omega
 clear hw3 hp hk3 hbp HK2 HM2
 refine HRU.out.mono ?_
 rintro e w4 ⟨v, vps, rfl, hru, hk4⟩
 obtain ⟨ar, cr, rfl, hrr⟩ := RuR.of hru
 have hbd : BdAt w4 w.heap.size p ⟨[], [], []⟩ ⟨.slice none 0 0, .slice none 0 0, .slice none 0 0, .slice none 0 0, .slice none 0 0, .slice none 0 0, bm, m, [], []⟩ :=
  ⟨hk4.blk HBP.out (fun x => x), OwnK.nil, HM3.out.kn hk4, ⟨OwnK.nil, rfl, fun i h => by simp at h⟩, ⟨OwnK.nil, rfl, fun i h => by simp at h⟩, hpw, hbmw⟩
 have HBC := Qh (build_c (c := cr) hbd hrr HOK.out)
 have HK4 := Qh (HK3.out.trans hk4)
 clear hru hk4 hrr hbd HRU HBP HM3 HK3
 go_wp2_with (first | (go_at_call 90; go_must (refine HBC.out.mono ?_; rintro e w5 ⟨rfl, A5, hb5, hak5, hkb5⟩; have HB5 := Qh hb5; have HAK5 := Qh hak5; have hkn5 : Kn w w5 := hkb5.old HK4.out rfl (Nat.le_refl _) hpw hbmw; have HK5 := Qh hkn5; obtain ⟨ap5, cp5, p5, _⟩ := hb5.pcell; clear hb5 hak5 hkb5 HBC hkn5)))
 obtain ⟨X, hX⟩ : ∃ z, z = buildF rs := ⟨_, rfl⟩
 rw [← hX] at HB5 p5 ⊢
 have HX := Qh hX
 have hbok := buildF_ok HOK.out
 rw [← hX] at hbok
 have HBO := Qh hbok
 have hXle := hbok.le
 have hXpos := hbok.pos
 obtain ⟨n, hn⟩ : ∃ z, z = X.places.length := ⟨_, rfl⟩
 rw [← hn] at p5 hXle hXpos ⊢
 have HN := Qh hn
 clear hX hbok hn
 obtain ⟨ib, hi, hz0, hz1, hz2⟩ := info_parts info_bool
 have HIB := Qh (And.intro hi (And.intro hz0 (And.intro hz1 hz2)))
 obtain ⟨iu, hi, hz0, hz1, hz2⟩ := info_parts info_bi
 have HIU := Qh (And.intro hi (And.intro hz0 (And.intro hz1 hz2)))
 have hpb := HB5.out.blk
 have hve5 : A5.ve = .slice none 0 0 := HAK5.out.ve
 have hvf5 : A5.vf = .slice none 0 0 := HAK5.out.vf
 have hvw5 : A5.vw = .slice none 0 0 := HAK5.out.vw
 have HVE := Qh (And.intro hve5 (And.intro hvf5 hvw5))
 have hmx : n ≤ maxLen := by simp only [maxLen]; omega
 have hbB : Hid (ib.bytes * n ≤ 281474976710656) := Qh (by rw [HIB.out.2.2.2]; omega)
 have hbU : Hid (iu.bytes * n ≤ 281474976710656) := Qh (by rw [HIU.out.2.2.2]; omega)
 have HI0 : Hid (NewI w5 w5.drew p n A5 none none none) := Qh ⟨hpb, (Kp.refl _ _).drew, fun g e => (by cases e), fun g e => (by cases e), fun g e => (by cases e), fun a b e _ => (by cases e)⟩
 clear hi hz0 hz1 hz2 hpb hve5 hvf5 hvw5
 go_upto_region 6 with fail
 go_cut [] (fun wc => ∃ ge gf gw : Nat, Hid (NewI w5 wc p n { A5 with ve := .slice (some ⟨ge, 0, none⟩) n n, vf := .slice (some ⟨gf, 0, none⟩) n n, vw := .slice (some ⟨gw, 0, none⟩) n n } (some ge) (some gf) (some gw)))
 case first =>
  refine rgn (fun _ => True) (X := []) trivial (fun hX hHeld => ?_)
  obtain ⟨v0, hv0⟩ : ∃ z, z = w5.drew := ⟨_, rfl⟩
  rw [← hv0] at HI0 ⊢
  clear hv0
  have HI := HI0
  clear HI0
  refine tw 0 23 ?_
  refine tw 1 24 ?_
  refine tw 2 25 ?_
  refine tw 3 26 ?_
  refine tw 5 28 ?_
  refine tw 7 30 ?_
  refine ro3 4 6 8 (fun K hK => ?_) (fun K hK => ?_) (fun K hK => ?_)
  ·refine step_make_v v0 (by rfl) (.tmp 26) (.tmp 26) 65 (by rfl) 4 ib (.bool false) Tryz.underlying65 HIB.out.1 HIB.out.2.1 HIB.out.2.2.1 (x := .bool false) (by rfl) n (by rfl) (by rfl) hbB.out hmx ?_
   intro v1 hr hk
   have HI := Qh (HI.out.m4 hr hk)
   obtain ⟨g4, hg⟩ : ∃ z, z = v0.heap.size := ⟨_, rfl⟩
   rw [← hg] at HI ⊢
   clear hr hk hg
   refine hK.out _ _ trivial (fun hHeld => ?_)
   clear hK K
   try simp only [PP]
   refine tw 9 32 ?_
   refine tw 10 33 ?_
   refine ro3 6 8 11 (fun K hK => ?_) (fun K hK => ?_) (fun K hK => ?_)
   ·refine step_make_v v1 (by rfl) (.tmp 28) (.tmp 28) 174 (by rfl) TBi iu (.agg #[.int .u64 0]) Tryz.underlying174 HIU.out.1 HIU.out.2.1 HIU.out.2.2.1 (x := .int .u64 0) (by rfl) n (by rfl) (by rfl) hbU.out hmx ?_
    intro v2 hr hk
    have HI := Qh (HI.out.m6 hr hk)
    obtain ⟨g6, hg⟩ : ∃ z, z = v1.heap.size := ⟨_, rfl⟩
    rw [← hg] at HI ⊢
    clear hr hk hg
    refine hK.out _ _ trivial (fun hHeld => ?_)
    clear hK K
    try simp only [PP]
    refine ro2 8 11 (fun K hK => ?_) (fun K hK => ?_)
    ·refine step_make_v v2 (by rfl) (.tmp 30) (.tmp 30) 174 (by rfl) TBi iu (.agg #[.int .u64 0]) Tryz.underlying174 HIU.out.1 HIU.out.2.1 HIU.out.2.2.1 (x := .int .u64 0) (by rfl) n (by rfl) (by rfl) hbU.out hmx ?_
     intro v3 hr hk
     have HI := Qh (HI.out.m8 hr hk)
     obtain ⟨g8, hg⟩ : ∃ z, z = v2.heap.size := ⟨_, rfl⟩
     rw [← hg] at HI ⊢
     clear hr hk hg
     refine hK.out _ _ trivial (fun hHeld => ?_)
     clear hK K
     try simp only [PP]
     refine ro 11 (fun K hK => ?_)
     have c := HI.out.c5
     have f := HI.out.fr 5
     go_simp
     have HI := Qh (HI.out.st (j := 5) (c' := { A5 with ve := .slice (some ⟨g4, 0, none⟩) n n }) (v := .slice (some ⟨g4, 0, none⟩) n n) rfl)
     obtain ⟨v4, hw⟩ : ∃ z, z = v3.setCell ⟨p, 5, none⟩ (.slice (some ⟨g4, 0, none⟩) n n) := ⟨_, rfl⟩
     rw [← hw] at HI ⊢
     clear hw c f
     refine hK.out _ _ trivial (fun hHeld => ?_)
     clear hK K
     try simp only [PP]
     refine tw 12 34 ?_
     refine tw 13 35 ?_
     refine ro 14 (fun K hK => ?_)
     have c := HI.out.c6
     have f := HI.out.fr 6
     go_simp
     have HI := Qh (HI.out.st (j := 6) (c' := { A5 with ve := .slice (some ⟨g4, 0, none⟩) n n, vf := .slice (some ⟨g6, 0, none⟩) n n }) (v := .slice (some ⟨g6, 0, none⟩) n n) rfl)
     obtain ⟨v5, hw⟩ : ∃ z, z = v4.setCell ⟨p, 6, none⟩ (.slice (some ⟨g6, 0, none⟩) n n) := ⟨_, rfl⟩
     rw [← hw] at HI ⊢
     clear hw c f
     refine hK.out _ _ trivial (fun hHeld => ?_)
     clear hK K
     try simp only [PP]
     refine tw 15 36 ?_
     refine tw 16 37 ?_
     refine re 17 (fun K hK => ?_)
     have c := HI.out.c7
     have f := HI.out.fr 7
     go_simp
     have HI := Qh (HI.out.st (j := 7) (c' := { A5 with ve := .slice (some ⟨g4, 0, none⟩) n n, vf := .slice (some ⟨g6, 0, none⟩) n n, vw := .slice (some ⟨g8, 0, none⟩) n n }) (v := .slice (some ⟨g8, 0, none⟩) n n) rfl)
     obtain ⟨v6, hw⟩ : ∃ z, z = v5.setCell ⟨p, 7, none⟩ (.slice (some ⟨g8, 0, none⟩) n n) := ⟨_, rfl⟩
     rw [← hw] at HI ⊢
     clear hw c f
     refine hK.out _ _ ?_
     clear hK K
     go_wp2_with fail
     go_meet
     case rel => exact ⟨g4, g6, g8, HI⟩
    ·have c := HI.out.c5
     have f := HI.out.fr 5
     go_simp
     have HI := Qh (HI.out.st (j := 5) (c' := { A5 with ve := .slice (some ⟨g4, 0, none⟩) n n }) (v := .slice (some ⟨g4, 0, none⟩) n n) rfl)
     obtain ⟨v3, hw⟩ : ∃ z, z = v2.setCell ⟨p, 5, none⟩ (.slice (some ⟨g4, 0, none⟩) n n) := ⟨_, rfl⟩
     rw [← hw] at HI ⊢
     clear hw c f
     refine hK.out _ _ trivial (fun hHeld => ?_)
     clear hK K
     try simp only [PP]
     refine tw 12 34 ?_
     refine tw 13 35 ?_
     refine ro2 8 14 (fun K hK => ?_) (fun K hK => ?_)
     ·refine step_make_v v3 (by rfl) (.tmp 30) (.tmp 30) 174 (by rfl) TBi iu (.agg #[.int .u64 0]) Tryz.underlying174 HIU.out.1 HIU.out.2.1 HIU.out.2.2.1 (x := .int .u64 0) (by rfl) n (by rfl) (by rfl) hbU.out hmx ?_
      intro v4 hr hk
      have HI := Qh (HI.out.m8 hr hk)
      obtain ⟨g8, hg⟩ : ∃ z, z = v3.heap.size := ⟨_, rfl⟩
      rw [← hg] at HI ⊢
      clear hr hk hg
      refine hK.out _ _ trivial (fun hHeld => ?_)
      clear hK K
      try simp only [PP]
      refine ro 14 (fun K hK => ?_)
      have c := HI.out.c6
      have f := HI.out.fr 6
      go_simp
      have HI := Qh (HI.out.st (j := 6) (c' := { A5 with ve := .slice (some ⟨g4, 0, none⟩) n n, vf := .slice (some ⟨g6, 0, none⟩) n n }) (v := .slice (some ⟨g6, 0, none⟩) n n) rfl)
      obtain ⟨v5, hw⟩ : ∃ z, z = v4.setCell ⟨p, 6, none⟩ (.slice (some ⟨g6, 0, none⟩) n n) := ⟨_, rfl⟩
      rw [← hw] at HI ⊢
      clear hw c f
      refine hK.out _ _ trivial (fun hHeld => ?_)
      clear hK K
      try simp only [PP]
      refine tw 15 36 ?_
      refine tw 16 37 ?_
      refine re 17 (fun K hK => ?_)
      have c := HI.out.c7
      have f := HI.out.fr 7
      go_simp
      have HI := Qh (HI.out.st (j := 7) (c' := { A5 with ve := .slice (some ⟨g4, 0, none⟩) n n, vf := .slice (some ⟨g6, 0, none⟩) n n, vw := .slice (some ⟨g8, 0, none⟩) n n }) (v := .slice (some ⟨g8, 0, none⟩) n n) rfl)
      obtain ⟨v6, hw⟩ : ∃ z, z = v5.setCell ⟨p, 7, none⟩ (.slice (some ⟨g8, 0, none⟩) n n) := ⟨_, rfl⟩
      rw [← hw] at HI ⊢
      clear hw c f
      refine hK.out _ _ ?_
      clear hK K
      go_wp2_with fail
      go_meet
      case rel => exact ⟨g4, g6, g8, HI⟩
     ·have c := HI.out.c6
      have f := HI.out.fr 6
      go_simp
      have HI := Qh (HI.out.st (j := 6) (c' := { A5 with ve := .slice (some ⟨g4, 0, none⟩) n n, vf := .slice (some ⟨g6, 0, none⟩) n n }) (v := .slice (some ⟨g6, 0, none⟩) n n) rfl)
      obtain ⟨v4, hw⟩ : ∃ z, z = v3.setCell ⟨p, 6, none⟩ (.slice (some ⟨g6, 0, none⟩) n n) := ⟨_, rfl⟩
      rw [← hw] at HI ⊢
      clear hw c f
      refine hK.out _ _ trivial (fun hHeld => ?_)
      clear hK K
      try simp only [PP]
      refine ro 8 (fun K hK => ?_)
      refine step_make_v v4 (by rfl) (.tmp 30) (.tmp 30) 174 (by rfl) TBi iu (.agg #[.int .u64 0]) Tryz.underlying174 HIU.out.1 HIU.out.2.1 HIU.out.2.2.1 (x := .int .u64 0) (by rfl) n (by rfl) (by rfl) hbU.out hmx ?_
      intro v5 hr hk
      have HI := Qh (HI.out.m8 hr hk)
      obtain ⟨g8, hg⟩ : ∃ z, z = v4.heap.size := ⟨_, rfl⟩
      rw [← hg] at HI ⊢
      clear hr hk hg
      refine hK.out _ _ trivial (fun hHeld => ?_)
      clear hK K
      try simp only [PP]
      refine tw 15 36 ?_
      refine tw 16 37 ?_
      refine re 17 (fun K hK => ?_)
      have c := HI.out.c7
      have f := HI.out.fr 7
      go_simp
      have HI := Qh (HI.out.st (j := 7) (c' := { A5 with ve := .slice (some ⟨g4, 0, none⟩) n n, vf := .slice (some ⟨g6, 0, none⟩) n n, vw := .slice (some ⟨g8, 0, none⟩) n n }) (v := .slice (some ⟨g8, 0, none⟩) n n) rfl)
      obtain ⟨v6, hw⟩ : ∃ z, z = v5.setCell ⟨p, 7, none⟩ (.slice (some ⟨g8, 0, none⟩) n n) := ⟨_, rfl⟩
      rw [← hw] at HI ⊢
      clear hw c f
      refine hK.out _ _ ?_
      clear hK K
      go_wp2_with fail
      go_meet
      case rel => exact ⟨g4, g6, g8, HI⟩
   ·refine step_make_v v1 (by rfl) (.tmp 30) (.tmp 30) 174 (by rfl) TBi iu (.agg #[.int .u64 0]) Tryz.underlying174 HIU.out.1 HIU.out.2.1 HIU.out.2.2.1 (x := .int .u64 0) (by rfl) n (by rfl) (by rfl) hbU.out hmx ?_
    intro v2 hr hk
    have HI := Qh (HI.out.m8 hr hk)
    obtain ⟨g8, hg⟩ : ∃ z, z = v1.heap.size := ⟨_, rfl⟩
    rw [← hg] at HI ⊢
    clear hr hk hg
    refine hK.out _ _ trivial (fun hHeld => ?_)
    clear hK K
    try simp only [PP]
    refine ro2 6 11 (fun K hK => ?_) (fun K hK => ?_)
    ·refine step_make_v v2 (by rfl) (.tmp 28) (.tmp 28) 174 (by rfl) TBi iu (.agg #[.int .u64 0]) Tryz.underlying174 HIU.out.1 HIU.out.2.1 HIU.out.2.2.1 (x := .int .u64 0) (by rfl) n (by rfl) (by rfl) hbU.out hmx ?_
     intro v3 hr hk
     have HI := Qh (HI.out.m6 hr hk)
     obtain ⟨g6, hg⟩ : ∃ z, z = v2.heap.size := ⟨_, rfl⟩
     rw [← hg] at HI ⊢
     clear hr hk hg
     refine hK.out _ _ trivial (fun hHeld => ?_)
     clear hK K
     try simp only [PP]
     refine ro 11 (fun K hK => ?_)
     have c := HI.out.c5
     have f := HI.out.fr 5
     go_simp
     have HI := Qh (HI.out.st (j := 5) (c' := { A5 with ve := .slice (some ⟨g4, 0, none⟩) n n }) (v := .slice (some ⟨g4, 0, none⟩) n n) rfl)
     obtain ⟨v4, hw⟩ : ∃ z, z = v3.setCell ⟨p, 5, none⟩ (.slice (some ⟨g4, 0, none⟩) n n) := ⟨_, rfl⟩
     rw [← hw] at HI ⊢
     clear hw c f
     refine hK.out _ _ trivial (fun hHeld => ?_)
     clear hK K
     try simp only [PP]
     refine tw 12 34 ?_
     refine tw 13 35 ?_
     refine ro 14 (fun K hK => ?_)
     have c := HI.out.c6
     have f := HI.out.fr 6
     go_simp
     have HI := Qh (HI.out.st (j := 6) (c' := { A5 with ve := .slice (some ⟨g4, 0, none⟩) n n, vf := .slice (some ⟨g6, 0, none⟩) n n }) (v := .slice (some ⟨g6, 0, none⟩) n n) rfl)
     obtain ⟨v5, hw⟩ : ∃ z, z = v4.setCell ⟨p, 6, none⟩ (.slice (some ⟨g6, 0, none⟩) n n) := ⟨_, rfl⟩
     rw [← hw] at HI ⊢
     clear hw c f
     refine hK.out _ _ trivial (fun hHeld => ?_)
     clear hK K
     try simp only [PP]
     refine tw 15 36 ?_
     refine tw 16 37 ?_
     refine re 17 (fun K hK => ?_)
     have c := HI.out.c7
     have f := HI.out.fr 7
     go_simp
     have HI := Qh (HI.out.st (j := 7) (c' := { A5 with ve := .slice (some ⟨g4, 0, none⟩) n n, vf := .slice (some ⟨g6, 0, none⟩) n n, vw := .slice (some ⟨g8, 0, none⟩) n n }) (v := .slice (some ⟨g8, 0, none⟩) n n) rfl)
     obtain ⟨v6, hw⟩ : ∃ z, z = v5.setCell ⟨p, 7, none⟩ (.slice (some ⟨g8, 0, none⟩) n n) := ⟨_, rfl⟩
     rw [← hw] at HI ⊢
     clear hw c f
     refine hK.out _ _ ?_
     clear hK K
     go_wp2_with fail
     go_meet
     case rel => exact ⟨g4, g6, g8, HI⟩
    ·have c := HI.out.c5
     have f := HI.out.fr 5
     go_simp
     have HI := Qh (HI.out.st (j := 5) (c' := { A5 with ve := .slice (some ⟨g4, 0, none⟩) n n }) (v := .slice (some ⟨g4, 0, none⟩) n n) rfl)
     obtain ⟨v3, hw⟩ : ∃ z, z = v2.setCell ⟨p, 5, none⟩ (.slice (some ⟨g4, 0, none⟩) n n) := ⟨_, rfl⟩
     rw [← hw] at HI ⊢
     clear hw c f
     refine hK.out _ _ trivial (fun hHeld => ?_)
     clear hK K
     try simp only [PP]
     refine ro 6 (fun K hK => ?_)
     refine step_make_v v3 (by rfl) (.tmp 28) (.tmp 28) 174 (by rfl) TBi iu (.agg #[.int .u64 0]) Tryz.underlying174 HIU.out.1 HIU.out.2.1 HIU.out.2.2.1 (x := .int .u64 0) (by rfl) n (by rfl) (by rfl) hbU.out hmx ?_
     intro v4 hr hk
     have HI := Qh (HI.out.m6 hr hk)
     obtain ⟨g6, hg⟩ : ∃ z, z = v3.heap.size := ⟨_, rfl⟩
     rw [← hg] at HI ⊢
     clear hr hk hg
     refine hK.out _ _ trivial (fun hHeld => ?_)
     clear hK K
     try simp only [PP]
     refine tw 12 34 ?_
     refine tw 13 35 ?_
     refine ro 14 (fun K hK => ?_)
     have c := HI.out.c6
     have f := HI.out.fr 6
     go_simp
     have HI := Qh (HI.out.st (j := 6) (c' := { A5 with ve := .slice (some ⟨g4, 0, none⟩) n n, vf := .slice (some ⟨g6, 0, none⟩) n n }) (v := .slice (some ⟨g6, 0, none⟩) n n) rfl)
     obtain ⟨v5, hw⟩ : ∃ z, z = v4.setCell ⟨p, 6, none⟩ (.slice (some ⟨g6, 0, none⟩) n n) := ⟨_, rfl⟩
     rw [← hw] at HI ⊢
     clear hw c f
     refine hK.out _ _ trivial (fun hHeld => ?_)
     clear hK K
     try simp only [PP]
     refine tw 15 36 ?_
     refine tw 16 37 ?_
     refine re 17 (fun K hK => ?_)
     have c := HI.out.c7
     have f := HI.out.fr 7
     go_simp
     have HI := Qh (HI.out.st (j := 7) (c' := { A5 with ve := .slice (some ⟨g4, 0, none⟩) n n, vf := .slice (some ⟨g6, 0, none⟩) n n, vw := .slice (some ⟨g8, 0, none⟩) n n }) (v := .slice (some ⟨g8, 0, none⟩) n n) rfl)
     obtain ⟨v6, hw⟩ : ∃ z, z = v5.setCell ⟨p, 7, none⟩ (.slice (some ⟨g8, 0, none⟩) n n) := ⟨_, rfl⟩
     rw [← hw] at HI ⊢
     clear hw c f
     refine hK.out _ _ ?_
     clear hK K
     go_wp2_with fail
     go_meet
     case rel => exact ⟨g4, g6, g8, HI⟩
   ·have c := HI.out.c5
    have f := HI.out.fr 5
    go_simp
    have HI := Qh (HI.out.st (j := 5) (c' := { A5 with ve := .slice (some ⟨g4, 0, none⟩) n n }) (v := .slice (some ⟨g4, 0, none⟩) n n) rfl)
    obtain ⟨v2, hw⟩ : ∃ z, z = v1.setCell ⟨p, 5, none⟩ (.slice (some ⟨g4, 0, none⟩) n n) := ⟨_, rfl⟩
    rw [← hw] at HI ⊢
    clear hw c f
    refine hK.out _ _ trivial (fun hHeld => ?_)
    clear hK K
    try simp only [PP]
    refine ro2 6 8 (fun K hK => ?_) (fun K hK => ?_)
    ·refine step_make_v v2 (by rfl) (.tmp 28) (.tmp 28) 174 (by rfl) TBi iu (.agg #[.int .u64 0]) Tryz.underlying174 HIU.out.1 HIU.out.2.1 HIU.out.2.2.1 (x := .int .u64 0) (by rfl) n (by rfl) (by rfl) hbU.out hmx ?_
     intro v3 hr hk
     have HI := Qh (HI.out.m6 hr hk)
     obtain ⟨g6, hg⟩ : ∃ z, z = v2.heap.size := ⟨_, rfl⟩
     rw [← hg] at HI ⊢
     clear hr hk hg
     refine hK.out _ _ trivial (fun hHeld => ?_)
     clear hK K
     try simp only [PP]
     refine tw 12 34 ?_
     refine tw 13 35 ?_
     refine ro2 8 14 (fun K hK => ?_) (fun K hK => ?_)
     ·refine step_make_v v3 (by rfl) (.tmp 30) (.tmp 30) 174 (by rfl) TBi iu (.agg #[.int .u64 0]) Tryz.underlying174 HIU.out.1 HIU.out.2.1 HIU.out.2.2.1 (x := .int .u64 0) (by rfl) n (by rfl) (by rfl) hbU.out hmx ?_
      intro v4 hr hk
      have HI := Qh (HI.out.m8 hr hk)
      obtain ⟨g8, hg⟩ : ∃ z, z = v3.heap.size := ⟨_, rfl⟩
      rw [← hg] at HI ⊢
      clear hr hk hg
      refine hK.out _ _ trivial (fun hHeld => ?_)
      clear hK K
      try simp only [PP]
      refine ro 14 (fun K hK => ?_)
      have c := HI.out.c6
      have f := HI.out.fr 6
      go_simp
      have HI := Qh (HI.out.st (j := 6) (c' := { A5 with ve := .slice (some ⟨g4, 0, none⟩) n n, vf := .slice (some ⟨g6, 0, none⟩) n n }) (v := .slice (some ⟨g6, 0, none⟩) n n) rfl)
      obtain ⟨v5, hw⟩ : ∃ z, z = v4.setCell ⟨p, 6, none⟩ (.slice (some ⟨g6, 0, none⟩) n n) := ⟨_, rfl⟩
      rw [← hw] at HI ⊢
      clear hw c f
      refine hK.out _ _ trivial (fun hHeld => ?_)
      clear hK K
      try simp only [PP]
      refine tw 15 36 ?_
      refine tw 16 37 ?_
      refine re 17 (fun K hK => ?_)
      have c := HI.out.c7
      have f := HI.out.fr 7
      go_simp
      have HI := Qh (HI.out.st (j := 7) (c' := { A5 with ve := .slice (some ⟨g4, 0, none⟩) n n, vf := .slice (some ⟨g6, 0, none⟩) n n, vw := .slice (some ⟨g8, 0, none⟩) n n }) (v := .slice (some ⟨g8, 0, none⟩) n n) rfl)
      obtain ⟨v6, hw⟩ : ∃ z, z = v5.setCell ⟨p, 7, none⟩ (.slice (some ⟨g8, 0, none⟩) n n) := ⟨_, rfl⟩
      rw [← hw] at HI ⊢
      clear hw c f
      refine hK.out _ _ ?_
      clear hK K
      go_wp2_with fail
      go_meet
      case rel => exact ⟨g4, g6, g8, HI⟩
     ·have c := HI.out.c6
      have f := HI.out.fr 6
      go_simp
      have HI := Qh (HI.out.st (j := 6) (c' := { A5 with ve := .slice (some ⟨g4, 0, none⟩) n n, vf := .slice (some ⟨g6, 0, none⟩) n n }) (v := .slice (some ⟨g6, 0, none⟩) n n) rfl)
      obtain ⟨v4, hw⟩ : ∃ z, z = v3.setCell ⟨p, 6, none⟩ (.slice (some ⟨g6, 0, none⟩) n n) := ⟨_, rfl⟩
      rw [← hw] at HI ⊢
      clear hw c f
      refine hK.out _ _ trivial (fun hHeld => ?_)
      clear hK K
      try simp only [PP]
      refine ro 8 (fun K hK => ?_)
      refine step_make_v v4 (by rfl) (.tmp 30) (.tmp 30) 174 (by rfl) TBi iu (.agg #[.int .u64 0]) Tryz.underlying174 HIU.out.1 HIU.out.2.1 HIU.out.2.2.1 (x := .int .u64 0) (by rfl) n (by rfl) (by rfl) hbU.out hmx ?_
      intro v5 hr hk
      have HI := Qh (HI.out.m8 hr hk)
      obtain ⟨g8, hg⟩ : ∃ z, z = v4.heap.size := ⟨_, rfl⟩
      rw [← hg] at HI ⊢
      clear hr hk hg
      refine hK.out _ _ trivial (fun hHeld => ?_)
      clear hK K
      try simp only [PP]
      refine tw 15 36 ?_
      refine tw 16 37 ?_
      refine re 17 (fun K hK => ?_)
      have c := HI.out.c7
      have f := HI.out.fr 7
      go_simp
      have HI := Qh (HI.out.st (j := 7) (c' := { A5 with ve := .slice (some ⟨g4, 0, none⟩) n n, vf := .slice (some ⟨g6, 0, none⟩) n n, vw := .slice (some ⟨g8, 0, none⟩) n n }) (v := .slice (some ⟨g8, 0, none⟩) n n) rfl)
      obtain ⟨v6, hw⟩ : ∃ z, z = v5.setCell ⟨p, 7, none⟩ (.slice (some ⟨g8, 0, none⟩) n n) := ⟨_, rfl⟩
      rw [← hw] at HI ⊢
      clear hw c f
      refine hK.out _ _ ?_
      clear hK K
      go_wp2_with fail
      go_meet
      case rel => exact ⟨g4, g6, g8, HI⟩
    ·refine step_make_v v2 (by rfl) (.tmp 30) (.tmp 30) 174 (by rfl) TBi iu (.agg #[.int .u64 0]) Tryz.underlying174 HIU.out.1 HIU.out.2.1 HIU.out.2.2.1 (x := .int .u64 0) (by rfl) n (by rfl) (by rfl) hbU.out hmx ?_
     intro v3 hr hk
     have HI := Qh (HI.out.m8 hr hk)
     obtain ⟨g8, hg⟩ : ∃ z, z = v2.heap.size := ⟨_, rfl⟩
     rw [← hg] at HI ⊢
     clear hr hk hg
     refine hK.out _ _ trivial (fun hHeld => ?_)
     clear hK K
     try simp only [PP]
     refine ro 6 (fun K hK => ?_)
     refine step_make_v v3 (by rfl) (.tmp 28) (.tmp 28) 174 (by rfl) TBi iu (.agg #[.int .u64 0]) Tryz.underlying174 HIU.out.1 HIU.out.2.1 HIU.out.2.2.1 (x := .int .u64 0) (by rfl) n (by rfl) (by rfl) hbU.out hmx ?_
     intro v4 hr hk
     have HI := Qh (HI.out.m6 hr hk)
     obtain ⟨g6, hg⟩ : ∃ z, z = v3.heap.size := ⟨_, rfl⟩
     rw [← hg] at HI ⊢
     clear hr hk hg
     refine hK.out _ _ trivial (fun hHeld => ?_)
     clear hK K
     try simp only [PP]
     refine tw 12 34 ?_
     refine tw 13 35 ?_
     refine ro 14 (fun K hK => ?_)
     have c := HI.out.c6
     have f := HI.out.fr 6
     go_simp
     have HI := Qh (HI.out.st (j := 6) (c' := { A5 with ve := .slice (some ⟨g4, 0, none⟩) n n, vf := .slice (some ⟨g6, 0, none⟩) n n }) (v := .slice (some ⟨g6, 0, none⟩) n n) rfl)
     obtain ⟨v5, hw⟩ : ∃ z, z = v4.setCell ⟨p, 6, none⟩ (.slice (some ⟨g6, 0, none⟩) n n) := ⟨_, rfl⟩
     rw [← hw] at HI ⊢
     clear hw c f
     refine hK.out _ _ trivial (fun hHeld => ?_)
     clear hK K
     try simp only [PP]
     refine tw 15 36 ?_
     refine tw 16 37 ?_
     refine re 17 (fun K hK => ?_)
     have c := HI.out.c7
     have f := HI.out.fr 7
     go_simp
     have HI := Qh (HI.out.st (j := 7) (c' := { A5 with ve := .slice (some ⟨g4, 0, none⟩) n n, vf := .slice (some ⟨g6, 0, none⟩) n n, vw := .slice (some ⟨g8, 0, none⟩) n n }) (v := .slice (some ⟨g8, 0, none⟩) n n) rfl)
     obtain ⟨v6, hw⟩ : ∃ z, z = v5.setCell ⟨p, 7, none⟩ (.slice (some ⟨g8, 0, none⟩) n n) := ⟨_, rfl⟩
     rw [← hw] at HI ⊢
     clear hw c f
     refine hK.out _ _ ?_
     clear hK K
     go_wp2_with fail
     go_meet
     case rel => exact ⟨g4, g6, g8, HI⟩
  ·refine step_make_v v0 (by rfl) (.tmp 28) (.tmp 28) 174 (by rfl) TBi iu (.agg #[.int .u64 0]) Tryz.underlying174 HIU.out.1 HIU.out.2.1 HIU.out.2.2.1 (x := .int .u64 0) (by rfl) n (by rfl) (by rfl) hbU.out hmx ?_
   intro v1 hr hk
   have HI := Qh (HI.out.m6 hr hk)
   obtain ⟨g6, hg⟩ : ∃ z, z = v0.heap.size := ⟨_, rfl⟩
   rw [← hg] at HI ⊢
   clear hr hk hg
   refine hK.out _ _ trivial (fun hHeld => ?_)
   clear hK K
   try simp only [PP]
   refine ro2 4 8 (fun K hK => ?_) (fun K hK => ?_)
   ·refine step_make_v v1 (by rfl) (.tmp 26) (.tmp 26) 65 (by rfl) 4 ib (.bool false) Tryz.underlying65 HIB.out.1 HIB.out.2.1 HIB.out.2.2.1 (x := .bool false) (by rfl) n (by rfl) (by rfl) hbB.out hmx ?_
    intro v2 hr hk
    have HI := Qh (HI.out.m4 hr hk)
    obtain ⟨g4, hg⟩ : ∃ z, z = v1.heap.size := ⟨_, rfl⟩
    rw [← hg] at HI ⊢
    clear hr hk hg
    refine hK.out _ _ trivial (fun hHeld => ?_)
    clear hK K
    try simp only [PP]
    refine tw 9 32 ?_
    refine tw 10 33 ?_
    refine ro2 8 11 (fun K hK => ?_) (fun K hK => ?_)
    ·refine step_make_v v2 (by rfl) (.tmp 30) (.tmp 30) 174 (by rfl) TBi iu (.agg #[.int .u64 0]) Tryz.underlying174 HIU.out.1 HIU.out.2.1 HIU.out.2.2.1 (x := .int .u64 0) (by rfl) n (by rfl) (by rfl) hbU.out hmx ?_
     intro v3 hr hk
     have HI := Qh (HI.out.m8 hr hk)
     obtain ⟨g8, hg⟩ : ∃ z, z = v2.heap.size := ⟨_, rfl⟩
     rw [← hg] at HI ⊢
     clear hr hk hg
     refine hK.out _ _ trivial (fun hHeld => ?_)
     clear hK K
     try simp only [PP]
     refine ro 11 (fun K hK => ?_)
     have c := HI.out.c5
     have f := HI.out.fr 5
     go_simp
     have HI := Qh (HI.out.st (j := 5) (c' := { A5 with ve := .slice (some ⟨g4, 0, none⟩) n n }) (v := .slice (some ⟨g4, 0, none⟩) n n) rfl)
     obtain ⟨v4, hw⟩ : ∃ z, z = v3.setCell ⟨p, 5, none⟩ (.slice (some ⟨g4, 0, none⟩) n n) := ⟨_, rfl⟩
     rw [← hw] at HI ⊢
     clear hw c f
     refine hK.out _ _ trivial (fun hHeld => ?_)
     clear hK K
     try simp only [PP]
     refine tw 12 34 ?_
     refine tw 13 35 ?_
     refine ro 14 (fun K hK => ?_)
     have c := HI.out.c6
     have f := HI.out.fr 6
     go_simp
     have HI := Qh (HI.out.st (j := 6) (c' := { A5 with ve := .slice (some ⟨g4, 0, none⟩) n n, vf := .slice (some ⟨g6, 0, none⟩) n n }) (v := .slice (some ⟨g6, 0, none⟩) n n) rfl)
     obtain ⟨v5, hw⟩ : ∃ z, z = v4.setCell ⟨p, 6, none⟩ (.slice (some ⟨g6, 0, none⟩) n n) := ⟨_, rfl⟩
     rw [← hw] at HI ⊢
     clear hw c f
     refine hK.out _ _ trivial (fun hHeld => ?_)
     clear hK K
     try simp only [PP]
     refine tw 15 36 ?_
     refine tw 16 37 ?_
     refine re 17 (fun K hK => ?_)
     have c := HI.out.c7
     have f := HI.out.fr 7
     go_simp
     have HI := Qh (HI.out.st (j := 7) (c' := { A5 with ve := .slice (some ⟨g4, 0, none⟩) n n, vf := .slice (some ⟨g6, 0, none⟩) n n, vw := .slice (some ⟨g8, 0, none⟩) n n }) (v := .slice (some ⟨g8, 0, none⟩) n n) rfl)
     obtain ⟨v6, hw⟩ : ∃ z, z = v5.setCell ⟨p, 7, none⟩ (.slice (some ⟨g8, 0, none⟩) n n) := ⟨_, rfl⟩
     rw [← hw] at HI ⊢
     clear hw c f
     refine hK.out _ _ ?_
     clear hK K
     go_wp2_with fail
     go_meet
     case rel => exact ⟨g4, g6, g8, HI⟩
    ·have c := HI.out.c5
     have f := HI.out.fr 5
     go_simp
     have HI := Qh (HI.out.st (j := 5) (c' := { A5 with ve := .slice (some ⟨g4, 0, none⟩) n n }) (v := .slice (some ⟨g4, 0, none⟩) n n) rfl)
     obtain ⟨v3, hw⟩ : ∃ z, z = v2.setCell ⟨p, 5, none⟩ (.slice (some ⟨g4, 0, none⟩) n n) := ⟨_, rfl⟩
     rw [← hw] at HI ⊢
     clear hw c f
     refine hK.out _ _ trivial (fun hHeld => ?_)
     clear hK K
     try simp only [PP]
     refine tw 12 34 ?_
     refine tw 13 35 ?_
     refine ro2 8 14 (fun K hK => ?_) (fun K hK => ?_)
     ·refine step_make_v v3 (by rfl) (.tmp 30) (.tmp 30) 174 (by rfl) TBi iu (.agg #[.int .u64 0]) Tryz.underlying174 HIU.out.1 HIU.out.2.1 HIU.out.2.2.1 (x := .int .u64 0) (by rfl) n (by rfl) (by rfl) hbU.out hmx ?_
      intro v4 hr hk
      have HI := Qh (HI.out.m8 hr hk)
      obtain ⟨g8, hg⟩ : ∃ z, z = v3.heap.size := ⟨_, rfl⟩
      rw [← hg] at HI ⊢
      clear hr hk hg
      refine hK.out _ _ trivial (fun hHeld => ?_)
      clear hK K
      try simp only [PP]
      refine ro 14 (fun K hK => ?_)
      have c := HI.out.c6
      have f := HI.out.fr 6
      go_simp
      have HI := Qh (HI.out.st (j := 6) (c' := { A5 with ve := .slice (some ⟨g4, 0, none⟩) n n, vf := .slice (some ⟨g6, 0, none⟩) n n }) (v := .slice (some ⟨g6, 0, none⟩) n n) rfl)
      obtain ⟨v5, hw⟩ : ∃ z, z = v4.setCell ⟨p, 6, none⟩ (.slice (some ⟨g6, 0, none⟩) n n) := ⟨_, rfl⟩
      rw [← hw] at HI ⊢
      clear hw c f
      refine hK.out _ _ trivial (fun hHeld => ?_)
      clear hK K
      try simp only [PP]
      refine tw 15 36 ?_
      refine tw 16 37 ?_
      refine re 17 (fun K hK => ?_)
      have c := HI.out.c7
      have f := HI.out.fr 7
      go_simp
      have HI := Qh (HI.out.st (j := 7) (c' := { A5 with ve := .slice (some ⟨g4, 0, none⟩) n n, vf := .slice (some ⟨g6, 0, none⟩) n n, vw := .slice (some ⟨g8, 0, none⟩) n n }) (v := .slice (some ⟨g8, 0, none⟩) n n) rfl)
      obtain ⟨v6, hw⟩ : ∃ z, z = v5.setCell ⟨p, 7, none⟩ (.slice (some ⟨g8, 0, none⟩) n n) := ⟨_, rfl⟩
      rw [← hw] at HI ⊢
      clear hw c f
      refine hK.out _ _ ?_
      clear hK K
      go_wp2_with fail
      go_meet
      case rel => exact ⟨g4, g6, g8, HI⟩
     ·have c := HI.out.c6
      have f := HI.out.fr 6
      go_simp
      have HI := Qh (HI.out.st (j := 6) (c' := { A5 with ve := .slice (some ⟨g4, 0, none⟩) n n, vf := .slice (some ⟨g6, 0, none⟩) n n }) (v := .slice (some ⟨g6, 0, none⟩) n n) rfl)
      obtain ⟨v4, hw⟩ : ∃ z, z = v3.setCell ⟨p, 6, none⟩ (.slice (some ⟨g6, 0, none⟩) n n) := ⟨_, rfl⟩
      rw [← hw] at HI ⊢
      clear hw c f
      refine hK.out _ _ trivial (fun hHeld => ?_)
      clear hK K
      try simp only [PP]
      refine ro 8 (fun K hK => ?_)
      refine step_make_v v4 (by rfl) (.tmp 30) (.tmp 30) 174 (by rfl) TBi iu (.agg #[.int .u64 0]) Tryz.underlying174 HIU.out.1 HIU.out.2.1 HIU.out.2.2.1 (x := .int .u64 0) (by rfl) n (by rfl) (by rfl) hbU.out hmx ?_
      intro v5 hr hk
      have HI := Qh (HI.out.m8 hr hk)
      obtain ⟨g8, hg⟩ : ∃ z, z = v4.heap.size := ⟨_, rfl⟩
      rw [← hg] at HI ⊢
      clear hr hk hg
      refine hK.out _ _ trivial (fun hHeld => ?_)
      clear hK K
      try simp only [PP]
      refine tw 15 36 ?_
      refine tw 16 37 ?_
      refine re 17 (fun K hK => ?_)
      have c := HI.out.c7
      have f := HI.out.fr 7
      go_simp
      have HI := Qh (HI.out.st (j := 7) (c' := { A5 with ve := .slice (some ⟨g4, 0, none⟩) n n, vf := .slice (some ⟨g6, 0, none⟩) n n, vw := .slice (some ⟨g8, 0, none⟩) n n }) (v := .slice (some ⟨g8, 0, none⟩) n n) rfl)
      obtain ⟨v6, hw⟩ : ∃ z, z = v5.setCell ⟨p, 7, none⟩ (.slice (some ⟨g8, 0, none⟩) n n) := ⟨_, rfl⟩
      rw [← hw] at HI ⊢
      clear hw c f
      refine hK.out _ _ ?_
      clear hK K
      go_wp2_with fail
      go_meet
      case rel => exact ⟨g4, g6, g8, HI⟩
   ·refine step_make_v v1 (by rfl) (.tmp 30) (.tmp 30) 174 (by rfl) TBi iu (.agg #[.int .u64 0]) Tryz.underlying174 HIU.out.1 HIU.out.2.1 HIU.out.2.2.1 (x := .int .u64 0) (by rfl) n (by rfl) (by rfl) hbU.out hmx ?_
    intro v2 hr hk
    have HI := Qh (HI.out.m8 hr hk)
    obtain ⟨g8, hg⟩ : ∃ z, z = v1.heap.size := ⟨_, rfl⟩
    rw [← hg] at HI ⊢
    clear hr hk hg
    refine hK.out _ _ trivial (fun hHeld => ?_)
    clear hK K
    try simp only [PP]
    refine ro 4 (fun K hK => ?_)
    refine step_make_v v2 (by rfl) (.tmp 26) (.tmp 26) 65 (by rfl) 4 ib (.bool false) Tryz.underlying65 HIB.out.1 HIB.out.2.1 HIB.out.2.2.1 (x := .bool false) (by rfl) n (by rfl) (by rfl) hbB.out hmx ?_
    intro v3 hr hk
    have HI := Qh (HI.out.m4 hr hk)
    obtain ⟨g4, hg⟩ : ∃ z, z = v2.heap.size := ⟨_, rfl⟩
    rw [← hg] at HI ⊢
    clear hr hk hg
    refine hK.out _ _ trivial (fun hHeld => ?_)
    clear hK K
    try simp only [PP]
    refine tw 9 32 ?_
    refine tw 10 33 ?_
    refine ro 11 (fun K hK => ?_)
    have c := HI.out.c5
    have f := HI.out.fr 5
    go_simp
    have HI := Qh (HI.out.st (j := 5) (c' := { A5 with ve := .slice (some ⟨g4, 0, none⟩) n n }) (v := .slice (some ⟨g4, 0, none⟩) n n) rfl)
    obtain ⟨v4, hw⟩ : ∃ z, z = v3.setCell ⟨p, 5, none⟩ (.slice (some ⟨g4, 0, none⟩) n n) := ⟨_, rfl⟩
    rw [← hw] at HI ⊢
    clear hw c f
    refine hK.out _ _ trivial (fun hHeld => ?_)
    clear hK K
    try simp only [PP]
    refine tw 12 34 ?_
    refine tw 13 35 ?_
    refine ro 14 (fun K hK => ?_)
    have c := HI.out.c6
    have f := HI.out.fr 6
    go_simp
    have HI := Qh (HI.out.st (j := 6) (c' := { A5 with ve := .slice (some ⟨g4, 0, none⟩) n n, vf := .slice (some ⟨g6, 0, none⟩) n n }) (v := .slice (some ⟨g6, 0, none⟩) n n) rfl)
    obtain ⟨v5, hw⟩ : ∃ z, z = v4.setCell ⟨p, 6, none⟩ (.slice (some ⟨g6, 0, none⟩) n n) := ⟨_, rfl⟩
    rw [← hw] at HI ⊢
    clear hw c f
    refine hK.out _ _ trivial (fun hHeld => ?_)
    clear hK K
    try simp only [PP]
    refine tw 15 36 ?_
    refine tw 16 37 ?_
    refine re 17 (fun K hK => ?_)
    have c := HI.out.c7
    have f := HI.out.fr 7
    go_simp
    have HI := Qh (HI.out.st (j := 7) (c' := { A5 with ve := .slice (some ⟨g4, 0, none⟩) n n, vf := .slice (some ⟨g6, 0, none⟩) n n, vw := .slice (some ⟨g8, 0, none⟩) n n }) (v := .slice (some ⟨g8, 0, none⟩) n n) rfl)
    obtain ⟨v6, hw⟩ : ∃ z, z = v5.setCell ⟨p, 7, none⟩ (.slice (some ⟨g8, 0, none⟩) n n) := ⟨_, rfl⟩
    rw [← hw] at HI ⊢
    clear hw c f
    refine hK.out _ _ ?_
    clear hK K
    go_wp2_with fail
    go_meet
    case rel => exact ⟨g4, g6, g8, HI⟩
  ·refine step_make_v v0 (by rfl) (.tmp 30) (.tmp 30) 174 (by rfl) TBi iu (.agg #[.int .u64 0]) Tryz.underlying174 HIU.out.1 HIU.out.2.1 HIU.out.2.2.1 (x := .int .u64 0) (by rfl) n (by rfl) (by rfl) hbU.out hmx ?_
   intro v1 hr hk
   have HI := Qh (HI.out.m8 hr hk)
   obtain ⟨g8, hg⟩ : ∃ z, z = v0.heap.size := ⟨_, rfl⟩
   rw [← hg] at HI ⊢
   clear hr hk hg
   refine hK.out _ _ trivial (fun hHeld => ?_)
   clear hK K
   try simp only [PP]
   refine ro2 4 6 (fun K hK => ?_) (fun K hK => ?_)
   ·refine step_make_v v1 (by rfl) (.tmp 26) (.tmp 26) 65 (by rfl) 4 ib (.bool false) Tryz.underlying65 HIB.out.1 HIB.out.2.1 HIB.out.2.2.1 (x := .bool false) (by rfl) n (by rfl) (by rfl) hbB.out hmx ?_
    intro v2 hr hk
    have HI := Qh (HI.out.m4 hr hk)
    obtain ⟨g4, hg⟩ : ∃ z, z = v1.heap.size := ⟨_, rfl⟩
    rw [← hg] at HI ⊢
    clear hr hk hg
    refine hK.out _ _ trivial (fun hHeld => ?_)
    clear hK K
    try simp only [PP]
    refine tw 9 32 ?_
    refine tw 10 33 ?_
    refine ro2 6 11 (fun K hK => ?_) (fun K hK => ?_)
    ·refine step_make_v v2 (by rfl) (.tmp 28) (.tmp 28) 174 (by rfl) TBi iu (.agg #[.int .u64 0]) Tryz.underlying174 HIU.out.1 HIU.out.2.1 HIU.out.2.2.1 (x := .int .u64 0) (by rfl) n (by rfl) (by rfl) hbU.out hmx ?_
     intro v3 hr hk
     have HI := Qh (HI.out.m6 hr hk)
     obtain ⟨g6, hg⟩ : ∃ z, z = v2.heap.size := ⟨_, rfl⟩
     rw [← hg] at HI ⊢
     clear hr hk hg
     refine hK.out _ _ trivial (fun hHeld => ?_)
     clear hK K
     try simp only [PP]
     refine ro 11 (fun K hK => ?_)
     have c := HI.out.c5
     have f := HI.out.fr 5
     go_simp
     have HI := Qh (HI.out.st (j := 5) (c' := { A5 with ve := .slice (some ⟨g4, 0, none⟩) n n }) (v := .slice (some ⟨g4, 0, none⟩) n n) rfl)
     obtain ⟨v4, hw⟩ : ∃ z, z = v3.setCell ⟨p, 5, none⟩ (.slice (some ⟨g4, 0, none⟩) n n) := ⟨_, rfl⟩
     rw [← hw] at HI ⊢
     clear hw c f
     refine hK.out _ _ trivial (fun hHeld => ?_)
     clear hK K
     try simp only [PP]
     refine tw 12 34 ?_
     refine tw 13 35 ?_
     refine ro 14 (fun K hK => ?_)
     have c := HI.out.c6
     have f := HI.out.fr 6
     go_simp
     have HI := Qh (HI.out.st (j := 6) (c' := { A5 with ve := .slice (some ⟨g4, 0, none⟩) n n, vf := .slice (some ⟨g6, 0, none⟩) n n }) (v := .slice (some ⟨g6, 0, none⟩) n n) rfl)
     obtain ⟨v5, hw⟩ : ∃ z, z = v4.setCell ⟨p, 6, none⟩ (.slice (some ⟨g6, 0, none⟩) n n) := ⟨_, rfl⟩
     rw [← hw] at HI ⊢
     clear hw c f
     refine hK.out _ _ trivial (fun hHeld => ?_)
     clear hK K
     try simp only [PP]
     refine tw 15 36 ?_
     refine tw 16 37 ?_
     refine re 17 (fun K hK => ?_)
     have c := HI.out.c7
     have f := HI.out.fr 7
     go_simp
     have HI := Qh (HI.out.st (j := 7) (c' := { A5 with ve := .slice (some ⟨g4, 0, none⟩) n n, vf := .slice (some ⟨g6, 0, none⟩) n n, vw := .slice (some ⟨g8, 0, none⟩) n n }) (v := .slice (some ⟨g8, 0, none⟩) n n) rfl)
     obtain ⟨v6, hw⟩ : ∃ z, z = v5.setCell ⟨p, 7, none⟩ (.slice (some ⟨g8, 0, none⟩) n n) := ⟨_, rfl⟩
     rw [← hw] at HI ⊢
     clear hw c f
     refine hK.out _ _ ?_
     clear hK K
     go_wp2_with fail
     go_meet
     case rel => exact ⟨g4, g6, g8, HI⟩
    ·have c := HI.out.c5
     have f := HI.out.fr 5
     go_simp
     have HI := Qh (HI.out.st (j := 5) (c' := { A5 with ve := .slice (some ⟨g4, 0, none⟩) n n }) (v := .slice (some ⟨g4, 0, none⟩) n n) rfl)
     obtain ⟨v3, hw⟩ : ∃ z, z = v2.setCell ⟨p, 5, none⟩ (.slice (some ⟨g4, 0, none⟩) n n) := ⟨_, rfl⟩
     rw [← hw] at HI ⊢
     clear hw c f
     refine hK.out _ _ trivial (fun hHeld => ?_)
     clear hK K
     try simp only [PP]
     refine ro 6 (fun K hK => ?_)
     refine step_make_v v3 (by rfl) (.tmp 28) (.tmp 28) 174 (by rfl) TBi iu (.agg #[.int .u64 0]) Tryz.underlying174 HIU.out.1 HIU.out.2.1 HIU.out.2.2.1 (x := .int .u64 0) (by rfl) n (by rfl) (by rfl) hbU.out hmx ?_
     intro v4 hr hk
     have HI := Qh (HI.out.m6 hr hk)
     obtain ⟨g6, hg⟩ : ∃ z, z = v3.heap.size := ⟨_, rfl⟩
     rw [← hg] at HI ⊢
     clear hr hk hg
     refine hK.out _ _ trivial (fun hHeld => ?_)
     clear hK K
     try simp only [PP]
     refine tw 12 34 ?_
     refine tw 13 35 ?_
     refine ro 14 (fun K hK => ?_)
     have c := HI.out.c6
     have f := HI.out.fr 6
     go_simp
     have HI := Qh (HI.out.st (j := 6) (c' := { A5 with ve := .slice (some ⟨g4, 0, none⟩) n n, vf := .slice (some ⟨g6, 0, none⟩) n n }) (v := .slice (some ⟨g6, 0, none⟩) n n) rfl)
     obtain ⟨v5, hw⟩ : ∃ z, z = v4.setCell ⟨p, 6, none⟩ (.slice (some ⟨g6, 0, none⟩) n n) := ⟨_, rfl⟩
     rw [← hw] at HI ⊢
     clear hw c f
     refine hK.out _ _ trivial (fun hHeld => ?_)
     clear hK K
     try simp only [PP]
     refine tw 15 36 ?_
     refine tw 16 37 ?_
     refine re 17 (fun K hK => ?_)
     have c := HI.out.c7
     have f := HI.out.fr 7
     go_simp
     have HI := Qh (HI.out.st (j := 7) (c' := { A5 with ve := .slice (some ⟨g4, 0, none⟩) n n, vf := .slice (some ⟨g6, 0, none⟩) n n, vw := .slice (some ⟨g8, 0, none⟩) n n }) (v := .slice (some ⟨g8, 0, none⟩) n n) rfl)
     obtain ⟨v6, hw⟩ : ∃ z, z = v5.setCell ⟨p, 7, none⟩ (.slice (some ⟨g8, 0, none⟩) n n) := ⟨_, rfl⟩
     rw [← hw] at HI ⊢
     clear hw c f
     refine hK.out _ _ ?_
     clear hK K
     go_wp2_with fail
     go_meet
     case rel => exact ⟨g4, g6, g8, HI⟩
   ·refine step_make_v v1 (by rfl) (.tmp 28) (.tmp 28) 174 (by rfl) TBi iu (.agg #[.int .u64 0]) Tryz.underlying174 HIU.out.1 HIU.out.2.1 HIU.out.2.2.1 (x := .int .u64 0) (by rfl) n (by rfl) (by rfl) hbU.out hmx ?_
    intro v2 hr hk
    have HI := Qh (HI.out.m6 hr hk)
    obtain ⟨g6, hg⟩ : ∃ z, z = v1.heap.size := ⟨_, rfl⟩
    rw [← hg] at HI ⊢
    clear hr hk hg
    refine hK.out _ _ trivial (fun hHeld => ?_)
    clear hK K
    try simp only [PP]
    refine ro 4 (fun K hK => ?_)
    refine step_make_v v2 (by rfl) (.tmp 26) (.tmp 26) 65 (by rfl) 4 ib (.bool false) Tryz.underlying65 HIB.out.1 HIB.out.2.1 HIB.out.2.2.1 (x := .bool false) (by rfl) n (by rfl) (by rfl) hbB.out hmx ?_
    intro v3 hr hk
    have HI := Qh (HI.out.m4 hr hk)
    obtain ⟨g4, hg⟩ : ∃ z, z = v2.heap.size := ⟨_, rfl⟩
    rw [← hg] at HI ⊢
    clear hr hk hg
    refine hK.out _ _ trivial (fun hHeld => ?_)
    clear hK K
    try simp only [PP]
    refine tw 9 32 ?_
    refine tw 10 33 ?_
    refine ro 11 (fun K hK => ?_)
    have c := HI.out.c5
    have f := HI.out.fr 5
    go_simp
    have HI := Qh (HI.out.st (j := 5) (c' := { A5 with ve := .slice (some ⟨g4, 0, none⟩) n n }) (v := .slice (some ⟨g4, 0, none⟩) n n) rfl)
    obtain ⟨v4, hw⟩ : ∃ z, z = v3.setCell ⟨p, 5, none⟩ (.slice (some ⟨g4, 0, none⟩) n n) := ⟨_, rfl⟩
    rw [← hw] at HI ⊢
    clear hw c f
    refine hK.out _ _ trivial (fun hHeld => ?_)
    clear hK K
    try simp only [PP]
    refine tw 12 34 ?_
    refine tw 13 35 ?_
    refine ro 14 (fun K hK => ?_)
    have c := HI.out.c6
    have f := HI.out.fr 6
    go_simp
    have HI := Qh (HI.out.st (j := 6) (c' := { A5 with ve := .slice (some ⟨g4, 0, none⟩) n n, vf := .slice (some ⟨g6, 0, none⟩) n n }) (v := .slice (some ⟨g6, 0, none⟩) n n) rfl)
    obtain ⟨v5, hw⟩ : ∃ z, z = v4.setCell ⟨p, 6, none⟩ (.slice (some ⟨g6, 0, none⟩) n n) := ⟨_, rfl⟩
    rw [← hw] at HI ⊢
    clear hw c f
    refine hK.out _ _ trivial (fun hHeld => ?_)
    clear hK K
    try simp only [PP]
    refine tw 15 36 ?_
    refine tw 16 37 ?_
    refine re 17 (fun K hK => ?_)
    have c := HI.out.c7
    have f := HI.out.fr 7
    go_simp
    have HI := Qh (HI.out.st (j := 7) (c' := { A5 with ve := .slice (some ⟨g4, 0, none⟩) n n, vf := .slice (some ⟨g6, 0, none⟩) n n, vw := .slice (some ⟨g8, 0, none⟩) n n }) (v := .slice (some ⟨g8, 0, none⟩) n n) rfl)
    obtain ⟨v6, hw⟩ : ∃ z, z = v5.setCell ⟨p, 7, none⟩ (.slice (some ⟨g8, 0, none⟩) n n) := ⟨_, rfl⟩
    rw [← hw] at HI ⊢
    clear hw c f
    refine hK.out _ _ ?_
    clear hK K
    go_wp2_with fail
    go_meet
    case rel => exact ⟨g4, g6, g8, HI⟩
 case rest =>
  obtain ⟨ge, gf, gw, hni⟩ := hcut
  have hst : StAt wc w.heap.size p X { A5 with ve := .slice (some ⟨ge, 0, none⟩) n n, vf := .slice (some ⟨gf, 0, none⟩) n n, vw := .slice (some ⟨gw, 0, none⟩) n n } (List.replicate n false) (List.replicate n 0) (List.replicate n 0) ge gf gw := by
   have h1 := hni.out
   have hS := ty_one HB5.out.blk
   obtain ⟨r4, b4, _⟩ := h1.r4 ge rfl
   obtain ⟨r6, b6, _⟩ := h1.r6 gf rfl
   obtain ⟨r8, b8, _⟩ := h1.r8 gw rfl
   have hz := HK5.out.size
   refine ⟨h1.blk, row_ty HB5.out.pl h1.kp hS (by decide), HB5.out.pr.off h1.kp (ty_not hS (by decide)) (ty_not hS (by decide)), HB5.out.of_.off h1.kp (ty_not hS (by decide)) (ty_not hS (by decide)), by rw [← HN.out], by rw [← HN.out], by rw [← HN.out], ?_, ?_, ?_, by rw [List.length_replicate, HN.out], by rw [List.length_replicate, HN.out], by rw [List.length_replicate, HN.out], ?_, ?_, h1.ne _ _ rfl rfl, HB5.out.pB.1, by omega, by omega, by omega⟩
   ·rw [show bV (List.replicate n false) = List.replicate n (.bool false) from List.map_replicate]; exact r4
   ·rw [show biV (List.replicate n 0) = List.replicate n (.int .u64 0) from List.map_replicate]; exact r6
   ·rw [show biV (List.replicate n 0) = List.replicate n (.int .u64 0) from List.map_replicate]; exact r8
   ·intro x hx; rw [List.eq_of_mem_replicate hx]; decide
   ·intro x hx; rw [List.eq_of_mem_replicate hx]; decide
  have hkc : Kn w wc := HK5.out.trans' hni.out.kp (fun i hi e => by omega)
  have HKC := Qh hkc
  have HGE : Hid (w.heap.size ≤ ge ∧ w.heap.size ≤ gf ∧ w.heap.size ≤ gw) := Qh ⟨hst.pB.2.1, hst.pB.2.2.1, hst.pB.2.2.2⟩
  have HR1 := Qh (rounds1_c hst HBO.out)
  clear hni hkc hst p5 HIB HIU hbB hbU HB5 HVE
  go_wp2_with (first | (go_at_call 91; go_must (refine HR1.out.mono ?_; rintro e w6 ⟨rfl, E1, F1, hfin, hst6, hk6⟩; have HF1 := Qh hfin; have HS6 := Qh hst6; have HK6 : Hid (Kn w w6) := Qh (HKC.out.trans' hk6 (fun i hi e => by have := HGE.out; omega)); clear hfin hst6 hk6 HR1 HKC)))
  have c7 := HS6.out.c7
  rw [← HN.out] at c7
  have c4 : w6.cell? ⟨p, 4, none⟩ = some (.int .i64 (m : Nat)) := by rw [HS6.out.cell 4]; show some (Value.int .i64 (A5.fin : Nat)) = _; rw [HAK5.out.fin]
  have hom := oneB_lt (m : Int)
  have hn0 : 0 < X.places.length := by rw [← HN.out]; exact hXpos
  refine rgn (fun w' => w'.cell? ⟨p, 7, none⟩ = some (.slice (some ⟨gw, 0, none⟩) n n) ∧ w'.cell? ⟨p, 4, none⟩ = some (.int .i64 (m : Nat))) (X := []) ⟨kn_cell ((Kp.refl _ _).drew) c7, kn_cell ((Kp.refl _ _).drew) c4⟩ (fun hX hHeld => ?_)
  refine tw 0 41 ?_
  refine tw 1 42 ?_
  refine tw 2 43 ?_
  refine tk 3 44 ?_
  refine tw 4 45 ?_
  refine tw 5 46 ?_
  refine tw 6 47 ?_
  refine tk 7 48 ?_
  refine ro 8 (fun K hK => ?_)
  obtain ⟨v6, hv6⟩ : ∃ z, z = w6.drew := ⟨_, rfl⟩
  have hk6 : Kn w6 v6 := by rw [hv6]; exact (Kp.refl _ _).drew
  have HSD := Qh (HS6.out.kn hk6)
  have HKD := Qh (HK6.out.trans hk6)
  rw [← hv6] at hHeld ⊢
  clear hv6 hk6
  go_simp
  go_at_call 93
  refine (sone_c (m : Int) _).mono ?_
  rintro e v7 ⟨rfl, hk7⟩
  have HS7 := Qh (HSD.out.kn hk7)
  have HK7 := Qh (HKD.out.trans hk7)
  have e0 := HS7.out.wcell hn0
  have f0 := HS7.out.rw_.fr 0
  refine hK.out _ _ (⟨kn_cell hk7 hHeld.1, kn_cell hk7 hHeld.2⟩) (fun hHeld => ?_)
  clear hk7 HSD HKD HS6 HK6 c7 c4
  unfold bV1
  clear hK K
  try simp only [PP]
  refine tw 9 50 ?_
  refine re 10 (fun K hK => ?_)
  go_simp
  obtain ⟨w8, hw8⟩ : ∃ z, z = v7.setCell ⟨gw, 0, none⟩ (.int .u64 (oneB (m : Int) : Nat)) := ⟨_, rfl⟩
  have HS8 := Qh (HS7.out.setW 0 (oneB (m : Int)) hom)
  have HK8 : Hid (Kn w w8) := Qh (by rw [hw8]; exact HK7.out.setCell (fun hp => absurd hp (by have := HGE.out; show ¬ gw < _; omega)) _)
  rw [← hw8] at HS8 ⊢
  clear hw8 e0 f0 HS7 HK7 hHeld
  refine hK.out _ _ ?_
  clear hK K
  have HR2 := Qh (rounds2_c HS8.out HBO.out)
  go_wp2_with (first | (go_at_call 91; go_must (refine HR2.out.mono ?_; rintro e w9 ⟨rfl, W1, hfin, hst9, hk9⟩; have HF2 := Qh hfin; have HS9 := Qh hst9; have HK9 : Hid (Kn w w9) := Qh (HK8.out.trans' hk9 (fun i hi e => by have := HGE.out; omega)); clear hfin hst9 hk9 HR2 HK8)))
  go_ret2
  refine ⟨p, ⟨X, m, E1, F1, W1⟩, rfl, ⟨_, _, ge, gf, gw, HS9.out, HBO.out, HAK5.out.fin⟩, ⟨HX.out, HME.out, ?_, ?_⟩, HK9.out⟩
  ·show Fin (fstF X.l) (List.replicate X.places.length false, List.replicate X.places.length 0) (E1, F1)
   rw [← HN.out]; exact HF1.out
  ·show Fin (flwF E1 F1 X.l) ((List.replicate X.places.length 0).set 0 (oneB (clsOf R).length)) W1
   rw [← HN.out, ← HME.out]; exact HF2.out
theorem new_nil (w : World) : Calls Tryz.prog 34 #[.pointer none] w fun e w' => e = .returned (.tuple #[.pointer none, .int .i64 1]) ∧ w = w' := by
 go_enter Tryz.func34, Tryz.ntmps34
 go_wp2_with fail
 go_ret2
 exact ⟨rfl, rfl⟩
theorem places_nil (w : World) : Calls Tryz.prog 43 #[.pointer none] w fun e w' => e = .returned (.slice none 0 0) ∧ w = w' := by
 go_enter Tryz.func43, Tryz.ntmps43
 go_wp2_with fail
 go_ret
 exact ⟨rfl, rfl⟩
theorem prods_nil (w : World) : Calls Tryz.prog 46 #[.pointer none] w fun e w' => e = .returned (.slice none 0 0) ∧ w = w' := by
 go_enter Tryz.func46, Tryz.ntmps46
 go_wp2_with fail
 go_ret
 exact ⟨rfl, rfl⟩
theorem end_nil (w : World) : Calls Tryz.prog 47 #[.pointer none] w fun e w' => e = .returned (.int .i64 0) ∧ w = w' := by
 go_enter Tryz.func47, Tryz.ntmps47
 go_wp2_with fail
 go_ret
 exact ⟨rfl, rfl⟩
theorem has_nil (n : Int) (w : World) : Calls Tryz.prog 95 #[.pointer none, .int .i64 n] w fun e w' => e = .returned (.bool false) ∧ w = w' := by
 go_enter Tryz.func95, Tryz.ntmps95
 go_wp2_with fail
 go_ret
 exact ⟨rfl, rfl⟩
theorem of_nil (n : Int) (w : World) : Calls Tryz.prog 42 #[.pointer none, .int .i64 n] w fun e w' => e = .returned (.slice none 0 0) ∧ w = w' := by
 have H := Qh (has_nil n w)
 go_enter Tryz.func42, Tryz.ntmps42
 go_wp2_with fail
 refine H.out.mono ?_
 rintro e w' ⟨rfl, rfl⟩
 go_wp2_with fail
 go_ret
 exact ⟨rfl, rfl⟩
theorem first_nil (n : Int) (w : World) : Calls Tryz.prog 40 #[.pointer none, .int .i64 n] w fun e w' => e = .returned (.slice none 0 0) ∧ w = w' := by
 have H := Qh (has_nil n w)
 go_enter Tryz.func40, Tryz.ntmps40
 go_wp2_with fail
 refine H.out.mono ?_
 rintro e w' ⟨rfl, rfl⟩
 go_wp2_with fail
 go_ret
 exact ⟨rfl, rfl⟩
theorem follow_nil (n : Int) (w : World) : Calls Tryz.prog 41 #[.pointer none, .int .i64 n] w fun e w' => e = .returned (.slice none 0 0) ∧ w = w' := by
 have H := Qh (has_nil n w)
 go_enter Tryz.func41, Tryz.ntmps41
 go_wp2_with fail
 refine H.out.mono ?_
 rintro e w' ⟨rfl, rfl⟩
 go_wp2_with fail
 go_ret
 exact ⟨rfl, rfl⟩
theorem nullable_nil (n : Int) (w : World) : Calls Tryz.prog 38 #[.pointer none, .int .i64 n] w fun e w' => e = .returned (.bool false) ∧ w = w' := by
 have H := Qh (has_nil n w)
 go_enter Tryz.func38, Tryz.ntmps38
 go_wp2_with fail
 refine H.out.mono ?_
 rintro e w' ⟨rfl, rfl⟩
 go_wp2_with fail
 go_ret
 exact ⟨rfl, rfl⟩
theorem begin_nil (n : Int) (w : World) : Calls Tryz.prog 45 #[.pointer none, .slice none 0 0, .int .i64 n] w fun e w' => e = .returned (.slice none 0 0) ∧ w = w' := by
 go_enter Tryz.func45, Tryz.ntmps45
 go_wp2_with fail
 go_ret
 exact ⟨rfl, rfl⟩
section
variable {w : World} {B p ge gf gw : Nat} {S : SB} {A : SA} {E : List Bool} {F W : List Nat}
set_option maxHeartbeats 2000000 in
theorem has_c (n : Int) (h : StAt w B p S A E F W ge gf gw) (h0 : 0 ≤ n) (h1 : n < S.places.length) : Calls Tryz.prog 95 #[ptr p, .int .i64 n] w fun e w' => e = .returned (.bool true) ∧ w = w' := by
 obtain ⟨a, c, hc⟩ := h.pcs
 clear h
 go_enter Tryz.func95, Tryz.ntmps95
 go_wp2_with fail
 go_ret
 exact ⟨rfl, rfl⟩
set_option maxHeartbeats 2000000 in
theorem first_c (n : Nat) (h : StAt w B p S A E F W ge gf gw) (h1 : n < S.places.length) : Calls Tryz.prog 40 #[ptr p, .int .i64 (n : Nat)] w fun e w' => ∃ v, e = .returned v ∧ OwnI w' w.heap.size v (listB (F.getD n 0)) ∧ Kn w w' := by
 have H := Qh (has_c n h (by omega) (by omega))
 have c6 := h.c6
 have ef := h.fcell h1
 have HL := Qh (list_c (F.getD n 0) (getD_lt h.fz (by decide) n) w)
 have hn1 : (n : Int) < S.places.length := by omega
 clear h
 go_enter Tryz.func40, Tryz.ntmps40
 go_wp2_with fail
 refine H.out.mono ?_
 rintro e w' ⟨rfl, rfl⟩
 go_wp2_with fail
 refine HL.out.mono ?_
 rintro e w' ⟨v, rfl, hv, hk⟩
 have HV := Qh (And.intro hv hk)
 clear hv hk
 go_wp2_with fail
 go_ret
 exact ⟨v, rfl, HV.out.1, HV.out.2⟩
set_option maxHeartbeats 2000000 in
theorem follow_c (n : Nat) (h : StAt w B p S A E F W ge gf gw) (h1 : n < S.places.length) : Calls Tryz.prog 41 #[ptr p, .int .i64 (n : Nat)] w fun e w' => ∃ v, e = .returned v ∧ OwnI w' w.heap.size v (listB (W.getD n 0)) ∧ Kn w w' := by
 have H := Qh (has_c n h (by omega) (by omega))
 have c7 := h.c7
 have ew := h.wcell h1
 have HL := Qh (list_c (W.getD n 0) (getD_lt h.wz (by decide) n) w)
 have hn1 : (n : Int) < S.places.length := by omega
 clear h
 go_enter Tryz.func41, Tryz.ntmps41
 go_wp2_with fail
 refine H.out.mono ?_
 rintro e w' ⟨rfl, rfl⟩
 go_wp2_with fail
 refine HL.out.mono ?_
 rintro e w' ⟨v, rfl, hv, hk⟩
 have HV := Qh (And.intro hv hk)
 clear hv hk
 go_wp2_with fail
 go_ret
 exact ⟨v, rfl, HV.out.1, HV.out.2⟩
theorem end_c (h : StAt w B p S A E F W ge gf gw) : Calls Tryz.prog 47 #[ptr p] w fun e w' => e = .returned (.int .i64 (A.fin : Nat)) ∧ w = w' := by
 have c4 : w.cell? ⟨p, 4, none⟩ = some (.int .i64 (A.fin : Nat)) := h.cell 4
 clear h
 go_enter Tryz.func47, Tryz.ntmps47
 go_wp2_with fail
 go_ret
 exact ⟨rfl, rfl⟩
set_option maxHeartbeats 4000000 in
set_option maxRecDepth 100000 in
theorem ClonePc_c {v : Value} {Cs : List (List Value)} (w : World) {B : Nat} (hbig : Cs.length ≤ 1000000) (h3 : ∀ C ∈ Cs, C.length = 2) (h1 : ∀ u ∈ Cs.flatten, u.oneCell' = true) (h : OwnK w B TPc 2 v Cs) :
  Calls Tryz.prog 98 #[v] w fun e w' => ∃ v', e = .returned v' ∧ OwnK w' w.heap.size TPc 2 v' Cs ∧ Kn w w' := by
 obtain ⟨i0, hi, hz0, hz1, hz2⟩ := info_parts info_pc
 have HI := Qh (And.intro hi (And.intro hz0 (And.intro hz1 hz2)))
 have q24 : ∀ (w : World) (a : Option Addr) (n c n' c' : Nat), (binOp .eql 76 (.slice a n c) (.slice none n' c')).run Tryz.prog w = .ok (.bool a.isNone) w := fun w a n c n' c' => Lib.run_eql_slice_nil w _ _ a n c n' c' Tryz.underlying76
 have HC := Qh h
 have H1 := Qh h1
 have hfl := flat_len h3
 rcases h.2 with ⟨hv, hcs⟩ | ⟨g, cap, cur, hv, hg, _, hc1, hc2, _⟩
 ·have hn : Cs = [] := by simpa using hcs
  subst hv hn
  clear hi hz0 hz1 hz2 h h1
  go_enter Tryz.func98, Tryz.ntmps98
  go_wp2_with fail
  go_ret
  exact ⟨_, rfl, OwnK.nil, Kp.refl _ _⟩
 ·subst hv
  obtain ⟨n, hn⟩ : ∃ n, n = Cs.length := ⟨_, rfl⟩
  have HN := Qh hn
  rw [← hn] at HC hc1 hbig hfl ⊢
  have HF := Qh hfl
  clear hi hz0 hz1 hz2 h h1 hn hfl h3
  go_enter Tryz.func98, Tryz.ntmps98
  go_wp2_with (at_builtin; refine wpList_append_own _ rfl _ _ 76 rfl w.heap.size TPc i0 _ 2 16 Tryz.underlying76 HI.out.1 HI.out.2.1 HI.out.2.2.1 HI.out.2.2.2 rfl (by decide) _ _ _ rfl (World.ownsRow_made w #[] 0 (Nat.le_refl _) (Nat.zero_le _) rfl) ⟨g, 0, none⟩ n cap Cs.flatten rfl ?qc1 ?qc2 ?qc3 ?qc4 ?qc5 ?qc6 ?_)
  case qc1 => exact HF.out
  case qc2 =>
   intro j u hj
   exact Lib.cell?_alloc_some _ (HC.out.cells rfl j u hj)
  case qc3 => exact H1.out
  case qc4 => unfold maxLen; omega
  case qc5 => omega
  case qc6 => simp
  intro v' w1 hown hgrow hnil
  go_wp2_with fail
  go_ret
  refine ⟨v', rfl, by unfold OwnK; rw [← HN.out]; simpa using hown, ?_⟩
  exact Kp.of_below (((Below.refl _ w).alloc (Nat.le_refl _) _).grown hgrow (by simp) (by intro k hk; simp [Value.ownBlock] at hk; omega))
set_option maxRecDepth 100000 in
set_option maxHeartbeats 2000000 in
theorem places_c (h : StAt w B p S A E F W ge gf gw) (hl : S.places.length ≤ 1000) : Calls Tryz.prog 43 #[ptr p] w fun e w' => ∃ v, e = .returned v ∧ OwnK w' w.heap.size TPc 2 v (S.places.map pcL) ∧ Kn w w' := by
 have c0 : w.cell? ⟨p, 0, none⟩ = some A.vp := h.cell 0
 have HC := Qh (ClonePc_c w (by rw [List.length_map]; omega) (fun C hC => by obtain ⟨x, _, rfl⟩ := List.mem_map.1 hC; rfl) (fun u hu => by
  obtain ⟨C, hC, hu⟩ := List.mem_flatten.1 hu
  obtain ⟨x, _, rfl⟩ := List.mem_map.1 hC
  simp [pcL] at hu
  rcases hu with rfl | rfl <;> rfl) h.pl)
 obtain ⟨a, c, hv, _⟩ := h.pl.row (fun C hC => by obtain ⟨x, _, rfl⟩ := List.mem_map.1 hC; rfl)
 rw [List.length_map] at hv
 rw [hv] at c0 HC
 clear h hv
 go_enter Tryz.func43, Tryz.ntmps43
 go_wp2_with fail
 refine HC.out.mono ?_
 rintro e w' ⟨v, rfl, hv, hk⟩
 have HV := Qh (And.intro hv hk)
 clear hv hk
 go_wp2_with fail
 go_ret
 exact ⟨v, rfl, HV.out.1, HV.out.2⟩
end
open Go.Shelf Go.RowKit Go.Maps
def bl (s : ByteArray) : List UInt8 := s.data.toList
end Go.Proofs.YtopmadkajacniaaGreatDoor
namespace Go.Proofs.YtopmadkajacniaaGreatDoor
open Go.RowKit Go.Maps
def parseF (text : ByteArray) : Option (RS × List GR × List (Nat × Nat)) :=
 match RS.gather (text.size + 1) 1 RS.none_ text with
 | none => none
 | some R => match finF R with | none => none | some r => some (R, r.1, r.2)
def ParsePost (text : ByteArray) (w : World) (e : Ending) (w' : World) : Prop :=
 Kn w w' ∧ match parseF text with
 | some r => ∃ p : Nat, e = .returned (.tuple #[ptr p, .int .i64 0, .int .i64 0]) ∧ GrAt w' p r.1 r.2.1 r.2.2
 | none => ∃ k n : Int, n ≠ 0 ∧ e = .returned (.tuple #[.pointer none, .int .i64 k, .int .i64 n])
def strSz : Value → Nat
 | .string s => s.size
 | _ => 0
theorem cutZ_lt {s sep : ByteArray} (h : cutT s sep = true) (h1 : 1 ≤ sep.size) (h0 : ¬ s.size = 0) : (cutZ s sep).size < s.size := by
 show (Lib.cut s.data.toList sep.data.toList).2.1.toArray.size < s.data.size
 have h0' : ¬ s.data.size = 0 := h0
 have h1' : 1 ≤ sep.data.size := h1
 unfold cutT Lib.cut at h
 unfold Lib.cut
 split
 ·simp; omega
 ·rename_i hx; rw [if_neg hx] at h; cases h
theorem gather_end (f n : Nat) (R : RS) (s : ByteArray) (h : s.size = 0) : RS.gather (f + 1) n R s = some R := by
 unfold RS.gather; rw [if_pos h]
theorem gather_step (f n : Nat) (R : RS) (s : ByteArray) (h : ¬ s.size = 0) : RS.gather (f + 1) n R s = if cutT s nlB = true then (match R.take n (cutA s nlB) with | some R1 => RS.gather f (n + 1) R1 (cutZ s nlB) | none => none) else none := by
 rw [RS.gather, if_neg h]; rfl
set_option maxRecDepth 100000 in
set_option maxHeartbeats 8000000 in
theorem gparse_c (text : ByteArray) (w : World) (hm : MaxLenAt w) (hs : text.size ≤ 1000000) :
  Calls Tryz.prog 17 #[.string text] w (ParsePost text w) := by
 have hmm := @run_makeMap Tryz.prog
 have hno : ¬ (1048576 : Int) < text.size := by omega
 have hno' : ¬ 1048576 < text.size := by omega
 have HP : Hid (parseF text = match RS.gather (text.size + 1) 1 RS.none_ text with
  | none => none
  | some R => match finF R with | none => none | some r => some (R, r.1, r.2)) := Qh rfl
 obtain ⟨bn, hbn⟩ : ∃ z, z = w.heap.size := ⟨_, rfl⟩
 obtain ⟨bc, hbc⟩ : ∃ z, z = w.heap.size + 1 := ⟨_, rfl⟩
 obtain ⟨br, hbr⟩ : ∃ z, z = w.heap.size + 1 + 1 := ⟨_, rfl⟩
 obtain ⟨p, hp⟩ : ∃ z, z = w.heap.size + 1 + 1 + 1 := ⟨_, rfl⟩
 obtain ⟨W, hW⟩ : ∃ z, z = (((w.alloc (.map #[] 0)).alloc (.map #[] 0)).alloc (.map #[] 0)).alloc (.cells #[.slice none 0 0, .slice none 0 0, .slice none 0 0, .slice none 0 0, .map none, .pointer none, .map (some bn), .map (some bc), .map (some br), .slice none 0 0] TGr) := ⟨_, rfl⟩
 have hkW : Kn w W := by rw [hW]; exact ((((Kp.refl _ _).alloc _).alloc _).alloc _).alloc _
 have e1 : (w.alloc (.map #[] 0)).heap.size = bc := by rw [size_alloc', hbc]
 have e2 : ((w.alloc (.map #[] 0)).alloc (.map #[] 0)).heap.size = br := by rw [size_alloc', e1, hbr, hbc]
 have e3 : (((w.alloc (.map #[] 0)).alloc (.map #[] 0)).alloc (.map #[] 0)).heap.size = p := by rw [size_alloc', e2, hp, hbr]
 have hrd : RdAt W w.heap.size p RS.none_ ⟨.slice none 0 0, .slice none 0 0, .slice none 0 0, .slice none 0 0, .map none, .pointer none, bn, bc, br, .slice none 0 0, []⟩ := by
  refine ⟨?_, OwnK.nil (k := 1), OwnK.nil, OwnK.nil (k := 1), ?_, ?_, ?_, OwnK.nil, rfl, (fun i a b => by simp at a), ⟨by show bn ≠ bc; omega, by show bn ≠ br; omega, by show bc ≠ br; omega⟩, (fun g hg => by cases hg), ⟨by omega, by show _ ≤ bn; omega, by show _ ≤ bc; omega, by show _ ≤ br; omega⟩⟩
  ·have := blk_new (((w.alloc (.map #[] 0)).alloc (.map #[] 0)).alloc (.map #[] 0)) (.cells #[.slice none 0 0, .slice none 0 0, .slice none 0 0, .slice none 0 0, .map none, .pointer none, .map (some bn), .map (some bc), .map (some br), .slice none 0 0] TGr)
   rw [e3, ← hW] at this; exact this
  ·have := (((MapA.new w TS).kn ((Kp.refl _ _).alloc (.map #[] 0))).kn ((Kp.refl _ _).alloc (.map #[] 0))).kn ((Kp.refl _ _).alloc (.cells #[.slice none 0 0, .slice none 0 0, .slice none 0 0, .slice none 0 0, .map none, .pointer none, .map (some bn), .map (some bc), .map (some br), .slice none 0 0] TGr))
   rw [← hW, ← hbn] at this; exact this
  ·have := (((MapA.new (w.alloc (.map #[] 0)) TS)).kn ((Kp.refl _ _).alloc (.map #[] 0))).kn ((Kp.refl _ _).alloc (.cells #[.slice none 0 0, .slice none 0 0, .slice none 0 0, .slice none 0 0, .map none, .pointer none, .map (some bn), .map (some bc), .map (some br), .slice none 0 0] TGr))
   rw [← hW, e1] at this; exact this
  ·have := (MapA.new ((w.alloc (.map #[] 0)).alloc (.map #[] 0)) TS).kn ((Kp.refl _ _).alloc (.cells #[.slice none 0 0, .slice none 0 0, .slice none 0 0, .slice none 0 0, .map none, .pointer none, .map (some bn), .map (some bc), .map (some br), .slice none 0 0] TGr))
   rw [← hW, e2] at this; exact this
 have HRD := Qh hrd
 have HOK : Hid (RSok RS.none_) := Qh ⟨by simp [RS.none_], by simp [RS.none_], by simp [RS.none_], by simp [RS.none_], fun s h => by simp [RS.none_] at h, fun s h => by simp [RS.none_] at h, fun s h => by simp [RS.none_] at h⟩
 have HW := Qh hW
 have HB := Qh (And.intro hbn (And.intro hbc (And.intro hbr hp)))
 have HM := Qh (fun w' (hk : Kn w w') => hm.kn hk)
 clear hrd hW e1 e2 e3 hbn hbc hbr hp hm
 go_enter Tryz.func17, Tryz.ntmps17
 go_upto_region 4 with fail
 rw [← HB.out.2.2.2, ← HB.out.2.2.1, ← HB.out.2.1, ← HB.out.1, ← HW.out]
 go_wp2_with fail
 go_loopw [0, 6] (fun s0 s6 wr => ∃ (f n : Nat) (R : RS) (A : RA) (s : ByteArray), s0 = .string s ∧ s6 = .int .i64 n ∧ Hid (RS.gather f n R s = RS.gather (text.size + 1) 1 RS.none_ text) ∧ s.size < f ∧ n + s.size ≤ text.size + 1 ∧ 1 ≤ n ∧ Hid (RdAt wr w.heap.size p R A) ∧ Hid (RSok R) ∧ Hid (A.vr = .slice none 0 0 ∧ A.sc = .pointer none) ∧ Kn w wr) (fun s0 _ _ => strSz s0)
 case atStart => exact ⟨text.size + 1, 1, RS.none_, _, text, rfl, rfl, Qh rfl, by omega, by omega, Nat.le_refl _, HRD, HOK, Qh ⟨rfl, rfl⟩, hkW⟩
 case round =>
  clear HRD HOK
  obtain ⟨f, n, R, A, s, rfl, rfl, hga, hf, hn, hn1, hrd, hok, hnl, hkn⟩ := hrel
  by_cases h0 : s.size = 0
  ·have he := isE_true h0
   obtain ⟨f2, rfl⟩ : ∃ f2, f = f2 + 1 := ⟨f - 1, by omega⟩
   have HG : Hid (RS.gather (text.size + 1) 1 RS.none_ text = some R) := Qh (by rw [← hga.out]; exact gather_end _ _ _ _ h0)
   have HFI := Qh (finish_c hrd.out hok.out hnl.out.1 hnl.out.2)
   clear h0 hga
   go_wp2_with fail
   refine HFI.out.mono ?_
   rintro e w2 ⟨k, n2, rfl, hk2, hmt⟩
   have hkn2 := hkn.trans' hk2 (fun i hi e => by omega)
   cases hfi : finF R with
   | none =>
    rw [hfi] at hmt
    dsimp only at hmt
    have hn2 : (n2 == 0) = false := by rw [beq_eq_false_iff_ne]; exact hmt
    have hF : Hid (parseF text = none) := Qh (by rw [HP.out, HG.out]; dsimp only; rw [hfi])
    have HN := Qh hmt
    clear hfi hmt HP
    go_wp2_with fail
    go_ret3
    refine ⟨hkn2, ?_⟩
    rw [hF.out]; exact ⟨k, n2, HN.out, rfl⟩
   | some r =>
    rw [hfi] at hmt
    dsimp only at hmt
    obtain ⟨rfl, rfl, hgr⟩ := hmt
    have hF : Hid (parseF text = some (R, r.1, r.2)) := Qh (by rw [HP.out, HG.out]; dsimp only; rw [hfi])
    have HGR := Qh hgr
    clear hfi hgr HP
    go_wp2_with fail
    go_ret3
    refine ⟨hkn2, ?_⟩
    rw [hF.out]; exact ⟨p, rfl, HGR.out⟩
  ·have he := isE_false h0
   obtain ⟨f2, rfl⟩ : ∃ f2, f = f2 + 1 := ⟨f - 1, by omega⟩
   have hst := gather_step f2 n R s h0
   rw [hga.out] at hst
   have HC := Qh (cut_c s ⟨#[10]⟩ wr (HM.out wr hkn) (by omega))
   change _ = if cutT s ⟨#[10]⟩ = true then (match R.take n (cutA s ⟨#[10]⟩) with | some R1 => RS.gather f2 (n + 1) R1 (cutZ s ⟨#[10]⟩) | none => none) else none at hst
   have hca := cutA_le s ⟨#[10]⟩
   cases ht : cutT s ⟨#[10]⟩ with
   | false =>
    rw [ht] at hst HC
    have hF : Hid (parseF text = none) := Qh (by rw [HP.out, hst]; rfl)
    clear hst ht h0 hga HP
    go_wp2_with fail
    refine HC.out.mono ?_
    rintro e w2 ⟨rfl, hk2⟩
    have hkn2 := hkn.trans hk2
    go_wp2_with fail
    go_ret3
    refine ⟨hkn2, ?_⟩
    rw [hF.out]; exact ⟨n, 4, by decide, rfl⟩
   | true =>
    rw [ht] at hst HC
    have hlt := cutZ_lt ht (by decide) h0
    obtain ⟨la, hla⟩ : ∃ la, la = cutA s ⟨#[10]⟩ := ⟨_, rfl⟩
    obtain ⟨lz, hlz⟩ : ∃ lz, lz = cutZ s ⟨#[10]⟩ := ⟨_, rfl⟩
    rw [← hla, ← hlz] at hst HC
    rw [← hla] at hca
    rw [← hlz] at hlt
    have HST := Qh hst
    clear hst ht h0 hga hla hlz
    go_wp2_with fail
    refine HC.out.mono ?_
    rintro e w2 ⟨rfl, hk2⟩
    have hkn2 := hkn.trans hk2
    have HTK := Qh (take_c (num := n) la (hrd.out.kn hk2) hok.out (HM.out w2 hkn2) (by omega) (by omega))
    clear hrd
    go_wp2_with fail
    refine HTK.out.mono ?_
    rintro e w3 ⟨n3, rfl, hk3, hmt⟩
    have hkn3 := hkn2.trans' hk3 (fun i hi e => by omega)
    cases htk : R.take n la with
    | none =>
     rw [htk] at hmt
     dsimp only at hmt
     have hn2 : (n3 == 0) = false := by rw [beq_eq_false_iff_ne]; exact hmt
     have hF : Hid (parseF text = none) := Qh (by rw [HP.out, HST.out, htk]; rfl)
     have HN := Qh hmt
     clear htk hmt HP
     go_wp2_with fail
     go_ret3
     refine ⟨hkn3, ?_⟩
     rw [hF.out]; exact ⟨n, n3, HN.out, rfl⟩
    | some R2 =>
     rw [htk] at hmt
     dsimp only at hmt
     obtain ⟨rfl, hok2, A2, hrd2, hv2, hs2⟩ := hmt
     have HGA : Hid (RS.gather f2 (n + 1) R2 lz = RS.gather (text.size + 1) 1 RS.none_ text) := Qh (by rw [HST.out, htk]; rfl)
     have HRD2 := Qh hrd2
     have HOK2 := Qh hok2
     have HNL2 := Qh (And.intro (hv2.trans hnl.out.1) (hs2.trans hnl.out.2))
     clear htk hrd2 hok2 hv2 hs2
     go_wp2_with fail
     go_roundw
     case rel => exact ⟨f2, n + 1, R2, A2, lz, rfl, by go_num, HGA, by omega, by omega, by omega, HRD2, HOK2, HNL2, hkn3⟩
     case measure => simp [strSz]; omega
end Go.Proofs.YtopmadkajacniaaGreatDoor
namespace Go.Proofs.YtopmadkajacniaaGreatDoor
def exB : ByteArray := ⟨#[116,111,107,101,110,32,110,117,109,32,91,48,45,57,93,43,10,115,111,114,116,32,101,10,114,117,108,101,32,101,32,49,32,65,100,100,32,61,32,101,58,49,32,39,43,32,101,58,50,10,114,117,108,101,32,101,32,57,32,78,117,109,32,61,32,110,117,109,10,98,114,97,99,107,101,116,32,101,32,39,40,32,39,41,10]⟩
def exC : GC := ⟨⟨#[110, 117, 109]⟩, ⟨#[91, 48, 45, 57, 93, 43]⟩, false⟩
instance : DecidableEq GC := fun a b => if h : a.name = b.name ∧ a.regex = b.regex ∧ a.layout = b.layout then isTrue (by cases a; cases b; obtain ⟨h0, h1, h2⟩ := h; simp only at *; subst_vars; rfl) else isFalse (fun e => h (by subst e; exact ⟨rfl, rfl, rfl⟩))
instance : DecidableEq GW := fun a b => if h : a.lit = b.lit ∧ a.name = b.name ∧ a.level = b.level ∧ a.sort = b.sort then isTrue (by cases a; cases b; obtain ⟨h0, h1, h2, h3⟩ := h; simp only at *; subst_vars; rfl) else isFalse (fun e => h (by subst e; exact ⟨rfl, rfl, rfl, rfl⟩))
instance : DecidableEq GL := fun a b => if h : a.number = b.number ∧ a.sort = b.sort ∧ a.cons = b.cons ∧ a.level = b.level ∧ a.words = b.words ∧ a.round = b.round then isTrue (by cases a; cases b; obtain ⟨h0, h1, h2, h3, h4, h5⟩ := h; simp only at *; subst_vars; rfl) else isFalse (fun e => h (by subst e; exact ⟨rfl, rfl, rfl, rfl, rfl, rfl⟩))
instance : DecidableEq RS := fun a b => if h : a.lits = b.lits ∧ a.cls = b.cls ∧ a.sorts = b.sorts ∧ a.names = b.names ∧ a.cons = b.cons ∧ a.rounds = b.rounds ∧ a.lines = b.lines then isTrue (by cases a; cases b; obtain ⟨h0, h1, h2, h3, h4, h5, h6⟩ := h; simp only at *; subst_vars; rfl) else isFalse (fun e => h (by subst e; exact ⟨rfl, rfl, rfl, rfl, rfl, rfl, rfl⟩))
instance : DecidableEq GP := fun a b => if h : a.cls = b.cls ∧ a.sort = b.sort ∧ a.level = b.level ∧ a.fixed = b.fixed then isTrue (by cases a; cases b; obtain ⟨h0, h1, h2, h3⟩ := h; simp only at *; subst_vars; rfl) else isFalse (fun e => h (by subst e; exact ⟨rfl, rfl, rfl, rfl⟩))
instance : DecidableEq GR := fun a b => if h : a.sort = b.sort ∧ a.cons = b.cons ∧ a.level = b.level ∧ a.parts = b.parts then isTrue (by cases a; cases b; obtain ⟨h0, h1, h2, h3⟩ := h; simp only at *; subst_vars; rfl) else isFalse (fun e => h (by subst e; exact ⟨rfl, rfl, rfl, rfl⟩))
def exE : ByteArray := ⟨#[101]⟩
def exR : RS := ⟨[⟨#[43]⟩, ⟨#[40]⟩, ⟨#[41]⟩], [exC], [exE], [exC.name, exE], [⟨#[65, 100, 100]⟩, ⟨#[78, 117, 109]⟩], [exE], [
 ⟨3, exE, ⟨#[65, 100, 100]⟩, 1, [⟨emptyB, exE, 1, true⟩, ⟨⟨#[43]⟩, emptyB, 0, false⟩, ⟨emptyB, exE, 2, true⟩], false⟩,
 ⟨4, exE, ⟨#[78, 117, 109]⟩, 9, [⟨emptyB, exC.name, 0, false⟩], false⟩,
 ⟨5, exE, emptyB, 9, [⟨⟨#[40]⟩, emptyB, 0, false⟩, ⟨emptyB, exE, 0, true⟩, ⟨⟨#[41]⟩, emptyB, 0, false⟩], true⟩]⟩
theorem ex_rest : RS.linkGo exR exR.lines [] [] = some ([⟨0, ⟨#[65, 100, 100]⟩, 1, [⟨-1, 0, 1, false⟩, ⟨0, -1, 0, true⟩, ⟨-1, 0, 2, false⟩]⟩, ⟨0, ⟨#[78, 117, 109]⟩, 9, [⟨3, -1, 0, false⟩]⟩, ⟨0, emptyB, 9, [⟨1, -1, 0, true⟩, ⟨-1, 0, 0, false⟩, ⟨2, -1, 0, true⟩]⟩], [(0, 2)]) := by decide +kernel
theorem ex_gather : RS.gather 81 1 RS.none_ exB = some exR := by decide +kernel
def decX (i : Nat) : ByteArray := if i < 10 then ⟨#[UInt8.ofNat (48 + i)]⟩ else if i < 100 then ⟨#[UInt8.ofNat (48 + i / 10), UInt8.ofNat (48 + i % 10)]⟩ else ⟨(Lib.decDigits i).toArray⟩
theorem decB_X : decB = decX := by
 funext i
 unfold decB decX
 split
 ·rename_i h; rw [Lib.decDigits_one h]
 ·split
  ·rename_i h1 h2; rw [Lib.decDigits_two h1 h2]
  ·rfl
def litG (dec : Nat → ByteArray) (R : RS) : List GC := R.lits.zipIdx.map (fun p => ⟨(⟨#[108, 105, 116]⟩ : ByteArray) ++ dec p.2, escF p.1, false⟩)
theorem clsOf_G (R : RS) : clsOf R = litG decX R ++ R.cls := by rw [← decB_X]; rfl
def exRs : List GR := [⟨0, ⟨#[65, 100, 100]⟩, 1, [⟨-1, 0, 1, false⟩, ⟨0, -1, 0, true⟩, ⟨-1, 0, 2, false⟩]⟩, ⟨0, ⟨#[78, 117, 109]⟩, 9, [⟨3, -1, 0, false⟩]⟩, ⟨0, emptyB, 9, [⟨1, -1, 0, true⟩, ⟨-1, 0, 0, false⟩, ⟨2, -1, 0, true⟩]⟩]
theorem ex_cls : (scanF (clsOf exR)).isSome = true := by rw [clsOf_G]; decide +kernel
set_option maxRecDepth 10000 in
theorem ex_parse : parseF exB = some (exR, exRs, [(0, 2)]) := by
 have h1 : RS.gather (exB.size + 1) 1 RS.none_ exB = some exR := ex_gather
 unfold parseF
 rw [h1]
 dsimp only
 have h2 : finF exR = some (exRs, [(0, 2)]) := by
  unfold finF
  rw [ex_rest]
  dsimp only
  rw [if_neg (by decide), if_neg (by rw [clsOf_G]; decide), if_pos ex_cls]
  rfl
 rw [h2]
theorem ex_build : (buildF exRs).places = [(0, 0), (0, 1), (0, 2)] ∧ (buildF exRs).l.length = 8 := by decide +kernel
theorem ex_cls4 : (clsOf exR).length = 4 := by rw [clsOf_G]; decide +kernel
theorem itF_shift {α : Type} (f : α → α × Bool) : ∀ (k : Nat) (a : α), itF f k (f a).1 = itF f (k + 1) a
 | 0, a => rfl
 | k + 1, a => by show (f (itF f k (f a).1)).1 = _; rw [itF_shift f k a]; rfl
def goF {α : Type} (f : α → α × Bool) : Nat → α → Option α
 | 0, _ => none
 | k + 1, a => if (f a).2 = true then goF f k (f a).1 else some (f a).1
theorem goF_fin {α : Type} (f : α → α × Bool) : ∀ (k : Nat) (a z : α), goF f k a = some z → Fin f a z
 | 0, a, z, h => by cases h
 | k + 1, a, z, h => by
  unfold goF at h
  split at h
  ·rename_i hm
   obtain ⟨j, h1, h2, h3⟩ := goF_fin f k _ z h
   refine ⟨j + 1, ?_, ?_, fun i hi => ?_⟩
   ·rw [h1, itF_shift]
   ·rw [← itF_shift]; exact h2
   ·cases i with
    | zero => exact hm
    | succ i => rw [← itF_shift]; exact h3 i (by omega)
  ·rename_i hm
   injection h with h
   exact ⟨0, h.symm, by simpa [itF] using hm, fun j hj => absurd hj (Nat.not_lt_zero _)⟩
theorem ex_f1 : goF (fstF (buildF exRs).l) 20 (List.replicate 3 false, List.replicate 3 0) = some ([false, false, false], [10, 10, 10]) := by decide +kernel
theorem ex_f2 : goF (flwF [false, false, false] [10, 10, 10] (buildF exRs).l) 20 ((List.replicate 3 0).set 0 (oneB 4)) = some [20, 1, 21] := by decide +kernel
theorem ex_sets {X : SX} (h : IsSets exRs (clsOf exR).length X) : X.b.places = [(0, 0), (0, 1), (0, 2)] ∧ X.fin = 4 ∧ X.first = [10, 10, 10] ∧ X.follow = [20, 1, 21] := by
 obtain ⟨h1, h2, h3, h4⟩ := h
 rw [ex_cls4] at h2 h4
 rw [h1] at h3 h4
 have hl : (buildF exRs).places.length = 3 := by rw [ex_build.1]; rfl
 rw [hl] at h3 h4
 have e1 := h3.uni (goF_fin _ _ _ _ ex_f1)
 have e2 : X.empty = [false, false, false] := congrArg Prod.fst e1
 have e3 : X.first = [10, 10, 10] := congrArg Prod.snd e1
 rw [e2, e3] at h4
 exact ⟨by rw [h1]; exact ex_build.1, h2, e3, h4.uni (goF_fin _ _ _ _ ex_f2)⟩
theorem ex_lists : listB 20 = [2, 4] ∧ listB 10 = [1, 3] := by decide +kernel
open Go.RowKit Go.Maps
theorem ex_size : exB.size ≤ 1000000 := by decide
theorem ex_rok : RulesOk exRs := ⟨by decide, by decide, fun r hr q hq => ⟨by revert q; revert r; decide, by revert q; revert r; decide, by revert q; revert r; decide⟩, by decide⟩
set_option maxRecDepth 100000 in
set_option maxHeartbeats 16000000 in
theorem sawake_c (w : World) (hm : MaxLenAt w) : Calls Tryz.prog 32 #[] w fun e w' => e = .returned (.bool true) ∧ Kn w w' := by
 have HPC := Qh (gparse_c exB w hm ex_size)
 go_enter Tryz.func32, Tryz.ntmps32
 go_wp2_with (first
  | (go_at_call 17; go_must (refine HPC.out.mono ?_; rintro e w1 ⟨hk1, hpp⟩; rw [ex_parse] at hpp; obtain ⟨p, rfl, hg⟩ := hpp; have HN := Qh (setsNew_c hg ex_rok); have HK1 := Qh hk1; clear hk1 HPC hg))
  | (go_at_call 34; go_must (refine HN.out.mono ?_; rintro e w2 ⟨ps, X, rfl, hsi, hX, hk2⟩; obtain ⟨x1, x2, x3, x4⟩ := ex_sets hX; obtain ⟨B, A, ge, gf, gw, hst, hbo, hfi⟩ := hsi; have HST := Qh hst; have HBO := Qh hbo; have HFI : Hid (A.fin = 4) := Qh (hfi.trans x2); have HX := Qh (And.intro x1 (And.intro x3 x4)); have HP := Qh (places_c hst (by have := hbo.le; omega)); have HK2 := Qh (HK1.out.trans hk2); clear hst hbo hfi hX x1 x2 x3 x4 hk2 HN HK1))
  | (go_at_call 43; go_must (refine HP.out.mono ?_; rintro e w3 ⟨v, rfl, hov, hk3⟩; rw [HX.out.1] at hov; obtain ⟨ap, cp, hvp, _, _, hgp⟩ := hov.row (fun C hC => by { obtain ⟨x, _, rfl⟩ := List.mem_map.1 hC; rfl }); obtain ⟨gp, hap, _, _, hcp⟩ := hgp (by simp); subst hap; subst hvp; have y0 : w3.cell? ⟨gp, 2, none⟩ = some (.int .i64 0) := (hcp 1 (by decide) 0 (by decide)).1; have y1 : w3.cell? ⟨gp, 3, none⟩ = some (.int .i64 1) := (hcp 1 (by decide) 1 (by decide)).1; have HST3 := Qh (HST.out.kn hk3); have hfo := follow_c 0 HST3.out HBO.out.pos; rw [HX.out.2.2] at hfo; have HFO := Qh hfo; have HK3 := Qh (HK2.out.trans hk3); clear hov hgp hcp hk3 HP HK2 HST hfo))
  | (go_at_call 41; go_must (refine HFO.out.mono ?_; rintro e w4 ⟨v, rfl, hov, hk4⟩; rw [show ([20, 1, 21] : List Nat).getD 0 0 = 20 from rfl, ex_lists.1] at hov; obtain ⟨af, cf, hvf, _, _, hgf⟩ := hov.look; obtain ⟨gq, haf, _, _, hcf⟩ := hgf (by simp); subst haf; subst hvf; have z1 : w4.cell? ⟨gq, 1, none⟩ = some (.int .i64 4) := (hcf 1 (by decide)).1; have u0 := kn_cell hk4 y0; have u1 := kn_cell hk4 y1; have HST4 := Qh (HST3.out.kn hk4); have HK4 := Qh (HK3.out.trans hk4); clear hov hgf hcf hk4 HFO HK3 HST3 y0 y1)))
 refine rgn (fun w' => w'.cell? ⟨gp, 2, none⟩ = some (.int .i64 0) ∧ w'.cell? ⟨gp, 3, none⟩ = some (.int .i64 1) ∧ w'.cell? ⟨gq, 1, none⟩ = some (.int .i64 4)) (X := []) ⟨kn_cell ((Kp.refl _ _).drew) u0, kn_cell ((Kp.refl _ _).drew) u1, kn_cell ((Kp.refl _ _).drew) z1⟩ (fun hX hHeld => ?_)
 refine tw 0 22 ?_
 refine tw 1 23 ?_
 refine tw 2 24 ?_
 refine tw 3 25 ?_
 refine tw 4 26 ?_
 refine tw 5 27 ?_
 refine tw 6 28 ?_
 refine tw 7 29 ?_
 refine tw 8 30 ?_
 refine tw 9 31 ?_
 refine tk 10 32 ?_
 refine tw 11 33 ?_
 refine tw 12 34 ?_
 refine tw 13 35 ?_
 refine tw 14 36 ?_
 refine tw 15 37 ?_
 refine tw 16 38 ?_
 refine tw 17 39 ?_
 refine tw 18 40 ?_
 refine tw 19 41 ?_
 refine tw 20 42 ?_
 refine tw 21 43 ?_
 refine tk 22 44 ?_
 refine tw 23 45 ?_
 refine ro 24 (fun K hK => ?_)
 obtain ⟨w5, hw5⟩ : ∃ z, z = w4.drew := ⟨_, rfl⟩
 have hk5 : Kn w4 w5 := by rw [hw5]; exact (Kp.refl _ _).drew
 have HST5 := Qh (HST4.out.kn hk5)
 have HK5 := Qh (HK4.out.trans hk5)
 rw [← hw5] at hHeld ⊢
 clear hw5 hk5
 have HE := Qh (end_c HST5.out)
 rw [HFI.out] at HE
 go_simp
 go_at_call 47
 refine HE.out.mono ?_
 rintro e w6 ⟨rfl, rfl⟩
 refine hK.out _ _ hHeld (fun hHeld => ?_)
 clear HE u0 u1 z1
 clear hK K
 try simp only [PP]
 refine tw 25 47 ?_
 refine tw 26 48 ?_
 refine tw 27 49 ?_
 refine tw 28 50 ?_
 refine ro 29 (fun K hK => ?_)
 have hfi := first_c 1 HST5.out (by rw [HX.out.1]; decide)
 rw [HX.out.2.1] at hfi
 have HFI2 := Qh hfi
 clear hfi
 go_simp
 go_at_call 40
 refine HFI2.out.mono ?_
 rintro e w7 ⟨v, rfl, hov, hk7⟩
 rw [show ([10, 10, 10] : List Nat).getD 1 0 = 10 from rfl, ex_lists.2] at hov
 obtain ⟨ah, ch, hvh, _⟩ := hov.look
 subst hvh
 have HK9 := Qh (HK5.out.trans hk7)
 refine hK.out _ _ (⟨kn_cell hk7 hHeld.1, kn_cell hk7 hHeld.2.1, kn_cell hk7 hHeld.2.2⟩) (fun hHeld => ?_)
 clear hov hk7
 clear hK K
 try simp only [PP]
 refine tw 30 52 ?_
 refine tw 31 53 ?_
 refine tw 32 54 ?_
 refine re 33 (fun K hK => ?_)
 go_simp
 clear hHeld
 refine hK.out _ _ ?_
 clear hK K
 go_wp2_with fail
 go_ret
 exact ⟨rfl, HK9.out⟩
set_option maxRecDepth 100000 in
set_option maxHeartbeats 8000000 in
theorem snone_c (n : Int) (w : World) (hm : MaxLenAt w) : Calls Tryz.prog 10 #[.int .i64 n] w fun e w' => e = .returned (.bool true) ∧ Kn w w' := by
 have HA := Qh (sawake_c w hm)
 have H1 := Qh (new_nil w)
 have H2 := Qh (places_nil w)
 have H3 := Qh (prods_nil w)
 have H4 := Qh (of_nil n w)
 have H5 := Qh (end_nil w)
 have H6 := Qh (nullable_nil n w)
 have H7 := Qh (first_nil n w)
 have H8 := Qh (follow_nil n w)
 have H9 := Qh (begin_nil n w)
 go_enter Tryz.func10, Tryz.ntmps10
 go_wp2_with (first
  | (go_at_call 34; go_must (refine H1.out.mono ?_; rintro e w' ⟨rfl, rfl⟩))
  | (go_at_call 43; go_must (refine H2.out.mono ?_; rintro e w' ⟨rfl, rfl⟩))
  | (go_at_call 46; go_must (refine H3.out.mono ?_; rintro e w' ⟨rfl, rfl⟩))
  | (go_at_call 42; go_must (refine H4.out.mono ?_; rintro e w' ⟨rfl, rfl⟩))
  | (go_at_call 47; go_must (refine H5.out.mono ?_; rintro e w' ⟨rfl, rfl⟩))
  | (go_at_call 38; go_must (refine H6.out.mono ?_; rintro e w' ⟨rfl, rfl⟩))
  | (go_at_call 40; go_must (refine H7.out.mono ?_; rintro e w' ⟨rfl, rfl⟩))
  | (go_at_call 41; go_must (refine H8.out.mono ?_; rintro e w' ⟨rfl, rfl⟩))
  | (go_at_call 45; go_must (refine H9.out.mono ?_; rintro e w' ⟨rfl, rfl⟩))
  | (go_at_call 32; go_must (refine HA.out.mono ?_; rintro e w' ⟨rfl, hk⟩; have HK := Qh hk; clear hk)))
 go_ret
 exact ⟨rfl, HK.out⟩
end Go.Proofs.YtopmadkajacniaaGreatDoor
