/-
  Texts of this claim, laid together: NOw. Conditions: none.
-/
import Derived.Test.YtopmadkajacniaaGreatDoorQAC
set_option linter.unusedVariables false
set_option linter.unusedSimpArgs false
namespace Go.Proofs.YtopmadkajacniaaGreatDoor
open Go.RowKit Go.Maps
theorem MachAt.other {w : World} {pm : Nat} {v vr : Value} {ps : List NP} {fs : List Nat} (h : MachAt w pm v vr ps fs) {g : Nat} {C : Array Value} {T : TypeId} {fr : Nat × Nat} (hg : w.heap[g]? = some (.cells C T fr)) (h1 : T ≠ TM) (h2 : T ≠ TPos) : ¬ MS pm v fs g := by
 rintro (rfl | hS | hS)
 ·rw [h.blk] at hg; injection hg with hg; injection hg with _ hg _; exact h1 hg.symm
 ·rcases h.row.2 with ⟨h3, _⟩ | ⟨g', cap, cur, h3, _, h4, _⟩
  ·rw [h3] at hS; cases hS
  ·have e : g' = g := by rw [h3] at hS; simpa [Value.ownBlock] using hS
   subst e
   rw [h4] at hg; injection hg with hg; injection hg with _ hg _; exact h2 hg.symm
 ·obtain ⟨i, hi, rfl⟩ := List.getElem_of_mem hS
  obtain ⟨D, ⟨es, clock, hb, _⟩, _⟩ := h.sets i (by rw [h.len]; exact hi) hi
  rw [hb] at hg; injection hg with hg; cases hg
structure Ow (w W : World) (pm : Nat) (v vr : Value) (fs : List Nat) (v1 : Value) (ps1 : List NP) (fs2 : List Nat) : Prop where
 mach : MachAt W pm v1 vr ps1 (fs ++ fs2)
 kp : Kp (MS pm v fs) w W
 new : ∀ g ∈ fs2, w.heap.size ≤ g
 own : v1.ownBlock = v.ownBlock ∨ ∃ g, v1.ownBlock = some g ∧ w.heap.size ≤ g
section
variable {w W W' : World} {pm : Nat} {v vr v1 v2 : Value} {ps ps1 ps2 : List NP} {fs fs2 fs3 : List Nat}
theorem Ow.refl (h : MachAt w pm v vr ps fs) : Ow w w pm v vr fs v ps [] := ⟨by simpa using h, Kp.refl _ _, by simp, .inl rfl⟩
theorem Ow.trans (h : Ow w W pm v vr fs v1 ps1 fs2) (k : Ow W W' pm v1 vr (fs ++ fs2) v2 ps2 fs3) : Ow w W' pm v vr fs v2 ps2 (fs2 ++ fs3) := by
 refine ⟨by rw [← List.append_assoc]; exact k.mach, h.kp.trans' k.kp (fun i hi hS => ?_), fun g hg => ?_, ?_⟩
 ·rcases hS with rfl | hS | hS
  ·exact .inl rfl
  ·rcases h.own with e | ⟨g, e, hg⟩
   ·rw [e] at hS; exact .inr (.inl hS)
   ·rw [e] at hS; injection hS with hS; omega
  ·rcases List.mem_append.1 hS with hS | hS
   ·exact .inr (.inr hS)
   ·have := h.new i hS; omega
 ·rcases List.mem_append.1 hg with hg | hg
  ·exact h.new g hg
  ·exact Nat.le_trans h.kp.size (k.new g hg)
 ·rcases k.own with e | ⟨g, e, hg⟩
  ·rw [e]; exact h.own
  ·exact .inr ⟨g, e, Nat.le_trans h.kp.size hg⟩
theorem Ow.kn (h : Ow w W pm v vr fs v1 ps1 fs2) (hk : Kn W W') : Ow w W' pm v vr fs v1 ps1 fs2 := ⟨h.mach.kn hk, h.kp.trans hk.weak, h.new, h.own⟩
theorem Ow.k1 (h : Ow w W pm v vr fs v1 ps1 fs2) {g : Nat} (hk : K1 g W W') (hg : w.heap.size ≤ g) (hS : ¬ MS pm v1 (fs ++ fs2) g) : Ow w W' pm v vr fs v1 ps1 fs2 :=
 ⟨h.mach.kp hk (fun k hk e => hS (by rw [← e]; exact hk)), h.kp.trans' hk (fun i hi e => by omega), h.new, h.own⟩
theorem Ow.linked (h : Ow w W pm v vr fs v1 ps1 fs2) (hM : MachAt W' pm v1 vr ps2 (fs ++ fs2)) (hk : Kp (fun k => k ∈ fs ++ fs2) W W') : Ow w W' pm v vr fs v1 ps2 fs2 :=
 ⟨hM, h.kp.trans' hk (fun i hi e => by
  rcases List.mem_append.1 e with e | e
  ·exact .inr (.inr e)
  ·have := h.new i e; omega), h.new, h.own⟩
theorem Ow.nodes (h : Ow w W pm v vr fs v1 ps1 fs2) (h0 : MachAt w pm v vr ps fs) {t : Rw} {n : Nat} (hn : NodeAt w t n) : NodeAt W t n := hn.mono61 (h0.nodes h.kp)
theorem Ow.blk (h : Ow w W pm v vr fs v1 ps1 fs2) (h0 : MachAt w pm v vr ps fs) {g : Nat} {C : Array Value} {T : TypeId} {fr : Nat × Nat} (hg : w.heap[g]? = some (.cells C T fr)) (h1 : T ≠ TM) (h2 : T ≠ TPos) : W.heap[g]? = some (.cells C T fr) :=
 h.kp.blk hg (h0.other hg h1 h2)
theorem Ow.ms {w W : World} {pm : Nat} {v vr v1 : Value} {ps1 : List NP} {fs fs2 : List Nat} (h : Ow w W pm v vr fs v1 ps1 fs2) {g : Nat} (hg : g < w.heap.size) (hS : ¬ MS pm v fs g) : ¬ MS pm v1 (fs ++ fs2) g := by
 rintro (rfl | e | e)
 ·exact hS (.inl rfl)
 ·rcases h.own with e2 | ⟨k, e2, hk⟩
  ·exact hS (.inr (.inl (by rw [← e2]; exact e)))
  ·rw [e2] at e; injection e with e; omega
 ·rcases List.mem_append.1 e with e | e
  ·exact hS (.inr (.inr e))
  ·have := h.new g e; omega
theorem Ow.pre {w0 w W : World} {pm : Nat} {v vr v1 : Value} {ps1 : List NP} {fs fs2 : List Nat} (hk : Kn w0 w) (h : Ow w W pm v vr fs v1 ps1 fs2) : Ow w0 W pm v vr fs v1 ps1 fs2 :=
 ⟨h.mach, hk.weak.trans h.kp, fun g hg => Nat.le_trans hk.size (h.new g hg), by
  rcases h.own with e | ⟨g, e, hg⟩
  ·exact .inl e
  ·exact .inr ⟨g, e, Nat.le_trans hk.size hg⟩⟩
structure Fr (w W : World) (v1 : Value) (fs2 : List Nat) (q : Nat) (l : List Nat) : Prop where
 set : SetN W q l
 ge : w.heap.size ≤ q
 off : q ∉ fs2
 row : some q ≠ v1.ownBlock
theorem Fr.pre {w0 : World} {q : Nat} {l : List Nat} (hk : Kn w0 w) (h : Fr w W v1 fs2 q l) : Fr w0 W v1 fs2 q l := ⟨h.set, Nat.le_trans hk.size h.ge, h.off, h.row⟩
theorem Fr.kn {q : Nat} {l : List Nat} (h : Fr w W v1 fs2 q l) (hk : Kn W W') : Fr w W' v1 fs2 q l := ⟨h.set.kn hk, h.ge, h.off, h.row⟩
theorem Fr.k1 {q g : Nat} {l : List Nat} (h : Fr w W v1 fs2 q l) (hk : K1 g W W') {C : Array Value} {T : TypeId} {fr : Nat × Nat} (hg : W.heap[g]? = some (.cells C T fr)) : Fr w W' v1 fs2 q l := by
 obtain ⟨D, ⟨es, clock, hb, r⟩, hh⟩ := h.set
 have hne : ¬ q = g := by rintro rfl; rw [hb] at hg; injection hg with hg; cases hg
 exact ⟨h.set.kp hk hne, h.ge, h.off, h.row⟩
theorem Fr.apart {q : Nat} {l : List Nat} (h : Fr w W v1 fs2 q l) (h0 : MachAt w pm v vr ps fs) : q ∉ fs ++ fs2 := fun e => by
 rcases List.mem_append.1 e with e | e
 ·have := h0.fs_lt e; have := h.ge; omega
 ·exact h.off e
theorem Fr.ow {q : Nat} {l : List Nat} (h : Fr w W v1 fs2 q l) (h0 : MachAt w pm v vr ps fs) (ho : Ow w W pm v vr fs v1 ps1 fs2) (k : Ow W W' pm v1 vr (fs ++ fs2) v2 ps2 fs3) : Fr w W' v2 (fs2 ++ fs3) q l := by
 have hlt := h.set.lt
 refine ⟨h.set.kp k.kp ?_, h.ge, fun e => ?_, ?_⟩
 ·rintro (rfl | hS | hS)
  ·have := h0.lt; have := h.ge; omega
  ·exact h.row hS.symm
  ·exact h.apart h0 hS
 ·rcases List.mem_append.1 e with e | e
  ·exact h.off e
  ·have := k.new q e; omega
 ·rcases k.own with e | ⟨g, e, hg⟩
  ·rw [e]; exact h.row
  ·rw [e]; intro e2; injection e2 with e2; omega
theorem Fr.linked {q : Nat} {l : List Nat} (h : Fr w W v1 fs2 q l) (h0 : MachAt w pm v vr ps fs) (hk : Kp (fun k => k ∈ fs ++ fs2) W W') : Fr w W' v1 fs2 q l := ⟨h.set.kp hk (h.apart h0), h.ge, h.off, h.row⟩
theorem Fr.made (ho : Ow w W pm v vr fs v1 ps1 fs2) {q : Nat} {l : List Nat} (hs : SetN W' q l) (hq : W.heap.size ≤ q) (h0 : MachAt W pm v1 vr ps1 (fs ++ fs2)) : Fr w W' v1 fs2 q l :=
 ⟨hs, Nat.le_trans ho.kp.size hq, fun e => by have := h0.fs_lt (List.mem_append.2 (.inr e)); omega, fun e => by have := (h0.own_lt e.symm).2; omega⟩
end
theorem Fr.after {w W W' : World} {pm : Nat} {v vr v1 v2 : Value} {ps1 ps2 : List NP} {fs fs2 fs3 : List Nat} {q : Nat} {l : List Nat} (h : Ow w W pm v vr fs v1 ps1 fs2) (k : Ow W W' pm v1 vr (fs ++ fs2) v2 ps2 fs3) (hq : Fr W W' v2 fs3 q l) : Fr w W' v2 (fs2 ++ fs3) q l :=
 ⟨hq.set, Nat.le_trans h.kp.size hq.ge, fun e => by
  rcases List.mem_append.1 e with e | e
  ·have h1 := h.mach.fs_lt (List.mem_append.2 (.inr e)); have h2 := hq.ge; omega
  ·exact hq.off e, hq.row⟩
structure OrIn (w W : World) (pm : Nat) (v vr : Value) (fs : List Nat) (ps2 : List NP) (ka kb : KN) (g9 g10 f1 l1 f2 l2 : Nat) (v2 : Value) (fs4 : List Nat) : Prop where
 ow : Ow w W pm v vr fs v2 ps2 fs4
 a1 : Fr w W v2 fs4 f1 ka.first
 a2 : Fr w W v2 fs4 l1 ka.last
 b1 : Fr w W v2 fs4 f2 kb.first
 b2 : Fr w W v2 fs4 l2 kb.last
 h9 : W.heap[g9]? = some (knB f1 l1 ka.empty)
 h10 : W.heap[g10]? = some (knB f2 l2 kb.empty)
 ge9 : w.heap.size ≤ g9
 ge10 : w.heap.size ≤ g10
theorem K1.tower {b : Nat} (W : World) (f l : Nat) (e : Bool) : K1 b W (((W.setCell ⟨b, 0, none⟩ (.map (some f))).setCell ⟨b, 1, none⟩ (.map (some l))).setCell ⟨b, 2, none⟩ (.bool e)) := ((Kp.set1 _ _).trans (Kp.set1 _ _)).trans (Kp.set1 _ _)
theorem blk_tower {W : World} {b : Nat} {x y z : Value} (h : W.heap[b]? = some (.cells #[x, y, z] TKno)) (f l : Nat) (e : Bool) : (((W.setCell ⟨b, 0, none⟩ (.map (some f))).setCell ⟨b, 1, none⟩ (.map (some l))).setCell ⟨b, 2, none⟩ (.bool e)).heap[b]? = some (knB f l e) := blk_set (blk_set (blk_set h 0 _) 1 _) 2 _
def AddPost (r : Nat) (t : Rw) (pm : Nat) (v vr : Value) (ps : List NP) (fs : List Nat) (w : World) (e : Ending) (w' : World) : Prop :=
 ∃ (f l : Nat) (v1 : Value) (fs2 : List Nat), e = .returned (knV f l (nAdd r t ps).2.empty) ∧ Ow w w' pm v vr fs v1 (nAdd r t ps).1 fs2 ∧ Fr w w' v1 fs2 f (nAdd r t ps).2.first ∧ Fr w w' v1 fs2 l (nAdd r t ps).2.last
def AddC (t : Rw) : Prop := ∀ (r : Nat) (ps : List NP) (fs : List Nat) (v vr : Value) (pm n : Nat) (w : World), MachAt w pm v vr ps fs → NodeAt w t n → NGood ps → ps.length + ncount t ≤ 2000 → r < 1000000 →
 Calls Tryz.prog 182 #[ptr pm, .int .i64 r, ptr n] w (AddPost r t pm v vr ps fs w)
theorem wf_small (x : Nat) (hx : x < 1000000) : (Lit.int .i64 (x : Int)).wf = true := by
 have h1 : IntKind.i64.min ≤ 0 := by decide
 have h2 : (1000000 : Int) ≤ IntKind.i64.max := by decide
 simp only [Lit.wf, Bool.and_eq_true, decide_eq_true_eq]
 omega
theorem SetN.put {w : World} {b : Nat} {l : List Nat} (h : SetN w b l) (hl : ∀ x ∈ l, x < 1000000) (x : Nat) (hx : x < 1000000) :
  ∃ w', (Instr.mapUpdate TSet (.map (some b)) (.int .i64 x) (.bool true)).run Tryz.prog w = .ok () w' ∧ SetN w' b (ins x l) ∧ K1 b w w' := by
 obtain ⟨D, ho, hsz, hh⟩ := h.size_le hl
 have hw := wf_small x hx
 have hm : size D < maxLen := by simp only [maxLen]; omega
 obtain ⟨w', h1, h2, h3⟩ := ho.update int_key (e := 4) Tryz.underlying275 hm (key := .int .i64 x) (val := .bool true) (kl := .int .i64 x) (d := .lit (.bool true)) (ps := []) (keyOf_int_mk Tryz.underlying3 hw) rfl
 refine ⟨w', h1, ⟨_, own_exact h2, fun y => ?_⟩, Kp.of_grown h3 (fun k e _ => by cases e; rfl)⟩
 by_cases hy : y = x
 ·subst hy
  rw [has_put_same ho.isMap (int_key.key (keyOf_int_mk Tryz.underlying3 hw))]
  simp [mem_ins]
 ·have e : Lit.int .i64 y ≠ .int .i64 x := by intro e; injection e with _ e; exact hy e
  rw [has_put_other e, hh y]
  have e2 : (ins x l).contains y.toNat = (decide (y.toNat = x) || l.contains y.toNat) := by rw [Bool.eq_iff_iff]; simp [mem_ins]
  rw [e2]
  by_cases h0 : 0 ≤ y
  ·have : ¬ y.toNat = x := by omega
   simp [h0, this]
  ·simp [h0]
theorem MachAt.snoc {W w1 : World} {pm : Nat} {v v1 vr : Value} {ps : List NP} {fs : List Nat} (h : MachAt W pm v vr ps fs) {x : NP} (hx : x.bytes.ok) (hxf : x.follow = []) {f0 : Nat} (hs : SetN W f0 []) (hf : f0 ∉ fs) (hp : pm < f0) (hv : some f0 ≠ v.ownBlock)
  (hown : OwnK w1 (pm + 1) TPos 6 v1 (posC ps fs ++ [posL x f0])) (hk : Kp (fun k => some k = v.ownBlock) W w1) (hat : v1.ownBlock = v.ownBlock ∨ v1.ownBlock = some W.heap.size) :
  MachAt (w1.setCell ⟨pm, 0, none⟩ v1) pm v1 vr (ps ++ [x]) (fs ++ [f0]) ∧ Kp (MS pm v fs) W (w1.setCell ⟨pm, 0, none⟩ v1) := by
 have hpl := h.lt
 have hpo : ∀ g, v1.ownBlock = some g → pm < g := fun g hg => (hown.lt g hg).1
 have hk1 : K1 pm w1 (w1.setCell ⟨pm, 0, none⟩ v1) := Kp.set1 _ _
 have hS : ∀ f l, SetN W f l → pm < f → some f ≠ v.ownBlock → SetN (w1.setCell ⟨pm, 0, none⟩ v1) f l := fun f l hsf h1 h2 => (hsf.kp hk h2).kp hk1 (by omega)
 refine ⟨⟨?_, by simp [h.len], ?_, fun i h1 h2 => ?_, fun p hp => ?_, ?_, fun f hf' => ?_⟩, ?_⟩
 ·have hb := hk.blk h.blk (fun e => by have := h.own_lt e.symm; omega)
  exact blk_set hb 0 v1
 ·rw [posC_snoc h.len]
  exact hown.kp hk1 (fun g hg e => by have := hpo g hg; omega)
 ·have e1 := h.len
  by_cases h3 : i < ps.length
  ·have h4 : i < fs.length := by omega
   rw [List.getElem_append_left h3, List.getElem_append_left h4]
   have hm := List.getElem_mem h4
   exact hS _ _ (h.sets i h3 h4) (h.ap _ hm).1 (h.ap _ hm).2
  ·simp only [List.length_append, List.length_singleton] at h1
   obtain rfl : i = ps.length := by omega
   rw [List.getElem_append_right (Nat.le_refl _), List.getElem_append_right (by omega)]
   simp only [List.getElem_singleton, hxf]
   exact hS _ _ hs hp hv
 ·rcases List.mem_append.1 hp with hp | hp
  ·exact h.ok p hp
  ·simp at hp; subst hp; exact hx
 ·rw [List.nodup_append]
  exact ⟨h.nd, by simp, fun a ha b hb e => by simp at hb; subst hb; subst e; exact hf ha⟩
 ·have hlt : f < W.heap.size ∧ pm < f ∧ some f ≠ v.ownBlock := by
   rcases List.mem_append.1 hf' with h1 | h1
   ·exact ⟨h.fs_lt h1, (h.ap f h1).1, (h.ap f h1).2⟩
   ·simp at h1; subst h1; exact ⟨hs.lt, hp, hv⟩
  refine ⟨hlt.2.1, ?_⟩
  rcases hat with e | e
  ·rw [e]; exact hlt.2.2
  ·rw [e]; intro e2; injection e2 with e2; omega
 ·exact (hk.mono (fun k _ e => .inr (.inl e.symm))).trans (hk1.mono (fun k _ e => .inl e))
end Go.Proofs.YtopmadkajacniaaGreatDoor
