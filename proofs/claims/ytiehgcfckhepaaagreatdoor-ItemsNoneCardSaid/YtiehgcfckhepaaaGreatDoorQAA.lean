/-
  Texts of this claim, laid together: KBase, RPure, RMem, RNode, RTwo, KEq, RNull, Shelf, PPure, PRead, PLet. Conditions: none.
-/
import Derived.Test.YtiehgcfckhepaaaGreatDoorRows
import Derived.WalkKit
import Derived.WalkSpells
import Derived.WalkLawsBesides
import Derived.Deep.QuietTactic
import Derived.BigQuiet
import Derived.Lib.Hide
import Derived.LaidEqlPtr
import Derived.Deep.RegionHeld3
import Derived.Deep.RegionWith
import Derived.Deep.DrawnRows
import Derived.Shelf.Strings.Builder1
import Derived.Shelf.Strings.Trim
import Derived.Shelf.Small.Utf8
import Derived.Shelf.Small.Bits
import Derived.Shelf.Small.Strs
import Derived.Shelf.Small.Wraps
import Derived.Shelf.Strings.BuilderF
import Derived.Shelf.Strings.BuilderK
import Derived.Shelf.Utf8.RuneCount
import Derived.Shelf.Strconv.Itoa0
import Derived.Shelf.Strconv.Itoa1
import Derived.Shelf.LaysM
import Derived.Shelf.Strconv.Itoa2
import Derived.Shelf.Strconv.Itoa3
import Derived.Shelf.Strings.Search1
import Derived.Shelf.Strings.Search2
import Derived.Shelf.Strings.Search3
import Derived.Shelf.Strings.Cut
import Derived.Shelf.Strings.Count
import Derived.Shelf.Strings.Shaped
import Derived.Shelf.Sort.Plain
import Derived.Shelf.Strings.Prefix
import Derived.Shelf.Strings.Split
import Derived.Shelf.Strings.SplitShaped
import Derived.Shelf.Unicode.Decode
import Derived.Shelf.Strings.Runes
import Derived.Shelf.Strings.RuneCount
import Derived.Shelf.Strings.AsciiSet
import Derived.Shelf.Strings.Explode
import Derived.Shelf.Unicode.DecodeSlow
import Derived.Shelf.Unicode.DecodeAny
import Derived.Shelf.Unicode.DecodeLast
import Derived.Shelf.Strings.BuilderCap
import Derived.Shelf.Slices.Turned
import Derived.Ground.Names2Prog
import Derived.Shelf.Slices.Clone
import Derived.Shelf.Slices.CompactI
import Derived.Shelf.Slices.SearchI
import Derived.Shelf.Slices.Cells
import Derived.Shelf.Slices.In.SortNone
import Derived.Ground.SlgnProg
import Derived.Shelf.SlicesE.Clone
import Derived.Test.YtiehgcfckhepaaaGreatDoorProg
set_option linter.unusedVariables false
set_option linter.unusedSimpArgs false
set_option maxRecDepth 100000
set_option maxHeartbeats 16000000
namespace Go.Proofs.YtiehgcfckhepaaaGreatDoor
open Go
theorem PP : (∀ (a : Act) (v : Value), a.put none v = a) ∧ (∀ (a : Act) (d : Nat) (v : Value), a.put (some d) v = { a with tmps := a.tmps.setIfInBounds d v }) ∧ (∀ (α : Type) (l : List α) (i : Nat) (v : α), l.toArray.setIfInBounds i v = (l.set i v).toArray) ∧ (∀ (α : Type) (x : α) (l : List α) (v : α), (x :: l).set 0 v = v :: l) ∧ (∀ (α : Type) (x : α) (l : List α) (i : Nat) (v : α), (x :: l).set (i + 1) v = x :: l.set i v) :=
 ⟨fun _ _ => rfl, fun _ _ _ => rfl, fun _ l i v => List.setIfInBounds_toArray l i v, fun _ _ _ _ => rfl, fun _ _ _ _ _ => rfl⟩
theorem Qh {p : Prop} (h : p) : RowKit.Hid p := h
theorem PE : (∀ (α : Type) (l : List α) (i : Nat), l.toArray[i]? = l[i]?) ∧ (∀ (α : Type) (a : α) (l : List α), (a :: l)[0]? = some a) ∧ (∀ (α : Type) (a : α) (l : List α) (i : Nat), (a :: l)[i + 1]? = l[i]?) := ⟨fun _ _ _ => List.getElem?_toArray, fun _ _ _ => List.getElem?_cons_zero, fun _ _ _ _ => List.getElem?_cons_succ⟩
end Go.Proofs.YtiehgcfckhepaaaGreatDoor
namespace Go.Proofs.YtiehgcfckhepaaaGreatDoor
open Go.RowKit
theorem Qa{w:World}{b:Nat}{cs:Array Value}{T:TypeId}{fr:Nat×Nat}(h:w.heap[b]? =some (.cells cs T fr))(i:Nat):w.cell? ⟨b,i,none⟩=cs[i]? :=by
 simp[World.cell?,h]
theorem Qd{w:World}{b:Nat}{cs:Array Value}{T:TypeId}(h:w.heap[b]? =some (.cells cs T (0,0)))(i:Nat):w.frozen? ⟨b,i,none⟩=false:=by
 simp[World.frozen?,h]
theorem Qj{w:World}{b:Nat}{o:Obj}(h:w.heap[b]? =some o):b<w.heap.size:=by
 rcases Nat.lt_or_ge b w.heap.size with hb|hb
 ·exact hb
 ·simp[Array.getElem?_eq_none hb] at h
theorem Qk{w:World}{b:Nat}{cs:Array Value}{T:TypeId}{fr:Nat×Nat}(h:w.heap[b]? =some (.cells cs T fr))(i:Nat)(v:Value):
  (w.setCell ⟨b,i,none⟩ v).heap[b]? =some (.cells (cs.setIfInBounds i v) T fr):=by
 simp[World.setCell,Array.getElem?_modify,h]
theorem Yd{w:World}{b c:Nat}{o:Obj}(h:w.heap[b]? =some o)(hne:b≠c)(i:Nat)(v:Value):
  (w.setCell ⟨c,i,none⟩ v).heap[b]? =some o:=by
 rw[Below.heap_setCell _ _ _ _ hne];exact h
theorem Qm{w:World}{b:Nat}{o:Obj}(h:w.heap[b]? =some o)(o':Obj):(w.alloc o').heap[b]? =some o:=by
 rw[Below.heap_alloc _ _ _ (Qj h)];exact h
theorem Qf(w:World)(o:Obj):(w.alloc o).heap[w.heap.size]? =some o:=by
 show(w.heap.push o)[w.heap.size]? =_;simp
@[simp] theorem size_alloc' (w:World) (o:Obj):(w.alloc o).heap.size=w.heap.size+1:=by
 show(w.heap.push o).size=_;simp
structure Kp (S:Nat→Prop) (w w':World):Prop where
 os:w'.os=w.os
 tape:w'.tape=w.tape
 output:w'.output=w.output
 size:w.heap.size≤w'.heap.size
 block:∀k,k<w.heap.size→¬S k→w'.heap[k]? =w.heap[k]?
abbrev Kn:World→World→Prop:=Kp (fun _=>False)
abbrev K1(p:Nat):World→World→Prop:=Kp (fun k=>k=p)
theorem Qb(S:Nat→Prop)(w:World):Kp S w w:=⟨rfl,rfl,rfl,Nat.le_refl _,fun _ _ _=>rfl⟩
theorem Kp.trans{S:Nat→Prop}{a b c:World}(h:Kp S a b)(k:Kp S b c):Kp S a c:=
 ⟨k.os.trans h.os,k.tape.trans h.tape,k.output.trans h.output,Nat.le_trans h.size k.size,
  fun i hi hs=>(k.block i (Nat.lt_of_lt_of_le hi h.size) hs).trans (h.block i hi hs)⟩
theorem Kp.trans'{S T:Nat→Prop}{a b c:World}(h:Kp S a b)(k:Kp T b c)(hT:∀i,i<a.heap.size→T i→S i):Kp S a c:=
 ⟨k.os.trans h.os,k.tape.trans h.tape,k.output.trans h.output,Nat.le_trans h.size k.size,
  fun i hi hs=>(k.block i (Nat.lt_of_lt_of_le hi h.size) (fun ht=>hs (hT i hi ht))).trans (h.block i hi hs)⟩
theorem Kp.mono{S T:Nat→Prop}{a b:World}(h:Kp S a b)(hT:∀i,i<a.heap.size→S i→T i):Kp T a b:=
 ⟨h.os,h.tape,h.output,h.size,fun i hi hs=>h.block i hi (fun x=>hs (hT i hi x))⟩
theorem Kp.weak{S:Nat→Prop}{a b:World}(h:Kn a b):Kp S a b:=h.mono (fun _ _ x=>x.elim)
theorem Kp.alloc{S:Nat→Prop}{a w:World}(h:Kp S a w)(o:Obj):Kp S a (w.alloc o):=
 h.trans ⟨rfl,rfl,rfl,by simp,fun k hk _=>Below.heap_alloc _ _ _ hk⟩
theorem Kp.drewN{S:Nat→Prop}{a w:World}(h:Kp S a w)(n:Nat):Kp S a (w.drewN n):=⟨h.os,h.tape,h.output,h.size,h.block⟩
theorem Kp.drew{S:Nat→Prop}{a w:World}(h:Kp S a w):Kp S a w.drew:=⟨h.os,h.tape,h.output,h.size,h.block⟩
theorem Kp.setCell{S:Nat→Prop}{a w:World}(h:Kp S a w){p:Addr}(hp:p.block<a.heap.size→S p.block)(u:Value):Kp S a (w.setCell p u):=
 ⟨h.os,h.tape,h.output,by simpa[World.setCell] using h.size,fun k hk hs=>by
  have hne:k≠p.block:=by
   rintro rfl;exact hs (hp hk)
  rw[Below.heap_setCell _ _ _ _ hne];exact h.block k hk hs⟩
theorem Kp.blk{S:Nat→Prop}{a b:World}(h:Kp S a b){k:Nat}{o:Obj}(hk:a.heap[k]? =some o)(hs:¬S k):b.heap[k]? =some o:=by
 rw[h.block k (Qj hk) hs];exact hk
theorem Kp.below{a b:World}(h:Kn a b):Below a.heap.size a b:=⟨h.os,h.tape,h.output,h.size,fun k hk=>h.block k hk (fun x=>x)⟩
theorem QB{a b:World}(h:Below a.heap.size a b):Kn a b:=⟨h.os,h.tape,h.output,h.size,fun k hk _=>h.block k hk⟩
theorem Kp.lt{S:Nat→Prop}{a b:World}(h:Kp S a b){k:Nat}(hk:k<a.heap.size):k<b.heap.size:=Nat.lt_of_lt_of_le hk h.size
theorem quiet_add_left{P:Program}{f:FuncId}{args:Array Value}{w:World}{a n:Nat}{v:Value}
  (h:Calls P f args (w.drewN (a+n)) fun e w'=>e= .returned v∧w.drewN (a+n)=w'):
  Calls P f args (w.drewN (a+n)) fun e w''=>e= .returned v∧∃m,w''=w.drewN (a+m):=
 h.mono fun _ _ ⟨he,hm⟩=>⟨he,n,hm.symm⟩
theorem quiet_left{P:Program}{f:FuncId}{args:Array Value}{w:World}{n:Nat}{v:Value}
  (h:Calls P f args (w.drewN n) fun e w'=>e= .returned v∧w.drewN n=w'):Calls P f args (w.drewN n) fun e w''=>e= .returned v∧∃m,w''=w.drewN m:=
 h.mono fun _ _ ⟨he,hm⟩=>⟨he,n,hm.symm⟩
theorem Qi{S:Nat→Prop}{w w':World}(h:Kp S w w'){a:Addr}{v:Value}(ha:w.cell? a=some v)(hs:¬S a.block):w'.cell? a=some v:=by
 rw[World.cell?_of_block (w:=w) (h.block a.block (World.block_lt_of_cell? w a ha) hs)];exact ha
theorem Qc{w w':World}(h:Kn w w'){a:Addr}{v:Value}(ha:w.cell? a=some v):w'.cell? a=some v:=Qi h ha (fun x=>x)
section
variable {P:Program} {ops:Array Oper} {Q:Exit→Act→World→Prop} {md:Region.Mode} {S:World→Prop} {X:List Nat}
def waits(md:Region.Mode)(ops:Array Oper)(j k:Nat):Bool:=match ops[j]? with|some o=>o.after.toList.any (fun e=>Region.binds md e&&e.on==k)|none=>false
def sinkB(md:Region.Mode)(ops:Array Oper)(X:List Nat):Bool:=
 (List.range (ops.size-1)).all fun k=>X.contains k||(List.range ops.size).any fun j=>decide (k<j)&& !X.contains j&&waits md ops j k
def Closed(md:Region.Mode)(ops:Array Oper)(l:Array Bool):Prop:=∀k j,waits md ops k j=true→l.getD k false=true→l.getD j false=true
theorem waits_iff{j k:Nat} :waits md ops j k=true↔∃o,ops[j]? =some o∧∃e∈o.after,Region.binds md e=true∧e.on=k:=by
 unfold waits;cases ops[j]? with
 |none=>simp
 |some o=>simp only[List.any_eq_true,Array.mem_toList_iff,Bool.and_eq_true,beq_iff_eq,Option.some.injEq,exists_eq_left']
theorem ready_waits{l:Array Bool}{j k:Nat}(h:j∈Region.ready md ops l)(hw:waits md ops j k=true):l.getD k false=true:=by
 obtain⟨_,o,ho,hall⟩:=mem_ready.1 h;obtain⟨o',ho',e,he,hb,rfl⟩:=waits_iff.1 hw;rw[ho] at ho';cases ho';exact hall e he hb
theorem unlisted{l:Array Bool}{i:Nat}(h:i∈Region.ready md ops l):l.getD i false=false:=by
 have h0:=(mem_ready.1 h).1;rcases Nat.lt_or_ge i l.size with h'|h'
 ·simp[h'] at h0⊢;exact h0
 ·simp[h']
theorem Closed.set{l:Array Bool}{j:Nat}(hc:Closed md ops l)(h:j∈Region.ready md ops l):Closed md ops (l.setIfInBounds j true):=by
 intro k i hw hl;apply getD_set_true;rcases Decidable.em (j=k) with rfl|e
 ·exact ready_waits h hw
 ·rw[getD_set_ne false e] at hl;exact hc k i hw hl
theorem sink_all{l:Array Bool}(hX:sinkB md ops X=true)(hc:Closed md ops l)(hz:∀k,waits md ops (ops.size-1) k=true→l.getD k false=true):∀n k,ops.size-k≤n→k<ops.size-1→k∉X→l.getD k false=true:=by
 intro n;induction n with
 |zero=>intro k h1 h2;omega
 |succ n ih=>
  intro k h1 h2 h3;have hk:=List.all_eq_true.1 hX k (List.mem_range.2 h2);simp only[Bool.or_eq_true,List.contains_eq_mem,decide_eq_true_eq,h3,false_or,List.any_eq_true,List.mem_range,Bool.and_eq_true,Bool.not_eq_true',decide_eq_false_iff_not] at hk;obtain⟨j,hj,⟨hkj,hjX⟩,hw⟩:=hk;rcases Decidable.em (j=ops.size-1) with rfl|e
  ·exact hz k hw
  ·exact hc j k hw (ih j (by omega) (by omega) hjX)
def WE(P:Program)(md:Region.Mode)(ops:Array Oper)(Q:Exit→Act→World→Prop)(S:World→Prop):Nat→Array Bool→Act→World→Prop
 |0,l,a,w=>Region.ready md ops l=[]∧Q .normal a w
 |f+1,l,a,w=>(Region.ready md ops l=[]→Q .normal a w)∧
  ∀i∈Region.ready md ops l,wpOp P ops Q i (fun a' w'=>((l.setIfInBounds i true).getD (ops.size-1) false=false→S w')∧WE P md ops Q S f (l.setIfInBounds i true) a' w') a w
theorem WE.any:∀(f:Nat) (l:Array Bool) (a:Act) (w:World),WE P md ops Q S f l a w→wpAny P md ops Q f l a w
 |0,_,_,_,h=>h
 |f+1,_,_,_,h=>⟨h.1,fun i hi=>wpOp_mono (fun a' w' h'=>WE.any f _ a' w' h'.2) (h.2 i hi)⟩
theorem WE.first{T:World→Prop}{i:Nat}{o:Oper}{v:Value}(hi:ops[i]? =some o)(hil:i≠ops.size-1)(hsel:Region.noSelect ops=true)(hQ:∀c a w,Q (.panic c) (a.put o.dst v) w→Q (.panic c) a w)
  (hT:∀l j w,Closed md ops l→i∈Region.ready md ops l→j∈Region.ready md ops l→j≠i→(((l.setIfInBounds j true).setIfInBounds i true).getD (ops.size-1) false=false→S w)→T w):∀(f:Nat) (l:Array Bool) (a:Act) (w:World),Closed md ops l→
  (∀j oj,ops[j]? =some oj→j≠i→l.getD j true=false→(∀e∈oj.after,Region.binds md e=true→e.on≠i)→o.apart ops oj=true)→
  i∈Region.ready md ops l→YieldsIf P ops T o v a→T w→((l.setIfInBounds i true).getD (ops.size-1) false=false→S w)→WE P md ops Q S f (l.setIfInBounds i true) (a.put o.dst v) w→WE P md ops Q S (f+1) l a w:=by
 intro f;induction f with
 |zero=>
  intro l a w _ _ hr hy ht hS H;refine⟨fun h=>absurd hr (by rw[h];exact List.not_mem_nil),fun j hj=> ?_⟩;rcases Decidable.em (j=i) with rfl|hne
  ·exact hy.wpOp hi ht ⟨hS,H⟩
  ·exact absurd (ready_mono hj hne) (by rw[H.1];exact List.not_mem_nil)
 |succ f ih=>
  intro l a w hc hfree hr hy ht hS H;refine⟨fun h=>absurd hr (by rw[h];exact List.not_mem_nil),fun j hj=> ?_⟩;rcases Decidable.em (j=i) with rfl|hne
  ·exact hy.wpOp hi ht ⟨hS,H⟩
  obtain⟨hju,oj,hoj,hall⟩:=mem_ready.1 hj;have hno:∀e∈oj.after,Region.binds md e=true→e.on≠i:=fun e he hb heq=>by
   have h1:=hall e he hb;rw[heq,unlisted hr] at h1;cases h1
  have hri:=ready_mono hr (Ne.symm hne);refine wpOp_mono (fun a' w' h3=> ?_) (wpOp_putIf hoj (hfree j oj hoj hne hju hno) (fun cs b=>Region.noSelect_spec hsel i o cs b hi) (fun cs b=>Region.noSelect_spec hsel j oj cs b hoj) hQ hy (H.2 j (ready_mono hj hne)));have hcm:(l.setIfInBounds i true).setIfInBounds j true=(l.setIfInBounds j true).setIfInBounds i true:=Array.setIfInBounds_comm _ _ (Ne.symm hne);obtain⟨hy3,hS3,H3⟩:=h3;rw[hcm] at H3 hS3;refine⟨fun hl=>hS3 ?_,ih _ a' w' (hc.set hj) (fun k ok hk hki hun hno2=>hfree k ok hk hki (by
    rcases Decidable.em (j=k) with e|e
    ·rw[←e];exact hju
    ·rw[getD_set_ne true e] at hun;exact hun) hno2) hri hy3 (hT l j w' hc hr hj hne hS3) hS3 H3⟩
  rw[getD_set_ne false hil];exact hl
theorem WE.take{T:World→Prop}{i:Nat}{o:Oper}{v:Value}{f:Nat}{l:Array Bool}{a:Act}{w:World}(hi:ops[i]? =some o)(hil:(i==ops.size-1)=false)(hs:Region.noSelect ops=true)(hf:Region.free md ops l i=true)(hr:(Region.ready md ops l).contains i=true)
  (hQ:∀c a w,Q (.panic c) (a.put o.dst v) w→Q (.panic c) a w)
  (hT:∀l j w,Closed md ops l→i∈Region.ready md ops l→j∈Region.ready md ops l→j≠i→(((l.setIfInBounds j true).setIfInBounds i true).getD (ops.size-1) false=false→S w)→T w)
  (hy:YieldsIf P ops T o v a) (ht:T w) (hS:S w) (H:Closed md ops (l.setIfInBounds i true)→WE P md ops Q S f (l.setIfInBounds i true) (a.put o.dst v) w) (hc:Closed md ops l):WE P md ops Q S (f+1) l a w:=
 WE.first hi (by simpa using hil) hs hQ hT f l a w hc (Region.free_spec hi hf) (by simpa using hr) hy ht (fun _=>hS) (H (hc.set (by simpa using hr)))
theorem hT_true{i:Nat} :∀l j w,Closed md ops l→i∈Region.ready md ops l→j∈Region.ready md ops l→j≠i→(((l.setIfInBounds j true).setIfInBounds i true).getD (ops.size-1) false=false→S w)→(fun _:World=>True) w:=fun _ _ _ _ _ _ _ _=>trivial
theorem hT_S{i:Nat}(hX:sinkB md ops X=true)(hi:i<ops.size-1)(hiX:i∉X):∀l j w,Closed md ops l→i∈Region.ready md ops l→j∈Region.ready md ops l→j≠i→(((l.setIfInBounds j true).setIfInBounds i true).getD (ops.size-1) false=false→S w)→S w:=fun l j w hc hri hrj hne h=>by
 have hu:=unlisted hri;refine h ?_;rcases Decidable.em (j=ops.size-1) with e|e
 ·subst e;have:=sink_all hX hc (fun k hk=>ready_waits hrj hk) ops.size i (by omega) hi hiX;rw[this] at hu;cases hu
 ·rw[getD_set_ne false (by omega),getD_set_ne false e];cases hl:l.getD (ops.size-1) false with
  |false=>rfl
  |true=>
   have:=sink_all hX hc (fun k hk=>hc _ k hk hl) ops.size i (by omega) hi hiX;rw[this] at hu;cases hu
def RG(P:Program)(md:Region.Mode)(ops:Array Oper)(Q:Exit→Act→World→Prop)(S:World→Prop)(f:Nat)(l:Array Bool)(a:Act)(w:World):Prop:=Closed md ops l→WE P md ops Q S f l a w
theorem rgn(S:World→Prop){X:List Nat}{id:Nat}{a:Act}{w:World}(hS:S w.drew)(h:sinkB .any ops X=true→S w.drew→RG P .any ops Q S ops.size (Array.replicate ops.size false) a w.drew)(hX:sinkB .any ops X=true:=by kernel_rfl)(hm:P.follows .mixedOrders=true:=by kernel_rfl):(Code.region id ops true).wp P Q a w:=
 wp_region_any hm (WE.any _ _ _ _ (h hX hS (fun k j _ hk=>by
  simp only[Array.getD_eq_getD_getElem?,Array.getElem?_replicate] at hk;split at hk<;>cases hk)))
theorem tk(i d:Nat){op:Op}{ty:TypeId}{pos:String}{after:Array Edge}{gd:Option (Nat×Bool)}{v:Value}{f:Nat}{l:Array Bool}{a a':Act}{w:World}(h:RG P md ops Q S f (l.setIfInBounds i true) a' w)
  (hi:ops[i]? =some (Oper.mk (some d) op ty pos after gd):=by rfl) (hs:Region.noSelect ops=true:=by kernel_rfl) (hf:Region.free md ops l i=true:=by kernel_rfl) (hr:(Region.ready md ops l).contains i=true:=by kernel_rfl)
  (hS:S w:=by assumption) (hX:sinkB md ops X=true:=by assumption) (hiX:(decide (i<ops.size-1)&& !X.contains i)=true:=by kernel_rfl)
  (hw:Region.wanted (Oper.mk (some d) op ty pos after gd) (yielded ops a.tmps)=true:=by rfl)
  (hy:∀w,S w→(execOp a.eval (Oper.mk (some d) op ty pos after gd)).run P w= .ok (.value v) w:=by(intro w hSw;(try dsimp only at hSw);go_split_ands;go_simp;try with_reducible rfl))
  (ha:a.put (some d) v=a':=by(simp only[Act.put,List.setIfInBounds_toArray,List.set_cons_zero,List.set_cons_succ];rfl))
  (hQ:∀c a w,Q (.panic c) (a.put (some d) v) w→Q (.panic c) a w:=by exact fun _ _ _ h=>h):RG P md ops Q S (f+1) l a w:=by
 subst ha;simp only[Bool.and_eq_true,decide_eq_true_eq,Bool.not_eq_true',List.contains_eq_mem,decide_eq_false_iff_not] at hiX;exact WE.take hi (by simp;omega) hs hf hr hQ (hT_S hX hiX.1 hiX.2) (Or.inl ⟨hw,hy⟩) hS hS h
theorem tw(i d:Nat){op:Op}{ty:TypeId}{pos:String}{after:Array Edge}{gd:Option (Nat×Bool)}{v:Value}{f:Nat}{l:Array Bool}{a a':Act}{w:World}(h:RG P md ops Q S f (l.setIfInBounds i true) a' w)
  (hi:ops[i]? =some (Oper.mk (some d) op ty pos after gd):=by rfl) (hs:Region.noSelect ops=true:=by kernel_rfl) (hf:Region.free md ops l i=true:=by kernel_rfl) (hr:(Region.ready md ops l).contains i=true:=by kernel_rfl)
  (hS:S w:=by assumption) (hil:(i==ops.size-1)=false:=by kernel_rfl)
  (hw:Region.wanted (Oper.mk (some d) op ty pos after gd) (yielded ops a.tmps)=true:=by rfl)
  (hy:∀w,(execOp a.eval (Oper.mk (some d) op ty pos after gd)).run P w= .ok (.value v) w:=by(intro w;go_simp;try with_reducible rfl))
  (ha:a.put (some d) v=a':=by(simp only[Act.put,List.setIfInBounds_toArray,List.set_cons_zero,List.set_cons_succ];rfl))
  (hQ:∀c a w,Q (.panic c) (a.put (some d) v) w→Q (.panic c) a w:=by exact fun _ _ _ h=>h):RG P md ops Q S (f+1) l a w:=by
 subst ha;exact WE.take hi hil hs hf hr hQ hT_true (Or.inl ⟨hw,fun w _=>hy w⟩) trivial hS h
theorem tu(i d:Nat){op:Op}{ty:TypeId}{pos:String}{after:Array Edge}{gd:Option (Nat×Bool)}{f:Nat}{l:Array Bool}{a a':Act}{w:World}(h:RG P md ops Q S f (l.setIfInBounds i true) a' w)
  (hi:ops[i]? =some (Oper.mk (some d) op ty pos after gd):=by rfl) (hs:Region.noSelect ops=true:=by kernel_rfl) (hf:Region.free md ops l i=true:=by kernel_rfl) (hr:(Region.ready md ops l).contains i=true:=by kernel_rfl)
  (hS:S w:=by assumption) (hil:(i==ops.size-1)=false:=by kernel_rfl)
  (hw:Region.wanted (Oper.mk (some d) op ty pos after gd) (yielded ops a.tmps)=false:=by rfl)
  (ha:a.put (some d) undef=a':=by(simp only[Act.put,List.setIfInBounds_toArray,List.set_cons_zero,List.set_cons_succ];rfl))
  (hQ:∀c a w,Q (.panic c) (a.put (some d) undef) w→Q (.panic c) a w:=by exact fun _ _ _ h=>h):RG P md ops Q S (f+1) l a w:=by
 subst ha;exact WE.take hi hil hs hf hr hQ hT_true (Or.inr ⟨hw,rfl⟩) trivial hS h
theorem ro(i:Nat){d:Option Tmp}{op:Op}{ty:TypeId}{pos:String}{after:Array Edge}{gd:Option (Nat×Bool)}{f:Nat}{l:Array Bool}{a:Act}{w:World}
  (h:∀K':Act→World→Prop,Shut (∀a w,S w→(S w→RG P md ops Q S f (l.setIfInBounds i true) a w)→K' a w)→if Region.wanted (Oper.mk d op ty pos after gd) (yielded ops a.tmps)=true then Oper.wp P (Oper.mk d op ty pos after gd) a w K' Q else K' (a.put d undef) w)
  (hi:ops[i]? =some (Oper.mk d op ty pos after gd):=by rfl) (hr:Region.ready md ops l=[i]:=by kernel_rfl):RG P md ops Q S (f+1) l a w:=fun hc=>by
 have hm:i∈Region.ready md ops l:=by rw[hr];exact List.mem_singleton.2 rfl
 refine⟨fun e=>(by rw[hr] at e;cases e),fun j hj=> ?_⟩;rw[hr] at hj;cases List.mem_singleton.1 hj;exact wpOp_step hi (fun K' hK=>h K' (fun a w hS hW=>hK a w ⟨fun _=>hS,hW hS (hc.set hm)⟩))
theorem re(i:Nat){d:Option Tmp}{op:Op}{ty:TypeId}{pos:String}{after:Array Edge}{gd:Option (Nat×Bool)}{f:Nat}{l:Array Bool}{a:Act}{w:World}
  (h:∀K':Act→World→Prop,Shut (∀a w,Q .normal a w→K' a w)→if Region.wanted (Oper.mk d op ty pos after gd) (yielded ops a.tmps)=true then Oper.wp P (Oper.mk d op ty pos after gd) a w K' Q else K' (a.put d undef) w)
  (hi:ops[i]? =some (Oper.mk d op ty pos after gd):=by rfl) (hr:Region.ready md ops l=[i]:=by kernel_rfl) (hr2:Region.ready md ops (l.setIfInBounds i true)=[]:=by kernel_rfl)
  (hl:(l.setIfInBounds i true).getD (ops.size-1) false=true:=by kernel_rfl):RG P md ops Q S (f+1) l a w:=fun hc=>by
 refine⟨fun e=>(by rw[hr] at e;cases e),fun j hj=> ?_⟩;rw[hr] at hj;cases List.mem_singleton.1 hj;refine wpOp_step hi (fun K' hK=>h K' (fun a w hQ=>hK a w ⟨fun e=>(by rw[hl] at e;cases e),?_⟩));cases f with
 |zero=>exact⟨hr2,hQ⟩
 |succ f=>exact⟨fun _=>hQ,fun k hk=>(by rw[hr2] at hk;cases hk)⟩
theorem ro2(i j:Nat){d d2:Option Tmp}{op op2:Op}{ty ty2:TypeId}{pos pos2:String}{after after2:Array Edge}{gd gd2:Option (Nat×Bool)}{f:Nat}{l:Array Bool}{a:Act}{w:World}
  (h:∀K':Act→World→Prop,Shut (∀a w,S w→(S w→RG P md ops Q S f (l.setIfInBounds i true) a w)→K' a w)→if Region.wanted (Oper.mk d op ty pos after gd) (yielded ops a.tmps)=true then Oper.wp P (Oper.mk d op ty pos after gd) a w K' Q else K' (a.put d undef) w)
  (h2:∀K':Act→World→Prop,Shut (∀a w,S w→(S w→RG P md ops Q S f (l.setIfInBounds j true) a w)→K' a w)→if Region.wanted (Oper.mk d2 op2 ty2 pos2 after2 gd2) (yielded ops a.tmps)=true then Oper.wp P (Oper.mk d2 op2 ty2 pos2 after2 gd2) a w K' Q else K' (a.put d2 undef) w)
  (hi:ops[i]? =some (Oper.mk d op ty pos after gd):=by rfl) (hj:ops[j]? =some (Oper.mk d2 op2 ty2 pos2 after2 gd2):=by rfl) (hr:Region.ready md ops l=[i,j]:=by kernel_rfl):RG P md ops Q S (f+1) l a w:=fun hc=>by
 have hm:i∈Region.ready md ops l:=by rw[hr];exact List.mem_cons_self
 have hm2:j∈Region.ready md ops l:=by rw[hr];exact List.mem_cons_of_mem _ (List.mem_singleton.2 rfl)
 refine⟨fun e=>(by rw[hr] at e;cases e),fun k hk=> ?_⟩;rw[hr] at hk;rcases List.mem_cons.1 hk with e|hk
 ·subst e;exact wpOp_step hi (fun K' hK=>h K' (fun a w hS hW=>hK a w ⟨fun _=>hS,hW hS (hc.set hm)⟩))
 ·cases List.mem_singleton.1 hk;exact wpOp_step hj (fun K' hK=>h2 K' (fun a w hS hW=>hK a w ⟨fun _=>hS,hW hS (hc.set hm2)⟩))
end
section
variable {P:Program} {ops:Array Oper} {Q:Exit→Act→World→Prop} {md:Region.Mode} {S:World→Prop} {op op2:Op} {ty ty2:TypeId} {pos pos2:String} {after after2:Array Edge} {gd gd2:Option (Nat×Bool)} {v:Value} {f:Nat} {l:Array Bool} {a a':Act} {w:World} {dd dd2:Option Tmp}
theorem TH(i d:Nat)(h:wpAnyH P md ops Q S f (l.setIfInBounds i true) a' w)
  (hi:ops[i]? =some (Oper.mk (some d) op ty pos after gd):=by rfl) (hs:Region.noSelect ops=true:=by kernel_rfl) (hf:Region.free md ops l i=true:=by kernel_rfl) (hr:(Region.ready md ops l).contains i=true:=by kernel_rfl) (hS:S w:=by assumption)
  (hw:Region.wanted (Oper.mk (some d) op ty pos after gd) (yielded ops a.tmps)=true:=by rfl)
  (hy:∀w,S w→(execOp a.eval (Oper.mk (some d) op ty pos after gd)).run P w= .ok (.value v) w:=by(intro w hSw;(try dsimp only at hSw);go_split_ands;go_simp;try with_reducible rfl))
  (ha:a.put (some d) v=a':=by(simp only[Act.put,List.setIfInBounds_toArray,List.set_cons_zero,List.set_cons_succ];rfl))
  (hQ:∀c a w,Q (.panic c) (a.put (some d) v) w→Q (.panic c) a w:=by exact fun _ _ _ h=>h):wpAnyH P md ops Q S (f+1) l a w:=by
 subst ha;exact wpAnyH_take hi hs hf hr hQ (Or.inl ⟨hw,hy⟩) hS h
theorem TW(i d:Nat)(h:wpAnyH P md ops Q S f (l.setIfInBounds i true) a' w)
  (hi:ops[i]? =some (Oper.mk (some d) op ty pos after gd):=by rfl) (hs:Region.noSelect ops=true:=by kernel_rfl) (hf:Region.free md ops l i=true:=by kernel_rfl) (hr:(Region.ready md ops l).contains i=true:=by kernel_rfl) (hS:S w:=by assumption)
  (hw:Region.wanted (Oper.mk (some d) op ty pos after gd) (yielded ops a.tmps)=true:=by rfl)
  (hy:∀w,(execOp a.eval (Oper.mk (some d) op ty pos after gd)).run P w= .ok (.value v) w:=by(intro w;go_simp;try with_reducible rfl))
  (ha:a.put (some d) v=a':=by(simp only[Act.put,List.setIfInBounds_toArray,List.set_cons_zero,List.set_cons_succ];rfl))
  (hQ:∀c a w,Q (.panic c) (a.put (some d) v) w→Q (.panic c) a w:=by exact fun _ _ _ h=>h):wpAnyH P md ops Q S (f+1) l a w:=by
 subst ha;exact wpAnyH_take hi hs hf hr hQ (Or.inl ⟨hw,fun w _=>hy w⟩) hS h
theorem TU(i d:Nat)(h:wpAnyH P md ops Q S f (l.setIfInBounds i true) a' w)
  (hi:ops[i]? =some (Oper.mk (some d) op ty pos after gd):=by rfl) (hs:Region.noSelect ops=true:=by kernel_rfl) (hf:Region.free md ops l i=true:=by kernel_rfl) (hr:(Region.ready md ops l).contains i=true:=by kernel_rfl) (hS:S w:=by assumption)
  (hw:Region.wanted (Oper.mk (some d) op ty pos after gd) (yielded ops a.tmps)=false:=by rfl)
  (ha:a.put (some d) undef=a':=by(simp only[Act.put,List.setIfInBounds_toArray,List.set_cons_zero,List.set_cons_succ];rfl))
  (hQ:∀c a w,Q (.panic c) (a.put (some d) undef) w→Q (.panic c) a w:=by exact fun _ _ _ h=>h):wpAnyH P md ops Q S (f+1) l a w:=by
 subst ha;exact wpAnyH_take hi hs hf hr hQ (Or.inr ⟨hw,rfl⟩) hS h
theorem TA(i d:Nat)(h:wpAny P md ops Q f (l.setIfInBounds i true) a' w)
  (hi:ops[i]? =some (Oper.mk (some d) op ty pos after gd):=by rfl) (hs:Region.noSelect ops=true:=by kernel_rfl) (hf:Region.free md ops l i=true:=by kernel_rfl) (hr:(Region.ready md ops l).contains i=true:=by kernel_rfl)
  (hw:Region.wanted (Oper.mk (some d) op ty pos after gd) (yielded ops a.tmps)=true:=by rfl)
  (hy:∀w,(execOp a.eval (Oper.mk (some d) op ty pos after gd)).run P w= .ok (.value v) w:=by(intro w;go_simp;try with_reducible rfl))
  (ha:a.put (some d) v=a':=by(simp only[Act.put,List.setIfInBounds_toArray,List.set_cons_zero,List.set_cons_succ];rfl))
  (hQ:∀c a w,Q (.panic c) (a.put (some d) v) w→Q (.panic c) a w:=by exact fun _ _ _ h=>h):wpAny P md ops Q (f+1) l a w:=by
 subst ha;exact wpAny_take hi hs hf hr hQ (Or.inl ⟨hw,hy⟩) h
theorem RH(i:Nat)(h:∀K':Act→World→Prop,Shut (∀a w,S w→(S w→wpAnyH P md ops Q S f (l.setIfInBounds i true) a w)→K' a w)→if Region.wanted (Oper.mk dd op ty pos after gd) (yielded ops a.tmps)=true then Oper.wp P (Oper.mk dd op ty pos after gd) a w K' Q else K' (a.put dd undef) w)
  (hi:ops[i]? =some (Oper.mk dd op ty pos after gd):=by rfl) (hr:Region.ready md ops l=[i]:=by kernel_rfl):wpAnyH P md ops Q S (f+1) l a w:=
 wpAnyH_ready hr (by simp) (AllReadyH.cons hi h AllReadyH.nil)
theorem RH2(i j:Nat)(h:∀K':Act→World→Prop,Shut (∀a w,S w→(S w→wpAnyH P md ops Q S f (l.setIfInBounds i true) a w)→K' a w)→if Region.wanted (Oper.mk dd op ty pos after gd) (yielded ops a.tmps)=true then Oper.wp P (Oper.mk dd op ty pos after gd) a w K' Q else K' (a.put dd undef) w)
  (h2:∀K':Act→World→Prop,Shut (∀a w,S w→(S w→wpAnyH P md ops Q S f (l.setIfInBounds j true) a w)→K' a w)→if Region.wanted (Oper.mk dd2 op2 ty2 pos2 after2 gd2) (yielded ops a.tmps)=true then Oper.wp P (Oper.mk dd2 op2 ty2 pos2 after2 gd2) a w K' Q else K' (a.put dd2 undef) w)
  (hi:ops[i]? =some (Oper.mk dd op ty pos after gd):=by rfl) (hj:ops[j]? =some (Oper.mk dd2 op2 ty2 pos2 after2 gd2):=by rfl) (hr:Region.ready md ops l=[i,j]:=by kernel_rfl):wpAnyH P md ops Q S (f+1) l a w:=
 wpAnyH_ready hr (by simp) (AllReadyH.cons hi h (AllReadyH.cons hj h2 AllReadyH.nil))
theorem RD(h:Q .normal a w)(hr:Region.ready md ops l=[]:=by kernel_rfl):wpAnyH P md ops Q S f l a w:=wpAnyH_done hr h f
end
theorem ro3{P:Program}{ops:Array Oper}{Q:Exit→Act→World→Prop}{md:Region.Mode}{S:World→Prop}(i j k:Nat){d d2 d3:Option Tmp}{op op2 op3:Op}{ty ty2 ty3:TypeId}{pos pos2 pos3:String}{after after2 after3:Array Edge}{gd gd2 gd3:Option (Nat×Bool)}{f:Nat}{l:Array Bool}{a:Act}{w:World}
  (h:∀K':Act→World→Prop,Shut (∀a w,S w→(S w→RG P md ops Q S f (l.setIfInBounds i true) a w)→K' a w)→if Region.wanted (Oper.mk d op ty pos after gd) (yielded ops a.tmps)=true then Oper.wp P (Oper.mk d op ty pos after gd) a w K' Q else K' (a.put d undef) w)
  (h2:∀K':Act→World→Prop,Shut (∀a w,S w→(S w→RG P md ops Q S f (l.setIfInBounds j true) a w)→K' a w)→if Region.wanted (Oper.mk d2 op2 ty2 pos2 after2 gd2) (yielded ops a.tmps)=true then Oper.wp P (Oper.mk d2 op2 ty2 pos2 after2 gd2) a w K' Q else K' (a.put d2 undef) w)
  (h3:∀K':Act→World→Prop,Shut (∀a w,S w→(S w→RG P md ops Q S f (l.setIfInBounds k true) a w)→K' a w)→if Region.wanted (Oper.mk d3 op3 ty3 pos3 after3 gd3) (yielded ops a.tmps)=true then Oper.wp P (Oper.mk d3 op3 ty3 pos3 after3 gd3) a w K' Q else K' (a.put d3 undef) w)
  (hi:ops[i]? =some (Oper.mk d op ty pos after gd):=by rfl) (hj:ops[j]? =some (Oper.mk d2 op2 ty2 pos2 after2 gd2):=by rfl) (hk:ops[k]? =some (Oper.mk d3 op3 ty3 pos3 after3 gd3):=by rfl) (hr:Region.ready md ops l=[i,j,k]:=by kernel_rfl):RG P md ops Q S (f+1) l a w:=fun hc=>by
 have hm:i∈Region.ready md ops l:=by rw[hr];simp
 have hm2:j∈Region.ready md ops l:=by rw[hr];simp
 have hm3:k∈Region.ready md ops l:=by rw[hr];simp
 refine⟨fun e=>(by rw[hr] at e;cases e),fun x hx=> ?_⟩;rw[hr] at hx;simp only[List.mem_cons,List.not_mem_nil,or_false] at hx;rcases hx with e|e|e
 ·subst e;exact wpOp_step hi (fun K' hK=>h K' (fun a w hS hW=>hK a w ⟨fun _=>hS,hW hS (hc.set hm)⟩))
 ·subst e;exact wpOp_step hj (fun K' hK=>h2 K' (fun a w hS hW=>hK a w ⟨fun _=>hS,hW hS (hc.set hm2)⟩))
 ·subst e;exact wpOp_step hk (fun K' hK=>h3 K' (fun a w hS hW=>hK a w ⟨fun _=>hS,hW hS (hc.set hm3)⟩))
end Go.Proofs.YtiehgcfckhepaaaGreatDoor
namespace Go.Proofs.YtiehgcfckhepaaaGreatDoor
inductive Re (σ:Type) where
 |set (s:σ)
 |empty
 |cat (x y:Re σ)
 |or (x y:Re σ)
 |star (x:Re σ)
 deriving DecidableEq
structure W4 where
 a:Int
 b:Int
 c:Int
 d:Int
 deriving DecidableEq
namespace W4
def zero:W4:=⟨0,0,0,0⟩
def get(s:W4)(i:Nat):Int:=if i=0 then s.a else if i=1 then s.b else if i=2 then s.c else s.d
def ok(s:W4):Prop:=(0≤s.a∧s.a<18446744073709551616)∧(0≤s.b∧s.b<18446744073709551616)∧(0≤s.c∧s.c<18446744073709551616)∧(0≤s.d∧s.d<18446744073709551616)
def bit(s:W4)(b:Nat):Bool:=decide (s.get (b/64)/2^(b%64)%2=1)
end W4
namespace Re
variable {σ:Type}
def kind:Re σ→Nat
 | .set _=>0| .empty=>1| .cat _ _=>2| .or _ _=>3| .star _=>4
def size:Re σ→Nat
 | .set _=>1| .empty=>1| .cat x y=>1+size x+size y| .or x y=>1+size x+size y| .star x=>1+size x
def nullable:Re σ→Bool
 | .set _=>false| .empty=>true| .cat x y=>nullable x&&nullable y| .or x y=>nullable x||nullable y| .star _=>true
def map{τ:Type}(f:σ→τ):Re σ→Re τ
 | .set s=> .set (f s)| .empty=> .empty| .cat x y=> .cat (map f x) (map f y)| .or x y=> .or (map f x) (map f y)| .star x=> .star (map f x)
def two(f:Re σ→Re σ→Re σ)(none:Re σ):List (Re σ)→Re σ
 |[]=>none
 |[x]=>x
 |x::y::l=>f x (two f none (y::l))
inductive Lang (m:σ→Nat→Bool):Re σ→List Nat→Prop where
 |set {s:σ} {b:Nat} :m s b=true→Lang m (.set s) [b]
 |empty:Lang m .empty []
 |cat {x y:Re σ} {u v:List Nat} :Lang m x u→Lang m y v→Lang m (.cat x y) (u++v)
 |orl {x y:Re σ} {u:List Nat} :Lang m x u→Lang m (.or x y) u
 |orr {x y:Re σ} {u:List Nat} :Lang m y u→Lang m (.or x y) u
 |nil {x:Re σ} :Lang m (.star x) []
 |more {x:Re σ} {u v:List Nat} :Lang m x u→Lang m (.star x) v→Lang m (.star x) (u++v)
end Re
abbrev Rw:=Re W4
def Rw.none:Rw:= .set W4.zero
def Rw.mem:W4→Nat→Bool:=W4.bit
abbrev Rw.L(t:Rw)(u:List Nat):Prop:=Re.Lang Rw.mem t u
def Rw.holds:Rw→Rw→Bool
 | .or x y,n=>Rw.holds x n||Rw.holds y n
 |l,n=>decide (l=n)
end Go.Proofs.YtiehgcfckhepaaaGreatDoor
namespace Go.Proofs.YtiehgcfckhepaaaGreatDoor
open Go.RowKit
abbrev ptr(n:Nat):Value:= .pointer (some ⟨n,0,none⟩)
abbrev ndArr(k:Int)(s:W4)(sl:Value):Array Value:= #[.int .i64 k,.int .u64 s.a,.int .u64 s.b,.int .u64 s.c,.int .u64 s.d,sl]
abbrev Yf(k:Int)(s:W4)(sl:Value):Obj:= .cells (ndArr k s sl) 446 (0,0)
abbrev Yu(i j:Nat):Obj:= .cells #[ptr i,ptr j] 295 (0,0)
abbrev Qt(i:Nat):Obj:= .cells #[ptr i] 295 (0,0)
abbrev sl2(r:Nat):Value:= .slice (some ⟨r,0,none⟩) 2 2
abbrev sl1(r:Nat):Value:= .slice (some ⟨r,0,none⟩) 1 1
abbrev sl0:Value:= .slice none 0 0
def NodeAt(w:World):Rw→Nat→Prop
 | .set s,n=>s.ok∧w.heap[n]? =some (Yf 0 s sl0)
 | .empty,n=>w.heap[n]? =some (Yf 1 W4.zero sl0)
 | .cat x y,n=>∃r i j,w.heap[n]? =some (Yf 2 W4.zero (sl2 r))∧w.heap[r]? =some (Yu i j)∧NodeAt w x i∧NodeAt w y j
 | .or x y,n=>∃r i j,w.heap[n]? =some (Yf 3 W4.zero (sl2 r))∧w.heap[r]? =some (Yu i j)∧NodeAt w x i∧NodeAt w y j
 | .star x,n=>∃r i,w.heap[n]? =some (Yf 4 W4.zero (sl1 r))∧w.heap[r]? =some (Qt i)∧NodeAt w x i
inductive NShape:Obj→Prop where
 |node (k:Int) (s:W4) (sl:Value):NShape (Yf k s sl)
 |pair (i j:Nat):NShape (Yu i j)
 |lone (i:Nat):NShape (Qt i)
def Kn61(w w':World):Prop:=∀(k:Nat) (o:Obj),w.heap[k]? =some o→NShape o→w'.heap[k]? =some o
theorem NodeAt.mono61{w w':World}(hk:Kn61 w w'):∀ {t:Rw} {n:Nat},NodeAt w t n→NodeAt w' t n
 | .set _,_,⟨h0,h⟩=>⟨h0,hk _ _ h (.node ..)⟩
 | .empty,_,h=>hk _ _ h (.node ..)
 | .cat _ _,_,⟨r,i,j,h1,h2,h3,h4⟩=>⟨r,i,j,hk _ _ h1 (.node ..),hk _ _ h2 (.pair ..),h3.mono61 hk,h4.mono61 hk⟩
 | .or _ _,_,⟨r,i,j,h1,h2,h3,h4⟩=>⟨r,i,j,hk _ _ h1 (.node ..),hk _ _ h2 (.pair ..),h3.mono61 hk,h4.mono61 hk⟩
 | .star _,_,⟨r,i,h1,h2,h3⟩=>⟨r,i,hk _ _ h1 (.node ..),hk _ _ h2 (.lone ..),h3.mono61 hk⟩
theorem Kn61.of{S:Nat→Prop}{w w':World}(h:Kp S w w')(hs:∀(k:Nat) (o:Obj),w.heap[k]? =some o→NShape o→¬S k):Kn61 w w':=
 fun k o hk ht=>h.blk hk (hs k o hk ht)
theorem NodeAt.kn{w w':World}{t:Rw}{n:Nat}(h:NodeAt w t n)(hk:Kn w w'):NodeAt w' t n:=h.mono61 (Kn61.of hk (fun _ _ _ _ x=>x))
theorem NodeAt.alloc{w:World}{t:Rw}{n:Nat}(h:NodeAt w t n)(o:Obj):NodeAt (w.alloc o) t n:=h.kn ((Qb _ _).alloc o)
theorem NodeAt.drewN{w:World}{t:Rw}{n:Nat}(h:NodeAt w t n)(m:Nat):NodeAt (w.drewN m) t n:=h.kn ((Qb _ _).drewN m)
theorem Kn61.k1{w w':World}{p:Nat}(h:K1 p w w'){cs:Array Value}{T:TypeId}{fr:Nat×Nat}(hp:w.heap[p]? =some (.cells cs T fr))(h1:T≠446)(h2:T≠295):Kn61 w w':=
 Kn61.of h (fun k o hk ht e=>by
  subst e;rw[hp] at hk;injection hk with hk;cases ht with
  |node=>injection hk with _ hk _;exact h1 hk
  |pair=>injection hk with _ hk _;exact h2 hk
  |lone=>injection hk with _ hk _;exact h2 hk)
theorem NodeAt.lt{w:World}{t:Rw}{n:Nat}(h:NodeAt w t n):n<w.heap.size:=by
 cases t with
 |set s=>exact Qj h.2
 |empty=>exact Qj h
 |cat x y=>obtain⟨_,_,_,h,_⟩:=h;exact Qj h
 |or x y=>obtain⟨_,_,_,h,_⟩:=h;exact Qj h
 |star x=>obtain⟨_,_,h,_⟩:=h;exact Qj h
def Re.parts{σ:Type} :Re σ→List (Re σ)
 | .set _=>[]| .empty=>[]| .cat x y=>[x,y]| .or x y=>[x,y]| .star x=>[x]
def Rw.words:Rw→W4
 | .set s=>s
 |_=>W4.zero
inductive RowAt (w:World):List Rw→List Nat→Prop where
 |nil:RowAt w [] []
 |cons {t:Rw} {q:Nat} {ts:List Rw} {qs:List Nat} :NodeAt w t q→RowAt w ts qs→RowAt w (t::ts) (q::qs)
theorem RowAt.mono61{w w':World}(hk:Kn61 w w'){ts:List Rw}{qs:List Nat}(h:RowAt w ts qs):RowAt w' ts qs:=by
 induction h with
 |nil=>exact .nil
 |cons a _ ih=>exact .cons (a.mono61 hk) ih
theorem RowAt.kn{w w':World}{ts:List Rw}{qs:List Nat}(h:RowAt w ts qs)(hk:Kn w w'):RowAt w' ts qs:=h.mono61 (Kn61.of hk (fun _ _ _ _ x=>x))
theorem RowAt.len{w:World}{ts:List Rw}{qs:List Nat}(h:RowAt w ts qs):ts.length=qs.length:=by
 induction h with
 |nil=>rfl
 |cons _ _ ih=>simp[ih]
theorem RowAt.get{w:World}{ts:List Rw}{qs:List Nat}(h:RowAt w ts qs):∀(i:Nat) (hi:i<ts.length) (hq:i<qs.length),NodeAt w ts[i] qs[i]:=by
 induction h with
 |nil=>intro i hi;simp at hi
 |cons a _ ih=>
  intro i hi hq;cases i with
  |zero=>exact a
  |succ i=>exact ih i (by simpa using hi) (by simpa using hq)
theorem RowAt.snoc{w:World}{ts:List Rw}{qs:List Nat}(h:RowAt w ts qs){t:Rw}{q:Nat}(ht:NodeAt w t q):RowAt w (ts++[t]) (qs++[q]):=by
 induction h with
 |nil=>exact .cons ht .nil
 |cons a _ ih=>exact .cons a ih
theorem NodeAt.look{w:World}{t:Rw}{n:Nat}(h:NodeAt w t n):∃(sa:Option Addr) (qs:List Nat),
  w.heap[n]? =some (Yf t.kind t.words (.slice sa qs.length qs.length))∧RowAt w t.parts qs∧
  (∀i,(hi:i<qs.length)→∃r:Nat,sa=some ⟨r,0,none⟩∧w.cell? ⟨r,i,none⟩=some (ptr qs[i]))∧qs.length≤2:=by
 cases t with
 |set s=>exact⟨none,[],h.2,.nil,fun i hi=>by simp at hi,by simp⟩
 |empty=>exact⟨none,[],h,.nil,fun i hi=>by simp at hi,by simp⟩
 |cat x y=>
  obtain⟨r,i,j,h1,h2,h3,h4⟩:=h;refine⟨some ⟨r,0,none⟩,[i,j],h1,.cons h3 (.cons h4 .nil),fun k hk=>⟨r,rfl,?_⟩,by simp⟩;rw[Qa h2];rcases k with _|_|k
  ·rfl
  ·rfl
  ·simp at hk;try omega
 |or x y=>
  obtain⟨r,i,j,h1,h2,h3,h4⟩:=h;refine⟨some ⟨r,0,none⟩,[i,j],h1,.cons h3 (.cons h4 .nil),fun k hk=>⟨r,rfl,?_⟩,by simp⟩;rw[Qa h2];rcases k with _|_|k
  ·rfl
  ·rfl
  ·simp at hk;try omega
 |star x=>
  obtain⟨r,i,h1,h2,h3⟩:=h;refine⟨some ⟨r,0,none⟩,[i],h1,.cons h3 .nil,fun k hk=>⟨r,rfl,?_⟩,by simp⟩;rw[Qa h2];rcases k with _|k
  ·rfl
  ·simp at hk;try omega
theorem Empty_c(w:World):
  Calls Tryz.prog 343 #[] w fun e w'=>e= .returned (ptr w.heap.size)∧w'=w.alloc (Yf 1 W4.zero sl0):=by
 go_enter Tryz.func343,Tryz.ntmps343;go_wp2_with fail
 go_ret;exact⟨rfl,rfl⟩
theorem Set_c(s:W4)(w:World):
  Calls Tryz.prog 329 #[.agg #[.int .u64 s.a,.int .u64 s.b,.int .u64 s.c,.int .u64 s.d]] w fun e w'=>e= .returned (ptr (w.heap.size+1))∧
   w'=(w.alloc (.cells #[.int .u64 s.a,.int .u64 s.b,.int .u64 s.c,.int .u64 s.d] 404)).alloc (Yf 0 s sl0):=by
 go_enter Tryz.func329,Tryz.ntmps329;go_wp2_with fail
 go_ret;exact⟨rfl,rfl⟩
theorem Star_c(n:Nat)(w:World):
  Calls Tryz.prog 342 #[ptr n] w fun e w'=>e= .returned (ptr (w.heap.size+1))∧w'=(w.alloc (Qt n)).alloc (Yf 4 W4.zero (sl1 w.heap.size)):=by
 go_enter Tryz.func342,Tryz.ntmps342;go_wp2_with fail
 go_ret;exact⟨rfl,rfl⟩
theorem Kind_c(t:Rw)(n:Nat)(w:World)(h:NodeAt w t n):
  Calls Tryz.prog 258 #[ptr n] w fun e w'=>e= .returned (.int .i64 t.kind)∧w=w':=by
 obtain⟨sa,qs,hb,_⟩:=h.look;have c0:=Qa hb 0;simp only[List.getElem?_toArray,List.getElem?_cons_zero] at c0;clear hb;go_enter Tryz.func258,Tryz.ntmps258;go_wp2_with fail
 go_ret;exact⟨rfl,rfl⟩
theorem size_le(t:Rw):0<t.size:=by cases t<;>simp[Re.size]<;>omega
theorem size_parts(t:Rw):t.size=1+(t.parts.map Re.size).sum:=by
 cases t<;>simp[Re.size,Re.parts]<;>omega
def psum(t:Rw)(k:Nat):Nat:=1+((t.parts.map Re.size).take k).sum
theorem psum_zero(t:Rw):psum t 0=1:=by simp[psum]
theorem psum_succ(t:Rw)(k:Nat)(h:k<t.parts.length):psum t (k+1)=psum t k+(t.parts[k]).size:=by
 unfold psum;rw[List.take_succ_eq_append_getElem (by simpa using h),List.sum_append];simp;omega
theorem psum_end(t:Rw)(k:Nat)(h:t.parts.length≤k):psum t k=t.size:=by
 unfold psum;rw[List.take_of_length_le (by simpa using h),size_parts]
theorem take_sum_le(l:List Nat)(k:Nat):(l.take k).sum≤l.sum:=by
 induction l generalizing k with
 |nil=>simp
 |cons a l ih=>cases k with
  |zero=>simp
  |succ k=>simp;exact ih k
theorem psum_le(t:Rw)(k:Nat):psum t k≤t.size:=by
 unfold psum;rw[size_parts];have:=take_sum_le (t.parts.map Re.size) k;omega
theorem parts_size(t:Rw)(k:Nat)(h:k<t.parts.length):(t.parts[k]).size<t.size:=by
 cases t with
 |set=>simp[Re.parts] at h
 |empty=>simp[Re.parts] at h
 |cat x y=>
  match k,h with
  |0,_=>simp[Re.parts,Re.size];omega
  |1,_=>simp[Re.parts,Re.size];omega
 |or x y=>
  match k,h with
  |0,_=>simp[Re.parts,Re.size];omega
  |1,_=>simp[Re.parts,Re.size];omega
 |star x=>
  match k,h with
  |0,_=>simp[Re.parts,Re.size]
theorem Size_c:∀(m:Nat) (t:Rw) (n:Nat) (w:World),t.size=m→NodeAt w t n→t.size≤9223372036854775807→
  Calls Tryz.prog 255 #[ptr n] w fun e w'=>e= .returned (.int .i64 t.size)∧w=w':=by
 intro m;induction m using Nat.strongRecOn with
 |_ m ih=>
  intro t n w hm h hs;obtain⟨sa,qs,hb,hrow,hcs,hle⟩:=h.look;have c5:=Qa hb 5;simp only[List.getElem?_toArray,List.getElem?_cons_succ,List.getElem?_cons_zero] at c5;clear hb;have hlen:=Qh hrow.len;have IH:=Qh ih;have hM:=Qh hm;clear ih hm;have hcs':=Qh hcs;clear hcs;go_enter Tryz.func255,Tryz.ntmps255;go_wp2_with fail
  go_loop [3,13] (fun s i=>∃k:Nat,k≤qs.length∧i= .int .i64 k∧s= .int .i64 (psum t k)) (fun _ i=>qs.length-(intOf i).toNat)
  case atStart=>exact⟨0,Nat.zero_le _,rfl,by rw[psum_zero];try rfl⟩
  case round=>
   obtain⟨k,hk,rfl,rfl⟩:=hrel;by_cases hlt:k<qs.length
   ·obtain⟨r,hr,hc⟩:=hcs'.out k hlt;subst hr;have hkl:k<t.parts.length:=by have:=hlen.out;omega
    have hnode:=hrow.get k hkl hlt;have hsm:=parts_size t k hkl;have hsum:=Qh (psum_succ t k hkl);have h1:psum t k+(t.parts[k]).size≤9223372036854775807:=by
     have h1:=hsum.out;have h2:=psum_le t (k+1);omega
    go_wp2_with (first|(go_at_call 255;refine(IH.out _ (by have:=hM.out;omega) _ _ _ rfl hnode (by omega)).mono ?_;rintro e w' ⟨rfl,rfl⟩))
    go_round
    case rel=>exact⟨k+1,by omega,by go_num,by rw[hsum.out];go_num⟩
    case measure=>simp[intOf];omega
   ·have hfin:=Qh (psum_end t k (by have:=hlen.out;omega));go_wp2_with fail
    go_ret;exact⟨by rw[←hfin.out];try rfl,rfl⟩
def bin(k:Nat):Rw→Rw→Rw:=if k=2 then .cat else .or
theorem mk_bin{w:World}{k r i j n:Nat}{x y:Rw}(hk:k=2∨k=3)(h1:w.heap[n]? =some (Yf k W4.zero (sl2 r)))(h2:w.heap[r]? =some (Yu i j))
  (h3:NodeAt w x i) (h4:NodeAt w y j):NodeAt w (bin k x y) n:=by
 rcases hk with rfl|rfl
 ·exact⟨r,i,j,h1,h2,h3,h4⟩
 ·exact⟨r,i,j,h1,h2,h3,h4⟩
theorem new_bin{w:World}{k i j:Nat}{x y:Rw}(hk:k=2∨k=3)(h3:NodeAt w x i)(h4:NodeAt w y j):
  NodeAt ((w.alloc (Yu i j)).alloc (Yf k W4.zero (sl2 w.heap.size))) (bin k x y) (w.heap.size+1):=by
 refine mk_bin hk ?_ (Qm (Qf w _) _) ((h3.alloc _).alloc _) ((h4.alloc _).alloc _);have:=Qf (w.alloc (Yu i j)) (Yf k W4.zero (sl2 w.heap.size));simpa using this
def PtrsAt(w:World)(a:Option Addr)(qs:List Nat):Prop:=∀i,(hi:i<qs.length)→∃g:Nat,a=some ⟨g,0,none⟩∧w.cell? ⟨g,i,none⟩=some (ptr qs[i])
theorem PtrsAt.kn{w w':World}{a:Option Addr}{qs:List Nat}(h:PtrsAt w a qs)(hk:Kn w w'):PtrsAt w' a qs:=fun i hi=>by
 obtain⟨g,h1,h2⟩:=h i hi;refine⟨g,h1,?_⟩;rw[World.cell?_of_block (w:=w) (hk.block g (World.block_lt_of_cell? w _ h2) (fun x=>x))];exact h2
theorem PtrsAt.of_own{w:World}{B:Nat}{e:TypeId}{v:Value}{qs:List Nat}(h:w.ownsRow B e 1 v qs.length (qs.map ptr)):∃a c,v= .slice a qs.length c∧PtrsAt w a qs:=by
 rcases h.2 with⟨rfl,h0⟩|⟨g,cap,cur,rfl,_,hg,_,_,_,htake⟩
 ·exact⟨none,0,by rw[h0],fun i hi=>by omega⟩
 ·refine⟨_,_,rfl,fun i hi=>⟨g,rfl,?_⟩⟩;rw[Qa hg];have:(cur.toList.take (qs.length*1))[i]? =(qs.map ptr)[i]? :=by rw[htake]
  rw[List.getElem?_take,if_pos (by omega)] at this;simpa[hi] using this
def botd(k:Nat)(z:Rw)(ts:List Rw)(j:Nat):Rw:=Re.two (bin k) z (ts.drop j)
theorem botd_last(k:Nat)(z:Rw)(ts:List Rw)(j:Nat)(h:j+1=ts.length):botd k z ts j=ts[j]'(by omega):=by
 unfold botd;rw[List.drop_eq_getElem_cons (by omega),List.drop_of_length_le (by omega)];try rfl
theorem botd_step(k:Nat)(z:Rw)(ts:List Rw)(j:Nat)(h:j+1<ts.length):botd k z ts j=bin k (ts[j]'(by omega)) (botd k z ts (j+1)):=by
 unfold botd;rw[List.drop_eq_getElem_cons (by omega),List.drop_eq_getElem_cons h];try rfl
theorem two_c(k:Nat)(hk:k=2∨k=3)(z:Rw)(zn:Nat)(ts:List Rw)(qs:List Nat)(a:Option Addr)(c:Nat)(w:World)(hz:NodeAt w z zn)(hrow:RowAt w ts qs)
  (hp:PtrsAt w a qs) (hm:qs.length≤9223372036854775807):
  Calls Tryz.prog 328 #[.int .i64 k,ptr zn,.slice a qs.length c] w fun e w'=>∃q:Nat,e= .returned (ptr q)∧NodeAt w' (Re.two (bin k) z ts) q∧Kn w w':=by
 have hlen:=Qh hrow.len;have hp':=Qh hp;clear hp;go_enter Tryz.func328,Tryz.ntmps328;go_wp2_with fail
 go_loop [13] (fun i=>∃k:Nat,k≤qs.length∧i= .int .i64 k) (fun i=>qs.length-(intOf i).toNat)
 case atStart=>exact⟨0,Nat.zero_le _,rfl⟩
 case round=>
  obtain⟨i,hi,rfl⟩:=hrel;by_cases hlt:i<qs.length
  ·obtain⟨g,rfl,hc⟩:=hp'.out i hlt;go_wp2_with fail
   go_round
   case rel=>exact⟨i+1,by omega,by go_num⟩
   case measure=>simp[intOf];omega
  ·by_cases h0:qs.length=0
   ·have h0':((qs.length:Int)==0)=true:=by simp[h0]
    have hts:Hid (ts=[]):=Qh (List.eq_nil_of_length_eq_zero (by have:=hlen.out;omega));clear h0;go_wp2_with fail
    go_ret;refine⟨zn,rfl,?_,Qb _ _⟩;rw[hts.out];exact hz
   ·have h0':((qs.length:Int)==0)=false:=by simp[h0]
    have hn1:1≤qs.length:=by omega
    clear h0;obtain⟨g,rfl,hc⟩:=hp'.out (qs.length-1) (by omega);have hnl:=hrow.get (qs.length-1) (by have:=hlen.out;omega) (by omega);have hbl:=botd_last k z ts (qs.length-1) (by have:=hlen.out;omega);rw[←hbl] at hnl;clear hbl;have hb0:Hid (botd k z ts 0=Re.two (bin k) z ts):=Qh (by simp[botd]);go_wp2_with fail
    go_loopw [9,10] (fun o i wr=>∃(j q:Nat),j+1≤qs.length∧i= .int .i64 ((j:Int)-1)∧o=ptr q∧NodeAt wr (botd k z ts j) q∧Kn w wr) (fun _ i _=>(intOf i+1).toNat)
    case atStart=>exact⟨qs.length-1,_,by omega,by congr 1;omega,rfl,hnl,Qb _ _⟩
    case round=>
     obtain⟨j,q,hj,rfl,rfl,hq,hkn⟩:=hrel;by_cases hj0:j=0
     ·subst hj0;go_wp2_with fail
      go_ret;refine⟨q,rfl,?_,hkn⟩;rw[←hb0.out];exact hq
     ·obtain⟨j,rfl⟩:∃m,j=m+1:=⟨j-1,by omega⟩;obtain⟨g',hg,hcj⟩:=(hp'.out.kn hkn) j (by omega);injection hg with hg;injection hg with hg;subst hg;have hnj:=(hrow.get j (by have:=hlen.out;omega) (by omega)).kn hkn;have hst:=Qh (botd_step k z ts j (by have:=hlen.out;omega));have hnb:=new_bin hk hnj hq;rw[←hst.out] at hnb;have e1:((j+1:Nat):Int)-1=j:=by omega
      rw[e1];clear e1;go_wp2_with fail
      go_roundw
      case rel=>exact⟨j,wr.heap.size+1,by omega,rfl,rfl,hnb,(hkn.alloc _).alloc _⟩
      case measure=>simp[intOf]
abbrev optr:Option Nat→Value
 |none=> .pointer none
 |some n=>ptr n
def OptrsAt(w:World)(a:Option Addr)(qs:List (Option Nat)):Prop:=∀i,(hi:i<qs.length)→∃g:Nat,a=some ⟨g,0,none⟩∧w.cell? ⟨g,i,none⟩=some (optr qs[i])
theorem OptrsAt.kn{w w':World}{a:Option Addr}{qs:List (Option Nat)}(h:OptrsAt w a qs)(hk:Kn w w'):OptrsAt w' a qs:=fun i hi=>by
 obtain⟨g,h1,h2⟩:=h i hi;refine⟨g,h1,?_⟩;rw[World.cell?_of_block (w:=w) (hk.block g (World.block_lt_of_cell? w _ h2) (fun x=>x))];exact h2
theorem Cat_c(ts:List Rw)(qs:List Nat)(a:Option Addr)(c:Nat)(w:World)(hrow:RowAt w ts qs)(hp:PtrsAt w a qs)(hm:qs.length≤9223372036854775807):
  Calls Tryz.prog 327 #[.slice a qs.length c] w fun e w'=>∃q:Nat,e= .returned (ptr q)∧NodeAt w' (Re.two .cat .empty ts) q∧Kn w w':=by
 have hk:Kn w (w.alloc (Yf 1 W4.zero sl0)):=(Qb _ w).alloc _;have hz:NodeAt (w.alloc (Yf 1 W4.zero sl0)) .empty w.heap.size:=Qf w _;have hr:=hrow.kn hk;have hp1:=hp.kn hk;have H:=Qh hp1;clear hp hp1;go_enter Tryz.func327,Tryz.ntmps327;go_wp2_with fail
 refine(Empty_c w).mono ?_;rintro e w' ⟨rfl,rfl⟩;go_wp2_with fail
 refine(two_c 2 (.inl rfl) .empty _ ts qs a c _ hz hr H.out hm).mono ?_;rintro e w' ⟨q,rfl,h1,h2⟩;go_wp2_with fail
 go_ret;exact⟨q,rfl,h1,hk.trans h2⟩
theorem zero_at(w:World):NodeAt ((w.alloc (.cells #[.int .u64 W4.zero.a,.int .u64 W4.zero.b,.int .u64 W4.zero.c,.int .u64 W4.zero.d] 404)).alloc (Yf 0 W4.zero sl0)) Rw.none (w.heap.size+1):=by
 refine⟨by unfold W4.ok W4.zero;simp,?_⟩;have:=Qf (w.alloc (.cells #[.int .u64 W4.zero.a,.int .u64 W4.zero.b,.int .u64 W4.zero.c,.int .u64 W4.zero.d] 404)) (Yf 0 W4.zero sl0);simpa using this
theorem SetZero_c(w:World):
  Calls Tryz.prog 329 #[.agg #[.int .u64 0,.int .u64 0,.int .u64 0,.int .u64 0]] w fun e w'=>∃q:Nat,e= .returned (ptr q)∧NodeAt w' Rw.none q∧Kn w w':=
 (Set_c W4.zero w).mono fun _ _ ⟨he,hw⟩=>⟨_,he,by rw[hw];exact zero_at w,by rw[hw];exact((Qb _ w).alloc _).alloc _⟩
theorem Or_c(ts:List Rw)(qs:List Nat)(a:Option Addr)(c:Nat)(w:World)(hrow:RowAt w ts qs)(hp:PtrsAt w a qs)(hm:qs.length≤9223372036854775807):
  Calls Tryz.prog 303 #[.slice a qs.length c] w fun e w'=>∃q:Nat,e= .returned (ptr q)∧NodeAt w' (Re.two .or Rw.none ts) q∧Kn w w':=by
 have H:=Qh hp;clear hp;go_enter Tryz.func303,Tryz.ntmps303;go_wp2_with fail
 refine(SetZero_c _).mono ?_;rintro e w1 ⟨z,rfl,hz,hk⟩;go_wp2_with fail
 refine(two_c 3 (.inr rfl) Rw.none _ ts qs a c _ hz (hrow.kn hk) (H.out.kn hk) hm).mono ?_;rintro e w2 ⟨q,rfl,h1,h2⟩;go_wp2_with fail
 go_ret;exact⟨q,rfl,h1,hk.trans h2⟩
theorem nd_cells{w:World}{n:Nat}{k:Int}{s:W4}{sl:Value}(h:w.heap[n]? =some (Yf k s sl)):
  w.cell? ⟨n,0,none⟩=some (.int .i64 k)∧w.cell? ⟨n,1,none⟩=some (.int .u64 s.a)∧w.cell? ⟨n,2,none⟩=some (.int .u64 s.b)∧w.cell? ⟨n,3,none⟩=some (.int .u64 s.c)∧w.cell? ⟨n,4,none⟩=some (.int .u64 s.d)∧
  w.cell? ⟨n,5,none⟩=some sl:=⟨Qa h 0,Qa h 1,Qa h 2,Qa h 3,Qa h 4,Qa h 5⟩
theorem pair_cells{w:World}{r i j:Nat}(h:w.heap[r]? =some (Yu i j)):w.cell? ⟨r,0,none⟩=some (ptr i)∧w.cell? ⟨r,1,none⟩=some (ptr j):=⟨Qa h 0,Qa h 1⟩
theorem Nullable_c:∀(t:Rw) (n:Nat) (w:World),NodeAt w t n→
  Calls Tryz.prog 256 #[ptr n] w fun e w'=>e= .returned (.bool t.nullable)∧w=w':=by
 intro t;induction t with
 |set s=>
  intro n w h;go_enter Tryz.func256,Tryz.ntmps256;go_wp2_with fail
  refine(Kind_c _ n w h).mono ?_;rintro e w' ⟨rfl,rfl⟩;simp only[Re.kind];go_wp2_with fail
  go_ret;exact⟨rfl,rfl⟩
 |empty=>
  intro n w h;go_enter Tryz.func256,Tryz.ntmps256;go_wp2_with fail
  refine(Kind_c _ n w h).mono ?_;rintro e w' ⟨rfl,rfl⟩;simp only[Re.kind];go_wp2_with fail
  go_ret;exact⟨rfl,rfl⟩
 |star x ih=>
  intro n w h;clear ih;go_enter Tryz.func256,Tryz.ntmps256;go_wp2_with fail
  refine(Kind_c _ n w h).mono ?_;rintro e w' ⟨rfl,rfl⟩;simp only[Re.kind];go_wp2_with fail
  go_ret;exact⟨rfl,rfl⟩
 |cat x y ihx ihy=>
  intro n w h;have IX:=Qh ihx;have IY:=Qh ihy;clear ihx ihy;obtain⟨r,i,j,h1,h2,h3,h4⟩:=id h;obtain⟨c0,_,_,_,_,c5⟩:=nd_cells h1;obtain⟨d0,d1⟩:=pair_cells h2;clear h1 h2;have hE:Hid ((Re.cat x y).nullable=(x.nullable&&y.nullable)):=Qh rfl;go_enter Tryz.func256,Tryz.ntmps256;go_wp2_with fail
  refine(Kind_c _ n w h).mono ?_;rintro e w' ⟨rfl,rfl⟩;simp only[Re.kind];go_wp2_with fail
  refine(IX.out i w h3).mono ?_;rintro e w' ⟨rfl,rfl⟩;cases hx:x.nullable with
  |false=>
   have hx':=Qh hx;clear hx;go_wp2_with fail
   go_ret;exact⟨by rw[hE.out,hx'.out];try rfl,rfl⟩
  |true=>
   have hx':=Qh hx;clear hx;go_wp2_with fail
   refine(IY.out j w h4).mono ?_;rintro e w' ⟨rfl,rfl⟩;go_wp2_with fail
   go_ret;exact⟨by rw[hE.out,hx'.out];simp,rfl⟩
 |or x y ihx ihy=>
  intro n w h;have IX:=Qh ihx;have IY:=Qh ihy;clear ihx ihy;obtain⟨r,i,j,h1,h2,h3,h4⟩:=id h;obtain⟨c0,_,_,_,_,c5⟩:=nd_cells h1;obtain⟨d0,d1⟩:=pair_cells h2;clear h1 h2;have hE:Hid ((Re.or x y).nullable=(x.nullable||y.nullable)):=Qh rfl;go_enter Tryz.func256,Tryz.ntmps256;go_wp2_with fail
  refine(Kind_c _ n w h).mono ?_;rintro e w' ⟨rfl,rfl⟩;simp only[Re.kind];go_wp2_with fail
  refine(IX.out i w h3).mono ?_;rintro e w' ⟨rfl,rfl⟩;cases hx:x.nullable with
  |true=>
   have hx':=Qh hx;clear hx;go_wp2_with fail
   go_ret;exact⟨by rw[hE.out,hx'.out];try rfl,rfl⟩
  |false=>
   have hx':=Qh hx;clear hx;go_wp2_with fail
   refine(IY.out j w h4).mono ?_;rintro e w' ⟨rfl,rfl⟩;go_wp2_with fail
   go_ret;exact⟨by rw[hE.out,hx'.out];simp,rfl⟩
theorem NodeAt.drew{w:World}{t:Rw}{n:Nat}(h:NodeAt w t n):NodeAt w.drew t n:=h.drewN 1
theorem get_range{s:W4}(h:s.ok)(i:Nat):0≤s.get i∧s.get i<18446744073709551616:=by
 obtain⟨ha,hb,hc,hd⟩:=h;unfold W4.get;split
 ·exact ha
 ·split
  ·exact hb
  ·split
   ·exact hc
   ·exact hd
theorem bit_test{s:W4}(h:s.ok)(b:Nat):(bits .and .u64 (s.get (b/64)/2^(b%64)) 1==1)=s.bit b:=by
 obtain⟨h0,h1⟩:=get_range h (b/64);unfold W4.bit;generalize s.get (b/64)=x at*;obtain⟨n,rfl⟩:=Int.eq_ofNat_of_zero_le h0;have e:((n:Int)/2^(b%64))=((n/2^(b%64):Nat):Int):=by simp
 have hlt:n/2^(b%64)<18446744073709551616:=Nat.lt_of_le_of_lt (Nat.div_le_self _ _) (by omega);rw[e];generalize n/2^(b%64)=m at*;have:=u64_and_nat m 1 hlt (by omega);rw[show((1:Nat):Int)=1 from rfl] at this;rw[this,Nat.and_one_is_mod,Bool.eq_iff_iff];simp only[beq_iff_eq,decide_eq_true_eq];omega
theorem EmptyAt_c(w:World):
  Calls Tryz.prog 343 #[] w fun e w'=>∃q:Nat,e= .returned (ptr q)∧NodeAt w' .empty q∧Kn w w':=
 (Empty_c w).mono fun _ _ ⟨he,hw⟩=>⟨_,he,by rw[hw];exact Qf w _,by rw[hw];exact(Qb _ w).alloc _⟩
end Go.Proofs.YtiehgcfckhepaaaGreatDoor
namespace Go.Proofs
open Go.Shelf
def Tryz.lays169_ren:Go.Shelf.Ren:=⟨fun|169=>127|n=>n,fun|70=>241|9=>9|0=>0|72=>244|37=>242|127=>318|3=>3|5=>5|n=>n,fun|n=>n⟩
theorem Tryz.lays169:Go.Proofs.Lays.n169 Tryz.prog Tryz.lays169_ren:= {
  mixed:=by kernel_rfl
  f169:=Tryz.func127.trans (congrArg some (by kernel_rfl))
  t0:=Tryz.underlying0
  a0:=Tryz.isAgg0
  z0:=Tryz.sizeOf0
  v0:=Tryz.zeroValue0
  t3:=Tryz.underlying3
  a3:=Tryz.isAgg3
  z3:=Tryz.sizeOf3
  v3:=Tryz.zeroValue3
  t9:=Tryz.underlying9
  a9:=Tryz.isAgg9
  z9:=Tryz.sizeOf9
  v9:=Tryz.zeroValue9
  t37:=Tryz.underlying242
  a37:=Tryz.isAgg242
  z37:=Tryz.sizeOf242
  v37:=Tryz.zeroValue242
  t70:=Tryz.underlying241
  a70:=Tryz.isAgg241
  z70:=Tryz.sizeOf241
  v70:=Tryz.zeroValue241
  t72:=Tryz.underlying244
  a72:=Tryz.isAgg244
  z72:=Tryz.sizeOf244
  v72:=Tryz.zeroValue244
  t127:=Tryz.underlying318
  a127:=Tryz.isAgg318
  z127:=Tryz.sizeOf318
  v127:=Tryz.zeroValue318}
theorem Tryz.Builder_Extra_169:Builder.Extra Tryz.prog Tryz.lays169_ren:= {
  sizeBuilder:=by kernel_rfl
  liesBuilder:=by kernel_rfl
  t5:=Tryz.underlying5
  a5:=Tryz.isAgg5
  z5:=Tryz.sizeOf5
  v5:=Tryz.zeroValue5
  infoByte:=by kernel_rfl
  cellsByte:=by kernel_rfl
  sizeByte:=by kernel_rfl
  neB5:=by decide}
def Tryz.lays125_ren:Go.Shelf.Ren:=⟨fun|125=>119|128=>174|129=>175|n=>n,fun|46=>235|3=>3|51=>314|53=>147|4=>4|5=>5|9=>9|n=>n,fun|n=>n⟩
theorem Tryz.lays125:Go.Proofs.Lays.n125 Tryz.prog Tryz.lays125_ren:= {
  mixed:=by kernel_rfl
  f125:=Tryz.func119.trans (congrArg some (by kernel_rfl))
  f128:=Tryz.func174.trans (congrArg some (by kernel_rfl))
  f129:=Tryz.func175.trans (congrArg some (by kernel_rfl))
  t3:=Tryz.underlying3
  a3:=Tryz.isAgg3
  z3:=Tryz.sizeOf3
  v3:=Tryz.zeroValue3
  t4:=Tryz.underlying4
  a4:=Tryz.isAgg4
  z4:=Tryz.sizeOf4
  v4:=Tryz.zeroValue4
  t5:=Tryz.underlying5
  a5:=Tryz.isAgg5
  z5:=Tryz.sizeOf5
  v5:=Tryz.zeroValue5
  t9:=Tryz.underlying9
  a9:=Tryz.isAgg9
  z9:=Tryz.sizeOf9
  v9:=Tryz.zeroValue9
  t46:=Tryz.underlying235
  a46:=Tryz.isAgg235
  z46:=Tryz.sizeOf235
  v46:=Tryz.zeroValue235
  t51:=Tryz.underlying314
  a51:=Tryz.isAgg314
  z51:=Tryz.sizeOf314
  v51:=Tryz.zeroValue314
  t53:=Tryz.underlying147
  a53:=Tryz.isAgg147
  z53:=Tryz.sizeOf147
  v53:=Tryz.zeroValue147}
theorem Tryz.bits_Len(x:Int)(w:World)(h0:0≤x)(h1:x≤18446744073709551615):
    Calls Tryz.prog 119 #[.int .u64 x] w fun e w'=>e= .returned (.int .i64 (Lib.bitLen x.toNat))∧w'=w:=Any.bits_Len Tryz.lays125 x w h0 h1
def Tryz.lays137_ren:Go.Shelf.Ren:=⟨fun|137=>138|217=>194|266=>241|n=>n,fun|9=>9|5=>5|3=>3|n=>n,fun|n=>n⟩
theorem Tryz.lays137:Go.Proofs.Lays.n137 Tryz.prog Tryz.lays137_ren:= {
  mixed:=by kernel_rfl
  f137:=Tryz.func138.trans (congrArg some (by kernel_rfl))
  f217:=Tryz.func194.trans (congrArg some (by kernel_rfl))
  f266:=Tryz.func241.trans (congrArg some (by kernel_rfl))
  t3:=Tryz.underlying3
  a3:=Tryz.isAgg3
  z3:=Tryz.sizeOf3
  v3:=Tryz.zeroValue3
  t5:=Tryz.underlying5
  a5:=Tryz.isAgg5
  z5:=Tryz.sizeOf5
  v5:=Tryz.zeroValue5
  t9:=Tryz.underlying9
  a9:=Tryz.isAgg9
  z9:=Tryz.sizeOf9
  v9:=Tryz.zeroValue9}
open Go.RowKit in
theorem Tryz.strings_IndexByte(s:ByteArray)(c:Int)(w:World):
    Calls Tryz.prog 138 #[.string s,.int .u8 c] w fun e w'=>e= .returned (.int .i64 (Lib.indexByte s.data.toList c.toNat.toUInt8))∧w'=w:=Any.strings_IndexByte Tryz.lays137 s c w
def Tryz.lays103_ren:Go.Shelf.Ren:=⟨fun|103=>209|210=>251|206=>249|n=>n,fun|9=>9|4=>4|24=>217|3=>3|n=>n,fun|n=>n⟩
theorem Tryz.lays103:Go.Proofs.Lays.n103 Tryz.prog Tryz.lays103_ren:= {
  mixed:=by kernel_rfl
  f103:=Tryz.func209.trans (congrArg some (by kernel_rfl))
  f206:=Tryz.func249.trans (congrArg some (by kernel_rfl))
  f210:=Tryz.func251.trans (congrArg some (by kernel_rfl))
  t3:=Tryz.underlying3
  a3:=Tryz.isAgg3
  z3:=Tryz.sizeOf3
  v3:=Tryz.zeroValue3
  t4:=Tryz.underlying4
  a4:=Tryz.isAgg4
  z4:=Tryz.sizeOf4
  v4:=Tryz.zeroValue4
  t9:=Tryz.underlying9
  a9:=Tryz.isAgg9
  z9:=Tryz.sizeOf9
  v9:=Tryz.zeroValue9
  t24:=Tryz.underlying217
  a24:=Tryz.isAgg217
  z24:=Tryz.sizeOf217
  v24:=Tryz.zeroValue217}
open Go.RowKit in
theorem Tryz.strings_CutPrefix(s p:ByteArray)(w:World):
    Calls Tryz.prog 209 #[.string s,.string p] w fun e w'=>e= .returned (.tuple #[.string ⟨(Lib.trimPrefix s.data.toList p.data.toList).toArray⟩,.bool (Lib.hasPrefix s.data.toList p.data.toList)])∧w'=w:=Any.strings_CutPrefix Tryz.lays103 s p w
def Tryz.lays122_ren:Go.Shelf.Ren:=⟨fun|122=>75|215=>120|n=>n,fun|3=>3|4=>4|n=>n,fun|n=>n⟩
theorem Tryz.lays122:Go.Proofs.Lays.n122 Tryz.prog Tryz.lays122_ren:= {
  mixed:=by kernel_rfl
  f122:=Tryz.func75.trans (congrArg some (by kernel_rfl))
  f215:=Tryz.func120.trans (congrArg some (by kernel_rfl))
  t3:=Tryz.underlying3
  a3:=Tryz.isAgg3
  z3:=Tryz.sizeOf3
  v3:=Tryz.zeroValue3
  t4:=Tryz.underlying4
  a4:=Tryz.isAgg4
  z4:=Tryz.sizeOf4
  v4:=Tryz.zeroValue4}
open Go.RowKit in
theorem Tryz.cmp_Compare_int(x y:Int)(w:World):
    Calls Tryz.prog 75 #[.int .i64 x,.int .i64 y] w fun e w'=>e= .returned (.int .i64 (Lib.compareInt x y))∧w'=w:=Any.cmp_Compare_int Tryz.lays122 x y w
open Go.RowKit in
theorem Tryz.Builder_String_any_k(B b:Nat)(l:List UInt8)(w:World)(h:Lib.IsBuilderF 244 5 B b (Lib.byteCells l) w)(hBw:B≤w.heap.size):
    Calls Tryz.prog 127 #[.pointer (some ⟨b,0,none⟩)] w fun e w'=>e= .returned (.string ⟨l.toArray⟩)∧(Lib.IsBuilderF 244 5 B b (Lib.byteCells l) w'∧Below B w w'∧Lib.OthersKept 5 (some b) w w'):=Any.Builder_String_any_k Tryz.lays169 Tryz.Builder_Extra_169 B b l w h hBw
def Tryz.lays283_ren:Go.Shelf.Ren:=⟨fun|283=>237|n=>n,fun|3=>3|9=>9|4=>4|n=>n,fun|n=>n⟩
theorem Tryz.lays283:Go.Proofs.Lays.n283 Tryz.prog Tryz.lays283_ren:= {
  mixed:=by kernel_rfl
  f283:=Tryz.func237.trans (congrArg some (by kernel_rfl))
  t3:=Tryz.underlying3
  a3:=Tryz.isAgg3
  z3:=Tryz.sizeOf3
  v3:=Tryz.zeroValue3
  t4:=Tryz.underlying4
  a4:=Tryz.isAgg4
  z4:=Tryz.sizeOf4
  v4:=Tryz.zeroValue4
  t9:=Tryz.underlying9
  a9:=Tryz.isAgg9
  z9:=Tryz.sizeOf9
  v9:=Tryz.zeroValue9}
open Go.Lib in
theorem Tryz.internal_strconv_small(i:Nat)(h:i<100)(w:World):
    Calls Tryz.prog 237 #[.int .i64 i] w fun e w'=>e= .returned (.string ⟨(Lib.decDigits i).toArray⟩)∧w'=w:=Any.internal_strconv_small Tryz.lays283 i h w
def Tryz.lays145_ren:Go.Shelf.Ren:=⟨fun|145=>62|220=>105|219=>148|217=>194|225=>201|224=>202|267=>203|266=>241|314=>246|n=>n,fun|9=>9|4=>4|59=>135|3=>3|5=>5|46=>235|146=>389|51=>314|n=>n,fun|1=>0|n=>n⟩
theorem Tryz.lays145:Go.Proofs.Lays.n145 Tryz.prog Tryz.lays145_ren:= {
  mixed:=by kernel_rfl
  f145:=Tryz.func62.trans (congrArg some (by kernel_rfl))
  f217:=Tryz.func194.trans (congrArg some (by kernel_rfl))
  f219:=Tryz.func148.trans (congrArg some (by kernel_rfl))
  f220:=Tryz.func105.trans (congrArg some (by kernel_rfl))
  f224:=Tryz.func202.trans (congrArg some (by kernel_rfl))
  f225:=Tryz.func201.trans (congrArg some (by kernel_rfl))
  f266:=Tryz.func241.trans (congrArg some (by kernel_rfl))
  f267:=Tryz.func203.trans (congrArg some (by kernel_rfl))
  f314:=Tryz.func246.trans (congrArg some (by kernel_rfl))
  t3:=Tryz.underlying3
  a3:=Tryz.isAgg3
  z3:=Tryz.sizeOf3
  v3:=Tryz.zeroValue3
  t4:=Tryz.underlying4
  a4:=Tryz.isAgg4
  z4:=Tryz.sizeOf4
  v4:=Tryz.zeroValue4
  t5:=Tryz.underlying5
  a5:=Tryz.isAgg5
  z5:=Tryz.sizeOf5
  v5:=Tryz.zeroValue5
  t9:=Tryz.underlying9
  a9:=Tryz.isAgg9
  z9:=Tryz.sizeOf9
  v9:=Tryz.zeroValue9
  t46:=Tryz.underlying235
  a46:=Tryz.isAgg235
  z46:=Tryz.sizeOf235
  v46:=Tryz.zeroValue235
  t51:=Tryz.underlying314
  a51:=Tryz.isAgg314
  z51:=Tryz.sizeOf314
  v51:=Tryz.zeroValue314
  t59:=Tryz.underlying135
  a59:=Tryz.isAgg135
  z59:=Tryz.sizeOf135
  v59:=Tryz.zeroValue135
  t146:=Tryz.underlying389
  a146:=Tryz.isAgg389
  z146:=Tryz.sizeOf389
  v146:=Tryz.zeroValue389
  g1:=by kernel_rfl}
open Go.RowKit Go.Lib in
theorem Tryz.strings_Cut(s sep:ByteArray)(m:Int)(w:World)(hs:s.size<4294967281)(hm:w.cell? ⟨0,0,none⟩=some (.int .i64 m)):
    Calls Tryz.prog 62 #[.string s,.string sep] w fun e w'=>e= .returned (.tuple #[.string ⟨(Lib.cut s.data.toList sep.data.toList).1.toArray⟩,.string ⟨(Lib.cut s.data.toList sep.data.toList).2.1.toArray⟩,.bool (Lib.cut s.data.toList sep.data.toList).2.2])∧∃n,w'=w.drewN n:=Any.strings_Cut Tryz.lays145 s sep m w hs hm
def Tryz.lays189_ren:Go.Shelf.Ren:=⟨fun|189=>309|125=>119|257=>333|128=>174|129=>175|294=>347|295=>348|296=>349|297=>350|298=>351|299=>352|216=>353|300=>354|301=>355|328=>362|329=>225|330=>226|331=>363|332=>364|215=>120|343=>368|n=>n,fun|28=>28|3=>3|46=>235|0=>0|51=>314|53=>147|4=>4|183=>308|182=>307|131=>26|5=>5|9=>9|218=>368|222=>372|228=>418|229=>419|n=>n,fun|n=>n⟩
theorem Tryz.lays189:Go.Proofs.Lays.n189 Tryz.prog Tryz.lays189_ren:= {
  mixed:=by kernel_rfl
  f125:=Tryz.func119.trans (congrArg some (by kernel_rfl))
  f128:=Tryz.func174.trans (congrArg some (by kernel_rfl))
  f129:=Tryz.func175.trans (congrArg some (by kernel_rfl))
  f189:=Tryz.func309.trans (congrArg some (by kernel_rfl))
  f215:=Tryz.func120.trans (congrArg some (by kernel_rfl))
  f216:=Tryz.func353.trans (congrArg some (by kernel_rfl))
  f257:=Tryz.func333.trans (congrArg some (by kernel_rfl))
  f294:=Tryz.func347.trans (congrArg some (by kernel_rfl))
  f295:=Tryz.func348.trans (congrArg some (by kernel_rfl))
  f296:=Tryz.func349.trans (congrArg some (by kernel_rfl))
  f297:=Tryz.func350.trans (congrArg some (by kernel_rfl))
  f298:=Tryz.func351.trans (congrArg some (by kernel_rfl))
  f299:=Tryz.func352.trans (congrArg some (by kernel_rfl))
  f300:=Tryz.func354.trans (congrArg some (by kernel_rfl))
  f301:=Tryz.func355.trans (congrArg some (by kernel_rfl))
  f328:=Tryz.func362.trans (congrArg some (by kernel_rfl))
  f329:=Tryz.func225.trans (congrArg some (by kernel_rfl))
  f330:=Tryz.func226.trans (congrArg some (by kernel_rfl))
  f331:=Tryz.func363.trans (congrArg some (by kernel_rfl))
  f332:=Tryz.func364.trans (congrArg some (by kernel_rfl))
  f343:=Tryz.func368.trans (congrArg some (by kernel_rfl))
  t0:=Tryz.underlying0
  a0:=Tryz.isAgg0
  z0:=Tryz.sizeOf0
  v0:=Tryz.zeroValue0
  t3:=Tryz.underlying3
  a3:=Tryz.isAgg3
  z3:=Tryz.sizeOf3
  v3:=Tryz.zeroValue3
  t4:=Tryz.underlying4
  a4:=Tryz.isAgg4
  z4:=Tryz.sizeOf4
  v4:=Tryz.zeroValue4
  t5:=Tryz.underlying5
  a5:=Tryz.isAgg5
  z5:=Tryz.sizeOf5
  v5:=Tryz.zeroValue5
  t9:=Tryz.underlying9
  a9:=Tryz.isAgg9
  z9:=Tryz.sizeOf9
  v9:=Tryz.zeroValue9
  t28:=Tryz.underlying28
  a28:=Tryz.isAgg28
  z28:=Tryz.sizeOf28
  v28:=Tryz.zeroValue28
  t46:=Tryz.underlying235
  a46:=Tryz.isAgg235
  z46:=Tryz.sizeOf235
  v46:=Tryz.zeroValue235
  t51:=Tryz.underlying314
  a51:=Tryz.isAgg314
  z51:=Tryz.sizeOf314
  v51:=Tryz.zeroValue314
  t53:=Tryz.underlying147
  a53:=Tryz.isAgg147
  z53:=Tryz.sizeOf147
  v53:=Tryz.zeroValue147
  t131:=Tryz.underlying26
  a131:=Tryz.isAgg26
  z131:=Tryz.sizeOf26
  v131:=Tryz.zeroValue26
  t182:=Tryz.underlying307
  a182:=Tryz.isAgg307
  z182:=Tryz.sizeOf307
  v182:=Tryz.zeroValue307
  t183:=Tryz.underlying308
  a183:=Tryz.isAgg308
  z183:=Tryz.sizeOf308
  v183:=Tryz.zeroValue308
  t218:=Tryz.underlying368
  a218:=Tryz.isAgg368
  z218:=Tryz.sizeOf368
  v218:=Tryz.zeroValue368
  t222:=Tryz.underlying372
  a222:=Tryz.isAgg372
  z222:=Tryz.sizeOf372
  v222:=Tryz.zeroValue372
  t228:=Tryz.underlying418
  a228:=Tryz.isAgg418
  z228:=Tryz.sizeOf418
  v228:=Tryz.zeroValue418
  t229:=Tryz.underlying419
  a229:=Tryz.isAgg419
  z229:=Tryz.sizeOf419
  v229:=Tryz.zeroValue419}
open Go.Sort Go.RowKit in
theorem Tryz.slices_Sort_int(blk off cap:Nat)(zs:List Int)(w:World)(hH:Holds (Value.int .i64) w blk off zs.toArray)(hblk:blk<w.heap.size)(hsz:zs.length<4611686018427387904):
    Calls Tryz.prog 309 #[.slice (some ⟨blk,off,none⟩) zs.length cap] w fun e w'=>
      e= .returned (.tuple #[])∧∃n os,w'=grow (putRow (Value.int .i64) (Sort.ahead w n) blk off (zs.mergeSort fun x y=>decide (x≤y)).toArray) os:=Any.slices_Sort_int Tryz.lays189 blk off cap zs w hH hblk hsz
def Tryz.lays99_ren:Go.Shelf.Ren:=⟨fun|99=>207|206=>249|n=>n,fun|9=>9|4=>4|3=>3|n=>n,fun|n=>n⟩
theorem Tryz.lays99:Go.Proofs.Lays.n99 Tryz.prog Tryz.lays99_ren:= {
  mixed:=by kernel_rfl
  f99:=Tryz.func207.trans (congrArg some (by kernel_rfl))
  f206:=Tryz.func249.trans (congrArg some (by kernel_rfl))
  t3:=Tryz.underlying3
  a3:=Tryz.isAgg3
  z3:=Tryz.sizeOf3
  v3:=Tryz.zeroValue3
  t4:=Tryz.underlying4
  a4:=Tryz.isAgg4
  z4:=Tryz.sizeOf4
  v4:=Tryz.zeroValue4
  t9:=Tryz.underlying9
  a9:=Tryz.isAgg9
  z9:=Tryz.sizeOf9
  v9:=Tryz.zeroValue9}
open Go.RowKit Go.Lib in
theorem Tryz.strings_HasPrefix(s p:ByteArray)(w:World):
    Calls Tryz.prog 207 #[.string s,.string p] w fun e w'=>e= .returned (.bool (Lib.hasPrefix s.data.toList p.data.toList))∧w'=w:=Any.strings_HasPrefix Tryz.lays99 s p w
def Tryz.lays146_ren:Go.Shelf.Ren:=⟨fun|146=>106|221=>149|268=>204|138=>205|143=>206|195=>247|197=>198|218=>248|219=>148|260=>243|217=>194|225=>201|224=>202|267=>203|266=>241|314=>246|n=>n,fun|9=>9|31=>128|3=>3|4=>4|0=>0|105=>333|21=>21|5=>5|46=>235|119=>439|139=>442|138=>441|146=>389|51=>314|n=>n,fun|1=>0|3=>2|4=>3|n=>n⟩
theorem Tryz.lays146:Go.Proofs.Lays.n146 Tryz.prog Tryz.lays146_ren:= {
  mixed:=by kernel_rfl
  f138:=Tryz.func205.trans (congrArg some (by kernel_rfl))
  f143:=Tryz.func206.trans (congrArg some (by kernel_rfl))
  f146:=Tryz.func106.trans (congrArg some (by kernel_rfl))
  f195:=Tryz.func247.trans (congrArg some (by kernel_rfl))
  f197:=Tryz.func198.trans (congrArg some (by kernel_rfl))
  f217:=Tryz.func194.trans (congrArg some (by kernel_rfl))
  f218:=Tryz.func248.trans (congrArg some (by kernel_rfl))
  f219:=Tryz.func148.trans (congrArg some (by kernel_rfl))
  f221:=Tryz.func149.trans (congrArg some (by kernel_rfl))
  f224:=Tryz.func202.trans (congrArg some (by kernel_rfl))
  f225:=Tryz.func201.trans (congrArg some (by kernel_rfl))
  f260:=Tryz.func243.trans (congrArg some (by kernel_rfl))
  f266:=Tryz.func241.trans (congrArg some (by kernel_rfl))
  f267:=Tryz.func203.trans (congrArg some (by kernel_rfl))
  f268:=Tryz.func204.trans (congrArg some (by kernel_rfl))
  f314:=Tryz.func246.trans (congrArg some (by kernel_rfl))
  t0:=Tryz.underlying0
  a0:=Tryz.isAgg0
  z0:=Tryz.sizeOf0
  v0:=Tryz.zeroValue0
  t3:=Tryz.underlying3
  a3:=Tryz.isAgg3
  z3:=Tryz.sizeOf3
  v3:=Tryz.zeroValue3
  t4:=Tryz.underlying4
  a4:=Tryz.isAgg4
  z4:=Tryz.sizeOf4
  v4:=Tryz.zeroValue4
  t5:=Tryz.underlying5
  a5:=Tryz.isAgg5
  z5:=Tryz.sizeOf5
  v5:=Tryz.zeroValue5
  t9:=Tryz.underlying9
  a9:=Tryz.isAgg9
  z9:=Tryz.sizeOf9
  v9:=Tryz.zeroValue9
  t21:=Tryz.underlying21
  a21:=Tryz.isAgg21
  z21:=Tryz.sizeOf21
  v21:=Tryz.zeroValue21
  t31:=Tryz.underlying128
  a31:=Tryz.isAgg128
  z31:=Tryz.sizeOf128
  v31:=Tryz.zeroValue128
  t46:=Tryz.underlying235
  a46:=Tryz.isAgg235
  z46:=Tryz.sizeOf235
  v46:=Tryz.zeroValue235
  t51:=Tryz.underlying314
  a51:=Tryz.isAgg314
  z51:=Tryz.sizeOf314
  v51:=Tryz.zeroValue314
  t105:=Tryz.underlying333
  a105:=Tryz.isAgg333
  z105:=Tryz.sizeOf333
  v105:=Tryz.zeroValue333
  t119:=Tryz.underlying439
  a119:=Tryz.isAgg439
  z119:=Tryz.sizeOf439
  t138:=Tryz.underlying441
  a138:=Tryz.isAgg441
  z138:=Tryz.sizeOf441
  v138:=Tryz.zeroValue441
  t139:=Tryz.underlying442
  a139:=Tryz.isAgg442
  z139:=Tryz.sizeOf442
  v139:=Tryz.zeroValue442
  t146:=Tryz.underlying389
  a146:=Tryz.isAgg389
  z146:=Tryz.sizeOf389
  v146:=Tryz.zeroValue389
  g1:=by kernel_rfl
  g3:=by kernel_rfl
  g4:=by kernel_rfl}
open Go.RowKit Go.Lib in
theorem Tryz.strings_Split(s sep:ByteArray)(m:Int)(w:World)(hs:s.size<4294967281)(hm:w.cell? ⟨0,0,none⟩=some (.int .i64 m))(h1:1≤sep.size):
    Calls Tryz.prog 106 #[.string s,.string sep] w fun e w'=>
      e= .returned (.slice (some ⟨w.heap.size,0,none⟩) (Lib.countB s sep+1) (Lib.countB s sep+1))∧w'=w.alloc (.cells ((Lib.splitB sep 0 (Lib.countB s sep) s).map Value.string).toArray 9):=Any.strings_Split Tryz.lays146 (by kernel_rfl) s sep m w hs hm h1
def Tryz.lays107_ren:Go.Shelf.Ren:=⟨fun|107=>336|108=>356|n=>n,fun|28=>28|3=>3|4=>4|0=>0|n=>n,fun|n=>n⟩
theorem Tryz.lays107:Go.Proofs.Lays.n107 Tryz.prog Tryz.lays107_ren:= {
  mixed:=by kernel_rfl
  f107:=Tryz.func336.trans (congrArg some (by kernel_rfl))
  f108:=Tryz.func356.trans (congrArg some (by kernel_rfl))
  t0:=Tryz.underlying0
  a0:=Tryz.isAgg0
  z0:=Tryz.sizeOf0
  v0:=Tryz.zeroValue0
  t3:=Tryz.underlying3
  a3:=Tryz.isAgg3
  z3:=Tryz.sizeOf3
  v3:=Tryz.zeroValue3
  t4:=Tryz.underlying4
  a4:=Tryz.isAgg4
  z4:=Tryz.sizeOf4
  v4:=Tryz.zeroValue4
  t28:=Tryz.underlying28
  a28:=Tryz.isAgg28
  z28:=Tryz.sizeOf28
  v28:=Tryz.zeroValue28}
open Go.Lib in
theorem Tryz.slices_Contains_int(b off n c:Nat)(zs:List Int)(x:Int)(w:World)(hz:n≤zs.length)(hbig:n≤9223372036854775807)(hc:∀j,j<zs.length→w.cell? ⟨b,off+j,none⟩=some (.int .i64 (zs.getD j 0))):
    Calls Tryz.prog 336 #[.slice (some ⟨b,off,none⟩) n c,.int .i64 x] w fun e w'=>e= .returned (.bool ((zs.take n).contains x))∧w'=w:=Any.slices_Contains_int Tryz.lays107 b off n c zs x w hz hbig hc
open Go.Lib in
theorem Tryz.slices_Contains_int_empty(a:Option Addr)(c:Nat)(x:Int)(w:World):
    Calls Tryz.prog 336 #[.slice a 0 c,.int .i64 x] w fun e w'=>e= .returned (.bool false)∧w'=w:=Any.slices_Contains_int_empty Tryz.lays107 a c x w
def Tryz.lays109_ren:Go.Shelf.Ren:=⟨fun|109=>159|n=>n,fun|31=>128|9=>9|3=>3|0=>0|4=>4|n=>n,fun|n=>n⟩
theorem Tryz.lays109:Go.Proofs.Lays.n109 Tryz.prog Tryz.lays109_ren:= {
  mixed:=by kernel_rfl
  f109:=Tryz.func159.trans (congrArg some (by kernel_rfl))
  t0:=Tryz.underlying0
  a0:=Tryz.isAgg0
  z0:=Tryz.sizeOf0
  v0:=Tryz.zeroValue0
  t3:=Tryz.underlying3
  a3:=Tryz.isAgg3
  z3:=Tryz.sizeOf3
  v3:=Tryz.zeroValue3
  t4:=Tryz.underlying4
  a4:=Tryz.isAgg4
  z4:=Tryz.sizeOf4
  v4:=Tryz.zeroValue4
  t9:=Tryz.underlying9
  a9:=Tryz.isAgg9
  z9:=Tryz.sizeOf9
  v9:=Tryz.zeroValue9
  t31:=Tryz.underlying128
  a31:=Tryz.isAgg128
  z31:=Tryz.sizeOf128
  v31:=Tryz.zeroValue128}
open Go.Lib in
theorem Tryz.slices_Index_string(b off n c:Nat)(zs:List ByteArray)(x:ByteArray)(w:World)(hz:n≤zs.length)(hbig:n≤9223372036854775807)(hc:∀j,j<zs.length→w.cell? ⟨b,off+j,none⟩=some (.string (zs.getD j ByteArray.empty))):
    Calls Tryz.prog 159 #[.slice (some ⟨b,off,none⟩) n c,.string x] w fun e w'=>e= .returned (.int .i64 (Lib.idxOfS (zs.take n) x))∧w'=w:=Any.slices_Index_string Tryz.lays109 b off n c zs x w hz hbig hc
open Go.Lib in
theorem Tryz.slices_Index_string_empty(a:Option Addr)(c:Nat)(x:ByteArray)(w:World):
    Calls Tryz.prog 159 #[.slice a 0 c,.string x] w fun e w'=>e= .returned (.int .i64 (Lib.idxOfS [] x))∧w'=w:=Any.slices_Index_string_empty Tryz.lays109 a c x w
def Tryz.lays110_ren:Go.Shelf.Ren:=⟨fun|110=>250|109=>159|n=>n,fun|31=>128|9=>9|4=>4|3=>3|0=>0|n=>n,fun|n=>n⟩
theorem Tryz.lays110:Go.Proofs.Lays.n110 Tryz.prog Tryz.lays110_ren:= {
  mixed:=by kernel_rfl
  f109:=Tryz.func159.trans (congrArg some (by kernel_rfl))
  f110:=Tryz.func250.trans (congrArg some (by kernel_rfl))
  t0:=Tryz.underlying0
  a0:=Tryz.isAgg0
  z0:=Tryz.sizeOf0
  v0:=Tryz.zeroValue0
  t3:=Tryz.underlying3
  a3:=Tryz.isAgg3
  z3:=Tryz.sizeOf3
  v3:=Tryz.zeroValue3
  t4:=Tryz.underlying4
  a4:=Tryz.isAgg4
  z4:=Tryz.sizeOf4
  v4:=Tryz.zeroValue4
  t9:=Tryz.underlying9
  a9:=Tryz.isAgg9
  z9:=Tryz.sizeOf9
  v9:=Tryz.zeroValue9
  t31:=Tryz.underlying128
  a31:=Tryz.isAgg128
  z31:=Tryz.sizeOf128
  v31:=Tryz.zeroValue128}
open Go.Lib in
theorem Tryz.slices_Contains_string(b off n c:Nat)(zs:List ByteArray)(x:ByteArray)(w:World)(hz:n≤zs.length)(hbig:n≤9223372036854775807)(hc:∀j,j<zs.length→w.cell? ⟨b,off+j,none⟩=some (.string (zs.getD j ByteArray.empty))):
    Calls Tryz.prog 250 #[.slice (some ⟨b,off,none⟩) n c,.string x] w fun e w'=>e= .returned (.bool (Lib.containsS (zs.take n) x))∧w'=w:=Any.slices_Contains_string Tryz.lays110 b off n c zs x w hz hbig hc
open Go.Lib in
theorem Tryz.slices_Contains_string_empty(a:Option Addr)(c:Nat)(x:ByteArray)(w:World):
    Calls Tryz.prog 250 #[.slice a 0 c,.string x] w fun e w'=>e= .returned (.bool false)∧w'=w:=Any.slices_Contains_string_empty Tryz.lays110 a c x w
def Tryz.laysNm215_ren:Go.Shelf.Ren:=⟨fun|15=>70|n=>n,fun|22=>28|3=>3|4=>4|n=>n,fun|n=>n⟩
theorem Tryz.laysNm215:Go.Proofs.Lays2.n15 Tryz.prog Tryz.laysNm215_ren:= {
  mixed:=by kernel_rfl
  f15:=Tryz.func70.trans (congrArg some (by kernel_rfl))
  t3:=Tryz.underlying3
  a3:=Tryz.isAgg3
  z3:=Tryz.sizeOf3
  v3:=Tryz.zeroValue3
  t4:=Tryz.underlying4
  a4:=Tryz.isAgg4
  z4:=Tryz.sizeOf4
  v4:=Tryz.zeroValue4
  t22:=Tryz.underlying28
  a22:=Tryz.isAgg28
  z22:=Tryz.sizeOf28
  v22:=Tryz.zeroValue28
  i3:=by kernel_rfl}
open Go.RowKit Go.Lib in
theorem Tryz.slices_Clone_int(b off n c:Nat)(zs:List Int)(w:World)(hz:n≤zs.length)(hbig:n*8≤140737488355328)(hc:∀j,j<zs.length→w.cell? ⟨b,off+j,none⟩=some (.int .i64 (zs.getD j 0))):
    Calls Tryz.prog 70 #[.slice (some ⟨b,off,none⟩) n c] w fun e w'=>∃v',e= .returned v'∧w'.ownsRow w.heap.size 3 1 v' n ((zs.take n).map (Value.int .i64))∧v'≠.slice none 0 0∧Below w.heap.size w w':=Any.slices_Clone_int Tryz.laysNm215 b off n c zs w hz hbig hc
open Go.RowKit Go.Lib in
theorem Tryz.slices_Clone_int_nil(n c:Nat)(w:World):
    Calls Tryz.prog 70 #[.slice none n c] w fun e w'=>e= .returned (.slice none 0 0)∧w'=w:=Any.slices_Clone_int_nil Tryz.laysNm215 n c w
open Go.RowKit Go.Lib in
theorem Tryz.slices_Clone_int_zero(a:Addr)(c:Nat)(w:World):
    Calls Tryz.prog 70 #[.slice (some a) 0 c] w fun e w'=>∃v',e= .returned v'∧w'.ownsRow w.heap.size 3 1 v' 0 []∧v'≠.slice none 0 0∧Below w.heap.size w w':=Any.slices_Clone_int_zero Tryz.laysNm215 a c w
def Tryz.laysNm220_ren:Go.Shelf.Ren:=⟨fun|20=>310|n=>n,fun|22=>28|3=>3|4=>4|0=>0|n=>n,fun|n=>n⟩
theorem Tryz.laysNm220:Go.Proofs.Lays2.n20 Tryz.prog Tryz.laysNm220_ren:= {
  mixed:=by kernel_rfl
  f20:=Tryz.func310.trans (congrArg some (by kernel_rfl))
  t0:=Tryz.underlying0
  a0:=Tryz.isAgg0
  z0:=Tryz.sizeOf0
  v0:=Tryz.zeroValue0
  t3:=Tryz.underlying3
  a3:=Tryz.isAgg3
  z3:=Tryz.sizeOf3
  v3:=Tryz.zeroValue3
  t4:=Tryz.underlying4
  a4:=Tryz.isAgg4
  z4:=Tryz.sizeOf4
  v4:=Tryz.zeroValue4
  t22:=Tryz.underlying28
  a22:=Tryz.isAgg28
  z22:=Tryz.sizeOf28
  v22:=Tryz.zeroValue28
  i3:=by kernel_rfl}
open Go.RowKit Go.Lib Go.Sort in
theorem Tryz.slices_Compact_int(blk off cap:Nat)(zs:List Int)(w:World)(hH:Holds (Value.int .i64) w blk off zs.toArray)(hsz:zs.length≤9223372036854775807)(hcap:zs.length≤cap):
    Calls Tryz.prog 310 #[.slice (some ⟨blk,off,none⟩) zs.length cap] w fun e w'=>e= .returned (.slice (some ⟨blk,off,none⟩) (Lib.compact zs).length cap)∧∃q,w'=putRow (Value.int .i64) (Sort.ahead w q) blk off (Lib.compact zs++List.replicate (zs.length-(Lib.compact zs).length) 0).toArray:=Any.slices_Compact_int Tryz.laysNm220 blk off cap zs w hH hsz hcap
open Go.RowKit Go.Lib Go.Sort in
theorem Tryz.slices_Compact_int_empty(a:Option Addr)(cap:Nat)(w:World):
    Calls Tryz.prog 310 #[.slice a 0 cap] w fun e w'=>e= .returned (.slice a 0 cap)∧w'=w:=Any.slices_Compact_int_empty Tryz.laysNm220 a cap w
open Go.RowKit Go.Sort in
theorem Tryz.slices_Sort_int_none(p:Option Addr)(cap:Nat)(w:World):
    Calls Tryz.prog 309 #[.slice p 0 cap] w fun e w'=>e= .returned (.tuple #[])∧w'=w:=Any.slices_Sort_int_none Tryz.lays189 p cap w
end Go.Proofs
namespace Go.Proofs.YtiehgcfckhepaaaGreatDoor
open Go.RowKit
def bt(s:ByteArray)(k:Nat):Nat:=if h:k<s.size then s[k].toNat else 0
theorem bt_in{s:ByteArray}{k:Nat}(h:k<s.size):bt s k=s[k].toNat:=by simp[bt,h]
theorem bt_out{s:ByteArray}{k:Nat}(h:¬k<s.size):bt s k=0:=by simp[bt,h]
theorem bt_lt(s:ByteArray)(k:Nat):bt s k<256:=by
 unfold bt;split
 ·exact s[k].toNat_lt
 ·omega
structure PS where
 at_:Nat
 bad:Bool
 long:Bool
 deep:Int
namespace PS
def next(st:PS):PS:= {st with at_:=st.at_+1}
def fail(st:PS):PS:= {st with bad:=true}
def stop(st:PS):PS:= {st with bad:=true,long:=true}
def back(st:PS)(k:Nat):PS:= {st with at_:=k,bad:=true}
end PS
def isB(s:ByteArray)(b:Nat)(st:PS):Bool:=decide (st.at_<s.size)&&decide (bt s st.at_=b)
def isS(s:ByteArray)(b:Nat)(st:PS):PS:=if isB s b st then st.next else st
def hexD(c:Nat):Nat:=if 48≤c∧c≤57 then c-48 else if 97≤c∧c≤102 then c-87 else 16
def hexs:ByteArray:=⟨#[48,49,50,51,52,53,54,55,56,57,97,98,99,100,101,102]⟩
theorem hex_index(c:Nat)(h:c<256):Lib.indexByte hexs.data.toList ((c:Int).toNat.toUInt8)=if hexD c<16 then(hexD c:Int) else-1:=by
 have key:∀c:Fin 256,Lib.indexByte hexs.data.toList (c.val.toUInt8)=if hexD c.val<16 then(hexD c.val:Int) else-1:=by decide+kernel
 simpa using key ⟨c,h⟩
def inS(sp:ByteArray)(c:Nat):Bool:=decide (0≤Lib.indexByte sp.data.toList ((c:Int).toNat.toUInt8))
def digitOk(s:ByteArray)(st:PS):Bool:=decide (st.at_<s.size)&&decide (hexD (bt s st.at_)<16)
def digitV(s:ByteArray)(st:PS):Nat:=if digitOk s st then hexD (bt s st.at_) else 0
def digitS(s:ByteArray)(st:PS):PS:=if digitOk s st then st.next else st.fail
def hexS(s:ByteArray)(st:PS):PS:=digitS s st.next
def escV(s:ByteArray)(sp:ByteArray)(st:PS):Nat:=
 if st.at_<s.size then
  if bt s st.at_=110 then 10 else if bt s st.at_=116 then 9 else if bt s st.at_=115 then 32
  else if bt s st.at_=120 then(if(hexS s st).bad then 0 else 16*digitV s st.next+digitV s (hexS s st))
  else if inS sp (bt s st.at_) then bt s st.at_ else 0
 else 0
def escS(s:ByteArray)(sp:ByteArray)(st:PS):PS:=
 if st.at_<s.size then
  if bt s st.at_=110 then st.next else if bt s st.at_=116 then st.next else if bt s st.at_=115 then st.next
  else if bt s st.at_=120 then(if(hexS s st).bad then hexS s st else digitS s (hexS s st))
  else if inS sp (bt s st.at_) then st.next else st.fail
 else st.fail
def plainB(sp:ByteArray)(c:Nat):Bool:= !(decide (c≤32)||decide (127≤c)||inS sp c)
def QJ(s:ByteArray)(sp:ByteArray)(st:PS):Nat:=
 if st.at_<s.size then(if bt s st.at_=92 then escV s sp st.next else if plainB sp (bt s st.at_) then bt s st.at_ else 0) else 0
def Qp(s:ByteArray)(sp:ByteArray)(st:PS):PS:=
 if st.at_<s.size then(if bt s st.at_=92 then escS s sp st.next else if plainB sp (bt s st.at_) then st.next else st.fail) else st.fail
theorem digitV_lt(s:ByteArray)(st:PS):digitV s st<16:=by
 unfold digitV;split
 ·rename_i h;simp[digitOk] at h;exact h.2
 ·omega
theorem escV_lt(s sp:ByteArray)(st:PS):escV s sp st<256:=by
 have:=digitV_lt s st.next;have:=digitV_lt s (hexS s st);have:=bt_lt s st.at_;unfold escV;(repeat' split)<;>omega
theorem YU(s sp:ByteArray)(st:PS):QJ s sp st<256:=by
 have:=escV_lt s sp st.next;have:=bt_lt s st.at_;unfold QJ;(repeat' split)<;>omega
namespace W4
def put(s:W4)(i:Nat)(x:Int):W4:=if i=0 then {s with a:=x} else if i=1 then {s with b:=x} else if i=2 then {s with c:=x} else {s with d:=x}
def add(s:W4)(b:Nat):W4:=s.put (b/64) (bits .or .u64 (s.get (b/64)) (IntKind.u64.wrap (2^(b%64))))
def addTo(s:W4)(lo hi:Nat):W4:=(List.range' lo (hi+1-lo)).foldl W4.add s
def one(b:Nat):W4:=W4.zero.put (b/64) (IntKind.u64.wrap (2^(b%64)))
end W4
def Qe:ByteArray:=⟨#[93,94,45,92]⟩
def QF:ByteArray:=⟨#[124,42,43,63,40,41,91,93,46,92]⟩
def QV(s:ByteArray)(st:PS):Bool:= !(Qp s Qe st).bad&&isB s 45 (Qp s Qe st)
def QW(s:ByteArray)(st:PS):Nat:=if QV s st then QJ s Qe (isS s 45 (Qp s Qe st)) else QJ s Qe st
def Qz(s:ByteArray)(st:PS):PS:=
 let st1:=Qp s Qe st
 if QV s st then
  let st3:=Qp s Qe (isS s 45 st1)
  if !st3.bad&&decide (QW s st<QJ s Qe st) then st3.back (st1.at_+1) else st3
 else st1
def Yg(s:ByteArray)(st:PS)(ws:W4):W4:=if(Qz s st).bad then ws else ws.addTo (QJ s Qe st) (QW s st)
end Go.Proofs.YtiehgcfckhepaaaGreatDoor
namespace Go.Proofs.YtiehgcfckhepaaaGreatDoor
open Go.RowKit
abbrev psArr(s:ByteArray)(st:PS):Array Value:= #[.string s,.int .i64 st.at_,.bool st.bad,.bool st.long,.int .i64 st.deep]
def Pat(w:World)(p:Nat)(s:ByteArray)(st:PS):Prop:=w.heap[p]? =some (.cells (psArr s st) 399 (0,0))∧st.at_≤s.size∧s.size≤1099511627776
theorem Pat.cells{w:World}{p:Nat}{s:ByteArray}{st:PS}(h:Pat w p s st):
  w.cell? ⟨p,0,none⟩=some (.string s)∧w.cell? ⟨p,1,none⟩=some (.int .i64 st.at_)∧w.cell? ⟨p,2,none⟩=some (.bool st.bad)∧w.cell? ⟨p,3,none⟩=some (.bool st.long)∧w.cell? ⟨p,4,none⟩=some (.int .i64 st.deep)∧
  w.frozen? ⟨p,1,none⟩=false∧w.frozen? ⟨p,2,none⟩=false∧w.frozen? ⟨p,3,none⟩=false∧w.frozen? ⟨p,4,none⟩=false:=
 ⟨Qa h.1 0,Qa h.1 1,Qa h.1 2,Qa h.1 3,Qa h.1 4,Qd h.1 1,Qd h.1 2,Qd h.1 3,Qd h.1 4⟩
theorem Pat.kn{w w':World}{p:Nat}{s:ByteArray}{st:PS}(h:Pat w p s st)(hk:Kn w w'):Pat w' p s st:=⟨hk.blk h.1 (fun x=>x),h.2⟩
theorem Pat.drewN{w:World}{p:Nat}{s:ByteArray}{st:PS}(h:Pat w p s st)(n:Nat):Pat (w.drewN n) p s st:=h.kn ((Qb _ _).drewN n)
theorem Pat.lt{w:World}{p:Nat}{s:ByteArray}{st:PS}(h:Pat w p s st):p<w.heap.size:=Qj h.1
theorem Pat.at{w:World}{p:Nat}{s:ByteArray}{st:PS}(h:Pat w p s st)(k:Nat)(hk:k≤s.size):Pat (w.setCell ⟨p,1,none⟩ (.int .i64 k)) p s {st with at_:=k} :=
 ⟨by rw[Qk h.1];try rfl,hk,h.2.2⟩
theorem Pat.setBad{w:World}{p:Nat}{s:ByteArray}{st:PS}(h:Pat w p s st):Pat (w.setCell ⟨p,2,none⟩ (.bool true)) p s st.fail:=
 ⟨by rw[Qk h.1];try rfl,h.2⟩
theorem Pat.setLong{w:World}{p:Nat}{s:ByteArray}{st:PS}(h:Pat w p s st):Pat (w.setCell ⟨p,3,none⟩ (.bool true)) p s {st with long:=true} :=
 ⟨by rw[Qk h.1];try rfl,h.2⟩
theorem Pat.setDeep{w:World}{p:Nat}{s:ByteArray}{st:PS}(h:Pat w p s st)(d:Int):Pat (w.setCell ⟨p,4,none⟩ (.int .i64 d)) p s {st with deep:=d} :=
 ⟨by rw[Qk h.1];try rfl,h.2⟩
theorem K1.set{w:World}{p o:Nat}(v:Value):K1 p w (w.setCell ⟨p,o,none⟩ v):=(Qb (fun k=>k=p) w).setCell (p:=⟨p,o,none⟩) (fun _=>rfl) v
theorem K1.of{p:Nat}{w w':World}(h:Kn w w'):K1 p w w':=h.weak
theorem Pat.nodes{w w':World}{p:Nat}{s:ByteArray}{st:PS}(h:Pat w p s st)(hk:K1 p w w'):Kn61 w w':=Kn61.k1 hk h.1 (by decide) (by decide)
theorem YT(p:Nat)(s:ByteArray)(st:PS)(w:World)(h:Pat w p s st):
  Calls Tryz.prog 344 #[ptr p] w fun e w'=>∃q:Nat,e= .returned (ptr q)∧NodeAt w' .empty q∧Pat w' p s st.fail∧K1 p w w':=by
 obtain⟨c0,c1,c2,c3,c4,f1,f2,f3,f4⟩:=h.cells;have hp:=h.setBad;have hk:K1 p w (w.setCell ⟨p,2,none⟩ (.bool true)):=K1.set _;go_enter Tryz.func344,Tryz.ntmps344;go_wp2_with fail
 refine(EmptyAt_c _).mono ?_;rintro e w2 ⟨q,rfl,hq,hk2⟩;go_wp2_with fail
 go_ret;exact⟨q,rfl,hq,hp.kn hk2,hk.trans hk2.weak⟩
theorem QX(p:Nat)(s:ByteArray)(st:PS)(w:World)(h:Pat w p s st):
  Calls Tryz.prog 325 #[ptr p] w fun e w'=>e= .returned (.tuple #[.int .u8 (bt s st.at_),.bool (decide (st.at_<s.size))])∧∃n,w'=w.drewN n:=by
 obtain⟨c0,c1,c2,c3,c4,f1,f2,f3,f4⟩:=h.cells;have hb:=h.2.2;by_cases hlt:st.at_<s.size
 ·have hE:=Qh (bt_in hlt);have hD:=Qh (decide_eq_true hlt);have hlt':(st.at_:Int)<s.size:=by omega
  go_enter Tryz.func325,Tryz.ntmps325;go_wp2_with fail
  go_quiet (fail)
  go_wp2_with fail
  go_quiet (fail)
  go_wp2_with fail
  go_ret2
  exact⟨by rw[hE.out,hD.out];try rfl,_,World.drewN_drewN ..⟩
 ·have hE:=Qh (bt_out hlt);have hD:=Qh (decide_eq_false hlt);have hlt':(s.size:Int)≤st.at_:=by omega
  go_enter Tryz.func325,Tryz.ntmps325;go_wp2_with fail
  go_quiet (fail)
  go_wp2_with fail
  go_ret2
  exact⟨by rw[hE.out,hD.out];try rfl,_,rfl⟩
theorem YN(b p:Nat)(s:ByteArray)(st:PS)(w:World)(h:Pat w p s st):
  Calls Tryz.prog 302 #[ptr p,.int .u8 b] w fun e w'=>e= .returned (.bool (isB s b st))∧Pat w' p s (isS s b st)∧K1 p w w':=by
 have hb:=h.2.2;by_cases hlt:st.at_<s.size
 ·have hD:=decide_eq_true hlt;by_cases hq:bt s st.at_=b
  ·have hB:Hid (isB s b st=true):=Qh (by simp[isB,hlt,hq]);have hS:Hid (isS s b st=st.next):=Qh (by simp[isS,hB.out]);have hq':(((bt s st.at_:Nat):Int)!=b)=false:=by simp[hq]
   clear hq;go_enter Tryz.func302,Tryz.ntmps302;go_wp2_with fail
   refine(QX p s st w h).mono ?_;rintro e w' ⟨rfl,n,rfl⟩;have h1:=h.drewN n;obtain⟨c0,c1,c2,c3,c4,f1,f2,f3,f4⟩:=h1.cells;have hp:=h1.at (st.at_+1) (by omega);go_wp2_with fail
   go_ret;refine⟨by rw[hB.out];try rfl,?_,((Qb _ _).drewN n).trans (K1.set _)⟩;rw[hS.out];exact hp
  ·have hB:Hid (isB s b st=false):=Qh (by simp[isB,hlt,hq]);have hS:Hid (isS s b st=st):=Qh (by simp[isS,hB.out]);have hq':(((bt s st.at_:Nat):Int)!=b)=true:=by simp;omega
   clear hq;go_enter Tryz.func302,Tryz.ntmps302;go_wp2_with fail
   refine(QX p s st w h).mono ?_;rintro e w' ⟨rfl,n,rfl⟩;go_wp2_with fail
   go_ret;refine⟨by rw[hB.out];try rfl,?_,(Qb _ _).drewN n⟩;rw[hS.out];exact h.drewN n
 ·have hD:=decide_eq_false hlt;have hB:Hid (isB s b st=false):=Qh (by simp[isB,hlt]);have hS:Hid (isS s b st=st):=Qh (by simp[isS,hB.out]);go_enter Tryz.func302,Tryz.ntmps302;go_wp2_with fail
  refine(QX p s st w h).mono ?_;rintro e w' ⟨rfl,n,rfl⟩;go_wp2_with fail
  go_ret;refine⟨by rw[hB.out];try rfl,?_,(Qb _ _).drewN n⟩;rw[hS.out];exact h.drewN n
theorem digit_c(p:Nat)(s:ByteArray)(st:PS)(w:World)(h:Pat w p s st):
  Calls Tryz.prog 369 #[ptr p] w fun e w'=>e= .returned (.int .u8 (digitV s st))∧Pat w' p s (digitS s st)∧K1 p w w':=by
 have hb:=h.2.2;have hx:=Qh (hex_index (bt s st.at_) (bt_lt s st.at_));have hsi:∀(W:World),Calls Tryz.prog 138 #[.string hexs,.int .u8 (bt s st.at_)] W fun e w'=>e= .returned (.int .i64 (if hexD (bt s st.at_)<16 then(hexD (bt s st.at_):Int) else-1))∧W=w':=
  fun W=>(Tryz.strings_IndexByte hexs (bt s st.at_) W).mono fun e w' h=>⟨by rw[h.1,hx.out],h.2.symm⟩
 have HSI:=Qh hsi;clear hsi;by_cases hok:digitOk s st=true
 ·have hlt:st.at_<s.size:=by simp[digitOk] at hok;exact hok.1
  have hxd:hexD (bt s st.at_)<16:=by simp[digitOk] at hok;exact hok.2
  have hV:Hid (digitV s st=hexD (bt s st.at_)):=Qh (by simp[digitV,hok]);have hS:Hid (digitS s st=st.next):=Qh (by simp[digitS,hok]);have hD:=decide_eq_true hlt;clear hok;go_enter Tryz.func369,Tryz.ntmps369;go_wp2_with fail
  refine(QX p s st w h).mono ?_;rintro e w' ⟨rfl,n,rfl⟩;have h1:=h.drewN n;obtain⟨c0,c1,c2,c3,c4,f1,f2,f3,f4⟩:=h1.cells;have hp:=h1.at (st.at_+1) (by omega);go_wp2_with fail
  refine(HSI.out _).mono ?_;rw[if_pos hxd];rintro e w' ⟨rfl,rfl⟩;go_wp2_with fail
  go_ret;refine⟨by rw[hV.out];try rfl,?_,((Qb _ _).drewN n).trans (K1.set _)⟩;rw[hS.out];exact hp
 ·have hok':digitOk s st=false:=by simpa using hok
  have hV:Hid (digitV s st=0):=Qh (by simp[digitV,hok']);have hS:Hid (digitS s st=st.fail):=Qh (by simp[digitS,hok']);have hlx:Hid (¬(st.at_<s.size∧hexD (bt s st.at_)<16)):=Qh (by simpa[digitOk] using hok);clear hok hok';by_cases hlt:st.at_<s.size
  ·have hxd:¬hexD (bt s st.at_)<16:=fun x=>hlx.out ⟨hlt,x⟩
   have hD:=decide_eq_true hlt;go_enter Tryz.func369,Tryz.ntmps369;go_wp2_with fail
   refine(QX p s st w h).mono ?_;rintro e w' ⟨rfl,n,rfl⟩;have h1:=h.drewN n;go_wp2_with fail
   refine(HSI.out _).mono ?_;rw[if_neg hxd];rintro e w' ⟨rfl,rfl⟩;go_wp2_with fail
   refine(YT p s st _ h1).mono ?_;rintro e w2 ⟨q,rfl,hq,hp2,hk2⟩;go_wp2_with fail
   go_ret;refine⟨by rw[hV.out];try rfl,?_,((Qb _ _).drewN n).trans hk2⟩;rw[hS.out];exact hp2
  ·have hD:=decide_eq_false hlt;have hb0:=Qh (bt_out hlt);go_enter Tryz.func369,Tryz.ntmps369;go_wp2_with fail
   refine(QX p s st w h).mono ?_;rintro e w' ⟨rfl,n,rfl⟩;have h1:=h.drewN n;go_wp2_with fail
   refine(HSI.out _).mono ?_;rw[if_neg (show¬hexD (bt s st.at_)<16 by rw[hb0.out];decide)];rintro e w' ⟨rfl,rfl⟩;go_wp2_with fail
   refine(YT p s st _ h1).mono ?_;rintro e w2 ⟨q,rfl,hq,hp2,hk2⟩;go_wp2_with fail
   go_ret;refine⟨by rw[hV.out];try rfl,?_,((Qb _ _).drewN n).trans hk2⟩;rw[hS.out];exact hp2
theorem in_c(sp:ByteArray)(c:Nat)(w:World):
  Calls Tryz.prog 138 #[.string sp,.int .u8 c] w fun e w'=>∃i:Int,e= .returned (.int .i64 i)∧w=w'∧(inS sp c=decide (0≤i)):=
 (Tryz.strings_IndexByte sp c w).mono fun e w' h=>⟨_,h.1,h.2.symm,rfl⟩
theorem esc_c(p:Nat)(s sp:ByteArray)(st:PS)(w:World)(h:Pat w p s st):
  Calls Tryz.prog 366 #[ptr p,.string sp] w fun e w'=>e= .returned (.int .u8 (escV s sp st))∧Pat w' p s (escS s sp st)∧K1 p w w':=by
 have hb:=h.2.2;by_cases hlt:st.at_<s.size
 case neg=>
  have hV:Hid (escV s sp st=0):=Qh (by simp[escV,hlt]);have hS:Hid (escS s sp st=st.fail):=Qh (by simp[escS,hlt]);have hD:=decide_eq_false hlt;go_enter Tryz.func366,Tryz.ntmps366;go_wp2_with fail
  refine(QX p s st w h).mono ?_;rintro e w' ⟨rfl,n,rfl⟩;go_wp2_with fail
  refine(YT p s st _ (h.drewN n)).mono ?_;rintro e w2 ⟨q,rfl,hq,hp2,hk2⟩;go_wp2_with fail
  go_ret;refine⟨by rw[hV.out];try rfl,?_,((Qb _ _).drewN n).trans hk2⟩;rw[hS.out];exact hp2
 case pos=>
 have hD:=decide_eq_true hlt;have hfin:∀(n:Nat),Pat (w.drewN n) p s st:=fun n=>h.drewN n
 have HF:=Qh hfin;clear hfin;by_cases g1:bt s st.at_=110
 case pos=>
  have hV:Hid (escV s sp st=10):=Qh (by simp[escV,hlt,g1]);have hS:Hid (escS s sp st=st.next):=Qh (by simp[escS,hlt,g1]);have q1:(((bt s st.at_:Nat):Int)==110)=true:=by simp[g1]
  clear g1;go_enter Tryz.func366,Tryz.ntmps366;go_wp2_with fail
  refine(QX p s st w h).mono ?_;rintro e w' ⟨rfl,n,rfl⟩;obtain⟨c0,c1,c2,c3,c4,f1,f2,f3,f4⟩:=(HF.out n).cells;have hp:=(HF.out n).at (st.at_+1) (by omega);go_wp2_with fail
  go_ret;refine⟨by rw[hV.out];try rfl,?_,((Qb _ _).drewN n).trans (K1.set _)⟩;rw[hS.out];exact hp
 case neg=>
 have q1:(((bt s st.at_:Nat):Int)==110)=false:=by simp;omega
 by_cases g2:bt s st.at_=116
 case pos=>
  have hV:Hid (escV s sp st=9):=Qh (by simp[escV,hlt,g2]);have hS:Hid (escS s sp st=st.next):=Qh (by simp[escS,hlt,g2]);have q2:(((bt s st.at_:Nat):Int)==116)=true:=by simp[g2]
  clear g1 g2;go_enter Tryz.func366,Tryz.ntmps366;go_wp2_with fail
  refine(QX p s st w h).mono ?_;rintro e w' ⟨rfl,n,rfl⟩;obtain⟨c0,c1,c2,c3,c4,f1,f2,f3,f4⟩:=(HF.out n).cells;have hp:=(HF.out n).at (st.at_+1) (by omega);go_wp2_with fail
  go_ret;refine⟨by rw[hV.out];try rfl,?_,((Qb _ _).drewN n).trans (K1.set _)⟩;rw[hS.out];exact hp
 case neg=>
 have q2:(((bt s st.at_:Nat):Int)==116)=false:=by simp;omega
 by_cases g3:bt s st.at_=115
 case pos=>
  have hV:Hid (escV s sp st=32):=Qh (by simp[escV,hlt,g3]);have hS:Hid (escS s sp st=st.next):=Qh (by simp[escS,hlt,g3]);have q3:(((bt s st.at_:Nat):Int)==115)=true:=by simp[g3]
  clear g1 g2 g3;go_enter Tryz.func366,Tryz.ntmps366;go_wp2_with fail
  refine(QX p s st w h).mono ?_;rintro e w' ⟨rfl,n,rfl⟩;obtain⟨c0,c1,c2,c3,c4,f1,f2,f3,f4⟩:=(HF.out n).cells;have hp:=(HF.out n).at (st.at_+1) (by omega);go_wp2_with fail
  go_ret;refine⟨by rw[hV.out];try rfl,?_,((Qb _ _).drewN n).trans (K1.set _)⟩;rw[hS.out];exact hp
 case neg=>
 have q3:(((bt s st.at_:Nat):Int)==115)=false:=by simp;omega
 by_cases g4:bt s st.at_=120
 case pos=>
  have q4:(((bt s st.at_:Nat):Int)==120)=true:=by simp[g4]
  have hV:Hid (escV s sp st=if(hexS s st).bad then 0 else 16*digitV s st.next+digitV s (hexS s st)):=Qh (by simp[escV,hlt,g4]);have hS:Hid (escS s sp st=if(hexS s st).bad then hexS s st else digitS s (hexS s st)):=Qh (by simp[escS,hlt,g4]);have v1:=digitV_lt s st.next;have v2:=digitV_lt s (hexS s st);clear g1 g2 g3 g4;cases hbad:(hexS s st).bad with
  |true=>
   have hBd:=Qh hbad;go_enter Tryz.func366,Tryz.ntmps366;go_wp2_with fail
   refine(QX p s st w h).mono ?_;rintro e w' ⟨rfl,n,rfl⟩;obtain⟨c0,c1,c2,c3,c4,f1,f2,f3,f4⟩:=(HF.out n).cells;have hp:Pat _ p s st.next:=(HF.out n).at (st.at_+1) (by omega);go_wp2_with fail
   refine(digit_c p s st.next _ hp).mono ?_;rintro e w2 ⟨rfl,hp2,hk2⟩;have hp2':Pat w2 p s (hexS s st):=hp2;obtain⟨d0,d1,d2,d3,d4,e1,e2,e3,e4⟩:=hp2'.cells;go_wp2_with fail
   go_ret;refine⟨by rw[hV.out,hBd.out];try rfl,?_,(((Qb _ _).drewN n).trans (K1.set _)).trans hk2⟩;rw[hS.out,hBd.out];exact hp2'
  |false=>
   have hBd:=Qh hbad;go_enter Tryz.func366,Tryz.ntmps366;go_wp2_with fail
   refine(QX p s st w h).mono ?_;rintro e w' ⟨rfl,n,rfl⟩;obtain⟨c0,c1,c2,c3,c4,f1,f2,f3,f4⟩:=(HF.out n).cells;have hp:Pat _ p s st.next:=(HF.out n).at (st.at_+1) (by omega);go_wp2_with fail
   refine(digit_c p s st.next _ hp).mono ?_;rintro e w2 ⟨rfl,hp2,hk2⟩;have hp2':Pat w2 p s (hexS s st):=hp2;obtain⟨d0,d1,d2,d3,d4,e1,e2,e3,e4⟩:=hp2'.cells;go_wp2_with fail
   refine(digit_c p s (hexS s st) w2 hp2').mono ?_;rintro e w3 ⟨rfl,hp3,hk3⟩;go_wp2_with fail
   go_ret;refine⟨by rw[hV.out,hBd.out];simp,?_,((((Qb _ _).drewN n).trans (K1.set _)).trans hk2).trans hk3⟩;rw[hS.out,hBd.out];exact hp3
 case neg=>
 have q4:(((bt s st.at_:Nat):Int)==120)=false:=by simp;omega
 cases hin:inS sp (bt s st.at_) with
 |true=>
  have hV:Hid (escV s sp st=bt s st.at_):=Qh (by simp[escV,hlt,g1,g2,g3,g4,hin]);have hS:Hid (escS s sp st=st.next):=Qh (by simp[escS,hlt,g1,g2,g3,g4,hin]);have hI:=Qh hin;clear g1 g2 g3 g4 hin;go_enter Tryz.func366,Tryz.ntmps366;go_wp2_with fail
  refine(QX p s st w h).mono ?_;rintro e w' ⟨rfl,n,rfl⟩;obtain⟨c0,c1,c2,c3,c4,f1,f2,f3,f4⟩:=(HF.out n).cells;have hp:=(HF.out n).at (st.at_+1) (by omega);go_wp2_with fail
  refine(in_c sp (bt s st.at_) _).mono ?_;rintro e w' ⟨i,rfl,rfl,hi⟩;have hi0:0≤i:=by rw[hI.out] at hi;simpa using hi.symm
  clear hi;go_wp2_with fail
  go_ret;refine⟨by rw[hV.out];try rfl,?_,((Qb _ _).drewN n).trans (K1.set _)⟩;rw[hS.out];exact hp
 |false=>
  have hV:Hid (escV s sp st=0):=Qh (by simp[escV,hlt,g1,g2,g3,g4,hin]);have hS:Hid (escS s sp st=st.fail):=Qh (by simp[escS,hlt,g1,g2,g3,g4,hin]);have hI:=Qh hin;clear g1 g2 g3 g4 hin;go_enter Tryz.func366,Tryz.ntmps366;go_wp2_with fail
  refine(QX p s st w h).mono ?_;rintro e w' ⟨rfl,n,rfl⟩;go_wp2_with fail
  refine(in_c sp (bt s st.at_) _).mono ?_;rintro e w' ⟨i,rfl,rfl,hi⟩;have hi0:i<0:=by rw[hI.out] at hi;simpa using hi.symm
  clear hi;go_wp2_with fail
  refine(YT p s st _ (HF.out n)).mono ?_;rintro e w2 ⟨q,rfl,hq,hp2,hk2⟩;go_wp2_with fail
  go_ret;refine⟨by rw[hV.out];try rfl,?_,((Qb _ _).drewN n).trans hk2⟩;rw[hS.out];exact hp2
theorem YW(p:Nat)(s sp:ByteArray)(st:PS)(w:World)(h:Pat w p s st):
  Calls Tryz.prog 359 #[ptr p,.string sp] w fun e w'=>e= .returned (.int .u8 (QJ s sp st))∧Pat w' p s (Qp s sp st)∧K1 p w w':=by
 have hb:=h.2.2;by_cases hlt:st.at_<s.size
 case neg=>
  have hV:Hid (QJ s sp st=0):=Qh (by simp[QJ,hlt]);have hS:Hid (Qp s sp st=st.fail):=Qh (by simp[Qp,hlt]);have hD:=decide_eq_false hlt;go_enter Tryz.func359,Tryz.ntmps359;go_wp2_with fail
  refine(QX p s st w h).mono ?_;rintro e w' ⟨rfl,n,rfl⟩;go_wp2_with fail
  refine(YT p s st _ (h.drewN n)).mono ?_;rintro e w2 ⟨q,rfl,hq,hp2,hk2⟩;go_wp2_with fail
  go_ret;refine⟨by rw[hV.out];try rfl,?_,((Qb _ _).drewN n).trans hk2⟩;rw[hS.out];exact hp2
 case pos=>
 have hD:=decide_eq_true hlt;have hfin:∀(n:Nat),Pat (w.drewN n) p s st:=fun n=>h.drewN n
 have HF:=Qh hfin;clear hfin;by_cases g1:bt s st.at_=92
 case pos=>
  have hV:Hid (QJ s sp st=escV s sp st.next):=Qh (by simp[QJ,hlt,g1]);have hS:Hid (Qp s sp st=escS s sp st.next):=Qh (by simp[Qp,hlt,g1]);have q1:(((bt s st.at_:Nat):Int)==92)=true:=by simp[g1]
  clear g1;go_enter Tryz.func359,Tryz.ntmps359;go_wp2_with fail
  refine(QX p s st w h).mono ?_;rintro e w' ⟨rfl,n,rfl⟩;obtain⟨c0,c1,c2,c3,c4,f1,f2,f3,f4⟩:=(HF.out n).cells;have hp:Pat _ p s st.next:=(HF.out n).at (st.at_+1) (by omega);go_wp2_with fail
  refine(esc_c p s sp st.next _ hp).mono ?_;rintro e w2 ⟨rfl,hp2,hk2⟩;go_wp2_with fail
  go_ret;refine⟨by rw[hV.out];try rfl,?_,(((Qb _ _).drewN n).trans (K1.set _)).trans hk2⟩;rw[hS.out];exact hp2
 case neg=>
 have q1:(((bt s st.at_:Nat):Int)==92)=false:=by simp;omega
 cases hpl:plainB sp (bt s st.at_) with
 |true=>
  have hV:Hid (QJ s sp st=bt s st.at_):=Qh (by simp[QJ,hlt,g1,hpl]);have hS:Hid (Qp s sp st=st.next):=Qh (by simp[Qp,hlt,g1,hpl]);simp only[plainB,Bool.not_eq_true',Bool.or_eq_false_iff,decide_eq_false_iff_not] at hpl;obtain⟨⟨h32,h127⟩,hin⟩:=hpl;have hI:=Qh hin;clear g1 hin;go_enter Tryz.func359,Tryz.ntmps359;go_wp2_with fail
  refine(QX p s st w h).mono ?_;rintro e w' ⟨rfl,n,rfl⟩;obtain⟨c0,c1,c2,c3,c4,f1,f2,f3,f4⟩:=(HF.out n).cells;have hp:=(HF.out n).at (st.at_+1) (by omega);have h32':¬((bt s st.at_:Nat):Int)≤32:=by omega
  have h127':¬(127:Int)≤((bt s st.at_:Nat):Int):=by omega
  go_wp2_with fail
  refine(in_c sp (bt s st.at_) _).mono ?_;rintro e w' ⟨i,rfl,rfl,hi⟩;have hi0:i<0:=by rw[hI.out] at hi;simpa using hi.symm
  clear hi;go_wp2_with fail
  go_ret;refine⟨by rw[hV.out];try rfl,?_,((Qb _ _).drewN n).trans (K1.set _)⟩;rw[hS.out];exact hp
 |false=>
  have hV:Hid (QJ s sp st=0):=Qh (by simp[QJ,hlt,g1,hpl]);have hS:Hid (Qp s sp st=st.fail):=Qh (by simp[Qp,hlt,g1,hpl]);have hP:=Qh hpl;clear g1 hpl;by_cases h32:bt s st.at_≤32
  ·have h32':((bt s st.at_:Nat):Int)≤32:=by omega
   go_enter Tryz.func359,Tryz.ntmps359;go_wp2_with fail
   refine(QX p s st w h).mono ?_;rintro e w' ⟨rfl,n,rfl⟩;go_wp2_with fail
   refine(YT p s st _ (HF.out n)).mono ?_;rintro e w2 ⟨q,rfl,hq,hp2,hk2⟩;go_wp2_with fail
   go_ret;refine⟨by rw[hV.out];try rfl,?_,((Qb _ _).drewN n).trans hk2⟩;rw[hS.out];exact hp2
  ·have h32':¬((bt s st.at_:Nat):Int)≤32:=by omega
   by_cases h127:127≤bt s st.at_
   ·have h127':(127:Int)≤((bt s st.at_:Nat):Int):=by omega
    go_enter Tryz.func359,Tryz.ntmps359;go_wp2_with fail
    refine(QX p s st w h).mono ?_;rintro e w' ⟨rfl,n,rfl⟩;go_wp2_with fail
    refine(YT p s st _ (HF.out n)).mono ?_;rintro e w2 ⟨q,rfl,hq,hp2,hk2⟩;go_wp2_with fail
    go_ret;refine⟨by rw[hV.out];try rfl,?_,((Qb _ _).drewN n).trans hk2⟩;rw[hS.out];exact hp2
   ·have h127':¬(127:Int)≤((bt s st.at_:Nat):Int):=by omega
    have hI:Hid (inS sp (bt s st.at_)=true):=Qh (by
     have:=hP.out;simp only[plainB,Bool.not_eq_false',Bool.or_eq_true,decide_eq_true_eq] at this;rcases this with(h|h)|h
     ·exact(h32 h).elim
     ·exact(h127 h).elim
     ·exact h)
    go_enter Tryz.func359,Tryz.ntmps359;go_wp2_with fail
    refine(QX p s st w h).mono ?_;rintro e w' ⟨rfl,n,rfl⟩;go_wp2_with fail
    refine(in_c sp (bt s st.at_) _).mono ?_;rintro e w' ⟨i,rfl,rfl,hi⟩;have hi0:0≤i:=by rw[hI.out] at hi;simpa using hi.symm
    clear hi;go_wp2_with fail
    refine(YT p s st _ (HF.out n)).mono ?_;rintro e w2 ⟨q,rfl,hq,hp2,hk2⟩;go_wp2_with fail
    go_ret;refine⟨by rw[hV.out];try rfl,?_,((Qb _ _).drewN n).trans hk2⟩;rw[hS.out];exact hp2
end Go.Proofs.YtiehgcfckhepaaaGreatDoor
