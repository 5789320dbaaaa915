/-
  Texts of this claim, laid together: INoneLif. Conditions: none.
-/
import Derived.Test.YtiehgcfckhepaaaGreatDoorQAM
import Derived.Test.YtiehgcfckhepaaaGreatDoorRows
import Derived.ProofKit
import Derived.OpenShut
import Derived.ShutString
import Derived.ChangeOld
import Derived.Below
import Derived.HandedShaped
import Derived.LaidMore
import Derived.Lay
import Derived.Stop.Joined
set_option linter.unusedVariables false
set_option linter.unusedSimpArgs false
set_option maxRecDepth 100000
set_option maxHeartbeats 16000000
namespace Go.Proofs.YtiehgcfckhepaaaGreatDoor.itemsNone
open Go.ChangeShapes Go.WideShapes Go.ChangeAt Go.RowKit
open Go.ChangeMaps (open_string shut_string)
set_option linter.unusedVariables false
theorem own:ownKnob Tryz.prog.godebug=none:=by kernel_rfl
theorem maxLen_of{W:World}(h:W.ShapedOpen Tryz.prog):MaxLenAt W:=
 Go.Proofs.cell_of_shapedOpen_int (zero:= #[.int .i64 0]) (t:=3) h (of_decide_eq_true (by kernel_rfl)) (by kernel_rfl) rfl (by kernel_rfl) (by kernel_rfl) Tryz.underlying3
theorem over{H:Type}{enc:TypeId×Value→H}{a:Assume}{C:Checked}{os:Os}{f:FuncId}{fn:Func}{s:ChangeSpec}{conds:List PathCond}{apart fresh handsOn again:Bool}{X:World→Array Value→Prop}
  (hX:∀(w w':World) (args:Array Value),w.heap=w'.heap→X w args→X w' args)
  (own:ownKnob C.prog.godebug=none) (started:os.Started) (noInit:C.prog.inits.idxOf? f=none) (hfn:C.prog.funcs[f]? =some fn)
  (witness:∃(w:World) (tape:Tape) (i:Input),w.os=os∧(w.forCall tape i).Shaped C.prog∧i.vars=[]∧Input.okWide C.prog (w.forCall tape i) .any w.heap.size f i∧
   ((s.pre enc C.prog fn conds apart (w.forCall tape i).memory i.args∧X (w.forCall tape i).memory i.args)∧sizedMet enc C.prog fn (OpenSpec.ofChange s) apart (w.forCall tape i).memory i.args)∧a.holds C.prog (lone (Frame.enter C.prog f i.args .normal) [] (w.forCall tape i)))
  (contract:∀(W:World) (base:Nat) (args:Array Value) (ds gs:List (DataW H)) (before:List MemPlace),
   (∀(j:Nat) t v,fn.params[j]? =some t→args[j]? =some v→Value.okWide C.prog W .any base t v)→
   DataW.Whole enc C.prog fn.params.toList s.vars apart W args.toList ds gs before→W.ShapedOpen C.prog→
   Calls C.prog f args W fun e W'=>∃v,e= .returned v∧s.post enc C.prog fn apart fresh handsOn again W args v W'):
  ReturnsInHanded a C os f .any (fun w args=>(s.pre enc C.prog fn conds apart w args∧X w args)∧sizedMet enc C.prog fn (OpenSpec.ofChange s) apart w args) (s.post enc C.prog fn apart fresh handsOn again):=by
 refine returnsInHanded_of_calls own started noInit witness fun w tape i _ shape _ ok pre _=> ?_
 obtain⟨_,_,_,fn2,at2,_,_,_,_,vals⟩:=ok;obtain rfl:fn2=fn:=Option.some.inj (at2.symm.trans hfn);obtain⟨⟨⟨ds,gs,before,whole,_⟩,_⟩,_⟩:=pre;exact(contract (w.forCall tape i) w.heap.size i.args ds gs before vals (DataW.Whole.of_heap (by rfl) whole) shape).mono fun e W' ⟨v,he,hp⟩=>by subst he;exact ChangeSpec.post_blind hp
theorem lifted(os:Os)(started:os.Started)(H:Type)(enc:TypeId×Value→H):
  ReturnsInHanded {} Tryz.checked os 6 .any (fun w args=>(Rows.itemsNoneSpec.pre enc Tryz.prog Tryz.f6 Rows.itemsNoneRow.domain false w args∧laidMetH Tryz.prog Rows.itemsNoneRow.laid w)∧sizedMet enc Tryz.prog Tryz.f6 (OpenSpec.ofChange Rows.itemsNoneSpec) false w args) (Rows.itemsNoneSpec.post enc Tryz.prog Tryz.f6 false true false false):=by
 refine over (C:=Tryz.checked) (X:=fun w _=>laidMetH Tryz.prog Rows.itemsNoneRow.laid w) (fun _ _ _ hh h=>h.of_heap hh) own started (by kernel_rfl) Tryz.func6
  (ChangeSpec.witness_shaped (enc:=enc) (C:=Tryz.checked) (os:=os) (X:=fun w _=>laidMetH Tryz.prog Rows.itemsNoneRow.laid w) false (World.laidAll Tryz.prog os Rows.itemsNoneRow.laid) #[.slice none 0 0,.agg #[.bool false,.int .i64 0]] 8 (World.laidAll_os _ _ _)
   (World.shaped_of_ZipB (by kernel_rfl) (by kernel_rfl)) (by kernel_rfl) (by kernel_rfl) (by kernel_rfl)
   (by rw[MakeChecks.laidMetH_plain _ _ _ (by kernel_rfl)];exact laidMet_laidAll _ (by kernel_rfl) (by kernel_rfl))) ?_
 intro W base args ds gs before hval0 hW hsh;have hval:∀(j:Nat) t v,Tryz.f6.params[j]? =some t→args[j]? =some v→Value.okWide Tryz.prog W .any base t v:=hval0;have hW':=hW;obtain⟨p,q,hA0,hV,rfl,hfz,hnd⟩:=hW;have hA:DataW.TrodAll enc Tryz.prog W 0 (fun _=>true) true Tryz.f6.params.toList args.toList ds p:=hA0;rw[Tryz.params6] at hA hval;obtain⟨v0,vs0,d0,ds0,p0,q0,hargs,rfl,rfl,h0,r0⟩:=trodAll_cons hA;obtain⟨v1,vs1,d1,ds1,p1,q1,rfl,rfl,rfl,h1,r1⟩:=trodAll_cons r0;obtain⟨rfl,rfl,rfl⟩:=trodAll_nil r1;obtain rfl:args= #[v0,v1]:=by cases args;simp_all
 obtain⟨rfl,rfl⟩:=trodVars_none hV;obtain⟨a0,c0,l0,rfl,hl0,hw0,hm0,rd0⟩:=open_items (hval 0 62 v0 rfl rfl) h0;obtain⟨e10,e11,y10,y11,m1,rfl,rfl,rfl,hy10,hy11⟩:=Joins.open_agg2 Tryz.underlying64 (by kernel_rfl) (show Tryz.prog.cellsOf 64=2 by kernel_rfl) (hval 1 64 v1 rfl rfl) h1;obtain⟨b10,z10,rfl⟩:=DataW.trod_bool Tryz.underlying4 hy10;simp at z10;subst z10;obtain⟨b11,z11,rfl,wb11⟩:=DataW.trod_int Tryz.underlying3 hy11;simp at z11;subst z11;have sr1:∀(W':World) (sp:Nat→Bool),DataW.Trod enc Tryz.prog W' 0 sp true 64 (.agg #[.bool b10,.int .i64 b11]) (.agg [.lit (.bool b10),.lit (.int .i64 b11)]) []:=fun W' sp=>
  Joins.shut_agg2 (y0:=(.lit (.bool b10),[])) (y1:=(.lit (.int .i64 b11),[])) Tryz.underlying64 (by kernel_rfl) (show Tryz.prog.cellsOf 64=2 by kernel_rfl) ⟨1,by simp[DataW.trod,Tryz.underlying4]⟩ ⟨1,by simp[DataW.trod,Tryz.underlying3,wb11]⟩
 clear hA0 hval0;refine(inone_c hl0 hw0 b10 b11 W rfl (maxLen_of hsh)).mono fun e W' ⟨he,hkn⟩=> ?_
 subst he;have bel:=hkn.below;exact⟨_,rfl,_,_,_,[],_,[],hW',trodAll_mk1 (shut_bool Tryz.underlying4 _),(trodAll_cons_mk (rd0 _ hkn) (trodAll_cons_mk (sr1 _ _) trodAll_mk0)),rfl,bel.frame _,fun h=>by cases h⟩
end Go.Proofs.YtiehgcfckhepaaaGreatDoor.itemsNone
