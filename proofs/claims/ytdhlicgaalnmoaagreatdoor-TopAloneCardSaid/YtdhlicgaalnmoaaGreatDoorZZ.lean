/- TopAlone: the card: for every input the law returns true and each argument reads afterwards as it read before, where the laid tables hold what the program's text lays. No other condition. -/
import Derived.Test.YtdhlicgaalnmoaaGreatDoorZT
import Derived.Test.YtdhlicgaalnmoaaGreatDoorTie
import Derived.OpenShut
import Derived.Lay
import Derived.Deep.DeepHandedRow
import Derived.Deep.DeepWitnessRowRef
import Derived.Lib.LaidTab
import Derived.Stop.LaidErr
set_option linter.unusedSimpArgs false
set_option linter.unusedVariables false
namespace Go.Proofs.YtdhlicgaalnmoaaGreatDoor.lawTopAlone
open Lib (hid)
open Go.Proofs.Tryz
set_option maxHeartbeats 8000000
set_option maxRecDepth 100000
section
open Go.ChangeShapes Go.WideShapes Go.ChangeAt Go.RowKit
open Go.Proofs.YtdhlicgaalnmoaaGreatDoor.Tp (Pow)
theorem own:ownKnob prog.godebug=none:=by kernel_rfl
theorem laidOut:laidOutB prog=true:=by kernel_rfl
theorem gPow:prog.globalNamed "internal/strconv.uint64pow10" =some 6:=by kernel_rfl
theorem gPowT:(prog.globals[6]?).map (·.type)=some 436:=by kernel_rfl
theorem pow_of {W:World} (h:laidMetH prog Rows.topAloneRow.laid W):Pow W:=by
 have h2:laidMet prog Rows.topAloneRow.laid W:=h;have h3:=laidMet.tail (laidMet.tail h2);exact Lib.tabIs_of_head (rest:=_) gPow gPowT underlying436 underlying184 (by kernel_rfl) (by kernel_rfl) h3
theorem laid_met (os:Os):laidMet prog Rows.topAloneRow.laid ((World.laidAll prog os Rows.topAloneRow.laid).forCall (fun _ _=>0) ⟨#[],#[.slice none 0 0,.slice none 0 0,.slice none 0 0],[]⟩).memory :=
 laidMet_laidAll _ (by kernel_rfl) (by kernel_rfl)
theorem reads (os:Os) {H:Type} (enc:TypeId×Value→H):∃places,DataW.whole enc prog ((World.laidAll prog os Rows.topAloneRow.laid).forCall (fun _ _=>0) ⟨#[],#[.slice none 0 0,.slice none 0 0,.slice none 0 0],[]⟩).memory Tryz.f3.params.toList Rows.topAloneSpec.vars false #[Value.slice none 0 0,Value.slice none 0 0,Value.slice none 0 0].toList 8=some ([.nil,.nil,.nil],[],places) :=
 ⟨[],by kernel_rfl⟩
theorem contract (H:Type) (enc:TypeId×Value→H) (W:World) (base:Nat) (args:Array Value) (ds gs:List (DataW H)) (before:List MemPlace)
  (hval:∀(j:Nat) t v,Tryz.f3.params[j]? =some t→args[j]? =some v→Value.okWide prog W .any base t v)
  (hW:DataW.Whole enc prog Tryz.f3.params.toList Rows.topAloneSpec.vars false W args.toList ds gs before) (hL:laidMetH prog Rows.topAloneRow.laid W) :
  Calls prog 3 args W fun e W'=>∃v,e=.returned v∧Rows.topAloneSpec.post enc prog Tryz.f3 false true false false W args v W':=by
 have hW':=hW;obtain⟨p,q,hA0,hV,rfl,hfz,hnd⟩:=hW;have hA:DataW.TrodAll enc prog W 0 (fun _=>true) true Tryz.f3.params.toList args.toList ds p:=hA0;rw[params3] at hA hval;obtain⟨v0,vs0,d0,ds0,p0,q0,hargs,rfl,rfl,h0,r0⟩:=trodAll_cons hA;obtain⟨v1,vs1,d1,ds1,p1,q1,rfl,rfl,rfl,h1,r1⟩:=trodAll_cons r0;obtain⟨v2,vs2,d2,ds2,p2,q2,rfl,rfl,rfl,h2,r2⟩:=trodAll_cons r1;obtain⟨rfl,rfl,rfl⟩:=trodAll_nil r2;obtain rfl:args=#[v0,v1,v2]:=by cases args;simp_all
 obtain⟨rfl,rfl⟩:=trodVars_none hV;have k0:=h0;have lt0:∀x∈p0,x.block<W.heap.size:=by obtain⟨m,hm⟩:=k0;exact DataW.trod_lt m _ _ _ hm
 obtain⟨a0,len0,cap0,rfl⟩:=okWide_slice underlying22 (hval 0 22 v0 rfl rfl);obtain⟨z0,w0⟩:=Tp.open_steps h0;have k1:=h1;have lt1:∀x∈p1,x.block<W.heap.size:=by obtain⟨m,hm⟩:=k1;exact DataW.trod_lt m _ _ _ hm
 obtain⟨a1,len1,cap1,rfl⟩:=okWide_slice underlying23 (hval 1 23 v1 rfl rfl);obtain⟨z1,w1⟩:=aHs underlying23 underlying3 (by kernel_rfl) h1 lt1;have k2:=h2;have lt2:∀x∈p2,x.block<W.heap.size:=by obtain⟨m,hm⟩:=k2;exact DataW.trod_lt m _ _ _ hm
 obtain⟨a2,len2,cap2,rfl⟩:=okWide_slice underlying23 (hval 2 23 v2 rfl rfl);obtain⟨z2,w2⟩:=aHs underlying23 underlying3 (by kernel_rfl) h2 lt2;clear hA0;refine(Tp.topalone_any (Tp.awake_any Tp.play_any) _ a0 len0 cap0 z0 a1 len1 cap1 z1 a2 len2 cap2 z2 W w0 (fun b hb=>hb) (pow_of hL) w1 w2).mono fun e W' ⟨he,bel⟩=>?_
 subst he;exact⟨_,rfl,_,_,_,[],_,[],hW',trodAll_mk1 (shut_bool underlying4 _),(trodAll_cons_mk (Below.trod laidOut (by kernel_rfl) (of_decide_eq_true (by kernel_rfl)) k0 bel lt0) (trodAll_cons_mk (Below.trod laidOut (by kernel_rfl) (of_decide_eq_true (by kernel_rfl)) k1 bel lt1) (trodAll_cons_mk (Below.trod laidOut (by kernel_rfl) (of_decide_eq_true (by kernel_rfl)) k2 bel lt2) trodAll_mk0))),rfl,bel.frame _,fun h=>by cases h⟩
theorem lifted (os:Os) (started:os.Started) (H:Type) (enc:TypeId×Value→H) (F:Stop.Interp) :
  ReturnsInHanded {} Tryz.checked os 3 .any ((OpenSpec.ofChange Rows.topAloneSpec).preRow enc prog Tryz.f3 Rows.topAloneRow.domain false Rows.topAloneRow.laid) (((OpenSpec.ofChange Rows.topAloneSpec).at F).post enc prog Tryz.f3 false true false false):=by
 obtain⟨places,hx⟩:=reads os enc
 refine returnsInHanded_of_row (C:=Tryz.checked) (s:=OpenSpec.ofChange Rows.topAloneSpec) own started (by kernel_rfl) func3
  (witness_row_atRef (enc:=enc) (C:=Tryz.checked) false (World.laidAll prog os Rows.topAloneRow.laid) #[.slice none 0 0,.slice none 0 0,.slice none 0 0] (World.laidAll_os _ _ _) (by kernel_rfl) (by kernel_rfl) (by kernel_rfl)
   (OpenSpec.preRow_of_cond 8 hx (by kernel_rfl) (fun k hk=>by cases hk) (by kernel_rfl) (laid_met os))) ?_
 intro W base args ds gs before hval hW _ _ _ hL _ _;exact contract H enc W base args ds gs before hval hW hL
theorem said:Rows.TopAloneSaid :=
 OpenClaim.holds_of_cond 3 Tryz.f3 rfl rfl rfl rfl rfl rfl rfl ⟨rfl,rfl,rfl,rfl,rfl⟩ rfl rfl rfl rfl rfl (by as_aux_lemma=>kernel_rfl) func3 closed inst wrap
  (fun os started H enc _ F=>by rw[OpenClaim.pre_eq_preRow];exact lifted os started H enc F)
theorem plain (f:FuncId) (fn:Func) (hf:Tryz.pinned.checked.prog.funcNamed "scarp/scarptop.TopAlone" =some f) (hfn:Tryz.pinned.checked.prog.funcs[f]? =some fn) :
  true=Tryz.pinned.checked.prog.looks []∧∀(j:Nat) t,fn.params[j]? =some t→Tryz.pinned.checked.prog.wantsStandIn t=false:=by
 obtain rfl:f=3:=rT ((show prog.funcNamed "scarp/scarptop.TopAlone" =some 3 by kernel_rfl).symm.trans hf) |>.symm;obtain rfl:fn=Tryz.f3:=(rT (func3.symm.trans hfn)).symm;refine⟨by kernel_rfl,fun j t ht=>?_⟩;rw[params3] at ht;have h2:t=22∨t=23:=by simpa using Array.mem_of_getElem? ht
 rcases h2 with rfl|rfl
 · exact(show prog.wantsStandIn 22=false by kernel_rfl)
 · exact(show prog.wantsStandIn 23=false by kernel_rfl)
theorem goesBy_none {P:Program} (c:OpenClaim) (hs:c.start=.entering) (h:P.funcs.any Func.goes=false):false=c.goesBy P:=by
 have h2:P.goesFrom c.func=false:=by
  unfold Program.goesFrom
  cases P.funcNamed c.func with
  | none=>rfl
  | some f=>exact goes_none h f
 unfold OpenClaim.goesBy Program.goesAt
 rw[h2,hs];rfl
theorem goes:false=OpenClaim.goesBy Rows.topAloneRow Tryz.pinned.checked.prog:=goesBy_none Rows.topAloneRow rfl noGo
theorem proved:Rows.TopAloneCardSaid :=
 Claim7.holds_tied_plain_at .later [] _ _ _ _ said (fun _ h=>by cases h) byText (fun _ h=>by cases h) topAlone_row_tie rfl ⟨rfl,rfl⟩ mainIs rfl plain goes
#print axioms proved
end
end Go.Proofs.YtdhlicgaalnmoaaGreatDoor.lawTopAlone
