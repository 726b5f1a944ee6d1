/-
  The law MsgPuts answers true, whatever comes in: the row and its tied card.
-/
import Derived.Test.YtofjpdgojoppbaaGreatDoorP15
import Derived.Test.YtofjpdgojoppbaaGreatDoorP42
set_option maxRecDepth 100000
set_option maxHeartbeats 16000000
set_option linter.unusedVariables false
set_option linter.unusedSimpArgs false
namespace Go.Proofs.YtofjpdgojoppbaaGreatDoor
open Go.RowKit Go.ChangeShapes Go.WideShapes Go.ChangeAt Go.Deep
theorem msgPuts_lifted (os:Os) (started:os.Started) (H:Type) (enc:TypeId×Value→H) :
  ReturnsInHanded {} Tryz.checked os 6 .any (fun w args=>(Rows.msgPutsSpec.pre enc Tryz.prog Tryz.f6 Rows.msgPutsRow.domain false w args∧laidMetH Tryz.prog Rows.msgPutsRow.laid w)∧sizedMet enc Tryz.prog Tryz.f6 (OpenSpec.ofChange Rows.msgPutsSpec) false w args) (Rows.msgPutsSpec.post enc Tryz.prog Tryz.f6 false true false false):=by
 refine zdM (C:=Tryz.checked) (X:=fun w _=>laidMetH Tryz.prog Rows.msgPutsRow.laid w) (fun _ _ _ hh h=>h.of_heap hh) own started (by kernel_rfl) Tryz.func6
  (ChangeSpec.witness_shaped (enc:=enc) (C:=Tryz.checked) (os:=os) (X:=fun w _=>laidMetH Tryz.prog Rows.msgPutsRow.laid w) false (World.laidAll Tryz.prog os Rows.msgPutsRow.laid) #[.agg msgZ.arr] 8 (World.laidAll_os _ _ _)
   (World.shaped_of_ZipB (by kernel_rfl) (by kernel_rfl)) (by kernel_rfl) (by kernel_rfl) (by kernel_rfl)
   (by rw[MakeChecks.laidMetH_plain _ _ _ (by kernel_rfl)];exact laidMet_laidAll _ (by kernel_rfl) (by kernel_rfl))) ?_
 intro W base args ds gs before hval0 hW hsh;have hval:∀ (j:Nat) t v,Tryz.f6.params[j]? = some t→args[j]? = some v→Value.okWide Tryz.prog W .any base t v:=hval0;have hW':=hW;obtain⟨p,q,hA0,hV,_,_,_⟩:=hW;have hA:DataW.TrodAll enc Tryz.prog W 0 (fun _=>true) true Tryz.f6.params.toList args.toList ds p:=hA0;obtain⟨rfl,rfl⟩:=trodVars_none hV;rw[Tryz.params6] at hA hval;obtain⟨v0,d0,hargs,rfl,h0⟩:=trodAll_one hA;obtain rfl:args=#[v0]:=by cases args;simp_all
 obtain⟨t,rfl,k1,k2⟩:=znl Tryz.underlying36 (zkd W) (hval 0 36 v0 rfl rfl) h0;obtain⟨m,hm⟩:=ziW hsh;refine(zlI W t.1 t.2 m hm k1 k2).mono fun e W' ⟨he,hx⟩=>?_;exact⟨_,he,znH rfl rfl rfl zf1 laidOut (by kernel_rfl) hW' hx⟩
theorem msgPuts_row:Rows.MsgPutsSaid:=
 OpenClaim.holds_of_wide 6 Tryz.f6 rfl rfl rfl rfl rfl rfl rfl ⟨rfl,rfl,rfl,rfl,rfl⟩ rfl rfl rfl rfl rfl (by kernel_rfl) Tryz.func6 (by kernel_rfl)
  (of_decide_eq_true (by kernel_rfl)) (by unfold Func.isWrapper;first | (rw[if_pos (by decide +kernel)];kernel_rfl) | (rw[if_neg (by decide +kernel)];exact⟨rfl,rfl⟩))
  (fun os started H enc _=>msgPuts_lifted os started H enc)
theorem msgPuts_holds:Rows.MsgPutsCardSaid:=
 Claim7.holds_tied_plain_at .later [] [.data,.pinned] true Rows.msgPutsCard.stood.harness false msgPuts_row (fun _ h=>by cases h) (by kernel_rfl) (fun _ h=>by cases h) msgPuts_row_tie rfl ⟨rfl,rfl⟩ (by kernel_rfl) rfl
  (fun f fn hf hfn=>by
   obtain rfl:f=6:=Option.some.inj ((show Tryz.prog.funcNamed Rows.msgPutsRow.func=some 6 by kernel_rfl).symm.trans hf) |>.symm;obtain rfl:fn=Tryz.f6:=(Option.some.inj (Tryz.func6.symm.trans hfn)).symm;exact⟨by kernel_rfl,fun j t ht=>by
    rw[Tryz.params6] at ht;have hm:t∈[36]:=by simpa using Array.mem_of_getElem? ht
    have hall:([36].all fun u=>!Tryz.prog.wantsStandIn u)=true:=by kernel_rfl
    exact(show Tryz.prog.wantsStandIn t=false by simpa using List.all_eq_true.1 hall t hm)⟩)
  (by kernel_rfl)
#print axioms msgPuts_holds
end Go.Proofs.YtofjpdgojoppbaaGreatDoor
