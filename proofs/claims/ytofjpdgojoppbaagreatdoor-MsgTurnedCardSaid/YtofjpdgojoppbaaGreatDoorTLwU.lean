/-
  The law MsgTurned answers true, whatever comes in: the row and its tied card.
-/
import Derived.Test.YtofjpdgojoppbaaGreatDoorT15
import Derived.Test.YtofjpdgojoppbaaGreatDoorT42
set_option maxRecDepth 100000
set_option maxHeartbeats 16000000
set_option linter.unusedVariables false
set_option linter.unusedSimpArgs false
namespace Go.Proofs.YtofjpdgojoppbaaGreatDoor
open Go.RowKit Go.ChangeShapes Go.WideShapes Go.ChangeAt Go.Deep
theorem msgTurned_lifted (os:Os) (started:os.Started) (H:Type) (enc:TypeId×Value→H) :
  ReturnsInHanded {} Tryz.checked os 4 .any (fun w args=>(Rows.msgTurnedSpec.pre enc Tryz.prog Tryz.f4 Rows.msgTurnedRow.domain false w args∧laidMetH Tryz.prog Rows.msgTurnedRow.laid w)∧sizedMet enc Tryz.prog Tryz.f4 (OpenSpec.ofChange Rows.msgTurnedSpec) false w args) (Rows.msgTurnedSpec.post enc Tryz.prog Tryz.f4 false true false false):=by
 refine zdM (C:=Tryz.checked) (X:=fun w _=>laidMetH Tryz.prog Rows.msgTurnedRow.laid w) (fun _ _ _ hh h=>h.of_heap hh) own started (by kernel_rfl) Tryz.func4
  (ChangeSpec.witness_shaped (enc:=enc) (C:=Tryz.checked) (os:=os) (X:=fun w _=>laidMetH Tryz.prog Rows.msgTurnedRow.laid w) false (World.laidAll Tryz.prog os Rows.msgTurnedRow.laid) #[.agg msgZ.arr,.int .u16 0,.int .u8 0] 8 (World.laidAll_os _ _ _)
   (World.shaped_of_ZipB (by kernel_rfl) (by kernel_rfl)) (by kernel_rfl) (by kernel_rfl) (by kernel_rfl)
   (by rw[MakeChecks.laidMetH_plain _ _ _ (by kernel_rfl)];exact laidMet_laidAll _ (by kernel_rfl) (by kernel_rfl))) ?_
 intro W base args ds gs before hval0 hW hsh;have hval:∀ (j:Nat) t v,Tryz.f4.params[j]? = some t→args[j]? = some v→Value.okWide Tryz.prog W .any base t v:=hval0;have hW':=hW;obtain⟨p,q,hA0,hV,_,_,_⟩:=hW;have hA:DataW.TrodAll enc Tryz.prog W 0 (fun _=>true) true Tryz.f4.params.toList args.toList ds p:=hA0;obtain⟨rfl,rfl⟩:=trodVars_none hV;rw[Tryz.params4] at hA hval;obtain⟨v0,v1,v2,d0,d1,d2,p0,p1,p2,hargs,rfl,_,h0,h1,h2⟩:=trodAll_three hA;obtain rfl:args=#[v0,v1,v2]:=by cases args;simp_all
 obtain⟨t,rfl,k1,k2⟩:=znH Tryz.underlying36 (zkt W) (hval 0 36 v0 rfl rfl) h0;obtain⟨n,rfl,o1⟩:=open_int Tryz.underlying46 (hval 1 46 v1 rfl rfl) h1;obtain⟨b,rfl,o2⟩:=open_int Tryz.underlying5 (hval 2 5 v2 rfl rfl) h2;obtain⟨m,hm⟩:=zi7 hsh;refine(zj0 W t.1 t.2 m hm k1 k2 n b o1.2.2 o2.2.2).mono fun e W' ⟨he,hx⟩=>?_;exact⟨_,he,zn3 rfl rfl rfl zf5 laidOut (by kernel_rfl) hW' hx⟩
theorem msgTurned_row:Rows.MsgTurnedSaid:=
 OpenClaim.holds_of_wide 4 Tryz.f4 rfl rfl rfl rfl rfl rfl rfl ⟨rfl,rfl,rfl,rfl,rfl⟩ rfl rfl rfl rfl rfl (by kernel_rfl) Tryz.func4 (by kernel_rfl)
  (of_decide_eq_true (by kernel_rfl)) (by unfold Func.isWrapper;first | (rw[if_pos (by decide +kernel)];kernel_rfl) | (rw[if_neg (by decide +kernel)];exact⟨rfl,rfl⟩))
  (fun os started H enc _=>msgTurned_lifted os started H enc)
theorem msgTurned_holds:Rows.MsgTurnedCardSaid:=
 Claim7.holds_tied_plain_at .later [] [.data,.pinned] true Rows.msgTurnedCard.stood.harness false msgTurned_row (fun _ h=>by cases h) (by kernel_rfl) (fun _ h=>by cases h) msgTurned_row_tie rfl ⟨rfl,rfl⟩ (by kernel_rfl) rfl
  (fun f fn hf hfn=>by
   obtain rfl:f=4:=Option.some.inj ((show Tryz.prog.funcNamed Rows.msgTurnedRow.func=some 4 by kernel_rfl).symm.trans hf) |>.symm;obtain rfl:fn=Tryz.f4:=(Option.some.inj (Tryz.func4.symm.trans hfn)).symm;exact⟨by kernel_rfl,fun j t ht=>by
    rw[Tryz.params4] at ht;have hm:t∈[36,46,5]:=by simpa using Array.mem_of_getElem? ht
    have hall:([36,46,5].all fun u=>!Tryz.prog.wantsStandIn u)=true:=by kernel_rfl
    exact(show Tryz.prog.wantsStandIn t=false by simpa using List.all_eq_true.1 hall t hm)⟩)
  (by kernel_rfl)
#print axioms msgTurned_holds
end Go.Proofs.YtofjpdgojoppbaaGreatDoor
