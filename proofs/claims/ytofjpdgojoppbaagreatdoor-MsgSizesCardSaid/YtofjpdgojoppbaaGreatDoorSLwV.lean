/-
  The law MsgSizes answers true, whatever comes in: the row and its tied card.
-/
import Derived.Test.YtofjpdgojoppbaaGreatDoorS12
import Derived.Test.YtofjpdgojoppbaaGreatDoorS40
set_option maxRecDepth 100000
set_option maxHeartbeats 16000000
set_option linter.unusedVariables false
set_option linter.unusedSimpArgs false
namespace Go.Proofs.YtofjpdgojoppbaaGreatDoor
open Go.RowKit Go.ChangeShapes Go.WideShapes Go.ChangeAt Go.Deep
theorem msgSizes_lifted (os:Os) (started:os.Started) (H:Type) (enc:TypeId×Value→H) :
  ReturnsInHanded {} Tryz.checked os 5 .any (fun w args=>(Rows.msgSizesSpec.pre enc Tryz.prog Tryz.f5 Rows.msgSizesRow.domain false w args∧laidMetH Tryz.prog Rows.msgSizesRow.laid w)∧sizedMet enc Tryz.prog Tryz.f5 (OpenSpec.ofChange Rows.msgSizesSpec) false w args) (Rows.msgSizesSpec.post enc Tryz.prog Tryz.f5 false true false false):=by
 refine zcZ (C:=Tryz.checked) (X:=fun w _=>laidMetH Tryz.prog Rows.msgSizesRow.laid w) (fun _ _ _ hh h=>h.of_heap hh) own started (by kernel_rfl) Tryz.func5
  (ChangeSpec.witness_shaped (enc:=enc) (C:=Tryz.checked) (os:=os) (X:=fun w _=>laidMetH Tryz.prog Rows.msgSizesRow.laid w) false (World.laidAll Tryz.prog os Rows.msgSizesRow.laid) #[.agg #[.int .i64 0,.int .i64 0,.int .i64 0,.int .i64 0,.int .i64 0,.int .i64 0,.string ⟨#[]⟩,.string ⟨#[]⟩,.bool false,.int .i64 0,.int .i64 0,.int .i64 0,.int .i64 0,.int .i64 0,.string ⟨#[]⟩,.int .i64 0,.bool false,.int .i64 0,.int .i64 0,.int .i64 0,.int .i64 0],.agg msgZ.arr,.agg msgZ.arr] 8 (World.laidAll_os _ _ _)
   (World.shaped_of_ZipB (by kernel_rfl) (by kernel_rfl)) (by kernel_rfl) (by kernel_rfl) (by kernel_rfl)
   (by rw[MakeChecks.laidMetH_plain _ _ _ (by kernel_rfl)];exact laidMet_laidAll _ (by kernel_rfl) (by kernel_rfl))) ?_
 intro W base args ds gs before hval0 hW hsh;have hval:∀ (j:Nat) t v,Tryz.f5.params[j]? = some t→args[j]? = some v→Value.okWide Tryz.prog W .any base t v:=hval0;have hW':=hW;obtain⟨p,q,hA0,hV,_,_,_⟩:=hW;have hA:DataW.TrodAll enc Tryz.prog W 0 (fun _=>true) true Tryz.f5.params.toList args.toList ds p:=hA0;obtain⟨rfl,rfl⟩:=trodVars_none hV;rw[Tryz.params5] at hA hval;obtain⟨v0,v1,v2,d0,d1,d2,p0,p1,p2,hargs,rfl,_,h0,h1,h2⟩:=trodAll_three hA;obtain rfl:args=#[v0,v1,v2]:=by cases args;simp_all
 obtain⟨e,rfl,ke⟩:=zfj Tryz.underlying61 (zf4 W) (hval 0 61 v0 rfl rfl) h0;obtain⟨s,rfl,ka⟩:=zfj Tryz.underlying36 (zfi W) (hval 1 36 v1 rfl rfl) h1;obtain⟨t,rfl,kb⟩:=zfj Tryz.underlying36 (zfi W) (hval 2 36 v2 rfl rfl) h2;obtain⟨m,hm⟩:=zhG hsh;refine(ziz W e s.1 t.1 s.2 t.2 m hm ke ka.1 kb.1).mono fun e W' ⟨he,hx⟩=>?_;exact⟨_,he,zl3 rfl rfl rfl zeY laidOut (by kernel_rfl) hW' hx⟩
theorem msgSizes_row:Rows.MsgSizesSaid:=
 OpenClaim.holds_of_wide 5 Tryz.f5 rfl rfl rfl rfl rfl rfl rfl ⟨rfl,rfl,rfl,rfl,rfl⟩ rfl rfl rfl rfl rfl (by kernel_rfl) Tryz.func5 (by kernel_rfl)
  (of_decide_eq_true (by kernel_rfl)) (by unfold Func.isWrapper;first | (rw[if_pos (by decide +kernel)];kernel_rfl) | (rw[if_neg (by decide +kernel)];exact⟨rfl,rfl⟩))
  (fun os started H enc _=>msgSizes_lifted os started H enc)
theorem msgSizes_holds:Rows.MsgSizesCardSaid:=
 Claim7.holds_tied_plain_at .later [] [.data,.pinned] true Rows.msgSizesCard.stood.harness false msgSizes_row (fun _ h=>by cases h) (by kernel_rfl) (fun _ h=>by cases h) msgSizes_row_tie rfl ⟨rfl,rfl⟩ (by kernel_rfl) rfl
  (fun f fn hf hfn=>by
   obtain rfl:f=5:=Option.some.inj ((show Tryz.prog.funcNamed Rows.msgSizesRow.func=some 5 by kernel_rfl).symm.trans hf) |>.symm;obtain rfl:fn=Tryz.f5:=(Option.some.inj (Tryz.func5.symm.trans hfn)).symm;exact⟨by kernel_rfl,fun j t ht=>by
    rw[Tryz.params5] at ht;have hm:t∈[61,36,36]:=by simpa using Array.mem_of_getElem? ht
    have hall:([61,36,36].all fun u=>!Tryz.prog.wantsStandIn u)=true:=by kernel_rfl
    exact(show Tryz.prog.wantsStandIn t=false by simpa using List.all_eq_true.1 hall t hm)⟩)
  (by kernel_rfl)
#print axioms msgSizes_holds
end Go.Proofs.YtofjpdgojoppbaaGreatDoor
