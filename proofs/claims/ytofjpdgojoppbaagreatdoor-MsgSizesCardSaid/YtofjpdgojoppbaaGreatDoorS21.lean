/-
  Of the claim's proof: KnC.
-/
import Derived.Test.YtofjpdgojoppbaaGreatDoorS15
set_option maxRecDepth 100000
set_option maxHeartbeats 16000000
set_option linter.unusedVariables false
set_option linter.unusedSimpArgs false
namespace Go.Proofs.YtofjpdgojoppbaaGreatDoor
open Go.RowKit
theorem zK {w:World} {b off:Nat} {cs:Array Value} (hz:cs.size=65) (h:∀ (j:Nat) v,cs[j]? = some v→w.cell? ⟨b,off+j,none⟩=some v):(loadVar 33 ⟨b,off,none⟩).run Tryz.prog w=.ok (.agg cs) w:=by
 have:=run_loadVar_mid (P:=Tryz.prog) w b off 33 cs.toList _ (fun j v hv=>h j v (by simpa using hv)) Tryz.underlying33 rfl (by rw[Array.length_toList,hz];exact zN);simpa using this
theorem zba:(Tryz.prog.info? 126).map (·.size)=some 67:=by kernel_rfl
theorem zap {w:World} {b off:Nat} {cs:Array Value} (hz:cs.size=67) (h:∀ (j:Nat) v,cs[j]? = some v→w.cell? ⟨b,off+j,none⟩=some v):(loadVar 126 ⟨b,off,none⟩).run Tryz.prog w=.ok (.agg cs) w:=by
 have:=run_loadVar_mid (P:=Tryz.prog) w b off 126 cs.toList _ (fun j v hv=>h j v (by simpa using hv)) Tryz.underlying126 rfl (by rw[Array.length_toList,hz];exact zba);simpa using this
theorem zj2 (w:World) (ua va ub vb:Value) (a b:KnowI) (ha:KnowAt w ua va a) (hb:KnowAt w ub vb b):Calls Tryz.prog 39 #[.agg #[ua,va],.agg #[ub,vb]] w (Ret (.bool (decide (a=b))) w):=by
 obtain⟨⟨cs,hcl,hca,hcs⟩,hak⟩:=ha;obtain⟨⟨ds,hdl,hdb,hds⟩,hbk⟩:=hb;obtain⟨A,c1,rfl,h1,h2,h3⟩:=zr hcs;obtain⟨B,c2,rfl,k1,k2,k3⟩:=zr hds;obtain⟨C,c3,rfl,p1,p2,p3⟩:=zr hak;obtain⟨D,c4,rfl,q1,q2,q3⟩:=zr hbk;have HR:Hid ((a≠b→decide (a=b)=false)∧(a=b→decide (a=b)=true)):=⟨fun h=>decide_eq_false h,fun h=>decide_eq_true h⟩
 generalize decide (a=b)=r at HR⊢;obtain⟨fa,ia⟩:=a;obtain⟨fb,ib⟩:=b;dsimp only at *;clear hcs hds hak hbk;unfold maxLen at h2 k2 p2 q2;have HX:=hid ((Ext.alloc w (.cells #[.slice A cs.length c1,.slice C ia.length c3] 29)).alloc' (.cells #[.slice B ds.length c2,.slice D ib.length c4] 29));by_cases hlf:fa.length=fb.length
 rotate_left
 ·have dl:((cs.length:Int) != ds.length)=true:=by simp;omega
  have hr:Hid (r=false):=HR.out.1 (fun e=>hlf (by have:=(zb3.1 e).1;dsimp only at this;rw[this]));clear h3 k3 p3 q3 HR hca hdb hlf hcl hdl;go_enter Tryz.func39,Tryz.ntmps39;go_wp2_with fail
  go_ret;exact⟨by rw[hr.out];rfl,HX.out⟩
 have hlc:cs.length=ds.length:=by omega
 have dl:((cs.length:Int) != ds.length)=false:=by simp;omega
 by_cases hli:ia.length=ib.length
 rotate_left
 ·have dl2:((ia.length:Int) != ib.length)=true:=by simp;omega
  have hr:Hid (r=false):=HR.out.1 (fun e=>hli (by have:=(zb3.1 e).2;dsimp only at this;rw[this]));clear h3 k3 p3 q3 HR hca hdb hlf hcl hdl hlc hli;go_enter Tryz.func39,Tryz.ntmps39;go_wp2_with fail
  go_ret;exact⟨by rw[hr.out];rfl,HX.out⟩
 have dl2:((ia.length:Int) != ib.length)=false:=by simp;omega
 have HB1:=hid ((Blk.new w 29 #[.slice A cs.length c1,.slice C ia.length c3]).alloc (.cells #[.slice B ds.length c2,.slice D ib.length c4] 29));have HB2:=hid (Blk.new (w.alloc (.cells #[.slice A cs.length c1,.slice C ia.length c3] 29)) 29 #[.slice B ds.length c2,.slice D ib.length c4]);rw[World.size_alloc] at HB2;have H3:=hid h3;have K3:=hid k3;have P3:=hid p3;have Q3:=hid q3;have HCL:=hid hcl;have HDL:=hid hdl;have HLF:=hid hlf;have HLI:=hid hli;clear h3 k3 p3 q3 hcl hdl hlf hli hlc;go_enter Tryz.func39,Tryz.ntmps39;go_wp2_with fail
 generalize (w.alloc (.cells #[.slice A cs.length c1,.slice C ia.length c3] 29)).alloc (.cells #[.slice B ds.length c2,.slice D ib.length c4] 29)=w0 at HB1 HB2 HX⊢;go_loopw [5] (fun s5 wr=>∃ k:Nat,k≤fa.length∧s5=.int .i64 k∧Hid (Ext w0 wr)∧Hid (fa.take k=fb.take k)) (fun s5 _=>fa.length-(intOf s5).toNat)
 case atStart=>exact⟨0,by omega,rfl,Ext.refl _,rfl⟩
 case round=>
  obtain⟨k,hk,rfl,hE,ht⟩:=hrel;have z0:=(HB1.out.ext hE.out).cell (i:=0) rfl;have z1:=(HB1.out.ext hE.out).cell (i:=1) rfl;have z2:=(HB2.out.ext hE.out).cell (i:=0) rfl;have z3:=(HB2.out.ext hE.out).cell (i:=1) rfl;have y1:=(HB1.out.ext hE.out).lt;have y2:=(HB2.out.ext hE.out).lt;have HXr:=hid (HX.out.trans hE.out);by_cases hka:k<fa.length
  ·have hk1:k<cs.length:=by rw[HCL.out];exact hka
   have hkb:k<fb.length:=by rw[←HLF.out];exact hka
   have hk2:k<ds.length:=by rw[HDL.out];exact hkb
   obtain⟨b1,o1,rfl,lb1,g1⟩:=H3.out (by omega);obtain⟨b2,o2,rfl,lb2,g2⟩:=K3.out (by omega);obtain⟨ea,sfa,sna⟩:=hca k cs[k] fa[k] (List.getElem?_eq_getElem hk1) (List.getElem?_eq_getElem hka);obtain⟨eb,sfb,snb⟩:=hdb k ds[k] fb[k] (List.getElem?_eq_getElem hk2) (List.getElem?_eq_getElem hkb);have HNe:Hid (fa[k]≠fb[k]→r=false):=fun h=>HR.out.1 (fun e=>h (by have:=(zb3.1 e).1;dsimp only at this;subst this;rfl));have HNx:Hid (fa[k]=fb[k]→fa.take (k+1)=fb.take (k+1)):=fun h=>by
    rw[List.take_succ_eq_append_getElem hka,List.take_succ_eq_append_getElem hkb,ht.out,h]
   have cf1:=HXr.out.cell (g1 k hk1 0 _ (fragC_f cs[k]));have cf2:=HXr.out.cell (g2 k hk2 0 _ (fragC_f ds[k]));have cn1:=HXr.out.cell (g1 k hk1 66 _ (zdS cs[k]));have cn2:=HXr.out.cell (g2 k hk2 66 _ (zdS ds[k]));have HV1:=hid (fun j v (h:(vecV cs[k].v)[j]? = some v)=>(Nat.add_assoc (o1+k*67) 1 j) ▸ HXr.out.cell (g1 k hk1 (1+j) v (zdR cs[k] j v h)));have HV2:=hid (fun j v (h:(vecV ds[k].v)[j]? = some v)=>(Nat.add_assoc (o2+k*67) 1 j) ▸ HXr.out.cell (g2 k hk2 (1+j) v (zdR ds[k] j v h)));have hz1:=hid (show(vecV cs[k].v).size=65 by rw[ze];exact cs[k].hv)
   have hz2:=hid (show(vecV ds[k].v).size=65 by rw[ze];exact ds[k].hv);have HEq:=fun W=>zay cs[k].v ds[k].v cs[k].hv ds[k].hv W;have lr1:=Nat.lt_of_lt_of_le lb1 HXr.out.size;have lr2:=Nat.lt_of_lt_of_le lb2 HXr.out.size;rw[Nat.add_zero] at cf1 cf2;rw[ea,eb] at HEq;rw[ea] at HV1 hz1;rw[eb] at HV2 hz2;clear g1 g2 lb1 lb2 ea eb hca hdb H3 K3 P3 Q3 ht HR;generalize cs[k]=c at cf1 cn1 sfa sna;generalize ds[k]=d at cf2 cn2 sfb snb;generalize fa[k]=x at HV1 hz1 HEq HNe HNx sfa sna;generalize fb[k]=y at HV2 hz2 HEq HNe HNx sfb snb;obtain⟨⟨f1,f2,f3⟩,_,⟨n1,n2,n3⟩,_⟩:=c;obtain⟨⟨g1,g2,g3⟩,_,⟨m1,m2,m3⟩,_⟩:=d
   simp only[SlV.val] at cf1 cf2 cn1 cn2 sfa sna sfb snb;have HSf:=fun W (hW:Ext w W)=>hid (ze8 W _ _ x.f y.f (sfa.ext hW) (sfb.ext hW));have HSn:=fun W (hW:Ext w W)=>hid (zgI W _ _ x.n y.n (sna.ext hW) (snb.ext hW));clear sfa sna sfb snb;generalize vecV x.v=X at HV1 hz1 HEq;generalize vecV y.v=Y at HV2 hz2 HEq;have h0:Hid (x=y↔x.v=y.v∧x.n=y.n∧x.f=y.f):=by show _↔_;rw[zeJ];exact⟨fun⟨a,b,c⟩=>⟨b,c,a⟩,fun⟨a,b,c⟩=>⟨c,a,b⟩⟩
   by_cases hv:x.v=y.v
   ·rw[decide_eq_true hv] at HEq
    by_cases hn:x.n=y.n
    ·rw[decide_eq_true hn] at HSn
     by_cases hf:x.f=y.f
     ·rw[decide_eq_true hf] at HSf
      have HNx:=hid (HNx.out (h0.out.2 ⟨hv,hn,hf⟩));clear HNe h0 hv hn hf;go_wp2_with fail
      refine zc (by kernel_rfl) (by kernel_rfl) (by kernel_rfl) ?_
      repeat (first
       | (refine AWq.val rfl rfl rfl rfl (fun K hK=>?_);go_big_quiet_op;refine hK _ ?_;clear hK K)
       | (refine AWq.skip rfl rfl rfl ?_;simp only[Act.put,zq6,zq7,zq8])
       | (refine AWq.call rfl Tryz.func40 (by kernel_rfl) (by kernel_rfl) rfl rfl rfl ?_;apply Exists.intro;refine And.intro (fun wc hc=>?_) ?_;(· (simp only[zh,zm,↓reduceIte,Nat.reduceEqDiff,zq1,zq2,zq3,zq4,zq5];with_reducible exact(HSn _ (HXr.out.trans hc)).out));simp only[Act.put,zq6,zq7,zq8])
       | (refine AWq.call rfl Tryz.func38 (by kernel_rfl) (by kernel_rfl) rfl rfl rfl ?_;apply Exists.intro;refine And.intro (fun wc hc=>?_) ?_;(· (simp only[zh,zm,↓reduceIte,Nat.reduceEqDiff,zq1,zq2,zq3,zq4,zq5];with_reducible exact(HSf _ (HXr.out.trans hc)).out));simp only[Act.put,zq6,zq7,zq8])
       | (refine AWq.val rfl rfl rfl rfl (fun K hK=>?_);refine zj rfl rfl (fun wc hwc=>by obtain⟨E,rfl⟩:=hwc;exact zK hz1.out (fun j v hv=>(Ext.of_wext _ _).cell (HV1.out j v hv))) (hK _ ?_);clear hK K;simp only[Act.put,zq6,zq7,zq8])
       | (refine AWq.val rfl rfl rfl rfl (fun K hK=>?_);refine zj rfl rfl (fun wc hwc=>by obtain⟨E,rfl⟩:=hwc;exact zK hz2.out (fun j v hv=>(Ext.of_wext _ _).cell (HV2.out j v hv))) (hK _ ?_);clear hK K;simp only[Act.put,zq6,zq7,zq8]))
      refine AWq.done rfl rfl rfl (fun w5 x5=>?_);simp only[zl,Act.put,zq6,zq7,zq8];go_wp2_with fail
      go_roundw
      case rel=>exact⟨k+1,by omega,by go_num,hE.out.trans x5,HNx.out⟩
      case measure=>simp[intOf];omega
     ·rw[decide_eq_false hf] at HSf
      have HNe:=hid (HNe.out (fun e=>hf (h0.out.1 e).2.2));clear HNx h0 hv hn hf;go_wp2_with fail
      refine zc (by kernel_rfl) (by kernel_rfl) (by kernel_rfl) ?_
      repeat (first
       | (refine AWq.val rfl rfl rfl rfl (fun K hK=>?_);go_big_quiet_op;refine hK _ ?_;clear hK K)
       | (refine AWq.skip rfl rfl rfl ?_;simp only[Act.put,zq6,zq7,zq8])
       | (refine AWq.call rfl Tryz.func40 (by kernel_rfl) (by kernel_rfl) rfl rfl rfl ?_;apply Exists.intro;refine And.intro (fun wc hc=>?_) ?_;(· (simp only[zh,zm,↓reduceIte,Nat.reduceEqDiff,zq1,zq2,zq3,zq4,zq5];with_reducible exact(HSn _ (HXr.out.trans hc)).out));simp only[Act.put,zq6,zq7,zq8])
       | (refine AWq.call rfl Tryz.func38 (by kernel_rfl) (by kernel_rfl) rfl rfl rfl ?_;apply Exists.intro;refine And.intro (fun wc hc=>?_) ?_;(· (simp only[zh,zm,↓reduceIte,Nat.reduceEqDiff,zq1,zq2,zq3,zq4,zq5];with_reducible exact(HSf _ (HXr.out.trans hc)).out));simp only[Act.put,zq6,zq7,zq8])
       | (refine AWq.val rfl rfl rfl rfl (fun K hK=>?_);refine zj rfl rfl (fun wc hwc=>by obtain⟨E,rfl⟩:=hwc;exact zK hz1.out (fun j v hv=>(Ext.of_wext _ _).cell (HV1.out j v hv))) (hK _ ?_);clear hK K;simp only[Act.put,zq6,zq7,zq8])
       | (refine AWq.val rfl rfl rfl rfl (fun K hK=>?_);refine zj rfl rfl (fun wc hwc=>by obtain⟨E,rfl⟩:=hwc;exact zK hz2.out (fun j v hv=>(Ext.of_wext _ _).cell (HV2.out j v hv))) (hK _ ?_);clear hK K;simp only[Act.put,zq6,zq7,zq8]))
      refine AWq.done rfl rfl rfl (fun w5 x5=>?_);simp only[zl,Act.put,zq6,zq7,zq8];go_wp2_with fail
      go_ret;exact⟨by rw[HNe.out];rfl,HXr.out.trans x5⟩
    ·rw[decide_eq_false hn] at HSn
     have HNe:=hid (HNe.out (fun e=>hn (h0.out.1 e).2.1));clear HNx h0 hv hn HSf;go_wp2_with fail
     refine zc (by kernel_rfl) (by kernel_rfl) (by kernel_rfl) ?_
     repeat (first
      | (refine AWq.val rfl rfl rfl rfl (fun K hK=>?_);go_big_quiet_op;refine hK _ ?_;clear hK K)
      | (refine AWq.skip rfl rfl rfl ?_;simp only[Act.put,zq6,zq7,zq8])
      | (refine AWq.call rfl Tryz.func40 (by kernel_rfl) (by kernel_rfl) rfl rfl rfl ?_;apply Exists.intro;refine And.intro (fun wc hc=>?_) ?_;(· (simp only[zh,zm,↓reduceIte,Nat.reduceEqDiff,zq1,zq2,zq3,zq4,zq5];with_reducible exact(HSn _ (HXr.out.trans hc)).out));simp only[Act.put,zq6,zq7,zq8])
      | (refine AWq.val rfl rfl rfl rfl (fun K hK=>?_);refine zj rfl rfl (fun wc hwc=>by obtain⟨E,rfl⟩:=hwc;exact zK hz1.out (fun j v hv=>(Ext.of_wext _ _).cell (HV1.out j v hv))) (hK _ ?_);clear hK K;simp only[Act.put,zq6,zq7,zq8])
      | (refine AWq.val rfl rfl rfl rfl (fun K hK=>?_);refine zj rfl rfl (fun wc hwc=>by obtain⟨E,rfl⟩:=hwc;exact zK hz2.out (fun j v hv=>(Ext.of_wext _ _).cell (HV2.out j v hv))) (hK _ ?_);clear hK K;simp only[Act.put,zq6,zq7,zq8]))
     refine AWq.done rfl rfl rfl (fun w5 x5=>?_);simp only[zl,Act.put,zq6,zq7,zq8];go_wp2_with fail
     go_ret;exact⟨by rw[HNe.out];rfl,HXr.out.trans x5⟩
   ·rw[decide_eq_false hv] at HEq
    have HNe:=hid (HNe.out (fun e=>hv (h0.out.1 e).1));clear HNx h0 hv HSf HSn;go_wp2_with fail
    refine zc (by kernel_rfl) (by kernel_rfl) (by kernel_rfl) ?_
    repeat (first
     | (refine AWq.val rfl rfl rfl rfl (fun K hK=>?_);go_big_quiet_op;refine hK _ ?_;clear hK K)
     | (refine AWq.skip rfl rfl rfl ?_;simp only[Act.put,zq6,zq7,zq8])
     | (refine AWq.val rfl rfl rfl rfl (fun K hK=>?_);refine zj rfl rfl (fun wc hwc=>by obtain⟨E,rfl⟩:=hwc;exact zK hz1.out (fun j v hv=>(Ext.of_wext _ _).cell (HV1.out j v hv))) (hK _ ?_);clear hK K;simp only[Act.put,zq6,zq7,zq8])
     | (refine AWq.val rfl rfl rfl rfl (fun K hK=>?_);refine zj rfl rfl (fun wc hwc=>by obtain⟨E,rfl⟩:=hwc;exact zK hz2.out (fun j v hv=>(Ext.of_wext _ _).cell (HV2.out j v hv))) (hK _ ?_);clear hK K;simp only[Act.put,zq6,zq7,zq8]))
    refine AWq.done rfl rfl rfl (fun w5 x5=>?_);simp only[zl,Act.put,zq6,zq7,zq8];go_wp2_with fail
    go_ret;exact⟨by rw[HNe.out];rfl,HXr.out.trans x5⟩
  ·obtain rfl:k=cs.length:=by rw[HCL.out];omega
   have hfe:fa=fb:=by
    have:=ht.out;rw[HCL.out,List.take_length,HLF.out,List.take_length] at this;exact this
   have HR2:Hid ((ia≠ib→r=false)∧(ia=ib→r=true)):=⟨fun h=>HR.out.1 (fun e=>h (zb3.1 e).2),fun h=>HR.out.2 (zb3.2 ⟨hfe,h⟩)⟩
   clear hfe HR ht hca hdb H3 K3;go_wp2_with fail
   go_loopw [6] (fun s6 wq=>∃ j:Nat,j≤ia.length∧s6=.int .i64 j∧Hid (Ext wr wq)∧Hid (ia.take j=ib.take j)) (fun s6 _=>ia.length-(intOf s6).toNat)
   case atStart=>exact⟨0,by omega,rfl,Ext.refl _,rfl⟩
   case round=>
    obtain⟨j,hj,rfl,hQ,ht⟩:=hrel;clear z0 z1 z2 z3 y1 y2;have hEQ:=hid (hE.out.trans hQ.out);have z1:=(HB1.out.ext hEQ.out).cell (i:=1) rfl;have z3:=(HB2.out.ext hEQ.out).cell (i:=1) rfl;have y1:=(HB1.out.ext hEQ.out).lt;have y2:=(HB2.out.ext hEQ.out).lt;have HXq:=hid (HX.out.trans hEQ.out);by_cases hja:j<ia.length
    ·have hjb:j<ib.length:=by rw[←HLI.out];exact hja
     obtain⟨b1,o1,rfl,lb1,g1⟩:=P3.out (by omega);obtain⟨b2,o2,rfl,lb2,g2⟩:=Q3.out (by omega);have HNe:Hid (ia[j]≠ib[j]→r=false):=fun h=>HR2.out.1 (fun e=>h (by subst e;rfl));have HNx:Hid (ia[j]=ib[j]→ia.take (j+1)=ib.take (j+1)):=fun h=>by
      rw[List.take_succ_eq_append_getElem hja,List.take_succ_eq_append_getElem hjb,ht.out,h]
     have HV1:=hid (fun q v (h:ia[j].arr[q]? = some v)=>HXq.out.cell (g1 j hja q v (by unfold KnownI.arr at h;simpa using h)));have HV2:=hid (fun q v (h:ib[j].arr[q]? = some v)=>HXq.out.cell (g2 j hjb q v (by unfold KnownI.arr at h;simpa using h)));have hz1:=hid (zaG ia[j]);have hz2:=hid (zaG ib[j]);have HEq:=fun W=>zdF ia[j] ib[j] W;have lr1:=Nat.lt_of_lt_of_le lb1 HXq.out.size;have lr2:=Nat.lt_of_lt_of_le lb2 HXq.out.size;clear g1 g2 lb1 lb2 P3 Q3 HR2 ht;generalize ia[j]=x at HV1 hz1 HEq HNe HNx;generalize ib[j]=y at HV2 hz2 HEq HNe HNx;by_cases hv:x=y
     ·rw[decide_eq_true hv] at HEq
      have HNx:=hid (HNx.out hv);clear HNe hv;generalize x.arr=X at HV1 hz1 HEq;generalize y.arr=Y at HV2 hz2 HEq;go_wp2_with fail
      refine zc (by kernel_rfl) (by kernel_rfl) (by kernel_rfl) ?_
      repeat (first
       | (refine AWq.val rfl rfl rfl rfl (fun K hK=>?_);go_big_quiet_op;refine hK _ ?_;clear hK K)
       | (refine AWq.skip rfl rfl rfl ?_;simp only[Act.put,zq6,zq7,zq8])
       | (refine AWq.val rfl rfl rfl rfl (fun K hK=>?_);refine zj rfl rfl (fun wc hwc=>by obtain⟨E,rfl⟩:=hwc;exact zap hz1.out (fun j v hv=>(Ext.of_wext _ _).cell (HV1.out j v hv))) (hK _ ?_);clear hK K;simp only[Act.put,zq6,zq7,zq8])
       | (refine AWq.val rfl rfl rfl rfl (fun K hK=>?_);refine zj rfl rfl (fun wc hwc=>by obtain⟨E,rfl⟩:=hwc;exact zap hz2.out (fun j v hv=>(Ext.of_wext _ _).cell (HV2.out j v hv))) (hK _ ?_);clear hK K;simp only[Act.put,zq6,zq7,zq8]))
      refine AWq.done rfl rfl rfl (fun w5 x5=>?_);simp only[zl,Act.put,zq6,zq7,zq8];go_wp2_with fail
      go_roundw
      case rel=>exact⟨j+1,by omega,by go_num,hQ.out.trans x5,HNx.out⟩
      case measure=>simp[intOf];omega
     ·rw[decide_eq_false hv] at HEq
      have HNe:=hid (HNe.out hv);clear HNx hv;generalize x.arr=X at HV1 hz1 HEq;generalize y.arr=Y at HV2 hz2 HEq;go_wp2_with fail
      refine zc (by kernel_rfl) (by kernel_rfl) (by kernel_rfl) ?_
      repeat (first
       | (refine AWq.val rfl rfl rfl rfl (fun K hK=>?_);go_big_quiet_op;refine hK _ ?_;clear hK K)
       | (refine AWq.skip rfl rfl rfl ?_;simp only[Act.put,zq6,zq7,zq8])
       | (refine AWq.val rfl rfl rfl rfl (fun K hK=>?_);refine zj rfl rfl (fun wc hwc=>by obtain⟨E,rfl⟩:=hwc;exact zap hz1.out (fun j v hv=>(Ext.of_wext _ _).cell (HV1.out j v hv))) (hK _ ?_);clear hK K;simp only[Act.put,zq6,zq7,zq8])
       | (refine AWq.val rfl rfl rfl rfl (fun K hK=>?_);refine zj rfl rfl (fun wc hwc=>by obtain⟨E,rfl⟩:=hwc;exact zap hz2.out (fun j v hv=>(Ext.of_wext _ _).cell (HV2.out j v hv))) (hK _ ?_);clear hK K;simp only[Act.put,zq6,zq7,zq8]))
      refine AWq.done rfl rfl rfl (fun w5 x5=>?_);simp only[zl,Act.put,zq6,zq7,zq8];go_wp2_with fail
      go_ret;exact⟨by rw[HNe.out];rfl,HXq.out.trans x5⟩
    ·obtain rfl:j=ia.length:=by omega
     have hr:Hid (r=true):=HR2.out.2 (by have:=ht.out;rw[List.take_length,HLI.out,List.take_length] at this;exact this);clear HR2 ht P3 Q3;go_wp2_with fail
     go_ret;exact⟨by rw[hr.out];rfl,HXq.out⟩
end Go.Proofs.YtofjpdgojoppbaaGreatDoor
