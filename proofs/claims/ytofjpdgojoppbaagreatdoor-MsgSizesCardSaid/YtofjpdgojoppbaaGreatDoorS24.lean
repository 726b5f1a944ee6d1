/-
  Of the claim's proof: KnE.
-/
import Derived.Test.YtofjpdgojoppbaaGreatDoorS23
set_option maxRecDepth 100000
set_option maxHeartbeats 16000000
set_option linter.unusedVariables false
set_option linter.unusedSimpArgs false
namespace Go.Proofs.YtofjpdgojoppbaaGreatDoor
open Go.RowKit
theorem zd:vec0.length=65:=by simp[vec0]
def fragZ:Array Value:=(FragC.mk nilS vec0 nilS zd).arr
def knownZ:Array Value:=(KnownI.mk ⟨0,0⟩ vec0 zd).arr
theorem zkE:Tryz.zeroCells85=fragZ:=by kernel_rfl
theorem ziU:Tryz.zeroCells126=knownZ:=by kernel_rfl
theorem zbv:(Tryz.prog.info? 85).map (·.size)=some 67:=by kernel_rfl
theorem zaW:fragZ.size=67:=zbT _
theorem zaQ:knownZ.size=67:=zaG _
theorem zbS (c:FragC):(c.arr).all (·.oneCell')=true:=by
 rw[Array.all_eq_true_iff_forall_mem];intro x hx;exact fragC_oneL c x (by unfold FragC.arr at hx;simpa using hx)
theorem zch (c:KnownI):(c.arr).all (·.oneCell')=true:=by
 rw[Array.all_eq_true_iff_forall_mem];intro x hx;exact known_oneL c x (by unfold KnownI.arr at hx;simpa using hx)
attribute [simp] zkE ziU
attribute [-simp] Tryz.isAgg85 Tryz.sizeOf85 Tryz.isAgg126 Tryz.sizeOf126
theorem kmay_c (w:World) (ua va:Value) (a:KnowI) (m:Int) (hm:w.cell? ⟨0,0,none⟩=some (.int .i64 m)) (ha:KnowAt w ua va a) (hs:∀ x∈a.fs,zl8 x):Calls Tryz.prog 152 #[.agg #[ua,va]] w (Ret (.bool (mayB a)) w):=by
 obtain⟨⟨cs,hcl,hca,hcs⟩,hak⟩:=ha;obtain⟨A,c1,rfl,h1,h2,h3⟩:=zr hcs;obtain⟨C,c3,rfl,p1,p2,p3⟩:=zr hak;obtain⟨fa,ia⟩:=a;have HR:Hid (mayB ⟨fa,ia⟩=(fa.all mayF&&(ia.all mayN&&(decide (fa.length≤64)&&decide (ia.length≤4096))))):=rfl;generalize mayB ⟨fa,ia⟩=r at HR⊢;dsimp only at *;clear hcs hak;unfold maxLen at h2 p2;have HX:=hid (Ext.alloc w (.cells #[.slice A cs.length c1,.slice C ia.length c3] 29));have HB1:=hid (Blk.new w 29 #[.slice A cs.length c1,.slice C ia.length c3]);have H3:=hid h3;have P3:=hid p3;have HCL:=hid hcl;have HS:=hid hs;have HM:=hid hm;clear h3 p3 hcl hs hm;go_enter Tryz.func152,Tryz.ntmps152
 go_wp2_with fail
 generalize w.alloc (.cells #[.slice A cs.length c1,.slice C ia.length c3] 29)=w0 at HB1 HX⊢;go_loopw [10] (fun s10 wr=>∃ k:Nat,k≤cs.length∧s10=.int .i64 k∧Hid (Ext w0 wr)∧Hid ((fa.take k).all mayF=true)) (fun s10 _=>cs.length-(intOf s10).toNat)
 case atStart=>exact⟨0,by omega,rfl,Ext.refl _,rfl⟩
 case round=>
  obtain⟨k,hk,rfl,hE,ht⟩:=hrel;have HXr:=hid (HX.out.trans hE.out);by_cases hk1:k<cs.length
  ·have hka:k<fa.length:=by rw[←HCL.out];exact hk1
   obtain⟨b1,o1,rfl,lb1,g1⟩:=H3.out (by omega);obtain⟨ea,sfa,sna⟩:=hca k cs[k] fa[k] (List.getElem?_eq_getElem hk1) (List.getElem?_eq_getElem hka);have HNe:Hid (mayF fa[k]=false→r=false):=fun h=>by show r=false;rw[HR.out,zin hka h];rfl
   have HNx:Hid (mayF fa[k]=true→(fa.take (k+1)).all mayF=true):=fun h=>zgC hka ht.out h;have hsz:=HS.out fa[k] (List.getElem_mem hka);have HG:=hid (fun j u (hu:(cs[k].arr)[j]? = some u)=>HXr.out.cell (g1 k hk1 j u (by unfold FragC.arr at hu;simpa using hu)));have hzs:=hid (zbT cs[k]);have HO:=hid (zbS cs[k]);have HF0:Hid ((cs[k].arr)[0]? = some cs[k].f.val):=by unfold Hid FragC.arr;rw[List.getElem?_toArray];exact fragC_f _
   have HF66:Hid ((cs[k].arr)[66]? = some cs[k].n.val):=by unfold Hid FragC.arr;rw[List.getElem?_toArray];exact zdS _
   have HFv:=hid (fun j v (h:(vecV cs[k].v)[j]? = some v)=>(show(cs[k].arr)[1+j]? = some v by unfold FragC.arr;rw[List.getElem?_toArray];exact zdR cs[k] j v h));have hz1:=hid (show(vecV cs[k].v).size=65 by rw[ze];exact cs[k].hv);have HCl:=fun W=>hid (zb8 W cs[k].v cs[k].hv);have HEq:=fun W=>zay cs[k].v (cleanL cs[k].v) cs[k].hv (by rw[zaq];exact cs[k].hv) W;have lr1:=Nat.lt_of_lt_of_le lb1 HXr.out.size;rw[ea] at HFv hz1 HCl HEq;clear g1 lb1 ea hca H3 P3 ht HR HS;generalize cs[k]=c at HG hzs HO HF0 HF66 HFv sfa sna;generalize fa[k]=x at HFv hz1 HCl HEq HNe HNx sfa sna hsz;generalize c.arr=arr at HG hzs HO HF0 HF66 HFv
   obtain⟨⟨f1,f2,f3⟩,_,⟨n1,n2,n3⟩,_⟩:=c;simp only[SlV.val] at HF0 HF66 sfa sna;have HSf:=fun W (hW:Ext w W)=>hid (zgw W _ x.f m (hW.cell HM.out) (sfa.ext hW) hsz.1);have HSn:=fun W (hW:Ext w W)=>hid (zjI W _ x.n (sna.ext hW) hsz.2);clear sfa sna hsz HM;unfold mayF at HNe HNx;generalize hcl2:cleanL x.v=cv at HCl HEq;have HCv:=hid hcl2;clear hcl2;generalize hX:vecV x.v=X at HFv hz1 HCl HEq;clear hX;generalize vecV cv=CV at HCl HEq;go_wp2_with fail
   simp only[Tryz.sizeOf85,Result.andThen];rw[Oper.upon_value];go_wp2_with fail
   simp only[Tryz.isAgg85,Tryz.sizeOf85,Result.andThen,↓reduceIte,zo HG.out 67 hzs.out];rw[Oper.upon_value];go_wp2_with fail
   have HB3:=hid (Blk.new wr 85 fragZ);simp only[Tryz.sizeOf85,Result.andThen,↓reduceIte,zb HB3.out (by rw[hzs.out];exact zbv) (by rw[hzs.out,zaW]) HO.out,hzs.out];rw[Oper.upon_skip];rw[World.setRow_alloc_new];have HB2:=hid (Blk.new wr 85 arr);have HE2:=hid (hE.out.trans (Ext.alloc wr (.cells arr 85)));have HX2:=hid (HXr.out.trans (Ext.alloc wr (.cells arr 85)));clear HB3;generalize wr.alloc (.cells arr 85)=w2 at HB2 HE2 HX2⊢;have cf:=HB2.out.cell HF0.out;have cn:=HB2.out.cell HF66.out;have bl:=HB2.out.lt;have HV2:=hid (fun j v (h:X[j]? = some v)=>HB2.out.cell (HFv.out j v h));clear HF0 HF66 HFv HG hzs HO HXr hE lr1
   cases e1:zH x.f with
   | false=>
    rw[e1] at HSf;have HNe:=hid (HNe.out (by rw[e1];rfl));clear HNx e1;go_wp2_with fail
    dsimp only[Act.put];refine zc (by kernel_rfl) (by kernel_rfl) (by kernel_rfl) ?_
    repeat (first
     | (refine AWq.val rfl rfl rfl rfl (fun K hK=>?_);go_big_quiet_op;refine hK _ ?_;clear hK K)
     | (refine AWq.skip rfl rfl rfl ?_;simp only[Act.put,zq6,zq7,zq8])
     | (refine AWq.call rfl Tryz.func147 (by kernel_rfl) (by kernel_rfl) rfl rfl rfl ?_;apply Exists.intro;refine And.intro (fun wc hc=>?_) ?_;(· (simp only[zh,zm,↓reduceIte,Nat.reduceEqDiff,zq1,zq2,zq3,zq4,zq5];with_reducible exact(HSf _ (HX2.out.trans hc)).out));simp only[Act.put,zq6,zq7,zq8])
     | (refine AWq.call rfl Tryz.func165 (by kernel_rfl) (by kernel_rfl) rfl rfl rfl ?_;apply Exists.intro;refine And.intro (fun wc hc=>?_) ?_;(· (simp only[zh,zm,↓reduceIte,Nat.reduceEqDiff,zq1,zq2,zq3,zq4,zq5];with_reducible exact(HSn _ (HX2.out.trans hc)).out));simp only[Act.put,zq6,zq7,zq8])
     | (refine AWq.call rfl Tryz.func164 (by kernel_rfl) (by kernel_rfl) rfl rfl rfl ?_;apply Exists.intro;refine And.intro (fun wc hc=>?_) ?_;(· (simp only[zh,zm,↓reduceIte,Nat.reduceEqDiff,zq1,zq2,zq3,zq4,zq5];with_reducible exact(HCl _).out));simp only[Act.put,zq6,zq7,zq8])
     | (refine AWq.val rfl rfl rfl rfl (fun K hK=>?_);refine zj rfl rfl (fun wc hwc=>by obtain⟨E,rfl⟩:=hwc;exact zK hz1.out (fun j v hv=>(Ext.of_wext _ _).cell (HV2.out j v hv))) (hK _ ?_);clear hK K;simp only[Act.put,zq6,zq7,zq8]))
    refine AWq.done rfl rfl rfl (fun w5 x5=>?_);simp only[zl,Act.put,zq6,zq7,zq8];go_wp2_with fail
    go_ret;exact⟨by rw[HNe.out];rfl,HX2.out.trans x5⟩
   | true=>
    rw[e1] at HSf;cases e2:decide (x.v=cv) with
    | false=>
     rw[e2] at HEq;have HNe:=hid (HNe.out (by rw[e1,HCv.out,e2];rfl));clear HNx e1 e2 HCv;go_wp2_with fail
     dsimp only[Act.put];refine zc (by kernel_rfl) (by kernel_rfl) (by kernel_rfl) ?_
     repeat (first
      | (refine AWq.val rfl rfl rfl rfl (fun K hK=>?_);go_big_quiet_op;refine hK _ ?_;clear hK K)
      | (refine AWq.skip rfl rfl rfl ?_;simp only[Act.put,zq6,zq7,zq8])
      | (refine AWq.call rfl Tryz.func147 (by kernel_rfl) (by kernel_rfl) rfl rfl rfl ?_;apply Exists.intro;refine And.intro (fun wc hc=>?_) ?_;(· (simp only[zh,zm,↓reduceIte,Nat.reduceEqDiff,zq1,zq2,zq3,zq4,zq5];with_reducible exact(HSf _ (HX2.out.trans hc)).out));simp only[Act.put,zq6,zq7,zq8])
      | (refine AWq.call rfl Tryz.func165 (by kernel_rfl) (by kernel_rfl) rfl rfl rfl ?_;apply Exists.intro;refine And.intro (fun wc hc=>?_) ?_;(· (simp only[zh,zm,↓reduceIte,Nat.reduceEqDiff,zq1,zq2,zq3,zq4,zq5];with_reducible exact(HSn _ (HX2.out.trans hc)).out));simp only[Act.put,zq6,zq7,zq8])
      | (refine AWq.call rfl Tryz.func164 (by kernel_rfl) (by kernel_rfl) rfl rfl rfl ?_;apply Exists.intro;refine And.intro (fun wc hc=>?_) ?_;(· (simp only[zh,zm,↓reduceIte,Nat.reduceEqDiff,zq1,zq2,zq3,zq4,zq5];with_reducible exact(HCl _).out));simp only[Act.put,zq6,zq7,zq8])
      | (refine AWq.val rfl rfl rfl rfl (fun K hK=>?_);refine zj rfl rfl (fun wc hwc=>by obtain⟨E,rfl⟩:=hwc;exact zK hz1.out (fun j v hv=>(Ext.of_wext _ _).cell (HV2.out j v hv))) (hK _ ?_);clear hK K;simp only[Act.put,zq6,zq7,zq8]))
     refine AWq.done rfl rfl rfl (fun w5 x5=>?_);simp only[zl,Act.put,zq6,zq7,zq8];go_wp2_with fail
     go_ret;exact⟨by rw[HNe.out];rfl,HX2.out.trans x5⟩
    | true=>
     rw[e2] at HEq;cases e3:itemsB x.n with
     | false=>
      rw[e3] at HSn;have HNe:=hid (HNe.out (by rw[e1,HCv.out,e2,e3];rfl));clear HNx e1 e2 e3 HCv;go_wp2_with fail
      dsimp only[Act.put];refine zc (by kernel_rfl) (by kernel_rfl) (by kernel_rfl) ?_
      repeat (first
       | (refine AWq.val rfl rfl rfl rfl (fun K hK=>?_);go_big_quiet_op;refine hK _ ?_;clear hK K)
       | (refine AWq.skip rfl rfl rfl ?_;simp only[Act.put,zq6,zq7,zq8])
       | (refine AWq.call rfl Tryz.func147 (by kernel_rfl) (by kernel_rfl) rfl rfl rfl ?_;apply Exists.intro;refine And.intro (fun wc hc=>?_) ?_;(· (simp only[zh,zm,↓reduceIte,Nat.reduceEqDiff,zq1,zq2,zq3,zq4,zq5];with_reducible exact(HSf _ (HX2.out.trans hc)).out));simp only[Act.put,zq6,zq7,zq8])
       | (refine AWq.call rfl Tryz.func165 (by kernel_rfl) (by kernel_rfl) rfl rfl rfl ?_;apply Exists.intro;refine And.intro (fun wc hc=>?_) ?_;(· (simp only[zh,zm,↓reduceIte,Nat.reduceEqDiff,zq1,zq2,zq3,zq4,zq5];with_reducible exact(HSn _ (HX2.out.trans hc)).out));simp only[Act.put,zq6,zq7,zq8])
       | (refine AWq.call rfl Tryz.func164 (by kernel_rfl) (by kernel_rfl) rfl rfl rfl ?_;apply Exists.intro;refine And.intro (fun wc hc=>?_) ?_;(· (simp only[zh,zm,↓reduceIte,Nat.reduceEqDiff,zq1,zq2,zq3,zq4,zq5];with_reducible exact(HCl _).out));simp only[Act.put,zq6,zq7,zq8])
       | (refine AWq.val rfl rfl rfl rfl (fun K hK=>?_);refine zj rfl rfl (fun wc hwc=>by obtain⟨E,rfl⟩:=hwc;exact zK hz1.out (fun j v hv=>(Ext.of_wext _ _).cell (HV2.out j v hv))) (hK _ ?_);clear hK K;simp only[Act.put,zq6,zq7,zq8]))
      refine AWq.done rfl rfl rfl (fun w5 x5=>?_);simp only[zl,Act.put,zq6,zq7,zq8];go_wp2_with fail
      go_ret;exact⟨by rw[HNe.out];rfl,HX2.out.trans x5⟩
     | true=>
      rw[e3] at HSn;have HNx:=hid (HNx.out (by rw[e1,HCv.out,e2,e3];rfl));clear HNe e1 e2 e3 HCv;go_wp2_with fail
      dsimp only[Act.put];refine zc (by kernel_rfl) (by kernel_rfl) (by kernel_rfl) ?_
      repeat (first
       | (refine AWq.val rfl rfl rfl rfl (fun K hK=>?_);go_big_quiet_op;refine hK _ ?_;clear hK K)
       | (refine AWq.skip rfl rfl rfl ?_;simp only[Act.put,zq6,zq7,zq8])
       | (refine AWq.call rfl Tryz.func147 (by kernel_rfl) (by kernel_rfl) rfl rfl rfl ?_;apply Exists.intro;refine And.intro (fun wc hc=>?_) ?_;(· (simp only[zh,zm,↓reduceIte,Nat.reduceEqDiff,zq1,zq2,zq3,zq4,zq5];with_reducible exact(HSf _ (HX2.out.trans hc)).out));simp only[Act.put,zq6,zq7,zq8])
       | (refine AWq.call rfl Tryz.func165 (by kernel_rfl) (by kernel_rfl) rfl rfl rfl ?_;apply Exists.intro;refine And.intro (fun wc hc=>?_) ?_;(· (simp only[zh,zm,↓reduceIte,Nat.reduceEqDiff,zq1,zq2,zq3,zq4,zq5];with_reducible exact(HSn _ (HX2.out.trans hc)).out));simp only[Act.put,zq6,zq7,zq8])
       | (refine AWq.call rfl Tryz.func164 (by kernel_rfl) (by kernel_rfl) rfl rfl rfl ?_;apply Exists.intro;refine And.intro (fun wc hc=>?_) ?_;(· (simp only[zh,zm,↓reduceIte,Nat.reduceEqDiff,zq1,zq2,zq3,zq4,zq5];with_reducible exact(HCl _).out));simp only[Act.put,zq6,zq7,zq8])
       | (refine AWq.val rfl rfl rfl rfl (fun K hK=>?_);refine zj rfl rfl (fun wc hwc=>by obtain⟨E,rfl⟩:=hwc;exact zK hz1.out (fun j v hv=>(Ext.of_wext _ _).cell (HV2.out j v hv))) (hK _ ?_);clear hK K;simp only[Act.put,zq6,zq7,zq8]))
      refine AWq.done rfl rfl rfl (fun w5 x5=>?_);simp only[zl,Act.put,zq6,zq7,zq8];go_wp2_with fail
      go_roundw
      case rel=>exact⟨k+1,by omega,by go_num,HE2.out.trans x5,HNx.out⟩
      case measure=>simp[intOf];omega
  ·obtain rfl:k=cs.length:=by omega
   have hfa:fa.all mayF=true:=by
    have:=ht.out;rw[HCL.out,List.take_length] at this;exact this
   have HR2:Hid (r=(ia.all mayN&&(decide (cs.length≤64)&&decide (ia.length≤4096)))):=by
    show r=_
    rw[HR.out,hfa,HCL.out];rfl
   clear hfa HR ht hca H3 HS HM;have z1:=(HB1.out.ext hE.out).cell (i:=1) rfl;have y1:=(HB1.out.ext hE.out).lt;go_wp2_with fail
   clear z1 y1;go_loopw [36] (fun s36 wq=>∃ j:Nat,j≤ia.length∧s36=.int .i64 j∧Hid (Ext wr wq)∧Hid ((ia.take j).all mayN=true)) (fun s36 _=>ia.length-(intOf s36).toNat)
   case atStart=>exact⟨0,by omega,rfl,Ext.refl _,rfl⟩
   case round=>
    obtain⟨j,hj,rfl,hQ,ht⟩:=hrel;have hEQ:=hid (hE.out.trans hQ.out);have HXq:=hid (HX.out.trans hEQ.out);by_cases hja:j<ia.length
    ·obtain⟨b1,o1,rfl,lb1,g1⟩:=P3.out (by omega)
     have HNe:Hid (mayN ia[j]=false→r=false):=fun h=>by show r=false;rw[HR2.out,zin hja h];rfl
     have HNx:Hid (mayN ia[j]=true→(ia.take (j+1)).all mayN=true):=fun h=>zgC hja ht.out h;have HG:=hid (fun q u (hu:(ia[j].arr)[q]? = some u)=>HXq.out.cell (g1 j hja q u (by unfold KnownI.arr at hu;simpa using hu)));have hzs:=hid (zaG ia[j]);have HO:=hid (zch ia[j]);have HF0:Hid ((ia[j].arr)[0]? = some (.int .i64 ia[j].i.by_)):=rfl;have HF1:Hid ((ia[j].arr)[1]? = some (.int .i64 ia[j].i.n)):=rfl;have HFv:=hid (fun q v (h:(vecV ia[j].v)[q]? = some v)=>(show(ia[j].arr)[2+q]? = some v by unfold KnownI.arr;rw[List.getElem?_toArray];exact zjG ia[j] q v h))
     have hz1:=hid (show(vecV ia[j].v).size=65 by rw[ze];exact ia[j].hv);have HCl:=fun W=>hid (zb8 W ia[j].v ia[j].hv);have HEq:=fun W=>zay ia[j].v (cleanL ia[j].v) ia[j].hv (by rw[zaq];exact ia[j].hv) W;have HVr:=fun W=>hid (zbx ia[j].i W);unfold Ver.val at HVr;have lr1:=Nat.lt_of_lt_of_le lb1 HXq.out.size;clear g1 lb1 P3 ht HR2;generalize ia[j]=x at HG hzs HO HF0 HF1 HFv hz1 HNe HNx HCl HEq HVr;generalize x.arr=arr at HG hzs HO HF0 HF1 HFv;unfold mayN at HNe HNx;generalize hcl2:cleanL x.v=cv at HCl HEq;have HCv:=hid hcl2;clear hcl2;generalize hX:vecV x.v=X at HFv hz1 HCl HEq;clear hX;generalize vecV cv=CV at HCl HEq
     go_wp2_with fail
     simp only[Tryz.sizeOf126,Result.andThen];rw[Oper.upon_value];go_wp2_with fail
     simp only[Tryz.isAgg126,Tryz.sizeOf126,Result.andThen,↓reduceIte,zo HG.out 67 hzs.out];rw[Oper.upon_value];go_wp2_with fail
     have HB3:=hid (Blk.new wr 126 knownZ);simp only[Tryz.sizeOf126,Result.andThen,↓reduceIte,zb HB3.out (by rw[hzs.out];exact zba) (by rw[hzs.out,zaQ]) HO.out,hzs.out];rw[Oper.upon_skip];rw[World.setRow_alloc_new];have HB2:=hid (Blk.new wr 126 arr);have HE2:=hid (hQ.out.trans (Ext.alloc wr (.cells arr 126)));have HX2:=hid (HXq.out.trans (Ext.alloc wr (.cells arr 126)));clear HB3;generalize wr.alloc (.cells arr 126)=w2 at HB2 HE2 HX2⊢;have cf:=HB2.out.cell HF0.out;have cn:=HB2.out.cell HF1.out;have bl:=HB2.out.lt;have HV2:=hid (fun j v (h:X[j]? = some v)=>HB2.out.cell (HFv.out j v h));clear HF0 HF1 HFv HG hzs HO HXq hEQ lr1 hQ
     cases e1:zD x.i with
     | false=>
      rw[zcG e1] at HVr;have HNe:=hid (HNe.out (by rw[e1];rfl));clear HNx e1;go_wp2_with fail
      dsimp only[Act.put];refine zc (by kernel_rfl) (by kernel_rfl) (by kernel_rfl) ?_
      repeat (first
       | (refine AWq.val rfl rfl rfl rfl (fun K hK=>?_);go_big_quiet_op;refine hK _ ?_;clear hK K)
       | (refine AWq.skip rfl rfl rfl ?_;simp only[Act.put,zq6,zq7,zq8])
       | (refine AWq.call rfl Tryz.func142 (by kernel_rfl) (by kernel_rfl) rfl rfl rfl ?_;apply Exists.intro;refine And.intro (fun wc hc=>?_) ?_;(· (simp only[zh,zm,↓reduceIte,Nat.reduceEqDiff,zq1,zq2,zq3,zq4,zq5];with_reducible exact(HVr _).out));simp only[Act.put,zq6,zq7,zq8])
       | (refine AWq.call rfl Tryz.func164 (by kernel_rfl) (by kernel_rfl) rfl rfl rfl ?_;apply Exists.intro;refine And.intro (fun wc hc=>?_) ?_;(· (simp only[zh,zm,↓reduceIte,Nat.reduceEqDiff,zq1,zq2,zq3,zq4,zq5];with_reducible exact(HCl _).out));simp only[Act.put,zq6,zq7,zq8])
       | (refine AWq.val rfl rfl rfl rfl (fun K hK=>?_);refine zj rfl rfl (fun wc hwc=>by obtain⟨E,rfl⟩:=hwc;exact zK hz1.out (fun j v hv=>(Ext.of_wext _ _).cell (HV2.out j v hv))) (hK _ ?_);clear hK K;simp only[Act.put,zq6,zq7,zq8]))
      refine AWq.done rfl rfl rfl (fun w5 x5=>?_);simp only[zl,Act.put,zq6,zq7,zq8];go_wp2_with fail
      go_ret;exact⟨by rw[HNe.out];rfl,HX2.out.trans x5⟩
     | true=>
      rw[zbW e1] at HVr;cases e2:decide (x.v=cv) with
      | false=>
       rw[e2] at HEq;have HNe:=hid (HNe.out (by rw[e1,HCv.out,e2];rfl));clear HNx e1 e2 HCv;go_wp2_with fail
       dsimp only[Act.put];refine zc (by kernel_rfl) (by kernel_rfl) (by kernel_rfl) ?_
       repeat (first
        | (refine AWq.val rfl rfl rfl rfl (fun K hK=>?_);go_big_quiet_op;refine hK _ ?_;clear hK K)
        | (refine AWq.skip rfl rfl rfl ?_;simp only[Act.put,zq6,zq7,zq8])
        | (refine AWq.call rfl Tryz.func142 (by kernel_rfl) (by kernel_rfl) rfl rfl rfl ?_;apply Exists.intro;refine And.intro (fun wc hc=>?_) ?_;(· (simp only[zh,zm,↓reduceIte,Nat.reduceEqDiff,zq1,zq2,zq3,zq4,zq5];with_reducible exact(HVr _).out));simp only[Act.put,zq6,zq7,zq8])
        | (refine AWq.call rfl Tryz.func164 (by kernel_rfl) (by kernel_rfl) rfl rfl rfl ?_;apply Exists.intro;refine And.intro (fun wc hc=>?_) ?_;(· (simp only[zh,zm,↓reduceIte,Nat.reduceEqDiff,zq1,zq2,zq3,zq4,zq5];with_reducible exact(HCl _).out));simp only[Act.put,zq6,zq7,zq8])
        | (refine AWq.val rfl rfl rfl rfl (fun K hK=>?_);refine zj rfl rfl (fun wc hwc=>by obtain⟨E,rfl⟩:=hwc;exact zK hz1.out (fun j v hv=>(Ext.of_wext _ _).cell (HV2.out j v hv))) (hK _ ?_);clear hK K;simp only[Act.put,zq6,zq7,zq8]))
       refine AWq.done rfl rfl rfl (fun w5 x5=>?_);simp only[zl,Act.put,zq6,zq7,zq8];go_wp2_with fail
       go_ret;exact⟨by rw[HNe.out];rfl,HX2.out.trans x5⟩
      | true=>
       rw[e2] at HEq;have HNx:=hid (HNx.out (by rw[e1,HCv.out,e2];rfl));clear HNe e1 e2 HCv;go_wp2_with fail
       dsimp only[Act.put];refine zc (by kernel_rfl) (by kernel_rfl) (by kernel_rfl) ?_
       repeat (first
        | (refine AWq.val rfl rfl rfl rfl (fun K hK=>?_);go_big_quiet_op;refine hK _ ?_;clear hK K)
        | (refine AWq.skip rfl rfl rfl ?_;simp only[Act.put,zq6,zq7,zq8])
        | (refine AWq.call rfl Tryz.func142 (by kernel_rfl) (by kernel_rfl) rfl rfl rfl ?_;apply Exists.intro;refine And.intro (fun wc hc=>?_) ?_;(· (simp only[zh,zm,↓reduceIte,Nat.reduceEqDiff,zq1,zq2,zq3,zq4,zq5];with_reducible exact(HVr _).out));simp only[Act.put,zq6,zq7,zq8])
        | (refine AWq.call rfl Tryz.func164 (by kernel_rfl) (by kernel_rfl) rfl rfl rfl ?_;apply Exists.intro;refine And.intro (fun wc hc=>?_) ?_;(· (simp only[zh,zm,↓reduceIte,Nat.reduceEqDiff,zq1,zq2,zq3,zq4,zq5];with_reducible exact(HCl _).out));simp only[Act.put,zq6,zq7,zq8])
        | (refine AWq.val rfl rfl rfl rfl (fun K hK=>?_);refine zj rfl rfl (fun wc hwc=>by obtain⟨E,rfl⟩:=hwc;exact zK hz1.out (fun j v hv=>(Ext.of_wext _ _).cell (HV2.out j v hv))) (hK _ ?_);clear hK K;simp only[Act.put,zq6,zq7,zq8]))
       refine AWq.done rfl rfl rfl (fun w5 x5=>?_);simp only[zl,Act.put,zq6,zq7,zq8];go_wp2_with fail
       go_roundw
       case rel=>exact⟨j+1,by omega,by go_num,HE2.out.trans x5,HNx.out⟩
       case measure=>simp[intOf];omega
    ·obtain rfl:j=ia.length:=by omega
     have hia:ia.all mayN=true:=by
      have:=ht.out;rw[List.take_length] at this;exact this
     have HR3:Hid (r=(decide (cs.length≤64)&&decide (ia.length≤4096))):=by
      show r=_
      rw[HR2.out,hia];rfl
     have z0:=(HB1.out.ext hEQ.out).cell (i:=0) rfl;have z1:=(HB1.out.ext hEQ.out).cell (i:=1) rfl;have y1:=(HB1.out.ext hEQ.out).lt;clear hia HR2 ht P3;by_cases hA:cs.length≤64
     ·have t1:decide ((cs.length:Int)≤64)=true:=decide_eq_true (by omega)
      have t1':decide (cs.length≤64)=true:=decide_eq_true hA;rw[t1',Bool.true_and] at HR3;go_wp2_with fail
      go_ret;exact⟨by rw[HR3.out];simp;omega,HXq.out⟩
     ·have t1:decide ((cs.length:Int)≤64)=false:=decide_eq_false (by omega)
      have t1':decide (cs.length≤64)=false:=decide_eq_false hA;rw[t1',Bool.false_and] at HR3;go_wp2_with fail
      go_ret;exact⟨by rw[HR3.out];rfl,HXq.out⟩
end Go.Proofs.YtofjpdgojoppbaaGreatDoor
