/-
  Of the claim's proof: KnM.
-/
import Derived.Test.YtofjpdgojoppbaaGreatDoorG06
import Derived.Test.YtofjpdgojoppbaaGreatDoorG27
import Derived.Test.YtofjpdgojoppbaaGreatDoorG36
set_option maxRecDepth 100000
set_option maxHeartbeats 16000000
set_option linter.unusedVariables false
set_option linter.unusedSimpArgs false
namespace Go.Proofs.YtofjpdgojoppbaaGreatDoor
open Go.RowKit
def zcv {α:Type} (enc:α→ByteArray) (l:List α) (k:Nat):ByteArray:=lebB l.length++⟨(encL ((l.take k).map fun x=>fT (enc x))).toArray⟩
theorem zfA {α:Type} (enc:α→ByteArray) (l:List α):zcv enc l 0=lebB l.length:=by
 unfold zcv;apply ByteArray.ext;rw[ByteArray.data_append];simp[encL]
theorem zeB {α:Type} (enc:α→ByteArray) (l:List α):zcv enc l l.length=zh enc l:=by
 unfold zcv zh;rw[List.take_length,zad];apply ByteArray.ext;apply Array.ext';rw[ByteArray.data_append,Array.toList_append];rfl
theorem zfB {α:Type} (enc:α→ByteArray) {l:List α} {k:Nat} (h:k<l.length):zcv enc l k++zG (enc l[k])=zcv enc l (k+1):=by
 unfold zcv;rw[List.take_succ_eq_append_getElem h,List.map_append];apply ByteArray.ext;apply Array.ext';simp only[ByteArray.data_append,Array.toList_append,zU];simp[encL,fT,FldI.enc]
theorem zhV {α:Type} (enc:α→ByteArray) (l:List α) (k:Nat):(zcv enc l k).size≤(zh enc l).size:=by
 rw[←zeB];unfold zcv;rw[ByteArray.size_append,ByteArray.size_append];have h:=zj5 (l:=l.map fun x=>fT (enc x)) k;rw[←List.map_take] at h;rw[List.take_length];have e1:(⟨(encL ((l.take k).map fun x=>fT (enc x))).toArray⟩:ByteArray).size=(encL ((l.take k).map fun x=>fT (enc x))).length:=rfl;have e2:(⟨(encL (l.map fun x=>fT (enc x))).toArray⟩:ByteArray).size=(encL (l.map fun x=>fT (enc x))).length:=rfl;omega
structure KnowR (k:KnowI):Prop where
 f:∀ x∈k.fs,x.f.length≤100 ∧ ∀ c∈x.f,c.pre.size≤1000∧in64 c.lo∧in64 c.hi
 ok:KnowOk k
 sz:(zaf k).size≤90000
attribute [-simp] Tryz.isAgg33 Tryz.isAgg85 Tryz.sizeOf85
theorem rknow_c (w:World) (ua va:Value) (a:KnowI) (ha:KnowAt w ua va a) (hr:KnowR a):Calls Tryz.prog 81 #[.agg #[ua,va]] w (Ret (.string (zaf a)) w):=by
 obtain⟨⟨cs,hcl,hca,hcs⟩,hak⟩:=ha;obtain⟨A,c1,rfl,h1,h2,h3⟩:=zz hcs;obtain⟨C,c3,rfl,p1,p2,p3⟩:=zz hak;obtain⟨fa,ia⟩:=a;unfold maxLen at h2 p2;dsimp only at hcl p1 p2;have hsz:=hr.sz;have hk:zaf ⟨fa,ia⟩=zG (zh zav fa)++zG (zh zZ ia):=rfl;rw[hk] at hsz⊢;rw[ByteArray.size_append] at hsz;have hg1:=zaS (zh zav fa);have hg2:=zaS (zh zZ ia);have HRf:=hid hr.f;have HRo:=hid hr.ok;have HPl:=fun k=>zhV zav fa k;have HQl:=fun k=>zhV zZ ia k;have HTx:=fun W s hs=>hid (zbj W s hs);have HN1:=fun W=>hid (zck W fa.length (by omega))
 have HN2:=fun W=>hid (zck W ia.length (by omega));rw[←zfA zav fa,hcl.symm] at HN1;rw[←zfA zZ ia] at HN2;dsimp only at *;clear hcs hak hk hr;have HX:=hid (Ext.alloc w (.cells #[.slice A cs.length c1,.slice C ia.length c3] 29));have HB1:=hid (Blk.new w 29 #[.slice A cs.length c1,.slice C ia.length c3]);have H3:=hid h3;have P3:=hid p3;have HCL:=hid hcl;have HSz:Hid ((zG (zh zav fa)).size≤90000∧(zG (zh zZ ia)).size≤90000∧(zh zav fa).size≤90000∧(zh zZ ia).size≤90000):=by unfold Hid;omega
 clear h3 p3 hcl hsz hg1 hg2;go_enter Tryz.func81,Tryz.ntmps81;go_wp2_with fail
 generalize w.alloc (.cells #[.slice A cs.length c1,.slice C ia.length c3] 29)=w0 at HB1 HX⊢;have z0:=HB1.out.cell (i:=0) rfl;have y1:=HB1.out.lt;go_wp2_with fail
 refine((HN1 _).out).mono ?_;rintro en w1 ⟨rfl,x1⟩;have HE1:=hid x1;clear x1 z0 y1 HN1;go_wp2_with fail
 go_loopw [3,4] (fun s3 s4 wr=>∃ k:Nat,k≤cs.length∧s3=.string (zcv zav fa k)∧s4=.int .i64 k∧Hid (Ext w0 wr)) (fun _ s4 _=>cs.length-(intOf s4).toNat)
 case atStart=>exact⟨0,by omega,rfl,rfl,HE1⟩
 case round=>
  obtain⟨k,hk,rfl,rfl,hE⟩:=hrel;clear HE1;have z0:=(HB1.out.ext hE.out).cell (i:=0) rfl;have y1:=(HB1.out.ext hE.out).lt;have HXr:=hid (HX.out.trans hE.out);by_cases hk1:k<cs.length
  ·have d1:decide ((k:Int)<cs.length)=true:=decide_eq_true (by omega)
   have d1':decide (k<cs.length)=true:=decide_eq_true hk1;have hka:k<fa.length:=by rw[←HCL.out];exact hk1
   obtain⟨b1,o1,rfl,lb1,g1⟩:=H3.out (by omega);obtain⟨ea,sfa,sna⟩:=hca k cs[k] fa[k] (List.getElem?_eq_getElem hk1) (List.getElem?_eq_getElem hka);have hf:=HRf.out fa[k] (List.getElem_mem hka);have ho:=HRo.out.fs fa[k] (List.getElem_mem hka);have HG:=hid (fun j u (hu:(cs[k].arr)[j]? = some u)=>HXr.out.cell (g1 k hk1 j u (by unfold FragC.arr at hu;simpa using hu)));have hzs:=hid (zbL cs[k]);have HOn:=hid (zbC cs[k]);have HF0:Hid ((cs[k].arr)[0]? = some cs[k].f.val):=by unfold Hid FragC.arr;rw[List.getElem?_toArray];exact fragC_f _
   have HF66:Hid ((cs[k].arr)[66]? = some cs[k].n.val):=by unfold Hid FragC.arr;rw[List.getElem?_toArray];exact zeh _
   have HFv:=hid (fun j v (h:(vecV cs[k].v)[j]? = some v)=>(show(cs[k].arr)[1+j]? = some v by unfold FragC.arr;rw[List.getElem?_toArray];exact zeg cs[k] j v h));have hz1:=hid (show(vecV cs[k].v).size=65 by rw[zj];exact cs[k].hv);have HEn:=fun W=>hid (ze5 W cs[k].v cs[k].hv);have lr1:=Nat.lt_of_lt_of_le lb1 HXr.out.size;have HM:=hid (zfB zav hka);have hl0:=HPl k;have hl1:=HPl (k+1);have hS:=HSz.out;rw[ea] at HFv hz1 HEn;clear g1 lb1 ea hca H3 P3 HRf HRo HPl HQl HSz;generalize cs[k]=c at HG hzs HOn HF0 HF66 HFv sfa sna;generalize fa[k]=x at HFv hz1 HEn sfa sna hf ho HM;generalize c.arr=arr at HG hzs HOn HF0 HF66 HFv
   obtain⟨⟨f1,f2,f3⟩,_,⟨n1,n2,n3⟩,_⟩:=c;simp only[SlV.val] at HF0 HF66 sfa sna;have HFl:=fun W (hW:Ext w W)=>hid (zgj W _ x.f (sfa.ext hW) hf.1 (fun c hc=>hf.2 c hc));have HVn:=fun W (hW:Ext w W)=>hid (zdu W _ x.n (sna.ext hW) ho.l ho.n);have HVv:=fun W u (hu:Sl W 2 u ((endsL x.v).map Ver.cells))=>hid (zdu W u (endsL x.v) hu (by have:=zaQ x.v;omega) (fun y hy=>zcs (zaU ho.v y hy)));have hm:zav x=zG (zh clB x.f)++zG (zh verB (endsL x.v))++zG (zh verB x.n):=rfl;rw[hm] at HM;have hq:=congrArg ByteArray.size HM.out;rw[ByteArray.size_append] at hq
   have hq1:=zaS (zG (zh clB x.f)++zG (zh verB (endsL x.v))++zG (zh verB x.n));have hq2:=zaS (zh clB x.f);have hq3:=zaS (zh verB (endsL x.v));have hq4:=zaS (zh verB x.n);have hq5:(zG (zh clB x.f)++zG (zh verB (endsL x.v))++zG (zh verB x.n)).size=(zG (zh clB x.f)).size+(zG (zh verB (endsL x.v))).size+(zG (zh verB x.n)).size:=by rw[ByteArray.size_append,ByteArray.size_append]
   have hq6:(zG (zh clB x.f)++zG (zh verB (endsL x.v))).size=(zG (zh clB x.f)).size+(zG (zh verB (endsL x.v))).size:=by rw[ByteArray.size_append]
   have HT1:=fun W=>HTx W (zh clB x.f) (by omega);have HT2:=fun W=>HTx W (zh verB (endsL x.v)) (by omega);have HT3:=fun W=>HTx W (zh verB x.n) (by omega);have HT4:=fun W=>HTx W (zG (zh clB x.f)++zG (zh verB (endsL x.v))++zG (zh verB x.n)) (by omega);clear sfa sna hf ho hm HTx;generalize vecV x.v=X at HFv hz1 HEn;generalize endsL x.v=ends at HEn HVv HM HT2 HT4 hq hq1 hq2 hq3 hq4 hq5 hq6;generalize zh clB x.f=F at HFl HM HT1 HT4 hq hq1 hq2 hq3 hq4 hq5 hq6;generalize zh verB ends=V at HVv HM HT2 HT4 hq hq1 hq2 hq3 hq4 hq5 hq6;generalize zh verB x.n=N at HVn HM HT3 HT4 hq hq1 hq2 hq3 hq4 hq5 hq6
   generalize zG F=e1 at HT1 HM HT4 hq hq1 hq2 hq3 hq4 hq5 hq6;generalize zG V=e2 at HT2 HM HT4 hq hq1 hq2 hq3 hq4 hq5 hq6;generalize zG N=e3 at HT3 HM HT4 hq hq1 hq2 hq3 hq4 hq5 hq6;generalize zG (e1++e2++e3)=e4 at HT4 HM hq hq1;generalize hS1:zcv zav fa (k+1)=S1 at HM hl1 hq;have HS1:=hid hS1;clear hS1;generalize zcv zav fa k=S at HM hl0 hq⊢;have q0:S.size≤90000:=by omega
   have q1:(e1++e2).size≤90000:=by omega
   have q2:(e1++e2++e3).size≤90000:=by omega
   have q4:e4.size≤90000:=by omega
   have q5:e1.size≤90000:=by omega
   have q6:e2.size≤90000:=by omega
   have q7:e3.size≤90000:=by omega
   clear hq hq1 hq2 hq3 hq4 hq5 hq6 hl0 hl1 hS;go_wp2_with fail
   simp only[Tryz.sizeOf85,Result.andThen];rw[Oper.upon_value];go_wp2_with fail
   simp only[Tryz.isAgg85,Tryz.sizeOf85,Result.andThen,↓reduceIte,zv HG.out 67 hzs.out];rw[Oper.upon_value];go_wp2_with fail
   have HB3:=hid (Blk.new wr 85 fragZ);simp only[Tryz.sizeOf85,Result.andThen,↓reduceIte,zg HB3.out (by rw[hzs.out];exact zbt) (by rw[hzs.out,zaW]) HOn.out,hzs.out];rw[Oper.upon_skip];rw[World.setRow_alloc_new];have HB2:=hid (Blk.new wr 85 arr);have HE2:=hid (hE.out.trans (Ext.alloc wr (.cells arr 85)));have HX2:=hid (HXr.out.trans (Ext.alloc wr (.cells arr 85)));clear HB3;generalize wr.alloc (.cells arr 85)=w2 at HB2 HE2 HX2⊢;have cf:=HB2.out.cell HF0.out;have cn:=HB2.out.cell HF66.out;have bl:=HB2.out.lt;have HV2:=hid (fun j v (h:X[j]? = some v)=>HB2.out.cell (HFv.out j v h));clear HF0 HF66 HFv HG hzs HOn HXr hE lr1 z0 y1
   go_wp2_with fail
   dsimp only[Act.put];refine zd (by kernel_rfl) (by kernel_rfl) (by kernel_rfl) ?_
   repeat (first
    | (refine AWq.val rfl rfl rfl rfl (fun K hK=>?_);go_big_quiet_op;refine hK _ ?_;clear hK K)
    | (refine AWq.skip rfl rfl rfl ?_;simp only[Act.put,zq6,zq7,zq8])
    | (refine AWq.val rfl rfl rfl rfl (fun K hK=>?_);refine zI rfl rfl (fun wc hwc=>by obtain⟨E,rfl⟩:=hwc;exact zae hz1.out (fun j v hv=>(Ext.of_wext _ _).cell (HV2.out j v hv))) (hK _ ?_);clear hK K;simp only[Act.put,zq6,zq7,zq8])
    | (refine AWq.call rfl Tryz.func80 (by kernel_rfl) (by kernel_rfl) rfl rfl rfl ?_;apply Exists.intro;refine And.intro (fun wc hc=>?_) ?_;(· (simp only[zm,zt,↓reduceIte,Nat.reduceEqDiff,zq1,zq2,zq3,zq4,zq5];with_reducible exact(HFl _ (HX2.out.trans hc)).out));simp only[Act.put,zq6,zq7,zq8])
    | (refine AWq.callQ ((RowAt Ver.cells 2 ends)) ((fun v _ _ he h=>RowAt.ext h he)) rfl Tryz.func83 (by kernel_rfl) (by kernel_rfl) rfl rfl rfl (fun wc hc=>?_) ?_;(· (simp only[zm,zt,↓reduceIte,Nat.reduceEqDiff,zq1,zq2,zq3,zq4,zq5];exact(HEn wc).out)))
    | (refine AWq.call rfl Tryz.func82 (by kernel_rfl) (by kernel_rfl) rfl rfl rfl ?_;apply Exists.intro;refine And.intro (fun wc hc=>?_) ?_;(· (simp only[zm,zt,↓reduceIte,Nat.reduceEqDiff,zq1,zq2,zq3,zq4,zq5];with_reducible exact(HVn _ (HX2.out.trans hc)).out));simp only[Act.put,zq6,zq7,zq8])
    | (refine AWq.call rfl Tryz.func82 (by kernel_rfl) (by kernel_rfl) rfl rfl rfl ?_;apply Exists.intro;refine And.intro (fun wc hc=>?_) ?_;(· (simp only[zm,zt,↓reduceIte,Nat.reduceEqDiff,zq1,zq2,zq3,zq4,zq5];intro y hy;exact(HVv _ _ hy.1).out));simp only[Act.put,zq6,zq7,zq8])
    | (refine AWq.call rfl Tryz.func47 (by kernel_rfl) (by kernel_rfl) rfl rfl rfl ?_;apply Exists.intro;refine And.intro (fun wc hc=>?_) ?_;(· (simp only[zm,zt,↓reduceIte,Nat.reduceEqDiff,zq1,zq2,zq3,zq4,zq5];with_reducible exact(HT1 _).out));simp only[Act.put,zq6,zq7,zq8])
    | (refine AWq.call rfl Tryz.func47 (by kernel_rfl) (by kernel_rfl) rfl rfl rfl ?_;apply Exists.intro;refine And.intro (fun wc hc=>?_) ?_;(· (simp only[zm,zt,↓reduceIte,Nat.reduceEqDiff,zq1,zq2,zq3,zq4,zq5];with_reducible exact(HT2 _).out));simp only[Act.put,zq6,zq7,zq8])
    | (refine AWq.call rfl Tryz.func47 (by kernel_rfl) (by kernel_rfl) rfl rfl rfl ?_;apply Exists.intro;refine And.intro (fun wc hc=>?_) ?_;(· (simp only[zm,zt,↓reduceIte,Nat.reduceEqDiff,zq1,zq2,zq3,zq4,zq5];with_reducible exact(HT3 _).out));simp only[Act.put,zq6,zq7,zq8])
    | (refine AWq.call rfl Tryz.func47 (by kernel_rfl) (by kernel_rfl) rfl rfl rfl ?_;apply Exists.intro;refine And.intro (fun wc hc=>?_) ?_;(· (simp only[zm,zt,↓reduceIte,Nat.reduceEqDiff,zq1,zq2,zq3,zq4,zq5];with_reducible exact(HT4 _).out));simp only[Act.put,zq6,zq7,zq8]))
   refine AWq.done rfl rfl rfl (fun w5 x5=>?_);simp only[zo,Act.put,zq6,zq7,zq8];rintro x9 -;rw[HM.out];clear cf cn bl q1 q2 q4 q5 q6 q7 q0 HT1 HT2 HT3 HT4 HM HFl HVn HVv HEn HV2;go_wp2_with fail
   go_roundw
   case rel=>exact⟨k+1,by omega,by rw[HS1.out],by go_num,HE2.out.trans x5⟩
   case measure=>simp[intOf];omega
  ·obtain rfl:k=cs.length:=by omega
   have hA:=zeB zav fa;rw[←HCL.out] at hA;rw[hA];have hs1:=HSz.out;have HTa:=fun W=>HTx W (zh zav fa) (by omega);have z1:=(HB1.out.ext hE.out).cell (i:=1) rfl;clear hk1 hk HRf H3 hca HPl hA;generalize hSA:zh zav fa=SA at HTa hs1 HSz⊢;have HSA:=hid hSA;clear hSA;go_wp2_with fail
   refine((HN2 _).out).mono ?_;rintro en w2 ⟨rfl,x2⟩;have HE2:=hid (hE.out.trans x2);clear x2 z0 z1 y1 HN2 hE HXr;go_wp2_with fail
   go_loopw [6,7] (fun s6 s7 wq=>∃ j:Nat,j≤ia.length∧s6=.string (zcv zZ ia j)∧s7=.int .i64 j∧Hid (Ext w0 wq)) (fun _ s7 _=>ia.length-(intOf s7).toNat)
   case atStart=>exact⟨0,by omega,rfl,rfl,HE2⟩
   case round=>
    obtain⟨j,hj,rfl,rfl,hQ⟩:=hrel;clear HE2;have z1:=(HB1.out.ext hQ.out).cell (i:=1) rfl;have y1:=(HB1.out.ext hQ.out).lt;have HXq:=hid (HX.out.trans hQ.out);by_cases hja:j<ia.length
    ·have d1:decide ((j:Int)<ia.length)=true:=decide_eq_true (by omega)
     have d1':decide (j<ia.length)=true:=decide_eq_true hja;obtain⟨b1,o1,rfl,lb1,g1⟩:=P3.out (by omega);have ho:=HRo.out.ks ia[j] (List.getElem_mem hja);have ci1:=HXq.out.cell (g1 j hja 0 _ rfl);have ci2:=HXq.out.cell (g1 j hja 1 _ rfl);have HV2:=hid (fun q v (h:(vecV ia[j].v)[q]? = some v)=>(Nat.add_assoc (o1+j*67) 2 q) ▸ HXq.out.cell (g1 j hja (2+q) v (ze8 ia[j] q v h)));have hz1:=hid (show(vecV ia[j].v).size=65 by rw[zj];exact ia[j].hv);have HEn:=fun W=>hid (ze5 W ia[j].v ia[j].hv);have lr1:=Nat.lt_of_lt_of_le lb1 HXq.out.size;have HM:=hid (zfB zZ hja);have hl0:=HQl j;have hl1:=HQl (j+1)
     rw[Nat.add_zero] at ci1;clear g1 lb1 P3 HRo HQl HTa;generalize ia[j]=x at ci1 ci2 HV2 hz1 HEn HM ho;have hi:=ho.i;unfold zaX at hi;have HVr:=fun W=>hid (zdh W x.i hi.1 hi.2);unfold Ver.val at HVr;have HVv:=fun W u (hu:Sl W 2 u ((endsL x.v).map Ver.cells))=>hid (zdu W u (endsL x.v) hu (by have:=zaQ x.v;omega) (fun y hy=>zcs (zaU ho.v y hy)));have hm:zZ x=verB x.i++zG (zh verB (endsL x.v)):=rfl;rw[hm] at HM;have hq:=congrArg ByteArray.size HM.out;rw[ByteArray.size_append] at hq;have hq1:=zaS (verB x.i++zG (zh verB (endsL x.v)));have hq3:=zaS (zh verB (endsL x.v))
     have hq5:(verB x.i++zG (zh verB (endsL x.v))).size=(verB x.i).size+(zG (zh verB (endsL x.v))).size:=by rw[ByteArray.size_append]
     have HT2:=fun W=>HTx W (zh verB (endsL x.v)) (by omega);have HT4:=fun W=>HTx W (verB x.i++zG (zh verB (endsL x.v))) (by omega);clear ho hm hi HTx;generalize vecV x.v=X at HV2 hz1 HEn;generalize endsL x.v=ends at HEn HVv HM HT2 HT4 hq hq1 hq3 hq5;generalize zh verB ends=V at HVv HM HT2 HT4 hq hq1 hq3 hq5;generalize verB x.i=e1 at HVr HM HT4 hq hq1 hq3 hq5;generalize zG V=e2 at HT2 HM HT4 hq hq1 hq3 hq5;generalize zG (e1++e2)=e4 at HT4 HM hq hq1;generalize hS1:zcv zZ ia (j+1)=S1 at HM hl1 hq;have HS1:=hid hS1;clear hS1;generalize zcv zZ ia j=S at HM hl0 hq⊢;have q0:S.size≤90000:=by omega
     have q1:(e1++e2).size≤90000:=by omega
     have q4:e4.size≤90000:=by omega
     have q5:e1.size≤90000:=by omega
     have q6:e2.size≤90000:=by omega
     clear hq hq1 hq3 hq5 hl0 hl1 hs1 HSz;go_wp2_with fail
     refine zd (by kernel_rfl) (by kernel_rfl) (by kernel_rfl) ?_
     repeat (first
      | (refine AWq.val rfl rfl rfl rfl (fun K hK=>?_);go_big_quiet_op;refine hK _ ?_;clear hK K)
      | (refine AWq.skip rfl rfl rfl ?_;simp only[Act.put,zq6,zq7,zq8])
      | (refine AWq.val rfl rfl rfl rfl (fun K hK=>?_);refine zI rfl rfl (fun wc hwc=>by obtain⟨E,rfl⟩:=hwc;exact zae hz1.out (fun j v hv=>(Ext.of_wext _ _).cell (HV2.out j v hv))) (hK _ ?_);clear hK K;simp only[Act.put,zq6,zq7,zq8])
      | (refine AWq.call rfl Tryz.func87 (by kernel_rfl) (by kernel_rfl) rfl rfl rfl ?_;apply Exists.intro;refine And.intro (fun wc hc=>?_) ?_;(· (simp only[zm,zt,↓reduceIte,Nat.reduceEqDiff,zq1,zq2,zq3,zq4,zq5];with_reducible exact(HVr _).out));simp only[Act.put,zq6,zq7,zq8])
      | (refine AWq.callQ ((RowAt Ver.cells 2 ends)) ((fun v _ _ he h=>RowAt.ext h he)) rfl Tryz.func83 (by kernel_rfl) (by kernel_rfl) rfl rfl rfl (fun wc hc=>?_) ?_;(· (simp only[zm,zt,↓reduceIte,Nat.reduceEqDiff,zq1,zq2,zq3,zq4,zq5];exact(HEn wc).out)))
      | (refine AWq.call rfl Tryz.func82 (by kernel_rfl) (by kernel_rfl) rfl rfl rfl ?_;apply Exists.intro;refine And.intro (fun wc hc=>?_) ?_;(· (simp only[zm,zt,↓reduceIte,Nat.reduceEqDiff,zq1,zq2,zq3,zq4,zq5];intro y hy;exact(HVv _ _ hy.1).out));simp only[Act.put,zq6,zq7,zq8])
      | (refine AWq.call rfl Tryz.func47 (by kernel_rfl) (by kernel_rfl) rfl rfl rfl ?_;apply Exists.intro;refine And.intro (fun wc hc=>?_) ?_;(· (simp only[zm,zt,↓reduceIte,Nat.reduceEqDiff,zq1,zq2,zq3,zq4,zq5];with_reducible exact(HT2 _).out));simp only[Act.put,zq6,zq7,zq8])
      | (refine AWq.call rfl Tryz.func47 (by kernel_rfl) (by kernel_rfl) rfl rfl rfl ?_;apply Exists.intro;refine And.intro (fun wc hc=>?_) ?_;(· (simp only[zm,zt,↓reduceIte,Nat.reduceEqDiff,zq1,zq2,zq3,zq4,zq5];with_reducible exact(HT4 _).out));simp only[Act.put,zq6,zq7,zq8]))
     refine AWq.done rfl rfl rfl (fun w5 x5=>?_);simp only[zo,Act.put,zq6,zq7,zq8];rintro x9 -;rw[HM.out];clear ci1 ci2 q1 q4 q5 q6 q0 HT2 HT4 HM HVr HVv HEn HV2 z1 y1 lr1;go_wp2_with fail
     go_roundw
     case rel=>exact⟨j+1,by omega,by rw[HS1.out],by go_num,hQ.out.trans x5⟩
     case measure=>simp[intOf];omega
    ·obtain rfl:j=ia.length:=by omega
     rw[zeB];have hs2:=HSz.out;have HTb:=fun W=>HTx W (zh zZ ia) (by omega);clear hja hj P3 HRo HQl HTx HSz;generalize hSB:zh zZ ia=SB at HTb hs1 hs2⊢;generalize hea:zG SA=ea at HTa hs1 hs2⊢;generalize heb:zG SB=eb at HTb hs1 hs2⊢;have HSB:=hid hSB;have Hea:=hid hea;have Heb:=hid heb;clear hSB hea heb;obtain⟨q1,q2,-,-⟩:=hs2;clear hs1;go_wp2_with fail
     refine((HTa _).out).mono ?_;rintro en w5 ⟨rfl,x5⟩;have X5:=hid x5;clear x5;go_wp2_with fail
     refine((HTb _).out).mono ?_;rintro en w6 ⟨rfl,x6⟩;have X6:=hid (X5.out.trans x6);clear x6;go_wp2_with fail
     go_ret;exact⟨by rw[HSA.out,HSB.out,Hea.out,Heb.out];rfl,HXq.out.trans X6.out⟩
end Go.Proofs.YtofjpdgojoppbaaGreatDoor
