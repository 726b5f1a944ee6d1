/-
  Of the claim's proof: RtB, RtC.
-/
import Derived.Test.YtofjpdgojoppbaaGreatDoorG34
set_option maxRecDepth 100000
set_option maxHeartbeats 16000000
set_option linter.unusedVariables false
set_option linter.unusedSimpArgs false
namespace Go.Proofs.YtofjpdgojoppbaaGreatDoor
section
open Go.RowKit
attribute [-simp] Tryz.isAgg36 Tryz.sizeOf36 Tryz.isAgg33 Tryz.sizeOf33 Tryz.isAgg61 Tryz.sizeOf61
theorem zlB (w:World) (S:SlM) (a:MsgI) (ha:MsgAt w S a) (hok:MsgOk a) (hle:MsgLe a) (ek:a.kind=2):Calls Tryz.prog 9 #[.agg (a.at S).arr] w (Ret (.bool (za6 a)) w):=by
 have d1:(a.kind==1)=false:=by rw[ek];decide
 have m1:(a.kind != 1)=true:=by rw[ek];decide
 have d2:(a.kind==2)=true:=by rw[ek];decide
 have m2:(a.kind != 2)=false:=by rw[ek];decide
 have d3:(a.kind==3)=false:=by rw[ek];decide
 have m3:(a.kind != 3)=true:=by rw[ek];decide
 have d4:(a.kind==4)=false:=by rw[ek];decide
 have m4:(a.kind != 4)=true:=by rw[ek];decide
 have HSi:=fun W=>hid (zca W a.s1 a.s2 a.s3);have HSr:=fun W=>hid (zca W a.r1 a.r2 a.r3);have HEq:=fun W=>zbn a.r1 a.r2 a.r3 0 0 0 W;have HNo:=fun W (hW:Ext w W)=>hid (zfH W S a (ha.ext hW) hok.held hle);have HEm:=fun W (hW:Ext w W)=>hid (zen W S a (ha.ext hW) hok.entl hok.notl);have HA:=hid (zT (a.at S));have HAE:=hid (zab (a.at S));have hz:=hid (zJ (a.at S));have HV:za6 a=(sidB a.s1 a.s2 a.s3&&((a.kind==2||a.kind==3||decide (a.r1=0∧a.r2=0∧a.r3=0))&&((a.kind==4||a.code==0)&&((a.kind==1||zch a)&&((a.kind==2||zbx a)&&zbI a))))):=rfl;rw[d1,d2,d3,d4] at HV
 have HB:zbI a=(a.ents.all zP&&(sidB a.r1 a.r2 a.r3&&(decide (0≤a.seq)&&(decide (a.seq≤1048576)&&(decide (a.ents.length≤256)&&(decide (a.V=cleanL a.V)&&(decide (a.A=cleanL a.A)&&itemsB a.not))))))):=by
  unfold zbI;rw[d1,d2,d3,d4];rfl
 rw[HB] at HV;have HRe:=fun W (e:EntI) (he:e∈a.ents)=>hid (zkn W e (hok.ents e he));have HPv:=fun W=>hid (zd5 W a.V a.hV);have HPa:=fun W=>hid (zd5 W a.A a.hA);have HIt:=fun W (hW:Ext w W)=>hid (zhQ W S.not.val a.not (ha.not.ext hW) hok.notl);have HAV:=hid (fun j v (h:(vecV a.V)[j]? = some v)=>zbJ (a.at S) j v (by simpa[vecV,intsV,MsgI.at] using h));have HAA:=hid (fun j v (h:(vecV a.A)[j]? = some v)=>zbK (a.at S) j v (by simpa[vecV,intsV,MsgI.at] using h));have hVs:=hid (show(vecV a.V).size=65 by rw[zj];exact a.hV);have hAs:=hid (show(vecV a.A).size=65 by rw[zj];exact a.hA);have hel:=hok.entl
 have HEs:=ha.ents;obtain⟨eA,ec,heq,h9,h10,H3⟩:=zz HEs;have H3:=hid H3;unfold maxLen at h10;have a14v:(a.at S).head[14]? = some (.slice eA a.ents.length ec):=by rw[←heq];rfl
 have hnot:S.not.val=(a.at S).not.val:=rfl;obtain⟨nA,nn,nc,hnv⟩:∃ x y z,S.not.val=.slice x y z:=⟨_,_,_,rfl⟩
 rw[hnv] at HIt;have a145v:([(a.at S).not.val,.int .i64 (a.at S).code]:List Value)[0]? = some (.slice nA nn nc):=by rw[←hnot,hnv];rfl
 clear HEs heq hnot hnv;generalize decide (a.V=cleanL a.V)=tv at HV HPv;generalize decide (a.A=cleanL a.A)=ta at HV HPa;generalize itemsB a.not=ti at HV HIt;generalize sidB a.r1 a.r2 a.r3=sr at HV HSr;generalize vecV a.V=VV at HAV hVs HPv;generalize vecV a.A=AA at HAA hAs HPa;have a14:(a.at S).arr[14]? = some (.slice eA a.ents.length ec):=(HA.out 14 (by omega)).trans a14v;have a145:(a.at S).arr[145]? = some (.slice nA nn nc):=(HAE.out 0).trans a145v;clear a14v a145v;generalize za6 a=R at HV⊢;generalize decide (a.r1=0∧a.r2=0∧a.r3=0)=tr at HV HEq;generalize sidB a.s1 a.s2 a.s3=sb at HV HSi;generalize zch a=tn at HV HNo
 generalize zbx a=te at HV HEm;unfold sidV at HSi HSr;generalize (a.at S).arr=ar at HA HAE HNo HEm hz HAV HAA a14 a145⊢;have HBa:=hid (Blk.new w 36 ar);have HX:=hid (Ext.alloc w (.cells ar 36));have a0:ar[0]? = some (.int .i64 a.kind):=HA.out 0 (by omega);have a1:ar[1]? = some (.int .i64 a.s1):=HA.out 1 (by omega);have a2:ar[2]? = some (.int .i64 a.s2):=HA.out 2 (by omega);have a3:ar[3]? = some (.int .i64 a.s3):=HA.out 3 (by omega);have a4:ar[4]? = some (.int .i64 a.r1):=HA.out 4 (by omega);have a5:ar[5]? = some (.int .i64 a.r2):=HA.out 5 (by omega);have a6:ar[6]? = some (.int .i64 a.r3):=HA.out 6 (by omega)
 have a146:ar[146]? = some (.int .i64 a.code):=HAE.out 1;have la:=HBa.out.lt;have c1:=HBa.out.cell a1;have c2:=HBa.out.cell a2;have c3:=HBa.out.cell a3;have a12:ar[12]? = some (.int .i64 a.seq):=HA.out 12 (by omega);have HV:=hid HV;clear HA HAE HB ek ha hok hle;cases sb with
 | false=>
  have HR:Hid (R=false):=by unfold Hid;rw[HV.out];rfl
  clear HV;go_enter Tryz.func9,Tryz.ntmps9;go_wp2_with fail
  refine((HSi _).out).mono ?_;rintro en w2 ⟨rfl,x2⟩;have HX2:=hid (HX.out.trans x2);have c0:=x2.cell (HBa.out.cell a0);clear x2 c1 c2 c3;go_wp2_with fail
  go_ret;exact⟨by rw[HR.out];rfl,HX2.out⟩
 | true=>
 by_cases hcode:a.code=0
 rotate_left
 ·have m5:(a.code != 0)=true:=by simpa using hcode
  have e5:(a.code==0)=false:=by simpa using hcode
  go_enter Tryz.func9,Tryz.ntmps9;go_wp2_with fail
  refine((HSi _).out).mono ?_;rintro en w2 ⟨rfl,x2⟩;have HX2:=hid (HX.out.trans x2);have HB2:=hid (HBa.out.ext x2);clear x2 c1 c2 c3 la HX HBa;have c0:=HB2.out.cell a0;have c4:=HB2.out.cell a4;have c5:=HB2.out.cell a5;have c6:=HB2.out.cell a6;have c146:=HB2.out.cell a146;have la:=HB2.out.lt;have HR:Hid (R=false):=by unfold Hid;rw[HV.out,e5];simp
  clear HV;go_wp2_with fail
  go_ret;exact⟨by rw[HR.out];rfl,HX2.out⟩
 have m5:(a.code != 0)=false:=by rw[hcode];rfl
 have e5:(a.code==0)=true:=by rw[hcode];rfl
 cases tn with
 | false=>
  go_enter Tryz.func9,Tryz.ntmps9;go_wp2_with fail
  refine((HSi _).out).mono ?_;rintro en w2 ⟨rfl,x2⟩;have HX2:=hid (HX.out.trans x2);have HB2:=hid (HBa.out.ext x2);clear x2 c1 c2 c3 la HX HBa;have c0:=HB2.out.cell a0;have c4:=HB2.out.cell a4;have c5:=HB2.out.cell a5;have c6:=HB2.out.cell a6;have c146:=HB2.out.cell a146;have la:=HB2.out.lt;go_wp2_with fail
  simp only[Tryz.isAgg36,Tryz.sizeOf36,Result.andThen,↓reduceIte,za HB2.out 147 hz.out];rw[Oper.upon_value];go_wp2_with fail
  refine((HNo _ HX2.out).out).mono ?_;rintro en w3 ⟨rfl,x3⟩;have HX3:=hid (HX2.out.trans x3);have HB3:=hid (HB2.out.ext x3);clear x3 HB2 c0 c4 c5 c6 c146 la;have c0:=HB3.out.cell a0;have c4:=HB3.out.cell a4;have c5:=HB3.out.cell a5;have c6:=HB3.out.cell a6;have c146:=HB3.out.cell a146;have la:=HB3.out.lt;have HR:Hid (R=false):=by unfold Hid;rw[HV.out,e5];simp
  clear HV;go_wp2_with fail
  go_ret;exact⟨by rw[HR.out];rfl,HX3.out⟩
 | true=>
 go_enter Tryz.func9,Tryz.ntmps9;go_wp2_with fail
 refine((HSi _).out).mono ?_;rintro en w2 ⟨rfl,x2⟩;have HX2:=hid (HX.out.trans x2);have HB2:=hid (HBa.out.ext x2);clear x2 c1 c2 c3 la HX HBa;have c0:=HB2.out.cell a0;have c4:=HB2.out.cell a4;have c5:=HB2.out.cell a5;have c6:=HB2.out.cell a6;have c146:=HB2.out.cell a146;have la:=HB2.out.lt;go_wp2_with fail
 simp only[Tryz.isAgg36,Tryz.sizeOf36,Result.andThen,↓reduceIte,za HB2.out 147 hz.out];rw[Oper.upon_value];go_wp2_with fail
 refine((HNo _ HX2.out).out).mono ?_;rintro en w3 ⟨rfl,x3⟩;have HX3:=hid (HX2.out.trans x3);have HB3:=hid (HB2.out.ext x3);clear x3 HB2 c0 c4 c5 c6 c146 la;have c0:=HB3.out.cell a0;have c4:=HB3.out.cell a4;have c5:=HB3.out.cell a5;have c6:=HB3.out.cell a6;have c146:=HB3.out.cell a146;have la:=HB3.out.lt;clear c4 c5 c6 c146;have c14:=HB3.out.cell a14;go_wp2_with fail
 go_loopw [4] (fun s4 wr=>∃ k:Nat,k≤a.ents.length∧s4=.int .i64 k∧Hid (Ext w3 wr)∧Hid ((a.ents.take k).all zP=true)) (fun s4 _=>a.ents.length-(intOf s4).toNat)
 case atStart=>exact⟨0,by omega,rfl,Ext.refl _,rfl⟩
 case round=>
  obtain⟨k,hk,rfl,hE,hG⟩:=hrel;clear c14 la c0;have HBr:=hid (HB3.out.ext hE.out);have HXr:=hid (HX3.out.trans hE.out);have c14:=HBr.out.cell a14;have la:=HBr.out.lt;by_cases hlt:k<a.ents.length
  ·have d1:decide ((k:Int)<a.ents.length)=true:=decide_eq_true (by omega)
   have d1':decide (k<a.ents.length)=true:=decide_eq_true hlt;obtain⟨b,o,rfl,lb,hcell⟩:=H3.out (by omega);have lbr:=Nat.lt_of_lt_of_le lb HXr.out.size;have HR1:=hid (fun(q:Nat) u (hu:a.ents[k].arr[q]? = some u)=>HXr.out.cell (hcell k hlt q u (by rw[←zbZ,Array.getElem?_toList];exact hu)));have hzE:=hid (zaG a.ents[k]);have HC:=fun W=>HRe W a.ents[k] (List.getElem_mem hlt);have HGy:Hid (zP a.ents[k]=true→(a.ents.take (k+1)).all zP=true):=fun h=>by rw[List.take_succ_eq_append_getElem hlt,List.all_append,hG.out];simp[h]
   have HGn:Hid (zP a.ents[k]=false→a.ents.all zP=false):=fun h=>by
    rw[List.all_eq_false];exact⟨_,List.getElem_mem hlt,by simp[h]⟩
   clear hcell H3 HRe lb;generalize zP a.ents[k]=rx at HC HGy HGn;generalize a.ents[k].arr=XE at HR1 hzE HC;have hgen:=trivial;go_wp2_with fail
   simp only[Tryz.sizeOf61,Result.andThen];rw[Oper.upon_value];go_wp2_with fail
   simp only[Tryz.isAgg61,Tryz.sizeOf61,Result.andThen,↓reduceIte,zv HR1.out 21 hzE.out];rw[Oper.upon_value];go_wp2_with fail
   refine((HC _).out).mono ?_;rintro en w8 ⟨rfl,x8⟩;have hE8:=hid (hE.out.trans x8);have HX8:=hid (HXr.out.trans x8);clear x8 c14 la HBr HXr hE HC;cases rx with
   | false=>
    have hall:=HGn.out rfl;have HR:Hid (R=false):=by unfold Hid;rw[HV.out,hall];simp
    clear HV hall;go_wp2_with fail
    go_ret;exact⟨by rw[HR.out];rfl,HX8.out⟩
   | true=>
    have HG:=hid (HGy.out rfl);clear HGy HGn hG;go_wp2_with fail
    go_roundw
    case rel=>exact⟨k+1,by omega,by go_num,hE8,HG⟩
    case measure=>simp[intOf];omega
  ·obtain rfl:k=a.ents.length:=by omega
   rw[List.take_length] at hG;have d1:decide ((a.ents.length:Int)<a.ents.length)=false:=decide_eq_false (by omega);have d1':decide (a.ents.length<a.ents.length)=false:=decide_eq_false (by omega);rw[hG.out] at HV;clear H3 HRe hlt hE;have c4:=HBr.out.cell a4;have c5:=HBr.out.cell a5;have c6:=HBr.out.cell a6;go_wp2_with fail
   refine((HSr _).out).mono ?_;rintro en w8 ⟨rfl,x8⟩;have HX8:=hid (HXr.out.trans x8);have HB8:=hid (HBr.out.ext x8);clear x8 c4 c5 c6 c14 la HBr HXr;have c12:=HB8.out.cell a12;have c14:=HB8.out.cell a14;have la:=HB8.out.lt;have HLa:=hid (fun j v (h:VV[j]? = some v)=>HB8.out.cell (HAV.out j v h));cases sr with
   | false=>
    have HR:Hid (R=false):=by unfold Hid;rw[HV.out];simp
    clear HV;go_wp2_with fail
    go_ret;exact⟨by rw[HR.out];rfl,HX8.out⟩
   | true=>
   by_cases q1:0≤a.seq
   rotate_left
   ·have e1:decide (0≤a.seq)=false:=decide_eq_false q1
    have HR:Hid (R=false):=by unfold Hid;rw[HV.out,e1];simp
    clear HV;go_wp2_with fail
    go_ret;exact⟨by rw[HR.out];rfl,HX8.out⟩
   have e1:decide (0≤a.seq)=true:=decide_eq_true q1;by_cases q2:a.seq≤1048576
   rotate_left
   ·have e2:decide (a.seq≤1048576)=false:=decide_eq_false q2
    have HR:Hid (R=false):=by unfold Hid;rw[HV.out,e2];simp
    clear HV;go_wp2_with fail
    go_ret;exact⟨by rw[HR.out];rfl,HX8.out⟩
   have e2:decide (a.seq≤1048576)=true:=decide_eq_true q2;by_cases q3:a.ents.length≤256
   rotate_left
   ·have e3:decide ((a.ents.length:Int)≤256)=false:=decide_eq_false (by omega)
    have e3':decide (a.ents.length≤256)=false:=decide_eq_false q3;have HR:Hid (R=false):=by unfold Hid;rw[HV.out,e3'];simp
    clear HV;go_wp2_with fail
    go_ret;exact⟨by rw[HR.out];rfl,HX8.out⟩
   have e3:decide ((a.ents.length:Int)≤256)=true:=decide_eq_true (by omega);have e3':decide (a.ents.length≤256)=true:=decide_eq_true q3;rw[e1,e2,e3'] at HV;clear q1 q2 q3;go_wp2_with fail
   simp only[Tryz.sizeOf33,Result.andThen];rw[if_neg (show ¬ (65:Nat)=0 by omega)];dsimp only;rw[Oper.upon_value];go_wp2_with fail
   simp only[Tryz.isAgg33,Tryz.sizeOf33,Result.andThen,↓reduceIte,zv HLa.out 65 hVs.out];rw[Oper.upon_value];go_wp2_with fail
   refine((HPv _).out).mono ?_;rintro en w9 ⟨rfl,x9⟩;have HX9:=hid (HX8.out.trans x9);have HB9:=hid (HB8.out.ext x9);clear x9 c12 c14 la HB8 HX8 HLa;have la:=HB9.out.lt;have HMa:=hid (fun j v (h:AA[j]? = some v)=>HB9.out.cell (HAA.out j v h));cases tv with
   | false=>
    have HR:Hid (R=false):=by unfold Hid;rw[HV.out];simp
    clear HV;go_wp2_with fail
    go_ret;exact⟨by rw[HR.out];rfl,HX9.out⟩
   | true=>
   go_wp2_with fail
   simp only[Tryz.sizeOf33,Result.andThen];rw[if_neg (show ¬ (65:Nat)=0 by omega)];dsimp only;rw[Oper.upon_value];go_wp2_with fail
   simp only[Tryz.isAgg33,Tryz.sizeOf33,Result.andThen,↓reduceIte,zv HMa.out 65 hAs.out];rw[Oper.upon_value];go_wp2_with fail
   refine((HPa _).out).mono ?_;rintro en w10 ⟨rfl,x10⟩;have HX10:=hid (HX9.out.trans x10);have HB10:=hid (HB9.out.ext x10);clear x10 la HB9 HX9 HMa;have la:=HB10.out.lt;have c145:=HB10.out.cell a145;cases ta with
   | false=>
    have HR:Hid (R=false):=by unfold Hid;rw[HV.out];simp
    clear HV;go_wp2_with fail
    go_ret;exact⟨by rw[HR.out];rfl,HX10.out⟩
   | true=>
   have HR:Hid (R=ti):=by unfold Hid;rw[HV.out,e5];simp
   clear HV;go_wp2_with fail
   refine((HIt _ HX10.out).out).mono ?_;rintro en w11 ⟨rfl,x11⟩;have HX11:=hid (HX10.out.trans x11);clear x11 la c145;go_wp2_with fail
   go_ret;exact⟨by rw[HR.out];rfl,HX11.out⟩
end
section
open Go.RowKit
attribute [-simp] Tryz.isAgg36 Tryz.sizeOf36 Tryz.isAgg33 Tryz.sizeOf33
theorem zlC (w:World) (S:SlM) (a:MsgI) (ha:MsgAt w S a) (hok:MsgOk a) (hle:MsgLe a) (ek:a.kind=1):Calls Tryz.prog 9 #[.agg (a.at S).arr] w (Ret (.bool (za6 a)) w):=by
 have d1:(a.kind==1)=true:=by rw[ek];decide
 have m1:(a.kind != 1)=false:=by rw[ek];decide
 have d2:(a.kind==2)=false:=by rw[ek];decide
 have m2:(a.kind != 2)=true:=by rw[ek];decide
 have d3:(a.kind==3)=false:=by rw[ek];decide
 have m3:(a.kind != 3)=true:=by rw[ek];decide
 have d4:(a.kind==4)=false:=by rw[ek];decide
 have m4:(a.kind != 4)=true:=by rw[ek];decide
 have HSi:=fun W=>hid (zca W a.s1 a.s2 a.s3);have HSr:=fun W=>hid (zca W a.r1 a.r2 a.r3);have HEq:=fun W=>zbn a.r1 a.r2 a.r3 0 0 0 W;have HNo:=fun W (hW:Ext w W)=>hid (zfH W S a (ha.ext hW) hok.held hle);have HEm:=fun W (hW:Ext w W)=>hid (zen W S a (ha.ext hW) hok.entl hok.notl);have HA:=hid (zT (a.at S));have HAE:=hid (zab (a.at S));have hz:=hid (zJ (a.at S));have HV:za6 a=(sidB a.s1 a.s2 a.s3&&((a.kind==2||a.kind==3||decide (a.r1=0∧a.r2=0∧a.r3=0))&&((a.kind==4||a.code==0)&&((a.kind==1||zch a)&&((a.kind==2||zbx a)&&zbI a))))):=rfl;rw[d1,d2,d3,d4] at HV
 have HB:zbI a=(zcD a.held&&(decide (a.held.length≤256)&&(zM a.f&&mayB a.k))):=by
  unfold zbI;rw[d1,d2,d3,d4];rfl
 rw[HB] at HV;have HCl:=fun W (hW:Ext w W)=>hid (zfw W S.f.val a.f (ha.f.ext hW) hok.f);have HKr:=fun W (hW:Ext w W)=>hid (ziU W S.k1.val S.k2.val a.k (ha.k.ext hW) hok.k.fsz);have hhl:=hok.held;have HHs:=ha.held;obtain⟨eA,ec,heq,h9,h10,H3⟩:=zz HHs;have H3:=hid H3;unfold maxLen at h10;have a11v:(a.at S).head[11]? = some (.slice eA a.held.length ec):=by rw[←heq];rfl
 obtain⟨fA,fn,fc,hfv⟩:∃ x y z,S.f.val=.slice x y z:=⟨_,_,_,rfl⟩
 obtain⟨xA,xn,xc,hxv⟩:∃ x y z,S.k1.val=.slice x y z:=⟨_,_,_,rfl⟩
 obtain⟨yA,yn,yc,hyv⟩:∃ x y z,S.k2.val=.slice x y z:=⟨_,_,_,rfl⟩
 rw[hfv] at HCl;rw[hxv,hyv] at HKr;have a8v:(a.at S).head[8]? = some (.slice fA fn fc):=by rw[←hfv];rfl
 have a9v:(a.at S).head[9]? = some (.slice xA xn xc):=by rw[←hxv];rfl
 have a10v:(a.at S).head[10]? = some (.slice yA yn yc):=by rw[←hyv];rfl
 clear HHs heq hfv hxv hyv;generalize zM a.f=tc at HV HCl;generalize mayB a.k=tk at HV HKr;have a11:(a.at S).arr[11]? = some (.slice eA a.held.length ec):=(HA.out 11 (by omega)).trans a11v;have a8:(a.at S).arr[8]? = some (.slice fA fn fc):=(HA.out 8 (by omega)).trans a8v;have a9:(a.at S).arr[9]? = some (.slice xA xn xc):=(HA.out 9 (by omega)).trans a9v;have a10:(a.at S).arr[10]? = some (.slice yA yn yc):=(HA.out 10 (by omega)).trans a10v;clear a8v a9v a10v a11v;generalize za6 a=R at HV⊢;generalize decide (a.r1=0∧a.r2=0∧a.r3=0)=tr at HV HEq;generalize sidB a.s1 a.s2 a.s3=sb at HV HSi;generalize zch a=tn at HV HNo
 generalize zbx a=te at HV HEm;unfold sidV at HSi HSr;generalize (a.at S).arr=ar at HA HAE HNo HEm hz a8 a9 a10 a11⊢;have HBa:=hid (Blk.new w 36 ar);have HX:=hid (Ext.alloc w (.cells ar 36));have a0:ar[0]? = some (.int .i64 a.kind):=HA.out 0 (by omega);have a1:ar[1]? = some (.int .i64 a.s1):=HA.out 1 (by omega);have a2:ar[2]? = some (.int .i64 a.s2):=HA.out 2 (by omega);have a3:ar[3]? = some (.int .i64 a.s3):=HA.out 3 (by omega);have a4:ar[4]? = some (.int .i64 a.r1):=HA.out 4 (by omega);have a5:ar[5]? = some (.int .i64 a.r2):=HA.out 5 (by omega);have a6:ar[6]? = some (.int .i64 a.r3):=HA.out 6 (by omega)
 have a146:ar[146]? = some (.int .i64 a.code):=HAE.out 1;have la:=HBa.out.lt;have c1:=HBa.out.cell a1;have c2:=HBa.out.cell a2;have c3:=HBa.out.cell a3;have HV:=hid HV;clear HA HAE HB ek ha hok hle;cases sb with
 | false=>
  have HR:Hid (R=false):=by unfold Hid;rw[HV.out];rfl
  clear HV;go_enter Tryz.func9,Tryz.ntmps9;go_wp2_with fail
  refine((HSi _).out).mono ?_;rintro en w2 ⟨rfl,x2⟩;have HX2:=hid (HX.out.trans x2);have c0:=x2.cell (HBa.out.cell a0);clear x2 c1 c2 c3;go_wp2_with fail
  go_ret;exact⟨by rw[HR.out];rfl,HX2.out⟩
 | true=>
 cases tr with
 | false=>
  go_enter Tryz.func9,Tryz.ntmps9;go_wp2_with fail
  refine((HSi _).out).mono ?_;rintro en w2 ⟨rfl,x2⟩;have HX2:=hid (HX.out.trans x2);have HB2:=hid (HBa.out.ext x2);clear x2 c1 c2 c3 la HX HBa;have c0:=HB2.out.cell a0;have c4:=HB2.out.cell a4;have c5:=HB2.out.cell a5;have c6:=HB2.out.cell a6;have c146:=HB2.out.cell a146;have la:=HB2.out.lt;have HR:Hid (R=false):=by unfold Hid;rw[HV.out];simp
  clear HV;go_wp2_with fail
  go_ret;exact⟨by rw[HR.out];rfl,HX2.out⟩
 | true=>
 by_cases hcode:a.code=0
 rotate_left
 ·have m5:(a.code != 0)=true:=by simpa using hcode
  have e5:(a.code==0)=false:=by simpa using hcode
  go_enter Tryz.func9,Tryz.ntmps9;go_wp2_with fail
  refine((HSi _).out).mono ?_;rintro en w2 ⟨rfl,x2⟩;have HX2:=hid (HX.out.trans x2);have HB2:=hid (HBa.out.ext x2);clear x2 c1 c2 c3 la HX HBa;have c0:=HB2.out.cell a0;have c4:=HB2.out.cell a4;have c5:=HB2.out.cell a5;have c6:=HB2.out.cell a6;have c146:=HB2.out.cell a146;have la:=HB2.out.lt;have HR:Hid (R=false):=by unfold Hid;rw[HV.out,e5];simp
  clear HV;go_wp2_with fail
  go_ret;exact⟨by rw[HR.out];rfl,HX2.out⟩
 have m5:(a.code != 0)=false:=by rw[hcode];rfl
 have e5:(a.code==0)=true:=by rw[hcode];rfl
 cases te with
 | false=>
  go_enter Tryz.func9,Tryz.ntmps9;go_wp2_with fail
  refine((HSi _).out).mono ?_;rintro en w2 ⟨rfl,x2⟩;have HX2:=hid (HX.out.trans x2);have HB2:=hid (HBa.out.ext x2);clear x2 c1 c2 c3 la HX HBa;have c0:=HB2.out.cell a0;have c4:=HB2.out.cell a4;have c5:=HB2.out.cell a5;have c6:=HB2.out.cell a6;have c146:=HB2.out.cell a146;have la:=HB2.out.lt;go_wp2_with fail
  simp only[Tryz.isAgg36,Tryz.sizeOf36,Result.andThen,↓reduceIte,za HB2.out 147 hz.out];rw[Oper.upon_value];go_wp2_with fail
  refine((HEm _ HX2.out).out).mono ?_;rintro en w3 ⟨rfl,x3⟩;have HX3:=hid (HX2.out.trans x3);have HB3:=hid (HB2.out.ext x3);clear x3 HB2 c0 c4 c5 c6 c146 la;have c0:=HB3.out.cell a0;have c4:=HB3.out.cell a4;have c5:=HB3.out.cell a5;have c6:=HB3.out.cell a6;have c146:=HB3.out.cell a146;have la:=HB3.out.lt;have HR:Hid (R=false):=by unfold Hid;rw[HV.out,e5];simp
  clear HV;go_wp2_with fail
  go_ret;exact⟨by rw[HR.out];rfl,HX3.out⟩
 | true=>
 go_enter Tryz.func9,Tryz.ntmps9;go_wp2_with fail
 refine((HSi _).out).mono ?_;rintro en w2 ⟨rfl,x2⟩;have HX2:=hid (HX.out.trans x2);have HB2:=hid (HBa.out.ext x2);clear x2 c1 c2 c3 la HX HBa;have c0:=HB2.out.cell a0;have c4:=HB2.out.cell a4;have c5:=HB2.out.cell a5;have c6:=HB2.out.cell a6;have c146:=HB2.out.cell a146;have la:=HB2.out.lt;go_wp2_with fail
 simp only[Tryz.isAgg36,Tryz.sizeOf36,Result.andThen,↓reduceIte,za HB2.out 147 hz.out];rw[Oper.upon_value];go_wp2_with fail
 refine((HEm _ HX2.out).out).mono ?_;rintro en w3 ⟨rfl,x3⟩;have HX3:=hid (HX2.out.trans x3);have HB3:=hid (HB2.out.ext x3);clear x3 HB2 c0 c4 c5 c6 c146 la;have c0:=HB3.out.cell a0;have c4:=HB3.out.cell a4;have c5:=HB3.out.cell a5;have c6:=HB3.out.cell a6;have c146:=HB3.out.cell a146;have la:=HB3.out.lt;clear c4 c5 c6 c146;have c11:=HB3.out.cell a11;go_wp2_with fail
 go_loopw [3] (fun s3 wr=>∃ k:Nat,k≤a.held.length∧s3=.int .i64 k∧Hid (Ext w3 wr)∧Hid ((List.range k).all (okAt a.held)=true)) (fun s3 _=>a.held.length-(intOf s3).toNat)
 case atStart=>exact⟨0,by omega,rfl,Ext.refl _,rfl⟩
 case round=>
  obtain⟨k,hk,rfl,hE,hG⟩:=hrel;clear c11 la c0;have HBr:=hid (HB3.out.ext hE.out);have HXr:=hid (HX3.out.trans hE.out);have c11:=HBr.out.cell a11;have la:=HBr.out.lt;by_cases hlt:k<a.held.length
  ·have d1:decide ((k:Int)<a.held.length)=true:=decide_eq_true (by omega)
   have d1':decide (k<a.held.length)=true:=decide_eq_true hlt;obtain⟨b,o,rfl,lb,hcell⟩:=H3.out (by omega);have lbr:=Nat.lt_of_lt_of_le lb HXr.out.size;clear HCl HKr;rcases k with _ | j
   ·have p0:=HXr.out.cell (hcell 0 hlt 0 _ rfl)
    have p1:=HXr.out.cell (hcell 0 hlt 1 _ rfl);have p2:=HXr.out.cell (hcell 0 hlt 2 _ rfl);have p3:=HXr.out.cell (hcell 0 hlt 3 _ rfl);simp only[Nat.zero_mul,Nat.add_zero] at p0 p1 p2 p3;have HG0:Hid (okAt a.held 0=true→(List.range (0+1)).all (okAt a.held)=true):=fun h=>by rw[zcZ,h];rfl
    have HX0:Hid (okAt a.held 0=false→zcD a.held=false):=fun h=>zd8 hlt h;have HO:=hid (zgm hlt);clear hcell H3 lb hG;generalize a.held[0]=x at p0 p1 p2 p3 HO;have HP:=fun W=>hid (zez W x);have HB:=fun W=>hid (zeA x.a x.a W);cases hp:zaT x with
    | true=>
     rw[hp] at HP HO;have HG:=hid (HG0.out HO.out);clear HG0 HX0 HO hp;unfold PairI.val at HP;go_wp2_with fail
     refine zd (by kernel_rfl) (by kernel_rfl) (by kernel_rfl) ?_
     repeat (first
      | (refine AWq.val rfl rfl rfl rfl (fun K hK=>?_);go_big_quiet_op;refine hK _ ?_;clear hK K)
      | (refine AWq.skip rfl rfl rfl ?_;simp only[Act.put,zq6,zq7,zq8])
      | (refine AWq.call rfl Tryz.func29 (by kernel_rfl) (by kernel_rfl) rfl rfl rfl ?_;apply Exists.intro;refine And.intro (fun wc hc=>?_) ?_;(· (simp only[zm,zt,↓reduceIte,Nat.reduceEqDiff,zq1,zq2,zq3,zq4,zq5];with_reducible exact(HP _).out));simp only[Act.put,zq6,zq7,zq8])
      | (refine AWq.call rfl Tryz.func30 (by kernel_rfl) (by kernel_rfl) rfl rfl rfl ?_;apply Exists.intro;refine And.intro (fun wc hc=>?_) ?_;(· (simp only[zm,zt,↓reduceIte,Nat.reduceEqDiff,zq1,zq2,zq3,zq4,zq5];with_reducible exact(HB _).out));simp only[Act.put,zq6,zq7,zq8]))
     refine AWq.done rfl rfl rfl (fun w5 x5=>?_);simp only[zo,Act.put,zq6,zq7,zq8];go_wp2_with fail
     go_roundw
     case rel=>exact⟨0+1,by omega,by go_num,hE.out.trans x5,HG.out⟩
     case measure=>simp[intOf];omega
    | false=>
     rw[hp] at HP HO;have hbad:=HX0.out HO.out;have HR:Hid (R=false):=by unfold Hid;rw[HV.out,hbad];simp
     clear HG0 HX0 HO hp HV hbad;unfold PairI.val at HP;go_wp2_with fail
     refine zd (by kernel_rfl) (by kernel_rfl) (by kernel_rfl) ?_
     repeat (first
      | (refine AWq.val rfl rfl rfl rfl (fun K hK=>?_);go_big_quiet_op;refine hK _ ?_;clear hK K)
      | (refine AWq.skip rfl rfl rfl ?_;simp only[Act.put,zq6,zq7,zq8])
      | (refine AWq.call rfl Tryz.func29 (by kernel_rfl) (by kernel_rfl) rfl rfl rfl ?_;apply Exists.intro;refine And.intro (fun wc hc=>?_) ?_;(· (simp only[zm,zt,↓reduceIte,Nat.reduceEqDiff,zq1,zq2,zq3,zq4,zq5];with_reducible exact(HP _).out));simp only[Act.put,zq6,zq7,zq8])
      | (refine AWq.call rfl Tryz.func30 (by kernel_rfl) (by kernel_rfl) rfl rfl rfl ?_;apply Exists.intro;refine And.intro (fun wc hc=>?_) ?_;(· (simp only[zm,zt,↓reduceIte,Nat.reduceEqDiff,zq1,zq2,zq3,zq4,zq5];with_reducible exact(HB _).out));simp only[Act.put,zq6,zq7,zq8]))
     refine AWq.done rfl rfl rfl (fun w5 x5=>?_);simp only[zo,Act.put,zq6,zq7,zq8];go_wp2_with fail
     go_ret;exact⟨by rw[HR.out];rfl,HXr.out.trans x5⟩
   ·have p0:=HXr.out.cell (hcell (j+1) hlt 0 _ rfl)
    have p1:=HXr.out.cell (hcell (j+1) hlt 1 _ rfl);have p2:=HXr.out.cell (hcell (j+1) hlt 2 _ rfl);have p3:=HXr.out.cell (hcell (j+1) hlt 3 _ rfl);have e0:=HXr.out.cell (hcell j (by omega) 0 _ rfl);have e1:=HXr.out.cell (hcell j (by omega) 1 _ rfl);rw[Nat.add_zero] at p0 e0;have HG0:Hid (okAt a.held (j+1)=true→(List.range (j+1+1)).all (okAt a.held)=true):=fun h=>by rw[zcZ,h,hG.out];rfl
    have HX0:Hid (okAt a.held (j+1)=false→zcD a.held=false):=fun h=>zd8 hlt h;have HO:=hid (zgn hlt);clear hcell H3 lb hG;generalize a.held[j+1]=x at p0 p1 p2 p3 HO;generalize a.held[j]'(by omega)=y at e0 e1 HO;have HP:=fun W=>hid (zez W x);have HB:=fun W=>hid (zeA y.a x.a W);unfold Ver.val at HB;have d0:decide ((0:Int)<(j:Int)+1)=true:=decide_eq_true (by omega);cases hp:zaT x with
    | true=>
     rw[hp] at HP HO;cases ht:y.a.lt x.a with
     | true=>
      rw[ht] at HB HO;have HG:=hid (HG0.out HO.out);clear HG0 HX0 HO hp ht;unfold PairI.val at HP;go_wp2_with fail
      refine zd (by kernel_rfl) (by kernel_rfl) (by kernel_rfl) ?_
      repeat (first
       | (refine AWq.val rfl rfl rfl rfl (fun K hK=>?_);go_big_quiet_op;refine hK _ ?_;clear hK K)
       | (refine AWq.skip rfl rfl rfl ?_;simp only[Act.put,zq6,zq7,zq8])
       | (refine AWq.call rfl Tryz.func29 (by kernel_rfl) (by kernel_rfl) rfl rfl rfl ?_;apply Exists.intro;refine And.intro (fun wc hc=>?_) ?_;(· (simp only[zm,zt,↓reduceIte,Nat.reduceEqDiff,zq1,zq2,zq3,zq4,zq5];with_reducible exact(HP _).out));simp only[Act.put,zq6,zq7,zq8])
       | (refine AWq.call rfl Tryz.func30 (by kernel_rfl) (by kernel_rfl) rfl rfl rfl ?_;apply Exists.intro;refine And.intro (fun wc hc=>?_) ?_;(· (simp only[zm,zt,↓reduceIte,Nat.reduceEqDiff,zq1,zq2,zq3,zq4,zq5];with_reducible exact(HB _).out));simp only[Act.put,zq6,zq7,zq8]))
      refine AWq.done rfl rfl rfl (fun w5 x5=>?_);simp only[zo,Act.put,zq6,zq7,zq8];go_wp2_with fail
      go_roundw
      case rel=>exact⟨j+1+1,by omega,by go_num,hE.out.trans x5,HG.out⟩
      case measure=>simp[intOf];omega
     | false=>
      rw[ht] at HB HO;have hbad:=HX0.out HO.out;have HR:Hid (R=false):=by unfold Hid;rw[HV.out,hbad];simp
      clear HG0 HX0 HO hp ht HV hbad;unfold PairI.val at HP;go_wp2_with fail
      refine zd (by kernel_rfl) (by kernel_rfl) (by kernel_rfl) ?_
      repeat (first
       | (refine AWq.val rfl rfl rfl rfl (fun K hK=>?_);go_big_quiet_op;refine hK _ ?_;clear hK K)
       | (refine AWq.skip rfl rfl rfl ?_;simp only[Act.put,zq6,zq7,zq8])
       | (refine AWq.call rfl Tryz.func29 (by kernel_rfl) (by kernel_rfl) rfl rfl rfl ?_;apply Exists.intro;refine And.intro (fun wc hc=>?_) ?_;(· (simp only[zm,zt,↓reduceIte,Nat.reduceEqDiff,zq1,zq2,zq3,zq4,zq5];with_reducible exact(HP _).out));simp only[Act.put,zq6,zq7,zq8])
       | (refine AWq.call rfl Tryz.func30 (by kernel_rfl) (by kernel_rfl) rfl rfl rfl ?_;apply Exists.intro;refine And.intro (fun wc hc=>?_) ?_;(· (simp only[zm,zt,↓reduceIte,Nat.reduceEqDiff,zq1,zq2,zq3,zq4,zq5];with_reducible exact(HB _).out));simp only[Act.put,zq6,zq7,zq8]))
      refine AWq.done rfl rfl rfl (fun w5 x5=>?_);simp only[zo,Act.put,zq6,zq7,zq8];go_wp2_with fail
      go_ret;exact⟨by rw[HR.out];rfl,HXr.out.trans x5⟩
    | false=>
     rw[hp] at HP HO;have hbad:=HX0.out (by rw[HO.out];rfl);have HR:Hid (R=false):=by unfold Hid;rw[HV.out,hbad];simp
     clear HG0 HX0 HO hp HV hbad;unfold PairI.val at HP;go_wp2_with fail
     refine zd (by kernel_rfl) (by kernel_rfl) (by kernel_rfl) ?_
     repeat (first
      | (refine AWq.val rfl rfl rfl rfl (fun K hK=>?_);go_big_quiet_op;refine hK _ ?_;clear hK K)
      | (refine AWq.skip rfl rfl rfl ?_;simp only[Act.put,zq6,zq7,zq8])
      | (refine AWq.call rfl Tryz.func29 (by kernel_rfl) (by kernel_rfl) rfl rfl rfl ?_;apply Exists.intro;refine And.intro (fun wc hc=>?_) ?_;(· (simp only[zm,zt,↓reduceIte,Nat.reduceEqDiff,zq1,zq2,zq3,zq4,zq5];with_reducible exact(HP _).out));simp only[Act.put,zq6,zq7,zq8])
      | (refine AWq.call rfl Tryz.func30 (by kernel_rfl) (by kernel_rfl) rfl rfl rfl ?_;apply Exists.intro;refine And.intro (fun wc hc=>?_) ?_;(· (simp only[zm,zt,↓reduceIte,Nat.reduceEqDiff,zq1,zq2,zq3,zq4,zq5];with_reducible exact(HB _).out));simp only[Act.put,zq6,zq7,zq8]))
     refine AWq.done rfl rfl rfl (fun w5 x5=>?_);simp only[zo,Act.put,zq6,zq7,zq8];go_wp2_with fail
     go_ret;exact⟨by rw[HR.out];rfl,HXr.out.trans x5⟩
  ·obtain rfl:k=a.held.length:=by omega
   have hall:zcD a.held=true:=hG.out;rw[hall] at HV;have d1:decide ((a.held.length:Int)<a.held.length)=false:=decide_eq_false (by omega);have d1':decide (a.held.length<a.held.length)=false:=decide_eq_false (by omega);clear H3 hlt hE hall hG;have c8:=HBr.out.cell a8;by_cases q3:a.held.length≤256
   rotate_left
   ·have e3:decide ((a.held.length:Int)≤256)=false:=decide_eq_false (by omega)
    have e3':decide (a.held.length≤256)=false:=decide_eq_false q3;have HR:Hid (R=false):=by unfold Hid;rw[HV.out,e3'];simp
    clear HV;go_wp2_with fail
    go_ret;exact⟨by rw[HR.out];rfl,HXr.out⟩
   have e3:decide ((a.held.length:Int)≤256)=true:=decide_eq_true (by omega);have e3':decide (a.held.length≤256)=true:=decide_eq_true q3;rw[e3'] at HV;clear q3;go_wp2_with fail
   refine((HCl _ HXr.out).out).mono ?_;rintro en w9 ⟨rfl,x9⟩;have HX9:=hid (HXr.out.trans x9);have HB9:=hid (HBr.out.ext x9);clear x9 c8 c11 la HBr HXr;have la:=HB9.out.lt;have c9:=HB9.out.cell a9;have c10:=HB9.out.cell a10;cases tc with
   | false=>
    have HR:Hid (R=false):=by unfold Hid;rw[HV.out];simp
    clear HV;go_wp2_with fail
    go_ret;exact⟨by rw[HR.out];rfl,HX9.out⟩
   | true=>
   have HR:Hid (R=tk):=by unfold Hid;rw[HV.out,e5];simp
   clear HV;go_wp2_with fail
   refine((HKr _ HX9.out).out).mono ?_;rintro en w11 ⟨rfl,x11⟩;have HX11:=hid (HX9.out.trans x11);clear x11 la c9 c10;go_wp2_with fail
   go_ret;exact⟨by rw[HR.out];rfl,HX11.out⟩
theorem zks (w:World) (S:SlM) (a:MsgI) (ha:MsgAt w S a) (hok:MsgOk a) (hle:MsgLe a):Calls Tryz.prog 9 #[.agg (a.at S).arr] w (Ret (.bool (za6 a)) w):=by
 by_cases h1:a.kind=1
 ·exact zlC w S a ha hok hle h1
 by_cases h2:a.kind=2
 ·exact zlB w S a ha hok hle h2
 by_cases h3:a.kind=3
 ·exact zlA w S a ha hok hle h3
 by_cases h4:a.kind=4
 ·exact zlz w S a ha hok hle h4
 exact zlD w S a ha hok hle ⟨h1,h2,h3,h4⟩
end
end Go.Proofs.YtofjpdgojoppbaaGreatDoor
