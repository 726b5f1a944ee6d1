/-
  Of the claim's proof: AwM, LwZ, LwS.
-/
import Derived.Test.YtofjpdgojoppbaaGreatDoorS02
import Derived.Test.YtofjpdgojoppbaaGreatDoorS08
import Derived.Test.YtofjpdgojoppbaaGreatDoorS17
import Derived.Test.YtofjpdgojoppbaaGreatDoorS18
import Derived.Test.YtofjpdgojoppbaaGreatDoorS20
import Derived.Test.YtofjpdgojoppbaaGreatDoorS25
import Derived.Test.YtofjpdgojoppbaaGreatDoorS33
import Derived.Test.YtofjpdgojoppbaaGreatDoorS34
import Derived.Test.YtofjpdgojoppbaaGreatDoorS35
import Derived.Test.YtofjpdgojoppbaaGreatDoorS37
import Derived.Test.YtofjpdgojoppbaaGreatDoorS38
import Derived.Test.YtofjpdgojoppbaaGreatDoorS39
set_option maxRecDepth 100000
set_option maxHeartbeats 16000000
set_option linter.unusedVariables false
set_option linter.unusedSimpArgs false
namespace Go.Proofs.YtofjpdgojoppbaaGreatDoor
section
open Go.RowKit
def ackM:MsgI:=⟨3,1,1,1,2,1,1,false,[],⟨[],[]⟩,[],0,false,[],vec0,vec0,[],0,zd,zd⟩
theorem zeP:layB ackM=true:=by
 have h1:decide (ackM=zI ackM)=true:=decide_eq_true rfl;have h2:sidB ackM.s1 ackM.s2 ackM.s3=true:=by decide
 have h3:zbL ackM=true:=by decide
 unfold layB;rw[h1,h2,h3];rfl
theorem zmA:MsgOk ackM:=⟨zf9,zfl,Nat.zero_le _,zga,Nat.zero_le _,zaZ,zaZ,zf7,Nat.zero_le _,by unfold in64;decide,by unfold in64;decide,by unfold in64;decide,zaL,zaL,zf8⟩
theorem zd9 {z:Int} (h:0≤z) (h2:z≤127):numB z=⟨#[UInt8.ofNat z.toNat]⟩:=by
 apply zmu;rw[zu h,zaz (by omega)]
theorem zis:zau ackM=⟨#[3,1,1,1,2,1,1]⟩:=by
 rw[←body_3 zeP rfl]
 show(numB 3++((numB 1++numB 1)++numB 1))++((numB 2++numB 1)++numB 1)=_
 rw[zd9 (z:=3) (by decide) (by decide),zd9 (z:=1) (by decide) (by decide),zd9 (z:=2) (by decide) (by decide)];rfl
theorem zir:(zau ackM).size≤65000:=by rw[zis];decide
theorem ziq:putZ ackM=0:=zl0 zeP zir
theorem zjR:putM ackM=⟨(zaC (⟨#[3,1,1,1,2,1,1]⟩:ByteArray).data.toList).toArray⟩:=by rw[lay_one zeP zir,zis]
theorem ack_len:(putM ackM).size≤100:=by
 rw[zjR]
 show(zaC [3,1,1,1,2,1,1]).toArray.size≤100
 rw[List.size_toArray,zdw];rw[zaz (by decide)]
 decide
theorem zmC (w:World):MsgAt w slM0 ackM:=⟨Sl.nil w 3,⟨FragsAt.nil w,Sl.nil w 67⟩,Sl.nil w 4,Sl.nil w 21,Sl.nil w 2⟩
theorem ack_arr:(((((((Tryz.zeroCells36.setIfInBounds 0 (.int .i64 3)).setIfInBounds 1 (.int .i64 1)).setIfInBounds 2 (.int .i64 1)).setIfInBounds 3 (.int .i64 1)).setIfInBounds 4 (.int .i64 2)).setIfInBounds 5 (.int .i64 1)).setIfInBounds 6 (.int .i64 1))=(ackM.at slM0).arr:=by kernel_rfl
theorem zmB:(((((((Tryz.zeroCells36.toList.set 0 (.int .i64 3)).set 1 (.int .i64 1)).set 2 (.int .i64 1)).set 3 (.int .i64 1)).set 4 (.int .i64 2)).set 5 (.int .i64 1)).set 6 (.int .i64 1))=(ackM.at slM0).arr.toList:=by kernel_rfl
attribute [-simp] Tryz.isAgg36 Tryz.sizeOf36
theorem zk4 (w:World) (mx:Int) (hm:w.cell? ⟨0,0,none⟩=some (.int .i64 mx)):Calls Tryz.prog 7 #[] w (Ret (.bool true) w):=by
 have HPu:=fun W (hW:Ext w W)=>hid (zlP W slM0 ackM mx (hW.cell hm) (zmC W) zmA);have HGe:=fun W (hW:Ext w W)=>hid (mget_c W (putM ackM) mx (hW.cell hm) (by have:=ack_len;omega));have HOn:=fun W=>hid (zlr W ⟨#[3,1,1,1,2,1,1]⟩ (by decide));rw[←zjR] at HOn;rw[ziq] at HPu;have HSa:=fun W (S:SlM) (hS:MsgAt W S ackM)=>hid (zjZ rfl hS (zmC W));have hbk:∀ (z:Int) (m:MsgI),(∀ m0:MsgI,MsgOk m0→layB m0=true→KnowG m0.k→putZ m0=0→putM ackM=putM m0→z=0∧m=m0)→z=0∧m=ackM:=fun z m h=>h ackM zmA zeP zbR ziq rfl;have HBk:=hid hbk;clear hm hbk
 generalize putM ackM=s at HPu HGe HOn HBk;have hA:=ack_arr;have hL:=zmB;have hz:=hid (zy (ackM.at slM0));have ho:=hid (zZ (ackM.at slM0));generalize (ackM.at slM0).arr=ar at HPu HSa hA hL hz ho;have HA:=hid hA;have HL:=hid hL;clear hA hL;have HZ:=hid (zy msgZ);go_enter Tryz.func7,Tryz.ntmps7;go_wp2_with fail
 rw[HA.out,HL.out,zaT];have HB3:=hid (Blk.new (w.alloc (.cells #[.int .i64 1,.int .i64 1,.int .i64 1] 24)) 36 msgZ.arr);rw[World.size_alloc] at HB3;simp only[Tryz.sizeOf36,Result.andThen,↓reduceIte,zb HB3.out (by rw[hz.out];exact zz) (by first | rfl | rw[hz.out,HZ.out]) ho.out,hz.out];rw[Oper.upon_skip];have hset:=World.setRow_alloc_new (w.alloc (.cells #[.int .i64 1,.int .i64 1,.int .i64 1] 24)) msgZ.arr ar 36;rw[World.size_alloc] at hset;rw[hset];clear hset HB3;have HX1:=hid ((Ext.alloc w (.cells #[.int .i64 1,.int .i64 1,.int .i64 1] 24)).alloc' (.cells ar 36))
 have HB1:Hid (Blk ((w.alloc (.cells #[.int .i64 1,.int .i64 1,.int .i64 1] 24)).alloc (.cells ar 36)) (w.heap.size+1) 36 ar):=by
  have h:=Blk.new (w.alloc (.cells #[.int .i64 1,.int .i64 1,.int .i64 1] 24)) 36 ar;rw[World.size_alloc] at h;exact h
 generalize (w.alloc (.cells #[.int .i64 1,.int .i64 1,.int .i64 1] 24)).alloc (.cells ar 36)=w1 at HX1 HB1⊢;have la:=HB1.out.lt;go_wp2_with fail
 simp only[Tryz.isAgg36,Tryz.sizeOf36,Result.andThen,↓reduceIte,za HB1.out 147 hz.out];rw[Oper.upon_value];go_wp2_with fail
 refine((HPu _ HX1.out).out).mono ?_;rintro en w2 ⟨rfl,x2⟩;have HX2:=hid (HX1.out.trans x2);have HB2:=hid (HB1.out.ext x2);clear x2 HX1 HB1 la HPu;go_wp2_with fail
 refine((HGe _ HX2.out).out).mono ?_;rintro en w3 ⟨S,m,z,rfl,hma,-,-,x3,-,-,hbk⟩;obtain⟨rfl,rfl⟩:=HBk.out z m hbk;have HX3:=hid (HX2.out.trans x3);have HB3:=hid (HB2.out.ext x3);have HMa:=hid hma;have hg:w.heap.size+1≠w3.heap.size:=by have:=HB3.out.lt;omega
 have HG:=hid hg;have hz2:=hid (zy (ackM.at S));have ho2:=hid (zZ (ackM.at S));have HSa:=fun W (hW:Ext w3 W)=>HSa W S (HMa.out.ext hW);clear x3 hma hbk HX2 HB2 HGe HBk hg HMa;generalize (ackM.at S).arr=X at hz2 ho2 HSa⊢;go_wp2_with fail
 rw[zaT];have HC3:=hid (Blk.new w3 36 msgZ.arr);simp only[Tryz.sizeOf36,Result.andThen,↓reduceIte,zb HC3.out (by rw[hz2.out];exact zz) (by first | rfl | rw[hz2.out,HZ.out]) ho2.out,hz2.out];rw[Oper.upon_skip];rw[World.setRow_alloc_new];have HX4:=hid (HX3.out.alloc' (.cells X 36));have HY4:=hid (Ext.alloc w3 (.cells X 36));have HB4:=hid (HB3.out.ext (Ext.alloc w3 (.cells X 36)));have HC4:=hid (Blk.new w3 36 X);clear HC3 HX3 HB3 HG;generalize w3.alloc (.cells X 36)=w4 at HX4 HY4 HB4 HC4⊢;generalize w3.heap.size=g at HC4⊢;have hss:(s.toList==s.toList)=true:=by simp
 go_wp2_with fail
 refine((HOn _).out).mono ?_;rintro en w5 ⟨rfl,x5⟩;have HX5:=hid (HX4.out.trans x5);have HY5:=hid (HY4.out.trans x5);have HB5:=hid (HB4.out.ext x5);have HC5:=hid (HC4.out.ext x5);clear x5 HX4 HY4 HB4 HC4 HOn;have la:=HB5.out.lt;have lb:=HC5.out.lt;go_wp2_with fail
 simp only[Tryz.isAgg36,Tryz.sizeOf36,Result.andThen,↓reduceIte,za HC5.out 147 hz2.out];rw[Oper.upon_value];go_wp2_with fail
 simp only[Tryz.isAgg36,Tryz.sizeOf36,Result.andThen,↓reduceIte,za HB5.out 147 hz.out];rw[Oper.upon_value];go_wp2_with fail
 refine((HSa _ HY5.out).out).mono ?_;rintro en w6 ⟨rfl,x6⟩;have HX6:=hid (HX5.out.trans x6);clear x6 HX5 HY5 HB5 HC5 HSa la lb;go_wp2_with fail
 go_ret;exact⟨rfl,HX6.out⟩
end
section
open Go.RowKit
theorem zhI (w:World) (S:SlM) (m:MsgI) (ha:MsgAt w S m):Calls Tryz.prog 13 #[.agg (m.at S).arr] w (Ret (.bool (zfr m)) w):=by
 have n1:=sl_n ha.held;have n2:=sl_n ha.not;obtain⟨_,_,_,b1,b2,_⟩:=zr ha.held;obtain⟨_,_,_,b3,b4,_⟩:=zr ha.not;exact zku w (m.at S) m.f m.held.length m.not.length m.ents ha.f n1 n2 ha.ents (Nat.le_trans b1 b2) (Nat.le_trans b3 b4)
end
section
open Go.RowKit
attribute [-simp] Tryz.isAgg36 Tryz.sizeOf36 Tryz.isAgg61 Tryz.sizeOf61
theorem ziz (w:World) (e:EntI) (S R:SlM) (a b:MsgI) (mx:Int) (hm:w.cell? ⟨0,0,none⟩=some (.int .i64 mx)) (he:EntIn e) (ha:MsgAt w S a) (hb:MsgAt w R b):Calls Tryz.prog 5 #[.agg e.arr,.agg (a.at S).arr,.agg (b.at R).arr] w (Ret (.bool true) w):=by
 have HAw:=fun W (hW:Ext w W)=>hid (zk4 W mx (hW.cell hm));have HLt:=fun W=>hid (zgc W e.u);unfold UpdI.val at HLt;have HLa:=fun W (hW:Ext w W)=>hid (zhI W S a (ha.ext hW));have HLb:=fun W (hW:Ext w W)=>hid (zhI W R b (hb.ext hW));have HSz:=fun W (hl:zbQ e=true) (hW:Ext w W)=>hid (size_c W e mx (hW.cell hm) (zfD he hl));have HRe:=fun W (hl:zbQ e=true)=>hid (zj4 W e (zfD he hl));have HEn:=fun W (hl:zbQ e=true) (hr:zJ e=true)=>hid (zlt W e (zfD he hl) hr);have HSm:=fun W (hW:Ext w W)=>hid (zgT W S R a b (ha.ext hW) (hb.ext hW))
 have HSs:=fun W (hW:Ext w W)=>hid (zgT W S S a a (ha.ext hW) (ha.ext hW));have HRs:=fun W (hW:Ext w W)=>hid (zj1 W S R a b (ha.ext hW) (hb.ext hW));simp only[decide_true] at HSs;have hle:zbQ e=(zdv e.u&&decide (e.m.p.size≤200)):=rfl;have HNo:=hid (fun h:zJ e=false=>(ze4 h).1);have HYe:Hid ((entB e).size=zfZ e):=zgp e;have zE:=hid (zal e);have zA:=hid (zy (a.at S));have zB:=hid (zy (b.at R));have HE0:=hid (((Blk.new w 61 e.arr).alloc (.cells (a.at S).arr 36)).alloc (.cells (b.at R).arr 36));have HA0:=hid ((Blk.new (w.alloc (.cells e.arr 61)) 36 (a.at S).arr).alloc (.cells (b.at R).arr 36))
 have HB0:=hid (Blk.new ((w.alloc (.cells e.arr 61)).alloc (.cells (a.at S).arr 36)) 36 (b.at R).arr);have HX0:=hid (((Ext.alloc w (.cells e.arr 61)).alloc' (.cells (a.at S).arr 36)).alloc' (.cells (b.at R).arr 36));rw[World.size_alloc] at HA0;rw[World.size_alloc,World.size_alloc] at HB0;clear ha hb hm he;generalize decide (a=b)=dd at HSm HRs;have a1:e.arr[1]? = some (.int .i64 e.u.item.by_):=rfl;have a2:e.arr[2]? = some (.int .i64 e.u.item.n):=rfl;have a3:e.arr[3]? = some (.int .i64 e.u.st.v.by_):=rfl;have a4:e.arr[4]? = some (.int .i64 e.u.st.v.n):=rfl;have a5:e.arr[5]? = some (.int .i64 e.u.st.time):=rfl;have a6:e.arr[6]? = some (.string e.u.p):=rfl
 have a7:e.arr[7]? = some (.string e.u.d):=rfl;have a8:e.arr[8]? = some (.bool e.u.dead):=rfl;have a14:e.arr[14]? = some (.string e.m.p):=rfl;generalize (a.at S).arr=xa at HLa HSm HSs HRs zA HE0 HA0 HB0 HX0⊢;generalize (b.at R).arr=xb at HLb HSm HRs zB HE0 HA0 HB0 HX0⊢;generalize e.arr=xe at HSz HRe HEn zE HE0 HA0 HB0 HX0 a1 a2 a3 a4 a5 a6 a7 a8 a14⊢;generalize zbQ e=le at HSz HRe HEn hle;generalize zdv e.u=lu at HLt hle;generalize zfr a=la at HLa;generalize zfr b=lb at HLb;generalize zJ e=re at HRe HEn HNo;generalize entB e=eb at HEn HYe;generalize zfZ e=se at HSz HNo HYe;have Hle:=hid hle;clear hle;go_enter Tryz.func5,Tryz.ntmps5
 go_wp2_with fail
 generalize ((w.alloc (.cells xe 61)).alloc (.cells xa 36)).alloc (.cells xb 36)=w0 at HE0 HA0 HB0 HX0⊢;generalize w.heap.size+1+1=gb at HB0⊢;generalize w.heap.size+1=ga at HA0⊢;generalize w.heap.size=ge at HE0⊢;have c1:=HE0.out.cell a1;have c2:=HE0.out.cell a2;have c3:=HE0.out.cell a3;have c4:=HE0.out.cell a4;have c5:=HE0.out.cell a5;have c6:=HE0.out.cell a6;have c7:=HE0.out.cell a7;have c8:=HE0.out.cell a8;have l0:=HE0.out.lt;go_wp2_with fail
 refine((HLt _).out).mono ?_;rintro en w1 ⟨rfl,x1⟩;have HX1:=hid (HX0.out.trans x1);have HE1:=hid (HE0.out.ext x1);have HA1:=hid (HA0.out.ext x1);have HB1:=hid (HB0.out.ext x1);clear x1 c1 c2 c3 c4 c5 c6 c7 c8 l0 a1 a2 a3 a4 a5 a6 a7 a8 HLt HX0 HE0 HA0 HB0;cases lu with
 | false=>
  clear HSz HRe HEn HLa HLb HSm HRs HSs;go_wp2_with fail
  refine((HAw _ HX1.out).out).mono ?_;rintro en w9 ⟨rfl,x9⟩;have HX9:=hid (HX1.out.trans x9);clear x9;go_wp2_with fail
  go_ret;exact⟨rfl,HX9.out⟩
 | true=>
 have c14:=HE1.out.cell a14;have l1:=HE1.out.lt;clear a14;by_cases hp:e.m.p.size≤200
 rotate_left
 ·have d1:decide (200<e.m.p.size)=true:=decide_eq_true (by omega)
  have d1':decide ((200:Int)<e.m.p.size)=true:=decide_eq_true (by omega);clear HSz HRe HEn HLa HLb HSm HRs HSs hp;go_wp2_with fail
  refine((HAw _ HX1.out).out).mono ?_;rintro en w9 ⟨rfl,x9⟩;have HX9:=hid (HX1.out.trans x9);clear x9;go_wp2_with fail
  go_ret;exact⟨rfl,HX9.out⟩
 have d1:decide (200<e.m.p.size)=false:=decide_eq_false (by omega);have d1':decide ((200:Int)<e.m.p.size)=false:=decide_eq_false (by omega);obtain rfl:le=true:=by rw[Hle.out,decide_eq_true hp];rfl
 have HSz2:=fun W hW=>HSz W rfl hW;have HRe2:=fun W=>HRe W rfl;have HEn2:=fun W hr=>HEn W rfl hr;clear hp Hle HSz HRe HEn;have HSz:=HSz2;have HRe:=HRe2;have HEn:=HEn2;clear HSz2 HRe2 HEn2;have la1:=HA1.out.lt;go_wp2_with fail
 simp only[Tryz.isAgg36,Tryz.sizeOf36,Result.andThen,↓reduceIte,za HA1.out 147 zA.out];rw[Oper.upon_value];go_wp2_with fail
 refine((HLa _ HX1.out).out).mono ?_;rintro en w2 ⟨rfl,x2⟩;have HX2:=hid (HX1.out.trans x2);have HE2:=hid (HE1.out.ext x2);have HA2:=hid (HA1.out.ext x2);have HB2:=hid (HB1.out.ext x2);clear x2 HLa HX1 HE1 HA1 HB1 c14 l1 la1 d1 d1';cases la with
 | false=>
  clear HSz HRe HEn HLb HSm HRs HSs;go_wp2_with fail
  refine((HAw _ HX2.out).out).mono ?_;rintro en w9 ⟨rfl,x9⟩;have HX9:=hid (HX2.out.trans x9);clear x9;go_wp2_with fail
  go_ret;exact⟨rfl,HX9.out⟩
 | true=>
 have lb2:=HB2.out.lt;go_wp2_with fail
 simp only[Tryz.isAgg36,Tryz.sizeOf36,Result.andThen,↓reduceIte,za HB2.out 147 zB.out];rw[Oper.upon_value];go_wp2_with fail
 refine((HLb _ HX2.out).out).mono ?_;rintro en w3 ⟨rfl,x3⟩;have HX3:=hid (HX2.out.trans x3);have HE3:=hid (HE2.out.ext x3);have HA3:=hid (HA2.out.ext x3);have HB3:=hid (HB2.out.ext x3);clear x3 HLb HX2 HE2 HA2 HB2 lb2;cases lb with
 | false=>
  clear HSz HRe HEn HSm HRs HSs;go_wp2_with fail
  refine((HAw _ HX3.out).out).mono ?_;rintro en w9 ⟨rfl,x9⟩;have HX9:=hid (HX3.out.trans x9);clear x9;go_wp2_with fail
  go_ret;exact⟨rfl,HX9.out⟩
 | true=>
 have l3:=HE3.out.lt;go_wp2_with fail
 simp only[Tryz.isAgg61,Tryz.sizeOf61,Result.andThen,↓reduceIte,za HE3.out 21 zE.out];rw[Oper.upon_value];go_wp2_with fail
 refine((HRe _).out).mono ?_;rintro en w4 ⟨rfl,x4⟩;have HX4:=hid (HX3.out.trans x4);have HE4:=hid (HE3.out.ext x4);have HA4:=hid (HA3.out.ext x4);have HB4:=hid (HB3.out.ext x4);clear x4 HRe HX3 HE3 HA3 HB3 l3;have l4:=HE4.out.lt;cases re with
 | false=>
  have hse:=HNo.out rfl;clear HEn HNo HYe l4;subst hse;have HCe:=hid (fun(j:Nat) v (h:xe[j]? = some v)=>(show w4.cell? ⟨ge,0+j,none⟩=some v by rw[Nat.zero_add];exact HE4.out.cell h));have HCa:=hid (fun(j:Nat) v (h:xa[j]? = some v)=>(show w4.cell? ⟨ga,0+j,none⟩=some v by rw[Nat.zero_add];exact HA4.out.cell h));have HCb:=hid (fun(j:Nat) v (h:xb[j]? = some v)=>(show w4.cell? ⟨gb,0+j,none⟩=some v by rw[Nat.zero_add];exact HB4.out.cell h));go_wp2_with fail
  refine zc (by kernel_rfl) (by kernel_rfl) (by kernel_rfl) ?_
  repeat (first
   | (refine AWq.val rfl rfl rfl rfl (fun K hK=>?_);go_big_quiet_op;refine hK _ ?_;clear hK K)
   | (refine AWq.skip rfl rfl rfl ?_;simp only[Act.put,zq6,zq7,zq8])
   | (refine AWq.val rfl rfl rfl rfl (fun K hK=>?_);refine zj rfl rfl (fun wc hwc=>by obtain⟨E,rfl⟩:=hwc;with_reducible exact zai zE.out (fun j v hv=>(Ext.of_wext _ _).cell (HCe.out j v hv))) (hK _ ?_);clear hK K;simp only[Act.put,zq6,zq7,zq8])
   | (refine AWq.val rfl rfl rfl rfl (fun K hK=>?_);refine zj rfl rfl (fun wc hwc=>by obtain⟨E,rfl⟩:=hwc;with_reducible exact zaI zA.out (fun j v hv=>(Ext.of_wext _ _).cell (HCa.out j v hv))) (hK _ ?_);clear hK K;simp only[Act.put,zq6,zq7,zq8])
   | (refine AWq.val rfl rfl rfl rfl (fun K hK=>?_);refine zj rfl rfl (fun wc hwc=>by obtain⟨E,rfl⟩:=hwc;with_reducible exact zaI zB.out (fun j v hv=>(Ext.of_wext _ _).cell (HCb.out j v hv))) (hK _ ?_);clear hK K;simp only[Act.put,zq6,zq7,zq8])
   | (refine AWq.call rfl Tryz.func7 (by kernel_rfl) (by kernel_rfl) rfl rfl rfl ?_;apply Exists.intro;refine And.intro (fun wc hc=>?_) ?_;(· (simp only[zh,zm,↓reduceIte,Nat.reduceEqDiff,zq1,zq2,zq3,zq4,zq5];with_reducible exact(HAw _ (HX4.out.trans hc)).out));simp only[Act.put,zq6,zq7,zq8])
   | (refine AWq.call rfl Tryz.func18 (by kernel_rfl) (by kernel_rfl) rfl rfl rfl ?_;apply Exists.intro;refine And.intro (fun wc hc=>?_) ?_;(· (simp only[zh,zm,↓reduceIte,Nat.reduceEqDiff,zq1,zq2,zq3,zq4,zq5];with_reducible exact(HSz _ (HX4.out.trans hc)).out));simp only[Act.put,zq6,zq7,zq8])
   | (refine AWq.call rfl Tryz.func19 (by kernel_rfl) (by kernel_rfl) rfl rfl rfl ?_;apply Exists.intro;refine And.intro (fun wc hc=>?_) ?_;(· (simp only[zh,zm,↓reduceIte,Nat.reduceEqDiff,zq1,zq2,zq3,zq4,zq5];with_reducible exact(HSm _ (HX4.out.trans hc)).out));simp only[Act.put,zq6,zq7,zq8])
   | (refine AWq.call rfl Tryz.func19 (by kernel_rfl) (by kernel_rfl) rfl rfl rfl ?_;apply Exists.intro;refine And.intro (fun wc hc=>?_) ?_;(· (simp only[zh,zm,↓reduceIte,Nat.reduceEqDiff,zq1,zq2,zq3,zq4,zq5];with_reducible exact(HSs _ (HX4.out.trans hc)).out));simp only[Act.put,zq6,zq7,zq8])
   | (refine AWq.call rfl Tryz.func12 (by kernel_rfl) (by kernel_rfl) rfl rfl rfl ?_;apply Exists.intro;refine And.intro (fun wc hc=>?_) ?_;(· (simp only[zh,zm,↓reduceIte,Nat.reduceEqDiff,zq1,zq2,zq3,zq4,zq5];with_reducible exact(HRs _ (HX4.out.trans hc)).out));simp only[Act.put,zq6,zq7,zq8]))
  refine AWq.done rfl rfl rfl (fun w6 x6=>?_);simp only[zl,Act.put,zq6,zq7,zq8]
  all_goals intros
  go_wp2_with fail
  go_ret;exact⟨rfl,HX4.out.trans x6⟩
 | true=>
  have HEn2:=fun W=>HEn W rfl;clear HNo HEn;go_wp2_with fail
  simp only[Tryz.isAgg61,Tryz.sizeOf61,Result.andThen,↓reduceIte,za HE4.out 21 zE.out];rw[Oper.upon_value];go_wp2_with fail
  refine((HEn2 _).out).mono ?_;rintro en w5 ⟨rfl,x5⟩;have HX5:=hid (HX4.out.trans x5);have HE5:=hid (HE4.out.ext x5);have HA5:=hid (HA4.out.ext x5);have HB5:=hid (HB4.out.ext x5);clear x5 HEn2 HX4 HE4 HA4 HB4 l4;have hye:=HYe.out;clear HYe;subst hye;have HCe:=hid (fun(j:Nat) v (h:xe[j]? = some v)=>(show w5.cell? ⟨ge,0+j,none⟩=some v by rw[Nat.zero_add];exact HE5.out.cell h));have HCa:=hid (fun(j:Nat) v (h:xa[j]? = some v)=>(show w5.cell? ⟨ga,0+j,none⟩=some v by rw[Nat.zero_add];exact HA5.out.cell h));have HCb:=hid (fun(j:Nat) v (h:xb[j]? = some v)=>(show w5.cell? ⟨gb,0+j,none⟩=some v by rw[Nat.zero_add];exact HB5.out.cell h))
  go_wp2_with fail
  refine zc (by kernel_rfl) (by kernel_rfl) (by kernel_rfl) ?_
  repeat (first
   | (refine AWq.val rfl rfl rfl rfl (fun K hK=>?_);go_big_quiet_op;refine hK _ ?_;clear hK K)
   | (refine AWq.skip rfl rfl rfl ?_;simp only[Act.put,zq6,zq7,zq8])
   | (refine AWq.val rfl rfl rfl rfl (fun K hK=>?_);refine zj rfl rfl (fun wc hwc=>by obtain⟨E,rfl⟩:=hwc;with_reducible exact zai zE.out (fun j v hv=>(Ext.of_wext _ _).cell (HCe.out j v hv))) (hK _ ?_);clear hK K;simp only[Act.put,zq6,zq7,zq8])
   | (refine AWq.val rfl rfl rfl rfl (fun K hK=>?_);refine zj rfl rfl (fun wc hwc=>by obtain⟨E,rfl⟩:=hwc;with_reducible exact zaI zA.out (fun j v hv=>(Ext.of_wext _ _).cell (HCa.out j v hv))) (hK _ ?_);clear hK K;simp only[Act.put,zq6,zq7,zq8])
   | (refine AWq.val rfl rfl rfl rfl (fun K hK=>?_);refine zj rfl rfl (fun wc hwc=>by obtain⟨E,rfl⟩:=hwc;with_reducible exact zaI zB.out (fun j v hv=>(Ext.of_wext _ _).cell (HCb.out j v hv))) (hK _ ?_);clear hK K;simp only[Act.put,zq6,zq7,zq8])
   | (refine AWq.call rfl Tryz.func7 (by kernel_rfl) (by kernel_rfl) rfl rfl rfl ?_;apply Exists.intro;refine And.intro (fun wc hc=>?_) ?_;(· (simp only[zh,zm,↓reduceIte,Nat.reduceEqDiff,zq1,zq2,zq3,zq4,zq5];with_reducible exact(HAw _ (HX5.out.trans hc)).out));simp only[Act.put,zq6,zq7,zq8])
   | (refine AWq.call rfl Tryz.func18 (by kernel_rfl) (by kernel_rfl) rfl rfl rfl ?_;apply Exists.intro;refine And.intro (fun wc hc=>?_) ?_;(· (simp only[zh,zm,↓reduceIte,Nat.reduceEqDiff,zq1,zq2,zq3,zq4,zq5];with_reducible exact(HSz _ (HX5.out.trans hc)).out));simp only[Act.put,zq6,zq7,zq8])
   | (refine AWq.call rfl Tryz.func19 (by kernel_rfl) (by kernel_rfl) rfl rfl rfl ?_;apply Exists.intro;refine And.intro (fun wc hc=>?_) ?_;(· (simp only[zh,zm,↓reduceIte,Nat.reduceEqDiff,zq1,zq2,zq3,zq4,zq5];with_reducible exact(HSm _ (HX5.out.trans hc)).out));simp only[Act.put,zq6,zq7,zq8])
   | (refine AWq.call rfl Tryz.func19 (by kernel_rfl) (by kernel_rfl) rfl rfl rfl ?_;apply Exists.intro;refine And.intro (fun wc hc=>?_) ?_;(· (simp only[zh,zm,↓reduceIte,Nat.reduceEqDiff,zq1,zq2,zq3,zq4,zq5];with_reducible exact(HSs _ (HX5.out.trans hc)).out));simp only[Act.put,zq6,zq7,zq8])
   | (refine AWq.call rfl Tryz.func12 (by kernel_rfl) (by kernel_rfl) rfl rfl rfl ?_;apply Exists.intro;refine And.intro (fun wc hc=>?_) ?_;(· (simp only[zh,zm,↓reduceIte,Nat.reduceEqDiff,zq1,zq2,zq3,zq4,zq5];with_reducible exact(HRs _ (HX5.out.trans hc)).out));simp only[Act.put,zq6,zq7,zq8]))
  refine AWq.done rfl rfl rfl (fun w6 x6=>?_);simp only[zl,Act.put,zq6,zq7,zq8]
  all_goals intros
  go_wp2_with fail
  go_ret;exact⟨rfl,HX5.out.trans x6⟩
end
end Go.Proofs.YtofjpdgojoppbaaGreatDoor
