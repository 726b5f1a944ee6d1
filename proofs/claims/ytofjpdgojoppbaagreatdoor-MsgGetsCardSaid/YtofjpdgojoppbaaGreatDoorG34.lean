/-
  Of the claim's proof: MgQ, RtA.
-/
import Derived.Test.YtofjpdgojoppbaaGreatDoorG29
import Derived.Test.YtofjpdgojoppbaaGreatDoorG33
set_option maxRecDepth 100000
set_option maxHeartbeats 16000000
set_option linter.unusedVariables false
set_option linter.unusedSimpArgs false
namespace Go.Proofs.YtofjpdgojoppbaaGreatDoor
section
open Go.RowKit
structure MsgLe (m:MsgI):Prop where
 f:m.f.length≤90000
 fs:m.k.fs.length≤90000
 ks:m.k.ks.length≤90000
def zch (m:MsgI):Bool:=(m.f.length+m.k.fs.length+m.k.ks.length+m.held.length==0) && !m.up
def zbx (m:MsgI):Bool:=(m.seq==0)&&(!m.last&&((m.ents.length+m.not.length==0)&&(decide (m.V=vec0)&&decide (m.A=vec0))))
theorem sl_n {α:Type} {code:α→List Value} {sz:Nat} {l:List α} {s:SlV} {w:World} (h:Sl w sz s.val (l.map code)):s.n=l.length:=by
 obtain⟨A,c,e,_⟩:=zz h;unfold SlV.val at e;injection e
theorem frags_n {l:List FragI} {s:SlV} {w:World} (h:FragsAt w s.val l):s.n=l.length:=by
 obtain⟨cs,h1,_,h2⟩:=h;rw[←h1];exact sl_n h2
attribute [-simp] Tryz.isAgg36 Tryz.sizeOf36 Tryz.isAgg33 Tryz.sizeOf33
theorem zfH (w:World) (S:SlM) (a:MsgI) (ha:MsgAt w S a) (hh:a.held.length≤1000) (hle:MsgLe a):Calls Tryz.prog 27 #[.agg (a.at S).arr] w (Ret (.bool (zch a)) w):=by
 have HA:=hid (zT (a.at S));have n1:=sl_n ha.f;have n2:=frags_n ha.k.1;have n3:=sl_n ha.k.2;have n4:=sl_n ha.held;obtain⟨b1,b2,b3⟩:=hle;have HV:Hid (zch a=((a.f.length+a.k.fs.length+a.k.ks.length+a.held.length==0) && !a.up)):=rfl;obtain⟨⟨af1,af2,af3⟩,⟨ax1,ax2,ax3⟩,⟨ay1,ay2,ay3⟩,⟨ah1,ah2,ah3⟩,⟨ae1,ae2,ae3⟩,⟨an1,an2,an3⟩⟩:=S;dsimp only at n1 n2 n3 n4;rw[←n1] at HV b1;rw[←n2] at HV b2;rw[←n3] at HV b3;rw[←n4] at HV hh;clear n1 n2 n3 n4 ha;generalize zch a=R at HV⊢;generalize (MsgI.at a ⟨⟨af1,af2,af3⟩,⟨ax1,ax2,ax3⟩,⟨ay1,ay2,ay3⟩,⟨ah1,ah2,ah3⟩,⟨ae1,ae2,ae3⟩,⟨an1,an2,an3⟩⟩).arr=ar at HA⊢
 have HBa:=hid (Blk.new w 36 ar);have HX:=hid (Ext.alloc w (.cells ar 36));have a7:ar[7]? = some (.bool a.up):=HA.out 7 (by omega);have a8:ar[8]? = some (.slice af1 af2 af3):=HA.out 8 (by omega);have a9:ar[9]? = some (.slice ax1 ax2 ax3):=HA.out 9 (by omega);have a10:ar[10]? = some (.slice ay1 ay2 ay3):=HA.out 10 (by omega);have a11:ar[11]? = some (.slice ah1 ah2 ah3):=HA.out 11 (by omega);have c7:=HBa.out.cell a7;have c8:=HBa.out.cell a8;have c9:=HBa.out.cell a9;have c10:=HBa.out.cell a10;have c11:=HBa.out.cell a11;have la:=HBa.out.lt;clear HA a7 a8 a9 a10 a11;have wr1:wrap64 ((af2:Int)+ax2)=af2+ax2:=IntWalk.wrap64_in _ (by omega)
 have wr2:wrap64 ((af2:Int)+ax2+ay2)=af2+ax2+ay2:=IntWalk.wrap64_in _ (by omega);have wr3:wrap64 ((af2:Int)+ax2+ay2+ah2)=af2+ax2+ay2+ah2:=IntWalk.wrap64_in _ (by omega);by_cases h0:af2+ax2+ay2+ah2=0
 ·have d0:(((af2:Int)+ax2+ay2+ah2)==0)=true:=by
   have:(af2:Int)+ax2+ay2+ah2=0:=by omega
   rw[this];rfl
  have HR:Hid (R = !a.up):=by unfold Hid;rw[HV.out,h0];rfl
  clear h0 b1 b2 b3 hh HV;go_enter Tryz.func27,Tryz.ntmps27;go_wp2_with fail
  go_ret;exact⟨by rw[HR.out];rfl,HX.out⟩
 ·have d0:(((af2:Int)+ax2+ay2+ah2)==0)=false:=by
   have:¬ (af2:Int)+ax2+ay2+ah2=0:=by omega
   simpa using this
  have HR:Hid (R=false):=by
   unfold Hid;have:(af2+ax2+ay2+ah2==0)=false:=by simpa using h0
   rw[HV.out,this];rfl
  clear h0 b1 b2 b3 hh HV;go_enter Tryz.func27,Tryz.ntmps27;go_wp2_with fail
  go_ret;exact⟨by rw[HR.out];rfl,HX.out⟩
theorem zen (w:World) (S:SlM) (a:MsgI) (ha:MsgAt w S a) (hh:a.ents.length≤1000) (hn:a.not.length≤90000):Calls Tryz.prog 28 #[.agg (a.at S).arr] w (Ret (.bool (zbx a)) w):=by
 have HA:=hid (zT (a.at S));have HAE:=hid (zab (a.at S));have HAV:=hid (fun j v (h:(vecV a.V)[j]? = some v)=>zbJ (a.at S) j v (by simpa[vecV,intsV,MsgI.at] using h));have HAA:=hid (fun j v (h:(vecV a.A)[j]? = some v)=>zbK (a.at S) j v (by simpa[vecV,intsV,MsgI.at] using h));have HEqV:=fun W=>zaV a.V vec0 a.hV zi W;have HEqA:=fun W=>zaV a.A vec0 a.hA zi W;have hVs:=hid (show(vecV a.V).size=65 by rw[zj];exact a.hV);have hAs:=hid (show(vecV a.A).size=65 by rw[zj];exact a.hA);have n1:=sl_n ha.ents;have n2:=sl_n ha.not
 have HV:Hid (zbx a=((a.seq==0)&&(!a.last&&((a.ents.length+a.not.length==0)&&(decide (a.V=vec0)&&decide (a.A=vec0)))))):=rfl;obtain⟨⟨af1,af2,af3⟩,⟨ax1,ax2,ax3⟩,⟨ay1,ay2,ay3⟩,⟨ah1,ah2,ah3⟩,⟨ae1,ae2,ae3⟩,⟨an1,an2,an3⟩⟩:=S;dsimp only at n1 n2;rw[←n1] at HV hh;rw[←n2] at HV hn;clear n1 n2 ha;generalize zbx a=R at HV⊢;generalize decide (a.V=vec0)=tv at HEqV HV;generalize decide (a.A=vec0)=ta at HEqA HV;generalize vecV a.V=VV at HAV HEqV hVs;generalize vecV a.A=AA at HAA HEqA hAs
 generalize (MsgI.at a ⟨⟨af1,af2,af3⟩,⟨ax1,ax2,ax3⟩,⟨ay1,ay2,ay3⟩,⟨ah1,ah2,ah3⟩,⟨ae1,ae2,ae3⟩,⟨an1,an2,an3⟩⟩).arr=ar at HA HAE HAV HAA⊢;have HBa:=hid (Blk.new w 36 ar);have HX:=hid (Ext.alloc w (.cells ar 36));have a12:ar[12]? = some (.int .i64 a.seq):=HA.out 12 (by omega);have a13:ar[13]? = some (.bool a.last):=HA.out 13 (by omega);have a14:ar[14]? = some (.slice ae1 ae2 ae3):=HA.out 14 (by omega);have a145:ar[145]? = some (.slice an1 an2 an3):=HAE.out 0;have c12:=HBa.out.cell a12;have c13:=HBa.out.cell a13;have c14:=HBa.out.cell a14;have c145:=HBa.out.cell a145;have HLa:=hid (fun j v (h:VV[j]? = some v)=>HBa.out.cell (HAV.out j v h))
 have HMa:=hid (fun j v (h:AA[j]? = some v)=>HBa.out.cell (HAA.out j v h));have la:=HBa.out.lt;clear HA HAE HAV HAA a12 a13 a14 a145;have wr1:wrap64 ((ae2:Int)+an2)=ae2+an2:=IntWalk.wrap64_in _ (by omega);clear hh hn;cases h1:(a.seq==0) with
 | false=>
  have HR:Hid (R=false):=by unfold Hid;rw[HV.out,h1];rfl
  clear HV HEqV HEqA;go_enter Tryz.func28,Tryz.ntmps28;go_wp2_with fail
  go_ret;exact⟨by rw[HR.out];rfl,HX.out⟩
 | true=>
 cases h2:a.last with
 | true=>
  have HR:Hid (R=false):=by unfold Hid;rw[HV.out,h1,h2];rfl
  rw[h2] at c13;clear HV HEqV HEqA;go_enter Tryz.func28,Tryz.ntmps28;go_wp2_with fail
  go_ret;exact⟨by rw[HR.out];rfl,HX.out⟩
 | false=>
 rw[h2] at c13;by_cases h3:ae2+an2=0
 rotate_left
 ·have d0:(((ae2:Int)+an2)==0)=false:=by
   have:¬ (ae2:Int)+an2=0:=by omega
   simpa using this
  have HR:Hid (R=false):=by
   unfold Hid;have:(ae2+an2==0)=false:=by simpa using h3
   rw[HV.out,h1,h2,this];rfl
  clear HV HEqV HEqA h3;go_enter Tryz.func28,Tryz.ntmps28;go_wp2_with fail
  go_ret;exact⟨by rw[HR.out];rfl,HX.out⟩
 have d0:(((ae2:Int)+an2)==0)=true:=by
  have:(ae2:Int)+an2=0:=by omega
  rw[this];rfl
 have HR:Hid (R=(tv&&ta)):=by unfold Hid;rw[HV.out,h1,h2,h3];rfl
 clear HV h3;cases tv with
 | false=>
  go_enter Tryz.func28,Tryz.ntmps28;go_wp2_with fail
  simp only[Tryz.sizeOf33,Result.andThen];rw[if_neg (show ¬ (65:Nat)=0 by omega)];dsimp only;rw[Oper.upon_value];go_wp2_with fail
  simp only[Tryz.isAgg33,Tryz.sizeOf33,Result.andThen,↓reduceIte,zv HLa.out 65 hVs.out];rw[Oper.upon_value];go_wp2_with fail
  go_ret;exact⟨by rw[HR.out];rfl,HX.out⟩
 | true=>
  go_enter Tryz.func28,Tryz.ntmps28;go_wp2_with fail
  simp only[Tryz.sizeOf33,Result.andThen];rw[if_neg (show ¬ (65:Nat)=0 by omega)];dsimp only;rw[Oper.upon_value];go_wp2_with fail
  simp only[Tryz.isAgg33,Tryz.sizeOf33,Result.andThen,↓reduceIte,zv HLa.out 65 hVs.out];rw[Oper.upon_value];go_wp2_with fail
  simp only[Tryz.sizeOf33,Result.andThen];rw[if_neg (show ¬ (65:Nat)=0 by omega)];dsimp only;rw[Oper.upon_value];go_wp2_with fail
  simp only[Tryz.isAgg33,Tryz.sizeOf33,Result.andThen,↓reduceIte,zv HMa.out 65 hAs.out];rw[Oper.upon_value];go_wp2_with fail
  go_ret;exact⟨by rw[HR.out];rfl,HX.out⟩
end
section
open Go.RowKit
def zbI (m:MsgI):Bool:=if m.kind==1 then(zcD m.held&&(decide (m.held.length≤256)&&(zM m.f&&mayB m.k))) else if m.kind==2 then(m.ents.all zP&&(sidB m.r1 m.r2 m.r3&&(decide (0≤m.seq)&&(decide (m.seq≤1048576)&&(decide (m.ents.length≤256)&&(decide (m.V=cleanL m.V)&&(decide (m.A=cleanL m.A)&&itemsB m.not))))))) else if m.kind==3 then sidB m.r1 m.r2 m.r3 else if m.kind==4 then(decide (1≤m.code)&&decide (m.code≤100)) else false
def za6 (m:MsgI):Bool:=sidB m.s1 m.s2 m.s3&&((m.kind==2||m.kind==3||decide (m.r1=0∧m.r2=0∧m.r3=0))&&((m.kind==4||m.code==0)&&((m.kind==1||zch m)&&((m.kind==2||zbx m)&&zbI m))))
attribute [-simp] Tryz.isAgg36 Tryz.sizeOf36 Tryz.isAgg33 Tryz.sizeOf33
theorem zlA (w:World) (S:SlM) (a:MsgI) (ha:MsgAt w S a) (hok:MsgOk a) (hle:MsgLe a) (ek:a.kind=3):Calls Tryz.prog 9 #[.agg (a.at S).arr] w (Ret (.bool (za6 a)) w):=by
 have d1:(a.kind==1)=false:=by rw[ek];decide
 have m1:(a.kind != 1)=true:=by rw[ek];decide
 have d2:(a.kind==2)=false:=by rw[ek];decide
 have m2:(a.kind != 2)=true:=by rw[ek];decide
 have d3:(a.kind==3)=true:=by rw[ek];decide
 have m3:(a.kind != 3)=false:=by rw[ek];decide
 have d4:(a.kind==4)=false:=by rw[ek];decide
 have m4:(a.kind != 4)=true:=by rw[ek];decide
 have HSi:=fun W=>hid (zca W a.s1 a.s2 a.s3);have HSr:=fun W=>hid (zca W a.r1 a.r2 a.r3);have HEq:=fun W=>zbn a.r1 a.r2 a.r3 0 0 0 W;have HNo:=fun W (hW:Ext w W)=>hid (zfH W S a (ha.ext hW) hok.held hle);have HEm:=fun W (hW:Ext w W)=>hid (zen W S a (ha.ext hW) hok.entl hok.notl);have HA:=hid (zT (a.at S));have HAE:=hid (zab (a.at S));have hz:=hid (zJ (a.at S));have HV:za6 a=(sidB a.s1 a.s2 a.s3&&((a.kind==2||a.kind==3||decide (a.r1=0∧a.r2=0∧a.r3=0))&&((a.kind==4||a.code==0)&&((a.kind==1||zch a)&&((a.kind==2||zbx a)&&zbI a))))):=rfl;rw[d1,d2,d3,d4] at HV
 have HB:zbI a=sidB a.r1 a.r2 a.r3:=by
  unfold zbI;rw[d1,d2,d3,d4];rfl
 rw[HB] at HV;generalize za6 a=R at HV⊢;generalize decide (a.r1=0∧a.r2=0∧a.r3=0)=tr at HV HEq;generalize sidB a.s1 a.s2 a.s3=sb at HV HSi;generalize zch a=tn at HV HNo;generalize zbx a=te at HV HEm;unfold sidV at HSi HSr;generalize (a.at S).arr=ar at HA HAE HNo HEm hz⊢;have HBa:=hid (Blk.new w 36 ar);have HX:=hid (Ext.alloc w (.cells ar 36));have a0:ar[0]? = some (.int .i64 a.kind):=HA.out 0 (by omega);have a1:ar[1]? = some (.int .i64 a.s1):=HA.out 1 (by omega);have a2:ar[2]? = some (.int .i64 a.s2):=HA.out 2 (by omega);have a3:ar[3]? = some (.int .i64 a.s3):=HA.out 3 (by omega)
 have a4:ar[4]? = some (.int .i64 a.r1):=HA.out 4 (by omega);have a5:ar[5]? = some (.int .i64 a.r2):=HA.out 5 (by omega);have a6:ar[6]? = some (.int .i64 a.r3):=HA.out 6 (by omega);have a146:ar[146]? = some (.int .i64 a.code):=HAE.out 1;have la:=HBa.out.lt;have c1:=HBa.out.cell a1;have c2:=HBa.out.cell a2;have c3:=HBa.out.cell a3;have HV:=hid HV;clear HA HAE HB ek ha hok hle;cases sb with
 | false=>
  have HR:Hid (R=false):=by unfold Hid;rw[HV.out];rfl
  clear HV;go_enter Tryz.func9,Tryz.ntmps9;go_wp2_with fail
  refine((HSi _).out).mono ?_;rintro en w2 ⟨rfl,x2⟩;have HX2:=hid (HX.out.trans x2);have c0:=x2.cell (HBa.out.cell a0);clear x2 c1 c2 c3;go_wp2_with fail
  go_ret;exact⟨by rw[HR.out];rfl,HX2.out⟩
 | true=>
 by_cases hcode:a.code=0
 rotate_left
 ·have m5:(a.code != 0)=true:=by simpa using hcode
  have e5:(a.code==0)=false:=by simpa using hcode
  go_enter Tryz.func9,Tryz.ntmps9;go_wp2_with fail
  refine((HSi _).out).mono ?_;rintro en w2 ⟨rfl,x2⟩;have HX2:=hid (HX.out.trans x2);have HB2:=hid (HBa.out.ext x2);clear x2 c1 c2 c3 la HX HBa;have c0:=HB2.out.cell a0;have c4:=HB2.out.cell a4;have c5:=HB2.out.cell a5;have c6:=HB2.out.cell a6;have c146:=HB2.out.cell a146;have la:=HB2.out.lt;have HR:Hid (R=false):=by unfold Hid;rw[HV.out,e5];simp
  clear HV;go_wp2_with fail
  go_ret;exact⟨by rw[HR.out];rfl,HX2.out⟩
 have m5:(a.code != 0)=false:=by rw[hcode];rfl
 have e5:(a.code==0)=true:=by rw[hcode];rfl
 cases tn with
 | false=>
  go_enter Tryz.func9,Tryz.ntmps9;go_wp2_with fail
  refine((HSi _).out).mono ?_;rintro en w2 ⟨rfl,x2⟩;have HX2:=hid (HX.out.trans x2);have HB2:=hid (HBa.out.ext x2);clear x2 c1 c2 c3 la HX HBa;have c0:=HB2.out.cell a0;have c4:=HB2.out.cell a4;have c5:=HB2.out.cell a5;have c6:=HB2.out.cell a6;have c146:=HB2.out.cell a146;have la:=HB2.out.lt;go_wp2_with fail
  simp only[Tryz.isAgg36,Tryz.sizeOf36,Result.andThen,↓reduceIte,za HB2.out 147 hz.out];rw[Oper.upon_value];go_wp2_with fail
  refine((HNo _ HX2.out).out).mono ?_;rintro en w3 ⟨rfl,x3⟩;have HX3:=hid (HX2.out.trans x3);have HB3:=hid (HB2.out.ext x3);clear x3 HB2 c0 c4 c5 c6 c146 la;have c0:=HB3.out.cell a0;have c4:=HB3.out.cell a4;have c5:=HB3.out.cell a5;have c6:=HB3.out.cell a6;have c146:=HB3.out.cell a146;have la:=HB3.out.lt;have HR:Hid (R=false):=by unfold Hid;rw[HV.out,e5];simp
  clear HV;go_wp2_with fail
  go_ret;exact⟨by rw[HR.out];rfl,HX3.out⟩
 | true=>
 cases te with
 | false=>
  go_enter Tryz.func9,Tryz.ntmps9;go_wp2_with fail
  refine((HSi _).out).mono ?_;rintro en w2 ⟨rfl,x2⟩;have HX2:=hid (HX.out.trans x2);have HB2:=hid (HBa.out.ext x2);clear x2 c1 c2 c3 la HX HBa;have c0:=HB2.out.cell a0;have c4:=HB2.out.cell a4;have c5:=HB2.out.cell a5;have c6:=HB2.out.cell a6;have c146:=HB2.out.cell a146;have la:=HB2.out.lt;go_wp2_with fail
  simp only[Tryz.isAgg36,Tryz.sizeOf36,Result.andThen,↓reduceIte,za HB2.out 147 hz.out];rw[Oper.upon_value];go_wp2_with fail
  refine((HNo _ HX2.out).out).mono ?_;rintro en w3 ⟨rfl,x3⟩;have HX3:=hid (HX2.out.trans x3);have HB3:=hid (HB2.out.ext x3);clear x3 HB2 c0 c4 c5 c6 c146 la;have c0:=HB3.out.cell a0;have c4:=HB3.out.cell a4;have c5:=HB3.out.cell a5;have c6:=HB3.out.cell a6;have c146:=HB3.out.cell a146;have la:=HB3.out.lt;go_wp2_with fail
  simp only[Tryz.isAgg36,Tryz.sizeOf36,Result.andThen,↓reduceIte,za HB3.out 147 hz.out];rw[Oper.upon_value];go_wp2_with fail
  refine((HEm _ HX3.out).out).mono ?_;rintro en w4 ⟨rfl,x4⟩;have HX4:=hid (HX3.out.trans x4);have HB4:=hid (HB3.out.ext x4);clear x4 HB3 c0 c4 c5 c6 c146 la;have c0:=HB4.out.cell a0;have c4:=HB4.out.cell a4;have c5:=HB4.out.cell a5;have c6:=HB4.out.cell a6;have c146:=HB4.out.cell a146;have la:=HB4.out.lt;have HR:Hid (R=false):=by unfold Hid;rw[HV.out,e5];simp
  clear HV;go_wp2_with fail
  go_ret;exact⟨by rw[HR.out];rfl,HX4.out⟩
 | true=>
 go_enter Tryz.func9,Tryz.ntmps9;go_wp2_with fail
 refine((HSi _).out).mono ?_;rintro en w2 ⟨rfl,x2⟩;have HX2:=hid (HX.out.trans x2);have HB2:=hid (HBa.out.ext x2);clear x2 c1 c2 c3 la HX HBa;have c0:=HB2.out.cell a0;have c4:=HB2.out.cell a4;have c5:=HB2.out.cell a5;have c6:=HB2.out.cell a6;have c146:=HB2.out.cell a146;have la:=HB2.out.lt;go_wp2_with fail
 simp only[Tryz.isAgg36,Tryz.sizeOf36,Result.andThen,↓reduceIte,za HB2.out 147 hz.out];rw[Oper.upon_value];go_wp2_with fail
 refine((HNo _ HX2.out).out).mono ?_;rintro en w3 ⟨rfl,x3⟩;have HX3:=hid (HX2.out.trans x3);have HB3:=hid (HB2.out.ext x3);clear x3 HB2 c0 c4 c5 c6 c146 la;have c0:=HB3.out.cell a0;have c4:=HB3.out.cell a4;have c5:=HB3.out.cell a5;have c6:=HB3.out.cell a6;have c146:=HB3.out.cell a146;have la:=HB3.out.lt;go_wp2_with fail
 simp only[Tryz.isAgg36,Tryz.sizeOf36,Result.andThen,↓reduceIte,za HB3.out 147 hz.out];rw[Oper.upon_value];go_wp2_with fail
 refine((HEm _ HX3.out).out).mono ?_;rintro en w4 ⟨rfl,x4⟩;have HX4:=hid (HX3.out.trans x4);have HB4:=hid (HB3.out.ext x4);clear x4 HB3 c0 c4 c5 c6 c146 la;have c0:=HB4.out.cell a0;have c4:=HB4.out.cell a4;have c5:=HB4.out.cell a5;have c6:=HB4.out.cell a6;have c146:=HB4.out.cell a146;have la:=HB4.out.lt;have HR:Hid (R=sidB a.r1 a.r2 a.r3):=by unfold Hid;rw[HV.out,e5];simp
 clear HV;go_wp2_with fail
 refine((HSr _).out).mono ?_;rintro en w9 ⟨rfl,x9⟩;have HX9:=hid (HX4.out.trans x9);clear x9;go_wp2_with fail
 go_ret;exact⟨by rw[HR.out];rfl,HX9.out⟩
theorem zlz (w:World) (S:SlM) (a:MsgI) (ha:MsgAt w S a) (hok:MsgOk a) (hle:MsgLe a) (ek:a.kind=4):Calls Tryz.prog 9 #[.agg (a.at S).arr] w (Ret (.bool (za6 a)) w):=by
 have d1:(a.kind==1)=false:=by rw[ek];decide
 have m1:(a.kind != 1)=true:=by rw[ek];decide
 have d2:(a.kind==2)=false:=by rw[ek];decide
 have m2:(a.kind != 2)=true:=by rw[ek];decide
 have d3:(a.kind==3)=false:=by rw[ek];decide
 have m3:(a.kind != 3)=true:=by rw[ek];decide
 have d4:(a.kind==4)=true:=by rw[ek];decide
 have m4:(a.kind != 4)=false:=by rw[ek];decide
 have HSi:=fun W=>hid (zca W a.s1 a.s2 a.s3);have HSr:=fun W=>hid (zca W a.r1 a.r2 a.r3);have HEq:=fun W=>zbn a.r1 a.r2 a.r3 0 0 0 W;have HNo:=fun W (hW:Ext w W)=>hid (zfH W S a (ha.ext hW) hok.held hle);have HEm:=fun W (hW:Ext w W)=>hid (zen W S a (ha.ext hW) hok.entl hok.notl);have HA:=hid (zT (a.at S));have HAE:=hid (zab (a.at S));have hz:=hid (zJ (a.at S));have HV:za6 a=(sidB a.s1 a.s2 a.s3&&((a.kind==2||a.kind==3||decide (a.r1=0∧a.r2=0∧a.r3=0))&&((a.kind==4||a.code==0)&&((a.kind==1||zch a)&&((a.kind==2||zbx a)&&zbI a))))):=rfl;rw[d1,d2,d3,d4] at HV
 have HB:zbI a=(decide (1≤a.code)&&decide (a.code≤100)):=by
  unfold zbI;rw[d1,d2,d3,d4];rfl
 rw[HB] at HV;generalize za6 a=R at HV⊢;generalize decide (a.r1=0∧a.r2=0∧a.r3=0)=tr at HV HEq;generalize sidB a.s1 a.s2 a.s3=sb at HV HSi;generalize zch a=tn at HV HNo;generalize zbx a=te at HV HEm;unfold sidV at HSi HSr;generalize (a.at S).arr=ar at HA HAE HNo HEm hz⊢;have HBa:=hid (Blk.new w 36 ar);have HX:=hid (Ext.alloc w (.cells ar 36));have a0:ar[0]? = some (.int .i64 a.kind):=HA.out 0 (by omega);have a1:ar[1]? = some (.int .i64 a.s1):=HA.out 1 (by omega);have a2:ar[2]? = some (.int .i64 a.s2):=HA.out 2 (by omega);have a3:ar[3]? = some (.int .i64 a.s3):=HA.out 3 (by omega)
 have a4:ar[4]? = some (.int .i64 a.r1):=HA.out 4 (by omega);have a5:ar[5]? = some (.int .i64 a.r2):=HA.out 5 (by omega);have a6:ar[6]? = some (.int .i64 a.r3):=HA.out 6 (by omega);have a146:ar[146]? = some (.int .i64 a.code):=HAE.out 1;have la:=HBa.out.lt;have c1:=HBa.out.cell a1;have c2:=HBa.out.cell a2;have c3:=HBa.out.cell a3;have HV:=hid HV;clear HA HAE HB ek ha hok hle;cases sb with
 | false=>
  have HR:Hid (R=false):=by unfold Hid;rw[HV.out];rfl
  clear HV;go_enter Tryz.func9,Tryz.ntmps9;go_wp2_with fail
  refine((HSi _).out).mono ?_;rintro en w2 ⟨rfl,x2⟩;have HX2:=hid (HX.out.trans x2);have c0:=x2.cell (HBa.out.cell a0);clear x2 c1 c2 c3;go_wp2_with fail
  go_ret;exact⟨by rw[HR.out];rfl,HX2.out⟩
 | true=>
 cases tr with
 | false=>
  go_enter Tryz.func9,Tryz.ntmps9;go_wp2_with fail
  refine((HSi _).out).mono ?_;rintro en w2 ⟨rfl,x2⟩;have HX2:=hid (HX.out.trans x2);have HB2:=hid (HBa.out.ext x2);clear x2 c1 c2 c3 la HX HBa;have c0:=HB2.out.cell a0;have c4:=HB2.out.cell a4;have c5:=HB2.out.cell a5;have c6:=HB2.out.cell a6;have c146:=HB2.out.cell a146;have la:=HB2.out.lt;have HR:Hid (R=false):=by unfold Hid;rw[HV.out];simp
  clear HV;go_wp2_with fail
  go_ret;exact⟨by rw[HR.out];rfl,HX2.out⟩
 | true=>
 cases tn with
 | false=>
  go_enter Tryz.func9,Tryz.ntmps9;go_wp2_with fail
  refine((HSi _).out).mono ?_;rintro en w2 ⟨rfl,x2⟩;have HX2:=hid (HX.out.trans x2);have HB2:=hid (HBa.out.ext x2);clear x2 c1 c2 c3 la HX HBa;have c0:=HB2.out.cell a0;have c4:=HB2.out.cell a4;have c5:=HB2.out.cell a5;have c6:=HB2.out.cell a6;have c146:=HB2.out.cell a146;have la:=HB2.out.lt;go_wp2_with fail
  simp only[Tryz.isAgg36,Tryz.sizeOf36,Result.andThen,↓reduceIte,za HB2.out 147 hz.out];rw[Oper.upon_value];go_wp2_with fail
  refine((HNo _ HX2.out).out).mono ?_;rintro en w3 ⟨rfl,x3⟩;have HX3:=hid (HX2.out.trans x3);have HB3:=hid (HB2.out.ext x3);clear x3 HB2 c0 c4 c5 c6 c146 la;have c0:=HB3.out.cell a0;have c4:=HB3.out.cell a4;have c5:=HB3.out.cell a5;have c6:=HB3.out.cell a6;have c146:=HB3.out.cell a146;have la:=HB3.out.lt;have HR:Hid (R=false):=by unfold Hid;rw[HV.out];simp
  clear HV;go_wp2_with fail
  go_ret;exact⟨by rw[HR.out];rfl,HX3.out⟩
 | true=>
 cases te with
 | false=>
  go_enter Tryz.func9,Tryz.ntmps9;go_wp2_with fail
  refine((HSi _).out).mono ?_;rintro en w2 ⟨rfl,x2⟩;have HX2:=hid (HX.out.trans x2);have HB2:=hid (HBa.out.ext x2);clear x2 c1 c2 c3 la HX HBa;have c0:=HB2.out.cell a0;have c4:=HB2.out.cell a4;have c5:=HB2.out.cell a5;have c6:=HB2.out.cell a6;have c146:=HB2.out.cell a146;have la:=HB2.out.lt;go_wp2_with fail
  simp only[Tryz.isAgg36,Tryz.sizeOf36,Result.andThen,↓reduceIte,za HB2.out 147 hz.out];rw[Oper.upon_value];go_wp2_with fail
  refine((HNo _ HX2.out).out).mono ?_;rintro en w3 ⟨rfl,x3⟩;have HX3:=hid (HX2.out.trans x3);have HB3:=hid (HB2.out.ext x3);clear x3 HB2 c0 c4 c5 c6 c146 la;have c0:=HB3.out.cell a0;have c4:=HB3.out.cell a4;have c5:=HB3.out.cell a5;have c6:=HB3.out.cell a6;have c146:=HB3.out.cell a146;have la:=HB3.out.lt;go_wp2_with fail
  simp only[Tryz.isAgg36,Tryz.sizeOf36,Result.andThen,↓reduceIte,za HB3.out 147 hz.out];rw[Oper.upon_value];go_wp2_with fail
  refine((HEm _ HX3.out).out).mono ?_;rintro en w4 ⟨rfl,x4⟩;have HX4:=hid (HX3.out.trans x4);have HB4:=hid (HB3.out.ext x4);clear x4 HB3 c0 c4 c5 c6 c146 la;have c0:=HB4.out.cell a0;have c4:=HB4.out.cell a4;have c5:=HB4.out.cell a5;have c6:=HB4.out.cell a6;have c146:=HB4.out.cell a146;have la:=HB4.out.lt;have HR:Hid (R=false):=by unfold Hid;rw[HV.out];simp
  clear HV;go_wp2_with fail
  go_ret;exact⟨by rw[HR.out];rfl,HX4.out⟩
 | true=>
 go_enter Tryz.func9,Tryz.ntmps9;go_wp2_with fail
 refine((HSi _).out).mono ?_;rintro en w2 ⟨rfl,x2⟩;have HX2:=hid (HX.out.trans x2);have HB2:=hid (HBa.out.ext x2);clear x2 c1 c2 c3 la HX HBa;have c0:=HB2.out.cell a0;have c4:=HB2.out.cell a4;have c5:=HB2.out.cell a5;have c6:=HB2.out.cell a6;have c146:=HB2.out.cell a146;have la:=HB2.out.lt;go_wp2_with fail
 simp only[Tryz.isAgg36,Tryz.sizeOf36,Result.andThen,↓reduceIte,za HB2.out 147 hz.out];rw[Oper.upon_value];go_wp2_with fail
 refine((HNo _ HX2.out).out).mono ?_;rintro en w3 ⟨rfl,x3⟩;have HX3:=hid (HX2.out.trans x3);have HB3:=hid (HB2.out.ext x3);clear x3 HB2 c0 c4 c5 c6 c146 la;have c0:=HB3.out.cell a0;have c4:=HB3.out.cell a4;have c5:=HB3.out.cell a5;have c6:=HB3.out.cell a6;have c146:=HB3.out.cell a146;have la:=HB3.out.lt;go_wp2_with fail
 simp only[Tryz.isAgg36,Tryz.sizeOf36,Result.andThen,↓reduceIte,za HB3.out 147 hz.out];rw[Oper.upon_value];go_wp2_with fail
 refine((HEm _ HX3.out).out).mono ?_;rintro en w4 ⟨rfl,x4⟩;have HX4:=hid (HX3.out.trans x4);have HB4:=hid (HB3.out.ext x4);clear x4 HB3 c0 c4 c5 c6 c146 la;have c0:=HB4.out.cell a0;have c4:=HB4.out.cell a4;have c5:=HB4.out.cell a5;have c6:=HB4.out.cell a6;have c146:=HB4.out.cell a146;have la:=HB4.out.lt;have HR:Hid (R=(decide (1≤a.code)&&decide (a.code≤100))):=by unfold Hid;rw[HV.out];simp
 clear HV;by_cases k1:1≤a.code
 ·by_cases k2:a.code≤100
  ·have e1:decide (1≤a.code)=true:=decide_eq_true k1
   have e2:decide (a.code≤100)=true:=decide_eq_true k2;rw[e1,e2] at HR;clear k1 k2;go_wp2_with fail
   go_ret;exact⟨by rw[HR.out];rfl,HX4.out⟩
  ·have e1:decide (1≤a.code)=true:=decide_eq_true k1
   have e2:decide (a.code≤100)=false:=decide_eq_false k2;rw[e1,e2] at HR;clear k1 k2;go_wp2_with fail
   go_ret;exact⟨by rw[HR.out];rfl,HX4.out⟩
 ·have e1:decide (1≤a.code)=false:=decide_eq_false k1
  rw[e1] at HR;clear k1;go_wp2_with fail
  go_ret;exact⟨by rw[HR.out];rfl,HX4.out⟩
theorem zlD (w:World) (S:SlM) (a:MsgI) (ha:MsgAt w S a) (hok:MsgOk a) (hle:MsgLe a) (ek:a.kind≠1∧a.kind≠2∧a.kind≠3∧a.kind≠4):Calls Tryz.prog 9 #[.agg (a.at S).arr] w (Ret (.bool (za6 a)) w):=by
 have d1:(a.kind==1)=false:=by simpa using ek.1
 have m1:(a.kind != 1)=true:=by simpa using ek.1
 have d2:(a.kind==2)=false:=by simpa using ek.2.1
 have m2:(a.kind != 2)=true:=by simpa using ek.2.1
 have d3:(a.kind==3)=false:=by simpa using ek.2.2.1
 have m3:(a.kind != 3)=true:=by simpa using ek.2.2.1
 have d4:(a.kind==4)=false:=by simpa using ek.2.2.2
 have m4:(a.kind != 4)=true:=by simpa using ek.2.2.2
 have HSi:=fun W=>hid (zca W a.s1 a.s2 a.s3);have HSr:=fun W=>hid (zca W a.r1 a.r2 a.r3);have HEq:=fun W=>zbn a.r1 a.r2 a.r3 0 0 0 W;have HNo:=fun W (hW:Ext w W)=>hid (zfH W S a (ha.ext hW) hok.held hle);have HEm:=fun W (hW:Ext w W)=>hid (zen W S a (ha.ext hW) hok.entl hok.notl);have HA:=hid (zT (a.at S));have HAE:=hid (zab (a.at S));have hz:=hid (zJ (a.at S));have HV:za6 a=(sidB a.s1 a.s2 a.s3&&((a.kind==2||a.kind==3||decide (a.r1=0∧a.r2=0∧a.r3=0))&&((a.kind==4||a.code==0)&&((a.kind==1||zch a)&&((a.kind==2||zbx a)&&zbI a))))):=rfl;rw[d1,d2,d3,d4] at HV
 have HB:zbI a=false:=by
  unfold zbI;rw[d1,d2,d3,d4];rfl
 rw[HB] at HV;generalize za6 a=R at HV⊢;generalize decide (a.r1=0∧a.r2=0∧a.r3=0)=tr at HV HEq;generalize sidB a.s1 a.s2 a.s3=sb at HV HSi;generalize zch a=tn at HV HNo;generalize zbx a=te at HV HEm;unfold sidV at HSi HSr;generalize (a.at S).arr=ar at HA HAE HNo HEm hz⊢;have HBa:=hid (Blk.new w 36 ar);have HX:=hid (Ext.alloc w (.cells ar 36));have a0:ar[0]? = some (.int .i64 a.kind):=HA.out 0 (by omega);have a1:ar[1]? = some (.int .i64 a.s1):=HA.out 1 (by omega);have a2:ar[2]? = some (.int .i64 a.s2):=HA.out 2 (by omega);have a3:ar[3]? = some (.int .i64 a.s3):=HA.out 3 (by omega)
 have a4:ar[4]? = some (.int .i64 a.r1):=HA.out 4 (by omega);have a5:ar[5]? = some (.int .i64 a.r2):=HA.out 5 (by omega);have a6:ar[6]? = some (.int .i64 a.r3):=HA.out 6 (by omega);have a146:ar[146]? = some (.int .i64 a.code):=HAE.out 1;have la:=HBa.out.lt;have c1:=HBa.out.cell a1;have c2:=HBa.out.cell a2;have c3:=HBa.out.cell a3;have HV:=hid HV;clear HA HAE HB ek ha hok hle;cases sb with
 | false=>
  have HR:Hid (R=false):=by unfold Hid;rw[HV.out];rfl
  clear HV;go_enter Tryz.func9,Tryz.ntmps9;go_wp2_with fail
  refine((HSi _).out).mono ?_;rintro en w2 ⟨rfl,x2⟩;have HX2:=hid (HX.out.trans x2);have c0:=x2.cell (HBa.out.cell a0);clear x2 c1 c2 c3;go_wp2_with fail
  go_ret;exact⟨by rw[HR.out];rfl,HX2.out⟩
 | true=>
 cases tr with
 | false=>
  go_enter Tryz.func9,Tryz.ntmps9;go_wp2_with fail
  refine((HSi _).out).mono ?_;rintro en w2 ⟨rfl,x2⟩;have HX2:=hid (HX.out.trans x2);have HB2:=hid (HBa.out.ext x2);clear x2 c1 c2 c3 la HX HBa;have c0:=HB2.out.cell a0;have c4:=HB2.out.cell a4;have c5:=HB2.out.cell a5;have c6:=HB2.out.cell a6;have c146:=HB2.out.cell a146;have la:=HB2.out.lt;have HR:Hid (R=false):=by unfold Hid;rw[HV.out];simp
  clear HV;go_wp2_with fail
  go_ret;exact⟨by rw[HR.out];rfl,HX2.out⟩
 | true=>
 by_cases hcode:a.code=0
 rotate_left
 ·have m5:(a.code != 0)=true:=by simpa using hcode
  have e5:(a.code==0)=false:=by simpa using hcode
  go_enter Tryz.func9,Tryz.ntmps9;go_wp2_with fail
  refine((HSi _).out).mono ?_;rintro en w2 ⟨rfl,x2⟩;have HX2:=hid (HX.out.trans x2);have HB2:=hid (HBa.out.ext x2);clear x2 c1 c2 c3 la HX HBa;have c0:=HB2.out.cell a0;have c4:=HB2.out.cell a4;have c5:=HB2.out.cell a5;have c6:=HB2.out.cell a6;have c146:=HB2.out.cell a146;have la:=HB2.out.lt;have HR:Hid (R=false):=by unfold Hid;rw[HV.out,e5];simp
  clear HV;go_wp2_with fail
  go_ret;exact⟨by rw[HR.out];rfl,HX2.out⟩
 have m5:(a.code != 0)=false:=by rw[hcode];rfl
 have e5:(a.code==0)=true:=by rw[hcode];rfl
 cases tn with
 | false=>
  go_enter Tryz.func9,Tryz.ntmps9;go_wp2_with fail
  refine((HSi _).out).mono ?_;rintro en w2 ⟨rfl,x2⟩;have HX2:=hid (HX.out.trans x2);have HB2:=hid (HBa.out.ext x2);clear x2 c1 c2 c3 la HX HBa;have c0:=HB2.out.cell a0;have c4:=HB2.out.cell a4;have c5:=HB2.out.cell a5;have c6:=HB2.out.cell a6;have c146:=HB2.out.cell a146;have la:=HB2.out.lt;go_wp2_with fail
  simp only[Tryz.isAgg36,Tryz.sizeOf36,Result.andThen,↓reduceIte,za HB2.out 147 hz.out];rw[Oper.upon_value];go_wp2_with fail
  refine((HNo _ HX2.out).out).mono ?_;rintro en w3 ⟨rfl,x3⟩;have HX3:=hid (HX2.out.trans x3);have HB3:=hid (HB2.out.ext x3);clear x3 HB2 c0 c4 c5 c6 c146 la;have c0:=HB3.out.cell a0;have c4:=HB3.out.cell a4;have c5:=HB3.out.cell a5;have c6:=HB3.out.cell a6;have c146:=HB3.out.cell a146;have la:=HB3.out.lt;have HR:Hid (R=false):=by unfold Hid;rw[HV.out,e5];simp
  clear HV;go_wp2_with fail
  go_ret;exact⟨by rw[HR.out];rfl,HX3.out⟩
 | true=>
 cases te with
 | false=>
  go_enter Tryz.func9,Tryz.ntmps9;go_wp2_with fail
  refine((HSi _).out).mono ?_;rintro en w2 ⟨rfl,x2⟩;have HX2:=hid (HX.out.trans x2);have HB2:=hid (HBa.out.ext x2);clear x2 c1 c2 c3 la HX HBa;have c0:=HB2.out.cell a0;have c4:=HB2.out.cell a4;have c5:=HB2.out.cell a5;have c6:=HB2.out.cell a6;have c146:=HB2.out.cell a146;have la:=HB2.out.lt;go_wp2_with fail
  simp only[Tryz.isAgg36,Tryz.sizeOf36,Result.andThen,↓reduceIte,za HB2.out 147 hz.out];rw[Oper.upon_value];go_wp2_with fail
  refine((HNo _ HX2.out).out).mono ?_;rintro en w3 ⟨rfl,x3⟩;have HX3:=hid (HX2.out.trans x3);have HB3:=hid (HB2.out.ext x3);clear x3 HB2 c0 c4 c5 c6 c146 la;have c0:=HB3.out.cell a0;have c4:=HB3.out.cell a4;have c5:=HB3.out.cell a5;have c6:=HB3.out.cell a6;have c146:=HB3.out.cell a146;have la:=HB3.out.lt;go_wp2_with fail
  simp only[Tryz.isAgg36,Tryz.sizeOf36,Result.andThen,↓reduceIte,za HB3.out 147 hz.out];rw[Oper.upon_value];go_wp2_with fail
  refine((HEm _ HX3.out).out).mono ?_;rintro en w4 ⟨rfl,x4⟩;have HX4:=hid (HX3.out.trans x4);have HB4:=hid (HB3.out.ext x4);clear x4 HB3 c0 c4 c5 c6 c146 la;have c0:=HB4.out.cell a0;have c4:=HB4.out.cell a4;have c5:=HB4.out.cell a5;have c6:=HB4.out.cell a6;have c146:=HB4.out.cell a146;have la:=HB4.out.lt;have HR:Hid (R=false):=by unfold Hid;rw[HV.out,e5];simp
  clear HV;go_wp2_with fail
  go_ret;exact⟨by rw[HR.out];rfl,HX4.out⟩
 | true=>
 go_enter Tryz.func9,Tryz.ntmps9;go_wp2_with fail
 refine((HSi _).out).mono ?_;rintro en w2 ⟨rfl,x2⟩;have HX2:=hid (HX.out.trans x2);have HB2:=hid (HBa.out.ext x2);clear x2 c1 c2 c3 la HX HBa;have c0:=HB2.out.cell a0;have c4:=HB2.out.cell a4;have c5:=HB2.out.cell a5;have c6:=HB2.out.cell a6;have c146:=HB2.out.cell a146;have la:=HB2.out.lt;go_wp2_with fail
 simp only[Tryz.isAgg36,Tryz.sizeOf36,Result.andThen,↓reduceIte,za HB2.out 147 hz.out];rw[Oper.upon_value];go_wp2_with fail
 refine((HNo _ HX2.out).out).mono ?_;rintro en w3 ⟨rfl,x3⟩;have HX3:=hid (HX2.out.trans x3);have HB3:=hid (HB2.out.ext x3);clear x3 HB2 c0 c4 c5 c6 c146 la;have c0:=HB3.out.cell a0;have c4:=HB3.out.cell a4;have c5:=HB3.out.cell a5;have c6:=HB3.out.cell a6;have c146:=HB3.out.cell a146;have la:=HB3.out.lt;go_wp2_with fail
 simp only[Tryz.isAgg36,Tryz.sizeOf36,Result.andThen,↓reduceIte,za HB3.out 147 hz.out];rw[Oper.upon_value];go_wp2_with fail
 refine((HEm _ HX3.out).out).mono ?_;rintro en w4 ⟨rfl,x4⟩;have HX4:=hid (HX3.out.trans x4);have HB4:=hid (HB3.out.ext x4);clear x4 HB3 c0 c4 c5 c6 c146 la;have c0:=HB4.out.cell a0;have c4:=HB4.out.cell a4;have c5:=HB4.out.cell a5;have c6:=HB4.out.cell a6;have c146:=HB4.out.cell a146;have la:=HB4.out.lt;have HR:Hid (R=false):=by unfold Hid;rw[HV.out];simp
 clear HV;go_wp2_with fail
 go_ret;exact⟨by rw[HR.out];rfl,HX4.out⟩
end
end Go.Proofs.YtofjpdgojoppbaaGreatDoor
