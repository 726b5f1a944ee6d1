/-
  Of the claim's proof: MgF.
-/
import Derived.Deep.Cut
import Derived.Test.YtofjpdgojoppbaaGreatDoorS20
import Derived.Test.YtofjpdgojoppbaaGreatDoorS26
set_option maxRecDepth 100000
set_option maxHeartbeats 16000000
set_option linter.unusedVariables false
set_option linter.unusedSimpArgs false
namespace Go.Proofs.YtofjpdgojoppbaaGreatDoor
open Go.RowKit
def zgh (a b:MsgI):Bool:=(a.kind==b.kind)&&(decide (a.s1=b.s1∧a.s2=b.s2∧a.s3=b.s3)&&(decide (a.r1=b.r1∧a.r2=b.r2∧a.r3=b.r3)&&((a.up==b.up)&&((a.seq==b.seq)&&((a.last==b.last)&&(a.code==b.code))))))
def zec (a b:MsgI):Bool:=decide (a.f=b.f)&&(decide (a.k=b.k)&&(decide (a.held=b.held)&&(decide (a.ents=b.ents)&&decide (a.not=b.not))))
theorem ze5 (a b:MsgI):decide (a=b)=(zgh a b&&(zec a b&&(decide (a.V=b.V)&&decide (a.A=b.A)))):=by
 apply Bool.eq_iff_iff.2;simp only[decide_eq_true_eq,Bool.and_eq_true,zgh,zec,beq_iff_eq];rw[zea]
attribute [-simp] Tryz.isAgg36 Tryz.sizeOf36 Tryz.isAgg33 Tryz.sizeOf33
theorem zgT (w:World) (S R:SlM) (a b:MsgI) (ha:MsgAt w S a) (hb:MsgAt w R b):Calls Tryz.prog 19 #[.agg (a.at S).arr,.agg (b.at R).arr] w (Ret (.bool (decide (a=b))) w):=by
 have HKn:=fun W (hW:Ext w W)=>hid (zml W _ _ _ _ a.k b.k (ha.k.ext hW) (hb.k.ext hW));have HCl:=fun W (hW:Ext w W)=>hid (zic W _ _ a.f b.f (ha.f.ext hW) (hb.f.ext hW));have HNo:=fun W (hW:Ext w W)=>hid (zeU W _ _ a.not b.not (ha.not.ext hW) (hb.not.ext hW));have HPa:=fun W (hW:Ext w W)=>hid (zlA W _ _ a.held b.held (ha.held.ext hW) (hb.held.ext hW));have HEn:=fun W (hW:Ext w W)=>hid (zmj W _ _ a.ents b.ents (ha.ents.ext hW) (hb.ents.ext hW));have HA:=hid (zP (a.at S));have HB:=hid (zP (b.at R));have HAV:=hid (fun j v (h:(vecV a.V)[j]? = some v)=>zbD (a.at S) j v (by simpa[vecV,intsV,MsgI.at] using h))
 have HAA:=hid (fun j v (h:(vecV a.A)[j]? = some v)=>zbE (a.at S) j v (by simpa[vecV,intsV,MsgI.at] using h));have HBV:=hid (fun j v (h:(vecV b.V)[j]? = some v)=>zbD (b.at R) j v (by simpa[vecV,intsV,MsgI.at] using h));have HBA:=hid (fun j v (h:(vecV b.A)[j]? = some v)=>zbE (b.at R) j v (by simpa[vecV,intsV,MsgI.at] using h));have HAE:=hid (zad (a.at S));have HBE:=hid (zad (b.at R));have HEqV:=fun W=>zay a.V b.V a.hV b.hV W;have HEqA:=fun W=>zay a.A b.A a.hA b.hA W;have hVs:=hid (show(vecV a.V).size=65 by rw[ze];exact a.hV);have hAs:=hid (show(vecV a.A).size=65 by rw[ze];exact a.hA)
 have hWs:=hid (show(vecV b.V).size=65 by rw[ze];exact b.hV);have hCs:=hid (show(vecV b.A).size=65 by rw[ze];exact b.hA);have hR:=ze5 a b;have hH:zgh a b=((a.kind==b.kind)&&(decide (a.s1=b.s1∧a.s2=b.s2∧a.s3=b.s3)&&(decide (a.r1=b.r1∧a.r2=b.r2∧a.r3=b.r3)&&((a.up==b.up)&&((a.seq==b.seq)&&((a.last==b.last)&&(a.code==b.code))))))):=rfl;have hL:zec a b=(decide (a.f=b.f)&&(decide (a.k=b.k)&&(decide (a.held=b.held)&&(decide (a.ents=b.ents)&&decide (a.not=b.not))))):=rfl;rw[hR];generalize zgh a b=H at hH⊢;generalize zec a b=L at hL⊢
 generalize decide (a.f=b.f)=t1 at HCl hL;generalize decide (a.k=b.k)=t2 at HKn hL;generalize decide (a.held=b.held)=t3 at HPa hL;generalize decide (a.ents=b.ents)=t4 at HEn hL;generalize decide (a.not=b.not)=t5 at HNo hL;generalize decide (a.V=b.V)=tv at HEqV⊢;generalize decide (a.A=b.A)=ta at HEqA⊢;generalize vecV a.V=VV at HAV HEqV hVs;generalize vecV a.A=AA at HAA HEqA hAs;generalize vecV b.V=WW at HBV HEqV hWs;generalize vecV b.A=CC at HBA HEqA hCs;generalize (a.at S).arr=ar at HA HAV HAA HAE⊢;generalize (b.at R).arr=br at HB HBV HBA HBE⊢
 obtain⟨⟨af1,af2,af3⟩,⟨ax1,ax2,ax3⟩,⟨ay1,ay2,ay3⟩,⟨ah1,ah2,ah3⟩,⟨ae1,ae2,ae3⟩,⟨an1,an2,an3⟩⟩:=S;obtain⟨⟨bf1,bf2,bf3⟩,⟨bx1,bx2,bx3⟩,⟨by1,by2,by3⟩,⟨bh1,bh2,bh3⟩,⟨be1,be2,be3⟩,⟨bn1,bn2,bn3⟩⟩:=R;simp only[SlV.val] at HCl HKn HPa HEn HNo;have HBa:=hid ((Blk.new w 36 ar).alloc (.cells br 36));have HBb:=hid (Blk.new (w.alloc (.cells ar 36)) 36 br);have HX:=hid ((Ext.alloc w (.cells ar 36)).alloc' (.cells br 36));rw[World.size_alloc] at HBb;have a0:ar[0]? = some (.int .i64 a.kind):=HA.out 0 (by omega);have a1:ar[1]? = some (.int .i64 a.s1):=HA.out 1 (by omega);have a2:ar[2]? = some (.int .i64 a.s2):=HA.out 2 (by omega)
 have a3:ar[3]? = some (.int .i64 a.s3):=HA.out 3 (by omega);have a4:ar[4]? = some (.int .i64 a.r1):=HA.out 4 (by omega);have a5:ar[5]? = some (.int .i64 a.r2):=HA.out 5 (by omega);have a6:ar[6]? = some (.int .i64 a.r3):=HA.out 6 (by omega);have a7:ar[7]? = some (.bool a.up):=HA.out 7 (by omega);have a12:ar[12]? = some (.int .i64 a.seq):=HA.out 12 (by omega);have a13:ar[13]? = some (.bool a.last):=HA.out 13 (by omega);have a8:ar[8]? = some (.slice af1 af2 af3):=HA.out 8 (by omega);have a9:ar[9]? = some (.slice ax1 ax2 ax3):=HA.out 9 (by omega);have a10:ar[10]? = some (.slice ay1 ay2 ay3):=HA.out 10 (by omega)
 have a11:ar[11]? = some (.slice ah1 ah2 ah3):=HA.out 11 (by omega);have a14:ar[14]? = some (.slice ae1 ae2 ae3):=HA.out 14 (by omega);have a145:ar[145]? = some (.slice an1 an2 an3):=HAE.out 0;have a146:ar[146]? = some (.int .i64 a.code):=HAE.out 1;have b0:br[0]? = some (.int .i64 b.kind):=HB.out 0 (by omega);have b1:br[1]? = some (.int .i64 b.s1):=HB.out 1 (by omega);have b2:br[2]? = some (.int .i64 b.s2):=HB.out 2 (by omega);have b3:br[3]? = some (.int .i64 b.s3):=HB.out 3 (by omega);have b4:br[4]? = some (.int .i64 b.r1):=HB.out 4 (by omega);have b5:br[5]? = some (.int .i64 b.r2):=HB.out 5 (by omega)
 have b6:br[6]? = some (.int .i64 b.r3):=HB.out 6 (by omega);have b7:br[7]? = some (.bool b.up):=HB.out 7 (by omega);have b12:br[12]? = some (.int .i64 b.seq):=HB.out 12 (by omega);have b13:br[13]? = some (.bool b.last):=HB.out 13 (by omega);have b8:br[8]? = some (.slice bf1 bf2 bf3):=HB.out 8 (by omega);have b9:br[9]? = some (.slice bx1 bx2 bx3):=HB.out 9 (by omega);have b10:br[10]? = some (.slice by1 by2 by3):=HB.out 10 (by omega);have b11:br[11]? = some (.slice bh1 bh2 bh3):=HB.out 11 (by omega);have b14:br[14]? = some (.slice be1 be2 be3):=HB.out 14 (by omega);have b145:br[145]? = some (.slice bn1 bn2 bn3):=HBE.out 0
 have b146:br[146]? = some (.int .i64 b.code):=HBE.out 1;clear HA HB HAE HBE ha hb hR;have c0':=HBa.out.cell a0;have c1':=HBa.out.cell a1;have c2':=HBa.out.cell a2;have c3':=HBa.out.cell a3;have c4':=HBa.out.cell a4;have c5':=HBa.out.cell a5;have c6':=HBa.out.cell a6;have c7':=HBa.out.cell a7;have c12':=HBa.out.cell a12;have c13':=HBa.out.cell a13;have c146':=HBa.out.cell a146;have d0':=HBb.out.cell b0;have d1':=HBb.out.cell b1;have d2':=HBb.out.cell b2;have d3':=HBb.out.cell b3;have d4':=HBb.out.cell b4;have d5':=HBb.out.cell b5;have d6':=HBb.out.cell b6;have d7':=HBb.out.cell b7;have d12':=HBb.out.cell b12;have d13':=HBb.out.cell b13
 have d146':=HBb.out.cell b146;have la:=HBa.out.lt;have lb:=HBb.out.lt;go_enter Tryz.func19,Tryz.ntmps19;go_upto_region 1 with fail
 generalize (w.alloc (.cells ar 36)).alloc (.cells br 36)=w1 at HBa HBb HX c0' d0' c1' d1' c2' d2' c3' d3' c4' d4' c5' d5' c6' d6' c7' d7' c12' d12' c13' d13' c146' d146' la lb⊢;go_cut [5] from 7 (fun s5 wx=>s5=.bool H∧wx=w1)
 case first=>
  have HHd:=hid hH;have HEq1:=fun W=>zcd a.s1 a.s2 a.s3 b.s1 b.s2 b.s3 W;have HEq2:=fun W=>zcd a.r1 a.r2 a.r3 b.r1 b.r2 b.r3 W;clear hH hL HCl HKn HPa HEn HNo HEqV HEqA;cases h1:(a.kind==b.kind) with
  | false=>
   go_wp2_with fail
   go_meet
   exact⟨by rw[HHd.out,h1];rfl,rfl⟩
  | true=>
   cases h2:decide (a.s1=b.s1∧a.s2=b.s2∧a.s3=b.s3) with
   | false=>
    go_wp2_with fail
    go_meet
    exact⟨by rw[HHd.out,h1,h2];rfl,rfl⟩
   | true=>
    cases h3:decide (a.r1=b.r1∧a.r2=b.r2∧a.r3=b.r3) with
    | false=>
     go_wp2_with fail
     go_meet
     exact⟨by rw[HHd.out,h1,h2,h3];rfl,rfl⟩
    | true=>
     cases h4:(a.up==b.up) with
     | false=>
      go_wp2_with fail
      go_meet
      exact⟨by rw[HHd.out,h1,h2,h3,h4];rfl,rfl⟩
     | true=>
      cases h5:(a.seq==b.seq) with
      | false=>
       go_wp2_with fail
       go_meet
       exact⟨by rw[HHd.out,h1,h2,h3,h4,h5];rfl,rfl⟩
      | true=>
       cases h6:(a.last==b.last) with
       | false=>
        go_wp2_with fail
        go_meet
        exact⟨by rw[HHd.out,h1,h2,h3,h4,h5,h6];rfl,rfl⟩
       | true=>
        go_wp2_with fail
        go_meet
        exact⟨by rw[HHd.out,h1,h2,h3,h4,h5,h6];rfl,rfl⟩
 obtain⟨rfl,rfl⟩:=hcut;clear hH c0' d0' c1' d1' c2' d2' c3' d3' c4' d4' c5' d5' c6' d6' c7' d7' c12' d12' c13' d13' c146' d146';go_upto_region 2 with fail
 go_cut [6] from 7 (fun s6 wx=>s6=.bool L∧Hid (Ext wc wx))
 case first=>
  have HLd:=hid hL;have c8':=HBa.out.cell a8;have d8':=HBb.out.cell b8;clear hL HEqV HEqA;go_wp2_with fail
  refine((HCl _ HX.out).out).mono ?_;rintro en w2 ⟨rfl,x2⟩;have X2:=hid x2;clear x2 c8' d8';have c9':=(HBa.out.ext X2.out).cell a9;have d9':=(HBb.out.ext X2.out).cell b9;have c10':=(HBa.out.ext X2.out).cell a10;have d10':=(HBb.out.ext X2.out).cell b10;have la2:=Nat.lt_of_lt_of_le la X2.out.size;have lb2:=Nat.lt_of_lt_of_le lb X2.out.size;cases t1 with
  | false=>
   go_wp2_with fail
   go_meet
   exact⟨by rw[HLd.out];rfl,X2.out⟩
  | true=>
   go_wp2_with fail
   refine((HKn _ (HX.out.trans X2.out)).out).mono ?_;rintro en w3 ⟨rfl,x3⟩;have X3:=hid (X2.out.trans x3);clear x3 c9' d9' c10' d10' la2 lb2;have c11':=(HBa.out.ext X3.out).cell a11;have d11':=(HBb.out.ext X3.out).cell b11;have la3:=Nat.lt_of_lt_of_le la X3.out.size;have lb3:=Nat.lt_of_lt_of_le lb X3.out.size;cases t2 with
   | false=>
    go_wp2_with fail
    go_meet
    exact⟨by rw[HLd.out];rfl,X3.out⟩
   | true=>
    go_wp2_with fail
    refine((HPa _ (HX.out.trans X3.out)).out).mono ?_;rintro en w4 ⟨rfl,x4⟩;have X4:=hid (X3.out.trans x4);clear x4 c11' d11' la3 lb3;have c14':=(HBa.out.ext X4.out).cell a14;have d14':=(HBb.out.ext X4.out).cell b14;have la4:=Nat.lt_of_lt_of_le la X4.out.size;have lb4:=Nat.lt_of_lt_of_le lb X4.out.size;cases t3 with
    | false=>
     go_wp2_with fail
     go_meet
     exact⟨by rw[HLd.out];rfl,X4.out⟩
    | true=>
     go_wp2_with fail
     refine((HEn _ (HX.out.trans X4.out)).out).mono ?_;rintro en w5 ⟨rfl,x5⟩;have X5:=hid (X4.out.trans x5);clear x5 c14' d14' la4 lb4;have c145':=(HBa.out.ext X5.out).cell a145;have d145':=(HBb.out.ext X5.out).cell b145;have la5:=Nat.lt_of_lt_of_le la X5.out.size;have lb5:=Nat.lt_of_lt_of_le lb X5.out.size;cases t4 with
     | false=>
      go_wp2_with fail
      go_meet
      exact⟨by rw[HLd.out];rfl,X5.out⟩
     | true=>
      go_wp2_with fail
      refine((HNo _ (HX.out.trans X5.out)).out).mono ?_;rintro en w6 ⟨rfl,x6⟩;have X6:=hid (X5.out.trans x6);clear x6;go_wp2_with fail
      go_meet
      exact⟨by rw[HLd.out];rfl,X6.out⟩
 obtain⟨rfl,X6⟩:=hcut;have HXr:=hid (HX.out.trans X6.out);have HBa6:=hid (HBa.out.ext X6.out);have HBb6:=hid (HBb.out.ext X6.out);have HLa:=hid (fun j v (h:VV[j]? = some v)=>HBa6.out.cell (HAV.out j v h));have HLb:=hid (fun j v (h:WW[j]? = some v)=>HBb6.out.cell (HBV.out j v h));have HMa:=hid (fun j v (h:AA[j]? = some v)=>HBa6.out.cell (HAA.out j v h));have HMb:=hid (fun j v (h:CC[j]? = some v)=>HBb6.out.cell (HBA.out j v h));have la6:=HBa6.out.lt;have lb6:=HBb6.out.lt;clear hL HCl HKn HPa HEn HNo X6 HX HBa HBb la lb HAV HAA HBV HBA;cases H with
 | false=>
  go_wp2_with fail
  go_ret;exact⟨rfl,HXr.out⟩
 | true=>
  cases L with
  | false=>
   go_wp2_with fail
   go_ret;exact⟨rfl,HXr.out⟩
  | true=>
   go_wp2_with fail
   simp only[Tryz.sizeOf33,Result.andThen];rw[if_neg (show ¬ (65:Nat)=0 by omega)];dsimp only;rw[Oper.upon_value];go_wp2_with fail
   simp only[Tryz.isAgg33,Tryz.sizeOf33,Result.andThen,↓reduceIte,zo HLa.out 65 hVs.out];rw[Oper.upon_value];go_wp2_with fail
   simp only[Tryz.sizeOf33,Result.andThen];rw[if_neg (show ¬ (65:Nat)=0 by omega)];dsimp only;rw[Oper.upon_value];go_wp2_with fail
   simp only[Tryz.isAgg33,Tryz.sizeOf33,Result.andThen,↓reduceIte,zo HLb.out 65 hWs.out];rw[Oper.upon_value];cases tv with
   | false=>
    go_wp2_with fail
    go_ret;exact⟨rfl,HXr.out⟩
   | true=>
    go_wp2_with fail
    simp only[Tryz.sizeOf33,Result.andThen];rw[if_neg (show ¬ (65:Nat)=0 by omega)];dsimp only;rw[Oper.upon_value];go_wp2_with fail
    simp only[Tryz.isAgg33,Tryz.sizeOf33,Result.andThen,↓reduceIte,zo HMa.out 65 hAs.out];rw[Oper.upon_value];go_wp2_with fail
    simp only[Tryz.sizeOf33,Result.andThen];rw[if_neg (show ¬ (65:Nat)=0 by omega)];dsimp only;rw[Oper.upon_value];go_wp2_with fail
    simp only[Tryz.isAgg33,Tryz.sizeOf33,Result.andThen,↓reduceIte,zo HMb.out 65 hCs.out];rw[Oper.upon_value];go_wp2_with fail
    go_ret;exact⟨rfl,HXr.out⟩
end Go.Proofs.YtofjpdgojoppbaaGreatDoor
