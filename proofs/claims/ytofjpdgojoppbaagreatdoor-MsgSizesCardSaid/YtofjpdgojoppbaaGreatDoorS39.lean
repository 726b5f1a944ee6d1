/-
  Of the claim's proof: MgG.
-/
import Derived.Test.YtofjpdgojoppbaaGreatDoorS27
set_option maxRecDepth 100000
set_option maxHeartbeats 16000000
set_option linter.unusedVariables false
set_option linter.unusedSimpArgs false
namespace Go.Proofs.YtofjpdgojoppbaaGreatDoor
open Go.RowKit
attribute [-simp] Tryz.isAgg36 Tryz.sizeOf36 Tryz.isAgg33 Tryz.sizeOf33 Tryz.isAgg61 Tryz.sizeOf61
theorem zj1 (w:World) (S R:SlM) (a b:MsgI) (ha:MsgAt w S a) (hb:MsgAt w R b):Calls Tryz.prog 12 #[.agg (a.at S).arr,.agg (b.at R).arr] w (Ret (.bool (decide (a=b))) w):=by
 have HKn:=fun W (hW:Ext w W)=>hid (zj2 W _ _ _ _ a.k b.k (ha.k.ext hW) (hb.k.ext hW));have HCl:=fun W (hW:Ext w W)=>hid (ze8 W _ _ a.f b.f (ha.f.ext hW) (hb.f.ext hW));have HNo:=fun W (hW:Ext w W)=>hid (zgI W _ _ a.not b.not (ha.not.ext hW) (hb.not.ext hW));have HA:=hid (zP (a.at S));have HB:=hid (zP (b.at R));have HAV:=hid (fun j v (h:(vecV a.V)[j]? = some v)=>zbD (a.at S) j v (by simpa[vecV,intsV,MsgI.at] using h));have HAA:=hid (fun j v (h:(vecV a.A)[j]? = some v)=>zbE (a.at S) j v (by simpa[vecV,intsV,MsgI.at] using h))
 have HBV:=hid (fun j v (h:(vecV b.V)[j]? = some v)=>zbD (b.at R) j v (by simpa[vecV,intsV,MsgI.at] using h));have HBA:=hid (fun j v (h:(vecV b.A)[j]? = some v)=>zbE (b.at R) j v (by simpa[vecV,intsV,MsgI.at] using h));have HAE:=hid (zad (a.at S));have HBE:=hid (zad (b.at R));have HEqV:=fun W=>zay a.V b.V a.hV b.hV W;have HEqA:=fun W=>zay a.A b.A a.hA b.hA W;have hVs:=hid (show(vecV a.V).size=65 by rw[ze];exact a.hV);have hAs:=hid (show(vecV a.A).size=65 by rw[ze];exact a.hA);have hWs:=hid (show(vecV b.V).size=65 by rw[ze];exact b.hV)
 have hCs:=hid (show(vecV b.A).size=65 by rw[ze];exact b.hA);have hR:=ze5 a b;have hH:zgh a b=((a.kind==b.kind)&&(decide (a.s1=b.s1∧a.s2=b.s2∧a.s3=b.s3)&&(decide (a.r1=b.r1∧a.r2=b.r2∧a.r3=b.r3)&&((a.up==b.up)&&((a.seq==b.seq)&&((a.last==b.last)&&(a.code==b.code))))))):=rfl;have hL:zec a b=(decide (a.f=b.f)&&(decide (a.k=b.k)&&(decide (a.held=b.held)&&(decide (a.ents=b.ents)&&decide (a.not=b.not))))):=rfl;have HEq1:=fun W=>zcd a.s1 a.s2 a.s3 b.s1 b.s2 b.s3 W;have HEq2:=fun W=>zcd a.r1 a.r2 a.r3 b.r1 b.r2 b.r3 W;rw[hR];generalize zgh a b=H at hH⊢
 generalize zec a b=L at hL⊢;generalize decide (a.f=b.f)=t1 at HCl hL;generalize decide (a.k=b.k)=t2 at HKn hL;generalize decide (a.not=b.not)=t5 at HNo hL;have HHeld:Hid ((a.held≠b.held→decide (a.held=b.held)=false)∧(a.held=b.held→decide (a.held=b.held)=true)):=⟨fun h=>decide_eq_false h,fun h=>decide_eq_true h⟩
 have HEnts:Hid ((a.ents≠b.ents→decide (a.ents=b.ents)=false)∧(a.ents=b.ents→decide (a.ents=b.ents)=true)):=⟨fun h=>decide_eq_false h,fun h=>decide_eq_true h⟩
 generalize decide (a.held=b.held)=t3 at hL HHeld;generalize decide (a.ents=b.ents)=t4 at hL HEnts;generalize decide (a.V=b.V)=tv at HEqV⊢;generalize decide (a.A=b.A)=ta at HEqA⊢;generalize hr:(H&&(L&&(tv&&ta)))=r;have HHd:=hid hH;have HLd:=hid hL;have Hr:=hid hr;clear hH hL hr hR;generalize vecV a.V=VV at HAV HEqV hVs;generalize vecV a.A=AA at HAA HEqA hAs;generalize vecV b.V=WW at HBV HEqV hWs;generalize vecV b.A=CC at HBA HEqA hCs;generalize (a.at S).arr=ar at HA HAV HAA HAE⊢;generalize (b.at R).arr=br at HB HBV HBA HBE⊢;obtain⟨haf,hak,hah,hae,han⟩:=ha;obtain⟨hbf,hbk,hbh,hbe,hbn⟩:=hb
 obtain⟨⟨af1,af2,af3⟩,⟨ax1,ax2,ax3⟩,⟨ay1,ay2,ay3⟩,⟨ah1,ah2,ah3⟩,⟨ae1,ae2,ae3⟩,⟨an1,an2,an3⟩⟩:=S;obtain⟨⟨bf1,bf2,bf3⟩,⟨bx1,bx2,bx3⟩,⟨by1,by2,by3⟩,⟨bh1,bh2,bh3⟩,⟨be1,be2,be3⟩,⟨bn1,bn2,bn3⟩⟩:=R;simp only[SlV.val] at HCl HKn HNo hah hbh hae hbe;clear haf hak han hbf hbk hbn;obtain⟨_,_,e1,ahx1,ahx2,ahx3⟩:=zr hah;injection e1 with e1 e2 e1c
 subst e1 e1c e2;obtain⟨_,_,e1,bhx1,bhx2,bhx3⟩:=zr hbh;injection e1 with e1 e2 e1c
 subst e1 e1c e2;obtain⟨_,_,e1,aex1,aex2,aex3⟩:=zr hae;injection e1 with e1 e2 e1c
 subst e1 e1c e2;obtain⟨_,_,e1,bex1,bex2,bex3⟩:=zr hbe;injection e1 with e1 e2 e1c
 subst e1 e1c e2;have HH3:=hid ahx3;have HI3:=hid bhx3;have HE3:=hid aex3;have HG3:=hid bex3;clear hah hbh hae hbe ahx3 bhx3 aex3 bex3;unfold maxLen at ahx2 bhx2 aex2 bex2;have HBa:=hid ((Blk.new w 36 ar).alloc (.cells br 36));have HBb:=hid (Blk.new (w.alloc (.cells ar 36)) 36 br);have HX:=hid ((Ext.alloc w (.cells ar 36)).alloc' (.cells br 36));rw[World.size_alloc] at HBb;have a0:ar[0]? = some (.int .i64 a.kind):=HA.out 0 (by omega);have a1:ar[1]? = some (.int .i64 a.s1):=HA.out 1 (by omega);have a2:ar[2]? = some (.int .i64 a.s2):=HA.out 2 (by omega);have a3:ar[3]? = some (.int .i64 a.s3):=HA.out 3 (by omega)
 have a4:ar[4]? = some (.int .i64 a.r1):=HA.out 4 (by omega);have a5:ar[5]? = some (.int .i64 a.r2):=HA.out 5 (by omega);have a6:ar[6]? = some (.int .i64 a.r3):=HA.out 6 (by omega);have a7:ar[7]? = some (.bool a.up):=HA.out 7 (by omega);have a12:ar[12]? = some (.int .i64 a.seq):=HA.out 12 (by omega);have a13:ar[13]? = some (.bool a.last):=HA.out 13 (by omega);have a8:ar[8]? = some (.slice af1 af2 af3):=HA.out 8 (by omega);have a9:ar[9]? = some (.slice ax1 ax2 ax3):=HA.out 9 (by omega);have a10:ar[10]? = some (.slice ay1 ay2 ay3):=HA.out 10 (by omega);have a11:ar[11]? = some (.slice ah1 a.held.length ah3):=HA.out 11 (by omega)
 have a14:ar[14]? = some (.slice ae1 a.ents.length ae3):=HA.out 14 (by omega);have a145:ar[145]? = some (.slice an1 an2 an3):=HAE.out 0;have a146:ar[146]? = some (.int .i64 a.code):=HAE.out 1;have b0:br[0]? = some (.int .i64 b.kind):=HB.out 0 (by omega);have b1:br[1]? = some (.int .i64 b.s1):=HB.out 1 (by omega);have b2:br[2]? = some (.int .i64 b.s2):=HB.out 2 (by omega);have b3:br[3]? = some (.int .i64 b.s3):=HB.out 3 (by omega);have b4:br[4]? = some (.int .i64 b.r1):=HB.out 4 (by omega);have b5:br[5]? = some (.int .i64 b.r2):=HB.out 5 (by omega);have b6:br[6]? = some (.int .i64 b.r3):=HB.out 6 (by omega)
 have b7:br[7]? = some (.bool b.up):=HB.out 7 (by omega);have b12:br[12]? = some (.int .i64 b.seq):=HB.out 12 (by omega);have b13:br[13]? = some (.bool b.last):=HB.out 13 (by omega);have b8:br[8]? = some (.slice bf1 bf2 bf3):=HB.out 8 (by omega);have b9:br[9]? = some (.slice bx1 bx2 bx3):=HB.out 9 (by omega);have b10:br[10]? = some (.slice by1 by2 by3):=HB.out 10 (by omega);have b11:br[11]? = some (.slice bh1 b.held.length bh3):=HB.out 11 (by omega);have b14:br[14]? = some (.slice be1 b.ents.length be3):=HB.out 14 (by omega);have b145:br[145]? = some (.slice bn1 bn2 bn3):=HBE.out 0;have b146:br[146]? = some (.int .i64 b.code):=HBE.out 1
 clear HA HB HAE HBE;have c0':=HBa.out.cell a0;have c1':=HBa.out.cell a1;have c2':=HBa.out.cell a2;have c3':=HBa.out.cell a3;have c4':=HBa.out.cell a4;have c5':=HBa.out.cell a5;have c6':=HBa.out.cell a6;have c7':=HBa.out.cell a7;have c12':=HBa.out.cell a12;have c13':=HBa.out.cell a13;have c146':=HBa.out.cell a146;have d0':=HBb.out.cell b0;have d1':=HBb.out.cell b1;have d2':=HBb.out.cell b2;have d3':=HBb.out.cell b3;have d4':=HBb.out.cell b4;have d5':=HBb.out.cell b5;have d6':=HBb.out.cell b6;have d7':=HBb.out.cell b7;have d12':=HBb.out.cell b12;have d13':=HBb.out.cell b13;have d146':=HBb.out.cell b146;have la:=HBa.out.lt;have lb:=HBb.out.lt
 have HLa:=hid (fun j v (h:VV[j]? = some v)=>HBa.out.cell (HAV.out j v h));have HLb:=hid (fun j v (h:WW[j]? = some v)=>HBb.out.cell (HBV.out j v h));have HMa:=hid (fun j v (h:AA[j]? = some v)=>HBa.out.cell (HAA.out j v h));have HMb:=hid (fun j v (h:CC[j]? = some v)=>HBb.out.cell (HBA.out j v h));clear HAV HAA HBV HBA;go_enter Tryz.func12,Tryz.ntmps12;go_upto_region 1 with fail
 generalize (w.alloc (.cells ar 36)).alloc (.cells br 36)=w1 at HBa HBb HX HLa HLb HMa HMb c0' d0' c1' d1' c2' d2' c3' d3' c4' d4' c5' d5' c6' d6' c7' d7' c12' d12' c13' d13' c146' d146' la lb⊢;cases e1:(a.kind==b.kind) with
 | false=>
  have g1:(a.kind != b.kind)=true:=by unfold bne;rw[e1];rfl
  go_wp2_with fail
  go_ret;exact⟨by rw[←Hr.out,HHd.out,e1];rfl,HX.out⟩
 | true=>
  have g1:(a.kind != b.kind)=false:=by unfold bne;rw[e1];rfl
  cases e2:decide (a.s1=b.s1∧a.s2=b.s2∧a.s3=b.s3) with
  | false=>
   go_wp2_with fail
   go_ret;exact⟨by rw[←Hr.out,HHd.out,e1,e2];rfl,HX.out⟩
  | true=>
   cases e3:decide (a.r1=b.r1∧a.r2=b.r2∧a.r3=b.r3) with
   | false=>
    go_wp2_with fail
    go_ret;exact⟨by rw[←Hr.out,HHd.out,e1,e2,e3];rfl,HX.out⟩
   | true=>
    cases e4:(a.up==b.up) with
    | false=>
     have g4:(a.up != b.up)=true:=by unfold bne;rw[e4];rfl
     go_wp2_with fail
     go_ret;exact⟨by rw[←Hr.out,HHd.out,e1,e2,e3,e4];rfl,HX.out⟩
    | true=>
     have g4:(a.up != b.up)=false:=by unfold bne;rw[e4];rfl
     cases e5:(a.seq==b.seq) with
     | false=>
      have g5:(a.seq != b.seq)=true:=by unfold bne;rw[e5];rfl
      go_wp2_with fail
      go_ret;exact⟨by rw[←Hr.out,HHd.out,e1,e2,e3,e4,e5];rfl,HX.out⟩
     | true=>
      have g5:(a.seq != b.seq)=false:=by unfold bne;rw[e5];rfl
      cases e6:(a.last==b.last) with
      | false=>
       have g6:(a.last != b.last)=true:=by unfold bne;rw[e6];rfl
       go_wp2_with fail
       go_ret;exact⟨by rw[←Hr.out,HHd.out,e1,e2,e3,e4,e5,e6];rfl,HX.out⟩
      | true=>
       have g6:(a.last != b.last)=false:=by unfold bne;rw[e6];rfl
       cases e7:(a.code==b.code) with
       | false=>
        have g7:(a.code != b.code)=true:=by unfold bne;rw[e7];rfl
        go_wp2_with fail
        go_ret;exact⟨by rw[←Hr.out,HHd.out,e1,e2,e3,e4,e5,e6,e7];rfl,HX.out⟩
       | true=>
        have g7:(a.code != b.code)=false:=by unfold bne;rw[e7];rfl
        go_wp2_with fail
        simp only[Tryz.sizeOf33,Result.andThen];rw[if_neg (show ¬ (65:Nat)=0 by omega)];dsimp only;rw[Oper.upon_value];go_wp2_with fail
        simp only[Tryz.isAgg33,Tryz.sizeOf33,Result.andThen,↓reduceIte,zo HLa.out 65 hVs.out];rw[Oper.upon_value];go_wp2_with fail
        simp only[Tryz.sizeOf33,Result.andThen];rw[if_neg (show ¬ (65:Nat)=0 by omega)];dsimp only;rw[Oper.upon_value];go_wp2_with fail
        simp only[Tryz.isAgg33,Tryz.sizeOf33,Result.andThen,↓reduceIte,zo HLb.out 65 hWs.out];rw[Oper.upon_value];have HHt:Hid (H=true):=by unfold Hid;rw[HHd.out,e1,e2,e3,e4,e5,e6,e7];rfl
        have Hr2:Hid ((L&&(tv&&ta))=r):=by have:=Hr.out;rw[HHt.out] at this;exact this
        clear HHd Hr HHt e1 e2 e3 e4 e5 e6 e7 HEq1 HEq2;cases tv with
        | false=>
         go_wp2_with fail
         go_ret;exact⟨by rw[←Hr2.out];cases L <;> rfl,HX.out⟩
        | true=>
         go_wp2_with fail
         simp only[Tryz.sizeOf33,Result.andThen];rw[if_neg (show ¬ (65:Nat)=0 by omega)];dsimp only;rw[Oper.upon_value];go_wp2_with fail
         simp only[Tryz.isAgg33,Tryz.sizeOf33,Result.andThen,↓reduceIte,zo HMa.out 65 hAs.out];rw[Oper.upon_value];go_wp2_with fail
         simp only[Tryz.sizeOf33,Result.andThen];rw[if_neg (show ¬ (65:Nat)=0 by omega)];dsimp only;rw[Oper.upon_value];go_wp2_with fail
         simp only[Tryz.isAgg33,Tryz.sizeOf33,Result.andThen,↓reduceIte,zo HMb.out 65 hCs.out];rw[Oper.upon_value];cases ta with
         | false=>
          go_wp2_with fail
          go_ret;exact⟨by rw[←Hr2.out];cases L <;> rfl,HX.out⟩
         | true=>
          have Hr3:Hid ((t1&&(t2&&(t3&&(t4&&t5))))=r):=by have:=Hr2.out;rw[HLd.out,Bool.and_self,Bool.and_true] at this;exact this
          clear Hr2 HLd HLa HLb HMa HMb hVs hAs hWs hCs HEqV g1 g4 g5 g6 g7 c0' d0' c1' d1' c2' d2' c3' d3' c4' d4' c5' d5' c6' d6' c7' d7' c12' d12' c13' d13' c146' d146';have c8':=HBa.out.cell a8;have d8':=HBb.out.cell b8;go_wp2_with fail
          refine((HCl _ HX.out).out).mono ?_;rintro en w2 ⟨rfl,x2⟩;have HX2:=hid (HX.out.trans x2);have HA2:=hid (HBa.out.ext x2);have HB2:=hid (HBb.out.ext x2);clear x2 HX HBa HBb HCl c8' d8' la lb;have la:=HA2.out.lt;have lb:=HB2.out.lt;cases t1 with
          | false=>
           go_wp2_with fail
           go_ret;exact⟨by rw[←Hr3.out];rfl,HX2.out⟩
          | true=>
           have c9':=HA2.out.cell a9;have c10':=HA2.out.cell a10;have d9':=HB2.out.cell b9;have d10':=HB2.out.cell b10;go_wp2_with fail
           refine((HKn _ HX2.out).out).mono ?_;rintro en w3 ⟨rfl,x3⟩;have HX3:=hid (HX2.out.trans x3);have HA3:=hid (HA2.out.ext x3);have HB3:=hid (HB2.out.ext x3);clear x3 HX2 HA2 HB2 HKn c9' c10' d9' d10' la lb;have la:=HA3.out.lt;have lb:=HB3.out.lt;cases t2 with
           | false=>
            go_wp2_with fail
            go_ret;exact⟨by rw[←Hr3.out];rfl,HX3.out⟩
           | true=>
            have c145':=HA3.out.cell a145;have d145':=HB3.out.cell b145;go_wp2_with fail
            refine((HNo _ HX3.out).out).mono ?_;rintro en w4 ⟨rfl,x4⟩;have HX4:=hid (HX3.out.trans x4);have HA4:=hid (HA3.out.ext x4);have HB4:=hid (HB3.out.ext x4);clear x4 HX3 HA3 HB3 HNo c145' d145' la lb;have la:=HA4.out.lt;have lb:=HB4.out.lt;cases t5 with
            | false=>
             go_wp2_with fail
             go_ret;exact⟨by rw[←Hr3.out];cases t3 <;> cases t4 <;> rfl,HX4.out⟩
            | true=>
             have Hr4:Hid ((t3&&t4)=r):=by have:=Hr3.out;rw[Bool.true_and,Bool.true_and,Bool.and_true] at this;exact this
             clear Hr3;have c11':=HA4.out.cell a11;have c14':=HA4.out.cell a14;have d11':=HB4.out.cell b11;have d14':=HB4.out.cell b14;have HA11:=hid a11;have HA14:=hid a14;have HB11:=hid b11;have HB14:=hid b14;clear a0 b0 a1 b1 a2 b2 a3 b3 a4 b4 a5 b5 a6 b6 a7 b7 a12 b12 a13 b13 a8 b8 a9 b9 a10 b10 a11 b11 a14 b14 a145 b145 a146 b146;by_cases hlh:a.held.length=b.held.length
             rotate_left
             ·have dl:((a.held.length:Int) != b.held.length)=true:=by simp;omega
              have hz:Hid (r=false):=by unfold Hid;rw[←Hr4.out,HHeld.out.1 (fun e=>hlh (by rw[e]))];rfl
              clear hlh;go_wp2_with fail
              go_ret;exact⟨by rw[hz.out];rfl,HX4.out⟩
             have dl:((a.held.length:Int) != b.held.length)=false:=by simp;omega
             have HLh:=hid hlh;clear hlh;by_cases hle:a.ents.length=b.ents.length
             rotate_left
             ·have dl2:((a.ents.length:Int) != b.ents.length)=true:=by simp;omega
              have hz:Hid (r=false):=by unfold Hid;rw[←Hr4.out,HEnts.out.1 (fun e=>hle (by rw[e]))];cases t3 <;> rfl
              clear hle;go_wp2_with fail
              go_ret;exact⟨by rw[hz.out];rfl,HX4.out⟩
             have dl2:((a.ents.length:Int) != b.ents.length)=false:=by simp;omega
             have HLe:=hid hle;clear hle;go_wp2_with fail
             clear c11' c14' d11' d14' dl dl2 la lb;go_loopw [5] (fun s5 wr=>∃ k:Nat,k≤a.held.length∧s5=.int .i64 k∧Hid (Ext w4 wr)∧Hid (a.held.take k=b.held.take k)) (fun s5 _=>a.held.length-(intOf s5).toNat)
             case atStart=>exact⟨0,by omega,rfl,Ext.refl _,rfl⟩
             case round=>
              obtain⟨k,hk,rfl,hE,ht⟩:=hrel;have c11:=(HA4.out.ext hE.out).cell HA11.out;have d11:=(HB4.out.ext hE.out).cell HB11.out;have l1:=(HA4.out.ext hE.out).lt;have l2:=(HB4.out.ext hE.out).lt;by_cases hlt:k<a.held.length
              ·have e1:decide ((k:Int)<a.held.length)=true:=decide_eq_true (by omega)
               have e1':decide (k<a.held.length)=true:=decide_eq_true hlt;have hkb:k<b.held.length:=by rw[←HLh.out];exact hlt
               obtain⟨p,o,rfl,lb,hc⟩:=HH3.out (by omega);obtain⟨p',o',rfl,lb',hc'⟩:=HI3.out (by omega);have hXE:=HX4.out.trans hE.out;have y0:=hXE.cell (hc k hlt 0 _ rfl);have y1:=hXE.cell (hc k hlt 1 _ rfl);have y2:=hXE.cell (hc k hlt 2 _ rfl);have y3:=hXE.cell (hc k hlt 3 _ rfl);have z0:=hXE.cell (hc' k hkb 0 _ rfl);have z1:=hXE.cell (hc' k hkb 1 _ rfl);have z2:=hXE.cell (hc' k hkb 2 _ rfl);have z3:=hXE.cell (hc' k hkb 3 _ rfl);rw[Nat.add_zero] at y0 z0;have l3:=Nat.lt_of_lt_of_le lb hXE.size;have l4:=Nat.lt_of_lt_of_le lb' hXE.size
               have HNe:Hid (a.held[k]≠b.held[k]→r=false):=fun h=>by rw[←Hr4.out,HHeld.out.1 (fun e=>h (by simp[e]))];rfl
               have HNx:Hid (a.held[k]=b.held[k]→a.held.take (k+1)=b.held.take (k+1)):=fun h=>by
                rw[List.take_succ_eq_append_getElem hlt,List.take_succ_eq_append_getElem hkb,ht.out,h]
               have HEq:=fun W=>zcI a.held[k] b.held[k] W;have HXE:=hid hXE;clear hc hc' HH3 HI3 hXE lb lb' ht;generalize a.held[k]=x at y0 y1 y2 y3 HEq HNe HNx;generalize b.held[k]=y at z0 z1 z2 z3 HEq HNe HNx;unfold PairI.val at HEq;by_cases hxy:x=y
               ·rw[decide_eq_true hxy] at HEq
                have HNx:=hid (HNx.out hxy);clear HNe hxy;go_wp2_with fail
                refine zc (by kernel_rfl) (by kernel_rfl) (by kernel_rfl) ?_
                repeat (first
                 | (refine AWq.val rfl rfl rfl rfl (fun K hK=>?_);go_big_quiet_op;refine hK _ ?_;clear hK K)
                 | (refine AWq.skip rfl rfl rfl ?_;simp only[Act.put,zq6,zq7,zq8]))
                refine AWq.done rfl rfl rfl (fun w5 x5=>?_);simp only[zl,Act.put,zq6,zq7,zq8];go_wp2_with fail
                go_roundw
                case rel=>exact⟨k+1,by omega,by go_num,hE.out.trans x5,HNx.out⟩
                case measure=>simp[intOf];omega
               ·rw[decide_eq_false hxy] at HEq
                have HNe:=hid (HNe.out hxy);clear HNx hxy;go_wp2_with fail
                refine zc (by kernel_rfl) (by kernel_rfl) (by kernel_rfl) ?_
                repeat (first
                 | (refine AWq.val rfl rfl rfl rfl (fun K hK=>?_);go_big_quiet_op;refine hK _ ?_;clear hK K)
                 | (refine AWq.skip rfl rfl rfl ?_;simp only[Act.put,zq6,zq7,zq8]))
                refine AWq.done rfl rfl rfl (fun w5 x5=>?_);simp only[zl,Act.put,zq6,zq7,zq8];go_wp2_with fail
                go_ret;exact⟨by rw[HNe.out];rfl,HXE.out.trans x5⟩
              ·obtain rfl:k=a.held.length:=by omega
               have e1:decide ((a.held.length:Int)<a.held.length)=false:=decide_eq_false (by omega);have e1':decide (a.held.length<a.held.length)=false:=decide_eq_false (by omega);have Hr5:Hid (t4=r):=by
                have hh:a.held=b.held:=by
                 have:=ht.out;rw[List.take_length,HLh.out,List.take_length] at this;exact this
                have:=Hr4.out;rw[HHeld.out.2 hh,Bool.true_and] at this;exact this
               have HA5:=hid (HA4.out.ext hE.out);have HB5:=hid (HB4.out.ext hE.out);have HX5:=hid (HX4.out.trans hE.out);have c14:=HA5.out.cell HA14.out;have d14:=HB5.out.cell HB14.out;clear HA4 HB4 HX4 hE hlt hk HH3 HI3 HA11 HB11 ht Hr4 HHeld;go_wp2_with fail
               clear c14 d14 c11 d11 l1 l2;generalize wr=w6 at HA5 HB5 HX5⊢;go_loopw [6] (fun s6 WQ=>∃ k:Nat,k≤a.ents.length∧s6=.int .i64 k∧Hid (Ext w6 WQ)∧Hid (a.ents.take k=b.ents.take k)) (fun s6 _=>a.ents.length-(intOf s6).toNat)
               case atStart=>exact⟨0,by omega,rfl,Ext.refl _,rfl⟩
               case round=>
                obtain⟨k,hk,rfl,hE,ht⟩:=hrel;have c14:=(HA5.out.ext hE.out).cell HA14.out;have d14:=(HB5.out.ext hE.out).cell HB14.out;have l1:=(HA5.out.ext hE.out).lt;have l2:=(HB5.out.ext hE.out).lt;by_cases hlt:k<a.ents.length
                ·have e1:decide ((k:Int)<a.ents.length)=true:=decide_eq_true (by omega)
                 have e1':decide (k<a.ents.length)=true:=decide_eq_true hlt;have hkb:k<b.ents.length:=by rw[←HLe.out];exact hlt
                 obtain⟨p,o,rfl,lb,hc⟩:=HE3.out (by omega);obtain⟨p',o',rfl,lb',hc'⟩:=HG3.out (by omega);have HXE:=hid (HX5.out.trans hE.out);have HR1:=hid (fun(q:Nat) u (hu:a.ents[k].arr[q]? = some u)=>HXE.out.cell (hc k hlt q u (by rw[←zbo,Array.getElem?_toList];exact hu)));have HR2:=hid (fun(q:Nat) u (hu:b.ents[k].arr[q]? = some u)=>HXE.out.cell (hc' k hkb q u (by rw[←zbo,Array.getElem?_toList];exact hu)));have HNe:Hid (a.ents[k]≠b.ents[k]→r=false):=fun h=>by rw[←Hr5.out,HEnts.out.1 (fun e=>h (by simp[e]))]
                 have HNx:Hid (a.ents[k]=b.ents[k]→a.ents.take (k+1)=b.ents.take (k+1)):=fun h=>by
                  rw[List.take_succ_eq_append_getElem hlt,List.take_succ_eq_append_getElem hkb,ht.out,h]
                 have HEq:=fun W=>zbN a.ents[k] b.ents[k] W;have hz1:=hid (zal a.ents[k]);have hz2:=hid (zal b.ents[k]);clear hc hc' HE3 HG3 lb lb' ht;generalize a.ents[k]=x at HR1 HEq HNe HNx hz1;generalize b.ents[k]=y at HR2 HEq HNe HNx hz2;by_cases hxy:x=y
                 ·rw[decide_eq_true hxy] at HEq
                  have HNx:=hid (HNx.out hxy);clear HNe hxy;generalize x.arr=X at HR1 HEq hz1;generalize y.arr=Y at HR2 HEq hz2;go_wp2_with fail
                  refine zc (by kernel_rfl) (by kernel_rfl) (by kernel_rfl) ?_
                  repeat (first
                   | (refine AWq.val rfl rfl rfl rfl (fun K hK=>?_);go_big_quiet_op;refine hK _ ?_;clear hK K)
                   | (refine AWq.skip rfl rfl rfl ?_;simp only[Act.put,zq6,zq7,zq8])
                   | (refine AWq.val rfl rfl rfl rfl (fun K hK=>?_);refine zX (k:=k) rfl rfl rfl rfl hlt (hK _ ?_);clear hK K;simp only[Act.put,zq6,zq7,zq8])
                   | (refine AWq.val rfl rfl rfl rfl (fun K hK=>?_);refine zX (k:=k) rfl rfl rfl rfl hkb (hK _ ?_);clear hK K;simp only[Act.put,zq6,zq7,zq8])
                   | (refine AWq.val rfl rfl rfl rfl (fun K hK=>?_);refine zj rfl rfl (fun wc hwc=>by obtain⟨E,rfl⟩:=hwc;exact zai hz1.out (fun j v hv=>(Ext.of_wext _ _).cell (HR1.out j v hv))) (hK _ ?_);clear hK K;simp only[Act.put,zq6,zq7,zq8])
                   | (refine AWq.val rfl rfl rfl rfl (fun K hK=>?_);refine zj rfl rfl (fun wc hwc=>by obtain⟨E,rfl⟩:=hwc;exact zai hz2.out (fun j v hv=>(Ext.of_wext _ _).cell (HR2.out j v hv))) (hK _ ?_);clear hK K;simp only[Act.put,zq6,zq7,zq8]))
                  refine AWq.done rfl rfl rfl (fun w5 x5=>?_);simp only[zl,Act.put,zq6,zq7,zq8];go_wp2_with fail
                  go_roundw
                  case rel=>exact⟨k+1,by omega,by go_num,hE.out.trans x5,HNx.out⟩
                  case measure=>simp[intOf];omega
                 ·rw[decide_eq_false hxy] at HEq
                  have HNe:=hid (HNe.out hxy);clear HNx hxy;generalize x.arr=X at HR1 HEq hz1;generalize y.arr=Y at HR2 HEq hz2;go_wp2_with fail
                  refine zc (by kernel_rfl) (by kernel_rfl) (by kernel_rfl) ?_
                  repeat (first
                   | (refine AWq.val rfl rfl rfl rfl (fun K hK=>?_);go_big_quiet_op;refine hK _ ?_;clear hK K)
                   | (refine AWq.skip rfl rfl rfl ?_;simp only[Act.put,zq6,zq7,zq8])
                   | (refine AWq.val rfl rfl rfl rfl (fun K hK=>?_);refine zX (k:=k) rfl rfl rfl rfl hlt (hK _ ?_);clear hK K;simp only[Act.put,zq6,zq7,zq8])
                   | (refine AWq.val rfl rfl rfl rfl (fun K hK=>?_);refine zX (k:=k) rfl rfl rfl rfl hkb (hK _ ?_);clear hK K;simp only[Act.put,zq6,zq7,zq8])
                   | (refine AWq.val rfl rfl rfl rfl (fun K hK=>?_);refine zj rfl rfl (fun wc hwc=>by obtain⟨E,rfl⟩:=hwc;exact zai hz1.out (fun j v hv=>(Ext.of_wext _ _).cell (HR1.out j v hv))) (hK _ ?_);clear hK K;simp only[Act.put,zq6,zq7,zq8])
                   | (refine AWq.val rfl rfl rfl rfl (fun K hK=>?_);refine zj rfl rfl (fun wc hwc=>by obtain⟨E,rfl⟩:=hwc;exact zai hz2.out (fun j v hv=>(Ext.of_wext _ _).cell (HR2.out j v hv))) (hK _ ?_);clear hK K;simp only[Act.put,zq6,zq7,zq8]))
                  refine AWq.done rfl rfl rfl (fun w5 x5=>?_);simp only[zl,Act.put,zq6,zq7,zq8];go_wp2_with fail
                  go_ret;exact⟨by rw[HNe.out];rfl,HXE.out.trans x5⟩
                ·obtain rfl:k=a.ents.length:=by omega
                 have e1:decide ((a.ents.length:Int)<a.ents.length)=false:=decide_eq_false (by omega);have e1':decide (a.ents.length<a.ents.length)=false:=decide_eq_false (by omega);have hz:Hid (r=true):=by
                  have hh:a.ents=b.ents:=by
                   have:=ht.out;rw[List.take_length,HLe.out,List.take_length] at this;exact this
                  unfold Hid;rw[←Hr5.out,HEnts.out.2 hh]
                 have HX6:=hid (HX5.out.trans hE.out);clear HE3 HG3 HX5 hE HA5 HB5 ht Hr5 HEnts;go_wp2_with fail
                 go_ret;exact⟨by rw[hz.out];rfl,HX6.out⟩
end Go.Proofs.YtofjpdgojoppbaaGreatDoor
