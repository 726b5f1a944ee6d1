/-
  Of the claim's proof: MgJ.
-/
import Derived.Test.YtofjpdgojoppbaaGreatDoorG24
set_option maxRecDepth 100000
set_option maxHeartbeats 16000000
set_option linter.unusedVariables false
set_option linter.unusedSimpArgs false
namespace Go.Proofs.YtofjpdgojoppbaaGreatDoor
open Go.RowKit
def okAt (l:List PairI) (k:Nat):Bool:=match l[k]? with
 | none=>true
 | some x=>zaT x&&(match k with
  | 0=>true
  | j+1=>match l[j]? with
   | none=>true
   | some y=>y.a.lt x.a)
def zcD (l:List PairI):Bool:=(List.range l.length).all (okAt l)
def zcC (l:List PairI):List FldI:=if zcD l then zdo l else []
theorem zcZ (l:List PairI) (k:Nat):(List.range (k+1)).all (okAt l)=((List.range k).all (okAt l)&&okAt l k):=by
 rw[List.range_succ,List.all_append];simp
theorem zd8 {l:List PairI} {k:Nat} (h:k<l.length) (hp:okAt l k=false):zcD l=false:=by
 unfold zcD;rw[List.all_eq_false];exact⟨k,List.mem_range.2 h,by simp[hp]⟩
theorem zgm {l:List PairI} (h:0<l.length):okAt l 0=zaT l[0]:=by
 unfold okAt;rw[List.getElem?_eq_getElem h];simp
theorem zgn {l:List PairI} {j:Nat} (h:j+1<l.length):okAt l (j+1)=(zaT l[j+1]&&(l[j]'(by omega)).a.lt l[j+1].a):=by
 unfold okAt;rw[List.getElem?_eq_getElem h];dsimp only;rw[List.getElem?_eq_getElem (show j<l.length by omega)]
theorem held_c (w:World) (v:Value) (l:List PairI) (h:Sl w 4 v (l.map PairI.cells)) (hl:l.length≤1000):Calls Tryz.prog 171 #[v] w (RetQ (RowAt FldI.cells 3 (zcC l)) w):=by
 have HList:=fun W (hW:Ext w W)=>hid (listP_c W v l (h.ext hW) hl);obtain⟨A,c,rfl,h1,h2,h3⟩:=zz h;unfold maxLen at h2;have H3:=hid h3;have HYes:Hid (zcD l=true→zcC l=zdo l):=fun h=>if_pos h;have HNo:Hid (zcD l=false→zcC l=[]):=fun h=>if_neg (by rw[h];decide);clear h h3;go_enter Tryz.func171,Tryz.ntmps171;go_wp2_with fail
 go_loopw [6] (fun iv wr=>∃ k:Nat,k≤l.length∧iv=.int .i64 k∧Hid (Ext w wr)∧Hid ((List.range k).all (okAt l)=true)) (fun iv _=>l.length-(intOf iv).toNat)
 case atStart=>exact⟨0,by omega,rfl,Ext.refl _,rfl⟩
 case round=>
  obtain⟨k,hk,rfl,hE,hG⟩:=hrel;by_cases hlt:k<l.length
  ·obtain⟨b,o,rfl,lb,hcell⟩:=H3.out (by omega)
   have lbr:=Nat.lt_of_lt_of_le lb hE.out.size;rcases k with _ | j
   ·have c0:=hE.out.cell (hcell 0 hlt 0 _ rfl)
    have c1:=hE.out.cell (hcell 0 hlt 1 _ rfl);have c2:=hE.out.cell (hcell 0 hlt 2 _ rfl);have c3:=hE.out.cell (hcell 0 hlt 3 _ rfl);simp only[Nat.zero_mul,Nat.add_zero] at c0 c1 c2 c3;have HG0:Hid (okAt l 0=true→(List.range (0+1)).all (okAt l)=true):=fun h=>by rw[zcZ,h];rfl
    have HX0:Hid (okAt l 0=false→zcC l=[]):=fun h=>HNo.out (zd8 hlt h);have HO:=hid (zgm hlt);clear hcell H3 HYes HNo lb hG HList;generalize l[0]=x at c0 c1 c2 c3 HO;have HP:=fun W=>hid (ze7 W x);have HB:=fun W=>hid (zfk x.a x.a W);cases hp:zaT x with
    | true=>
     rw[hp] at HP HO;have HG:=hid (HG0.out HO.out);clear HG0 HX0 HO hp;unfold PairI.val at HP;go_wp2_with fail
     refine zd (by kernel_rfl) (by kernel_rfl) (by kernel_rfl) ?_
     repeat (first
      | (refine AWq.val rfl rfl rfl rfl (fun K hK=>?_);go_big_quiet_op;refine hK _ ?_;clear hK K)
      | (refine AWq.skip rfl rfl rfl ?_;simp only[Act.put,zq6,zq7,zq8])
      | (refine AWq.call rfl Tryz.func94 (by kernel_rfl) (by kernel_rfl) rfl rfl rfl ?_;apply Exists.intro;refine And.intro (fun wc hc=>?_) ?_;(· (simp only[zm,zt,↓reduceIte,Nat.reduceEqDiff,zq1,zq2,zq3,zq4,zq5];with_reducible exact(HP _).out));simp only[Act.put,zq6,zq7,zq8])
      | (refine AWq.call rfl Tryz.func177 (by kernel_rfl) (by kernel_rfl) rfl rfl rfl ?_;apply Exists.intro;refine And.intro (fun wc hc=>?_) ?_;(· (simp only[zm,zt,↓reduceIte,Nat.reduceEqDiff,zq1,zq2,zq3,zq4,zq5];with_reducible exact(HB _).out));simp only[Act.put,zq6,zq7,zq8]))
     refine AWq.done rfl rfl rfl (fun w5 x5=>?_);simp only[zo,Act.put,zq6,zq7,zq8];go_wp2_with fail
     go_roundw
     case rel=>exact⟨0+1,by omega,by go_num,hE.out.trans x5,HG.out⟩
     case measure=>simp[intOf];omega
    | false=>
     rw[hp] at HP HO;have HX:=hid (HX0.out HO.out);clear HG0 HX0 HO hp;unfold PairI.val at HP;go_wp2_with fail
     refine zd (by kernel_rfl) (by kernel_rfl) (by kernel_rfl) ?_
     repeat (first
      | (refine AWq.val rfl rfl rfl rfl (fun K hK=>?_);go_big_quiet_op;refine hK _ ?_;clear hK K)
      | (refine AWq.skip rfl rfl rfl ?_;simp only[Act.put,zq6,zq7,zq8])
      | (refine AWq.call rfl Tryz.func94 (by kernel_rfl) (by kernel_rfl) rfl rfl rfl ?_;apply Exists.intro;refine And.intro (fun wc hc=>?_) ?_;(· (simp only[zm,zt,↓reduceIte,Nat.reduceEqDiff,zq1,zq2,zq3,zq4,zq5];with_reducible exact(HP _).out));simp only[Act.put,zq6,zq7,zq8])
      | (refine AWq.call rfl Tryz.func177 (by kernel_rfl) (by kernel_rfl) rfl rfl rfl ?_;apply Exists.intro;refine And.intro (fun wc hc=>?_) ?_;(· (simp only[zm,zt,↓reduceIte,Nat.reduceEqDiff,zq1,zq2,zq3,zq4,zq5];with_reducible exact(HB _).out));simp only[Act.put,zq6,zq7,zq8]))
     refine AWq.done rfl rfl rfl (fun w5 x5=>?_);simp only[zo,Act.put,zq6,zq7,zq8];go_wp2_with fail
     go_ret;exact⟨_,rfl,by rw[HX.out];exact RowAt.nil _,hE.out.trans x5⟩
   ·have c0:=hE.out.cell (hcell (j+1) hlt 0 _ rfl)
    have c1:=hE.out.cell (hcell (j+1) hlt 1 _ rfl);have c2:=hE.out.cell (hcell (j+1) hlt 2 _ rfl);have c3:=hE.out.cell (hcell (j+1) hlt 3 _ rfl);have e0:=hE.out.cell (hcell j (by omega) 0 _ rfl);have e1:=hE.out.cell (hcell j (by omega) 1 _ rfl);rw[Nat.add_zero] at c0 e0;have HG0:Hid (okAt l (j+1)=true→(List.range (j+1+1)).all (okAt l)=true):=fun h=>by rw[zcZ,h,hG.out];rfl
    have HX0:Hid (okAt l (j+1)=false→zcC l=[]):=fun h=>HNo.out (zd8 hlt h);have HO:=hid (zgn hlt);clear hcell H3 HYes HNo lb hG HList;generalize l[j+1]=x at c0 c1 c2 c3 HO;generalize l[j]'(by omega)=y at e0 e1 HO;have HP:=fun W=>hid (ze7 W x);have HB:=fun W=>hid (zfk y.a x.a W);unfold Ver.val at HB;have d0:decide ((0:Int)<(j:Int)+1)=true:=decide_eq_true (by omega);cases hp:zaT x with
    | true=>
     rw[hp] at HP HO;cases ht:y.a.lt x.a with
     | true=>
      rw[ht] at HB HO;have HG:=hid (HG0.out HO.out);clear HG0 HX0 HO hp ht;unfold PairI.val at HP;go_wp2_with fail
      refine zd (by kernel_rfl) (by kernel_rfl) (by kernel_rfl) ?_
      repeat (first
       | (refine AWq.val rfl rfl rfl rfl (fun K hK=>?_);go_big_quiet_op;refine hK _ ?_;clear hK K)
       | (refine AWq.skip rfl rfl rfl ?_;simp only[Act.put,zq6,zq7,zq8])
       | (refine AWq.call rfl Tryz.func94 (by kernel_rfl) (by kernel_rfl) rfl rfl rfl ?_;apply Exists.intro;refine And.intro (fun wc hc=>?_) ?_;(· (simp only[zm,zt,↓reduceIte,Nat.reduceEqDiff,zq1,zq2,zq3,zq4,zq5];with_reducible exact(HP _).out));simp only[Act.put,zq6,zq7,zq8])
       | (refine AWq.call rfl Tryz.func177 (by kernel_rfl) (by kernel_rfl) rfl rfl rfl ?_;apply Exists.intro;refine And.intro (fun wc hc=>?_) ?_;(· (simp only[zm,zt,↓reduceIte,Nat.reduceEqDiff,zq1,zq2,zq3,zq4,zq5];with_reducible exact(HB _).out));simp only[Act.put,zq6,zq7,zq8]))
      refine AWq.done rfl rfl rfl (fun w5 x5=>?_);simp only[zo,Act.put,zq6,zq7,zq8];go_wp2_with fail
      go_roundw
      case rel=>exact⟨j+1+1,by omega,by go_num,hE.out.trans x5,HG.out⟩
      case measure=>simp[intOf];omega
     | false=>
      rw[ht] at HB HO;have HX:=hid (HX0.out HO.out);clear HG0 HX0 HO hp ht;unfold PairI.val at HP;go_wp2_with fail
      refine zd (by kernel_rfl) (by kernel_rfl) (by kernel_rfl) ?_
      repeat (first
       | (refine AWq.val rfl rfl rfl rfl (fun K hK=>?_);go_big_quiet_op;refine hK _ ?_;clear hK K)
       | (refine AWq.skip rfl rfl rfl ?_;simp only[Act.put,zq6,zq7,zq8])
       | (refine AWq.call rfl Tryz.func94 (by kernel_rfl) (by kernel_rfl) rfl rfl rfl ?_;apply Exists.intro;refine And.intro (fun wc hc=>?_) ?_;(· (simp only[zm,zt,↓reduceIte,Nat.reduceEqDiff,zq1,zq2,zq3,zq4,zq5];with_reducible exact(HP _).out));simp only[Act.put,zq6,zq7,zq8])
       | (refine AWq.call rfl Tryz.func177 (by kernel_rfl) (by kernel_rfl) rfl rfl rfl ?_;apply Exists.intro;refine And.intro (fun wc hc=>?_) ?_;(· (simp only[zm,zt,↓reduceIte,Nat.reduceEqDiff,zq1,zq2,zq3,zq4,zq5];with_reducible exact(HB _).out));simp only[Act.put,zq6,zq7,zq8]))
      refine AWq.done rfl rfl rfl (fun w5 x5=>?_);simp only[zo,Act.put,zq6,zq7,zq8];go_wp2_with fail
      go_ret;exact⟨_,rfl,by rw[HX.out];exact RowAt.nil _,hE.out.trans x5⟩
    | false=>
     rw[hp] at HP HO;have HX:=hid (HX0.out (by rw[HO.out];rfl));clear HG0 HX0 HO hp;unfold PairI.val at HP;go_wp2_with fail
     refine zd (by kernel_rfl) (by kernel_rfl) (by kernel_rfl) ?_
     repeat (first
      | (refine AWq.val rfl rfl rfl rfl (fun K hK=>?_);go_big_quiet_op;refine hK _ ?_;clear hK K)
      | (refine AWq.skip rfl rfl rfl ?_;simp only[Act.put,zq6,zq7,zq8])
      | (refine AWq.call rfl Tryz.func94 (by kernel_rfl) (by kernel_rfl) rfl rfl rfl ?_;apply Exists.intro;refine And.intro (fun wc hc=>?_) ?_;(· (simp only[zm,zt,↓reduceIte,Nat.reduceEqDiff,zq1,zq2,zq3,zq4,zq5];with_reducible exact(HP _).out));simp only[Act.put,zq6,zq7,zq8])
      | (refine AWq.call rfl Tryz.func177 (by kernel_rfl) (by kernel_rfl) rfl rfl rfl ?_;apply Exists.intro;refine And.intro (fun wc hc=>?_) ?_;(· (simp only[zm,zt,↓reduceIte,Nat.reduceEqDiff,zq1,zq2,zq3,zq4,zq5];with_reducible exact(HB _).out));simp only[Act.put,zq6,zq7,zq8]))
     refine AWq.done rfl rfl rfl (fun w5 x5=>?_);simp only[zo,Act.put,zq6,zq7,zq8];go_wp2_with fail
     go_ret;exact⟨_,rfl,by rw[HX.out];exact RowAt.nil _,hE.out.trans x5⟩
  ·obtain rfl:k=l.length:=by omega
   have HV:=hid (HYes.out hG.out);have HL:=HList wr hE.out;clear H3 HYes HNo hG HList;go_wp2_with fail
   refine(HL.out).mono ?_;rintro en w2 ⟨u,rfl,hu,x2⟩;have HU:=hid hu;have X2:=hid (hE.out.trans x2);clear hu x2 HL;go_wp2_with fail
   go_ret;exact⟨_,rfl,by rw[HV.out];exact HU.out,X2.out⟩
end Go.Proofs.YtofjpdgojoppbaaGreatDoor
