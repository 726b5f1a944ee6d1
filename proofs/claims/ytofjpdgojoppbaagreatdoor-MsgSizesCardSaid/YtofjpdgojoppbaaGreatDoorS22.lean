/-
  Of the claim's proof: MgD.
-/
import Derived.Test.YtofjpdgojoppbaaGreatDoorS20
import Derived.Test.YtofjpdgojoppbaaGreatDoorS21
set_option maxRecDepth 100000
set_option maxHeartbeats 16000000
set_option linter.unusedVariables false
set_option linter.unusedSimpArgs false
namespace Go.Proofs.YtofjpdgojoppbaaGreatDoor
open Go.RowKit
theorem cl_eq {a b:ClauseI}:a=b↔a.pre=b.pre∧a.lo=b.lo∧a.hi=b.hi:=by cases a;cases b;simp
theorem zj0 (x y:ClauseI) (w:World):(Op.equalIn 10000 99 (.agg #[.string x.pre,.int .i64 x.lo,.int .i64 x.hi]) (.agg #[.string y.pre,.int .i64 y.lo,.int .i64 y.hi])).run Tryz.prog w=.ok (decide (x=y)) w:=by
 rw[zdl]
 congr 1
 unfold eqC;rw[decide_eq_decide,cl_eq]
theorem zic (w:World) (u v:Value) (a b:List ClauseI) (hu:Sl w 3 u (a.map ClauseI.cells)) (hv:Sl w 3 v (b.map ClauseI.cells)):Calls Tryz.prog 53 #[u,v] w (Ret (.bool (decide (a=b))) w):=by
 obtain⟨A,c,rfl,h1,h2,h3⟩:=zr hu;obtain⟨B,d,rfl,k1,k2,k3⟩:=zr hv;have HR:Hid ((a≠b→decide (a=b)=false)∧(a=b→decide (a=b)=true)):=⟨fun h=>decide_eq_false h,fun h=>decide_eq_true h⟩
 generalize decide (a=b)=r at HR⊢;clear hu hv;unfold maxLen at h2 k2;by_cases hlen:a.length=b.length
 ·have dl:((a.length:Int) != b.length)=false:=by simp[hlen]
  go_enter Tryz.func53,Tryz.ntmps53;go_wp2_with fail
  go_loopw [13] (fun i wr=>∃ k:Nat,k≤a.length∧i=.int .i64 k∧Ext w wr∧Hid (a.take k=b.take k)) (fun i _=>a.length-(intOf i).toNat)
  case atStart=>exact⟨0,by omega,rfl,Ext.refl _,rfl⟩
  case round=>
   obtain⟨k,hk,rfl,hE,ht⟩:=hrel;have HE:=hid hE;by_cases hka:k<a.length
   ·have hkb:k<b.length:=by omega
    obtain⟨b1,o1,rfl,lb1,hcell1⟩:=h3 (by omega);obtain⟨b2,o2,rfl,lb2,hcell2⟩:=k3 (by omega);have HNe:Hid (a[k]≠b[k]→r=false):=fun h=>HR.out.1 (fun e=>h (by subst e;rfl));have HNx:Hid (a[k]=b[k]→a.take (k+1)=b.take (k+1)):=fun h=>by
     rw[List.take_succ_eq_append_getElem hka,List.take_succ_eq_append_getElem hkb,ht.out,h]
    have lr1:=Nat.lt_of_lt_of_le lb1 hE.size;have lr2:=Nat.lt_of_lt_of_le lb2 hE.size;have c0:=hE.cell (hcell1 k hka 0 _ rfl);have d0:=hE.cell (hcell2 k hkb 0 _ rfl);have c1:=hE.cell (hcell1 k hka 1 _ rfl);have d1:=hE.cell (hcell2 k hkb 1 _ rfl);have c2:=hE.cell (hcell1 k hka 2 _ rfl);have d2:=hE.cell (hcell2 k hkb 2 _ rfl);rw[Nat.add_zero] at c0 d0;have HEq:=fun W=>zj0 a[k] b[k] W;clear hcell1 hcell2 h3 k3 hE ht HR;generalize a[k]=x at c0 c1 c2 HNe HNx HEq;generalize b[k]=y at d0 d1 d2 HNe HNx HEq;by_cases hxy:x=y
    ·rw[decide_eq_true hxy] at HEq
     have HNx:=hid (HNx.out hxy);clear HNe hxy;go_wp2_with fail
     refine zc (by kernel_rfl) (by kernel_rfl) (by kernel_rfl) ?_
     repeat (first
      | (refine AWq.val rfl rfl rfl rfl (fun K hK=>?_);go_big_quiet_op;refine hK _ ?_;clear hK K)
      | (refine AWq.skip rfl rfl rfl ?_;simp only[Act.put,zq6,zq7,zq8]))
     refine AWq.done rfl rfl rfl (fun w5 x5=>?_);simp only[zl,Act.put,zq6,zq7,zq8];go_wp2_with fail
     go_roundw
     case rel=>exact⟨k+1,by omega,by go_num,HE.out.trans x5,HNx.out⟩
     case measure=>simp[intOf];omega
    ·rw[decide_eq_false hxy] at HEq
     have HNe:=hid (HNe.out hxy);clear HNx hxy;go_wp2_with fail
     refine zc (by kernel_rfl) (by kernel_rfl) (by kernel_rfl) ?_
     repeat (first
      | (refine AWq.val rfl rfl rfl rfl (fun K hK=>?_);go_big_quiet_op;refine hK _ ?_;clear hK K)
      | (refine AWq.skip rfl rfl rfl ?_;simp only[Act.put,zq6,zq7,zq8]))
     refine AWq.done rfl rfl rfl (fun w5 x5=>?_);simp only[zl,Act.put,zq6,zq7,zq8];go_wp2_with fail
     go_ret;exact⟨by rw[HNe.out];rfl,HE.out.trans x5⟩
   ·obtain rfl:k=a.length:=by omega
    have hr:Hid (r=true):=HR.out.2 (by
     have:=ht.out;rw[List.take_length,hlen,List.take_length] at this;exact this)
    have HEx:=hid hE;clear h3 k3 hE ht HR;go_wp2_with fail
    go_ret;exact⟨by rw[hr.out];rfl,HEx.out⟩
 ·have dl:((a.length:Int) != b.length)=true:=by simp;omega
  have hr:Hid (r=false):=HR.out.1 (fun e=>hlen (by rw[e]));clear h3 k3 HR hlen;go_enter Tryz.func53,Tryz.ntmps53;go_wp2_with fail
  go_ret;exact⟨by rw[hr.out];rfl,Ext.refl _⟩
theorem zlA (w:World) (u v:Value) (a b:List PairI) (hu:Sl w 4 u (a.map PairI.cells)) (hv:Sl w 4 v (b.map PairI.cells)):Calls Tryz.prog 55 #[u,v] w (Ret (.bool (decide (a=b))) w):=by
 obtain⟨A,c,rfl,h1,h2,h3⟩:=zr hu;obtain⟨B,d,rfl,k1,k2,k3⟩:=zr hv;have HR:Hid ((a≠b→decide (a=b)=false)∧(a=b→decide (a=b)=true)):=⟨fun h=>decide_eq_false h,fun h=>decide_eq_true h⟩
 generalize decide (a=b)=r at HR⊢;clear hu hv;unfold maxLen at h2 k2;by_cases hlen:a.length=b.length
 ·have dl:((a.length:Int) != b.length)=false:=by simp[hlen]
  go_enter Tryz.func55,Tryz.ntmps55;go_wp2_with fail
  go_loopw [13] (fun i wr=>∃ k:Nat,k≤a.length∧i=.int .i64 k∧Ext w wr∧Hid (a.take k=b.take k)) (fun i _=>a.length-(intOf i).toNat)
  case atStart=>exact⟨0,by omega,rfl,Ext.refl _,rfl⟩
  case round=>
   obtain⟨k,hk,rfl,hE,ht⟩:=hrel;have HE:=hid hE;by_cases hka:k<a.length
   ·have hkb:k<b.length:=by omega
    obtain⟨b1,o1,rfl,lb1,hcell1⟩:=h3 (by omega);obtain⟨b2,o2,rfl,lb2,hcell2⟩:=k3 (by omega);have HNe:Hid (a[k]≠b[k]→r=false):=fun h=>HR.out.1 (fun e=>h (by subst e;rfl));have HNx:Hid (a[k]=b[k]→a.take (k+1)=b.take (k+1)):=fun h=>by
     rw[List.take_succ_eq_append_getElem hka,List.take_succ_eq_append_getElem hkb,ht.out,h]
    have lr1:=Nat.lt_of_lt_of_le lb1 hE.size;have lr2:=Nat.lt_of_lt_of_le lb2 hE.size;have c0:=hE.cell (hcell1 k hka 0 _ rfl);have d0:=hE.cell (hcell2 k hkb 0 _ rfl);have c1:=hE.cell (hcell1 k hka 1 _ rfl);have d1:=hE.cell (hcell2 k hkb 1 _ rfl);have c2:=hE.cell (hcell1 k hka 2 _ rfl);have d2:=hE.cell (hcell2 k hkb 2 _ rfl);have c3:=hE.cell (hcell1 k hka 3 _ rfl);have d3:=hE.cell (hcell2 k hkb 3 _ rfl);rw[Nat.add_zero] at c0 d0;have HEq:=fun W=>zcI a[k] b[k] W;clear hcell1 hcell2 h3 k3 hE ht HR;generalize a[k]=x at c0 c1 c2 c3 HNe HNx HEq;generalize b[k]=y at d0 d1 d2 d3 HNe HNx HEq;unfold PairI.val at HEq;by_cases hxy:x=y
    ·rw[decide_eq_true hxy] at HEq
     have HNx:=hid (HNx.out hxy);clear HNe hxy;go_wp2_with fail
     refine zc (by kernel_rfl) (by kernel_rfl) (by kernel_rfl) ?_
     repeat (first
      | (refine AWq.val rfl rfl rfl rfl (fun K hK=>?_);go_big_quiet_op;refine hK _ ?_;clear hK K)
      | (refine AWq.skip rfl rfl rfl ?_;simp only[Act.put,zq6,zq7,zq8]))
     refine AWq.done rfl rfl rfl (fun w5 x5=>?_);simp only[zl,Act.put,zq6,zq7,zq8];go_wp2_with fail
     go_roundw
     case rel=>exact⟨k+1,by omega,by go_num,HE.out.trans x5,HNx.out⟩
     case measure=>simp[intOf];omega
    ·rw[decide_eq_false hxy] at HEq
     have HNe:=hid (HNe.out hxy);clear HNx hxy;go_wp2_with fail
     refine zc (by kernel_rfl) (by kernel_rfl) (by kernel_rfl) ?_
     repeat (first
      | (refine AWq.val rfl rfl rfl rfl (fun K hK=>?_);go_big_quiet_op;refine hK _ ?_;clear hK K)
      | (refine AWq.skip rfl rfl rfl ?_;simp only[Act.put,zq6,zq7,zq8]))
     refine AWq.done rfl rfl rfl (fun w5 x5=>?_);simp only[zl,Act.put,zq6,zq7,zq8];go_wp2_with fail
     go_ret;exact⟨by rw[HNe.out];rfl,HE.out.trans x5⟩
   ·obtain rfl:k=a.length:=by omega
    have hr:Hid (r=true):=HR.out.2 (by
     have:=ht.out;rw[List.take_length,hlen,List.take_length] at this;exact this)
    have HEx:=hid hE;clear h3 k3 hE ht HR;go_wp2_with fail
    go_ret;exact⟨by rw[hr.out];rfl,HEx.out⟩
 ·have dl:((a.length:Int) != b.length)=true:=by simp;omega
  have hr:Hid (r=false):=HR.out.1 (fun e=>hlen (by rw[e]));clear h3 k3 HR hlen;go_enter Tryz.func55,Tryz.ntmps55;go_wp2_with fail
  go_ret;exact⟨by rw[hr.out];rfl,Ext.refl _⟩
attribute [-simp] Tryz.isAgg61 Tryz.sizeOf61
theorem zmj (w:World) (u v:Value) (a b:List EntI) (hu:Sl w 21 u (a.map EntI.cells)) (hv:Sl w 21 v (b.map EntI.cells)):Calls Tryz.prog 56 #[u,v] w (Ret (.bool (decide (a=b))) w):=by
 obtain⟨A,c,rfl,h1,h2,h3⟩:=zr hu;obtain⟨B,d,rfl,k1,k2,k3⟩:=zr hv;have HR:Hid ((a≠b→decide (a=b)=false)∧(a=b→decide (a=b)=true)):=⟨fun h=>decide_eq_false h,fun h=>decide_eq_true h⟩
 generalize decide (a=b)=r at HR⊢;clear hu hv;unfold maxLen at h2 k2;by_cases hlen:a.length=b.length
 ·have dl:((a.length:Int) != b.length)=false:=by simp[hlen]
  go_enter Tryz.func56,Tryz.ntmps56;go_wp2_with fail
  go_loopw [13] (fun i wr=>∃ k:Nat,k≤a.length∧i=.int .i64 k∧Ext w wr∧Hid (a.take k=b.take k)) (fun i _=>a.length-(intOf i).toNat)
  case atStart=>exact⟨0,by omega,rfl,Ext.refl _,rfl⟩
  case round=>
   obtain⟨k,hk,rfl,hE,ht⟩:=hrel;have HE:=hid hE;by_cases hka:k<a.length
   ·have hkb:k<b.length:=by omega
    obtain⟨b1,o1,rfl,lb1,hcell1⟩:=h3 (by omega);obtain⟨b2,o2,rfl,lb2,hcell2⟩:=k3 (by omega);have HNe:Hid (a[k]≠b[k]→r=false):=fun h=>HR.out.1 (fun e=>h (by subst e;rfl));have HNx:Hid (a[k]=b[k]→a.take (k+1)=b.take (k+1)):=fun h=>by
     rw[List.take_succ_eq_append_getElem hka,List.take_succ_eq_append_getElem hkb,ht.out,h]
    have lr1:=Nat.lt_of_lt_of_le lb1 hE.size;have lr2:=Nat.lt_of_lt_of_le lb2 hE.size;have HR1:=hid (fun(q:Nat) u (hu:a[k].arr[q]? = some u)=>hE.cell (hcell1 k hka q u (by rw[←zbo,Array.getElem?_toList];exact hu)));have HR2:=hid (fun(q:Nat) u (hu:b[k].arr[q]? = some u)=>hE.cell (hcell2 k hkb q u (by rw[←zbo,Array.getElem?_toList];exact hu)));have HEq:=fun W=>zbN a[k] b[k] W;have hz1:=hid (zal a[k]);have hz2:=hid (zal b[k]);clear hcell1 hcell2 h3 k3 hE ht HR;generalize a[k]=x at HR1 HNe HNx HEq hz1;generalize b[k]=y at HR2 HNe HNx HEq hz2;by_cases hxy:x=y
    ·rw[decide_eq_true hxy] at HEq
     have HNx:=hid (HNx.out hxy);clear HNe hxy;generalize x.arr=ax at HR1 HEq hz1;generalize y.arr=ay at HR2 HEq hz2;go_wp2_with fail
     refine zc (by kernel_rfl) (by kernel_rfl) (by kernel_rfl) ?_
     repeat (first
      | (refine AWq.val rfl rfl rfl rfl (fun K hK=>?_);go_big_quiet_op;refine hK _ ?_;clear hK K)
      | (refine AWq.skip rfl rfl rfl ?_;simp only[Act.put,zq6,zq7,zq8])
      | (refine AWq.val rfl rfl rfl rfl (fun K hK=>?_);refine zX (k:=k) rfl rfl rfl rfl hka (hK _ ?_);clear hK K;simp only[Act.put,zq6,zq7,zq8])
      | (refine AWq.val rfl rfl rfl rfl (fun K hK=>?_);refine zX (k:=k) rfl rfl rfl rfl (show k<b.length by omega) (hK _ ?_);clear hK K;simp only[Act.put,zq6,zq7,zq8])
      | (refine AWq.val rfl rfl rfl rfl (fun K hK=>?_);refine zj rfl rfl (fun wc hwc=>by obtain⟨E,rfl⟩:=hwc;exact zai hz1.out (fun j v hv=>(Ext.of_wext _ _).cell (HR1.out j v hv))) (hK _ ?_);clear hK K;simp only[Act.put,zq6,zq7,zq8])
      | (refine AWq.val rfl rfl rfl rfl (fun K hK=>?_);refine zj rfl rfl (fun wc hwc=>by obtain⟨E,rfl⟩:=hwc;exact zai hz2.out (fun j v hv=>(Ext.of_wext _ _).cell (HR2.out j v hv))) (hK _ ?_);clear hK K;simp only[Act.put,zq6,zq7,zq8]))
     refine AWq.done rfl rfl rfl (fun w5 x5=>?_);simp only[zl,Act.put,zq6,zq7,zq8];go_wp2_with fail
     go_roundw
     case rel=>exact⟨k+1,by omega,by go_num,HE.out.trans x5,HNx.out⟩
     case measure=>simp[intOf];omega
    ·rw[decide_eq_false hxy] at HEq
     have HNe:=hid (HNe.out hxy);clear HNx hxy;generalize x.arr=ax at HR1 HEq hz1;generalize y.arr=ay at HR2 HEq hz2;go_wp2_with fail
     refine zc (by kernel_rfl) (by kernel_rfl) (by kernel_rfl) ?_
     repeat (first
      | (refine AWq.val rfl rfl rfl rfl (fun K hK=>?_);go_big_quiet_op;refine hK _ ?_;clear hK K)
      | (refine AWq.skip rfl rfl rfl ?_;simp only[Act.put,zq6,zq7,zq8])
      | (refine AWq.val rfl rfl rfl rfl (fun K hK=>?_);refine zX (k:=k) rfl rfl rfl rfl hka (hK _ ?_);clear hK K;simp only[Act.put,zq6,zq7,zq8])
      | (refine AWq.val rfl rfl rfl rfl (fun K hK=>?_);refine zX (k:=k) rfl rfl rfl rfl (show k<b.length by omega) (hK _ ?_);clear hK K;simp only[Act.put,zq6,zq7,zq8])
      | (refine AWq.val rfl rfl rfl rfl (fun K hK=>?_);refine zj rfl rfl (fun wc hwc=>by obtain⟨E,rfl⟩:=hwc;exact zai hz1.out (fun j v hv=>(Ext.of_wext _ _).cell (HR1.out j v hv))) (hK _ ?_);clear hK K;simp only[Act.put,zq6,zq7,zq8])
      | (refine AWq.val rfl rfl rfl rfl (fun K hK=>?_);refine zj rfl rfl (fun wc hwc=>by obtain⟨E,rfl⟩:=hwc;exact zai hz2.out (fun j v hv=>(Ext.of_wext _ _).cell (HR2.out j v hv))) (hK _ ?_);clear hK K;simp only[Act.put,zq6,zq7,zq8]))
     refine AWq.done rfl rfl rfl (fun w5 x5=>?_);simp only[zl,Act.put,zq6,zq7,zq8];go_wp2_with fail
     go_ret;exact⟨by rw[HNe.out];rfl,HE.out.trans x5⟩
   ·obtain rfl:k=a.length:=by omega
    have hr:Hid (r=true):=HR.out.2 (by
     have:=ht.out;rw[List.take_length,hlen,List.take_length] at this;exact this)
    have HEx:=hid hE;clear h3 k3 hE ht HR;go_wp2_with fail
    go_ret;exact⟨by rw[hr.out];rfl,HEx.out⟩
 ·have dl:((a.length:Int) != b.length)=true:=by simp;omega
  have hr:Hid (r=false):=HR.out.1 (fun e=>hlen (by rw[e]));clear h3 k3 HR hlen;go_enter Tryz.func56,Tryz.ntmps56;go_wp2_with fail
  go_ret;exact⟨by rw[hr.out];rfl,Ext.refl _⟩
attribute [-simp] Tryz.isAgg126
theorem zl4 (w:World) (u v:Value) (a b:List KnownI) (hu:Sl w 67 u (a.map KnownI.list)) (hv:Sl w 67 v (b.map KnownI.list)):Calls Tryz.prog 100 #[u,v] w (Ret (.bool (decide (a=b))) w):=by
 obtain⟨A,c,rfl,h1,h2,h3⟩:=zr hu;obtain⟨B,d,rfl,k1,k2,k3⟩:=zr hv;have HR:Hid ((a≠b→decide (a=b)=false)∧(a=b→decide (a=b)=true)):=⟨fun h=>decide_eq_false h,fun h=>decide_eq_true h⟩
 generalize decide (a=b)=r at HR⊢;clear hu hv;unfold maxLen at h2 k2;by_cases hlen:a.length=b.length
 ·have dl:((a.length:Int) != b.length)=false:=by simp[hlen]
  go_enter Tryz.func100,Tryz.ntmps100;go_wp2_with fail
  go_loopw [13] (fun i wr=>∃ k:Nat,k≤a.length∧i=.int .i64 k∧Ext w wr∧Hid (a.take k=b.take k)) (fun i _=>a.length-(intOf i).toNat)
  case atStart=>exact⟨0,by omega,rfl,Ext.refl _,rfl⟩
  case round=>
   obtain⟨k,hk,rfl,hE,ht⟩:=hrel;have HE:=hid hE;by_cases hka:k<a.length
   ·have hkb:k<b.length:=by omega
    obtain⟨b1,o1,rfl,lb1,hcell1⟩:=h3 (by omega);obtain⟨b2,o2,rfl,lb2,hcell2⟩:=k3 (by omega);have HNe:Hid (a[k]≠b[k]→r=false):=fun h=>HR.out.1 (fun e=>h (by subst e;rfl));have HNx:Hid (a[k]=b[k]→a.take (k+1)=b.take (k+1)):=fun h=>by
     rw[List.take_succ_eq_append_getElem hka,List.take_succ_eq_append_getElem hkb,ht.out,h]
    have lr1:=Nat.lt_of_lt_of_le lb1 hE.size;have lr2:=Nat.lt_of_lt_of_le lb2 hE.size;have HR1:=hid (fun(q:Nat) u (hu:a[k].arr[q]? = some u)=>hE.cell (hcell1 k hka q u (by simpa[KnownI.arr] using hu)));have HR2:=hid (fun(q:Nat) u (hu:b[k].arr[q]? = some u)=>hE.cell (hcell2 k hkb q u (by simpa[KnownI.arr] using hu)));have HEq:=fun W=>zdF a[k] b[k] W;have hz1:=hid (zaG a[k]);have hz2:=hid (zaG b[k]);clear hcell1 hcell2 h3 k3 hE ht HR;generalize a[k]=x at HR1 HNe HNx HEq hz1;generalize b[k]=y at HR2 HNe HNx HEq hz2;by_cases hxy:x=y
    ·rw[decide_eq_true hxy] at HEq
     have HNx:=hid (HNx.out hxy);clear HNe hxy;generalize x.arr=ax at HR1 HEq hz1;generalize y.arr=ay at HR2 HEq hz2;go_wp2_with fail
     refine zc (by kernel_rfl) (by kernel_rfl) (by kernel_rfl) ?_
     repeat (first
      | (refine AWq.val rfl rfl rfl rfl (fun K hK=>?_);go_big_quiet_op;refine hK _ ?_;clear hK K)
      | (refine AWq.skip rfl rfl rfl ?_;simp only[Act.put,zq6,zq7,zq8])
      | (refine AWq.val rfl rfl rfl rfl (fun K hK=>?_);refine zj rfl rfl (fun wc hwc=>by obtain⟨E,rfl⟩:=hwc;exact zap hz1.out (fun j v hv=>(Ext.of_wext _ _).cell (HR1.out j v hv))) (hK _ ?_);clear hK K;simp only[Act.put,zq6,zq7,zq8])
      | (refine AWq.val rfl rfl rfl rfl (fun K hK=>?_);refine zj rfl rfl (fun wc hwc=>by obtain⟨E,rfl⟩:=hwc;exact zap hz2.out (fun j v hv=>(Ext.of_wext _ _).cell (HR2.out j v hv))) (hK _ ?_);clear hK K;simp only[Act.put,zq6,zq7,zq8]))
     refine AWq.done rfl rfl rfl (fun w5 x5=>?_);simp only[zl,Act.put,zq6,zq7,zq8];go_wp2_with fail
     go_roundw
     case rel=>exact⟨k+1,by omega,by go_num,HE.out.trans x5,HNx.out⟩
     case measure=>simp[intOf];omega
    ·rw[decide_eq_false hxy] at HEq
     have HNe:=hid (HNe.out hxy);clear HNx hxy;generalize x.arr=ax at HR1 HEq hz1;generalize y.arr=ay at HR2 HEq hz2;go_wp2_with fail
     refine zc (by kernel_rfl) (by kernel_rfl) (by kernel_rfl) ?_
     repeat (first
      | (refine AWq.val rfl rfl rfl rfl (fun K hK=>?_);go_big_quiet_op;refine hK _ ?_;clear hK K)
      | (refine AWq.skip rfl rfl rfl ?_;simp only[Act.put,zq6,zq7,zq8])
      | (refine AWq.val rfl rfl rfl rfl (fun K hK=>?_);refine zj rfl rfl (fun wc hwc=>by obtain⟨E,rfl⟩:=hwc;exact zap hz1.out (fun j v hv=>(Ext.of_wext _ _).cell (HR1.out j v hv))) (hK _ ?_);clear hK K;simp only[Act.put,zq6,zq7,zq8])
      | (refine AWq.val rfl rfl rfl rfl (fun K hK=>?_);refine zj rfl rfl (fun wc hwc=>by obtain⟨E,rfl⟩:=hwc;exact zap hz2.out (fun j v hv=>(Ext.of_wext _ _).cell (HR2.out j v hv))) (hK _ ?_);clear hK K;simp only[Act.put,zq6,zq7,zq8]))
     refine AWq.done rfl rfl rfl (fun w5 x5=>?_);simp only[zl,Act.put,zq6,zq7,zq8];go_wp2_with fail
     go_ret;exact⟨by rw[HNe.out];rfl,HE.out.trans x5⟩
   ·obtain rfl:k=a.length:=by omega
    have hr:Hid (r=true):=HR.out.2 (by
     have:=ht.out;rw[List.take_length,hlen,List.take_length] at this;exact this)
    have HEx:=hid hE;clear h3 k3 hE ht HR;go_wp2_with fail
    go_ret;exact⟨by rw[hr.out];rfl,HEx.out⟩
 ·have dl:((a.length:Int) != b.length)=true:=by simp;omega
  have hr:Hid (r=false):=HR.out.1 (fun e=>hlen (by rw[e]));clear h3 k3 HR hlen;go_enter Tryz.func100,Tryz.ntmps100;go_wp2_with fail
  go_ret;exact⟨by rw[hr.out];rfl,Ext.refl _⟩
end Go.Proofs.YtofjpdgojoppbaaGreatDoor
