/-
  Of the claim's proof: FpZ, KnA, KnB, PfA, PfB, PfC, PfD, PfE, PfF.
-/
import Derived.Test.YtofjpdgojoppbaaGreatDoorS01
import Derived.Test.YtofjpdgojoppbaaGreatDoorS04
import Derived.Test.YtofjpdgojoppbaaGreatDoorS08
import Derived.Test.YtofjpdgojoppbaaGreatDoorS12
import Derived.Test.YtofjpdgojoppbaaGreatDoorS14
set_option maxRecDepth 100000
set_option maxHeartbeats 16000000
set_option linter.unusedVariables false
set_option linter.unusedSimpArgs false
namespace Go.Proofs.YtofjpdgojoppbaaGreatDoor
section
open Go.RowKit
structure ClauseI where
 pre:ByteArray
 lo:Int
 hi:Int
def ClauseI.cells (c:ClauseI):List Value:=[.string c.pre,.int .i64 c.lo,.int .i64 c.hi]
def ClauseI.val (c:ClauseI):Value:=.agg #[.string c.pre,.int .i64 c.lo,.int .i64 c.hi]
theorem clause_coded:Coded ClauseI.cells 3:=⟨fun _=>rfl,fun a u hu=>by simp[ClauseI.cells] at hu;rcases hu with rfl | rfl | rfl <;> rfl⟩
instance:DecidableEq ClauseI:=fun a b=>if h:a.pre=b.pre∧a.lo=b.lo∧a.hi=b.hi then isTrue (by cases a;cases b;simp_all) else isFalse (by rintro rfl;exact h ⟨rfl,rfl,rfl⟩)
def zjn (f:List ClauseI):Prop:=∀ c∈f,c.pre.size≤100
def mayK (c:ClauseI):Int:=if c.pre.toList.isEmpty=false∧Pa.rightK c.pre=false then 13 else if c.lo<0∨c.hi<c.lo∨200<c.hi then 2 else 0
def zbO (c:ClauseI):Bool:=(c.pre.toList.isEmpty||Pa.rightK c.pre)&&(decide (0≤c.lo)&&(decide (c.lo≤c.hi)&&decide (c.hi≤200)))
theorem zkr (c:ClauseI):mayK c=0↔zbO c=true:=by
 unfold mayK zbO;cases h1:c.pre.toList.isEmpty <;> cases h2:Pa.rightK c.pre <;> simp <;> omega
theorem may_c (w:World) (c:ClauseI) (m:Int) (hm:w.cell? ⟨0,0,none⟩=some (.int .i64 m)) (hu:c.pre.size≤90000):Calls Tryz.prog 179 #[c.val] w (Ret (.int .i64 (mayK c)) w):=by
 have H3:=fun W (hW:Ext w W)=>hid (Pa.check_c W c.pre m (hW.cell hm) hu);have HB0:=hid (Blk.new w 99 #[.string c.pre,.int .i64 c.lo,.int .i64 c.hi]);have X0:=hid (Ext.alloc w (.cells #[.string c.pre,.int .i64 c.lo,.int .i64 c.hi] 99));unfold Pa.pathNo at H3;unfold mayK ClauseI.val;clear hm hu;cases h1:c.pre.toList.isEmpty with
 | true=>
  rw[if_neg (by simp)];clear H3;cases d1:decide (c.lo<0) with
  | true=>
   rw[if_pos (.inl (of_decide_eq_true d1))];go_enter Tryz.func179,Tryz.ntmps179;go_wp2_with (go_at_call 167;refine((H3 _ X0.out).out).mono ?_;rintro e w1 ⟨rfl,hx⟩;have hb:=HB0.out.ext hx;have a0:=hb.cell (i:=0) (v:=.string c.pre) rfl;have a1:=hb.cell (i:=1) (v:=.int .i64 c.lo) rfl;have a2:=hb.cell (i:=2) (v:=.int .i64 c.hi) rfl;have al:=hb.lt;have X1:=hid (X0.out.trans hx);clear hb hx)
   go_ret;exact⟨rfl,X0.out⟩
  | false=>
   cases d2:decide (c.hi<c.lo) with
   | true=>
    rw[if_pos (.inr (.inl (of_decide_eq_true d2)))];go_enter Tryz.func179,Tryz.ntmps179;go_wp2_with (go_at_call 167;refine((H3 _ X0.out).out).mono ?_;rintro e w1 ⟨rfl,hx⟩;have hb:=HB0.out.ext hx;have a0:=hb.cell (i:=0) (v:=.string c.pre) rfl;have a1:=hb.cell (i:=1) (v:=.int .i64 c.lo) rfl;have a2:=hb.cell (i:=2) (v:=.int .i64 c.hi) rfl;have al:=hb.lt;have X1:=hid (X0.out.trans hx);clear hb hx)
    go_ret;exact⟨rfl,X0.out⟩
   | false=>
    cases d3:decide (200<c.hi) with
    | true=>
     rw[if_pos (.inr (.inr (of_decide_eq_true d3)))];go_enter Tryz.func179,Tryz.ntmps179;go_wp2_with (go_at_call 167;refine((H3 _ X0.out).out).mono ?_;rintro e w1 ⟨rfl,hx⟩;have hb:=HB0.out.ext hx;have a0:=hb.cell (i:=0) (v:=.string c.pre) rfl;have a1:=hb.cell (i:=1) (v:=.int .i64 c.lo) rfl;have a2:=hb.cell (i:=2) (v:=.int .i64 c.hi) rfl;have al:=hb.lt;have X1:=hid (X0.out.trans hx);clear hb hx)
     go_ret;exact⟨rfl,X0.out⟩
    | false=>
     rw[if_neg (by simp at d1 d2 d3;omega)];go_enter Tryz.func179,Tryz.ntmps179;go_wp2_with (go_at_call 167;refine((H3 _ X0.out).out).mono ?_;rintro e w1 ⟨rfl,hx⟩;have hb:=HB0.out.ext hx;have a0:=hb.cell (i:=0) (v:=.string c.pre) rfl;have a1:=hb.cell (i:=1) (v:=.int .i64 c.lo) rfl;have a2:=hb.cell (i:=2) (v:=.int .i64 c.hi) rfl;have al:=hb.lt;have X1:=hid (X0.out.trans hx);clear hb hx)
     go_ret;exact⟨rfl,X0.out⟩
 | false=>
  cases h2:Pa.rightK c.pre with
  | false=>
   rw[if_pos ⟨rfl,rfl⟩];rw[h2] at H3;simp only[Bool.false_eq_true,if_false] at H3;clear h2;go_enter Tryz.func179,Tryz.ntmps179;go_wp2_with (go_at_call 167;refine((H3 _ X0.out).out).mono ?_;rintro e w1 ⟨rfl,hx⟩;have hb:=HB0.out.ext hx;have a0:=hb.cell (i:=0) (v:=.string c.pre) rfl;have a1:=hb.cell (i:=1) (v:=.int .i64 c.lo) rfl;have a2:=hb.cell (i:=2) (v:=.int .i64 c.hi) rfl;have al:=hb.lt;have X1:=hid (X0.out.trans hx);clear hb hx)
   go_ret;exact⟨rfl,X1.out⟩
  | true=>
   rw[if_neg (by simp)];rw[h2] at H3;simp only[if_true] at H3;clear h2;cases d1:decide (c.lo<0) with
   | true=>
    rw[if_pos (.inl (of_decide_eq_true d1))];go_enter Tryz.func179,Tryz.ntmps179;go_wp2_with (go_at_call 167;refine((H3 _ X0.out).out).mono ?_;rintro e w1 ⟨rfl,hx⟩;have hb:=HB0.out.ext hx;have a0:=hb.cell (i:=0) (v:=.string c.pre) rfl;have a1:=hb.cell (i:=1) (v:=.int .i64 c.lo) rfl;have a2:=hb.cell (i:=2) (v:=.int .i64 c.hi) rfl;have al:=hb.lt;have X1:=hid (X0.out.trans hx);clear hb hx)
    go_ret;exact⟨rfl,X1.out⟩
   | false=>
    cases d2:decide (c.hi<c.lo) with
    | true=>
     rw[if_pos (.inr (.inl (of_decide_eq_true d2)))];go_enter Tryz.func179,Tryz.ntmps179;go_wp2_with (go_at_call 167;refine((H3 _ X0.out).out).mono ?_;rintro e w1 ⟨rfl,hx⟩;have hb:=HB0.out.ext hx;have a0:=hb.cell (i:=0) (v:=.string c.pre) rfl;have a1:=hb.cell (i:=1) (v:=.int .i64 c.lo) rfl;have a2:=hb.cell (i:=2) (v:=.int .i64 c.hi) rfl;have al:=hb.lt;have X1:=hid (X0.out.trans hx);clear hb hx)
     go_ret;exact⟨rfl,X1.out⟩
    | false=>
     cases d3:decide (200<c.hi) with
     | true=>
      rw[if_pos (.inr (.inr (of_decide_eq_true d3)))];go_enter Tryz.func179,Tryz.ntmps179;go_wp2_with (go_at_call 167;refine((H3 _ X0.out).out).mono ?_;rintro e w1 ⟨rfl,hx⟩;have hb:=HB0.out.ext hx;have a0:=hb.cell (i:=0) (v:=.string c.pre) rfl;have a1:=hb.cell (i:=1) (v:=.int .i64 c.lo) rfl;have a2:=hb.cell (i:=2) (v:=.int .i64 c.hi) rfl;have al:=hb.lt;have X1:=hid (X0.out.trans hx);clear hb hx)
      go_ret;exact⟨rfl,X1.out⟩
     | false=>
      rw[if_neg (by simp at d1 d2 d3;omega)];go_enter Tryz.func179,Tryz.ntmps179;go_wp2_with (go_at_call 167;refine((H3 _ X0.out).out).mono ?_;rintro e w1 ⟨rfl,hx⟩;have hb:=HB0.out.ext hx;have a0:=hb.cell (i:=0) (v:=.string c.pre) rfl;have a1:=hb.cell (i:=1) (v:=.int .i64 c.lo) rfl;have a2:=hb.cell (i:=2) (v:=.int .i64 c.hi) rfl;have al:=hb.lt;have X1:=hid (X0.out.trans hx);clear hb hx)
      go_ret;exact⟨rfl,X1.out⟩
def zcs:List ClauseI→Int
 | []=>0
 | c::t=>if mayK c=0 then zcs t else mayK c
theorem zhT (f:List ClauseI) (k:Nat) (h:k<f.length):zcs (f.drop k)=if mayK f[k]=0 then zcs (f.drop (k+1)) else mayK f[k]:=by
 rw[List.drop_eq_getElem_cons h];rfl
def zg7 (f:List ClauseI):Int:=if 8<f.length then 4 else zcs f
theorem zkL (w:World) (v:Value) (f:List ClauseI) (m:Int) (hm:w.cell? ⟨0,0,none⟩=some (.int .i64 m)) (h:Sl w 3 v (f.map ClauseI.cells)) (hs:∀ c∈f,c.pre.size≤90000):Calls Tryz.prog 174 #[v] w (Ret (.int .i64 (zg7 f)) w):=by
 obtain⟨A,c,rfl,h1,h2,h3⟩:=zr h;unfold maxLen at h2;have HMay:=fun W (hW:Ext w W) (c:ClauseI) (hc:c∈f)=>hid (may_c W c m (hW.cell hm) (by have:=hs c hc;omega));unfold zg7;clear h hs hm;by_cases h8:8<f.length
 ·rw[if_pos h8]
  have d8:decide ((8:Int)<f.length)=true:=by simp;omega
  clear h8 HMay h3;go_enter Tryz.func174,Tryz.ntmps174;go_wp2_with fail
  go_ret;exact⟨rfl,Ext.refl _⟩
 ·rw[if_neg h8]
  have d8:decide ((8:Int)<f.length)=false:=by simp;omega
  have R0:Hid (zcs f=zcs (f.drop 0)):=rfl;generalize hr:zcs f=r at R0⊢;clear hr;go_enter Tryz.func174,Tryz.ntmps174;go_wp2_with fail
  go_loopw [11] (fun i wr=>∃ k:Nat,k≤f.length∧i=.int .i64 k∧Ext w wr∧Hid (r=zcs (f.drop k))) (fun i _=>f.length-(intOf i).toNat)
  case atStart=>exact⟨0,by omega,rfl,Ext.refl _,R0⟩
  case round=>
   obtain⟨k,hk,rfl,hE,hr⟩:=hrel;have HE:=hid hE;by_cases hlt:k<f.length
   ·obtain⟨b,o,rfl,lb,hcell⟩:=h3 (by omega)
    have c0:=hE.cell (hcell k hlt 0 _ rfl);have c1:=hE.cell (hcell k hlt 1 _ rfl);have c2:=hE.cell (hcell k hlt 2 _ rfl);rw[Nat.add_zero] at c0;have lbr:=Nat.lt_of_lt_of_le lb hE.size;have HM:=fun W (hW:Ext wr W)=>HMay W (hE.trans hW) f[k] (List.getElem_mem hlt);have HF:Hid (r=if mayK f[k]=0 then zcs (f.drop (k+1)) else mayK f[k]):=by unfold Hid;rw[hr.out,zhT f k hlt]
    clear hcell h3 hE hr HMay R0 h8;generalize f[k]=x at c0 c1 c2 HM HF;unfold ClauseI.val at HM;by_cases hz:mayK x=0
    ·rw[hz] at HM
     rw[if_pos hz] at HF;clear hz;go_wp2_with (go_at_call 179;refine((HM _ (Ext.alloc _ _)).out).mono ?_;rintro e w1 ⟨rfl,hx⟩;have HX:=hid (HE.out.trans ((Ext.alloc _ _).trans hx));clear hx)
     go_roundw
     case rel=>exact⟨k+1,by omega,by go_num,HX.out,HF.out⟩
     case measure=>simp[intOf];omega
    ·rw[if_neg hz] at HF
     generalize mayK x=z at HM HF hz;have dz:(z==0)=false:=by simp[hz]
     clear hz;go_wp2_with (go_at_call 179;refine((HM _ (Ext.alloc _ _)).out).mono ?_;rintro e w1 ⟨rfl,hx⟩;have HX:=hid (HE.out.trans ((Ext.alloc _ _).trans hx));clear hx)
     go_ret;exact⟨by rw[HF.out];rfl,HX.out⟩
   ·obtain rfl:k=f.length:=by omega
    have hr0:Hid (r=0):=by unfold Hid;rw[hr.out,List.drop_length];rfl
    clear hE h3 hr R0;go_wp2_with fail
    go_ret;exact⟨by rw[hr0.out];rfl,HE.out⟩
def eqC (p:ByteArray) (a b:Int) (q:ByteArray) (c d:Int):Bool:=decide (p=q∧a=c∧b=d)
theorem zdl (p:ByteArray) (a b:Int) (q:ByteArray) (c d:Int) (w:World):(Op.equalIn 10000 99 (.agg #[.string p,.int .i64 a,.int .i64 b]) (.agg #[.string q,.int .i64 c,.int .i64 d])).run Tryz.prog w=.ok (eqC p a b q c d) w:=by
 have h0:(p.toList==q.toList)=decide (p=q):=zag p q;unfold eqC;by_cases h1:p=q <;> by_cases h2:a=c <;> by_cases h3:b=d <;> simp[go_sem,h1,h2,h3] <;> simp_all
attribute [go_sem 2000] zdl
theorem ze8 (w:World) (u v:Value) (a b:List ClauseI) (hu:Sl w 3 u (a.map ClauseI.cells)) (hv:Sl w 3 v (b.map ClauseI.cells)):Calls Tryz.prog 38 #[u,v] w (Ret (.bool (decide (a=b))) w):=by
 obtain⟨A,c,rfl,h1,h2,h3⟩:=zr hu;obtain⟨B,d,rfl,k1,k2,k3⟩:=zr hv;have HR:Hid ((a≠b→decide (a=b)=false)∧(a=b→decide (a=b)=true)):=⟨fun h=>decide_eq_false h,fun h=>decide_eq_true h⟩
 generalize decide (a=b)=r at HR⊢;clear hu hv;unfold maxLen at h2 k2;by_cases hlen:a.length=b.length
 ·have dl:((a.length:Int) != b.length)=false:=by simp[hlen]
  go_enter Tryz.func38,Tryz.ntmps38;go_wp2_with fail
  go_loopw [5] (fun i wr=>∃ k:Nat,k≤a.length∧i=.int .i64 k∧Ext w wr∧Hid (a.take k=b.take k)) (fun i _=>a.length-(intOf i).toNat)
  case atStart=>exact⟨0,by omega,rfl,Ext.refl _,rfl⟩
  case round=>
   obtain⟨k,hk,rfl,hE,ht⟩:=hrel;have HE:=hid hE;by_cases hka:k<a.length
   ·have hkb:k<b.length:=by omega
    obtain⟨b1,o1,rfl,lb1,hcell1⟩:=h3 (by omega);obtain⟨b2,o2,rfl,lb2,hcell2⟩:=k3 (by omega);have c0:=hE.cell (hcell1 k hka 0 _ rfl);have c1:=hE.cell (hcell1 k hka 1 _ rfl);have c2:=hE.cell (hcell1 k hka 2 _ rfl);have d0:=hE.cell (hcell2 k hkb 0 _ rfl);have d1:=hE.cell (hcell2 k hkb 1 _ rfl);have d2:=hE.cell (hcell2 k hkb 2 _ rfl);rw[Nat.add_zero] at c0 d0;have lr1:=Nat.lt_of_lt_of_le lb1 hE.size;have lr2:=Nat.lt_of_lt_of_le lb2 hE.size;have HNe:Hid (a[k]≠b[k]→r=false):=fun h=>HR.out.1 (fun e=>h (by subst e;rfl));have HNx:Hid (a[k]=b[k]→a.take (k+1)=b.take (k+1)):=fun h=>by
     rw[List.take_succ_eq_append_getElem hka,List.take_succ_eq_append_getElem hkb,ht.out,h]
    clear hcell1 hcell2 h3 k3 hE ht HR;generalize a[k]=x at c0 c1 c2 HNe HNx;generalize b[k]=y at d0 d1 d2 HNe HNx;by_cases hxy:x=y
    ·have e1:eqC x.pre x.lo x.hi y.pre y.lo y.hi=true:=by subst hxy;simp[eqC]
     have HNx:=hid (HNx.out hxy);clear HNe hxy;go_wp2_with fail
     refine zc (by kernel_rfl) (by kernel_rfl) (by kernel_rfl) ?_
     repeat (first
      | (refine AWq.val rfl rfl rfl rfl (fun K hK=>?_);go_big_quiet_op;refine hK _ ?_;clear hK K)
      | (refine AWq.skip rfl rfl rfl ?_;simp only[Act.put,zq6,zq7,zq8]))
     refine AWq.done rfl rfl rfl (fun w5 x5=>?_);simp only[zl,Act.put,zq6,zq7,zq8];go_wp2_with fail
     go_roundw
     case rel=>exact⟨k+1,by omega,by go_num,HE.out.trans x5,HNx.out⟩
     case measure=>simp[intOf];omega
    ·have e1:eqC x.pre x.lo x.hi y.pre y.lo y.hi=false:=by
      unfold eqC;rw[decide_eq_false_iff_not];rintro⟨q1,q2,q3⟩;exact hxy (by cases x;cases y;simp_all)
     have HNe:=hid (HNe.out hxy);clear HNx hxy;go_wp2_with fail
     refine zc (by kernel_rfl) (by kernel_rfl) (by kernel_rfl) ?_
     repeat (first
      | (refine AWq.val rfl rfl rfl rfl (fun K hK=>?_);go_big_quiet_op;refine hK _ ?_;clear hK K)
      | (refine AWq.skip rfl rfl rfl ?_;simp only[Act.put,zq6,zq7,zq8]))
     refine AWq.done rfl rfl rfl (fun w5 x5=>?_);simp only[zl,Act.put,zq6,zq7,zq8];go_wp2_with fail
     go_ret;exact⟨by rw[HNe.out];rfl,HE.out.trans x5⟩
   ·obtain rfl:k=a.length:=by omega
    have hr:Hid (r=true):=HR.out.2 (by have:=ht.out;rw[List.take_length] at this;rw[hlen,List.take_length] at this;exact this);clear hE h3 k3 ht HR;go_wp2_with fail
    go_ret;exact⟨by rw[hr.out];rfl,HE.out⟩
 ·have dl:((a.length:Int) != b.length)=true:=by simp;omega
  have hr:Hid (r=false):=HR.out.1 (fun e=>hlen (by rw[e]));clear h3 k3 HR;go_enter Tryz.func38,Tryz.ntmps38;go_wp2_with fail
  go_ret;exact⟨by rw[hr.out];rfl,Ext.refl _⟩
end
section
open Go.RowKit
structure FragI where
 f:List ClauseI
 v:List Int
 n:List Ver
structure KnownI where
 i:Ver
 v:List Int
 hv:v.length=65
structure KnowI where
 fs:List FragI
 ks:List KnownI
theorem zeJ {a b:FragI}:a=b↔a.f=b.f∧a.v=b.v∧a.n=b.n:=by cases a;cases b;simp
theorem zdM {a b:KnownI}:a=b↔a.i=b.i∧a.v=b.v:=by cases a;cases b;simp
theorem zb3 {a b:KnowI}:a=b↔a.fs=b.fs∧a.ks=b.ks:=by cases a;cases b;simp
instance:DecidableEq FragI:=fun a b=>if h:a.f=b.f∧a.v=b.v∧a.n=b.n then isTrue (zeJ.2 h) else isFalse (fun e=>h (zeJ.1 e))
instance:DecidableEq KnownI:=fun a b=>if h:a.i=b.i∧a.v=b.v then isTrue (zdM.2 h) else isFalse (fun e=>h (zdM.1 e))
instance:DecidableEq KnowI:=fun a b=>if h:a.fs=b.fs∧a.ks=b.ks then isTrue (zb3.2 h) else isFalse (fun e=>h (zb3.1 e))
structure FragC where
 f:SlV
 v:List Int
 n:SlV
 hv:v.length=65
def FragC.list (c:FragC):List Value:=[c.f.val]++(intsV c.v++[c.n.val])
def FragC.arr (c:FragC):Array Value:=c.list.toArray
theorem zeh (c:FragC):c.list.length=67:=by
 unfold FragC.list;rw[List.length_append,List.length_append,zG,c.hv];rfl
theorem zbT (c:FragC):c.arr.size=67:=by unfold FragC.arr;rw[List.size_toArray];exact zeh c
theorem fragC_oneL (c:FragC):∀ v∈c.list,v.oneCell'=true:=by
 intro v hv;unfold FragC.list at hv;rcases List.mem_append.1 hv with h | h
 ·rw[List.mem_singleton.1 h];rfl
 rcases List.mem_append.1 h with h | h
 ·exact intsV_one _ v h
 ·rw[List.mem_singleton.1 h];rfl
theorem fragC_f (c:FragC):c.list[0]? = some c.f.val:=rfl
theorem zdR (c:FragC) (j:Nat) (v:Value) (h:(vecV c.v)[j]? = some v):c.list[1+j]? = some v:=by
 have h:(intsV c.v)[j]? = some v:=by simpa[vecV,intsV] using h
 have hj:=(List.getElem?_eq_some_iff.1 h).1;unfold FragC.list;rw[List.getElem?_append_right (by simp),show 1+j-[c.f.val].length=j by simp,List.getElem?_append_left hj];exact h
theorem zdS (c:FragC):c.list[66]? = some c.n.val:=by
 unfold FragC.list;rw[List.getElem?_append_right (by simp),List.getElem?_append_right (by rw[zG,c.hv];simp),zG,c.hv];rfl
def KnownI.list (k:KnownI):List Value:=[.int .i64 k.i.by_,.int .i64 k.i.n]++intsV k.v
def KnownI.arr (k:KnownI):Array Value:=k.list.toArray
theorem zef (k:KnownI):k.list.length=67:=by
 unfold KnownI.list;rw[List.length_append,zG,k.hv];rfl
theorem zaG (k:KnownI):k.arr.size=67:=by unfold KnownI.arr;rw[List.size_toArray];exact zef k
theorem known_oneL (k:KnownI):∀ v∈k.list,v.oneCell'=true:=by
 intro v hv;unfold KnownI.list at hv;rcases List.mem_append.1 hv with h | h
 ·simp only[List.mem_cons,List.not_mem_nil,or_false] at h
  rcases h with rfl | rfl <;> rfl
 ·exact intsV_one _ v h
theorem known_coded:Coded KnownI.list 67:=⟨zef,known_oneL⟩
theorem zjG (k:KnownI) (j:Nat) (v:Value) (h:(vecV k.v)[j]? = some v):k.list[2+j]? = some v:=by
 have h:(intsV k.v)[j]? = some v:=by simpa[vecV,intsV] using h
 unfold KnownI.list;rw[List.getElem?_append_right (by simp),show 2+j-[Value.int .i64 k.i.by_,Value.int .i64 k.i.n].length=j by simp];exact h
def FragAt (w:World) (c:FragC) (x:FragI):Prop:=c.v=x.v∧Sl w 3 c.f.val (x.f.map ClauseI.cells)∧Sl w 2 c.n.val (x.n.map Ver.cells)
theorem FragAt.ext {w w':World} {c:FragC} {x:FragI} (h:FragAt w c x) (he:Ext w w'):FragAt w' c x:=⟨h.1,h.2.1.ext he,h.2.2.ext he⟩
def FragsAt (w:World) (u:Value) (xs:List FragI):Prop:=∃ cs:List FragC,cs.length=xs.length∧(∀ (i:Nat) c x,cs[i]? = some c→xs[i]? = some x→FragAt w c x)∧Sl w 67 u (cs.map FragC.list)
theorem FragsAt.ext {w w':World} {u:Value} {xs:List FragI} (h:FragsAt w u xs) (he:Ext w w'):FragsAt w' u xs:=by
 obtain⟨cs,h1,h2,h3⟩:=h;exact⟨cs,h1,fun i c x a b=>(h2 i c x a b).ext he,h3.ext he⟩
def KnowAt (w:World) (u v:Value) (k:KnowI):Prop:=FragsAt w u k.fs∧Sl w 67 v (k.ks.map KnownI.list)
theorem KnowAt.ext {w w':World} {u v:Value} {k:KnowI} (h:KnowAt w u v k) (he:Ext w w'):KnowAt w' u v k:=⟨h.1.ext he,h.2.ext he⟩
theorem FragsAt.nil (w:World):FragsAt w (.slice none 0 0) []:=⟨[],rfl,fun i c x h=>by simp at h,Sl.nil w 67⟩
end
section
open Go.RowKit
theorem zcz (a b:List Int) (w:World):∀ is:List Nat,(∀ i∈is,i<a.length∧i<b.length)→(Op.eqItems 9998 3 1 (vecV a) (vecV b) is).run Tryz.prog w=.ok (decide (∀ i∈is,a[i]? = b[i]?)) w
 | [],_=>by simp[Op.eqItems]
 | i::is,h=>by
  obtain⟨h1,h2⟩:=h i (by simp);have ih:=zcz a b w is (fun j hj=>h j (by simp[hj]));have e1:a[i]? = some a[i]:=List.getElem?_eq_getElem h1;have e2:b[i]? = some b[i]:=List.getElem?_eq_getElem h2;have g1:=zbk a i _ e1;have g2:=zbk b i _ e2;generalize a[i]=x at e1 g1;generalize b[i]=y at e2 g2;by_cases hxy:x=y
  ·subst hxy
   simp[Op.eqItems,part,g1,g2,go_sem,ih,e1,e2]
  ·simp[Op.eqItems,part,g1,g2,go_sem,e1,e2,hxy]
theorem zew (a b:List Int) (ha:a.length=65) (hb:b.length=65) (w:World):(Op.equalIn 9999 33 (.agg (vecV a)) (.agg (vecV b))).run Tryz.prog w=.ok (decide (a=b)) w:=by
 have hi0:(Tryz.prog.info? 3).map (fun i=>(i.size))=some 1:=by kernel_rfl
 obtain⟨i,hi,he⟩:=Option.map_eq_some_iff.1 hi0;have hc:Tryz.prog.cellsOf 3=1:=by kernel_rfl
 rw[run_equalIn_array w 9998 (vecV a) (vecV b) Tryz.underlying33 hi,hc];rw[zcz a b w (List.range 65) (fun i hi=>by rw[ha,hb];simpa using hi)];have:(∀ i∈List.range 65,a[i]? = b[i]?)↔a=b:=by
  constructor
  ·intro h
   apply List.ext_getElem?;intro i;by_cases hi:i<65
   ·exact h i (by simpa using hi)
   ·rw[List.getElem?_eq_none (by omega),List.getElem?_eq_none (by omega)]
  ·rintro rfl i _;rfl
 rw[decide_eq_decide.2 this]
theorem known_part0 (x:KnownI):x.arr.extract 0 2=#[.int .i64 x.i.by_,.int .i64 x.i.n]:=by
 unfold KnownI.arr KnownI.list;simp
theorem zeC (x:KnownI):x.arr.extract 2 67=vecV x.v:=by
 unfold KnownI.arr KnownI.list vecV;apply Array.ext';have h:=zG x.v;rw[x.hv] at h;rw[zG] at h;simp[intsV];exact List.take_of_length_le (by rw[List.length_map,h];exact Nat.le_refl _)
theorem zdF (x y:KnownI) (w:World):(Op.equalIn 10000 126 (.agg x.arr) (.agg y.arr)).run Tryz.prog w=.ok (decide (x=y)) w:=by
 have hk:decide (x=y)=(decide (x.i.by_=y.i.by_)&&decide (x.i.n=y.i.n)&&decide (x.v=y.v)):=by
  rw[Bool.eq_iff_iff];simp[zdM];intro _;cases x.i;cases y.i;simp
 rw[hk];have e:=zew x.v y.v x.hv y.hv;have e':=zew y.v y.v y.hv y.hv;have p0:=known_part0 x;have p2:=zeC x;have q0:=known_part0 y;have q2:=zeC y;have sx:=zaG x;have sy:=zaG y;generalize x.arr=X at p0 p2 sx⊢;generalize y.arr=Y at q0 q2 sy⊢;by_cases h1:x.i.by_=y.i.by_ <;> by_cases h2:x.i.n=y.i.n <;> by_cases h3:x.v=y.v <;> simp[go_sem,part,p0,p2,q0,q2,e,e',h1,h2,h3,sx,sy]
end
section
open Go.RowKit
def clB (c:ClauseI):ByteArray:=zO c.pre++numB c.lo++numB c.hi
def zH (f:List ClauseI):Bool:=f.all zbO&&decide (f.length≤64)
structure ClauseOk (c:ClauseI):Prop where
 pre:c.pre.size≤40
 lo:0≤c.lo∧c.lo≤200
 hi:0≤c.hi∧c.hi≤200
theorem zj7 {c:ClauseI} (h:zbO c=true):ClauseOk c:=by
 unfold zbO at h;simp only[Bool.and_eq_true,Bool.or_eq_true,decide_eq_true_eq] at h;obtain⟨h1,h2,h3,h4⟩:=h;refine⟨?_,by omega,by omega⟩;rcases h1 with h1 | h1
 ·rw[←zQ,List.isEmpty_iff.1 h1];exact Nat.zero_le _
 ·exact zgR h1
theorem zkU (c:ClauseI):zg7 [c]=mayK c:=by
 unfold zg7;rw[if_neg (by simp)]
 show(if mayK c=0 then zcs [] else mayK c)=mayK c
 split
 ·rename_i h;rw[h];rfl
 ·rfl
theorem all_take {f:List ClauseI} {k:Nat} (h:k<f.length) (h1:(f.take k).all zbO=true) (h2:zbO f[k]=true):(f.take (k+1)).all zbO=true:=by
 rw[List.take_succ_eq_append_getElem h,List.all_append,h1];simp[h2]
theorem all_hit {f:List ClauseI} {k:Nat} (h:k<f.length) (h2:zbO f[k]=false):f.all zbO=false:=by
 rw[List.all_eq_false];exact⟨f[k],List.getElem_mem h,by simp[h2]⟩
theorem zgw (w:World) (v:Value) (f:List ClauseI) (m:Int) (hm:w.cell? ⟨0,0,none⟩=some (.int .i64 m)) (h:Sl w 3 v (f.map ClauseI.cells)) (hs:∀ c∈f,c.pre.size≤90000):Calls Tryz.prog 147 #[v] w (Ret (.bool (zH f)) w):=by
 obtain⟨A,c,rfl,h1,h2,h3⟩:=zr h;unfold maxLen at h2;have HCh:=fun W (hW:Ext w W) u x (hx:x∈f) (hu:Sl W 3 u ([x].map ClauseI.cells))=>hid (zkL W u [x] m (hW.cell hm) hu (fun c hc=>by rw[List.mem_singleton.1 hc];exact hs x hx));have HR:Hid (∀ b,(f.all zbO=b)→zH f=(b&&decide (f.length≤64))):=fun b hb=>by unfold zH;rw[hb]
 have H3:=hid h3;clear h h3 hm hs;go_enter Tryz.func147,Tryz.ntmps147;go_wp2_with fail
 go_loopw [6] (fun s6 wr=>∃ k:Nat,k≤f.length∧s6=.int .i64 k∧Hid (Ext w wr)∧Hid ((f.take k).all zbO=true)) (fun s6 _=>f.length-(intOf s6).toNat)
 case atStart=>exact⟨0,by omega,rfl,Ext.refl _,rfl⟩
 case round=>
  obtain⟨k,hk,rfl,hE,hA⟩:=hrel;by_cases hlt:k<f.length
  ·have d1:decide ((k:Int)<f.length)=true:=decide_eq_true (by omega)
   have d1':decide (k<f.length)=true:=decide_eq_true hlt;obtain⟨b,o,rfl,lb,hcell⟩:=H3.out (by omega);have HSl:Hid (Sl wr 3 (.slice (some ⟨b,o+k*3,none⟩) 1 (c-k)) ([f[k]].map ClauseI.cells)):=by
    refine⟨_,c-k,rfl,by show 1≤c-k;omega,by unfold maxLen;omega,fun _=>⟨b,o+k*3,rfl,Nat.lt_of_lt_of_le lb hE.out.size,fun i x j u hx hu=>?_⟩⟩;cases i with
    | zero=>
     simp only[List.map_cons,List.map_nil,List.getElem?_cons_zero,Option.some.injEq] at hx;subst hx;rw[Nat.zero_mul,Nat.add_zero];exact hE.out.cell (hcell k hlt j u hu)
    | succ i=>simp at hx
   have hck:¬ c=k:=by omega
   have HC:=fun W (hW:Ext wr W) u (hu:Sl W 3 u ([f[k]].map ClauseI.cells))=>HCh W (hE.out.trans hW) u f[k] (List.getElem_mem hlt) hu;rw[zkU] at HC;have HT:=hid (fun h=>all_take hlt hA.out h);have HF:=hid (fun h=>all_hit hlt h);have HM:=hid (zkr f[k]);clear hcell H3 HCh hA;generalize f[k]=x at HSl HC HT HF HM;go_wp2_with fail
   refine((HC _ (Ext.refl _) _ HSl.out).out).mono ?_;rintro e w2 ⟨rfl,x2⟩;have hE2:=hid (hE.out.trans x2);clear hE x2 HC HSl;cases hr:zbO x with
   | true=>
    have hz:mayK x=0:=HM.out.2 hr;have hT:=hid (HT.out hr);rw[hz];clear hz hr HM HT HF;go_wp2_with fail
    go_roundw
    case rel=>exact⟨k+1,by omega,by go_num,hE2,hT⟩
    case measure=>simp[intOf];omega
   | false=>
    have hz:(mayK x != 0)=true:=by
     simp only[bne_iff_ne,ne_eq];intro h;rw[HM.out.1 h] at hr;cases hr
    have hV:=hid (HR.out false (HF.out hr));rw[Bool.false_and] at hV;generalize mayK x=z at hz⊢;clear hr HM HT HF HR;go_wp2_with fail
    go_ret;exact⟨by rw[hV.out];rfl,hE2.out⟩
  ·obtain rfl:k=f.length:=by omega
   rw[List.take_length] at hA;have HV:=hid (HR.out true hA.out);clear hA hlt hk HCh H3 HR;by_cases h64:f.length≤64
   ·have d2:decide ((f.length:Int)≤64)=true:=decide_eq_true (by omega)
    have d2':decide (f.length≤64)=true:=decide_eq_true h64;rw[d2',Bool.true_and] at HV;clear h64;go_wp2_with fail
    go_ret;exact⟨by rw[HV.out];rfl,hE.out⟩
   ·have d2:decide ((f.length:Int)≤64)=false:=decide_eq_false (by omega)
    have d2':decide (f.length≤64)=false:=decide_eq_false h64;rw[d2',Bool.true_and] at HV;clear h64;go_wp2_with fail
    go_ret;exact⟨by rw[HV.out];rfl,hE.out⟩
end
section
open Go.RowKit
theorem zmn {c:ClauseI} (h:ClauseOk c):(⟨(encL [fT c.pre,fN c.lo,fN c.hi]).toArray⟩:ByteArray)=clB c:=by
 apply ByteArray.ext;apply Array.ext';unfold clB;simp only[ByteArray.data_append,Array.toList_append,zu h.lo.1,zu h.hi.1,zV];simp[encL,fN,fT,FldI.enc]
theorem zfL {c:ClauseI} (h:ClauseOk c):0<(clB c).size∧(clB c).size≤70:=by
 have h1:=zbm c.pre (by have:=h.pre;omega);have h2:=zbp (z:=c.lo) (by have:=h.lo;omega);have h3:=zbp (z:=c.hi) (by have:=h.hi;omega);have h4:0<(zO c.pre).size:=by
  have h:(zO c.pre).data.toList.length=(zO c.pre).size:=by rw[Array.length_toList];rfl
  rw[zV,List.length_append] at h;have:=zcg c.pre.size;omega
 have:=h.pre;unfold clB;rw[ByteArray.size_append,ByteArray.size_append];omega
theorem zd8 (w:World) {B:Nat} (hB:B≤w.heap.size) (a b c:FldI):OwnF [a,b,c] B (.slice (some ⟨w.heap.size,0,none⟩) 3 3) (w.alloc (.cells #[.int .i64 a.n,.string a.s,.bool a.t,.int .i64 b.n,.string b.s,.bool b.t,.int .i64 c.n,.string c.s,.bool c.t] 140)):=
 zaH hB 140 3 3 #[.int .i64 a.n,.string a.s,.bool a.t,.int .i64 b.n,.string b.s,.bool b.t,.int .i64 c.n,.string c.s,.bool c.t] (by unfold maxLen;omega) rfl
theorem putC1_c (w:World) (c:ClauseI) (h:ClauseOk c):Calls Tryz.prog 150 #[.agg #[.string c.pre,.int .i64 c.lo,.int .i64 c.hi]] w (Ret (.string (clB c)) w):=by
 have HT:=fun W=>hid (fT_c W c.pre);have HN:=fun W n=>hid (fN_c W n);have hok:∀ f∈[fT c.pre,fN c.lo,fN c.hi],f.ok:=fun f hf=>by
  have h1:=h.pre;have h2:=h.lo;have h3:=h.hi;simp only[List.mem_cons,List.not_mem_nil,or_false] at hf;rcases hf with rfl | rfl | rfl
  ·exact⟨by show c.pre.size≤_;omega,fun h=>(by(have h:true=false:=h);cases h),by show(0:Int)≤_;omega⟩
  ·exact⟨Nat.zero_le _,fun _=>h2.1,by show c.lo≤_;omega⟩
  ·exact⟨Nat.zero_le _,fun _=>h3.1,by show c.hi≤_;omega⟩
 have hlen:(encL [fT c.pre,fN c.lo,fN c.hi]).length≤65536:=by
  have h1:(encL [fT c.pre,fN c.lo,fN c.hi]).length=(⟨(encL [fT c.pre,fN c.lo,fN c.hi]).toArray⟩:ByteArray).size:=rfl;have h2:=zfL h;rw[zmn h] at h1;omega
 have HP:=fun W v (h:Sl W 3 v ([fT c.pre,fN c.lo,fN c.hi].map FldI.cells))=>hid (zdt W v [fT c.pre,fN c.lo,fN c.hi] h hok (by simp) hlen);rw[zmn h] at HP;have HE:=hid (Ext.alloc w (.cells #[.string c.pre,.int .i64 c.lo,.int .i64 c.hi] 99));clear hok hlen h;generalize clB c=r at HP⊢;go_enter Tryz.func150,Tryz.ntmps150;go_wp2_with fail
 refine zc (by kernel_rfl) (by kernel_rfl) (by kernel_rfl) ?_
 repeat (first
  | (refine AWq.val rfl rfl rfl rfl (fun K hK=>?_);go_big_quiet_op;refine hK _ ?_;clear hK K)
  | (refine AWq.skip rfl rfl rfl ?_;simp only[Act.put,zq6,zq7,zq8])
  | (refine AWq.call rfl Tryz.func97 (by kernel_rfl) (by kernel_rfl) rfl rfl rfl ?_;apply Exists.intro;refine And.intro (fun wc hc=>?_) ?_;(· (simp only[zh,zm,↓reduceIte,Nat.reduceEqDiff,zq1,zq2,zq3,zq4,zq5];with_reducible exact(HT _).out));simp only[Act.put,zq6,zq7,zq8])
  | (refine AWq.call rfl Tryz.func95 (by kernel_rfl) (by kernel_rfl) rfl rfl rfl ?_;apply Exists.intro;refine And.intro (fun wc hc=>?_) ?_;(· (simp only[zh,zm,↓reduceIte,Nat.reduceEqDiff,zq1,zq2,zq3,zq4,zq5];with_reducible exact(HN _ _).out));simp only[Act.put,zq6,zq7,zq8])
  | (refine AWq.opV (fun v W=>OwnF [fT c.pre,fN c.lo,fN c.hi] w.heap.size v W) (fun v _ _ he h=>OwnF.ext h he) rfl rfl rfl rfl (fun wc hc=>?_) ?_;(· (have hc2:=hc.size;have hc':=hc.rule;clear hc;go_simp;dsimp only[Gives];exact⟨zd8 wc (by have:=HE.out.size;omega) (fT c.pre) (fN c.lo) (fN c.hi),Ext.alloc _ _⟩)))
  | (refine AWq.call rfl Tryz.func138 (by kernel_rfl) (by kernel_rfl) rfl rfl rfl ?_;apply Exists.intro;refine And.intro (fun wc hc=>?_) ?_;(· (simp only[zh,zm,↓reduceIte,Nat.reduceEqDiff,zq1,zq2,zq3,zq4,zq5];intro y hy;exact(HP _ _ hy.sl).out));simp only[Act.put,zq6,zq7,zq8]))
 refine AWq.done rfl rfl rfl (fun w2 x2=>?_);simp only[zl,Act.put,zq6,zq7,zq8];rintro x5 -;go_wp2_with fail
 go_ret;exact⟨rfl,HE.out.trans x2⟩
end
section
open Go.RowKit
theorem listC_c (w:World) (v:Value) (l:List ClauseI) (enc:ClauseI→ByteArray) (h:Sl w 3 v (l.map ClauseI.cells)) (hl:l.length≤100000) (hone:∀ x∈l,∀ W,Ext w W→Calls Tryz.prog 150 #[.agg #[.string x.pre,.int .i64 x.lo,.int .i64 x.hi]] W (Ret (.string (enc x)) W)) (hpos:∀ x∈l,0<(enc x).size∧(enc x).size≤65536) (htot:(encL (fN l.length::l.map (fun x=>fT (enc x)))).length≤65536):Calls Tryz.prog 149 #[v,.func (.func 150) #[] #[]] w (Ret (.string ⟨(encL (fN l.length::l.map (fun x=>fT (enc x)))).toArray⟩) w):=by
 obtain⟨A,c,rfl,h1,h2,h3⟩:=zr h;unfold maxLen at h2;have HN:=fun W n=>hid (fN_c W n);have HT:=fun W s=>hid (fT_c W s);have HOne:=hid hone;have HPos:=hid hpos;have HP:=fun W u (h:Sl W 3 u ((fN l.length::l.map (fun x=>fT (enc x))).map FldI.cells))=>hid (zdt W u (fN l.length::l.map (fun x=>fT (enc x))) h (fun f hf=>by
  rcases List.mem_cons.1 hf with rfl | hf
  ·exact⟨Nat.zero_le _,fun _=>Int.natCast_nonneg _,by show(l.length:Int)≤_;omega⟩
  ·obtain⟨x,hx,rfl⟩:=List.mem_map.1 hf
   exact⟨(hpos x hx).2,fun h=>(by(have h:true=false:=h);cases h),by show(0:Int)≤_;omega⟩) (by simp) htot)
 have H3:=hid h3;clear h h3 hone hpos htot;go_enter Tryz.func149,Tryz.ntmps149;go_wp2_with fail
 refine((HN _ _).out).mono ?_;rintro en w1 ⟨rfl,x1⟩;have HE1:=hid x1;clear x1;have HF0:Hid (OwnF [fN l.length] w.heap.size (.slice (some ⟨w1.heap.size,0,none⟩) 1 1) (w1.alloc (.cells #[.int .i64 l.length,.string ⟨#[]⟩,.bool false] 140))):=zaH HE1.out.size 140 3 1 #[.int .i64 l.length,.string ⟨#[]⟩,.bool false] (by unfold maxLen;omega) rfl;have HE2:=hid (HE1.out.alloc' (.cells #[.int .i64 l.length,.string ⟨#[]⟩,.bool false] 140));go_wp2_with fail
 generalize w1.alloc (.cells #[.int .i64 l.length,.string ⟨#[]⟩,.bool false] 140)=w2 at HF0 HE2⊢;obtain⟨v0,hv0⟩:∃ v0,v0=Value.slice (some ⟨w1.heap.size,0,none⟩) 1 1:=⟨_,rfl⟩
 go_loopw [5,15] (fun s5 s15 wr=>∃ (k:Nat) (ov:Value),ov=s5∧k≤l.length∧s15=.int .i64 k∧Hid (Ext w wr)∧Hid (OwnF (fN l.length::(l.take k).map (fun x=>fT (enc x))) w.heap.size s5 wr)) (fun _ s15 _=>l.length-(intOf s15).toNat)
 case atStart=>exact⟨0,_,rfl,by omega,rfl,HE2,HF0⟩
 case round=>
  obtain⟨k,s5,rfl,hk,rfl,hE,hO⟩:=hrel;clear HF0 HE2 HE1 hv0 HN;by_cases hlt:k<l.length
  ·have d1:decide ((k:Int)<l.length)=true:=decide_eq_true (by omega)
   have d1':decide (k<l.length)=true:=decide_eq_true hlt;obtain⟨b,o,rfl,lb,hcell⟩:=H3.out (by omega);have c0:=hE.out.cell (hcell k hlt 0 _ rfl);have c1:=hE.out.cell (hcell k hlt 1 _ rfl);have c2:=hE.out.cell (hcell k hlt 2 _ rfl);rw[Nat.add_zero] at c0;have lbr:=Nat.lt_of_lt_of_le lb hE.out.size;have HM:Hid ((l.take (k+1)).map (fun x=>fT (enc x))=(l.take k).map (fun x=>fT (enc x))++[fT (enc l[k])]):=by
    unfold Hid;rw[List.take_succ_eq_append_getElem hlt,List.map_append];rfl
   have HC:=HOne.out l[k] (List.getElem_mem hlt);have hp:=(HPos.out l[k] (List.getElem_mem hlt)).1;have hlen:((l.take k).map (fun x=>fT (enc x))).length≤100000:=by rw[List.length_map,List.length_take];omega
   clear H3 hcell HOne HPos HP;generalize hacc1:(l.take (k+1)).map (fun x=>fT (enc x))=acc1 at HM;have HA1:=hid hacc1;clear hacc1;generalize hacc:(l.take k).map (fun x=>fT (enc x))=acc at hO HM hlen;clear hacc;generalize l[k]=x at c0 c1 c2 HC HM hp;have d0:(enc x).toList.isEmpty=false:=by
    cases h:(enc x).toList.isEmpty with
    | false=>rfl
    | true=>rw[←zcc,List.isEmpty_iff.1 h] at hp;exact absurd hp (by decide)
   clear hp;generalize enc x=r at HC HM d0;go_wp2_with fail
   refine(HC _ (hE.out.alloc' _)).mono ?_;rintro en w3 ⟨rfl,x3⟩;have hO3:=hid (hO.out.ext ((Ext.alloc _ _).trans x3));have hE3:=hid (hE.out.trans ((Ext.alloc _ _).trans x3));clear x3 c0 c1 c2 lbr lb hE hO HC;go_wp2_with fail
   refine((HT _ _).out).mono ?_;rintro en w4 ⟨rfl,x4⟩;have hO4:=hid (hO3.out.ext x4);have hE4:=hid (hE3.out.trans x4);clear x4 hO3 hE3;obtain⟨v',w6,hrun6,ho6,hk6,_⟩:=zaJ (P:=Tryz.prog) zbF fld_coded hO4.out hE4.out.size (fT r) (by simp;omega) (by omega);simp only[FldI.cells,fT] at hrun6;have HE6:=hid (hk6.toExt hE4.out (fun q hq=>(zt hO4.out q hq).1));have HO6:Hid (OwnF (fN l.length::acc1) w.heap.size v' w6):=by
    rw[HM.out];exact ho6
   clear ho6 hk6;go_wp2_with (at_builtin;refine zx rfl (.tmp 24) (.tmp 27) _ _ rfl rfl rfl hrun6 ?_)
   go_roundw
   case rel=>exact⟨k+1,_,rfl,by omega,by go_num,HE6,by rw[HA1.out];exact HO6⟩
   case measure=>simp[intOf];omega
  ·obtain rfl:k=l.length:=by omega
   rw[List.take_length] at hO;have HS:=hid hO.out.sl;clear hlt hk H3 HOne HPos hO HT;go_wp2_with fail
   refine((HP _ _ HS.out).out).mono ?_;rintro en w7 ⟨rfl,x7⟩;have HE7:=hid (hE.out.trans x7);clear x7;go_wp2_with fail
   go_ret;exact⟨rfl,HE7.out⟩
end
section
open Go.RowKit
theorem zcq {f:List ClauseI} (h:zH f=true):f.length≤64 ∧ ∀ c∈f,ClauseOk c:=by
 unfold zH at h;simp only[Bool.and_eq_true,decide_eq_true_eq,List.all_eq_true] at h;exact⟨h.2,fun c hc=>zj7 (h.1 c hc)⟩
theorem zdu {f:List ClauseI} (h:zH f=true):(zg clB f).size≤6000:=by
 obtain⟨h1,h2⟩:=zcq h;have:=zb6 clB f 70 64 (by decide) h1 (by decide) (fun x hx=>(zfL (h2 x hx)).2);rw[za9];omega
theorem ziK (w:World) (v:Value) (f:List ClauseI) (m:Int) (hm:w.cell? ⟨0,0,none⟩=some (.int .i64 m)) (h:Sl w 3 v (f.map ClauseI.cells)) (hs:∀ c∈f,c.pre.size≤90000):Calls Tryz.prog 115 #[v] w (Ret (.tuple #[.string (putB (zH f) (zg clB f)),.int .i64 (okZ (zH f))]) w):=by
 have HC:=hid (zgw w v f m hm h hs);have HF:=fun W s b=>hid (zg0 W s b);cases hb:zH f with
 | false=>
  rw[hb] at HC;rw[show putB false (zg clB f)=⟨#[]⟩ from rfl,show okZ false=2 from rfl];obtain⟨A,c,rfl,_⟩:=zr h;clear h hs hm hb HF;go_enter Tryz.func115,Tryz.ntmps115;go_wp2_with fail
  refine(HC.out).mono ?_;rintro e w1 ⟨rfl,x1⟩;have X1:=hid x1;clear x1;go_wp2_with fail
  go_ret2;exact⟨rfl,X1.out⟩
 | true=>
  obtain⟨h64,hok⟩:=zcq hb;have HL:=fun W (hW:Ext w W)=>hid (listC_c W v f clB (h.ext hW) (by omega) (fun x hx W' _=>putC1_c W' x (hok x hx)) (fun x hx=>by have:=zfL (hok x hx);omega) (by
   have:=zdu hb;rw[za9] at this;omega))
  have e3:(⟨(encL (fN f.length::f.map (fun x=>fT (clB x)))).toArray⟩:ByteArray)=zg clB f:=rfl;rw[e3] at HL;have hpos:=zbf clB f;rw[hb] at HC;rw[show putB true (zg clB f)=zg clB f from rfl,show okZ true=0 from rfl];generalize zg clB f=s at HL hpos⊢;have HFs:=fun W=>HF W s true;rw[if_pos ⟨rfl,hpos⟩,if_pos rfl,if_pos hpos] at HFs;obtain⟨A,c,rfl,_⟩:=zr h;clear h hs hm hb HF hok h64 e3 hpos;go_enter Tryz.func115,Tryz.ntmps115;go_wp2_with fail
  refine(HC.out).mono ?_;rintro e w1 ⟨rfl,x1⟩;have X1:=hid x1;clear x1;go_wp2_with fail
  refine((HL _ X1.out).out).mono ?_;rintro e w2 ⟨rfl,x2⟩;have X2:=hid (X1.out.trans x2);clear x2;go_wp2_with fail
  refine((HFs _).out).mono ?_;rintro e w3 ⟨rfl,x3⟩;have X3:=hid (X2.out.trans x3);clear x3;go_wp2_with fail
  go_ret2;exact⟨rfl,X3.out⟩
theorem sameF_c (w:World) (v:Value) (s r:ByteArray) (e:Int) (HP:∀ W,Ext w W→Hid (Calls Tryz.prog 115 #[v] W (Ret (.tuple #[.string r,.int .i64 e]) W))):Calls Tryz.prog 114 #[v,.string s,.func (.func 115) #[] #[]] w (Ret (.tuple #[if e=0∧r=s then v else .slice none 0 0,.int .i64 (if e=0∧r=s then 0 else 6)]) w):=by
 have key:∀ (y:Value) (z:Int),(e=0∧r=s∧v=y∧z=0∨(e != 0)=true∧.slice none 0 0=y∧z=6∨e=0∧(r.toList==s.toList)=false∧.slice none 0 0=y∧z=6)→Calls Tryz.prog 114 #[v,.string s,.func (.func 115) #[] #[]] w (Ret (.tuple #[y,.int .i64 z]) w):=by
  rintro y z (⟨rfl,rfl,rfl,rfl⟩ | ⟨d0,rfl,rfl⟩ | ⟨rfl,d1,rfl,rfl⟩)
  ·have d0:(r.toList==r.toList)=true:=by simp
   go_enter Tryz.func114,Tryz.ntmps114;go_wp2_with fail
   refine((HP _ (Ext.refl _)).out).mono ?_;rintro en w1 ⟨rfl,x1⟩;have HE1:=hid x1;clear x1 HP;go_wp2_with fail
   go_ret2;exact⟨rfl,HE1.out⟩
  ·go_enter Tryz.func114,Tryz.ntmps114
   go_wp2_with fail
   refine((HP _ (Ext.refl _)).out).mono ?_;rintro en w1 ⟨rfl,x1⟩;have HE1:=hid x1;clear x1 HP;go_wp2_with fail
   go_ret2;exact⟨rfl,HE1.out⟩
  ·go_enter Tryz.func114,Tryz.ntmps114
   go_wp2_with fail
   refine((HP _ (Ext.refl _)).out).mono ?_;rintro en w1 ⟨rfl,x1⟩;have HE1:=hid x1;clear x1 HP;go_wp2_with fail
   go_ret2;exact⟨rfl,HE1.out⟩
 by_cases h0:e=0
 ·by_cases h1:r=s
  ·rw[if_pos ⟨h0,h1⟩,if_pos ⟨h0,h1⟩]
   exact key _ _ (.inl ⟨h0,h1,rfl,rfl⟩)
  ·rw[if_neg (fun h=>h1 h.2),if_neg (fun h=>h1 h.2)]
   exact key _ _ (.inr (.inr ⟨h0,by rw[zag];simp[h1],rfl,rfl⟩))
 ·rw[if_neg (fun h=>h0 h.1),if_neg (fun h=>h0 h.1)]
  exact key _ _ (.inr (.inl ⟨by simp[h0],rfl,rfl⟩))
end
section
open Go.RowKit
def zdy (x:ClauseI):Prop:=x.pre.size≤90000∧(0≤x.lo∧x.lo≤9223372036854775807)∧(0≤x.hi∧x.hi≤9223372036854775807)
theorem zmo {x:ClauseI} (h:ClauseOk x):(clB x).data.toList=lebL x.pre.size++(x.pre.data.toList++(lebL x.lo.toNat++(lebL x.hi.toNat++[]))):=by
 unfold clB;simp only[ByteArray.data_append,Array.toList_append,zu h.lo.1,zu h.hi.1,zV,List.append_assoc,List.append_nil]
theorem cl_back {s s2 s3 s4 t:ByteArray} {e2 e3 e4:Int} {z1 z2:Nat} (r1:zbZ s 0 t s2 e2) (r2:Read s2 e2 z1 s3 e3) (r3:Read s3 e3 z2 s4 e4) (x:ClauseI) (hx:ClauseOk x) (hs:s=clB x):(⟨t,z1,z2⟩:ClauseI)=x∧endK s4 e4=0:=by
 have h2:=hx.lo;have h3:=hx.hi;obtain⟨a1,a2,a3⟩:=r1 x.pre _ rfl (by rw[hs,zmo hx]);obtain⟨b1,b2,b3⟩:=r2 x.lo.toNat _ a3 (by omega) a2;obtain⟨c1,c2,c3⟩:=r3 x.hi.toNat [] b3 (by omega) b2
 constructor
 ·obtain⟨p,lo,hi⟩:=x
  dsimp only at *;rw[a1,show(z1:Int)=lo by omega,show(z2:Int)=hi by omega]
 ·unfold endK
  have:s4.size=0:=by
   have h:s4.data.toList.length=s4.size:=by rw[Array.length_toList];rfl
   rw[←h,c2];rfl
  rw[if_pos c3,if_pos this]
theorem getC1_c (w:World) (s:ByteArray) (hs:s.size≤90000):Calls Tryz.prog 112 #[.string s] w (fun en w'=>∃ (x:ClauseI) (e:Int),en=.returned (.tuple #[.agg #[.string x.pre,.int .i64 x.lo,.int .i64 x.hi],.int .i64 e])∧zdy x∧Ext w w' ∧ ∀ x0:ClauseI,ClauseOk x0→s=clB x0→x=x0∧e=0):=by
 have HO:=fun W=>hid (zbP W s);have HT:=fun W q (s':ByteArray) (e':Int) (h':InAt W q s' e') (hs':s'.size≤90000)=>hid (t_c W q s' e' h' (by omega));have HN:=fun W q (s':ByteArray) (e':Int) (h':InAt W q s' e') (hs':s'.size≤90000)=>hid (n_c W q s' e' h' (by omega));have HEnd:=fun W q (s':ByteArray) (e':Int) (h':InAt W q s' e')=>hid (zeE W q s' e' h');have HR0:=hid (Blk.new w 99 #[.string ⟨#[]⟩,.int .i64 0,.int .i64 0]);have HE0:=hid (Ext.alloc w (.cells #[.string ⟨#[]⟩,.int .i64 0,.int .i64 0] 99));go_enter Tryz.func112,Tryz.ntmps112;go_wp2_with fail
 refine((HO _).out).mono ?_;rintro en w1 ⟨v,rfl,⟨q,rfl,hq,hI⟩,x1⟩;have HI1:=hid hI;have HR1:=hid (HR0.out.ext x1);have HE1:=hid (HE0.out.trans x1);rw[World.size_alloc] at hq;have NR:Hid (¬ w.heap.size=q):=by unfold Hid;omega
 have HQ:=hid hq;clear hI x1 hq HR0 HE0 HO;have HK1:=hid (Keep.of_ext (S:=fun g=>g=q) HE1.out);clear HE1;go_wp2_with fail
 refine((HT _ _ _ _ HI1.out hs).out).mono ?_;rintro en w2 ⟨t,s2,e2,rfl,ht,k2,h2,hs2,r2⟩;have HI2:=hid h2;have HR2:=hid (HR1.out.keep k2 NR.out);have HK2:=hid (HK1.out.trans k2);have R2:=hid r2;have Z2:Hid (t.size≤90000):=by unfold Hid;omega
 clear k2 h2 r2 ht HI1 HR1 HK1;go_wp2_with fail
 refine((HN _ _ _ _ HI2.out (by omega)).out).mono ?_;rintro en w3 ⟨z1,s3,e3,rfl,hz1,k3,h3,hs3,r3⟩;have HI3:=hid h3;have HR3:=hid (HR2.out.keep k3 NR.out);have HK3:=hid (HK2.out.trans k3);have R3:=hid r3;have Z3:=hid hz1;clear k3 h3 r3 hz1 HI2 HR2 HK2;go_wp2_with fail
 refine((HN _ _ _ _ HI3.out (by omega)).out).mono ?_;rintro en w4 ⟨z2,s4,e4,rfl,hz2,k4,h4,hs4,r4⟩;have HI4:=hid (h4.ext (Ext.alloc w4 (.cells #[.string t,.int .i64 z1,.int .i64 z2] 99)));have HR4:=hid ((HR3.out.keep k4 NR.out).alloc (.cells #[.string t,.int .i64 z1,.int .i64 z2] 99));have HU4:=hid (Blk.new w4 99 #[.string t,.int .i64 z1,.int .i64 z2]);have HE4:Hid (Ext w w4):=Ext.of_below ((HK3.out.trans k4).below (Nat.le_refl _) fun k hk=>by have:=HQ.out;omega);have HE5:=hid (HE4.out.alloc' (.cells #[.string t,.int .i64 z1,.int .i64 z2] 99))
 have RB:Hid (∀ x0:ClauseI,ClauseOk x0→s=clB x0→(⟨t,z1,z2⟩:ClauseI)=x0∧endK s4 e4=0):=fun x0 a b=>cl_back R2.out R3.out r4 x0 a b;have HGd:Hid (zdy ⟨t,z1,z2⟩):=by
  have:=Z2.out;have:=Z3.out;exact⟨Z2.out,by show 0≤(z1:Int)∧(z1:Int)≤_;omega,by show 0≤(z2:Int)∧(z2:Int)≤_;omega⟩
 clear k4 h4 r4 hz2 HI3 HR3 HK3 R2 R3 Z2 Z3 HE4 HN HT hs hs2 hs3 hs4;go_wp2_with fail
 generalize w4.alloc (.cells #[.string t,.int .i64 z1,.int .i64 z2] 99)=w5 at HR4 HI4 HU4 HE5⊢;have u0:=HU4.out.cell (i:=0) (v:=.string t) rfl;have u1:=HU4.out.cell (i:=1) (v:=.int .i64 z1) rfl;have u2:=HU4.out.cell (i:=2) (v:=.int .i64 z2) rfl;have ul:=HU4.out.lt;refine zbw (pre:=?pre24) (tl:=?tl24) 3 ?hpre24 ?htl24 (of_decide_eq_true (by kernel_rfl)) (by kernel_rfl) (by kernel_rfl) (by kernel_rfl) (by kernel_rfl) ?_
 case hpre24=>(simp only[List.take_succ_cons,List.take_zero];first | done | exact rfl)
 case htl24=>(simp only[List.drop_succ_cons,List.drop_zero];first | done | exact rfl)
 repeat (first
  | (refine AWq.val rfl rfl rfl rfl (fun K hK=>?_);go_big_quiet_op;refine hK _ ?_;clear hK K)
  | (refine AWq.skip rfl rfl rfl ?_;simp only[Act.put,zq6,zq7,zq8])
  | (refine AWq.call rfl Tryz.func113 (by kernel_rfl) (by kernel_rfl) rfl rfl rfl ?_;apply Exists.intro;refine And.intro (fun wc hc=>?_) ?_;(· (simp only[zh,zm,↓reduceIte,Nat.reduceEqDiff,zq1,zq2,zq3,zq4,zq5];with_reducible exact(HEnd _ _ _ _ (HI4.out.ext hc)).out));simp only[Act.put,zq6,zq7,zq8]))
 refine AWq.tail rfl rfl rfl (fun w6 x6=>?_);simp only[zl,Act.put,zq6,zq7,zq8];clear u0 u1 u2 ul;have HR6:=hid (HR4.out.ext x6);have HE6:=hid (HE5.out.trans x6);have r0:=HR6.out.cell (i:=0) (v:=.string ⟨#[]⟩) rfl;have r1:=HR6.out.cell (i:=1) (v:=.int .i64 0) rfl;have r2:=HR6.out.cell (i:=2) (v:=.int .i64 0) rfl;have q0:=HR6.out.frozen 0;have q1:=HR6.out.frozen 1;have q2:=HR6.out.frozen 2;have rl:=HR6.out.lt;clear HU4 HI4 HR4 HE5 x6 HEnd;go_wp2_with fail
 have HF:Hid (Blk _ w.heap.size 99 #[.string t,.int .i64 z1,.int .i64 z2]):=((HR6.out.set 0 (.string t)).set 1 (.int .i64 z1)).set 2 (.int .i64 z2);refine bodyPost_ret (zi rfl _ _ w.heap.size 99 _ (0,0) _ rfl HF.out Tryz.underlying99 rfl (show(Tryz.prog.info? 99).map (·.size)=some 3 by kernel_rfl)) rfl ?_;exact⟨⟨t,z1,z2⟩,endK s4 e4,rfl,HGd.out,((HE6.out.setCell' (p:=⟨w.heap.size,0,none⟩) (Nat.le_refl _) _).setCell' (p:=⟨w.heap.size,1,none⟩) (Nat.le_refl _) _).setCell' (p:=⟨w.heap.size,2,none⟩) (Nat.le_refl _) _,RB.out⟩
theorem cl_info:(Tryz.prog.info? 99).map (fun i=>(i.zero,i.size,i.bytes))=some (some (.agg #[.string ⟨#[]⟩,.int .i64 0,.int .i64 0]),3,32):=by kernel_rfl
theorem cl_elem:Elem Tryz.prog 25 99 3 32:=by
 obtain⟨i0,h0,h1,h2,h3⟩:=info_parts cl_info;exact⟨Tryz.underlying25,i0,_,h0,h1,h2,h3,rfl⟩
end
section
open Go.RowKit
theorem zlE (w:World) (s:ByteArray) (hs:s.size≤90000) (enc:ClauseI→ByteArray) (ok:ClauseI→Prop) (hone:∀ W t,t.size≤s.size→Ext w W→Calls Tryz.prog 112 #[.string t] W (fun en w'=>∃ (x:ClauseI) (e:Int),en=.returned (.tuple #[.agg #[.string x.pre,.int .i64 x.lo,.int .i64 x.hi],.int .i64 e])∧zdy x∧Ext W w' ∧ ∀ x0,ok x0→t=enc x0→x=x0∧e=0)):Calls Tryz.prog 111 #[.string s,.func (.func 112) #[] #[]] w (fun en w'=>∃ (v:Value) (b:Bool) (l:List ClauseI),en=.returned (.tuple #[v,.bool b])∧RowAt ClauseI.cells 3 l v w'∧l.length≤s.size∧(∀ x∈l,zdy x)∧Ext w w'∧(∀ l0:List ClauseI,(∀ x∈l0,ok x)→l0.length≤90000→s=zg enc l0→l=l0)∧w'.ownsRow w.heap.size 99 3 v l.length (l.map ClauseI.cells).flatten):=by
 have HO:=fun W=>hid (zbP W s);have HN:=fun W q (h':InAt W q s 0)=>hid (n_c W q s 0 h' (by omega));have HT:=fun W q (s':ByteArray) (e':Int) (h':InAt W q s' e') (hs':s'.size≤s.size)=>hid (t_c W q s' e' h' (by omega));have HEnd:=fun W q (s':ByteArray) (e':Int) (h':InAt W q s' e')=>hid (zeE W q s' e' h');have HOne:=hid hone;clear hone;go_enter Tryz.func111,Tryz.ntmps111;go_wp2_with fail
 refine((HO _).out).mono ?_;rintro en w1 ⟨v,rfl,⟨q,rfl,hq,hI⟩,x1⟩;have HI1:=hid hI;have HE1:=hid x1;have HQ:=hid hq;clear hI x1 hq HO;go_wp2_with fail
 refine((HN _ _ HI1.out).out).mono ?_;rintro en w2 ⟨n,s2,e2,rfl,hn,k2,h2,hs2,r2⟩;have HI2:=hid h2;have HE2:Hid (Ext w w2):=Ext.of_below (((Keep.of_ext (S:=fun g=>g=q) HE1.out).trans k2).below (Nat.le_refl _) fun k hk=>by have:=HQ.out;omega);have HS2:=hid hs2;have HB:Hid (∀ l0:List ClauseI,s=zg enc l0→l0.length≤90000→n=l0.length∧l0.length≤s.size∧s2.data.toList=encL (l0.map (fun x=>fT (enc x)))∧e2=0):=fun l0 a0 a1=>by
  have a2:s.data.toList=lebL l0.length++encL (l0.map (fun x=>fT (enc x))):=by
   rw[a0]
   show encL (fN l0.length::l0.map (fun x=>fT (enc x)))=_
   rw[zah];rfl
  obtain⟨b1,b2,b3⟩:=r2 l0.length _ rfl (by omega) a2;refine⟨b1,?_,b2,b3⟩;have c1:s.data.toList.length=s.size:=by rw[Array.length_toList];rfl
  rw[a2,List.length_append] at c1;have:=zdW enc l0;omega
 clear k2 h2 r2 hs2 HI1 HE1 HN;by_cases hbig:(s.size:Int)<n
 ·have d0:decide ((s.size:Int)<n)=true:=decide_eq_true hbig
  have d0':decide (s.size<n)=true:=decide_eq_true (by omega);have HD:Hid (∀ l0:List ClauseI,(∀ x∈l0,ok x)→l0.length≤90000→s=zg enc l0→[]=l0):=fun l0 _ a1 a2=>by
   obtain⟨b1,b2,_⟩:=HB.out l0 a2 a1
   exfalso;omega
  clear hbig HB HT HEnd HOne;go_wp2_with fail
  go_ret2;exact⟨_,_,[],rfl,RowAt.nil _,Nat.zero_le _,fun x hx=>(by cases hx),HE2.out,HD.out,zp _ _ _ _⟩
 ·have d0:decide ((s.size:Int)<n)=false:=decide_eq_false hbig
  have d0':decide (s.size<n)=false:=decide_eq_false (by omega);have hn9:n≤s.size:=by omega
  clear hbig hn;go_wp2_with fail
  go_loopw [8,20] (fun s8 s20 wr=>∃ (k:Nat) (ov:Value) (l:List ClauseI) (s':ByteArray) (e':Int),ov=s8∧k≤n∧s20=.int .i64 k∧l.length=k∧Hid (Ext w wr)∧Hid (InAt wr q s' e')∧Hid (s'.size≤s.size)∧Hid (∀ x∈l,zdy x)∧Hid (l.length=0→s8=.slice none 0 0)∧Hid (wr.ownsRow (q+1) 99 3 s8 l.length (l.map ClauseI.cells).flatten)∧Hid (∀ l0:List ClauseI,(∀ x∈l0,ok x)→s=zg enc l0→l0.length≤90000→n=l0.length∧l=l0.take k∧s'.data.toList=encL ((l0.drop k).map (fun x=>fT (enc x)))∧e'=0)) (fun _ s20 _=>n-(intOf s20).toNat)
  case atStart=>exact⟨0,_,[],s2,e2,rfl,by omega,rfl,rfl,HE2,HI2,HS2,fun x hx=>(by cases hx),fun _=>rfl,zp _ _ _ _,fun l0 a0 a1 a2=>by
   obtain⟨b1,b2,b3,b4⟩:=HB.out l0 a1 a2;exact⟨b1,rfl,b3,b4⟩⟩
  case round=>
   obtain⟨k,s8,l,s',e',rfl,hk,rfl,hlen,hE,hI,hS,hG,hZ,hO,hB⟩:=hrel;clear HE2 HI2 HS2 HB;by_cases hlt:k<n
   ·have d1:decide ((k:Int)<n)=true:=decide_eq_true (by omega)
    have d1':decide (k<n)=true:=decide_eq_true hlt;have hn9':=hid hn9;have hln:=hid hlen;have hlt':=hid hlt;clear hlen hlt;go_wp2_with fail
    refine((HT _ _ _ _ hI.out hS.out).out).mono ?_;rintro en w3 ⟨t,s3,e3,rfl,ht,k3,h3,hs3,r3⟩;have hI3:=hid h3;have hE3:Hid (Ext w w3):=Ext.of_below (((Keep.of_ext (S:=fun g=>g=q) hE.out).trans k3).below (Nat.le_refl _) fun k hk=>by have:=HQ.out;omega);have hO3:Hid (w3.ownsRow (q+1) 99 3 s8 l.length (l.map ClauseI.cells).flatten):=zdG hO.out k3 (fun g hg=>by omega);have hS3:Hid (s3.size≤s.size):=by have:=hS.out;unfold Hid;omega
    have HCall:=HOne.out w3 t (by have:=hS.out;omega) hE3.out;have R3:=hid r3;clear k3 h3 hs3 r3 ht hI hE hO hS;go_wp2_with fail
    refine HCall.mono ?_;rintro en w4 ⟨x,e,rfl,hg,x4,hb⟩;have hI4:=hid (hI3.out.ext (x4.trans (Ext.alloc w4 (.cells #[.string x.pre,.int .i64 x.lo,.int .i64 x.hi] 99))));have hE4:=hid (hE3.out.trans (x4.trans (Ext.alloc w4 (.cells #[.string x.pre,.int .i64 x.lo,.int .i64 x.hi] 99))));have hO4:=hid (zw hO3.out (x4.trans (Ext.alloc w4 (.cells #[.string x.pre,.int .i64 x.lo,.int .i64 x.hi] 99))));have hW4:=hid (Blk.new w4 99 #[.string x.pre,.int .i64 x.lo,.int .i64 x.hi])
    have hB4:Hid (∀ l0:List ClauseI,(∀ x∈l0,ok x)→s=zg enc l0→l0.length≤90000→e=0∧n=l0.length∧l++[x]=l0.take (k+1)∧s3.data.toList=encL ((l0.drop (k+1)).map (fun x=>fT (enc x)))∧e3=0):=fun l0 a0 a1 a2=>by
     obtain⟨b1,b2,b3,b4⟩:=hB.out l0 a0 a1 a2;have hlt:=hlt'.out;have hkl:k<l0.length:=by omega
     rw[List.drop_eq_getElem_cons hkl,List.map_cons,zah] at b3;have b3':s'.data.toList=lebL (enc l0[k]).size++((enc l0[k]).data.toList++encL ((l0.drop (k+1)).map (fun x=>fT (enc x)))):=by
      rw[b3]
      show(lebL (enc l0[k]).size++(enc l0[k]).data.toList)++_=_
      rw[List.append_assoc]
     obtain⟨c1,c2,c3⟩:=R3.out _ _ b4 b3';obtain⟨f1,f2⟩:=hb l0[k] (a0 _ (List.getElem_mem hkl)) c1;refine⟨f2,b1,?_,c2,c3⟩;rw[List.take_succ_eq_append_getElem hkl,←b2,f1]
    have hG4:Hid (∀ y∈l++[x],zdy y):=fun y hy=>by
     rcases List.mem_append.1 hy with hy | hy
     ·exact hG.out y hy
     ·rw[List.mem_singleton.1 hy];exact hg
    clear hb hB R3 hI3 hE3 hO3 HCall hg hG;by_cases h0:e=0
    ·have d2:(e != 0)=false:=by simp[h0]
     clear h0;obtain⟨v',w6,hrun6,ho6,hk6,_⟩:=zaJ (P:=Tryz.prog) cl_elem clause_coded hO4.out (Nat.succ_le_of_lt hI4.out.lt) x (by have:=hn9'.out;have:=hln.out;omega) (by omega);simp only[ClauseI.cells,World.size_alloc] at hrun6;have HE6:=hid (hk6.toExt hE4.out (fun g hg=>Nat.le_trans HQ.out (Nat.le_of_lt (zt hO4.out g hg).1)));have HI6:Hid (InAt w6 q s3 e3):=Blk.keep hI4.out hk6 (fun h=>by have:=(zt hO4.out q h).1;omega);have HO6:=hid ho6;clear ho6 hk6 hI4 hE4 hO4 x4;go_wp2_with (at_builtin;refine zx rfl (.tmp 31) (.tmp 33) _ _ rfl rfl rfl hrun6 ?_)
     go_roundw
     case rel=>exact⟨k+1,_,l++[x],s3,e3,rfl,by have:=hlt'.out;omega,by go_num,by rw[List.length_append,hln.out];rfl,HE6,HI6,hS3,hG4,fun h=>by simp at h,HO6,fun l0 a0 a1 a2=>(hB4.out l0 a0 a1 a2).2⟩
     case measure=>simp[intOf];have:=hlt'.out;omega
    ·have d2:(e != 0)=true:=by simp[h0]
     have HD:Hid (∀ l0:List ClauseI,(∀ x∈l0,ok x)→l0.length≤90000→s=zg enc l0→[]=l0):=fun l0 a0 a1 a2=>absurd (hB4.out l0 a0 a2 a1).1 h0;clear h0 hB4 hI4 hO4 hG4;go_wp2_with fail
     go_ret2;exact⟨_,_,[],rfl,RowAt.nil _,Nat.zero_le _,fun x hx=>(by cases hx),hE4.out,HD.out,zp _ _ _ _⟩
   ·obtain rfl:k=n:=by omega
    have hrow:=hid (RowAt.of_row clause_coded hO.out hZ.out);have hO8:=hid (zY hO.out (Nat.le_succ_of_le HQ.out));have HD:Hid (∀ l0:List ClauseI,(∀ x∈l0,ok x)→l0.length≤90000→s=zg enc l0→l=l0):=fun l0 a0 a1 a2=>by
     obtain⟨b1,b2,_⟩:=hB.out l0 a0 a2 a1;rw[b2,b1,List.take_length]
    have HL:Hid (l.length≤s.size):=by unfold Hid;omega
    clear hB hO hZ HT HOne hlen hlt hk hn9;go_wp2_with fail
    refine((HEnd _ _ _ _ hI.out).out).mono ?_;rintro en w7 ⟨rfl,x7⟩;have hrow7:=hid (hrow.out.ext x7);have hO7:=hid (zw hO8.out x7);have hE7:=hid (hE.out.trans x7);clear hrow hE hI x7 HEnd;go_wp2_with fail
    go_ret2;exact⟨_,_,l,rfl,hrow7.out,HL.out,hG.out,hE7.out,HD.out,hO7.out⟩
end
end Go.Proofs.YtofjpdgojoppbaaGreatDoor
