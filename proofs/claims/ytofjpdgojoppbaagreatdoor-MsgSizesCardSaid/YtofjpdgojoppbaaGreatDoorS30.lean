/-
  Of the claim's proof: LbU, LbV, LbW.
-/
import Derived.Test.YtofjpdgojoppbaaGreatDoorS01
import Derived.Test.YtofjpdgojoppbaaGreatDoorS05
import Derived.Test.YtofjpdgojoppbaaGreatDoorS08
import Derived.Test.YtofjpdgojoppbaaGreatDoorS14
set_option maxRecDepth 100000
set_option maxHeartbeats 16000000
set_option linter.unusedVariables false
set_option linter.unusedSimpArgs false
namespace Go.Proofs.YtofjpdgojoppbaaGreatDoor
section
open Go.RowKit
theorem zbl {z:Int} (h:in64 z):z.toNat<9223372036854775808:=by have:=h.2;omega
theorem zgm (b:Bool) {z:Nat} (h:z=(zao b).toNat):((z:Int)==1)=b:=by subst h;cases b <;> rfl
theorem zlg {s s1 s2 s3 s4 s5 s6 t1 t2:ByteArray} {e1 e2 e3 e4 e5 e6:Int} {z1 z2 z3 z4 z5 z6:Nat} (r1:zeG s 0 z1 z2 s1 e1) (r2:zeG s1 e1 z3 z4 s2 e2) (r3:Read s2 e2 z5 s3 e3) (r4:zbZ s3 e3 t1 s4 e4) (r5:zbZ s4 e4 t2 s5 e5) (r6:Read s5 e5 z6 s6 e6) (u:UpdI) (hi:u.in64) (hu:Rightful u) (hs:s=updB u):(⟨⟨z1,z2⟩,⟨⟨z3,z4⟩,z5⟩,t1,t2,(z6:Int)==1⟩:UpdI)=u:=by
 obtain⟨i1,i2,i3,i4,i5⟩:=hi;have hl:s.data.toList=lebL u.item.by_.toNat++(lebL u.item.n.toNat++(lebL u.st.v.by_.toNat++(lebL u.st.v.n.toNat++(lebL u.st.time.toNat++(lebL u.p.size++(u.p.data.toList++(lebL u.d.size++(u.d.data.toList++(lebL (zao u.dead).toNat++[]))))))))):=by
  rw[hs];unfold updB verB;simp only[ByteArray.data_append,Array.toList_append,zu hu.b0,zu hu.n0,zu hu.b1,zu hu.n1,zu hu.t0,zV,zdh,List.append_assoc,List.append_nil]
 have hf:=zdU u.dead;obtain⟨a1,a2,a3,a4⟩:=r1 _ _ _ rfl (zbl i1) (zbl i2) hl;obtain⟨b1,b2,b3,b4⟩:=r2 _ _ _ a4 (zbl i3) (zbl i4) a3;obtain⟨c1,c2,c3⟩:=r3 _ _ b4 (zbl i5) b3;obtain⟨d1,d2,d3⟩:=r4 _ _ c3 c2;obtain⟨f1,f2,f3⟩:=r5 _ _ d3 d2;obtain⟨g1,_,_⟩:=r6 _ _ f3 (by omega) f2;have:=hu.b0;have:=hu.n0;have:=hu.b1;have:=hu.n1;have:=hu.t0;obtain⟨⟨ub,un⟩,⟨⟨sb,sn⟩,tm⟩,p,d,dead⟩:=u;dsimp only at *;rw[zgm dead g1,d1,f1,show(z1:Int)=ub by omega,show(z2:Int)=un by omega,show(z3:Int)=sb by omega,show(z4:Int)=sn by omega,show(z5:Int)=tm by omega]
theorem zlS {s s1 s2 s3 s4 s5 s6 t1:ByteArray} {e1 e2 e3 e4 e5 e6:Int} {z1 z2 z3 z4 z5 z6 z7:Nat} (r1:zeG s 0 z1 z2 s1 e1) (r2:zeG s1 e1 z3 z4 s2 e2) (r3:Read s2 e2 z5 s3 e3) (r4:zbZ s3 e3 t1 s4 e4) (r5:Read s4 e4 z7 s5 e5) (r6:Read s5 e5 z6 s6 e6) (u:MetaI) (hi:u.in64) (hu:RightfulM u) (hs:s=metB u):(⟨⟨z1,z2⟩,⟨⟨z3,z4⟩,z5⟩,t1,z7,(z6:Int)==1⟩:MetaI)=u:=by
 obtain⟨i1,i2,i3,i4,i5⟩:=hi;have hl:s.data.toList=lebL u.item.by_.toNat++(lebL u.item.n.toNat++(lebL u.st.v.by_.toNat++(lebL u.st.v.n.toNat++(lebL u.st.time.toNat++(lebL u.p.size++(u.p.data.toList++(lebL u.size.toNat++(lebL (zao u.dead).toNat++[])))))))):=by
  rw[hs];unfold metB verB;simp only[ByteArray.data_append,Array.toList_append,zu hu.b0,zu hu.n0,zu hu.b1,zu hu.n1,zu hu.t0,zu hu.d.1,zV,zdh,List.append_assoc,List.append_nil]
 have hf:=zdU u.dead;obtain⟨a1,a2,a3,a4⟩:=r1 _ _ _ rfl (zbl i1) (zbl i2) hl;obtain⟨b1,b2,b3,b4⟩:=r2 _ _ _ a4 (zbl i3) (zbl i4) a3;obtain⟨c1,c2,c3⟩:=r3 _ _ b4 (zbl i5) b3;obtain⟨d1,d2,d3⟩:=r4 _ _ c3 c2;obtain⟨f1,f2,f3⟩:=r5 _ _ d3 (by have:=hu.d;omega) d2;obtain⟨g1,_,_⟩:=r6 _ _ f3 (by omega) f2;have:=hu.b0;have:=hu.n0;have:=hu.b1;have:=hu.n1;have:=hu.t0;have:=hu.d;obtain⟨⟨ub,un⟩,⟨⟨sb,sn⟩,tm⟩,p,sz,dead⟩:=u;dsimp only at *
 rw[zgm dead g1,d1,show(z1:Int)=ub by omega,show(z2:Int)=un by omega,show(z3:Int)=sb by omega,show(z4:Int)=sn by omega,show(z5:Int)=tm by omega,show(z7:Int)=sz by omega]
end
section
open Go.RowKit
def met0:MetaI:=⟨⟨0,0⟩,⟨⟨0,0⟩,0⟩,⟨#[]⟩,0,false⟩
theorem zcw:(Tryz.prog.info? 55).map (·.size)=some 8:=by kernel_rfl
theorem zcC:(Tryz.prog.info? 57).map (·.size)=some 8:=by kernel_rfl
attribute [-simp] Tryz.isAgg55 Tryz.sizeOf55
theorem sameU_x (w:World) (X:Array Value) (hX:X.size=8) (hX1:X.all (·.oneCell')=true) (s r:ByteArray) (e:Int) (HP:∀ W,Ext w W→Hid (Calls Tryz.prog 92 #[.agg X] W (Ret (.tuple #[.string r,.int .i64 e]) W))):Calls Tryz.prog 158 #[.agg X,.string s,.func (.func 92) #[] #[]] w (Ret (.tuple #[.agg (if e=0∧r=s then X else(#[.int .i64 0,.int .i64 0,.int .i64 0,.int .i64 0,.int .i64 0,.string ⟨#[]⟩,.string ⟨#[]⟩,.bool false]:Array Value)),.int .i64 (if e=0∧r=s then 0 else 6)]) w):=by
 obtain⟨Z,hZ⟩:∃ Z:Array Value,(#[.int .i64 0,.int .i64 0,.int .i64 0,.int .i64 0,.int .i64 0,.string ⟨#[]⟩,.string ⟨#[]⟩,.bool false]:Array Value)=Z:=⟨_,rfl⟩
 have HX:=hid (((Blk.new w 55 X).alloc (.cells Z 55)).alloc (.cells Z 55));have HR:=hid ((Blk.new (w.alloc (.cells X 55)) 55 Z).alloc (.cells Z 55));have HN:=hid (Blk.new ((w.alloc (.cells X 55)).alloc (.cells Z 55)) 55 Z);simp only[World.size_alloc] at HR HN;have HE:=hid (((Ext.alloc w (.cells X 55)).alloc' (.cells Z 55)).alloc' (.cells Z 55));have HhX:=hid hX;have HhO:=hid hX1;have HZ:=hid (show Z.size=8 by rw[←hZ];rfl);have HZ1:=hid (show Z.all (·.oneCell')=true by rw[←hZ];kernel_rfl);clear hX hX1;rw[hZ]
 have key:∀ (y:Array Value) (z:Int),(e=0∧r=s∧X=y∧z=0∨(e != 0)=true∧Z=y∧z=6∨e=0∧(r.toList==s.toList)=false∧Z=y∧z=6)→Calls Tryz.prog 158 #[.agg X,.string s,.func (.func 92) #[] #[]] w (Ret (.tuple #[.agg y,.int .i64 z]) w):=by
  rintro y z (⟨rfl,rfl,rfl,rfl⟩ | ⟨d0,rfl,rfl⟩ | ⟨rfl,d1,rfl,rfl⟩)
  ·have d0:(r.toList==r.toList)=true:=by simp
   go_enter Tryz.func158,Tryz.ntmps158;go_wp2_with fail
   clear hZ;generalize ((w.alloc (.cells _ 55)).alloc (.cells Z 55)).alloc (.cells Z 55)=w0 at HX HR HN HE⊢;simp only[Tryz.isAgg55,Tryz.sizeOf55,Result.andThen,↓reduceIte,za HX.out 8 HhX.out];rw[Oper.upon_value];go_wp2_with fail
   refine((HP _ HE.out).out).mono ?_;rintro en w1 ⟨rfl,x1⟩;have HX1:=hid (HX.out.ext x1);have HR1:=hid (HR.out.ext x1);have HN1:=hid (HN.out.ext x1);have HE1:=hid (HE.out.trans x1);clear x1 HX HR HN HE HP;go_wp2_with fail
   simp only[Tryz.isAgg55,Tryz.sizeOf55,Result.andThen,↓reduceIte,za HX1.out 8 HhX.out];rw[Oper.upon_value];go_wp2_with fail
   simp only[Tryz.sizeOf55,Result.andThen,↓reduceIte,zb HR1.out (by rw[HhX.out];exact zcw) (by first | rfl | rw[HhX.out,HZ.out] | rw[HZ.out,HhX.out]) HhO.out,HhX.out];rw[Oper.upon_skip];go_wp2_with fail
   have HF:=hid (HR1.out.setRow X);exact bodyPost_ret (zi rfl _ _ (w.heap.size+1) 55 _ (0,0) _ rfl HF.out Tryz.underlying55 rfl (by rw[HhX.out];exact zcw)) rfl ⟨rfl,Ext.setRow HE1.out (by omega) _⟩
  ·go_enter Tryz.func158,Tryz.ntmps158
   go_wp2_with fail
   clear hZ;generalize ((w.alloc (.cells _ 55)).alloc (.cells Z 55)).alloc (.cells Z 55)=w0 at HX HR HN HE⊢;simp only[Tryz.isAgg55,Tryz.sizeOf55,Result.andThen,↓reduceIte,za HX.out 8 HhX.out];rw[Oper.upon_value];go_wp2_with fail
   refine((HP _ HE.out).out).mono ?_;rintro en w1 ⟨rfl,x1⟩;have HX1:=hid (HX.out.ext x1);have HR1:=hid (HR.out.ext x1);have HN1:=hid (HN.out.ext x1);have HE1:=hid (HE.out.trans x1);clear x1 HX HR HN HE HP;go_wp2_with fail
   simp only[Tryz.isAgg55,Tryz.sizeOf55,Result.andThen,↓reduceIte,za HN1.out 8 HZ.out];rw[Oper.upon_value];go_wp2_with fail
   simp only[Tryz.sizeOf55,Result.andThen,↓reduceIte,zb HR1.out (by rw[HZ.out];exact zcw) (by first | rfl | rw[HZ.out,HZ.out] | rw[HZ.out,HZ.out]) HZ1.out,HZ.out];rw[Oper.upon_skip];go_wp2_with fail
   have HF:=hid (HR1.out.setRow Z);exact bodyPost_ret (zi rfl _ _ (w.heap.size+1) 55 _ (0,0) _ rfl HF.out Tryz.underlying55 rfl (by rw[HZ.out];exact zcw)) rfl ⟨rfl,Ext.setRow HE1.out (by omega) _⟩
  ·go_enter Tryz.func158,Tryz.ntmps158
   go_wp2_with fail
   clear hZ;generalize ((w.alloc (.cells _ 55)).alloc (.cells Z 55)).alloc (.cells Z 55)=w0 at HX HR HN HE⊢;simp only[Tryz.isAgg55,Tryz.sizeOf55,Result.andThen,↓reduceIte,za HX.out 8 HhX.out];rw[Oper.upon_value];go_wp2_with fail
   refine((HP _ HE.out).out).mono ?_;rintro en w1 ⟨rfl,x1⟩;have HX1:=hid (HX.out.ext x1);have HR1:=hid (HR.out.ext x1);have HN1:=hid (HN.out.ext x1);have HE1:=hid (HE.out.trans x1);clear x1 HX HR HN HE HP;go_wp2_with fail
   simp only[Tryz.isAgg55,Tryz.sizeOf55,Result.andThen,↓reduceIte,za HN1.out 8 HZ.out];rw[Oper.upon_value];go_wp2_with fail
   simp only[Tryz.sizeOf55,Result.andThen,↓reduceIte,zb HR1.out (by rw[HZ.out];exact zcw) (by first | rfl | rw[HZ.out,HZ.out] | rw[HZ.out,HZ.out]) HZ1.out,HZ.out];rw[Oper.upon_skip];go_wp2_with fail
   have HF:=hid (HR1.out.setRow Z);exact bodyPost_ret (zi rfl _ _ (w.heap.size+1) 55 _ (0,0) _ rfl HF.out Tryz.underlying55 rfl (by rw[HZ.out];exact zcw)) rfl ⟨rfl,Ext.setRow HE1.out (by omega) _⟩
 by_cases h0:e=0
 ·by_cases h1:r=s
  ·rw[if_pos ⟨h0,h1⟩,if_pos ⟨h0,h1⟩]
   exact key _ _ (.inl ⟨h0,h1,rfl,rfl⟩)
  ·rw[if_neg (fun h=>h1 h.2),if_neg (fun h=>h1 h.2)]
   exact key _ _ (.inr (.inr ⟨h0,by rw[zag];simp[h1],rfl,rfl⟩))
 ·rw[if_neg (fun h=>h0 h.1),if_neg (fun h=>h0 h.1)]
  exact key _ _ (.inr (.inl ⟨by simp[h0],rfl,rfl⟩))
attribute [-simp] Tryz.isAgg57 Tryz.sizeOf57
theorem sameM_x (w:World) (X:Array Value) (hX:X.size=8) (hX1:X.all (·.oneCell')=true) (s r:ByteArray) (e:Int) (HP:∀ W,Ext w W→Hid (Calls Tryz.prog 93 #[.agg X] W (Ret (.tuple #[.string r,.int .i64 e]) W))):Calls Tryz.prog 159 #[.agg X,.string s,.func (.func 93) #[] #[]] w (Ret (.tuple #[.agg (if e=0∧r=s then X else(#[.int .i64 0,.int .i64 0,.int .i64 0,.int .i64 0,.int .i64 0,.string ⟨#[]⟩,.int .i64 0,.bool false]:Array Value)),.int .i64 (if e=0∧r=s then 0 else 6)]) w):=by
 obtain⟨Z,hZ⟩:∃ Z:Array Value,(#[.int .i64 0,.int .i64 0,.int .i64 0,.int .i64 0,.int .i64 0,.string ⟨#[]⟩,.int .i64 0,.bool false]:Array Value)=Z:=⟨_,rfl⟩
 have HX:=hid (((Blk.new w 57 X).alloc (.cells Z 57)).alloc (.cells Z 57));have HR:=hid ((Blk.new (w.alloc (.cells X 57)) 57 Z).alloc (.cells Z 57));have HN:=hid (Blk.new ((w.alloc (.cells X 57)).alloc (.cells Z 57)) 57 Z);simp only[World.size_alloc] at HR HN;have HE:=hid (((Ext.alloc w (.cells X 57)).alloc' (.cells Z 57)).alloc' (.cells Z 57));have HhX:=hid hX;have HhO:=hid hX1;have HZ:=hid (show Z.size=8 by rw[←hZ];rfl);have HZ1:=hid (show Z.all (·.oneCell')=true by rw[←hZ];kernel_rfl);clear hX hX1;rw[hZ]
 have key:∀ (y:Array Value) (z:Int),(e=0∧r=s∧X=y∧z=0∨(e != 0)=true∧Z=y∧z=6∨e=0∧(r.toList==s.toList)=false∧Z=y∧z=6)→Calls Tryz.prog 159 #[.agg X,.string s,.func (.func 93) #[] #[]] w (Ret (.tuple #[.agg y,.int .i64 z]) w):=by
  rintro y z (⟨rfl,rfl,rfl,rfl⟩ | ⟨d0,rfl,rfl⟩ | ⟨rfl,d1,rfl,rfl⟩)
  ·have d0:(r.toList==r.toList)=true:=by simp
   go_enter Tryz.func159,Tryz.ntmps159;go_wp2_with fail
   clear hZ;generalize ((w.alloc (.cells _ 57)).alloc (.cells Z 57)).alloc (.cells Z 57)=w0 at HX HR HN HE⊢;simp only[Tryz.isAgg57,Tryz.sizeOf57,Result.andThen,↓reduceIte,za HX.out 8 HhX.out];rw[Oper.upon_value];go_wp2_with fail
   refine((HP _ HE.out).out).mono ?_;rintro en w1 ⟨rfl,x1⟩;have HX1:=hid (HX.out.ext x1);have HR1:=hid (HR.out.ext x1);have HN1:=hid (HN.out.ext x1);have HE1:=hid (HE.out.trans x1);clear x1 HX HR HN HE HP;go_wp2_with fail
   simp only[Tryz.isAgg57,Tryz.sizeOf57,Result.andThen,↓reduceIte,za HX1.out 8 HhX.out];rw[Oper.upon_value];go_wp2_with fail
   simp only[Tryz.sizeOf57,Result.andThen,↓reduceIte,zb HR1.out (by rw[HhX.out];exact zcC) (by first | rfl | rw[HhX.out,HZ.out] | rw[HZ.out,HhX.out]) HhO.out,HhX.out];rw[Oper.upon_skip];go_wp2_with fail
   have HF:=hid (HR1.out.setRow X);exact bodyPost_ret (zi rfl _ _ (w.heap.size+1) 57 _ (0,0) _ rfl HF.out Tryz.underlying57 rfl (by rw[HhX.out];exact zcC)) rfl ⟨rfl,Ext.setRow HE1.out (by omega) _⟩
  ·go_enter Tryz.func159,Tryz.ntmps159
   go_wp2_with fail
   clear hZ;generalize ((w.alloc (.cells _ 57)).alloc (.cells Z 57)).alloc (.cells Z 57)=w0 at HX HR HN HE⊢;simp only[Tryz.isAgg57,Tryz.sizeOf57,Result.andThen,↓reduceIte,za HX.out 8 HhX.out];rw[Oper.upon_value];go_wp2_with fail
   refine((HP _ HE.out).out).mono ?_;rintro en w1 ⟨rfl,x1⟩;have HX1:=hid (HX.out.ext x1);have HR1:=hid (HR.out.ext x1);have HN1:=hid (HN.out.ext x1);have HE1:=hid (HE.out.trans x1);clear x1 HX HR HN HE HP;go_wp2_with fail
   simp only[Tryz.isAgg57,Tryz.sizeOf57,Result.andThen,↓reduceIte,za HN1.out 8 HZ.out];rw[Oper.upon_value];go_wp2_with fail
   simp only[Tryz.sizeOf57,Result.andThen,↓reduceIte,zb HR1.out (by rw[HZ.out];exact zcC) (by first | rfl | rw[HZ.out,HZ.out] | rw[HZ.out,HZ.out]) HZ1.out,HZ.out];rw[Oper.upon_skip];go_wp2_with fail
   have HF:=hid (HR1.out.setRow Z);exact bodyPost_ret (zi rfl _ _ (w.heap.size+1) 57 _ (0,0) _ rfl HF.out Tryz.underlying57 rfl (by rw[HZ.out];exact zcC)) rfl ⟨rfl,Ext.setRow HE1.out (by omega) _⟩
  ·go_enter Tryz.func159,Tryz.ntmps159
   go_wp2_with fail
   clear hZ;generalize ((w.alloc (.cells _ 57)).alloc (.cells Z 57)).alloc (.cells Z 57)=w0 at HX HR HN HE⊢;simp only[Tryz.isAgg57,Tryz.sizeOf57,Result.andThen,↓reduceIte,za HX.out 8 HhX.out];rw[Oper.upon_value];go_wp2_with fail
   refine((HP _ HE.out).out).mono ?_;rintro en w1 ⟨rfl,x1⟩;have HX1:=hid (HX.out.ext x1);have HR1:=hid (HR.out.ext x1);have HN1:=hid (HN.out.ext x1);have HE1:=hid (HE.out.trans x1);clear x1 HX HR HN HE HP;go_wp2_with fail
   simp only[Tryz.isAgg57,Tryz.sizeOf57,Result.andThen,↓reduceIte,za HN1.out 8 HZ.out];rw[Oper.upon_value];go_wp2_with fail
   simp only[Tryz.sizeOf57,Result.andThen,↓reduceIte,zb HR1.out (by rw[HZ.out];exact zcC) (by first | rfl | rw[HZ.out,HZ.out] | rw[HZ.out,HZ.out]) HZ1.out,HZ.out];rw[Oper.upon_skip];go_wp2_with fail
   have HF:=hid (HR1.out.setRow Z);exact bodyPost_ret (zi rfl _ _ (w.heap.size+1) 57 _ (0,0) _ rfl HF.out Tryz.underlying57 rfl (by rw[HZ.out];exact zcC)) rfl ⟨rfl,Ext.setRow HE1.out (by omega) _⟩
 by_cases h0:e=0
 ·by_cases h1:r=s
  ·rw[if_pos ⟨h0,h1⟩,if_pos ⟨h0,h1⟩]
   exact key _ _ (.inl ⟨h0,h1,rfl,rfl⟩)
  ·rw[if_neg (fun h=>h1 h.2),if_neg (fun h=>h1 h.2)]
   exact key _ _ (.inr (.inr ⟨h0,by rw[zag];simp[h1],rfl,rfl⟩))
 ·rw[if_neg (fun h=>h0 h.1),if_neg (fun h=>h0 h.1)]
  exact key _ _ (.inr (.inl ⟨by simp[h0],rfl,rfl⟩))
end
section
open Go.RowKit
def updA (u:UpdI):Array Value:=#[.int .i64 u.item.by_,.int .i64 u.item.n,.int .i64 u.st.v.by_,.int .i64 u.st.v.n,.int .i64 u.st.time,.string u.p,.string u.d,.bool u.dead]
theorem zhg (u:UpdI):(updA u).all (·.oneCell')=true:=by
 rw[Array.all_eq_true_iff_forall_mem];intro x hx;simp[updA] at hx;rcases hx with rfl | rfl | rfl | rfl | rfl | rfl | rfl | rfl <;> rfl
theorem getU_x (w:World) (s:ByteArray) (m:Int) (hm:w.cell? ⟨0,0,none⟩=some (.int .i64 m)) (hs:s.size≤90000):Calls Tryz.prog 123 #[.string s] w (fun en w'=>∃ u:UpdI,u.in64∧u.p.size≤s.size∧u.d.size≤s.size∧(∀ u0:UpdI,u0.in64→Rightful u0→s=updB u0→u=u0)∧en=.returned (.tuple #[.agg (if okZ (zS u)=0∧putB (zS u) (updB u)=s then updA u else updA upd0),.int .i64 (if okZ (zS u)=0∧putB (zS u) (updB u)=s then 0 else 6)])∧Ext w w'):=by
 have HO:=fun W=>hid (zbP W s);have HN:=fun W q (s':ByteArray) (e':Int) (h':InAt W q s' e') (hs':s'.size≤90000)=>hid (n_c W q s' e' h' (by omega));have HT:=fun W q (s':ByteArray) (e':Int) (h':InAt W q s' e') (hs':s'.size≤90000)=>hid (t_c W q s' e' h' (by omega));have HV:=fun W q (s':ByteArray) (e':Int) (h':InAt W q s' e') (hs':s'.size≤90000)=>hid (zdQ W q s' e' h' (by omega));have HR0:=hid (Blk.new w 55 (updA upd0));have HE0:=hid (Ext.alloc w (.cells (updA upd0) 55));have HM:=hid hm;clear hm;go_enter Tryz.func123,Tryz.ntmps123;go_wp2_with fail
 refine((HO _).out).mono ?_;rintro en w1 ⟨v,rfl,⟨q,rfl,hq,hI⟩,x1⟩;have HI1:=hid hI;have HR1:=hid (HR0.out.ext x1);have HE1:=hid (HE0.out.trans x1);rw[World.size_alloc] at hq;have NR:Hid (¬ w.heap.size=q):=by unfold Hid;omega
 have HQ:=hid hq;clear hI x1 hq HR0 HE0 HO;have HK1:=hid (Keep.of_ext (S:=fun g=>g=q) HE1.out);clear HE1;have HU1:Hid (∃ g,g<q):=⟨_,HQ.out⟩
 go_wp2_with fail
 refine((HV _ _ _ _ HI1.out (by omega)).out).mono ?_;rintro en w2 ⟨z1,z2,s2,e2,rfl,hz2,hy2,k2,h2,hs2,r2⟩;have Z2:=hid hz2;have Y2:=hid hy2;have NU:Hid (¬ w2.heap.size=q):=by have:=h2.lt;unfold Hid;omega
 have GU:Hid (w.heap.size≤w2.heap.size):=(HK1.out.trans k2).size;have NG:Hid (¬ w2.heap.size=w.heap.size):=by have:=(HR1.out.keep k2 NR.out).lt;unfold Hid;omega
 have HI3:=hid (h2.ext (Ext.alloc w2 (.cells #[.int .i64 z1,.int .i64 z2,.int .i64 0,.int .i64 0,.int .i64 0,.string ⟨#[]⟩,.string ⟨#[]⟩,.bool false] 55)));have HR3:=hid ((HR1.out.keep k2 NR.out).ext (Ext.alloc w2 (.cells #[.int .i64 z1,.int .i64 z2,.int .i64 0,.int .i64 0,.int .i64 0,.string ⟨#[]⟩,.string ⟨#[]⟩,.bool false] 55)));have HU3:=hid (Blk.new w2 55 #[.int .i64 z1,.int .i64 z2,.int .i64 0,.int .i64 0,.int .i64 0,.string ⟨#[]⟩,.string ⟨#[]⟩,.bool false]);have HK3:=hid ((HK1.out.trans k2).ext (Ext.alloc w2 (.cells #[.int .i64 z1,.int .i64 z2,.int .i64 0,.int .i64 0,.int .i64 0,.string ⟨#[]⟩,.string ⟨#[]⟩,.bool false] 55)));have R2:=hid r2
 clear hy2 k2 h2 hz2 r2 HI1 HR1 HK1 HU1;go_wp2_with fail
 generalize w2.alloc (.cells #[.int .i64 z1,.int .i64 z2,.int .i64 0,.int .i64 0,.int .i64 0,.string ⟨#[]⟩,.string ⟨#[]⟩,.bool false] 55)=w3 at HI3 HR3 HU3 HK3⊢;obtain⟨g,hg⟩:∃ g,w2.heap.size=g:=⟨_,rfl⟩
 rw[hg] at NU GU NG HU3⊢;clear hg;refine((HV _ _ _ _ HI3.out (by omega)).out).mono ?_;rintro en w4 ⟨z3,z4,s4,e4,rfl,hz4,hy4,k4,h4,hs4,r4⟩;have Z4:=hid hz4;have Y4:=hid hy4;clear hy4;have HI4:=hid h4;have HR4:=hid (HR3.out.keep k4 NR.out);have HU4:=hid (HU3.out.keep k4 NU.out);have HK4:=hid (HK3.out.trans k4);have R4:=hid r4;have hs4:s4.size≤s.size:=by omega
 clear k4 h4 r4 hz4 HI3 HR3 HK3 HU3;go_wp2_with fail
 refine((HN _ _ _ _ HI4.out (by omega)).out).mono ?_;rintro en w5 ⟨z5,s5,e5,rfl,hz5,k5,h5,hs5,r5⟩;have Z5:=hid hz5;have HI5:=hid h5;have HR5:=hid (HR4.out.keep k5 NR.out);have HU5:=hid (HU4.out.keep k5 NU.out);have HK5:=hid (HK4.out.trans k5);have R5:=hid r5;have hs5:s5.size≤s.size:=by omega
 clear k5 h5 r5 hz5 HI4 HR4 HK4 HU4;have c2:=HU5.out.cell (i:=2) (v:=.int .i64 0) rfl;have c3:=HU5.out.cell (i:=3) (v:=.int .i64 0) rfl;have c4:=HU5.out.cell (i:=4) (v:=.int .i64 0) rfl;have o2:=HU5.out.frozen 2;have o3:=HU5.out.frozen 3;have o4:=HU5.out.frozen 4;have l5:=HU5.out.lt;go_wp2_with fail
 clear c2 c3 c4 o2 o3 o4 l5;have HI5':=hid (HI5.out.far (p:=⟨g,2,none⟩) (fun h=>NU.out h.symm) (.int .i64 z3));have HU5':=hid (HU5.out.set 2 (.int .i64 z3));have HR5':=hid (HR5.out.far (p:=⟨g,2,none⟩) (fun h=>NG.out h.symm) (.int .i64 z3));have HK5':=hid (HK5.out.setCell (S:=fun g=>g=q) (p:=⟨g,2,none⟩) (.inr GU.out) (.int .i64 z3));clear HI5 HU5 HR5 HK5;have HI5:=HI5';have HU5:=HU5';have HR5:=HR5';have HK5:=HK5';clear HI5' HU5' HR5' HK5';have HI5':=hid (HI5.out.far (p:=⟨g,3,none⟩) (fun h=>NU.out h.symm) (.int .i64 z4));have HU5':=hid (HU5.out.set 3 (.int .i64 z4))
 have HR5':=hid (HR5.out.far (p:=⟨g,3,none⟩) (fun h=>NG.out h.symm) (.int .i64 z4));have HK5':=hid (HK5.out.setCell (S:=fun g=>g=q) (p:=⟨g,3,none⟩) (.inr GU.out) (.int .i64 z4));clear HI5 HU5 HR5 HK5;have HI5:=HI5';have HU5:=HU5';have HR5:=HR5';have HK5:=HK5';clear HI5' HU5' HR5' HK5';have HI5':=hid (HI5.out.far (p:=⟨g,4,none⟩) (fun h=>NU.out h.symm) (.int .i64 z5));have HU5':=hid (HU5.out.set 4 (.int .i64 z5));have HR5':=hid (HR5.out.far (p:=⟨g,4,none⟩) (fun h=>NG.out h.symm) (.int .i64 z5));have HK5':=hid (HK5.out.setCell (S:=fun g=>g=q) (p:=⟨g,4,none⟩) (.inr GU.out) (.int .i64 z5));clear HI5 HU5 HR5 HK5;have HI5:=HI5'
 have HU5:=HU5';have HR5:=HR5';have HK5:=HK5';clear HI5' HU5' HR5' HK5';generalize ((w5.setCell ⟨g,2,none⟩ (.int .i64 z3)).setCell ⟨g,3,none⟩ (.int .i64 z4)).setCell ⟨g,4,none⟩ (.int .i64 z5)=w6 at HI5 HR5 HK5 HU5⊢;refine((HT _ _ _ _ HI5.out (by omega)).out).mono ?_;rintro en w7 ⟨t1,s7,e7,rfl,hz7,k7,h7,hs7,r7⟩;have Z7:Hid (t1.size≤s.size):=by unfold Hid;omega
 have HI7:=hid h7;have HR7:=hid (HR5.out.keep k7 NR.out);have HU7:=hid (HU5.out.keep k7 NU.out);have HK7:=hid (HK5.out.trans k7);have R7:=hid r7;have hs7:s7.size≤s.size:=by omega
 clear k7 h7 r7 hz7 HI5 HR5 HK5 HU5;go_wp2_with fail
 refine((HT _ _ _ _ HI7.out (by omega)).out).mono ?_;rintro en w8 ⟨t2,s8,e8,rfl,hz8,k8,h8,hs8,r8⟩;have Z8:Hid (t2.size≤s.size):=by unfold Hid;omega
 have HI8:=hid h8;have HR8:=hid (HR7.out.keep k8 NR.out);have HU8:=hid (HU7.out.keep k8 NU.out);have HK8:=hid (HK7.out.trans k8);have R8:=hid r8;have hs8:s8.size≤s.size:=by omega
 clear k8 h8 r8 hz8 HI7 HR7 HK7 HU7;have c5:=HU8.out.cell (i:=5) (v:=.string ⟨#[]⟩) rfl;have c6:=HU8.out.cell (i:=6) (v:=.string ⟨#[]⟩) rfl;have o5:=HU8.out.frozen 5;have o6:=HU8.out.frozen 6;have l8:=HU8.out.lt;go_wp2_with fail
 clear c5 c6 o5 o6 l8;have HI8':=hid (HI8.out.far (p:=⟨g,5,none⟩) (fun h=>NU.out h.symm) (.string t1));have HU8':=hid (HU8.out.set 5 (.string t1));have HR8':=hid (HR8.out.far (p:=⟨g,5,none⟩) (fun h=>NG.out h.symm) (.string t1));have HK8':=hid (HK8.out.setCell (S:=fun g=>g=q) (p:=⟨g,5,none⟩) (.inr GU.out) (.string t1));clear HI8 HU8 HR8 HK8;have HI8:=HI8';have HU8:=HU8';have HR8:=HR8';have HK8:=HK8';clear HI8' HU8' HR8' HK8';have HI8':=hid (HI8.out.far (p:=⟨g,6,none⟩) (fun h=>NU.out h.symm) (.string t2));have HU8':=hid (HU8.out.set 6 (.string t2));have HR8':=hid (HR8.out.far (p:=⟨g,6,none⟩) (fun h=>NG.out h.symm) (.string t2))
 have HK8':=hid (HK8.out.setCell (S:=fun g=>g=q) (p:=⟨g,6,none⟩) (.inr GU.out) (.string t2));clear HI8 HU8 HR8 HK8;have HI8:=HI8';have HU8:=HU8';have HR8:=HR8';have HK8:=HK8';clear HI8' HU8' HR8' HK8';generalize (w8.setCell ⟨g,5,none⟩ (.string t1)).setCell ⟨g,6,none⟩ (.string t2)=w9 at HI8 HR8 HK8 HU8⊢;refine((HN _ _ _ _ HI8.out (by omega)).out).mono ?_;rintro en w10 ⟨z6,s10,e10,rfl,hz10,k10,h10,hs10,r10⟩;have Z10:=hid hz10;have HI10:=hid h10;have HR10:=hid (HR8.out.keep k10 NR.out);have HU10:=hid (HU8.out.keep k10 NU.out);have HK10:=hid (HK8.out.trans k10);have R10:=hid r10;have hs10:s10.size≤s.size:=by omega
 clear k10 h10 r10 hz10 HI8 HR8 HK8 HU8;have HU9:Hid (Blk w10 g 55 #[.int .i64 z1,.int .i64 z2,.int .i64 z3,.int .i64 z4,.int .i64 z5,.string t1,.string t2,.bool false]):=HU10.out;clear HU10;have c0:=HU9.out.cell (i:=0) (v:=.int .i64 z1) rfl;have c1:=HU9.out.cell (i:=1) (v:=.int .i64 z2) rfl;have c2:=HU9.out.cell (i:=2) (v:=.int .i64 z3) rfl;have c3:=HU9.out.cell (i:=3) (v:=.int .i64 z4) rfl;have c4:=HU9.out.cell (i:=4) (v:=.int .i64 z5) rfl;have c5:=HU9.out.cell (i:=5) (v:=.string t1) rfl;have c6:=HU9.out.cell (i:=6) (v:=.string t2) rfl;have c7:=HU9.out.cell (i:=7) (v:=.bool false) rfl;have o7:=HU9.out.frozen 7
 have l9:=HU9.out.lt;go_wp2_with fail
 clear c0 c1 c2 c3 c4 c5 c6 c7 o7 l9 HV HN HT;have HU10:=HU9;clear HU9;have HI10':=hid (HI10.out.far (p:=⟨g,7,none⟩) (fun h=>NU.out h.symm) (.bool ((z6:Int)==1)));have HU10':=hid (HU10.out.set 7 (.bool ((z6:Int)==1)));have HR10':=hid (HR10.out.far (p:=⟨g,7,none⟩) (fun h=>NG.out h.symm) (.bool ((z6:Int)==1)));have HK10':=hid (HK10.out.setCell (S:=fun g=>g=q) (p:=⟨g,7,none⟩) (.inr GU.out) (.bool ((z6:Int)==1)));clear HI10 HU10 HR10 HK10;have HI10:=HI10';have HU10:=HU10';have HR10:=HR10';have HK10:=HK10';clear HI10' HU10' HR10' HK10';generalize w10.setCell ⟨g,7,none⟩ (.bool ((z6:Int)==1))=w11 at HI10 HR10 HK10 HU10⊢
 have HE11:Hid (Ext w w11):=Ext.of_below (HK10.out.below (Nat.le_refl _) fun k hk=>by have:=HQ.out;omega);obtain⟨u,hu⟩:∃ u:UpdI,u=⟨⟨z1,z2⟩,⟨⟨z3,z4⟩,z5⟩,t1,t2,(z6:Int)==1⟩:=⟨_,rfl⟩
 have hA:updA u=#[.int .i64 z1,.int .i64 z2,.int .i64 z3,.int .i64 z4,.int .i64 z5,.string t1,.string t2,.bool ((z6:Int)==1)]:=by rw[hu];rfl
 have hi:u.in64:=by
  have a1:=Z2.out;have a2:=Y2.out;have a3:=Z4.out;have a4:=Y4.out;have a5:=Z5.out;rw[hu];unfold UpdI.in64 in64;(try dsimp only);omega
 have hp:u.p.size≤s.size:=by rw[hu];exact Z7.out
 have h6:u.d.size≤s.size:=by rw[hu];exact Z8.out
 have hb:∀ u0:UpdI,u0.in64→Rightful u0→s=updB u0→u=u0:=fun u0 b1 b2 b3=>by
  rw[hu];exact zlg R2.out R4.out R5.out R7.out R8.out R10.out u0 b1 b2 b3
 have HP:∀ W,Ext w11 W→Hid (Calls Tryz.prog 92 #[.agg (updA u)] W (Ret (.tuple #[.string (putB (zS u) (updB u)),.int .i64 (okZ (zS u))]) W)):=fun W hW=>ziI W u m ((HE11.out.trans hW).cell HM.out) (by omega) hi;have HSm:=hid (sameU_x w11 (updA u) rfl (zhg u) s _ _ HP);rw[hA] at HSm;refine(HSm.out).mono ?_;rintro en w12 ⟨rfl,x12⟩;rw[←hA]
 have HOut:Hid (∀ v w',v=.tuple #[.agg (if okZ (zS u)=0∧putB (zS u) (updB u)=s then updA u else updA upd0),.int .i64 (if okZ (zS u)=0∧putB (zS u) (updB u)=s then 0 else 6)]→Ext w w' → ∃ u:UpdI,u.in64∧u.p.size≤s.size∧u.d.size≤s.size∧(∀ u0:UpdI,u0.in64→Rightful u0→s=updB u0→u=u0)∧Ending.returned v=.returned (.tuple #[.agg (if okZ (zS u)=0∧putB (zS u) (updB u)=s then updA u else updA upd0),.int .i64 (if okZ (zS u)=0∧putB (zS u) (updB u)=s then 0 else 6)])∧Ext w w'):=fun v w' b1 b2=>⟨u,hi,hp,h6,hb,by rw[b1],b2⟩
 have HE12:=hid (HE11.out.trans x12);have HR12:=hid (HR10.out.ext x12);clear hb hi hp h6 HP HSm hA R2 R4 R5 R7 R8 R10 Z2 Y2 Z4 Y4 Z5 Z7 Z8 Z10 x12 HI10 HK10 HU10 HR10 HE11 hs;clear hu;have r0:=HR12.out.cell (i:=0) (v:=.int .i64 0) rfl;have r1:=HR12.out.cell (i:=1) (v:=.int .i64 0) rfl;have r2:=HR12.out.cell (i:=2) (v:=.int .i64 0) rfl;have r3:=HR12.out.cell (i:=3) (v:=.int .i64 0) rfl;have r4:=HR12.out.cell (i:=4) (v:=.int .i64 0) rfl;have r5:=HR12.out.cell (i:=5) (v:=.string ⟨#[]⟩) rfl;have r6:=HR12.out.cell (i:=6) (v:=.string ⟨#[]⟩) rfl;have r7:=HR12.out.cell (i:=7) (v:=.bool false) rfl;have q0:=HR12.out.frozen 0
 have q1:=HR12.out.frozen 1;have q2:=HR12.out.frozen 2;have q3:=HR12.out.frozen 3;have q4:=HR12.out.frozen 4;have q5:=HR12.out.frozen 5;have q6:=HR12.out.frozen 6;have q7:=HR12.out.frozen 7;have lr:=HR12.out.lt;by_cases hc:okZ (zS u)=0∧putB (zS u) (updB u)=s
 ·rw[if_pos hc,if_pos hc] at HOut⊢
  clear hc;unfold updA;go_wp2_with fail
  have HF:Hid (Blk _ w.heap.size 55 (updA u)):=((((((((HR12.out.set 0 (.int .i64 u.item.by_)).set 1 (.int .i64 u.item.n)).set 2 (.int .i64 u.st.v.by_)).set 3 (.int .i64 u.st.v.n)).set 4 (.int .i64 u.st.time)).set 5 (.string u.p)).set 6 (.string u.d)).set 7 (.bool u.dead))
  refine bodyPost_ret (zi rfl _ _ w.heap.size 55 _ (0,0) _ rfl HF.out Tryz.underlying55 rfl (show(Tryz.prog.info? 55).map (·.size)=some 8 by kernel_rfl)) rfl ?_
  exact HOut.out _ _ rfl (Ext.setCell' (Ext.setCell' (Ext.setCell' (Ext.setCell' (Ext.setCell' (Ext.setCell' (Ext.setCell' (Ext.setCell' HE12.out (p:=⟨w.heap.size,0,none⟩) (Nat.le_refl _) (.int .i64 u.item.by_)) (p:=⟨w.heap.size,1,none⟩) (Nat.le_refl _) (.int .i64 u.item.n)) (p:=⟨w.heap.size,2,none⟩) (Nat.le_refl _) (.int .i64 u.st.v.by_)) (p:=⟨w.heap.size,3,none⟩) (Nat.le_refl _) (.int .i64 u.st.v.n)) (p:=⟨w.heap.size,4,none⟩) (Nat.le_refl _) (.int .i64 u.st.time)) (p:=⟨w.heap.size,5,none⟩) (Nat.le_refl _) (.string u.p)) (p:=⟨w.heap.size,6,none⟩) (Nat.le_refl _) (.string u.d)) (p:=⟨w.heap.size,7,none⟩) (Nat.le_refl _) (.bool u.dead))
 ·rw[if_neg hc,if_neg hc] at HOut⊢
  clear hc;go_wp2_with fail
  have HF:Hid (Blk _ w.heap.size 55 (updA upd0)):=((((((((HR12.out.set 0 (.int .i64 0)).set 1 (.int .i64 0)).set 2 (.int .i64 0)).set 3 (.int .i64 0)).set 4 (.int .i64 0)).set 5 (.string ⟨#[]⟩)).set 6 (.string ⟨#[]⟩)).set 7 (.bool false))
  refine bodyPost_ret (zi rfl _ _ w.heap.size 55 _ (0,0) _ rfl HF.out Tryz.underlying55 rfl (show(Tryz.prog.info? 55).map (·.size)=some 8 by kernel_rfl)) rfl ?_
  exact HOut.out _ _ rfl (Ext.setCell' (Ext.setCell' (Ext.setCell' (Ext.setCell' (Ext.setCell' (Ext.setCell' (Ext.setCell' (Ext.setCell' HE12.out (p:=⟨w.heap.size,0,none⟩) (Nat.le_refl _) (.int .i64 0)) (p:=⟨w.heap.size,1,none⟩) (Nat.le_refl _) (.int .i64 0)) (p:=⟨w.heap.size,2,none⟩) (Nat.le_refl _) (.int .i64 0)) (p:=⟨w.heap.size,3,none⟩) (Nat.le_refl _) (.int .i64 0)) (p:=⟨w.heap.size,4,none⟩) (Nat.le_refl _) (.int .i64 0)) (p:=⟨w.heap.size,5,none⟩) (Nat.le_refl _) (.string ⟨#[]⟩)) (p:=⟨w.heap.size,6,none⟩) (Nat.le_refl _) (.string ⟨#[]⟩)) (p:=⟨w.heap.size,7,none⟩) (Nat.le_refl _) (.bool false))
end
end Go.Proofs.YtofjpdgojoppbaaGreatDoor
