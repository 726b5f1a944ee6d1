/-
  Of the claim's proof: KnJ, KnK, RdB, RdC, KnL.
-/
import Derived.Test.YtofjpdgojoppbaaGreatDoorS01
import Derived.Test.YtofjpdgojoppbaaGreatDoorS08
import Derived.Test.YtofjpdgojoppbaaGreatDoorS14
import Derived.Test.YtofjpdgojoppbaaGreatDoorS17
import Derived.Test.YtofjpdgojoppbaaGreatDoorS26
import Derived.Test.YtofjpdgojoppbaaGreatDoorS28
import Derived.Test.YtofjpdgojoppbaaGreatDoorS32
set_option maxRecDepth 100000
set_option maxHeartbeats 16000000
set_option linter.unusedVariables false
set_option linter.unusedSimpArgs false
namespace Go.Proofs.YtofjpdgojoppbaaGreatDoor
section
open Go.RowKit
attribute [go_sem] zgL
structure FragG (x:FragI):Prop where
 ok:FragOk x
 sz:∀ c∈x.f,c.pre.size≤90000
theorem zkG {s s2 s3 s4 t1 t2 t3:ByteArray} {e2 e3 e4:Int} (r1:zbZ s 0 t1 s2 e2) (r2:zbZ s2 e2 t2 s3 e3) (r3:zbZ s3 e3 t3 s4 e4) (x:FragI) (hs:s=zaR x):t1=zg clB x.f∧t2=zg verB (endsL x.v)∧t3=zg verB x.n∧endK s4 e4=0:=by
 have e:s.data.toList=lebL (zg clB x.f).size++((zg clB x.f).data.toList++(lebL (zg verB (endsL x.v)).size++((zg verB (endsL x.v)).data.toList++(lebL (zg verB x.n).size++((zg verB x.n).data.toList++[]))))):=by
  rw[hs];unfold zaR;simp only[ByteArray.data_append,Array.toList_append,zV,List.append_assoc,List.append_nil]
 obtain⟨a1,a2,a3⟩:=r1 _ _ rfl e;obtain⟨b1,b2,b3⟩:=r2 _ _ a3 a2;obtain⟨c1,c2,c3⟩:=r3 _ _ b3 b2;refine⟨a1,b1,c1,?_⟩;unfold endK;have:s4.size=0:=by
  have h:s4.data.toList.length=s4.size:=by rw[Array.length_toList];rfl
  rw[←h,c2];rfl
 rw[if_pos c3,if_pos this]
theorem ziW {s s2 s3 t1:ByteArray} {e2 e3:Int} {z1 z2:Nat} (r1:zeG s 0 z1 z2 s2 e2) (r2:zbZ s2 e2 t1 s3 e3) (x:KnownI) (hx:zaM x.i) (hs:s=zan x):(⟨z1,z2⟩:Ver)=x.i∧t1=zg verB (endsL x.v)∧endK s3 e3=0:=by
 have e:s.data.toList=lebL x.i.by_.toNat++(lebL x.i.n.toNat++(lebL (zg verB (endsL x.v)).size++((zg verB (endsL x.v)).data.toList++[]))):=by
  rw[hs];unfold zan;simp only[ByteArray.data_append,Array.toList_append,zV,zfV hx,List.append_assoc,List.append_nil,List.nil_append]
 obtain⟨h1,h2,h3,h4⟩:=hx;obtain⟨a1,a2,a3,a4⟩:=r1 _ _ _ rfl (by omega) (by omega) e;obtain⟨b1,b2,b3⟩:=r2 _ _ a4 a3;refine⟨?_,b1,?_⟩
 ·obtain⟨⟨b,n⟩,_,_⟩:=x
  dsimp only at *;rw[show(z1:Int)=b by omega,show(z2:Int)=n by omega]
 ·unfold endK
  have:s3.size=0:=by
   have h:s3.data.toList.length=s3.size:=by rw[Array.length_toList];rfl
   rw[←h,b2];rfl
  rw[if_pos b3,if_pos this]
theorem zeD {P:Program} {o:Oper} {a:Act} {w:World} {ψ:Value→World→Prop} {T:TypeId} {x y:Operand} {g:Nat} {cs cs':Array Value} (hop:o.op=.store T x y) (hx:a.eval x=.pointer (some ⟨g,0,none⟩)) (hy:a.eval y=.agg cs') (h:Blk w g T cs) (hi:(P.info? T).map (·.size)=some cs'.size) (ho:cs.size=cs'.size) (h1:cs'.all (·.oneCell')=true) (hψ:ψ undef (w.setRow g cs')):Gives P ψ ((execOp a.eval o).run P w):=by
 have hr:=run_storeVar_row (P:=P) w g T T cs cs' h hi ho h1;simp only[execOp,hop,hx,hy,Instr.storeAt,Instr.sureAddr,Sem.run_bind,Sem.run_pure,Result.andThen,hr];exact hψ
def zhr (g:Nat) (T:TypeId) (cs:Array Value):Rel where
 r a b:=Keep (fun q=>q=g) a b∧(Blk a g T cs→Blk b g T cs)∧((∃ c,Blk a g T c∧c.size=cs.size) → ∃ c,Blk b g T c∧c.size=cs.size)
 refl w:=⟨Keep.refl _ _,id,id⟩
 trans a b c h k:=⟨h.1.trans k.1,fun x=>k.2.1 (h.2.1 x),fun x=>k.2.2 (h.2.2 x)⟩
 ofExt a b h:=⟨Keep.of_ext h,fun x=>x.ext h,fun⟨c,x,y⟩=>⟨c,x.ext h,y⟩⟩
def facSt (w:World) (g:Nat) (T:TypeId) (cs:Array Value) (W:World):Prop:=Keep (fun q=>q=g) w W ∧ ∃ c,Blk W g T c∧c.size=cs.size
theorem facSt.steady (w:World) (g:Nat) (T:TypeId) (cs:Array Value):zae (zhr g T cs) (facSt w g T cs):=fun a b h ⟨k,e⟩=>⟨k.trans h.1,h.2.2 e⟩
theorem facSt.start {w:World} {g:Nat} {T:TypeId} {cs c:Array Value} (h:Blk w g T c) (hs:c.size=cs.size):facSt w g T cs w.drew:=⟨Keep.of_ext (Ext.drew w),c,h.ext (Ext.drew w),hs⟩
theorem zfO (g:Nat) (T:TypeId) (cs:Array Value):zae (zhr g T cs) (fun W=>Blk W g T cs):=fun a b h x=>h.2.1 x
theorem zlk {w:World} {g:Nat} {T:TypeId} {cs c:Array Value} (h:Blk w g T c) (hs:c.size=cs.size):Blk (w.setRow g cs) g T cs∧(zhr g T cs).r w (w.setRow g cs):=
 ⟨h.setRow cs,Keep.setRow (S:=fun q=>q=g) (Keep.refl _ w) (.inl rfl) cs,fun _=>h.setRow cs,fun _=>⟨cs,h.setRow cs,rfl⟩⟩
theorem zbs {v:List Int} (h:v.length=65):(vecV v).size=65:=by rw[ze];exact h
attribute [-simp] Tryz.isAgg33 Tryz.sizeOf33 Tryz.isAgg85 Tryz.sizeOf85 Tryz.isAgg126 Tryz.sizeOf126
theorem zkC (w:World) (s:ByteArray) (m:Int) (hm:w.cell? ⟨0,0,none⟩=some (.int .i64 m)) (hs:s.size≤65536):Calls Tryz.prog 117 #[.string s] w (fun en w'=>∃ (c:FragC) (x:FragI) (e:Int),en=.returned (.tuple #[.agg c.arr,.int .i64 e])∧FragO w' c x∧FragG x∧Ext w w' ∧ ∀ x0:FragI,x0.v.length=65→FragOk x0→mayF x0=true→s=zaR x0→x=x0∧e=0):=by
 have HO:=fun W=>hid (zbP W s);have HT:=fun W q (s':ByteArray) (e':Int) (h':InAt W q s' e') (hs':s'.size≤65536)=>hid (t_c W q s' e' h' (by omega));have HEnd:=fun W q (s':ByteArray) (e':Int) (h':InAt W q s' e')=>hid (zeE W q s' e' h');have HGf:=fun W t (hW:Ext w W) (ht:t.size≤65536)=>hid (zjK W t m (hW.cell hm) ht);have HGv:=fun W t (ht:t.size≤65536)=>hid (zgX W t ht);have HGi:=fun W t (ht:t.size≤65536)=>hid (zjJ W t ht);have HR0:=hid (Blk.new w 85 fragZ);have HE0:=hid (Ext.alloc w (.cells fragZ 85));clear hm;go_enter Tryz.func117,Tryz.ntmps117;go_wp2_with fail
 refine((HO _).out).mono ?_;rintro en w1 ⟨v,rfl,⟨q,rfl,hq,hI⟩,x1⟩;have HI1:=hid hI;have HR1:=hid (HR0.out.ext x1);have HE1:=hid (HE0.out.trans x1);rw[World.size_alloc] at hq;have NR:Hid (¬ w.heap.size=q):=by unfold Hid;omega
 have HQ:=hid hq;clear hI x1 hq HR0 HE0 HO;have HK1:=hid (Keep.of_ext (S:=fun g=>g=q) HE1.out);have ToE:Hid (∀ W,Keep (fun g=>g=q) w W→Ext w W):=fun W hk=>Ext.of_below (hk.below (Nat.le_refl _) fun k hk=>by have:=HQ.out;omega);clear HE1;go_wp2_with fail
 refine((HT _ _ _ _ HI1.out hs).out).mono ?_;rintro en w2 ⟨t1,s2,e2,rfl,ht1,k2,h2,hs2,r1⟩;have HI2:=hid h2;have HR2:=hid (HR1.out.keep k2 NR.out);have HK2:=hid (HK1.out.trans k2);have R1:=hid r1;have ht1':t1.size≤65536:=by omega
 have hs2':s2.size≤65536:=by omega
 clear k2 h2 r1 ht1 HI1 HR1 HK1 hs2;go_wp2_with fail
 refine((HGf _ _ (ToE.out _ HK2.out) ht1').out).mono ?_;rintro en w3 ⟨sf,lf,z1,rfl,hrf,hgf,x3,hbf⟩;have HI3:=hid (HI2.out.ext x3);have HR3:=hid (HR2.out.ext x3);have HK3:=hid (HK2.out.ext x3);have HF3:=hid hrf;have HGF:=hid hgf;have BF:=hid hbf;clear hrf hgf hbf x3 HI2 HR2 HK2 ht1' HGf;go_wp2_with fail
 refine((HT _ _ _ _ HI3.out hs2').out).mono ?_;rintro en w4 ⟨t2,s3,e3,rfl,ht2,k4,h4,hs3,r2⟩;have HI4:=hid h4;have HR4:=hid (HR3.out.keep k4 NR.out);have HK4:=hid (HK3.out.trans k4);have HF4:Hid (RowT w4 99 3 sf lf.length (lf.map ClauseI.cells).flatten):=zq HF3.out k4 (fun g hg hq=>zC HF3.out HI3.out (by decide) (by rw[←hq];exact hg));have R2:=hid r2;have ht2':t2.size≤65536:=by omega
 have hs3':s3.size≤65536:=by omega
 clear k4 h4 r2 ht2 HI3 HR3 HK3 HF3 hs3 hs2';go_wp2_with fail
 refine((HGv _ _ ht2').out).mono ?_;rintro en w5 ⟨v,z2,rfl,hvl,hv64,x5,hbv⟩;have X5:=hid (x5.trans (Ext.alloc w5 (.cells (vecV v) 33)));have HI5:=hid (HI4.out.ext X5.out);have HR5:=hid (HR4.out.ext X5.out);have HK5:=hid (HK4.out.ext X5.out);have HF5:Hid (RowT _ 99 3 sf lf.length (lf.map ClauseI.cells).flatten):=zw HF4.out X5.out;have HV5:=hid (Blk.new w5 33 (vecV v));have NV:Hid (¬ w5.heap.size=q):=by have:=(HI4.out.ext x5).lt;unfold Hid;omega
 have NG:Hid (¬ w5.heap.size=w.heap.size):=by have:=(HR4.out.ext x5).lt;unfold Hid;omega
 have BV:=hid hbv;have hz1:=hid (zbs hvl);have hvl:=hid hvl;have hv64:=hid hv64;clear hbv x5 X5 HI4 HR4 HK4 HF4 ht2' HGv;go_wp2_with fail
 have HB3:=hid (Blk.new w5 33 (vecV vec0));simp only[Tryz.sizeOf33,Result.andThen,↓reduceIte,zb HB3.out (by rw[hz1.out];exact zN) (by rw[hz1.out,(zbs zd)]) (zaf _),hz1.out];rw[Oper.upon_skip];rw[World.setRow_alloc_new];clear HB3;go_wp2_with fail
 generalize w5.alloc (.cells (vecV v) 33)=w6 at HI5 HR5 HK5 HF5 HV5⊢;obtain⟨gv,hgv⟩:∃ gv,w5.heap.size=gv:=⟨_,rfl⟩
 rw[hgv] at NV NG HV5⊢;clear hgv;refine((HT _ _ _ _ HI5.out hs3').out).mono ?_;rintro en w7 ⟨t3,s4,e4,rfl,ht3,k7,h7,hs4,r3⟩;have HI7:=hid h7;have HR7:=hid (HR5.out.keep k7 NR.out);have HV7:=hid (HV5.out.keep k7 NV.out);have HK7:=hid (HK5.out.trans k7);have HF7:Hid (RowT w7 99 3 sf lf.length (lf.map ClauseI.cells).flatten):=zq HF5.out k7 (fun g hg hq=>zC HF5.out HI5.out (by decide) (by rw[←hq];exact hg));have R3:=hid r3;have ht3':t3.size≤65536:=by omega
 clear k7 h7 r3 ht3 HI5 HR5 HK5 HF5 HV5 hs4 hs3' hs;go_wp2_with fail
 refine((HGi _ _ ht3').out).mono ?_;rintro en w8 ⟨sn,ln,z3,rfl,hrn,hgn,hln,x8,hbn⟩;have HI8:=hid (HI7.out.ext x8);have HR8:=hid (HR7.out.ext x8);have HV8:=hid (HV7.out.ext x8);have HK8:=hid (HK7.out.ext x8);have HF8:Hid (RowT w8 99 3 sf lf.length (lf.map ClauseI.cells).flatten):=zw HF7.out x8;have HN8:=hid hrn;have HGN:=hid hgn;have HLN:=hid hln;have BN:=hid hbn;clear hrn hgn hln hbn x8 HI7 HR7 HV7 HK7 HF7 ht3' HGi HT;have hbld:=zi3 (FragC.mk sf v sn hvl.out);dsimp only at hbld;have hzA:=hid (zbT (FragC.mk sf v sn hvl.out));have hoA:=hid (zbS (FragC.mk sf v sn hvl.out));obtain⟨X,hX⟩:∃ X,vecV v=X:=⟨_,rfl⟩
 rw[hX] at hbld HV8 hz1⊢;have HXe:=hid hX;clear hX;obtain⟨arr,hA⟩:∃ arr,(FragC.mk sf v sn hvl.out).arr=arr:=⟨_,rfl⟩
 rw[hA] at hbld hzA hoA;have HAe:=hid hA;clear hA;go_wp2_with fail
 have hsZ:Hid (fragZ.size=arr.size):=by unfold Hid;rw[hzA.out];exact zaW
 have NI:Hid (¬ q=w.heap.size):=fun h=>NR.out h.symm;have HIk:∀ wc,facSt w8 w.heap.size 85 arr wc→InAt wc q s4 e4:=fun wc hc=>Blk.keep HI8.out hc.1 NI.out;refine zaY (zhr w.heap.size 85 arr) (facSt w8 w.heap.size 85 arr) (pre:=?pre1) (z:=?z1) ?hpre1 ?hz1 (facSt.steady _ _ _ _) (facSt.start HR8.out hsZ.out) (by kernel_rfl) (by kernel_rfl) (by kernel_rfl) (by kernel_rfl) ?_
 case hpre1=>(simp only[List.dropLast_cons_cons,List.dropLast_singleton];first | done | exact rfl)
 case hz1=>(simp only[List.getLast?_cons_cons,List.getLast?_singleton];first | done | exact rfl)
 repeat (first
  | (refine AWe.valE rfl rfl rfl rfl ?_;apply Exists.intro;refine And.intro (fun wc hc=>zhN _ _ _ rfl (by simp only[List.map_toArray,List.map_cons,List.map_nil];exact hbld) ⟨rfl,rfl⟩) ?_;simp only[Act.put,zq6,zq7,zq8])
  | (refine AWe.valE rfl rfl rfl rfl ?_;apply Exists.intro;refine And.intro (fun wc hc=>zcN rfl rfl (zK hz1.out (fun j v hv=>by rw[Nat.zero_add];exact(HV8.out.keep hc.1 NG.out).cell hv))) ?_;simp only[Act.put,zq6,zq7,zq8])
  | (refine AWe.valE rfl rfl rfl rfl ?_;apply Exists.intro;refine And.intro (fun wc hc=>?_) ?_;(· (clear hc;go_simp;dsimp only[Gives];exact⟨rfl,rfl⟩));simp only[Act.put,zq6,zq7,zq8])
  | (refine AWe.call rfl Tryz.func113 (by kernel_rfl) (by kernel_rfl) rfl rfl ?_;apply Exists.intro;refine And.intro (fun wc hc=>?_) ?_;(· (simp only[zh,zm,↓reduceIte,Nat.reduceEqDiff,zq1,zq2,zq3,zq4,zq5];with_reducible exact(HEnd _ _ _ _ (HIk _ hc)).out));simp only[Act.put,zq6,zq7,zq8])
  | (refine AWe.eff (fun W=>Blk W w.heap.size 85 arr) (zfO _ _ _) rfl rfl rfl rfl (fun wc hc=>?_) ?_;(· (obtain⟨c9,hc9,hs9⟩:=hc.2;exact zeD rfl rfl rfl hc9 (by rw[hzA.out];exact zbv) hs9 hoA.out (zlk hc9 hs9)))))
 refine AWe.last rfl rfl rfl (fun w9 x9 hfin=>?_);simp only[zl,Act.put,zq6,zq7,zq8];have HFin:=hid hfin.2;have HK9:=hid x9.1;clear hfin x9;go_wp2_with fail
 refine bodyPost_ret (zi rfl _ _ w.heap.size 85 _ (0,0) _ rfl HFin.out Tryz.underlying85 rfl (by rw[hzA.out];exact zbv)) rfl ?_;have HF9:RowT w9 99 3 sf lf.length (lf.map ClauseI.cells).flatten:=zq HF8.out HK9.out (fun g hg hq=>zC HF8.out HR8.out (by decide) (by rw[←hq];exact hg));have HN9:RowT w9 51 2 sn ln.length (ln.map Ver.cells).flatten:=zq HN8.out HK9.out (fun g hg hq=>zC HN8.out HR8.out (by decide) (by rw[←hq];exact hg));have hE9:Ext w w9:=by
  have k1:Keep (fun g=>g=q∨g=w.heap.size) w w8:=HK8.out.mono fun g hg=>.inl hg;have k2:Keep (fun g=>g=q∨g=w.heap.size) w8 w9:=HK9.out.mono fun g hg=>.inr hg;exact Ext.of_below ((k1.trans k2).below (Nat.le_refl _) fun k hk=>by have:=HQ.out;omega)
 refine⟨⟨sf,v,sn,hvl.out⟩,⟨lf,v,ln⟩,max4 z1 z2 z3 (endK s4 e4),by rw[←HAe.out];rfl,⟨rfl,HF9,HN9⟩,⟨⟨hv64.out,fun y hy=>zeT (HGN.out y hy),by have:=HLN.out;show ln.length≤90000;omega⟩,HGF.out⟩,hE9,fun x0 a0 a1 a2 a3=>?_⟩;obtain⟨b1,b2,b3,b4⟩:=zkG R1.out R2.out R3.out x0 a3;unfold mayF at a2;simp only[Bool.and_eq_true,decide_eq_true_eq] at a2;obtain⟨rfl,rfl⟩:=BF.out x0.f a2.1 b1;obtain⟨rfl,rfl⟩:=BV.out x0.v a0 a1.v a2.2.1 b2;obtain⟨rfl,rfl⟩:=BN.out x0.n a1.n a1.l a2.2.2 b3;refine⟨rfl,?_⟩;rw[b4];rfl
theorem zkv (x:Ver) (v:List Int) (hv:v.length=65):(((KnownI.mk x vec0 zd).arr.toList.take 2++((vecV v).toList++(KnownI.mk x vec0 zd).arr.toList.drop (2+(vecV v).toList.length))).toArray)=(KnownI.mk x v hv).arr:=by
 have hl:(vecV v).toList=intsV v:=by simp[vecV,intsV]
 have h0:(intsV vec0).length=65:=by rw[zG];exact zd
 have h1:(intsV v).length=65:=by rw[zG];exact hv
 rw[hl,h1];unfold KnownI.arr KnownI.list;apply Array.ext';simp only[List.cons_append,List.nil_append,List.take_succ_cons,List.take_zero,show 2+65=65+1+1 from rfl,List.drop_succ_cons];rw[List.drop_of_length_le (by omega),List.append_nil]
theorem zi0 (w:World) (s:ByteArray) (hs:s.size≤65536):Calls Tryz.prog 119 #[.string s] w (fun en w'=>∃ (x:KnownI) (e:Int),en=.returned (.tuple #[.agg x.arr,.int .i64 e])∧KnownOk x∧Ext w w' ∧ ∀ x0:KnownI,KnownOk x0→mayN x0=true→s=zan x0→x=x0∧e=0):=by
 have HO:=fun W=>hid (zbP W s);have HT:=fun W q (s':ByteArray) (e':Int) (h':InAt W q s' e') (hs':s'.size≤65536)=>hid (t_c W q s' e' h' (by omega));have HVr:=fun W q (s':ByteArray) (e':Int) (h':InAt W q s' e') (hs':s'.size≤65536)=>hid (zdQ W q s' e' h' (by omega));have HEnd:=fun W q (s':ByteArray) (e':Int) (h':InAt W q s' e')=>hid (zeE W q s' e' h');have HGv:=fun W t (ht:t.size≤65536)=>hid (zgX W t ht);have HR0:=hid (Blk.new w 126 knownZ);have HE0:=hid (Ext.alloc w (.cells knownZ 126));go_enter Tryz.func119,Tryz.ntmps119;go_wp2_with fail
 refine((HO _).out).mono ?_;rintro en w1 ⟨v,rfl,⟨q,rfl,hq,hI⟩,x1⟩;have HI1:=hid hI;have HR1:=hid (HR0.out.ext x1);have HE1:=hid (HE0.out.trans x1);rw[World.size_alloc] at hq;have NR:Hid (¬ w.heap.size=q):=by unfold Hid;omega
 have HQ:=hid hq;clear hI x1 hq HR0 HE0 HO;have HK1:=hid (Keep.of_ext (S:=fun g=>g=q) HE1.out);clear HE1;go_wp2_with fail
 refine((HVr _ _ _ _ HI1.out hs).out).mono ?_;rintro en w2 ⟨z1,z2,s2,e2,rfl,hz1,hz2,k2,h2,hs2,r1⟩;have Z1:=hid hz1;have Z2:=hid hz2;have R1:=hid r1;have hs2':s2.size≤65536:=by omega
 have he0:(knownZ.setIfInBounds 0 (.int .i64 z1)).setIfInBounds 1 (.int .i64 z2)=(KnownI.mk ⟨z1,z2⟩ vec0 zd).arr:=by kernel_rfl
 have hkz:¬ knownZ.size<2:=by rw[zaQ];decide
 have hso:=fun W=>Tryz.sizeOf33 W;have hk1:=hid (zaG (KnownI.mk ⟨z1,z2⟩ vec0 zd));have ho1:=hid (zch (KnownI.mk ⟨z1,z2⟩ vec0 zd));have hst:=hid (fun v hv=>zkv ⟨z1,z2⟩ v hv);generalize (KnownI.mk ⟨z1,z2⟩ vec0 zd).arr=arr0 at he0 hk1 ho1 hst;have X2:=hid (Ext.alloc w2 (.cells arr0 126));have HI2:=hid (h2.ext X2.out);have HR2:=hid ((HR1.out.keep k2 NR.out).ext X2.out);have HK2:=hid ((HK1.out.trans k2).ext X2.out);have HU2:=hid (Blk.new w2 126 arr0);have NU:Hid (¬ w2.heap.size=q):=by have:=h2.lt;unfold Hid;omega
 have NUR:Hid (¬ w2.heap.size=w.heap.size):=by have:=(HR1.out.keep k2 NR.out).lt;unfold Hid;omega
 have GU:Hid (w.heap.size≤w2.heap.size):=(HK1.out.trans k2).size;clear hz1 hz2 k2 h2 r1 hs2 HI1 HR1 HK1 X2 HVr;go_wp2_with fail
 clear he0 hkz hso;have HB3:=hid (Blk.new w2 126 knownZ);simp only[Tryz.sizeOf126,Result.andThen,↓reduceIte,zb HB3.out (by rw[hk1.out];exact zba) (by rw[hk1.out,zaQ]) ho1.out,hk1.out];rw[Oper.upon_skip];rw[World.setRow_alloc_new];clear HB3;go_wp2_with fail
 generalize w2.alloc (.cells arr0 126)=w3 at HI2 HR2 HU2 HK2⊢;obtain⟨g,hg⟩:∃ g,w2.heap.size=g:=⟨_,rfl⟩
 rw[hg] at NU NUR GU HU2⊢;clear hg;refine((HT _ _ _ _ HI2.out hs2').out).mono ?_;rintro en w4 ⟨t,s3,e3,rfl,ht,k4,h4,hs3,r2⟩;have HI4:=hid h4;have HR4:=hid (HR2.out.keep k4 NR.out);have HU4:=hid (HU2.out.keep k4 NU.out);have HK4:=hid (HK2.out.trans k4);have R2:=hid r2;have ht':t.size≤65536:=by omega
 clear k4 h4 r2 ht hs3 HI2 HR2 HU2 HK2 HT;go_wp2_with fail
 refine((HGv _ _ ht').out).mono ?_;rintro en w5 ⟨v,z3,rfl,hvl,hv64,x5,hbv⟩;have X5:=hid (x5.trans (Ext.alloc w5 (.cells (vecV v) 33)));have HI5:=hid (HI4.out.ext X5.out);have HR5:=hid (HR4.out.ext X5.out);have HU5:=hid (HU4.out.ext X5.out);have HK5:=hid (HK4.out.ext X5.out);have HV5:=hid (Blk.new w5 33 (vecV v));have BV:=hid hbv;have hz1:=hid (zbs hvl);have HVl:=hid hvl;have HV64:=hid hv64;have hle:Hid (2+(vecV v).toList.length≤arr0.size):=by unfold Hid;rw[Array.length_toList,hz1.out,hk1.out];decide
 have h1V:Hid (∀ u∈(vecV v).toList,u.oneCell'=true):=by
  intro u hu;have:=Array.all_eq_true_iff_forall_mem.1 (zaf v) u (Array.mem_toList_iff.1 hu);exact this
 have hst:=hid (hst.out v HVl.out);clear hbv x5 X5 HI4 HR4 HU4 HK4 ht' HGv hvl hv64 ho1;go_wp2_with fail
 have HB3:=hid (Blk.new w5 33 (vecV vec0));simp only[Tryz.sizeOf33,Result.andThen,↓reduceIte,zb HB3.out (by rw[hz1.out];exact zN) (by rw[hz1.out,(zbs zd)]) (zaf _),hz1.out];rw[Oper.upon_skip];rw[World.setRow_alloc_new];clear HB3;go_wp2_with fail
 generalize w5.alloc (.cells (vecV v) 33)=w6 at HI5 HR5 HK5 HU5 HV5⊢;generalize w5.heap.size=gv at HV5⊢;simp only[Tryz.isAgg33,Tryz.sizeOf33,Result.andThen,↓reduceIte,za HV5.out 65 hz1.out];rw[Oper.upon_value];go_wp2_with fail
 simp only[Tryz.sizeOf33,Result.andThen];rw[if_neg (show ¬ (65:Nat)=0 by omega)];dsimp only;rw[Oper.upon_value];go_wp2_with fail
 simp only[Tryz.sizeOf33,Result.andThen,↓reduceIte,hz1.out,zaa HU5.out hle.out h1V.out];rw[Oper.upon_skip];have HU6:=hid (HU5.out.setCells (vecV v).toList 2 hle.out);rw[hst.out] at HU6;have kS:=Keep.setCells (S:=fun q=>q=g) (.inl rfl) (vecV v).toList (Keep.refl _ w6) 2;have HI6:=hid (show InAt (w6.setCells g 2 (vecV v).toList) q s3 e3 from Blk.keep HI5.out kS (fun h=>NU.out h.symm));have HR6:=hid (HR5.out.keep kS (fun h=>NUR.out h.symm));have HK6:Hid (Keep (fun k=>k=q∨k=g) w (w6.setCells g 2 (vecV v).toList)):=by
  have k1:Keep (fun k=>k=q∨k=g) w w6:=HK5.out.mono fun k hk=>.inl hk;exact k1.trans (kS.mono fun k hk=>.inr hk)
 have hkA:=hid (zaG (KnownI.mk ⟨z1,z2⟩ v HVl.out));have hoA:=hid (zch (KnownI.mk ⟨z1,z2⟩ v HVl.out));obtain⟨arr,hA⟩:∃ arr,(KnownI.mk ⟨z1,z2⟩ v HVl.out).arr=arr:=⟨_,rfl⟩
 rw[hA] at hkA hoA HU6;have HAe:=hid hA;clear hA kS HU5 HV5 HI5 HR5 HK5 hst hle h1V;generalize w6.setCells g 2 (vecV v).toList=w8 at HU6 HI6 HR6 HK6⊢;go_wp2_with fail
 have hsZ:Hid (knownZ.size=arr.size):=by unfold Hid;rw[hkA.out];exact zaQ
 have HIk:∀ wc,facSt w8 w.heap.size 126 arr wc→InAt wc q s3 e3:=fun wc hc=>Blk.keep HI6.out hc.1 (fun h=>NR.out h.symm);refine zaY (zhr w.heap.size 126 arr) (facSt w8 w.heap.size 126 arr) (pre:=?pre1) (z:=?z1) ?hpre1 ?hz1 (facSt.steady _ _ _ _) (facSt.start HR6.out hsZ.out) (by kernel_rfl) (by kernel_rfl) (by kernel_rfl) (by kernel_rfl) ?_
 case hpre1=>(simp only[List.dropLast_cons_cons,List.dropLast_singleton];first | done | exact rfl)
 case hz1=>(simp only[List.getLast?_cons_cons,List.getLast?_singleton];first | done | exact rfl)
 repeat (first
  | (refine AWe.valE rfl rfl rfl rfl ?_;apply Exists.intro;refine And.intro (fun wc hc=>zcN rfl rfl (zap hkA.out (fun j v hv=>by rw[Nat.zero_add];exact(HU6.out.keep hc.1 NUR.out).cell hv))) ?_;simp only[Act.put,zq6,zq7,zq8])
  | (refine AWe.valE rfl rfl rfl rfl ?_;apply Exists.intro;refine And.intro (fun wc hc=>?_) ?_;(· (clear hc;go_simp;dsimp only[Gives];exact⟨rfl,rfl⟩));simp only[Act.put,zq6,zq7,zq8])
  | (refine AWe.call rfl Tryz.func113 (by kernel_rfl) (by kernel_rfl) rfl rfl ?_;apply Exists.intro;refine And.intro (fun wc hc=>?_) ?_;(· (simp only[zh,zm,↓reduceIte,Nat.reduceEqDiff,zq1,zq2,zq3,zq4,zq5];with_reducible exact(HEnd _ _ _ _ (HIk _ hc)).out));simp only[Act.put,zq6,zq7,zq8])
  | (refine AWe.eff (fun W=>Blk W w.heap.size 126 arr) (zfO _ _ _) rfl rfl rfl rfl (fun wc hc=>?_) ?_;(· (obtain⟨c9,hc9,hs9⟩:=hc.2;exact zeD rfl rfl rfl hc9 (by rw[hkA.out];exact zba) hs9 hoA.out (zlk hc9 hs9)))))
 refine AWe.last rfl rfl rfl (fun w9 x9 hfin=>?_);simp only[zl,Act.put,zq6,zq7,zq8];have HFin:=hid hfin.2;have HK9:=hid x9.1;clear hfin x9;go_wp2_with fail
 refine bodyPost_ret (zi rfl _ _ w.heap.size 126 _ (0,0) _ rfl HFin.out Tryz.underlying126 rfl (by rw[hkA.out];exact zba)) rfl ?_;have hE9:Ext w w9:=by
  have k1:Keep (fun k=>(k=q∨k=g)∨k=w.heap.size) w w8:=HK6.out.mono fun k hk=>.inl hk;have k2:Keep (fun k=>(k=q∨k=g)∨k=w.heap.size) w8 w9:=HK9.out.mono fun k hk=>.inr hk;exact Ext.of_below ((k1.trans k2).below (Nat.le_refl _) fun k hk=>by have:=HQ.out;have:=GU.out;omega)
 refine⟨⟨⟨z1,z2⟩,v,HVl.out⟩,_,by rw[←HAe.out];rfl,⟨HV64.out,?_⟩,hE9,fun x0 a1 a2 a3=>?_⟩
 ·have:=Z1.out;have:=Z2.out
  unfold zax in64;dsimp only;omega
 ·obtain⟨b0,b0'⟩:=zgV a1 a2
  obtain⟨b1,b2,b3⟩:=ziW R1.out R2.out x0 b0 a3;obtain⟨rfl,rfl⟩:=BV.out x0.v x0.hv a1.v b0' b2;refine⟨zdM.2 ⟨b1,rfl⟩,?_⟩;rw[b3];rfl
end
section
open Go.RowKit
theorem zkF:(Tryz.prog.info? 85).map (fun i=>(i.zero,i.size,i.bytes))=some (some (.agg fragZ),67,568):=by kernel_rfl
theorem zgi:Elem Tryz.prog 26 85 67 568:=by
 obtain⟨i0,h0,h1,h2,h3⟩:=info_parts zkF;exact⟨Tryz.underlying26,i0,_,h0,h1,h2,h3,zaW⟩
theorem ziV:(Tryz.prog.info? 126).map (fun i=>(i.zero,i.size,i.bytes))=some (some (.agg knownZ),67,536):=by kernel_rfl
theorem zfu:Elem Tryz.prog 27 126 67 536:=by
 obtain⟨i0,h0,h1,h2,h3⟩:=info_parts ziV;exact⟨Tryz.underlying27,i0,_,h0,h1,h2,h3,zaQ⟩
theorem zjj (w:World) (p:Array Value) (hp:p.size=67):(Instr.buildSlice 26 1 #[(0,.agg p)]).run Tryz.prog w=.ok (.slice (some ⟨w.heap.size,0,none⟩) 1 1) (w.alloc (.cells p 85)):=by
 have:=zbA zgi w [p] (fun x hx=>by rw[List.mem_singleton.1 hx];exact hp) (by omega) (by simp) (by simp) #[(0,.agg p)] rfl;simpa using this
theorem zik (w:World) (p:Array Value) (hp:p.size=67):(Instr.buildSlice 27 1 #[(0,.agg p)]).run Tryz.prog w=.ok (.slice (some ⟨w.heap.size,0,none⟩) 1 1) (w.alloc (.cells p 126)):=by
 have:=zbA zfu w [p] (fun x hx=>by rw[List.mem_singleton.1 hx];exact hp) (by omega) (by simp) (by simp) #[(0,.agg p)] rfl;simpa using this
theorem zc3 {P:Program} {ops:Array Oper} {rest:List Oper} {o:Oper} {a:Act} {Q:Exit→Act→World→Prop} {w w':World} (hgd:o.guard=none) (t:TypeId) (x:Operand) (ho:o.op=.buildSlice t 1 #[(0,x)]) {arr:Array Value} {v:Value} (hx:a.eval x=.agg arr)
  (hrun:(Instr.buildSlice t 1 #[(0,.agg arr)]).run P w=.ok v w') (hK:wpList P ops Q rest (a.put o.dst v) w'):wpList P ops Q (o::rest) a w:=by
 refine wpList_plain hgd fun K hK'=>?_;unfold Oper.wp;simp[execOp,ho,hx,hrun,Result.andThen];exact hK' _ _ hK
def FragP.list (z:FragC×FragI):List Value:=z.1.list
theorem fragP_coded:Coded FragP.list 67:=⟨fun z=>zeh z.1,fun z=>fragC_oneL z.1⟩
attribute [-simp] Tryz.isAgg85 Tryz.sizeOf85 Tryz.isAgg126 Tryz.sizeOf126
theorem zke (w:World) (s:ByteArray) (hs:s.size≤65536) (enc:FragI→ByteArray) (ok:FragI→Prop) (hone:∀ W t,t.size≤s.size→Ext w W→Calls Tryz.prog 117 #[.string t] W (fun en w'=>∃ (z:(FragC×FragI)) (e:Int),en=.returned (.tuple #[.agg z.1.arr,.int .i64 e])∧FragO w' z.1 z.2∧FragG z.2∧Ext W w' ∧ ∀ x0,ok x0→t=enc x0→z.2=x0∧e=0)):Calls Tryz.prog 116 #[.string s,.func (.func 117) #[] #[]] w (fun en w'=>∃ (v:Value) (b:Bool) (l:List (FragC×FragI)),en=.returned (.tuple #[v,.bool b])∧w'.ownsRow w.heap.size 85 67 v l.length (l.map FragP.list).flatten∧(∀ z∈l,FragO w' z.1 z.2)∧(∀ z∈l,FragG z.2)∧l.length≤s.size∧Ext w w' ∧ ∀ l0:List FragI,(∀ x∈l0,ok x)→l0.length≤90000→s=zg enc l0→l.map (fun z=>z.2)=l0):=by
 have HO:=fun W=>hid (zbP W s);have HN:=fun W q (h':InAt W q s 0)=>hid (n_c W q s 0 h' (by omega));have HT:=fun W q (s':ByteArray) (e':Int) (h':InAt W q s' e') (hs':s'.size≤s.size)=>hid (t_c W q s' e' h' (by omega));have HEnd:=fun W q (s':ByteArray) (e':Int) (h':InAt W q s' e')=>hid (zeE W q s' e' h');have HOne:=hid hone;clear hone;go_enter Tryz.func116,Tryz.ntmps116;go_wp2_with fail
 refine((HO _).out).mono ?_;rintro en w1 ⟨v,rfl,⟨q,rfl,hq,hI⟩,x1⟩;have HI1:=hid hI;have HE1:=hid x1;have HQ:=hid hq;clear hI x1 hq HO;go_wp2_with fail
 refine((HN _ _ HI1.out).out).mono ?_;rintro en w2 ⟨n,s2,e2,rfl,hn,k2,h2,hs2,r2⟩;have HI2:=hid h2;have HE2:Hid (Ext w w2):=Ext.of_below (((Keep.of_ext (S:=fun g=>g=q) HE1.out).trans k2).below (Nat.le_refl _) fun k hk=>by have:=HQ.out;omega);have HS2:=hid hs2;have HB:Hid (∀ l0:List FragI,s=zg enc l0→l0.length≤90000→n=l0.length∧l0.length≤s.size∧s2.data.toList=encL (l0.map (fun x=>fT (enc x)))∧e2=0):=fun l0 a0 a1=>by
  have a2:s.data.toList=lebL l0.length++encL (l0.map (fun x=>fT (enc x))):=by
   rw[a0]
   show encL (fN l0.length::l0.map (fun x=>fT (enc x)))=_
   rw[zah];rfl
  obtain⟨b1,b2,b3⟩:=r2 l0.length _ rfl (by omega) a2;refine⟨b1,?_,b2,b3⟩;have c1:s.data.toList.length=s.size:=by rw[Array.length_toList];rfl
  rw[a2,List.length_append] at c1;have:=zdW enc l0;omega
 clear k2 h2 r2 hs2 HI1 HE1 HN;by_cases hbig:(s.size:Int)<n
 ·have d0:decide ((s.size:Int)<n)=true:=decide_eq_true hbig
  have d0':decide (s.size<n)=true:=decide_eq_true (by omega);have HD:Hid (∀ l0:List FragI,(∀ x∈l0,ok x)→l0.length≤90000→s=zg enc l0→[]=l0):=fun l0 _ a1 a2=>by
   obtain⟨b1,b2,_⟩:=HB.out l0 a2 a1
   exfalso;omega
  clear hbig HB HT HEnd HOne;go_wp2_with fail
  go_ret2;exact⟨_,_,[],rfl,zp _ _ _ _,fun x hx=>(by cases hx),fun x hx=>(by cases hx),Nat.zero_le _,HE2.out,HD.out⟩
 ·have d0:decide ((s.size:Int)<n)=false:=decide_eq_false hbig
  have d0':decide (s.size<n)=false:=decide_eq_false (by omega);have hn9:n≤s.size:=by omega
  clear hbig hn;go_wp2_with fail
  go_loopw [8,20] (fun s8 s20 wr=>∃ (k:Nat) (ov:Value) (l:List (FragC×FragI)) (s':ByteArray) (e':Int),ov=s8∧k≤n∧s20=.int .i64 k∧l.length=k∧Hid (Ext w wr)∧Hid (InAt wr q s' e')∧Hid (s'.size≤s.size)∧Hid (∀ z∈l,FragG z.2)∧Hid (∀ z∈l,FragO wr z.1 z.2)∧Hid (wr.ownsRow (q+1) 85 67 s8 l.length (l.map FragP.list).flatten)∧Hid (∀ l0:List FragI,(∀ x∈l0,ok x)→s=zg enc l0→l0.length≤90000→n=l0.length∧l.map (fun z=>z.2)=l0.take k∧s'.data.toList=encL ((l0.drop k).map (fun x=>fT (enc x)))∧e'=0)) (fun _ s20 _=>n-(intOf s20).toNat)
  case atStart=>exact⟨0,_,[],s2,e2,rfl,by omega,rfl,rfl,HE2,HI2,HS2,fun x hx=>(by cases hx),fun x hx=>(by cases hx),zp _ _ _ _,fun l0 a0 a1 a2=>by
   obtain⟨b1,b2,b3,b4⟩:=HB.out l0 a1 a2;exact⟨b1,rfl,b3,b4⟩⟩
  case round=>
   obtain⟨k,s8,l,s',e',rfl,hk,rfl,hlen,hE,hI,hS,hG,hW,hO,hB⟩:=hrel;clear HE2 HI2 HS2 HB;by_cases hlt:k<n
   ·have d1:decide ((k:Int)<n)=true:=decide_eq_true (by omega)
    have d1':decide (k<n)=true:=decide_eq_true hlt;have hn9':=hid hn9;have hln:=hid hlen;have hlt':=hid hlt;clear hlen hlt;go_wp2_with fail
    refine((HT _ _ _ _ hI.out hS.out).out).mono ?_;rintro en w3 ⟨t,s3,e3,rfl,ht,k3,h3,hs3,r3⟩;have hI3:=hid h3;have hE3:Hid (Ext w w3):=Ext.of_below (((Keep.of_ext (S:=fun g=>g=q) hE.out).trans k3).below (Nat.le_refl _) fun k hk=>by have:=HQ.out;omega);have hO3:Hid (w3.ownsRow (q+1) 85 67 s8 l.length (l.map FragP.list).flatten):=zdG hO.out k3 (fun g hg=>by omega);have hW3:Hid (∀ z∈l,FragO w3 z.1 z.2):=fun z hz=>(hW.out z hz).keepBlk hI.out (by decide) (by decide) k3;have hS3:Hid (s3.size≤s.size):=by have:=hS.out;unfold Hid;omega
    have HCall:=HOne.out w3 t (by have:=hS.out;omega) hE3.out;have R3:=hid r3;clear k3 h3 hs3 r3 ht hI hE hO hS hW;go_wp2_with fail
    refine HCall.mono ?_;rintro en w4 ⟨x,e,rfl,hx4,hg,x4,hb⟩;have hz:=hid (zbT x.1);have ho1:=hid (zbS x.1);have X4:=hid (x4.trans (Ext.alloc w4 (.cells x.1.arr 85)));have hI4:=hid (hI3.out.ext X4.out);have hE4:=hid (hE3.out.trans X4.out);have hO4:=hid (zw hO3.out X4.out);have hW4:Hid (∀ z∈l++[x],FragO _ z.1 z.2):=fun z hz=>by
     rcases List.mem_append.1 hz with hz | hz
     ·exact((hW3.out z hz)).ext X4.out
     ·(try rw[List.mem_singleton.1 hz]);exact(hx4).ext (Ext.alloc w4 (.cells x.1.arr 85))
    have HU4:=hid (Blk.new w4 85 x.1.arr);have hB4:Hid (∀ l0:List FragI,(∀ x∈l0,ok x)→s=zg enc l0→l0.length≤90000→e=0∧n=l0.length∧(l++[x]).map (fun z=>z.2)=l0.take (k+1)∧s3.data.toList=encL ((l0.drop (k+1)).map (fun x=>fT (enc x)))∧e3=0):=fun l0 a0 a1 a2=>by
     obtain⟨b1,b2,b3,b4⟩:=hB.out l0 a0 a1 a2;have hlt:=hlt'.out;have hkl:k<l0.length:=by omega
     rw[List.drop_eq_getElem_cons hkl,List.map_cons,zah] at b3;have b3':s'.data.toList=lebL (enc l0[k]).size++((enc l0[k]).data.toList++encL ((l0.drop (k+1)).map (fun x=>fT (enc x)))):=by
      rw[b3]
      show(lebL (enc l0[k]).size++(enc l0[k]).data.toList)++_=_
      rw[List.append_assoc]
     obtain⟨c1,c2,c3⟩:=R3.out _ _ b4 b3';obtain⟨f1,f2⟩:=hb l0[k] (a0 _ (List.getElem_mem hkl)) c1;refine⟨f2,b1,?_,c2,c3⟩;rw[List.take_succ_eq_append_getElem hkl,←b2,List.map_append,←f1];rfl
    have hG4:Hid (∀ z∈l++[x],FragG z.2):=fun y hy=>by
     rcases List.mem_append.1 hy with hy | hy
     ·exact hG.out y hy
     ·rw[List.mem_singleton.1 hy];exact hg
    have hbs:=fun W=>zjj W x.1.arr hz.out;have HAe:Hid ((FragP.list x).toArray=x.1.arr):=rfl;obtain⟨arr,harr⟩:∃ arr,x.1.arr=arr:=⟨_,rfl⟩
    rw[harr] at hz ho1 X4 hI4 hE4 hO4 HU4 hbs HAe⊢
    try rw[harr] at hW4
    clear hb hB R3 hI3 hE3 hO3 HCall hg hG hW3 hx4 x4 harr;go_wp2_with fail
    have HB3:=hid (Blk.new w4 85 fragZ);simp only[Tryz.sizeOf85,Result.andThen,↓reduceIte,zb HB3.out (by rw[hz.out];exact zbv) (by rw[hz.out,zaW]) ho1.out,hz.out];rw[Oper.upon_skip];rw[World.setRow_alloc_new];clear HB3;by_cases h0:e=0
    ·have d2:(e != 0)=false:=by simp[h0]
     clear h0;generalize w4.alloc (.cells arr 85)=w5 at X4 hI4 hE4 hO4 hW4 HU4⊢;obtain⟨v',w6,hrun6,ho6,hk6,_⟩:=zaJ (P:=Tryz.prog) zgi fragP_coded hO4.out (Nat.succ_le_of_lt hI4.out.lt) x (by have:=hn9'.out;have:=hln.out;omega) (by omega);rw[HAe.out] at hrun6;have HE6:=hid (hk6.toExt hE4.out (fun g hg=>Nat.le_trans HQ.out (Nat.le_of_lt (zt hO4.out g hg).1)));have HI6:Hid (InAt w6 q s3 e3):=Blk.keep hI4.out hk6 (fun h=>by have:=(zt hO4.out q h).1;omega);have HW6:Hid (∀ z∈l++[x],FragO w6 z.1 z.2):=fun z hz=>(hW4.out z hz).keepRow hO4.out (by decide) (by decide) hk6;have HO6:=hid ho6;clear ho6 hk6 hI4 hE4 hO4 hW4 X4 ho1
     go_wp2_with fail
     simp only[Tryz.isAgg85,Tryz.sizeOf85,Result.andThen,↓reduceIte,za HU4.out 67 hz.out];rw[Oper.upon_value];go_wp2_with (first | (at_builtin;refine zx rfl (.tmp 31) (.tmp 33) _ _ rfl rfl rfl hrun6 ?_) | (refine zc3 rfl 26 (.tmp 32) rfl rfl (hbs _) ?_))
     go_roundw
     case rel=>exact⟨k+1,_,l++[x],s3,e3,rfl,by have:=hlt'.out;omega,by go_num,by rw[List.length_append,hln.out];rfl,HE6,HI6,hS3,hG4,HW6,HO6,fun l0 a0 a1 a2=>(hB4.out l0 a0 a1 a2).2⟩
     case measure=>simp[intOf];have:=hlt'.out;omega
    ·have d2:(e != 0)=true:=by simp[h0]
     have HD:Hid (∀ l0:List FragI,(∀ x∈l0,ok x)→l0.length≤90000→s=zg enc l0→[]=l0):=fun l0 a0 a1 a2=>absurd (hB4.out l0 a0 a2 a1).1 h0;clear h0 hB4 hI4 hO4 hG4 hW4 hbs;go_wp2_with fail
     go_ret2;exact⟨_,_,[],rfl,zp _ _ _ _,fun x hx=>(by cases hx),fun x hx=>(by cases hx),Nat.zero_le _,hE4.out,HD.out⟩
   ·obtain rfl:k=n:=by omega
    have hO8:=hid (zY hO.out (Nat.le_succ_of_le HQ.out));have HD:Hid (∀ l0:List FragI,(∀ x∈l0,ok x)→l0.length≤90000→s=zg enc l0→l.map (fun z=>z.2)=l0):=fun l0 a0 a1 a2=>by
     obtain⟨b1,b2,_⟩:=hB.out l0 a0 a2 a1;rw[b2,b1,List.take_length]
    have HL:Hid (l.length≤s.size):=by unfold Hid;omega
    clear hB hO HT HOne hlen hlt hk hn9;go_wp2_with fail
    refine((HEnd _ _ _ _ hI.out).out).mono ?_;rintro en w7 ⟨rfl,x7⟩;have hO7:=hid (zw hO8.out x7);have hW7:Hid (∀ z∈l,FragO w7 z.1 z.2):=fun z hz=>((hW.out z hz)).ext x7;have hE7:=hid (hE.out.trans x7);clear hE hI x7 HEnd hO8 hW;go_wp2_with fail
    go_ret2;exact⟨_,_,l,rfl,hO7.out,hW7.out,hG.out,HL.out,hE7.out,HD.out⟩
theorem zkd (w:World) (s:ByteArray) (hs:s.size≤65536) (enc:KnownI→ByteArray) (ok:KnownI→Prop) (hone:∀ W t,t.size≤s.size→Ext w W→Calls Tryz.prog 119 #[.string t] W (fun en w'=>∃ (z:KnownI) (e:Int),en=.returned (.tuple #[.agg z.arr,.int .i64 e])∧True∧KnownOk z∧Ext W w' ∧ ∀ x0,ok x0→t=enc x0→z=x0∧e=0)):Calls Tryz.prog 118 #[.string s,.func (.func 119) #[] #[]] w (fun en w'=>∃ (v:Value) (b:Bool) (l:List KnownI),en=.returned (.tuple #[v,.bool b])∧w'.ownsRow w.heap.size 126 67 v l.length (l.map KnownI.list).flatten∧(∀ z∈l,True)∧(∀ z∈l,KnownOk z)∧l.length≤s.size∧Ext w w' ∧ ∀ l0:List KnownI,(∀ x∈l0,ok x)→l0.length≤90000→s=zg enc l0→l.map (fun z=>z)=l0):=by
 have HO:=fun W=>hid (zbP W s);have HN:=fun W q (h':InAt W q s 0)=>hid (n_c W q s 0 h' (by omega));have HT:=fun W q (s':ByteArray) (e':Int) (h':InAt W q s' e') (hs':s'.size≤s.size)=>hid (t_c W q s' e' h' (by omega));have HEnd:=fun W q (s':ByteArray) (e':Int) (h':InAt W q s' e')=>hid (zeE W q s' e' h');have HOne:=hid hone;clear hone;go_enter Tryz.func118,Tryz.ntmps118;go_wp2_with fail
 refine((HO _).out).mono ?_;rintro en w1 ⟨v,rfl,⟨q,rfl,hq,hI⟩,x1⟩;have HI1:=hid hI;have HE1:=hid x1;have HQ:=hid hq;clear hI x1 hq HO;go_wp2_with fail
 refine((HN _ _ HI1.out).out).mono ?_;rintro en w2 ⟨n,s2,e2,rfl,hn,k2,h2,hs2,r2⟩;have HI2:=hid h2;have HE2:Hid (Ext w w2):=Ext.of_below (((Keep.of_ext (S:=fun g=>g=q) HE1.out).trans k2).below (Nat.le_refl _) fun k hk=>by have:=HQ.out;omega);have HS2:=hid hs2;have HB:Hid (∀ l0:List KnownI,s=zg enc l0→l0.length≤90000→n=l0.length∧l0.length≤s.size∧s2.data.toList=encL (l0.map (fun x=>fT (enc x)))∧e2=0):=fun l0 a0 a1=>by
  have a2:s.data.toList=lebL l0.length++encL (l0.map (fun x=>fT (enc x))):=by
   rw[a0]
   show encL (fN l0.length::l0.map (fun x=>fT (enc x)))=_
   rw[zah];rfl
  obtain⟨b1,b2,b3⟩:=r2 l0.length _ rfl (by omega) a2;refine⟨b1,?_,b2,b3⟩;have c1:s.data.toList.length=s.size:=by rw[Array.length_toList];rfl
  rw[a2,List.length_append] at c1;have:=zdW enc l0;omega
 clear k2 h2 r2 hs2 HI1 HE1 HN;by_cases hbig:(s.size:Int)<n
 ·have d0:decide ((s.size:Int)<n)=true:=decide_eq_true hbig
  have d0':decide (s.size<n)=true:=decide_eq_true (by omega);have HD:Hid (∀ l0:List KnownI,(∀ x∈l0,ok x)→l0.length≤90000→s=zg enc l0→[]=l0):=fun l0 _ a1 a2=>by
   obtain⟨b1,b2,_⟩:=HB.out l0 a2 a1
   exfalso;omega
  clear hbig HB HT HEnd HOne;go_wp2_with fail
  go_ret2;exact⟨_,_,[],rfl,zp _ _ _ _,fun x hx=>(by cases hx),fun x hx=>(by cases hx),Nat.zero_le _,HE2.out,HD.out⟩
 ·have d0:decide ((s.size:Int)<n)=false:=decide_eq_false hbig
  have d0':decide (s.size<n)=false:=decide_eq_false (by omega);have hn9:n≤s.size:=by omega
  clear hbig hn;go_wp2_with fail
  go_loopw [8,20] (fun s8 s20 wr=>∃ (k:Nat) (ov:Value) (l:List KnownI) (s':ByteArray) (e':Int),ov=s8∧k≤n∧s20=.int .i64 k∧l.length=k∧Hid (Ext w wr)∧Hid (InAt wr q s' e')∧Hid (s'.size≤s.size)∧Hid (∀ z∈l,KnownOk z)∧Hid (∀ z∈l,True)∧Hid (wr.ownsRow (q+1) 126 67 s8 l.length (l.map KnownI.list).flatten)∧Hid (∀ l0:List KnownI,(∀ x∈l0,ok x)→s=zg enc l0→l0.length≤90000→n=l0.length∧l.map (fun z=>z)=l0.take k∧s'.data.toList=encL ((l0.drop k).map (fun x=>fT (enc x)))∧e'=0)) (fun _ s20 _=>n-(intOf s20).toNat)
  case atStart=>exact⟨0,_,[],s2,e2,rfl,by omega,rfl,rfl,HE2,HI2,HS2,fun x hx=>(by cases hx),fun x hx=>(by cases hx),zp _ _ _ _,fun l0 a0 a1 a2=>by
   obtain⟨b1,b2,b3,b4⟩:=HB.out l0 a1 a2;exact⟨b1,rfl,b3,b4⟩⟩
  case round=>
   obtain⟨k,s8,l,s',e',rfl,hk,rfl,hlen,hE,hI,hS,hG,hW,hO,hB⟩:=hrel;clear HE2 HI2 HS2 HB;by_cases hlt:k<n
   ·have d1:decide ((k:Int)<n)=true:=decide_eq_true (by omega)
    have d1':decide (k<n)=true:=decide_eq_true hlt;have hn9':=hid hn9;have hln:=hid hlen;have hlt':=hid hlt;clear hlen hlt;go_wp2_with fail
    refine((HT _ _ _ _ hI.out hS.out).out).mono ?_;rintro en w3 ⟨t,s3,e3,rfl,ht,k3,h3,hs3,r3⟩;have hI3:=hid h3;have hE3:Hid (Ext w w3):=Ext.of_below (((Keep.of_ext (S:=fun g=>g=q) hE.out).trans k3).below (Nat.le_refl _) fun k hk=>by have:=HQ.out;omega);have hO3:Hid (w3.ownsRow (q+1) 126 67 s8 l.length (l.map KnownI.list).flatten):=zdG hO.out k3 (fun g hg=>by omega);have hW3:Hid (∀ z∈l,True):=fun z hz=>trivial;have hS3:Hid (s3.size≤s.size):=by have:=hS.out;unfold Hid;omega
    have HCall:=HOne.out w3 t (by have:=hS.out;omega) hE3.out;have R3:=hid r3;clear k3 h3 hs3 r3 ht hI hE hO hS hW;go_wp2_with fail
    refine HCall.mono ?_;rintro en w4 ⟨x,e,rfl,hx4,hg,x4,hb⟩;have hz:=hid (zaG x);have ho1:=hid (zch x);have X4:=hid (x4.trans (Ext.alloc w4 (.cells x.arr 126)));have hI4:=hid (hI3.out.ext X4.out);have hE4:=hid (hE3.out.trans X4.out);have hO4:=hid (zw hO3.out X4.out);have hW4:Hid (∀ z∈l++[x],True):=fun z hz=>by
     rcases List.mem_append.1 hz with hz | hz
     ·exact trivial
     ·(try rw[List.mem_singleton.1 hz]);exact trivial
    have HU4:=hid (Blk.new w4 126 x.arr);have hB4:Hid (∀ l0:List KnownI,(∀ x∈l0,ok x)→s=zg enc l0→l0.length≤90000→e=0∧n=l0.length∧(l++[x]).map (fun z=>z)=l0.take (k+1)∧s3.data.toList=encL ((l0.drop (k+1)).map (fun x=>fT (enc x)))∧e3=0):=fun l0 a0 a1 a2=>by
     obtain⟨b1,b2,b3,b4⟩:=hB.out l0 a0 a1 a2;have hlt:=hlt'.out;have hkl:k<l0.length:=by omega
     rw[List.drop_eq_getElem_cons hkl,List.map_cons,zah] at b3;have b3':s'.data.toList=lebL (enc l0[k]).size++((enc l0[k]).data.toList++encL ((l0.drop (k+1)).map (fun x=>fT (enc x)))):=by
      rw[b3]
      show(lebL (enc l0[k]).size++(enc l0[k]).data.toList)++_=_
      rw[List.append_assoc]
     obtain⟨c1,c2,c3⟩:=R3.out _ _ b4 b3';obtain⟨f1,f2⟩:=hb l0[k] (a0 _ (List.getElem_mem hkl)) c1;refine⟨f2,b1,?_,c2,c3⟩;rw[List.take_succ_eq_append_getElem hkl,←b2,List.map_append,←f1];rfl
    have hG4:Hid (∀ z∈l++[x],KnownOk z):=fun y hy=>by
     rcases List.mem_append.1 hy with hy | hy
     ·exact hG.out y hy
     ·rw[List.mem_singleton.1 hy];exact hg
    have hbs:=fun W=>zik W x.arr hz.out;have HAe:Hid ((KnownI.list x).toArray=x.arr):=rfl;obtain⟨arr,harr⟩:∃ arr,x.arr=arr:=⟨_,rfl⟩
    rw[harr] at hz ho1 X4 hI4 hE4 hO4 HU4 hbs HAe⊢
    try rw[harr] at hW4
    clear hb hB R3 hI3 hE3 hO3 HCall hg hG hW3 hx4 x4 harr;go_wp2_with fail
    have HB3:=hid (Blk.new w4 126 knownZ);simp only[Tryz.sizeOf126,Result.andThen,↓reduceIte,zb HB3.out (by rw[hz.out];exact zba) (by rw[hz.out,zaQ]) ho1.out,hz.out];rw[Oper.upon_skip];rw[World.setRow_alloc_new];clear HB3;by_cases h0:e=0
    ·have d2:(e != 0)=false:=by simp[h0]
     clear h0;generalize w4.alloc (.cells arr 126)=w5 at X4 hI4 hE4 hO4 hW4 HU4⊢;obtain⟨v',w6,hrun6,ho6,hk6,_⟩:=zaJ (P:=Tryz.prog) zfu known_coded hO4.out (Nat.succ_le_of_lt hI4.out.lt) x (by have:=hn9'.out;have:=hln.out;omega) (by omega);rw[HAe.out] at hrun6;have HE6:=hid (hk6.toExt hE4.out (fun g hg=>Nat.le_trans HQ.out (Nat.le_of_lt (zt hO4.out g hg).1)));have HI6:Hid (InAt w6 q s3 e3):=Blk.keep hI4.out hk6 (fun h=>by have:=(zt hO4.out q h).1;omega);have HW6:Hid (∀ z∈l++[x],True):=fun z hz=>trivial;have HO6:=hid ho6;clear ho6 hk6 hI4 hE4 hO4 hW4 X4 ho1;go_wp2_with fail
     simp only[Tryz.isAgg126,Tryz.sizeOf126,Result.andThen,↓reduceIte,za HU4.out 67 hz.out];rw[Oper.upon_value];go_wp2_with (first | (at_builtin;refine zx rfl (.tmp 31) (.tmp 33) _ _ rfl rfl rfl hrun6 ?_) | (refine zc3 rfl 27 (.tmp 32) rfl rfl (hbs _) ?_))
     go_roundw
     case rel=>exact⟨k+1,_,l++[x],s3,e3,rfl,by have:=hlt'.out;omega,by go_num,by rw[List.length_append,hln.out];rfl,HE6,HI6,hS3,hG4,HW6,HO6,fun l0 a0 a1 a2=>(hB4.out l0 a0 a1 a2).2⟩
     case measure=>simp[intOf];have:=hlt'.out;omega
    ·have d2:(e != 0)=true:=by simp[h0]
     have HD:Hid (∀ l0:List KnownI,(∀ x∈l0,ok x)→l0.length≤90000→s=zg enc l0→[]=l0):=fun l0 a0 a1 a2=>absurd (hB4.out l0 a0 a2 a1).1 h0;clear h0 hB4 hI4 hO4 hG4 hW4 hbs;go_wp2_with fail
     go_ret2;exact⟨_,_,[],rfl,zp _ _ _ _,fun x hx=>(by cases hx),fun x hx=>(by cases hx),Nat.zero_le _,hE4.out,HD.out⟩
   ·obtain rfl:k=n:=by omega
    have hO8:=hid (zY hO.out (Nat.le_succ_of_le HQ.out));have HD:Hid (∀ l0:List KnownI,(∀ x∈l0,ok x)→l0.length≤90000→s=zg enc l0→l.map (fun z=>z)=l0):=fun l0 a0 a1 a2=>by
     obtain⟨b1,b2,_⟩:=hB.out l0 a0 a2 a1;rw[b2,b1,List.take_length]
    have HL:Hid (l.length≤s.size):=by unfold Hid;omega
    clear hB hO HT HOne hlen hlt hk hn9;go_wp2_with fail
    refine((HEnd _ _ _ _ hI.out).out).mono ?_;rintro en w7 ⟨rfl,x7⟩;have hO7:=hid (zw hO8.out x7);have hW7:Hid (∀ z∈l,True):=fun z hz=>trivial;have hE7:=hid (hE.out.trans x7);clear hE hI x7 HEnd hO8 hW;go_wp2_with fail
    go_ret2;exact⟨_,_,l,rfl,hO7.out,hW7.out,hG.out,HL.out,hE7.out,HD.out⟩
end
section
open Go.RowKit
theorem zak {S T:Nat→Prop} {a b c:World} (h:Keep S a b) (k:Keep T b c) (hs:∀ q,T q→a.heap.size≤q):Keep S a c:=
 ⟨k.os.trans h.os,k.tape.trans h.tape,k.output.trans h.output,Nat.le_trans h.size k.size,fun q hq hn=>(k.block q (Nat.lt_of_lt_of_le hq h.size) (fun ht=>absurd (hs q ht) (by omega))).trans (h.block q hq hn)⟩
def GotA {α:Type} (val:α→Value) (ok good:α→Prop) (enc:α→List UInt8) (w:World) (q:Nat) (s:ByteArray) (e:Int) (en:Ending) (w':World):Prop:=
 ∃ (x:α) (s':ByteArray) (e':Int),en=.returned (val x)∧ok x∧Keep (fun g=>g=q) w w'∧InAt w' q s' e'∧s'.size≤s.size ∧ ∀ y rest,good y→e=0→s.data.toList=enc y++rest→x=y∧s'.data.toList=rest∧e'=0
def pairA (p:PairI):Array Value:=#[.int .i64 p.a.by_,.int .i64 p.a.n,.int .i64 p.b.by_,.int .i64 p.b.n]
theorem pairI_coded:Coded PairI.cells 4:=⟨fun _=>rfl,fun a u hu=>by
 simp[PairI.cells] at hu;rcases hu with rfl | rfl | rfl | rfl <;> rfl⟩
theorem ziM:(Tryz.prog.info? 59).map (fun i=>(i.zero,i.size,i.bytes))=some (some (.agg #[.int .i64 0,.int .i64 0,.int .i64 0,.int .i64 0]),4,32):=by kernel_rfl
theorem zfc:Elem Tryz.prog 30 59 4 32:=by
 obtain⟨i0,h0,h1,h2,h3⟩:=info_parts ziM;exact⟨Tryz.underlying30,i0,_,h0,h1,h2,h3,rfl⟩
attribute [-go_sem] Go.Instr.buildSlice
theorem build_P (w:World) (p:Array Value) (hp:p.size=4):(Instr.buildSlice 30 1 #[(0,.agg p)]).run Tryz.prog w=.ok (.slice (some ⟨w.heap.size,0,none⟩) 1 1) (w.alloc (.cells p 59)):=by
 have:=zbA zfc w [p] (fun x hx=>by rw[List.mem_singleton.1 hx];exact hp) (by omega) (by simp) (by simp) #[(0,.agg p)] rfl;simpa using this
theorem zlC (w:World) (q:Nat) (s:ByteArray) (e:Int) (h:InAt w q s e) (hs:s.size≤1000000) (ok good:PairI→Prop) (enc:PairI→List UInt8) (hone:∀ W (s':ByteArray) (e':Int),Keep (fun g=>g=q) w W→InAt W q s' e'→s'.size≤s.size→Calls Tryz.prog 69 #[.pointer (some ⟨q,0,none⟩)] W (GotA (fun x=>.agg (pairA x)) ok good enc W q s' e')):Calls Tryz.prog 68 #[.pointer (some ⟨q,0,none⟩),.func (.func 69) #[] #[]] w (fun en w'=>∃ (v:Value) (l:List PairI) (s':ByteArray) (e':Int),en=.returned v∧w'.ownsRow w.heap.size 59 4 v l.length (l.map PairI.cells).flatten∧(∀ x∈l,ok x)∧l.length≤257∧Keep (fun g=>g=q) w w'∧InAt w' q s' e'∧s'.size≤s.size ∧ ∀ (l0:List PairI) rest,(∀ x∈l0,good x)→l0.length≤256→e=0→s.data.toList=lebL l0.length++((l0.map enc).flatten++rest)→l=l0∧s'.data.toList=rest∧e'=0):=by
 have HN:=hid (n_c w q s e h (by omega));have HOne:=hid hone;have hqw:=hid h.lt;clear hone h;go_enter Tryz.func68,Tryz.ntmps68;go_wp2_with fail
 refine(HN.out).mono ?_;rintro en w2 ⟨n,s2,e2,rfl,hn,k2,h2,hs2,r2⟩;have HI2:=hid h2;have HK2:=hid k2;have HS2:=hid hs2;have HB:Hid (∀ (l0:List PairI) rest,l0.length≤256→e=0→s.data.toList=lebL l0.length++((l0.map enc).flatten++rest)→n=l0.length∧s2.data.toList=(l0.map enc).flatten++rest∧e2=0):=fun l0 rest a0 a1 a2=>by
  obtain⟨b1,b2,b3⟩:=r2 l0.length _ a1 (by omega) a2;exact⟨b1,b2,b3⟩
 clear k2 h2 r2 hs2 HN;go_wp2_with fail
 go_loopw [5,7] (fun s5 s7 wr=>∃ (k:Nat) (ov:Value) (l:List PairI) (s':ByteArray) (e':Int),ov=s5∧k≤n∧k≤257∧s7=.int .i64 k∧l.length=k∧Hid (Keep (fun g=>g=q) w wr)∧Hid (InAt wr q s' e')∧Hid (s'.size≤s.size)∧Hid (∀ z∈l,ok z)∧Hid (wr.ownsRow w.heap.size 59 4 s5 l.length (l.map PairI.cells).flatten)∧Hid (∀ (l0:List PairI) rest,(∀ x∈l0,good x)→l0.length≤256→e=0→s.data.toList=lebL l0.length++((l0.map enc).flatten++rest)→n=l0.length∧l=l0.take k∧s'.data.toList=((l0.drop k).map enc).flatten++rest∧e'=0)) (fun _ s7 _=>300-(intOf s7).toNat)
 case atStart=>exact⟨0,_,[],s2,e2,rfl,by omega,by omega,rfl,rfl,HK2,HI2,HS2,fun x hx=>(by cases hx),zp _ _ _ _,fun l0 rest a0 a1 a2 a3=>by
  obtain⟨b1,b2,b3⟩:=HB.out l0 rest a1 a2 a3;exact⟨b1,rfl,b2,b3⟩⟩
 case round=>
  obtain⟨k,s5,l,s',e',rfl,hk,hk2,rfl,hlen,hE,hI,hS,hG,hO,hB⟩:=hrel;clear HK2 HI2 HS2 HB;by_cases hlt:k<n∧k≤256
  ·have d1:decide ((k:Int)<n)=true:=decide_eq_true (by omega)
   have d1':decide (k<n)=true:=decide_eq_true hlt.1;have d2:decide ((k:Int)≤256)=true:=decide_eq_true (by omega);have d2':decide (k≤256)=true:=decide_eq_true hlt.2;have hln:=hid hlen;have hlt':=hid hlt;have HCall:=HOne.out _ s' e' hE.out hI.out hS.out;have HWs:=hid hE.out.size;have hk1:k≤1000:=by omega
   clear hlen hlt hk hk2;go_wp2_with fail
   refine HCall.mono ?_;rintro en w4 ⟨x,s4,e4,rfl,hg,k4,h4,hs4,hb⟩;have hz:Hid ((pairA x).size=4):=rfl;have hK4:=hid (hE.out.trans k4);have hI4:=hid h4;have hS4:Hid (s4.size≤s.size):=by have:=hS.out;unfold Hid;omega
   have hO4:Hid (w4.ownsRow w.heap.size 59 4 s5 l.length (l.map PairI.cells).flatten):=zq hO.out k4 (fun g hg hq=>by have:=(zt hO.out g hg).1;have:=hqw.out;omega);have hB4:Hid (∀ (l0:List PairI) rest,(∀ x∈l0,good x)→l0.length≤256→e=0→s.data.toList=lebL l0.length++((l0.map enc).flatten++rest)→n=l0.length∧l++[x]=l0.take (k+1)∧s4.data.toList=((l0.drop (k+1)).map enc).flatten++rest∧e4=0):=fun l0 rest a0 a1 a2 a3=>by
    obtain⟨b1,b2,b3,b4⟩:=hB.out l0 rest a0 a1 a2 a3;have hlt:=hlt'.out;have hkl:k<l0.length:=by omega
    rw[List.drop_eq_getElem_cons hkl,List.map_cons,List.flatten_cons,List.append_assoc] at b3;obtain⟨c1,c2,c3⟩:=hb l0[k] _ (a0 _ (List.getElem_mem hkl)) b4 b3;refine⟨b1,?_,c2,c3⟩;rw[List.take_succ_eq_append_getElem hkl,←b2,←c1]
   have hG4:Hid (∀ z∈l++[x],ok z):=fun y hy=>by
    rcases List.mem_append.1 hy with hy | hy
    ·exact hG.out y hy
    ·rw[List.mem_singleton.1 hy];exact hg
   have hbs:=fun W=>build_P W (pairA x) hz.out;obtain⟨v',w6,hrun6,ho6,hk6,_⟩:=zaJ (P:=Tryz.prog) zfc pairI_coded hO4.out hK4.out.size x (by have:=hlt'.out;have:=hln.out;omega) (by omega);have HAe:Hid ((PairI.cells x).toArray=pairA x):=rfl;rw[HAe.out] at hrun6;have HK6:=hid (zak hK4.out hk6 (fun g hg=>(zt hO4.out g hg).1));have HI6:Hid (InAt w6 q s4 e4):=Blk.keep hI4.out hk6 (fun h=>by have:=(zt hO4.out q h).1;have:=hqw.out;omega);have HO6:=hid ho6;obtain⟨arr,harr⟩:∃ arr,pairA x=arr:=⟨_,rfl⟩
   dsimp only;rw[harr] at hz hbs HAe hrun6⊢;clear hb hg HCall k4 h4 hs4 ho6 hk6 hE hI hS hG hO hB harr hI4 hO4 hK4;go_wp2_with (first | (at_builtin;refine zx rfl (.tmp 19) (.tmp 23) _ _ rfl rfl rfl hrun6 ?_) | (refine zc3 rfl 30 (.tmp 22) rfl rfl (hbs _) ?_))
   go_roundw
   case rel=>exact⟨k+1,_,l++[x],s4,e4,rfl,by have:=hlt'.out;omega,by have:=hlt'.out;omega,by go_num,by rw[List.length_append,hln.out];rfl,HK6,HI6,hS4,hG4,HO6,hB4⟩
   case measure=>simp[intOf];have:=hlt'.out;omega
  ·have HD:Hid (∀ (l0:List PairI) rest,(∀ x∈l0,good x)→l0.length≤256→e=0→s.data.toList=lebL l0.length++((l0.map enc).flatten++rest)→l=l0∧s'.data.toList=rest∧e'=0):=fun l0 rest a0 a1 a2 a3=>by
    obtain⟨b1,b2,b3,b4⟩:=hB.out l0 rest a0 a1 a2 a3;have hkn:k=l0.length:=by omega
    rw[hkn,List.take_length] at b2;rw[hkn,List.drop_length] at b3;exact⟨b2,b3,b4⟩
   have HL:Hid (l.length≤257):=by unfold Hid;omega
   clear hB HOne hlen;by_cases hkn:k<n
   ·have d1:decide ((k:Int)<n)=true:=decide_eq_true (by omega)
    have d1':decide (k<n)=true:=decide_eq_true hkn;have d2:decide ((k:Int)≤256)=false:=decide_eq_false (by omega);have d2':decide (k≤256)=false:=decide_eq_false (by omega);clear hlt hkn hk hk2;go_wp2_with fail
    go_ret;exact⟨_,l,s',e',rfl,hO.out,hG.out,HL.out,hE.out,hI.out,hS.out,HD.out⟩
   ·have d1:decide ((k:Int)<n)=false:=decide_eq_false (by omega)
    have d1':decide (k<n)=false:=decide_eq_false hkn;clear hlt hkn hk hk2;go_wp2_with fail
    go_ret;exact⟨_,l,s',e',rfl,hO.out,hG.out,HL.out,hE.out,hI.out,hS.out,HD.out⟩
theorem build_E (w:World) (p:Array Value) (hp:p.size=21):(Instr.buildSlice 31 1 #[(0,.agg p)]).run Tryz.prog w=.ok (.slice (some ⟨w.heap.size,0,none⟩) 1 1) (w.alloc (.cells p 61)):=by
 have:=zbA zhZ w [p] (fun x hx=>by rw[List.mem_singleton.1 hx];exact hp) (by omega) (by simp) (by simp) #[(0,.agg p)] rfl;simpa using this
theorem zlD (w:World) (q:Nat) (s:ByteArray) (e:Int) (h:InAt w q s e) (hs:s.size≤1000000) (ok good:EntI→Prop) (enc:EntI→List UInt8) (hone:∀ W (s':ByteArray) (e':Int),Keep (fun g=>g=q) w W→InAt W q s' e'→s'.size≤s.size→Calls Tryz.prog 71 #[.pointer (some ⟨q,0,none⟩)] W (GotA (fun x=>.agg (EntI.arr x)) ok good enc W q s' e')):Calls Tryz.prog 70 #[.pointer (some ⟨q,0,none⟩),.func (.func 71) #[] #[]] w (fun en w'=>∃ (v:Value) (l:List EntI) (s':ByteArray) (e':Int),en=.returned v∧w'.ownsRow w.heap.size 61 21 v l.length (l.map EntI.cells).flatten∧(∀ x∈l,ok x)∧l.length≤257∧Keep (fun g=>g=q) w w'∧InAt w' q s' e'∧s'.size≤s.size ∧ ∀ (l0:List EntI) rest,(∀ x∈l0,good x)→l0.length≤256→e=0→s.data.toList=lebL l0.length++((l0.map enc).flatten++rest)→l=l0∧s'.data.toList=rest∧e'=0):=by
 have HN:=hid (n_c w q s e h (by omega));have HOne:=hid hone;have hqw:=hid h.lt;clear hone h;go_enter Tryz.func70,Tryz.ntmps70;go_wp2_with fail
 refine(HN.out).mono ?_;rintro en w2 ⟨n,s2,e2,rfl,hn,k2,h2,hs2,r2⟩;have HI2:=hid h2;have HK2:=hid k2;have HS2:=hid hs2;have HB:Hid (∀ (l0:List EntI) rest,l0.length≤256→e=0→s.data.toList=lebL l0.length++((l0.map enc).flatten++rest)→n=l0.length∧s2.data.toList=(l0.map enc).flatten++rest∧e2=0):=fun l0 rest a0 a1 a2=>by
  obtain⟨b1,b2,b3⟩:=r2 l0.length _ a1 (by omega) a2;exact⟨b1,b2,b3⟩
 clear k2 h2 r2 hs2 HN;go_wp2_with fail
 go_loopw [5,7] (fun s5 s7 wr=>∃ (k:Nat) (ov:Value) (l:List EntI) (s':ByteArray) (e':Int),ov=s5∧k≤n∧k≤257∧s7=.int .i64 k∧l.length=k∧Hid (Keep (fun g=>g=q) w wr)∧Hid (InAt wr q s' e')∧Hid (s'.size≤s.size)∧Hid (∀ z∈l,ok z)∧Hid (wr.ownsRow w.heap.size 61 21 s5 l.length (l.map EntI.cells).flatten)∧Hid (∀ (l0:List EntI) rest,(∀ x∈l0,good x)→l0.length≤256→e=0→s.data.toList=lebL l0.length++((l0.map enc).flatten++rest)→n=l0.length∧l=l0.take k∧s'.data.toList=((l0.drop k).map enc).flatten++rest∧e'=0)) (fun _ s7 _=>300-(intOf s7).toNat)
 case atStart=>exact⟨0,_,[],s2,e2,rfl,by omega,by omega,rfl,rfl,HK2,HI2,HS2,fun x hx=>(by cases hx),zp _ _ _ _,fun l0 rest a0 a1 a2 a3=>by
  obtain⟨b1,b2,b3⟩:=HB.out l0 rest a1 a2 a3;exact⟨b1,rfl,b2,b3⟩⟩
 case round=>
  obtain⟨k,s5,l,s',e',rfl,hk,hk2,rfl,hlen,hE,hI,hS,hG,hO,hB⟩:=hrel;clear HK2 HI2 HS2 HB;by_cases hlt:k<n∧k≤256
  ·have d1:decide ((k:Int)<n)=true:=decide_eq_true (by omega)
   have d1':decide (k<n)=true:=decide_eq_true hlt.1;have d2:decide ((k:Int)≤256)=true:=decide_eq_true (by omega);have d2':decide (k≤256)=true:=decide_eq_true hlt.2;have hln:=hid hlen;have hlt':=hid hlt;have HCall:=HOne.out _ s' e' hE.out hI.out hS.out;have HWs:=hid hE.out.size;have hk1:k≤1000:=by omega
   clear hlen hlt hk hk2;go_wp2_with fail
   refine HCall.mono ?_;rintro en w4 ⟨x,s4,e4,rfl,hg,k4,h4,hs4,hb⟩;have hz:Hid ((EntI.arr x).size=21):=rfl;have hK4:=hid (hE.out.trans k4);have hI4:=hid h4;have hS4:Hid (s4.size≤s.size):=by have:=hS.out;unfold Hid;omega
   have hO4:Hid (w4.ownsRow w.heap.size 61 21 s5 l.length (l.map EntI.cells).flatten):=zq hO.out k4 (fun g hg hq=>by have:=(zt hO.out g hg).1;have:=hqw.out;omega);have hB4:Hid (∀ (l0:List EntI) rest,(∀ x∈l0,good x)→l0.length≤256→e=0→s.data.toList=lebL l0.length++((l0.map enc).flatten++rest)→n=l0.length∧l++[x]=l0.take (k+1)∧s4.data.toList=((l0.drop (k+1)).map enc).flatten++rest∧e4=0):=fun l0 rest a0 a1 a2 a3=>by
    obtain⟨b1,b2,b3,b4⟩:=hB.out l0 rest a0 a1 a2 a3;have hlt:=hlt'.out;have hkl:k<l0.length:=by omega
    rw[List.drop_eq_getElem_cons hkl,List.map_cons,List.flatten_cons,List.append_assoc] at b3;obtain⟨c1,c2,c3⟩:=hb l0[k] _ (a0 _ (List.getElem_mem hkl)) b4 b3;refine⟨b1,?_,c2,c3⟩;rw[List.take_succ_eq_append_getElem hkl,←b2,←c1]
   have hG4:Hid (∀ z∈l++[x],ok z):=fun y hy=>by
    rcases List.mem_append.1 hy with hy | hy
    ·exact hG.out y hy
    ·rw[List.mem_singleton.1 hy];exact hg
   have hbs:=fun W=>build_E W (EntI.arr x) hz.out;obtain⟨v',w6,hrun6,ho6,hk6,_⟩:=zaJ (P:=Tryz.prog) zhZ ent_coded hO4.out hK4.out.size x (by have:=hlt'.out;have:=hln.out;omega) (by omega);have HAe:Hid ((EntI.cells x).toArray=EntI.arr x):=rfl;rw[HAe.out] at hrun6;have HK6:=hid (zak hK4.out hk6 (fun g hg=>(zt hO4.out g hg).1));have HI6:Hid (InAt w6 q s4 e4):=Blk.keep hI4.out hk6 (fun h=>by have:=(zt hO4.out q h).1;have:=hqw.out;omega);have HO6:=hid ho6;obtain⟨arr,harr⟩:∃ arr,EntI.arr x=arr:=⟨_,rfl⟩
   dsimp only;rw[harr] at hz hbs HAe hrun6⊢;clear hb hg HCall k4 h4 hs4 ho6 hk6 hE hI hS hG hO hB harr hI4 hO4 hK4;go_wp2_with (first | (at_builtin;refine zx rfl (.tmp 19) (.tmp 23) _ _ rfl rfl rfl hrun6 ?_) | (refine zc3 rfl 31 (.tmp 22) rfl rfl (hbs _) ?_))
   go_roundw
   case rel=>exact⟨k+1,_,l++[x],s4,e4,rfl,by have:=hlt'.out;omega,by have:=hlt'.out;omega,by go_num,by rw[List.length_append,hln.out];rfl,HK6,HI6,hS4,hG4,HO6,hB4⟩
   case measure=>simp[intOf];have:=hlt'.out;omega
  ·have HD:Hid (∀ (l0:List EntI) rest,(∀ x∈l0,good x)→l0.length≤256→e=0→s.data.toList=lebL l0.length++((l0.map enc).flatten++rest)→l=l0∧s'.data.toList=rest∧e'=0):=fun l0 rest a0 a1 a2 a3=>by
    obtain⟨b1,b2,b3,b4⟩:=hB.out l0 rest a0 a1 a2 a3;have hkn:k=l0.length:=by omega
    rw[hkn,List.take_length] at b2;rw[hkn,List.drop_length] at b3;exact⟨b2,b3,b4⟩
   have HL:Hid (l.length≤257):=by unfold Hid;omega
   clear hB HOne hlen;by_cases hkn:k<n
   ·have d1:decide ((k:Int)<n)=true:=decide_eq_true (by omega)
    have d1':decide (k<n)=true:=decide_eq_true hkn;have d2:decide ((k:Int)≤256)=false:=decide_eq_false (by omega);have d2':decide (k≤256)=false:=decide_eq_false (by omega);clear hlt hkn hk hk2;go_wp2_with fail
    go_ret;exact⟨_,l,s',e',rfl,hO.out,hG.out,HL.out,hE.out,hI.out,hS.out,HD.out⟩
   ·have d1:decide ((k:Int)<n)=false:=decide_eq_false (by omega)
    have d1':decide (k<n)=false:=decide_eq_false hkn;clear hlt hkn hk hk2;go_wp2_with fail
    go_ret;exact⟨_,l,s',e',rfl,hO.out,hG.out,HL.out,hE.out,hI.out,hS.out,HD.out⟩
end
section
open Go.RowKit
theorem getUo_c (w:World) (s:ByteArray) (m:Int) (hm:w.cell? ⟨0,0,none⟩=some (.int .i64 m)) (hs:s.size≤90000):Calls Tryz.prog 123 #[.string s] w (fun en w'=>∃ (x:UpdI) (z:Int),en=.returned (.tuple #[.agg (updA x),.int .i64 z])∧x.in64∧x.p.size≤1000∧x.d.size≤1000∧(∀ u:UpdI,u.in64→zS u=true→s=updB u→x=u)∧Ext w w'):=by
 refine(getU_x w s m hm hs).mono ?_;rintro en w' ⟨x,hi,hp,hd,hb,rfl,hx⟩;by_cases hc:okZ (zS x)=0∧putB (zS x) (updB x)=s
 ·rw[if_pos hc,if_pos hc]
  have hr:=zcA (zfk.1 hc.1);exact⟨x,0,rfl,hi,by have:=hr.p;omega,by have:=hr.d;omega,fun u h1 h2 h3=>hb u h1 (zcA h2) h3,hx⟩
 ·rw[if_neg hc,if_neg hc]
  refine⟨upd0,6,rfl,by unfold UpdI.in64 in64 upd0;decide,by decide,by decide,fun u h1 h2 h3=>?_,hx⟩;obtain rfl:=hb u h1 (zcA h2) h3;exact absurd ⟨by rw[h2];rfl,by rw[h2,h3];rfl⟩ hc
theorem getMo_c (w:World) (s:ByteArray) (m:Int) (hm:w.cell? ⟨0,0,none⟩=some (.int .i64 m)) (hs:s.size≤90000):Calls Tryz.prog 124 #[.string s] w (fun en w'=>∃ (x:MetaI) (z:Int),en=.returned (.tuple #[.agg (metA x),.int .i64 z])∧x.in64∧in64 x.size∧x.p.size≤1000∧(∀ u:MetaI,u.in64→zW u=true→s=metB u→x=u)∧Ext w w'):=by
 refine(getM_x w s m hm hs).mono ?_;rintro en w' ⟨x,hi,hp,hd,hb,rfl,hx⟩;by_cases hc:okZ (zW x)=0∧putB (zW x) (metB x)=s
 ·rw[if_pos hc,if_pos hc]
  have hr:=zb5 ((zds x).1 (zfk.1 hc.1));exact⟨x,0,rfl,hi,hd,by have:=hr.p;omega,fun u h1 h2 h3=>hb u h1 (zb5 ((zds u).1 h2)) h3,hx⟩
 ·rw[if_neg hc,if_neg hc]
  refine⟨met0,6,rfl,by unfold MetaI.in64 in64 met0;decide,by unfold in64 met0;decide,by decide,fun u h1 h2 h3=>?_,hx⟩;obtain rfl:=hb u h1 (zb5 ((zds u).1 h2)) h3;exact absurd ⟨by rw[h2];rfl,by rw[h2,h3];rfl⟩ hc
attribute [-simp] Tryz.isAgg61 Tryz.sizeOf61 Tryz.sizeOf55 Tryz.sizeOf57 Tryz.sizeOf59
theorem zkf (p:PairI):(pairA p).all (·.oneCell')=true:=by
 rw[Array.all_eq_true_iff_forall_mem];intro x hx;simp[pairA] at hx;rcases hx with rfl | rfl | rfl | rfl <;> rfl
theorem upd_in:upd0.in64:=by unfold UpdI.in64 in64 upd0;decide
theorem zle:upd0.p.size≤1000:=by decide
theorem zlf:upd0.d.size≤1000:=by decide
theorem zlR:met00.p.size≤1000:=by decide
theorem zlQ:in64 met00.size:=by unfold in64 met00;decide
theorem zgS:(in64 pair00.a.by_∧in64 pair00.a.n)∧(in64 pair00.b.by_∧in64 pair00.b.n):=by unfold in64 pair00;decide
theorem ziS:met00.in64:=by unfold MetaI.in64 in64 met00;decide
def entK (z:Int):Array Value:=(EntI.mk z upd0 met00 pair00).arr
def zhk (y:EntI):List UInt8:=if y.kind=1 then lebL (updB y.u).size++(updB y.u).data.toList else if y.kind=2 then lebL (metB y.m).size++(metB y.m).data.toList else lebL y.o.a.by_.toNat++(lebL y.o.a.n.toNat++(lebL y.o.b.by_.toNat++lebL y.o.b.n.toNat))
theorem zeL {y:EntI} (hr:zJ y=true):encL (entF y)=lebL y.kind.toNat++zhk y:=by
 unfold entF zhk;rw[if_pos hr];by_cases h1:y.kind=1
 ·rw[if_pos h1,if_pos h1]
  show [_,_].flatten=_
  simp[FldI.enc,fN,fT]
 ·by_cases h2:y.kind=2
  ·rw[if_neg h1,if_pos h2,if_neg h1,if_pos h2]
   show [_,_].flatten=_
   simp[FldI.enc,fN,fT]
  ·rw[if_neg h1,if_neg h2,if_neg h1,if_neg h2]
   show [_,_,_,_,_].flatten=_
   simp[FldI.enc,fN]
theorem zcF {y:EntI} (hr:zJ y=true):(y.kind=1∧y=⟨1,y.u,met00,pair00⟩∧zS y.u=true)∨(y.kind=2∧y=⟨2,upd0,y.m,pair00⟩∧zW y.m=true)∨(y.kind=3∧y=⟨3,upd0,met00,y.o⟩∧zaP y.o=true):=by
 unfold zJ zbM at hr;rw[Bool.and_eq_true] at hr;by_cases h1:y.kind=1
 ·rw[if_pos h1,if_pos h1] at hr
  obtain⟨a,b⟩:=of_decide_eq_true hr.1;refine .inl ⟨h1,?_,hr.2⟩;cases y;simp_all
 ·by_cases h2:y.kind=2
  ·rw[if_neg h1,if_pos h2,if_neg h1,if_pos h2] at hr
   obtain⟨a,b⟩:=of_decide_eq_true hr.1;refine .inr (.inl ⟨h2,?_,hr.2⟩);cases y;simp_all
  ·rw[if_neg h1,if_neg h2,if_neg h1,if_neg h2] at hr
   obtain⟨a,b,c⟩:=of_decide_eq_true hr.1;refine .inr (.inr ⟨a,?_,hr.2⟩);cases y;simp_all
theorem zdN {y:EntI} (hr:zJ y=true) {z:Nat} (hz:z=y.kind.toNat):y.kind=z:=by
 rcases zcF hr with h | h | h <;> omega
theorem zi1 (w:World) (q:Nat) (s:ByteArray) (e:Int) (mx:Int) (hm:w.cell? ⟨0,0,none⟩=some (.int .i64 mx)) (hq0:0<q) (h:InAt w q s e) (hs:s.size≤65536):Calls Tryz.prog 71 #[.pointer (some ⟨q,0,none⟩)] w (GotA (fun x=>.agg (EntI.arr x)) EntOk (fun x=>EntOk x∧zJ x=true) (fun x=>encL (entF x)) w q s e):=by
 have HN:=hid (fun W h'=>n_c W q s e h' (by omega));have HT:=fun W (s':ByteArray) (e':Int) (h':InAt W q s' e') (hs':s'.size≤65536)=>hid (t_c W q s' e' h' (by omega));have hc0:=fun W (hW:Keep (fun g=>g=q) w W)=>zL hW (Nat.lt_of_le_of_lt (Nat.zero_le _) h.lt) (by omega) hm;have HGu:=fun W t (hW:Keep (fun g=>g=q) w W) (ht:t.size≤65536)=>hid (getUo_c W t mx (hc0 W hW) (by omega));have HGm:=fun W t (hW:Keep (fun g=>g=q) w W) (ht:t.size≤65536)=>hid (getMo_c W t mx (hc0 W hW) (by omega));have HGp:=fun W (s':ByteArray) (e':Int) (h':InAt W q s' e') (hs':s'.size≤65536)=>hid (zfn W q s' e' h' (by omega))
 obtain⟨Z,hZ⟩:∃ Z:Array Value,entZ=Z:=⟨_,rfl⟩
 have hZs:Z.size=21:=by rw[←hZ];rfl
 have HZ:=hid hZs;have hZk:=hid (fun z=>show entZ.setIfInBounds 0 (.int .i64 z)=entK z from rfl);rw[hZ] at hZk;unfold entZ at hZ;have HR0:=hid (Blk.new w 61 Z);have HE0:=hid (Ext.alloc w (.cells Z 61));have HI0:=hid (h.ext HE0.out);have NR:Hid (¬ w.heap.size=q):=by have:=h.lt;unfold Hid;omega
 have NI:Hid (¬ q=w.heap.size):=fun h=>NR.out h.symm;clear h hm hc0;go_enter Tryz.func71,Tryz.ntmps71;go_wp2_with fail
 generalize w.alloc (.cells Z 61)=w1 at HR0 HE0 HI0⊢;refine((HN.out _ HI0.out)).mono ?_;rintro en w2 ⟨z,s2,e2,rfl,hz2,k2,h2,hs2,r2⟩;have hzk:=hZk.out z;have hkz:¬ Z=#[]:=fun h9=>by rw[h9] at hZs;cases hZs
 have hso1:=fun W=>Tryz.sizeOf55 W;have hso2:=fun W=>Tryz.sizeOf57 W;have hso3:=fun W=>Tryz.sizeOf59 W;have R2:=hid r2;have Hz2:=hid hz2;have hs2':s2.size≤65536:=by omega
 have hs2s:=hid hs2;have hzA:Hid ((entK z).size=21):=rfl;have hoA:=hid (zdi (EntI.mk z upd0 met00 pair00));have hA1:=hid (fun(x:UpdI)=>show((entK z).toList.take 1++((updA x).toList++(entK z).toList.drop (1+(updA x).toList.length))).toArray=(EntI.mk z x met00 pair00).arr from rfl);have hA2:=hid (fun(x:MetaI)=>show((entK z).toList.take 9++((metA x).toList++(entK z).toList.drop (9+(metA x).toList.length))).toArray=(EntI.mk z upd0 x pair00).arr from rfl);have hA3:=hid (fun(x:PairI)=>show((entK z).toList.take 17++((pairA x).toList++(entK z).toList.drop (17+(pairA x).toList.length))).toArray=(EntI.mk z upd0 met00 x).arr from rfl)
 have hA0:=hid (show entK z=(EntI.mk z upd0 met00 pair00).arr from rfl);have ck:Hid ((entK z)[0]? = some (.int .i64 z)):=rfl
 change Hid ((entK z).all (·.oneCell')=true) at hoA
 generalize entK z=A0 at hzk hzA hoA hA0 hA1 hA2 hA3 ck;have X2:=hid (Ext.alloc w2 (.cells A0 61));have HI3:=hid (h2.ext X2.out);have HR3:=hid ((HR0.out.keep k2 NR.out).ext X2.out);have HK3:=hid (((Keep.of_ext (S:=fun g=>g=q) HE0.out).trans k2).ext X2.out);have HU3:=hid (Blk.new w2 61 A0);have NU:Hid (¬ w2.heap.size=q):=by have:=h2.lt;unfold Hid;omega
 have NUR:Hid (¬ w2.heap.size=w.heap.size):=by have:=(HR0.out.keep k2 NR.out).lt;unfold Hid;omega
 have GU:Hid (w.heap.size≤w2.heap.size):=Nat.le_trans HE0.out.size k2.size;clear k2 h2 hs2 r2 HI0 HR0 HE0 X2 hZs hZk HN;go_wp2_with fail
 clear hzk hkz hso1 hso2 hso3;have HB3:=hid (Blk.new w2 61 Z);simp only[Tryz.sizeOf61,Result.andThen,↓reduceIte,zb HB3.out (by rw[hzA.out];exact zbc) (by rw[hzA.out,HZ.out]) hoA.out,hzA.out];rw[Oper.upon_skip];rw[World.setRow_alloc_new];clear HB3;generalize w2.alloc (.cells A0 61)=w3 at HI3 HR3 HU3 HK3⊢;obtain⟨g,hg⟩:∃ g,w2.heap.size=g:=⟨_,rfl⟩
 rw[hg] at NU NUR GU HU3⊢;clear hg;have c0:=HU3.out.cell ck.out;have l3:=HU3.out.lt;by_cases h1:z=1
 ·have d1:((z:Int)==1)=true:=by rw[h1];rfl
  have H1:=hid h1;clear h1 HGm HGp hA2 hA3;go_wp2_with fail
  refine((HT _ _ _ HI3.out hs2').out).mono ?_;rintro en w4 ⟨t,s4,e4,rfl,ht,k4,h4,hs4,r4⟩;have HI4:=hid h4;have HR4:=hid (HR3.out.keep k4 NR.out);have HU4:=hid (HU3.out.keep k4 NU.out);have HK4:=hid (HK3.out.trans k4);have R4:=hid r4;have ht':t.size≤65536:=by omega
  have HS4:=hid (Nat.le_trans hs4 hs2s.out);clear k4 h4 r4 ht hs4 HI3 HR3 HU3 HK3 HT c0 l3;go_wp2_with fail
  refine((HGu _ _ HK4.out ht').out).mono ?_;rintro en w5 ⟨x,z5,rfl,hx1,hx2,hx3,hb,x5⟩;have HI5:=hid (HI4.out.ext x5);have HR5:=hid (HR4.out.ext x5);have HU5:=hid (HU4.out.ext x5);have HK5:=hid (HK4.out.ext x5);have B5:=hid hb;have HX5:=hid (And.intro hx1 (And.intro hx2 hx3));clear hb hx1 hx2 hx3 x5 HI4 HR4 HU4 HK4;have hle:Hid (1+(updA x).toList.length≤A0.size):=by unfold Hid;rw[hzA.out];show 1+8≤21;omega
  have h1V:Hid (∀ u∈(updA x).toList,u.oneCell'=true):=fun u hu=>Array.all_eq_true_iff_forall_mem.1 (zhg x) u (Array.mem_toList_iff.1 hu);have hVz:Hid ((updA x).size=8):=rfl;have hst:=hid (hA1.out x);obtain⟨V,hV⟩:∃ V,updA x=V:=⟨_,rfl⟩
  rw[hV] at hle h1V hst hVz⊢;clear hV hA1;go_wp2_with fail
  simp only[Tryz.sizeOf55,Result.andThen];rw[if_neg (show ¬ (8:Nat)=0 by omega)];dsimp only;rw[Oper.upon_value];go_wp2_with fail
  simp only[Tryz.sizeOf55,Result.andThen,↓reduceIte,hVz.out,zaa HU5.out hle.out h1V.out];rw[Oper.upon_skip];have HU6:=hid (HU5.out.setCells V.toList 1 hle.out);rw[hst.out] at HU6;have kS:=Keep.setCells (S:=fun q=>q=g) (.inl rfl) V.toList (Keep.refl _ w5) 1;have HI6:=hid (show InAt (w5.setCells g 1 V.toList) q s4 e4 from Blk.keep HI5.out kS (fun h=>NU.out h.symm));have HR6:=hid (HR5.out.keep kS (fun h=>NUR.out h.symm));have HK6:=hid (zak HK5.out kS (fun k hk=>by rw[hk];exact GU.out));have hz6:Hid ((EntI.mk z x met00 pair00).arr.size=21):=rfl;have ho6:=hid (zdi (EntI.mk z x met00 pair00))
  obtain⟨X,hX⟩:∃ X,(EntI.mk z x met00 pair00).arr=X:=⟨_,rfl⟩
  have HXe:=hid hX;rw[hX] at HU6 hz6 ho6;clear hX kS HU5 HI5 HR5 HK5 hst hle h1V;generalize w5.setCells g 1 V.toList=w6 at HU6 HI6 HR6 HK6⊢;go_wp2_with fail
  simp only[Tryz.isAgg61,Tryz.sizeOf61,Result.andThen,↓reduceIte,za HU6.out 21 hz6.out];rw[Oper.upon_value];go_wp2_with fail
  simp only[Tryz.sizeOf61,Result.andThen,↓reduceIte,zb HR6.out (by rw[hz6.out];exact zbc) (by rw[hz6.out,HZ.out]) ho6.out,hz6.out];rw[Oper.upon_skip];go_wp2_with fail
  have HF:=hid (HR6.out.setRow X);have HIf:Hid (InAt (w6.setRow w.heap.size X) q s4 e4):=by
   have h9:Blk w6 q 122 #[.string s4,.int .i64 e4]:=HI6.out
   show Blk _ _ _ _
   unfold Blk;rw[setRow_other _ _ _ _ NI.out];exact h9
  have HKf:=hid (Keep.setRow (S:=fun g=>g=q) HK6.out (.inr (Nat.le_refl _)) X);refine bodyPost_ret (results_cell_row rfl _ _ w.heap.size 61 _ (0,0) _ rfl HF.out Tryz.underlying61 rfl (by rw[hz6.out];exact zbc)) rfl ⟨EntI.mk z x met00 pair00,s4,e4,by dsimp only;rw[HXe.out],?_,HKf.out,HIf.out,HS4.out,?_⟩
  ·exact⟨HX5.out.1,HX5.out.2.1,HX5.out.2.2,ziS,zlR,zlQ,by unfold in64;have:=Hz2.out;dsimp only;omega,zgS⟩
  ·intro y rest hy a0 hsy
   obtain⟨hok,hr⟩:=hy
   replace hsy:s.data.toList=encL (entF y)++rest:=hsy
   rw[zeL hr,List.append_assoc] at hsy;have hk9:=hok.k.2;obtain⟨b1,b2,b3⟩:=R2.out _ _ a0 (by omega) hsy;have hk:=zdN hr b1;have h1:=H1.out;rcases zcF hr with hq | hq | hq
   ·obtain⟨k1,k2,k3⟩:=hq
    unfold zhk at b2;simp only[k1,↓reduceIte] at b2;rw[List.append_assoc] at b2;obtain⟨c1,c2,c3⟩:=R4.out _ _ b3 b2;have c4:=B5.out _ hok.u k3 c1;refine⟨?_,c2,c3⟩;rw[k2,c4,h1];rfl
   ·exfalso;obtain⟨hq,_⟩:=hq;omega
   ·exfalso;obtain⟨hq,_⟩:=hq;omega
 have d1:((z:Int)==1)=false:=by
  have:¬ (z:Int)=1:=by omega
  simpa using this
 by_cases h2:z=2
 ·have d2:((z:Int)==2)=true:=by rw[h2];rfl
  have H1:=hid h2;clear h2 HGu HGp hA1 hA3;go_wp2_with fail
  refine((HT _ _ _ HI3.out hs2').out).mono ?_;rintro en w4 ⟨t,s4,e4,rfl,ht,k4,h4,hs4,r4⟩;have HI4:=hid h4;have HR4:=hid (HR3.out.keep k4 NR.out);have HU4:=hid (HU3.out.keep k4 NU.out);have HK4:=hid (HK3.out.trans k4);have R4:=hid r4;have ht':t.size≤65536:=by omega
  have HS4:=hid (Nat.le_trans hs4 hs2s.out);clear k4 h4 r4 ht hs4 HI3 HR3 HU3 HK3 HT c0 l3;go_wp2_with fail
  refine((HGm _ _ HK4.out ht').out).mono ?_;rintro en w5 ⟨x,z5,rfl,hx1,hx2,hx3,hb,x5⟩;have HI5:=hid (HI4.out.ext x5);have HR5:=hid (HR4.out.ext x5);have HU5:=hid (HU4.out.ext x5);have HK5:=hid (HK4.out.ext x5);have B5:=hid hb;have HX5:=hid (And.intro hx1 (And.intro hx2 hx3));clear hb hx1 hx2 hx3 x5 HI4 HR4 HU4 HK4;have hle:Hid (9+(metA x).toList.length≤A0.size):=by unfold Hid;rw[hzA.out];show 9+8≤21;omega
  have h1V:Hid (∀ u∈(metA x).toList,u.oneCell'=true):=fun u hu=>Array.all_eq_true_iff_forall_mem.1 (zhD x) u (Array.mem_toList_iff.1 hu);have hVz:Hid ((metA x).size=8):=rfl;have hst:=hid (hA2.out x);obtain⟨V,hV⟩:∃ V,metA x=V:=⟨_,rfl⟩
  rw[hV] at hle h1V hst hVz⊢;clear hV hA2;go_wp2_with fail
  simp only[Tryz.sizeOf57,Result.andThen];rw[if_neg (show ¬ (8:Nat)=0 by omega)];dsimp only;rw[Oper.upon_value];go_wp2_with fail
  simp only[Tryz.sizeOf57,Result.andThen,↓reduceIte,hVz.out,zaa HU5.out hle.out h1V.out];rw[Oper.upon_skip];have HU6:=hid (HU5.out.setCells V.toList 9 hle.out);rw[hst.out] at HU6;have kS:=Keep.setCells (S:=fun q=>q=g) (.inl rfl) V.toList (Keep.refl _ w5) 9;have HI6:=hid (show InAt (w5.setCells g 9 V.toList) q s4 e4 from Blk.keep HI5.out kS (fun h=>NU.out h.symm));have HR6:=hid (HR5.out.keep kS (fun h=>NUR.out h.symm));have HK6:=hid (zak HK5.out kS (fun k hk=>by rw[hk];exact GU.out));have hz6:Hid ((EntI.mk z upd0 x pair00).arr.size=21):=rfl;have ho6:=hid (zdi (EntI.mk z upd0 x pair00))
  obtain⟨X,hX⟩:∃ X,(EntI.mk z upd0 x pair00).arr=X:=⟨_,rfl⟩
  have HXe:=hid hX;rw[hX] at HU6 hz6 ho6;clear hX kS HU5 HI5 HR5 HK5 hst hle h1V;generalize w5.setCells g 9 V.toList=w6 at HU6 HI6 HR6 HK6⊢;go_wp2_with fail
  simp only[Tryz.isAgg61,Tryz.sizeOf61,Result.andThen,↓reduceIte,za HU6.out 21 hz6.out];rw[Oper.upon_value];go_wp2_with fail
  simp only[Tryz.sizeOf61,Result.andThen,↓reduceIte,zb HR6.out (by rw[hz6.out];exact zbc) (by rw[hz6.out,HZ.out]) ho6.out,hz6.out];rw[Oper.upon_skip];go_wp2_with fail
  have HF:=hid (HR6.out.setRow X);have HIf:Hid (InAt (w6.setRow w.heap.size X) q s4 e4):=by
   have h9:Blk w6 q 122 #[.string s4,.int .i64 e4]:=HI6.out
   show Blk _ _ _ _
   unfold Blk;rw[setRow_other _ _ _ _ NI.out];exact h9
  have HKf:=hid (Keep.setRow (S:=fun g=>g=q) HK6.out (.inr (Nat.le_refl _)) X);refine bodyPost_ret (results_cell_row rfl _ _ w.heap.size 61 _ (0,0) _ rfl HF.out Tryz.underlying61 rfl (by rw[hz6.out];exact zbc)) rfl ⟨EntI.mk z upd0 x pair00,s4,e4,by dsimp only;rw[HXe.out],?_,HKf.out,HIf.out,HS4.out,?_⟩
  ·exact⟨upd_in,zle,zlf,HX5.out.1,HX5.out.2.2,HX5.out.2.1,by unfold in64;have:=Hz2.out;dsimp only;omega,zgS⟩
  ·intro y rest hy a0 hsy
   obtain⟨hok,hr⟩:=hy
   replace hsy:s.data.toList=encL (entF y)++rest:=hsy
   rw[zeL hr,List.append_assoc] at hsy;have hk9:=hok.k.2;obtain⟨b1,b2,b3⟩:=R2.out _ _ a0 (by omega) hsy;have hk:=zdN hr b1;have h1:=H1.out;rcases zcF hr with hq | hq | hq
   ·exfalso;obtain⟨hq,_⟩:=hq;omega
   ·obtain⟨k1,k2,k3⟩:=hq
    unfold zhk at b2;simp only[k1,show ¬ (2:Int)=1 by omega,↓reduceIte] at b2;rw[List.append_assoc] at b2;obtain⟨c1,c2,c3⟩:=R4.out _ _ b3 b2;have c4:=B5.out _ hok.m k3 c1;refine⟨?_,c2,c3⟩;rw[k2,c4,h1];rfl
   ·exfalso;obtain⟨hq,_⟩:=hq;omega
 have d2:((z:Int)==2)=false:=by
  have:¬ (z:Int)=2:=by omega
  simpa using this
 by_cases h3:z=3
 ·have d3:((z:Int)==3)=true:=by rw[h3];rfl
  have H1:=hid h3;clear h3 HGu HGm hA1 hA2;go_wp2_with fail
  refine((HGp _ _ _ HI3.out hs2').out).mono ?_;rintro en w5 ⟨y1,y2,y3,y4,s4,e4,rfl,b1,b2,b3,b4,k4,h4,hs4,r4⟩;have HI5:=hid h4;have HR5:=hid (HR3.out.keep k4 NR.out);have HU5:=hid (HU3.out.keep k4 NU.out);have HK5:=hid (HK3.out.trans k4);have R4:=hid r4;have HS4:=hid (Nat.le_trans hs4 hs2s.out);have HX5:=hid (And.intro b1 (And.intro b2 (And.intro b3 b4)));obtain⟨x,hx⟩:∃ x:PairI,x=⟨⟨y1,y2⟩,⟨y3,y4⟩⟩:=⟨_,rfl⟩
  have hxa:#[.int .i64 y1,.int .i64 y2,.int .i64 y3,.int .i64 y4]=pairA x:=by rw[hx];rfl
  have HXE:=hid hx;rw[hxa];clear hx hxa b1 b2 b3 b4 k4 h4 hs4 r4 HI3 HR3 HU3 HK3 HT c0 l3;have hle:Hid (17+(pairA x).toList.length≤A0.size):=by unfold Hid;rw[hzA.out];show 17+4≤21;omega
  have h1V:Hid (∀ u∈(pairA x).toList,u.oneCell'=true):=fun u hu=>Array.all_eq_true_iff_forall_mem.1 (zkf x) u (Array.mem_toList_iff.1 hu);have hVz:Hid ((pairA x).size=4):=rfl;have hst:=hid (hA3.out x);obtain⟨V,hV⟩:∃ V,pairA x=V:=⟨_,rfl⟩
  rw[hV] at hle h1V hst hVz⊢;clear hV hA3;go_wp2_with fail
  simp only[Tryz.sizeOf59,Result.andThen];rw[if_neg (show ¬ (4:Nat)=0 by omega)];dsimp only;rw[Oper.upon_value];go_wp2_with fail
  simp only[Tryz.sizeOf59,Result.andThen,↓reduceIte,hVz.out,zaa HU5.out hle.out h1V.out];rw[Oper.upon_skip];have HU6:=hid (HU5.out.setCells V.toList 17 hle.out);rw[hst.out] at HU6;have kS:=Keep.setCells (S:=fun q=>q=g) (.inl rfl) V.toList (Keep.refl _ w5) 17;have HI6:=hid (show InAt (w5.setCells g 17 V.toList) q s4 e4 from Blk.keep HI5.out kS (fun h=>NU.out h.symm));have HR6:=hid (HR5.out.keep kS (fun h=>NUR.out h.symm));have HK6:=hid (zak HK5.out kS (fun k hk=>by rw[hk];exact GU.out));have hz6:Hid ((EntI.mk z upd0 met00 x).arr.size=21):=rfl;have ho6:=hid (zdi (EntI.mk z upd0 met00 x))
  obtain⟨X,hX⟩:∃ X,(EntI.mk z upd0 met00 x).arr=X:=⟨_,rfl⟩
  have HXe:=hid hX;rw[hX] at HU6 hz6 ho6;clear hX kS HU5 HI5 HR5 HK5 hst hle h1V;generalize w5.setCells g 17 V.toList=w6 at HU6 HI6 HR6 HK6⊢;go_wp2_with fail
  simp only[Tryz.isAgg61,Tryz.sizeOf61,Result.andThen,↓reduceIte,za HU6.out 21 hz6.out];rw[Oper.upon_value];go_wp2_with fail
  simp only[Tryz.sizeOf61,Result.andThen,↓reduceIte,zb HR6.out (by rw[hz6.out];exact zbc) (by rw[hz6.out,HZ.out]) ho6.out,hz6.out];rw[Oper.upon_skip];go_wp2_with fail
  have HF:=hid (HR6.out.setRow X);have HIf:Hid (InAt (w6.setRow w.heap.size X) q s4 e4):=by
   have h9:Blk w6 q 122 #[.string s4,.int .i64 e4]:=HI6.out
   show Blk _ _ _ _
   unfold Blk;rw[setRow_other _ _ _ _ NI.out];exact h9
  have HKf:=hid (Keep.setRow (S:=fun g=>g=q) HK6.out (.inr (Nat.le_refl _)) X);refine bodyPost_ret (results_cell_row rfl _ _ w.heap.size 61 _ (0,0) _ rfl HF.out Tryz.underlying61 rfl (by rw[hz6.out];exact zbc)) rfl ⟨EntI.mk z upd0 met00 x,s4,e4,by dsimp only;rw[HXe.out],?_,HKf.out,HIf.out,HS4.out,?_⟩
  ·refine⟨upd_in,zle,zlf,ziS,zlR,zlQ,by unfold in64;have:=Hz2.out;dsimp only;omega,?_⟩
   have:=HX5.out;rw[HXE.out];unfold in64;dsimp only;omega
  ·intro y rest hy a0 hsy
   obtain⟨hok,hr⟩:=hy
   replace hsy:s.data.toList=encL (entF y)++rest:=hsy
   rw[zeL hr,List.append_assoc] at hsy;have hk9:=hok.k.2;obtain⟨b1,b2,b3⟩:=R2.out _ _ a0 (by omega) hsy;have hk:=zdN hr b1;have h1:=H1.out;rcases zcF hr with hq | hq | hq
   ·exfalso;obtain⟨hq,_⟩:=hq;omega
   ·exfalso;obtain⟨hq,_⟩:=hq;omega
   ·obtain⟨k1,k2,k3⟩:=hq
    unfold zhk at b2;simp only[k1,show ¬ (3:Int)=1 by omega,show ¬ (3:Int)=2 by omega,↓reduceIte] at b2;simp only[List.append_assoc] at b2;unfold zaP zD at k3;simp only[Bool.and_eq_true,decide_eq_true_eq] at k3;have o1:=hok.o;unfold in64 at o1;obtain⟨c1,c2,c3,c4,c5,c6⟩:=R4.out _ _ _ _ _ b3 (by omega) (by omega) (by omega) (by omega) b2;refine⟨?_,c5,c6⟩;have e1:x=y.o:=by
     rw[HXE.out];obtain⟨_,_,_,⟨⟨o1,o2⟩,⟨o3,o4⟩⟩⟩:=y;dsimp only at *
     congr 2 <;> omega
    rw[k2,e1,h1];rfl
 have d3:((z:Int)==3)=false:=by
  have:¬ (z:Int)=3:=by omega
  simpa using this
 have H0:Hid (¬ z=1∧¬ z=2∧¬ z=3):=⟨h1,h2,h3⟩
 clear h1 h2 h3 HGu HGm HGp hA1 hA2 hA3 HT;rw[hA0.out] at HU3 hzA hoA;obtain⟨X,hX⟩:∃ X,(EntI.mk z upd0 met00 pair00).arr=X:=⟨_,rfl⟩
 have HXe:=hid hX;rw[hX] at HU3 hzA hoA;have hz3:=hzA;have ho3:=hoA;go_wp2_with fail
 clear c0 l3;simp only[Tryz.isAgg61,Tryz.sizeOf61,Result.andThen,↓reduceIte,za HU3.out 21 hz3.out];rw[Oper.upon_value];go_wp2_with fail
 simp only[Tryz.sizeOf61,Result.andThen,↓reduceIte,zb HR3.out (by rw[hz3.out];exact zbc) (by rw[hz3.out,HZ.out]) ho3.out,hz3.out];rw[Oper.upon_skip];go_wp2_with fail
 have HF:=hid (HR3.out.setRow X);have HIf:Hid (InAt (w3.setRow w.heap.size X) q s2 e2):=by
  have h9:Blk w3 q 122 #[.string s2,.int .i64 e2]:=HI3.out
  show Blk _ _ _ _
  unfold Blk;rw[setRow_other _ _ _ _ NI.out];exact h9
 have HKf:=hid (Keep.setRow (S:=fun g=>g=q) HK3.out (.inr (Nat.le_refl _)) X);refine bodyPost_ret (results_cell_row rfl _ _ w.heap.size 61 _ (0,0) _ rfl HF.out Tryz.underlying61 rfl (by rw[hz3.out];exact zbc)) rfl ⟨EntI.mk z upd0 met00 pair00,s2,e2,by dsimp only;rw[HXe.out],?_,HKf.out,HIf.out,hs2s.out,?_⟩
 ·exact⟨upd_in,zle,zlf,ziS,zlR,zlQ,by unfold in64;have:=Hz2.out;dsimp only;omega,zgS⟩
 ·intro y rest hy a0 hsy
  obtain⟨hok,hr⟩:=hy
  replace hsy:s.data.toList=encL (entF y)++rest:=hsy
  rw[zeL hr,List.append_assoc] at hsy;have hk9:=hok.k.2;obtain⟨b1,b2,b3⟩:=R2.out _ _ a0 (by omega) hsy;have hk:=zdN hr b1;have h0:=H0.out
  exfalso
  rcases zcF hr with hq | hq | hq <;> (obtain⟨hq,_⟩:=hq;omega)
end
section
open Go.RowKit
theorem zbn:(Tryz.prog.info? 29).map (·.size)=some 2:=by kernel_rfl
attribute [-simp] Tryz.isAgg29 Tryz.sizeOf29
theorem sameK_x (w:World) (X:Array Value) (hX:X.size=2) (hX1:X.all (·.oneCell')=true) (s r:ByteArray) (e:Int) (HP:∀ W,Ext w W→Hid (Calls Tryz.prog 121 #[.agg X] W (Ret (.tuple #[.string r,.int .i64 e]) W))):Calls Tryz.prog 120 #[.agg X,.string s,.func (.func 121) #[] #[]] w (Ret (.tuple #[.agg (if e=0∧r=s then X else(#[.slice none 0 0,.slice none 0 0]:Array Value)),.int .i64 (if e=0∧r=s then 0 else 6)]) w):=by
 obtain⟨Z,hZ⟩:∃ Z:Array Value,(#[.slice none 0 0,.slice none 0 0]:Array Value)=Z:=⟨_,rfl⟩
 have HX:=hid (((Blk.new w 29 X).alloc (.cells Z 29)).alloc (.cells Z 29));have HR:=hid ((Blk.new (w.alloc (.cells X 29)) 29 Z).alloc (.cells Z 29));have HN:=hid (Blk.new ((w.alloc (.cells X 29)).alloc (.cells Z 29)) 29 Z);simp only[World.size_alloc] at HR HN;have HE:=hid (((Ext.alloc w (.cells X 29)).alloc' (.cells Z 29)).alloc' (.cells Z 29));have HhX:=hid hX;have HhO:=hid hX1;have HZ:=hid (show Z.size=2 by rw[←hZ];rfl);have HZ1:=hid (show Z.all (·.oneCell')=true by rw[←hZ];kernel_rfl);clear hX hX1;rw[hZ]
 have key:∀ (y:Array Value) (z:Int),(e=0∧r=s∧X=y∧z=0∨(e != 0)=true∧Z=y∧z=6∨e=0∧(r.toList==s.toList)=false∧Z=y∧z=6)→Calls Tryz.prog 120 #[.agg X,.string s,.func (.func 121) #[] #[]] w (Ret (.tuple #[.agg y,.int .i64 z]) w):=by
  rintro y z (⟨rfl,rfl,rfl,rfl⟩ | ⟨d0,rfl,rfl⟩ | ⟨rfl,d1,rfl,rfl⟩)
  ·have d0:(r.toList==r.toList)=true:=by simp
   go_enter Tryz.func120,Tryz.ntmps120;go_wp2_with fail
   clear hZ;generalize ((w.alloc (.cells _ 29)).alloc (.cells Z 29)).alloc (.cells Z 29)=w0 at HX HR HN HE⊢;simp only[Tryz.isAgg29,Tryz.sizeOf29,Result.andThen,↓reduceIte,za HX.out 2 HhX.out];rw[Oper.upon_value];go_wp2_with fail
   refine((HP _ HE.out).out).mono ?_;rintro en w1 ⟨rfl,x1⟩;have HX1:=hid (HX.out.ext x1);have HR1:=hid (HR.out.ext x1);have HN1:=hid (HN.out.ext x1);have HE1:=hid (HE.out.trans x1);clear x1 HX HR HN HE HP;go_wp2_with fail
   simp only[Tryz.isAgg29,Tryz.sizeOf29,Result.andThen,↓reduceIte,za HX1.out 2 HhX.out];rw[Oper.upon_value];go_wp2_with fail
   simp only[Tryz.sizeOf29,Result.andThen,↓reduceIte,zb HR1.out (by rw[HhX.out];exact zbn) (by first | rfl | rw[HhX.out,HZ.out] | rw[HZ.out,HhX.out]) HhO.out,HhX.out];rw[Oper.upon_skip];go_wp2_with fail
   have HF:=hid (HR1.out.setRow X);exact bodyPost_ret (zi rfl _ _ (w.heap.size+1) 29 _ (0,0) _ rfl HF.out Tryz.underlying29 rfl (by rw[HhX.out];exact zbn)) rfl ⟨rfl,Ext.setRow HE1.out (by omega) _⟩
  ·go_enter Tryz.func120,Tryz.ntmps120
   go_wp2_with fail
   clear hZ;generalize ((w.alloc (.cells _ 29)).alloc (.cells Z 29)).alloc (.cells Z 29)=w0 at HX HR HN HE⊢;simp only[Tryz.isAgg29,Tryz.sizeOf29,Result.andThen,↓reduceIte,za HX.out 2 HhX.out];rw[Oper.upon_value];go_wp2_with fail
   refine((HP _ HE.out).out).mono ?_;rintro en w1 ⟨rfl,x1⟩;have HX1:=hid (HX.out.ext x1);have HR1:=hid (HR.out.ext x1);have HN1:=hid (HN.out.ext x1);have HE1:=hid (HE.out.trans x1);clear x1 HX HR HN HE HP;go_wp2_with fail
   simp only[Tryz.isAgg29,Tryz.sizeOf29,Result.andThen,↓reduceIte,za HN1.out 2 HZ.out];rw[Oper.upon_value];go_wp2_with fail
   simp only[Tryz.sizeOf29,Result.andThen,↓reduceIte,zb HR1.out (by rw[HZ.out];exact zbn) (by first | rfl | rw[HZ.out,HZ.out] | rw[HZ.out,HZ.out]) HZ1.out,HZ.out];rw[Oper.upon_skip];go_wp2_with fail
   have HF:=hid (HR1.out.setRow Z);exact bodyPost_ret (zi rfl _ _ (w.heap.size+1) 29 _ (0,0) _ rfl HF.out Tryz.underlying29 rfl (by rw[HZ.out];exact zbn)) rfl ⟨rfl,Ext.setRow HE1.out (by omega) _⟩
  ·go_enter Tryz.func120,Tryz.ntmps120
   go_wp2_with fail
   clear hZ;generalize ((w.alloc (.cells _ 29)).alloc (.cells Z 29)).alloc (.cells Z 29)=w0 at HX HR HN HE⊢;simp only[Tryz.isAgg29,Tryz.sizeOf29,Result.andThen,↓reduceIte,za HX.out 2 HhX.out];rw[Oper.upon_value];go_wp2_with fail
   refine((HP _ HE.out).out).mono ?_;rintro en w1 ⟨rfl,x1⟩;have HX1:=hid (HX.out.ext x1);have HR1:=hid (HR.out.ext x1);have HN1:=hid (HN.out.ext x1);have HE1:=hid (HE.out.trans x1);clear x1 HX HR HN HE HP;go_wp2_with fail
   simp only[Tryz.isAgg29,Tryz.sizeOf29,Result.andThen,↓reduceIte,za HN1.out 2 HZ.out];rw[Oper.upon_value];go_wp2_with fail
   simp only[Tryz.sizeOf29,Result.andThen,↓reduceIte,zb HR1.out (by rw[HZ.out];exact zbn) (by first | rfl | rw[HZ.out,HZ.out] | rw[HZ.out,HZ.out]) HZ1.out,HZ.out];rw[Oper.upon_skip];go_wp2_with fail
   have HF:=hid (HR1.out.setRow Z);exact bodyPost_ret (zi rfl _ _ (w.heap.size+1) 29 _ (0,0) _ rfl HF.out Tryz.underlying29 rfl (by rw[HZ.out];exact zbn)) rfl ⟨rfl,Ext.setRow HE1.out (by omega) _⟩
 by_cases h0:e=0
 ·by_cases h1:r=s
  ·rw[if_pos ⟨h0,h1⟩,if_pos ⟨h0,h1⟩]
   exact key _ _ (.inl ⟨h0,h1,rfl,rfl⟩)
  ·rw[if_neg (fun h=>h1 h.2),if_neg (fun h=>h1 h.2)]
   exact key _ _ (.inr (.inr ⟨h0,by rw[zag];simp[h1],rfl,rfl⟩))
 ·rw[if_neg (fun h=>h0 h.1),if_neg (fun h=>h0 h.1)]
  exact key _ _ (.inr (.inl ⟨by simp[h0],rfl,rfl⟩))
structure KnowG (k:KnowI):Prop where
 ok:KnowOk k
 vs:∀ x∈k.fs,x.v.length=65
theorem zkx {s s2 s3 t1 t2:ByteArray} {e2 e3:Int} (r1:zbZ s 0 t1 s2 e2) (r2:zbZ s2 e2 t2 s3 e3) (k:KnowI) (hs:s=zaj k):t1=zg zaR k.fs∧t2=zg zan k.ks:=by
 have e:s.data.toList=lebL (zg zaR k.fs).size++((zg zaR k.fs).data.toList++(lebL (zg zan k.ks).size++((zg zan k.ks).data.toList++[]))):=by
  rw[hs];unfold zaj;simp only[ByteArray.data_append,Array.toList_append,zV,List.append_assoc,List.append_nil]
 obtain⟨a1,a2,a3⟩:=r1 _ _ rfl e;obtain⟨b1,b2,b3⟩:=r2 _ _ a3 a2;exact⟨a1,b1⟩
theorem zjH {w:World} {u v:Value} {l:List (FragC×FragI)} {ks:List KnownI} {B B':Nat} (hu:w.ownsRow B 85 67 u l.length (l.map FragP.list).flatten) (hl:∀ z∈l,FragO w z.1 z.2) (hv:w.ownsRow B' 126 67 v ks.length (ks.map KnownI.list).flatten):KnowAt w u v ⟨l.map (·.2),ks⟩:=by
 refine⟨⟨l.map (·.1),by simp,fun i c x h1 h2=>?_,?_⟩,zam (xs:=ks.map KnownI.list) (known_coded.sizes _) (by rw[List.length_map];exact hv)⟩
 ·rw[List.getElem?_map] at h1 h2
  obtain⟨z,hz,rfl⟩:=Option.map_eq_some_iff.1 h1;rw[hz] at h2;injection h2 with h2
  subst h2;exact(hl z (List.mem_of_getElem? hz)).at
 ·have e:(l.map (·.1)).map FragC.list=l.map FragP.list:=by rw[List.map_map];rfl
  rw[e];exact zam (xs:=l.map FragP.list) (fragP_coded.sizes _) (by rw[List.length_map];exact hu)
end
end Go.Proofs.YtofjpdgojoppbaaGreatDoor
