/-
  Of the claim's proof: BtD, BtE, BtF, BtG, BtH, BtI.
-/
import Derived.Test.YtofjpdgojoppbaaGreatDoorS14
set_option maxRecDepth 100000
set_option maxHeartbeats 16000000
set_option linter.unusedVariables false
set_option linter.unusedSimpArgs false
namespace Go.Proofs.YtofjpdgojoppbaaGreatDoor
section
open Go.RowKit
def bothF (p:PairI):List FldI:=[fN p.a.by_,fN p.a.n,fN p.b.by_,fN p.b.n]
theorem zmr (w:World) (p:PairI):Calls Tryz.prog 96 #[p.val] w (RetQ (OwnF (bothF p) w.heap.size) w):=by
 have HV1:∀ W:World,w.heap.size≤W.heap.size→Hid (Calls Tryz.prog 143 #[.agg #[.int .i64 p.a.by_,.int .i64 p.a.n]] W (RetQ (fun u W=>OwnF [fN p.a.by_,fN p.a.n] w.heap.size u W ∧ ∃ q,u=.slice (some ⟨q,0,none⟩) 2 2) W)):=fun W hW=>(zlM W p.a).mono fun e w' ⟨v,e1,⟨e2,e3⟩,e4⟩=>⟨v,e1,⟨e2.weak hW,e3⟩,e4⟩
 have HV2:∀ W:World,w.heap.size≤W.heap.size→Hid (Calls Tryz.prog 143 #[.agg #[.int .i64 p.b.by_,.int .i64 p.b.n]] W (RetQ (fun u W=>OwnF [fN p.b.by_,fN p.b.n] w.heap.size u W ∧ ∃ q,u=.slice (some ⟨q,0,none⟩) 2 2) W)):=fun W hW=>(zlM W p.b).mono fun e w' ⟨v,e1,⟨e2,e3⟩,e4⟩=>⟨v,e1,⟨e2.weak hW,e3⟩,e4⟩
 have HE:=hid (Ext.alloc w (.cells #[.int .i64 p.a.by_,.int .i64 p.a.n,.int .i64 p.b.by_,.int .i64 p.b.n] 59));have HB:=hid (Blk.new w 59 #[.int .i64 p.a.by_,.int .i64 p.a.n,.int .i64 p.b.by_,.int .i64 p.b.n]);unfold PairI.val bothF;go_enter Tryz.func96,Tryz.ntmps96;go_wp2_with fail
 generalize w.alloc (.cells #[.int .i64 p.a.by_,.int .i64 p.a.n,.int .i64 p.b.by_,.int .i64 p.b.n] 59)=w0 at HE HB⊢;have HWs:=hid HE.out.size;have b0:=HB.out.cell (i:=0) (v:=.int .i64 p.a.by_) rfl;have b1:=HB.out.cell (i:=1) (v:=.int .i64 p.a.n) rfl;have b2:=HB.out.cell (i:=2) (v:=.int .i64 p.b.by_) rfl;have b3:=HB.out.cell (i:=3) (v:=.int .i64 p.b.n) rfl;have bl:=HB.out.lt;refine zbj (pre:=?pre54) (z1:=?z154) (z2:=?z254) ?hpre54 ?hz154 ?hz254 (by kernel_rfl) (by kernel_rfl) (by kernel_rfl) (by kernel_rfl) (by kernel_rfl) ?_
 case hpre54=>(simp only[List.dropLast_cons_cons,List.dropLast_singleton];first | done | exact rfl)
 case hz154=>(simp only[List.dropLast_cons_cons,List.dropLast_singleton,List.getLast?_cons_cons,List.getLast?_singleton];first | done | exact rfl)
 case hz254=>(simp only[List.getLast?_cons_cons,List.getLast?_singleton];first | done | exact rfl)
 repeat (first
  | (refine AWq.val rfl rfl rfl rfl (fun K hK=>?_);go_big_quiet_op;refine hK _ ?_;clear hK K)
  | (refine AWq.skip rfl rfl rfl ?_;simp only[Act.put,zq6,zq7,zq8])
  | (refine AWq.callQ ((fun u W=>OwnF [fN p.a.by_,fN p.a.n] w.heap.size u W ∧ ∃ q,u=.slice (some ⟨q,0,none⟩) 2 2)) ((fun u _ _ he h=>⟨OwnF.ext h.1 he,h.2⟩)) rfl Tryz.func143 (by kernel_rfl) (by kernel_rfl) rfl rfl rfl (fun wc hc=>?_) ?_;(· (simp only[zh,zm,↓reduceIte,Nat.reduceEqDiff,zq1,zq2,zq3,zq4,zq5];with_reducible exact(HV1 wc (Nat.le_trans HWs.out hc.size)).out)))
  | (refine AWq.callQ ((fun u W=>OwnF [fN p.b.by_,fN p.b.n] w.heap.size u W ∧ ∃ q,u=.slice (some ⟨q,0,none⟩) 2 2)) ((fun u _ _ he h=>⟨OwnF.ext h.1 he,h.2⟩)) rfl Tryz.func143 (by kernel_rfl) (by kernel_rfl) rfl rfl rfl (fun wc hc=>?_) ?_;(· (simp only[zh,zm,↓reduceIte,Nat.reduceEqDiff,zq1,zq2,zq3,zq4,zq5];with_reducible exact(HV2 wc (Nat.le_trans HWs.out hc.size)).out))))
 refine AWq.two rfl rfl rfl (fun w2 x2=>?_);simp only[zl,Act.put,zq6,zq7,zq8];intro v8 h8 v5 h5;obtain⟨v3,w3,hrun,hO3,hk3⟩:=h5.1.app (Nat.le_trans HWs.out x2.size) h8.1.sl (by simp) (by simp);have HEnd:Hid (Ext w w3):=hk3.toExt (HE.out.trans x2) fun q hq=>(zt h5.1 q hq).1;have HO:=hid hO3;clear hO3 hk3 h5 h8 b0 b1 b2 b3 bl
 at_builtin
 refine zx rfl (.tmp 5) (.tmp 8) _ _ rfl rfl rfl hrun ?_;go_wp2_with fail
 go_ret;exact⟨_,rfl,HO.out,HEnd.out⟩
end
section
open Go.RowKit
def zJ (e:EntI):Bool:=zbM e&&(if e.kind=1 then zS e.u else if e.kind=2 then zW e.m else zaP e.o)
def entF (e:EntI):List FldI:=if zJ e then(if e.kind=1 then [fN e.kind,fT (updB e.u)] else if e.kind=2 then [fN e.kind,fT (metB e.m)] else fN e.kind::bothF e.o) else []
structure EntOk (e:EntI):Prop where
 u:e.u.in64
 up:e.u.p.size≤1000
 ud:e.u.d.size≤1000
 m:e.m.in64
 mp:e.m.p.size≤1000
 ms:in64 e.m.size
 k:in64 e.kind
 o:(in64 e.o.a.by_∧in64 e.o.a.n)∧(in64 e.o.b.by_∧in64 e.o.b.n)
attribute [-simp] Tryz.isAgg61 Tryz.sizeOf61
theorem ent_not (w:World) (e:EntI) (hb:zbM e=false):Calls Tryz.prog 52 #[.agg e.arr] w (Ret (.slice none 0 0) w):=by
 have HE:=hid (Ext.alloc w (.cells e.arr 61));have HB:=hid (Blk.new w 61 e.arr);have HBa:=fun W=>hid (zdC W e);have hz:=hid (zal e);rw[hb] at HBa;clear hb;go_enter Tryz.func52,Tryz.ntmps52;go_wp2_with fail
 generalize w.alloc (.cells e.arr 61)=w0 at HE HB⊢;simp only[Tryz.isAgg61,Tryz.sizeOf61,Result.andThen,↓reduceIte,za HB.out 21 hz.out];rw[Oper.upon_value];go_wp2_with fail
 refine((HBa _).out).mono ?_;rintro en w1 ⟨rfl,x1⟩;have HE1:=hid (HE.out.trans x1);have HB1:=hid (HB.out.ext x1);clear x1 HE HB HBa;go_wp2_with fail
 go_ret;exact⟨rfl,HE1.out⟩
theorem zi7 (w:World) (e:EntI) (m:Int) (hm:w.cell? ⟨0,0,none⟩=some (.int .i64 m)) (h:EntOk e) (hb:zbM e=true) (d1:(e.kind==1)=true) (hr:zS e.u=false):Calls Tryz.prog 52 #[.agg e.arr] w (Ret (.slice none 0 0) w):=by
 have HP:=fun W (hW:Ext w W)=>hid (ziI W e.u m (hW.cell hm) (by have:=h.up;omega) h.u);have HN:=fun W n=>hid (fN_c W n);have HT:=fun W s=>hid (fT_c W s);have HE:=hid (Ext.alloc w (.cells e.arr 61));have HB:=hid (Blk.new w 61 e.arr);have HBa:=fun W=>hid (zdC W e);have hz:=hid (zal e);rw[hb] at HBa;rw[hr] at HP;rw[show putB false (updB e.u)=⟨#[]⟩ from rfl,show okZ false=2 from rfl] at HP;clear hb hr h hm;go_enter Tryz.func52,Tryz.ntmps52;go_wp2_with fail
 generalize w.alloc (.cells e.arr 61)=w0 at HE HB⊢;simp only[Tryz.isAgg61,Tryz.sizeOf61,Result.andThen,↓reduceIte,za HB.out 21 hz.out];rw[Oper.upon_value];go_wp2_with fail
 refine((HBa _).out).mono ?_;rintro en w1 ⟨rfl,x1⟩;have HE1:=hid (HE.out.trans x1);have HB1:=hid (HB.out.ext x1);clear x1 HE HB HBa;have c0:=HB1.out.cell (i:=0) (v:=.int .i64 e.kind) rfl;have c1:=HB1.out.cell (i:=1) (v:=.int .i64 e.u.item.by_) rfl;have c2:=HB1.out.cell (i:=2) (v:=.int .i64 e.u.item.n) rfl;have c3:=HB1.out.cell (i:=3) (v:=.int .i64 e.u.st.v.by_) rfl;have c4:=HB1.out.cell (i:=4) (v:=.int .i64 e.u.st.v.n) rfl;have c5:=HB1.out.cell (i:=5) (v:=.int .i64 e.u.st.time) rfl;have c6:=HB1.out.cell (i:=6) (v:=.string e.u.p) rfl;have c7:=HB1.out.cell (i:=7) (v:=.string e.u.d) rfl
 have c8:=HB1.out.cell (i:=8) (v:=.bool e.u.dead) rfl;have cl:=HB1.out.lt;go_wp2_with fail
 refine((HP _ HE1.out).out).mono ?_;rintro en w2 ⟨rfl,x2⟩;have HE2:=hid (HE1.out.trans x2);have HB2:=hid (HB1.out.ext x2);clear c0 c1 c2 c3 c4 c5 c6 c7 c8 cl;clear x2 HE1 HB1 HP;go_wp2_with fail
 go_ret;exact⟨rfl,HE2.out⟩
theorem zhW (w:World) (e:EntI) (m:Int) (hm:w.cell? ⟨0,0,none⟩=some (.int .i64 m)) (h:EntOk e) (hb:zbM e=true) (d1:(e.kind==1)=true) (hr:zS e.u=true):Calls Tryz.prog 52 #[.agg e.arr] w (RetQ (OwnF [fN e.kind,fT (updB e.u)] w.heap.size) w):=by
 have HP:=fun W (hW:Ext w W)=>hid (ziI W e.u m (hW.cell hm) (by have:=h.up;omega) h.u);have HN:=fun W n=>hid (fN_c W n);have HT:=fun W s=>hid (fT_c W s);have HE:=hid (Ext.alloc w (.cells e.arr 61));have HB:=hid (Blk.new w 61 e.arr);have HBa:=fun W=>hid (zdC W e);have hz:=hid (zal e);rw[hb] at HBa;rw[hr] at HP;rw[show putB true (updB e.u)=updB e.u from rfl,show okZ true=0 from rfl] at HP;clear hb hr h hm;go_enter Tryz.func52,Tryz.ntmps52;go_wp2_with fail
 generalize w.alloc (.cells e.arr 61)=w0 at HE HB⊢;simp only[Tryz.isAgg61,Tryz.sizeOf61,Result.andThen,↓reduceIte,za HB.out 21 hz.out];rw[Oper.upon_value];go_wp2_with fail
 refine((HBa _).out).mono ?_;rintro en w1 ⟨rfl,x1⟩;have HE1:=hid (HE.out.trans x1);have HB1:=hid (HB.out.ext x1);clear x1 HE HB HBa;have c0:=HB1.out.cell (i:=0) (v:=.int .i64 e.kind) rfl;have c1:=HB1.out.cell (i:=1) (v:=.int .i64 e.u.item.by_) rfl;have c2:=HB1.out.cell (i:=2) (v:=.int .i64 e.u.item.n) rfl;have c3:=HB1.out.cell (i:=3) (v:=.int .i64 e.u.st.v.by_) rfl;have c4:=HB1.out.cell (i:=4) (v:=.int .i64 e.u.st.v.n) rfl;have c5:=HB1.out.cell (i:=5) (v:=.int .i64 e.u.st.time) rfl;have c6:=HB1.out.cell (i:=6) (v:=.string e.u.p) rfl;have c7:=HB1.out.cell (i:=7) (v:=.string e.u.d) rfl
 have c8:=HB1.out.cell (i:=8) (v:=.bool e.u.dead) rfl;have cl:=HB1.out.lt;go_wp2_with fail
 refine((HP _ HE1.out).out).mono ?_;rintro en w2 ⟨rfl,x2⟩;have HE2:=hid (HE1.out.trans x2);have HB2:=hid (HB1.out.ext x2);clear c0 c1 c2 c3 c4 c5 c6 c7 c8 cl;clear x2 HE1 HB1 HP;have c0:=HB2.out.cell (i:=0) (v:=.int .i64 e.kind) rfl;have cl:=HB2.out.lt;go_wp2_with fail
 refine((HN _ _).out).mono ?_;rintro en w3 ⟨rfl,x3⟩;have HE3:=hid (HE2.out.trans x3);clear x3 HE2 HB2 c0 cl;go_wp2_with fail
 refine((HT _ _).out).mono ?_;rintro en w4 ⟨rfl,x4⟩;have HE4:=hid (HE3.out.trans x4);clear x4 HE3;have HO:Hid (OwnF [fN e.kind,fT (updB e.u)] w.heap.size (.slice (some ⟨w4.heap.size,0,none⟩) 2 2) (w4.alloc (.cells #[.int .i64 e.kind,.string ⟨#[]⟩,.bool false,.int .i64 0,.string (updB e.u),.bool true] 140))):=zcm w4 HE4.out.size (fN e.kind) (fT (updB e.u));go_wp2_with fail
 go_ret;exact⟨_,rfl,HO.out,HE4.out.alloc' _⟩
theorem zi9 (w:World) (e:EntI) (m:Int) (hm:w.cell? ⟨0,0,none⟩=some (.int .i64 m)) (h:EntOk e) (hb:zbM e=true) (d1:(e.kind==1)=false) (d2:(e.kind==2)=true) (hr:zW e.m=false):Calls Tryz.prog 52 #[.agg e.arr] w (Ret (.slice none 0 0) w):=by
 have HP:=fun W (hW:Ext w W)=>hid (ziJ W e.m m (hW.cell hm) (by have:=h.mp;omega) h.m);have HN:=fun W n=>hid (fN_c W n);have HT:=fun W s=>hid (fT_c W s);have HE:=hid (Ext.alloc w (.cells e.arr 61));have HB:=hid (Blk.new w 61 e.arr);have HBa:=fun W=>hid (zdC W e);have hz:=hid (zal e);rw[hb] at HBa;rw[hr] at HP;rw[show putB false (metB e.m)=⟨#[]⟩ from rfl,show okZ false=2 from rfl] at HP;clear hb hr h hm;go_enter Tryz.func52,Tryz.ntmps52;go_wp2_with fail
 generalize w.alloc (.cells e.arr 61)=w0 at HE HB⊢;simp only[Tryz.isAgg61,Tryz.sizeOf61,Result.andThen,↓reduceIte,za HB.out 21 hz.out];rw[Oper.upon_value];go_wp2_with fail
 refine((HBa _).out).mono ?_;rintro en w1 ⟨rfl,x1⟩;have HE1:=hid (HE.out.trans x1);have HB1:=hid (HB.out.ext x1);clear x1 HE HB HBa;have c0:=HB1.out.cell (i:=0) (v:=.int .i64 e.kind) rfl;have c9:=HB1.out.cell (i:=9) (v:=.int .i64 e.m.item.by_) rfl;have c10:=HB1.out.cell (i:=10) (v:=.int .i64 e.m.item.n) rfl;have c11:=HB1.out.cell (i:=11) (v:=.int .i64 e.m.st.v.by_) rfl;have c12:=HB1.out.cell (i:=12) (v:=.int .i64 e.m.st.v.n) rfl;have c13:=HB1.out.cell (i:=13) (v:=.int .i64 e.m.st.time) rfl;have c14:=HB1.out.cell (i:=14) (v:=.string e.m.p) rfl;have c15:=HB1.out.cell (i:=15) (v:=.int .i64 e.m.size) rfl
 have c16:=HB1.out.cell (i:=16) (v:=.bool e.m.dead) rfl;have cl:=HB1.out.lt;go_wp2_with fail
 refine((HP _ HE1.out).out).mono ?_;rintro en w2 ⟨rfl,x2⟩;have HE2:=hid (HE1.out.trans x2);have HB2:=hid (HB1.out.ext x2);clear c0 c9 c10 c11 c12 c13 c14 c15 c16 cl;clear x2 HE1 HB1 HP;go_wp2_with fail
 go_ret;exact⟨rfl,HE2.out⟩
theorem zhY (w:World) (e:EntI) (m:Int) (hm:w.cell? ⟨0,0,none⟩=some (.int .i64 m)) (h:EntOk e) (hb:zbM e=true) (d1:(e.kind==1)=false) (d2:(e.kind==2)=true) (hr:zW e.m=true):Calls Tryz.prog 52 #[.agg e.arr] w (RetQ (OwnF [fN e.kind,fT (metB e.m)] w.heap.size) w):=by
 have HP:=fun W (hW:Ext w W)=>hid (ziJ W e.m m (hW.cell hm) (by have:=h.mp;omega) h.m);have HN:=fun W n=>hid (fN_c W n);have HT:=fun W s=>hid (fT_c W s);have HE:=hid (Ext.alloc w (.cells e.arr 61));have HB:=hid (Blk.new w 61 e.arr);have HBa:=fun W=>hid (zdC W e);have hz:=hid (zal e);rw[hb] at HBa;rw[hr] at HP;rw[show putB true (metB e.m)=metB e.m from rfl,show okZ true=0 from rfl] at HP;clear hb hr h hm;go_enter Tryz.func52,Tryz.ntmps52;go_wp2_with fail
 generalize w.alloc (.cells e.arr 61)=w0 at HE HB⊢;simp only[Tryz.isAgg61,Tryz.sizeOf61,Result.andThen,↓reduceIte,za HB.out 21 hz.out];rw[Oper.upon_value];go_wp2_with fail
 refine((HBa _).out).mono ?_;rintro en w1 ⟨rfl,x1⟩;have HE1:=hid (HE.out.trans x1);have HB1:=hid (HB.out.ext x1);clear x1 HE HB HBa;have c0:=HB1.out.cell (i:=0) (v:=.int .i64 e.kind) rfl;have c9:=HB1.out.cell (i:=9) (v:=.int .i64 e.m.item.by_) rfl;have c10:=HB1.out.cell (i:=10) (v:=.int .i64 e.m.item.n) rfl;have c11:=HB1.out.cell (i:=11) (v:=.int .i64 e.m.st.v.by_) rfl;have c12:=HB1.out.cell (i:=12) (v:=.int .i64 e.m.st.v.n) rfl;have c13:=HB1.out.cell (i:=13) (v:=.int .i64 e.m.st.time) rfl;have c14:=HB1.out.cell (i:=14) (v:=.string e.m.p) rfl;have c15:=HB1.out.cell (i:=15) (v:=.int .i64 e.m.size) rfl
 have c16:=HB1.out.cell (i:=16) (v:=.bool e.m.dead) rfl;have cl:=HB1.out.lt;go_wp2_with fail
 refine((HP _ HE1.out).out).mono ?_;rintro en w2 ⟨rfl,x2⟩;have HE2:=hid (HE1.out.trans x2);have HB2:=hid (HB1.out.ext x2);clear c0 c9 c10 c11 c12 c13 c14 c15 c16 cl;clear x2 HE1 HB1 HP;have c0:=HB2.out.cell (i:=0) (v:=.int .i64 e.kind) rfl;have cl:=HB2.out.lt;go_wp2_with fail
 refine((HN _ _).out).mono ?_;rintro en w3 ⟨rfl,x3⟩;have HE3:=hid (HE2.out.trans x3);clear x3 HE2 HB2 c0 cl;go_wp2_with fail
 refine((HT _ _).out).mono ?_;rintro en w4 ⟨rfl,x4⟩;have HE4:=hid (HE3.out.trans x4);clear x4 HE3;have HO:Hid (OwnF [fN e.kind,fT (metB e.m)] w.heap.size (.slice (some ⟨w4.heap.size,0,none⟩) 2 2) (w4.alloc (.cells #[.int .i64 e.kind,.string ⟨#[]⟩,.bool false,.int .i64 0,.string (metB e.m),.bool true] 140))):=zcm w4 HE4.out.size (fN e.kind) (fT (metB e.m));go_wp2_with fail
 go_ret;exact⟨_,rfl,HO.out,HE4.out.alloc' _⟩
theorem zi8 (w:World) (e:EntI) (hb:zbM e=true) (d1:(e.kind==1)=false) (d2:(e.kind==2)=false) (hr:zaP e.o=false):Calls Tryz.prog 52 #[.agg e.arr] w (Ret (.slice none 0 0) w):=by
 have HP:=fun W=>hid (zeI W e.o);unfold PairI.val at HP;have HE:=hid (Ext.alloc w (.cells e.arr 61));have HB:=hid (Blk.new w 61 e.arr);have HBa:=fun W=>hid (zdC W e);have hz:=hid (zal e);rw[hb] at HBa;rw[hr] at HP;clear hb hr;go_enter Tryz.func52,Tryz.ntmps52;go_wp2_with fail
 generalize w.alloc (.cells e.arr 61)=w0 at HE HB⊢;simp only[Tryz.isAgg61,Tryz.sizeOf61,Result.andThen,↓reduceIte,za HB.out 21 hz.out];rw[Oper.upon_value];go_wp2_with fail
 refine((HBa _).out).mono ?_;rintro en w1 ⟨rfl,x1⟩;have HE1:=hid (HE.out.trans x1);have HB1:=hid (HB.out.ext x1);clear x1 HE HB HBa;have c0:=HB1.out.cell (i:=0) (v:=.int .i64 e.kind) rfl;have c17:=HB1.out.cell (i:=17) (v:=.int .i64 e.o.a.by_) rfl;have c18:=HB1.out.cell (i:=18) (v:=.int .i64 e.o.a.n) rfl;have c19:=HB1.out.cell (i:=19) (v:=.int .i64 e.o.b.by_) rfl;have c20:=HB1.out.cell (i:=20) (v:=.int .i64 e.o.b.n) rfl;have cl:=HB1.out.lt;go_wp2_with fail
 refine((HP _).out).mono ?_;rintro en w2 ⟨rfl,x2⟩;have HE2:=hid (HE1.out.trans x2);clear c0 c17 c18 c19 c20 cl;clear x2 HE1 HB1 HP;go_wp2_with fail
 go_ret;exact⟨rfl,HE2.out⟩
theorem zhX (w:World) (e:EntI) (hb:zbM e=true) (d1:(e.kind==1)=false) (d2:(e.kind==2)=false) (hr:zaP e.o=true):Calls Tryz.prog 52 #[.agg e.arr] w (RetQ (OwnF (fN e.kind::bothF e.o) w.heap.size) w):=by
 have HP:=fun W=>hid (zeI W e.o);have HN:=fun W n=>hid (fN_c W n);have HBo:∀ W:World,w.heap.size≤W.heap.size→Hid (Calls Tryz.prog 96 #[e.o.val] W (RetQ (OwnF (bothF e.o) w.heap.size) W)):=fun W hW=>(zmr W e.o).mono fun e w' ⟨v,e1,e2,e4⟩=>⟨v,e1,e2.weak hW,e4⟩
 unfold PairI.val at HP HBo;have HE:=hid (Ext.alloc w (.cells e.arr 61));have HB:=hid (Blk.new w 61 e.arr);have HBa:=fun W=>hid (zdC W e);have hz:=hid (zal e);rw[hb] at HBa;rw[hr] at HP;clear hb hr;go_enter Tryz.func52,Tryz.ntmps52;go_wp2_with fail
 generalize w.alloc (.cells e.arr 61)=w0 at HE HB⊢;simp only[Tryz.isAgg61,Tryz.sizeOf61,Result.andThen,↓reduceIte,za HB.out 21 hz.out];rw[Oper.upon_value];go_wp2_with fail
 refine((HBa _).out).mono ?_;rintro en w1 ⟨rfl,x1⟩;have HE1:=hid (HE.out.trans x1);have HB1:=hid (HB.out.ext x1);clear x1 HE HB HBa;have c0:=HB1.out.cell (i:=0) (v:=.int .i64 e.kind) rfl;have c17:=HB1.out.cell (i:=17) (v:=.int .i64 e.o.a.by_) rfl;have c18:=HB1.out.cell (i:=18) (v:=.int .i64 e.o.a.n) rfl;have c19:=HB1.out.cell (i:=19) (v:=.int .i64 e.o.b.by_) rfl;have c20:=HB1.out.cell (i:=20) (v:=.int .i64 e.o.b.n) rfl;have cl:=HB1.out.lt;go_wp2_with fail
 refine((HP _).out).mono ?_;rintro en w2 ⟨rfl,x2⟩;have HE2:=hid (HE1.out.trans x2);have HB2:=hid (HB1.out.ext x2);clear c0 c17 c18 c19 c20 cl;clear x2 HE1 HB1 HP;have c0:=HB2.out.cell (i:=0) (v:=.int .i64 e.kind) rfl;have c17:=HB2.out.cell (i:=17) (v:=.int .i64 e.o.a.by_) rfl;have c18:=HB2.out.cell (i:=18) (v:=.int .i64 e.o.a.n) rfl;have c19:=HB2.out.cell (i:=19) (v:=.int .i64 e.o.b.by_) rfl;have c20:=HB2.out.cell (i:=20) (v:=.int .i64 e.o.b.n) rfl;have cl:=HB2.out.lt;go_wp2_with fail
 have HWs:=hid HE2.out.size;refine zbj (pre:=?pre53) (z1:=?z153) (z2:=?z253) ?hpre53 ?hz153 ?hz253 (by kernel_rfl) (by kernel_rfl) (by kernel_rfl) (by kernel_rfl) (by kernel_rfl) ?_
 case hpre53=>(simp only[List.dropLast_cons_cons,List.dropLast_singleton];first | done | exact rfl)
 case hz153=>(simp only[List.dropLast_cons_cons,List.dropLast_singleton,List.getLast?_cons_cons,List.getLast?_singleton];first | done | exact rfl)
 case hz253=>(simp only[List.getLast?_cons_cons,List.getLast?_singleton];first | done | exact rfl)
 repeat (first
  | (refine AWq.val rfl rfl rfl rfl (fun K hK=>?_);go_big_quiet_op;refine hK _ ?_;clear hK K)
  | (refine AWq.skip rfl rfl rfl ?_;simp only[Act.put,zq6,zq7,zq8])
  | (refine AWq.call rfl Tryz.func95 (by kernel_rfl) (by kernel_rfl) rfl rfl rfl ?_;apply Exists.intro;refine And.intro (fun wc hc=>?_) ?_;(· (simp only[zh,zm,↓reduceIte,Nat.reduceEqDiff,zq1,zq2,zq3,zq4,zq5];with_reducible exact(HN _ _).out));simp only[Act.put,zq6,zq7,zq8])
  | (refine AWq.opV (fun u W=>OwnF [fN e.kind] w.heap.size u W) (fun u _ _ he h=>OwnF.ext h he) rfl rfl rfl rfl (fun wc hc=>?_) ?_;(· (have hc2:=Nat.le_trans HWs.out hc.size;have hc':=hc.rule;clear hc;go_simp;dsimp only[Gives];exact⟨zaH hc2 140 3 1 #[.int .i64 e.kind,.string ⟨#[]⟩,.bool false] (by unfold maxLen;omega) rfl,Ext.alloc _ _⟩)))
  | (refine AWq.callQ ((fun u W=>OwnF (bothF e.o) w.heap.size u W)) ((fun u _ _ he h=>OwnF.ext h he)) rfl Tryz.func96 (by kernel_rfl) (by kernel_rfl) rfl rfl rfl (fun wc hc=>?_) ?_;(· (simp only[zh,zm,↓reduceIte,Nat.reduceEqDiff,zq1,zq2,zq3,zq4,zq5];with_reducible exact(HBo wc (Nat.le_trans HWs.out hc.size)).out))))
 refine AWq.two rfl rfl rfl (fun w3 x3=>?_);simp only[zl,Act.put,zq6,zq7,zq8];intro v39 h39 v36 h36;obtain⟨v4,w4,hrun,hO4,hk4⟩:=h36.app (Nat.le_trans HWs.out x3.size) h39.sl (by simp) (by simp[bothF]);have HEnd:Hid (Ext w w4):=hk4.toExt (HE2.out.trans x3) fun q hq=>(zt h36 q hq).1;have HO:=hid hO4;clear c0 c17 c18 c19 c20 cl;clear hO4 hk4 h36 h39
 at_builtin
 refine zx rfl (.tmp 36) (.tmp 39) _ _ rfl rfl rfl hrun ?_;go_wp2_with fail
 go_ret;exact⟨_,rfl,HO.out,HEnd.out⟩
end
section
open Go.RowKit
theorem ziE (a1 a2 a3 b1 b2 b3:Int) (w:World):(Op.equalIn 9999 53 (.agg #[.int .i64 a1,.int .i64 a2,.int .i64 a3]) (.agg #[.int .i64 b1,.int .i64 b2,.int .i64 b3])).run Tryz.prog w=.ok (decide ((⟨⟨a1,a2⟩,a3⟩:Stamp)=⟨⟨b1,b2⟩,b3⟩)) w:=by
 by_cases h1:(⟨a1,a2⟩:Ver)=⟨b1,b2⟩ <;> by_cases h2:a3=b3 <;> simp[go_sem,h1,h2,st_eq]
attribute [go_sem 2000] ziE
theorem zcW (a b:UpdI) (w:World):(Op.equalIn 10000 55 a.val b.val).run Tryz.prog w=.ok (decide (a=b)) w:=by
 obtain⟨⟨a1,a2⟩,⟨⟨a3,a4⟩,a5⟩,ap,ad,ax⟩:=a;obtain⟨⟨b1,b2⟩,⟨⟨b3,b4⟩,b5⟩,bp,bd,bx⟩:=b;have hp:(ap.toList==bp.toList)=decide (ap=bp):=zag ap bp;have hd:(ad.toList==bd.toList)=decide (ad=bd):=zag ad bd;unfold UpdI.val;by_cases h1:(⟨a1,a2⟩:Ver)=⟨b1,b2⟩ <;> by_cases h2:(⟨⟨a3,a4⟩,a5⟩:Stamp)=⟨⟨b3,b4⟩,b5⟩ <;> by_cases h3:ap=bp <;> by_cases h4:ad=bd <;> by_cases h5:ax=bx <;> simp[go_sem,h1,h2,h3,h4,h5,hp,hd,up_eq]
theorem eqU_top (a1 a2 a3 a4 a5 b1 b2 b3 b4 b5:Int) (ap ad bp bd:ByteArray) (ax bx:Bool) (w:World):(Op.equalIn 10000 55 (.agg #[.int .i64 a1,.int .i64 a2,.int .i64 a3,.int .i64 a4,.int .i64 a5,.string ap,.string ad,.bool ax]) (.agg #[.int .i64 b1,.int .i64 b2,.int .i64 b3,.int .i64 b4,.int .i64 b5,.string bp,.string bd,.bool bx])).run Tryz.prog w=.ok (decide ((⟨⟨a1,a2⟩,⟨⟨a3,a4⟩,a5⟩,ap,ad,ax⟩:UpdI)=⟨⟨b1,b2⟩,⟨⟨b3,b4⟩,b5⟩,bp,bd,bx⟩)) w:=zcW ⟨⟨a1,a2⟩,⟨⟨a3,a4⟩,a5⟩,ap,ad,ax⟩ ⟨⟨b1,b2⟩,⟨⟨b3,b4⟩,b5⟩,bp,bd,bx⟩ w
theorem zcX (a b:MetaI) (w:World):(Op.equalIn 10000 57 a.val b.val).run Tryz.prog w=.ok (decide (a=b)) w:=by
 obtain⟨⟨a1,a2⟩,⟨⟨a3,a4⟩,a5⟩,ap,ad,ax⟩:=a;obtain⟨⟨b1,b2⟩,⟨⟨b3,b4⟩,b5⟩,bp,bd,bx⟩:=b;have hp:(ap.toList==bp.toList)=decide (ap=bp):=zag ap bp;unfold MetaI.val;by_cases h1:(⟨a1,a2⟩:Ver)=⟨b1,b2⟩ <;> by_cases h2:(⟨⟨a3,a4⟩,a5⟩:Stamp)=⟨⟨b3,b4⟩,b5⟩ <;> by_cases h3:ap=bp <;> by_cases h4:ad=bd <;> by_cases h5:ax=bx <;> simp[go_sem,h1,h2,h3,h4,h5,hp,me_eq]
theorem eqM_top (a1 a2 a3 a4 a5 b1 b2 b3 b4 b5 ad bd:Int) (ap bp:ByteArray) (ax bx:Bool) (w:World):(Op.equalIn 10000 57 (.agg #[.int .i64 a1,.int .i64 a2,.int .i64 a3,.int .i64 a4,.int .i64 a5,.string ap,.int .i64 ad,.bool ax]) (.agg #[.int .i64 b1,.int .i64 b2,.int .i64 b3,.int .i64 b4,.int .i64 b5,.string bp,.int .i64 bd,.bool bx])).run Tryz.prog w=.ok (decide ((⟨⟨a1,a2⟩,⟨⟨a3,a4⟩,a5⟩,ap,ad,ax⟩:MetaI)=⟨⟨b1,b2⟩,⟨⟨b3,b4⟩,b5⟩,bp,bd,bx⟩)) w:=zcX ⟨⟨a1,a2⟩,⟨⟨a3,a4⟩,a5⟩,ap,ad,ax⟩ ⟨⟨b1,b2⟩,⟨⟨b3,b4⟩,b5⟩,bp,bd,bx⟩ w
theorem zcJ (a b:PairI) (w:World):(Op.equalIn 10000 59 a.val b.val).run Tryz.prog w=.ok (decide (a=b)) w:=by
 obtain⟨⟨a1,a2⟩,⟨a3,a4⟩⟩:=a;obtain⟨⟨b1,b2⟩,⟨b3,b4⟩⟩:=b;unfold PairI.val;by_cases h1:(⟨a1,a2⟩:Ver)=⟨b1,b2⟩ <;> by_cases h2:(⟨a3,a4⟩:Ver)=⟨b3,b4⟩ <;> simp[go_sem,h1,h2,zlF]
theorem eqP_top (a1 a2 a3 a4 b1 b2 b3 b4:Int) (w:World):(Op.equalIn 10000 59 (.agg #[.int .i64 a1,.int .i64 a2,.int .i64 a3,.int .i64 a4]) (.agg #[.int .i64 b1,.int .i64 b2,.int .i64 b3,.int .i64 b4])).run Tryz.prog w=.ok (decide ((⟨⟨a1,a2⟩,⟨a3,a4⟩⟩:PairI)=⟨⟨b1,b2⟩,⟨b3,b4⟩⟩)) w:=zcJ ⟨⟨a1,a2⟩,⟨a3,a4⟩⟩ ⟨⟨b1,b2⟩,⟨b3,b4⟩⟩ w
attribute [go_sem 2000] eqU_top eqM_top eqP_top
theorem zex (u:MetaI):zW u=true↔u.chk=0:=by unfold zW;exact decide_eq_true_iff
theorem zjM (w:World) (e:EntI) (m:Int) (hm:w.cell? ⟨0,0,none⟩=some (.int .i64 m)) (h:EntOk e):Calls Tryz.prog 52 #[.agg e.arr] w (RetQ (RowAt FldI.cells 3 (entF e)) w):=by
 have hnil:∀ {en w'},Ret (.slice none 0 0) w en w'→RetQ (RowAt FldI.cells 3 []) w en w':=fun⟨a,b⟩=>⟨_,a,RowAt.nil _,b⟩
 have hrow:∀ {l en w'},0<l.length→RetQ (OwnF l w.heap.size) w en w'→RetQ (RowAt FldI.cells 3 l) w en w':=fun hl ⟨v,a,b,c⟩=>⟨v,a,⟨b.sl,fun h=>by omega⟩,c⟩
 unfold entF zJ;cases hb:zbM e with
 | false=>rw[Bool.false_and,if_neg (by simp)];exact(ent_not w e hb).mono fun _ _=>hnil
 | true=>
  rw[Bool.true_and];by_cases h1:e.kind=1
  ·rw[if_pos h1,if_pos h1]
   have d1:(e.kind==1)=true:=by simp[h1]
   cases hr:zS e.u with
   | false=>rw[if_neg (by simp)];exact(zi7 w e m hm h hb d1 hr).mono fun _ _=>hnil
   | true=>rw[if_pos rfl];exact(zhW w e m hm h hb d1 hr).mono fun _ _=>hrow (by simp)
  ·rw[if_neg h1,if_neg h1]
   have d1:(e.kind==1)=false:=by simp[h1]
   by_cases h2:e.kind=2
   ·rw[if_pos h2,if_pos h2]
    have d2:(e.kind==2)=true:=by simp[h2]
    cases hr:zW e.m with
    | false=>rw[if_neg (by simp)];exact(zi9 w e m hm h hb d1 d2 hr).mono fun _ _=>hnil
    | true=>rw[if_pos rfl];exact(zhY w e m hm h hb d1 d2 hr).mono fun _ _=>hrow (by simp)
   ·rw[if_neg h2,if_neg h2]
    have d2:(e.kind==2)=false:=by simp[h2]
    cases hr:zaP e.o with
    | false=>rw[if_neg (by simp)];exact(zi8 w e hb d1 d2 hr).mono fun _ _=>hnil
    | true=>rw[if_pos rfl];exact(zhX w e hb d1 d2 hr).mono fun _ _=>hrow (by simp)
def zfZ (e:EntI):Nat:=(encL (entF e)).length
theorem zh1 (a b:FldI):(encL [a,b]).length=a.enc.length+b.enc.length:=by simp[encL]
theorem zfF {n:Int} (h1:n≤9223372036854775807):(fN n).enc.length≤9:=zb1 (n:=n.toNat) (by omega)
theorem enc_T {s:ByteArray} (h:s.size≤100000):(fT s).enc.length≤9+s.size:=by
 show(lebL s.size++s.data.toList).length≤_
 have:=zb1 (n:=s.size) (by omega);have h2:s.data.toList.length=s.size:=by rw[Array.length_toList];rfl
 rw[List.length_append];omega
theorem zg3 {e:EntI} (h:EntOk e) (hr:zJ e=true):(∀ f∈entF e,f.ok)∧0<(entF e).length∧(encL (entF e)).length≤1000:=by
 have hk:=h.k.2;unfold entF;rw[if_pos hr];unfold zJ at hr;rw[Bool.and_eq_true] at hr;by_cases h1:e.kind=1
 ·rw[if_pos h1] at hr⊢
  have hs:=zd5 h.u (zcA hr.2);refine⟨fun f hf=>?_,by simp,?_⟩
  ·simp only[List.mem_cons,List.not_mem_nil,or_false] at hf
   rcases hf with rfl | rfl
   ·exact⟨Nat.zero_le _,fun _=>by show 0≤e.kind;omega,hk⟩
   ·exact⟨by show(updB e.u).size≤_;omega,fun h=>(by(have h:true=false:=h);cases h),by show(0:Int)≤_;omega⟩
  ·rw[zh1]
   have:=zfF hk;have:=enc_T (s:=updB e.u) (by omega);omega
 ·rw[if_neg h1] at hr⊢
  by_cases h2:e.kind=2
  ·rw[if_pos h2] at hr⊢
   have hs:=zeb h.m (zb5 ((zex e.m).1 hr.2));refine⟨fun f hf=>?_,by simp,?_⟩
   ·simp only[List.mem_cons,List.not_mem_nil,or_false] at hf
    rcases hf with rfl | rfl
    ·exact⟨Nat.zero_le _,fun _=>by show 0≤e.kind;omega,hk⟩
    ·exact⟨by show(metB e.m).size≤_;omega,fun h=>(by(have h:true=false:=h);cases h),by show(0:Int)≤_;omega⟩
   ·rw[zh1]
    have:=zfF hk;have:=enc_T (s:=metB e.m) (by omega);omega
  ·rw[if_neg h2] at hr⊢
   have h3:e.kind=3:=by
    have hb:=hr.1;unfold zbM at hb;rw[if_neg h1,if_neg h2,decide_eq_true_eq] at hb;exact hb.1
   have hp:=hr.2;unfold zaP zD at hp;simp only[Bool.and_eq_true,decide_eq_true_eq] at hp;obtain⟨⟨o1,o2⟩,o3,o4⟩:=h.o;unfold in64 at o1 o2 o3 o4;refine⟨fun f hf=>?_,by simp,?_⟩
   ·simp only[bothF,List.mem_cons,List.not_mem_nil,or_false] at hf
    rcases hf with rfl | rfl | rfl | rfl | rfl
    ·exact⟨Nat.zero_le _,fun _=>by show 0≤e.kind;omega,hk⟩
    ·exact⟨Nat.zero_le _,fun _=>by show 0≤e.o.a.by_;omega,o1.2⟩
    ·exact⟨Nat.zero_le _,fun _=>by show 0≤e.o.a.n;omega,o2.2⟩
    ·exact⟨Nat.zero_le _,fun _=>by show 0≤e.o.b.by_;omega,o3.2⟩
    ·exact⟨Nat.zero_le _,fun _=>by show 0≤e.o.b.n;omega,o4.2⟩
   ·have:=zfF hk
    have:=zfF o1.2;have:=zfF o2.2;have:=zfF o3.2;have:=zfF o4.2;simp only[bothF,encL,List.map_cons,List.map_nil,List.flatten_cons,List.flatten_nil,List.length_append,List.length_nil];omega
theorem ze4 {e:EntI} (hr:zJ e=false):zfZ e=0∧entF e=[]:=by
 have:entF e=[]:=by unfold entF;rw[hr];rfl
 unfold zfZ;rw[this];exact⟨rfl,rfl⟩
end
section
open Go.RowKit
attribute [-simp] Tryz.isAgg61 Tryz.sizeOf61
def entB (e:EntI):ByteArray:=⟨(encL (entF e)).toArray⟩
theorem zgp (e:EntI):(entB e).size=zfZ e:=rfl
theorem size_c (w:World) (e:EntI) (m:Int) (hm:w.cell? ⟨0,0,none⟩=some (.int .i64 m)) (h:EntOk e):Calls Tryz.prog 18 #[.agg e.arr] w (Ret (.int .i64 (zfZ e)) w):=by
 have HEn:=fun W (hW:Ext w W)=>hid (zjM W e m (hW.cell hm) h);have HL:∀ W v,RowAt FldI.cells 3 (entF e) v W→Hid (Calls Tryz.prog 51 #[v] W (Ret (.tuple #[.string (entB e),.int .i64 0]) W)):=fun W v hv=>by
  cases hr:zJ e with
  | true=>
   obtain⟨h1,h2,h3⟩:=zg3 h hr;exact zl2 W v (entF e) hv.1 h1 h2 (by omega)
  | false=>
   have h1:=(ze4 hr).2;have h2:v=.slice none 0 0:=hv.2 (by rw[h1];rfl);have h3:entB e=⟨#[]⟩:=by unfold entB;rw[h1];rfl
   rw[h2,h3];exact lay_nil W
 have HS:=hid (zgp e);have HE:=hid (Ext.alloc w (.cells e.arr 61));have HB:=hid (Blk.new w 61 e.arr);have hz:=hid (zal e);clear h hm;generalize entB e=S at HL HS;go_enter Tryz.func18,Tryz.ntmps18;go_wp2_with fail
 generalize w.alloc (.cells e.arr 61)=w0 at HE HB⊢;simp only[Tryz.isAgg61,Tryz.sizeOf61,Result.andThen,↓reduceIte,za HB.out 21 hz.out];rw[Oper.upon_value];go_wp2_with fail
 refine((HEn _ HE.out).out).mono ?_;rintro en w1 ⟨v,rfl,hv,x1⟩;have HV:=hid hv;have HE1:=hid (HE.out.trans x1);clear hv x1;go_wp2_with fail
 refine((HL _ _ HV.out).out).mono ?_;rintro en w2 ⟨rfl,x2⟩;have HE2:=hid (HE1.out.trans x2);clear x2;go_wp2_with fail
 go_ret;exact⟨by rw[←HS.out];rfl,HE2.out⟩
theorem rpair_c (w:World) (p:PairI) (h:(in64 p.a.by_∧in64 p.a.n)∧(in64 p.b.by_∧in64 p.b.n)):Calls Tryz.prog 50 #[p.val] w (Ret (.string (verB p.a++verB p.b)) w):=by
 have H1:=fun W=>hid (zd7 W p.a h.1.1 h.1.2);have H2:=fun W=>hid (zd7 W p.b h.2.1 h.2.2);have s1:=zbe h.1.1 h.1.2;have s2:=zbe h.2.1 h.2.2;have HE:=hid (Ext.alloc w (.cells #[.int .i64 p.a.by_,.int .i64 p.a.n,.int .i64 p.b.by_,.int .i64 p.b.n] 59));have HB:=hid (Blk.new w 59 #[.int .i64 p.a.by_,.int .i64 p.a.n,.int .i64 p.b.by_,.int .i64 p.b.n]);unfold Ver.val at H1 H2;unfold PairI.val;generalize verB p.a=r1 at H1 s1⊢;generalize verB p.b=r2 at H2 s2⊢;clear h;go_enter Tryz.func50,Tryz.ntmps50;go_wp2_with fail
 generalize w.alloc (.cells #[.int .i64 p.a.by_,.int .i64 p.a.n,.int .i64 p.b.by_,.int .i64 p.b.n] 59)=w0 at HE HB⊢;have b0:=HB.out.cell (i:=0) (v:=.int .i64 p.a.by_) rfl;have b1:=HB.out.cell (i:=1) (v:=.int .i64 p.a.n) rfl;have b2:=HB.out.cell (i:=2) (v:=.int .i64 p.b.by_) rfl;have b3:=HB.out.cell (i:=3) (v:=.int .i64 p.b.n) rfl;have bl:=HB.out.lt;refine zc (by kernel_rfl) (by kernel_rfl) (by kernel_rfl) ?_
 repeat (first
  | (refine AWq.val rfl rfl rfl rfl (fun K hK=>?_);go_big_quiet_op;refine hK _ ?_;clear hK K)
  | (refine AWq.skip rfl rfl rfl ?_;simp only[Act.put,zq6,zq7,zq8])
  | (refine AWq.call rfl Tryz.func87 (by kernel_rfl) (by kernel_rfl) rfl rfl rfl ?_;apply Exists.intro;refine And.intro (fun wc hc=>?_) ?_;(· (simp only[zh,zm,↓reduceIte,Nat.reduceEqDiff,zq1,zq2,zq3,zq4,zq5];with_reducible exact(H1 _).out));simp only[Act.put,zq6,zq7,zq8])
  | (refine AWq.call rfl Tryz.func87 (by kernel_rfl) (by kernel_rfl) rfl rfl rfl ?_;apply Exists.intro;refine And.intro (fun wc hc=>?_) ?_;(· (simp only[zh,zm,↓reduceIte,Nat.reduceEqDiff,zq1,zq2,zq3,zq4,zq5];with_reducible exact(H2 _).out));simp only[Act.put,zq6,zq7,zq8]))
 refine AWq.done rfl rfl rfl (fun w2 x2=>?_);simp only[zl,Act.put,zq6,zq7,zq8];go_wp2_with fail
 go_ret;exact⟨rfl,HE.out.trans x2⟩
theorem zj3 (w:World) (p:PairI):Calls Tryz.prog 29 #[p.val] w (Ret (.bool (zaP p)) w):=by
 have H1:=fun W=>hid (zcv p.a W);have H2:=fun W=>hid (zcv p.b W);have HE:=hid (Ext.alloc w (.cells #[.int .i64 p.a.by_,.int .i64 p.a.n,.int .i64 p.b.by_,.int .i64 p.b.n] 59));have HB:=hid (Blk.new w 59 #[.int .i64 p.a.by_,.int .i64 p.a.n,.int .i64 p.b.by_,.int .i64 p.b.n]);unfold Ver.val at H1 H2;unfold PairI.val zaP;generalize zD p.b=r at H2⊢;cases h1:zD p.a with
 | false=>
  rw[h1] at H1;clear h1 H2;go_enter Tryz.func29,Tryz.ntmps29;go_wp2_with fail
  refine((H1 _).out).mono ?_;rintro e w1 ⟨rfl,x1⟩;have X1:=hid (HE.out.trans x1);clear x1;go_wp2_with fail
  go_ret;exact⟨rfl,X1.out⟩
 | true=>
  rw[h1] at H1;clear h1;go_enter Tryz.func29,Tryz.ntmps29;go_wp2_with fail
  refine((H1 _).out).mono ?_;rintro e w1 ⟨rfl,x1⟩;have X1:=hid (HE.out.trans x1);have HB1:=hid (HB.out.ext x1);have c2:=HB1.out.cell (i:=2) (v:=.int .i64 p.b.by_) rfl;have c3:=HB1.out.cell (i:=3) (v:=.int .i64 p.b.n) rfl;have l1:=HB1.out.lt;clear x1;go_wp2_with fail
  refine((H2 _).out).mono ?_;rintro e w2 ⟨rfl,x2⟩;have X2:=hid (X1.out.trans x2);clear x2;go_wp2_with fail
  go_ret;exact⟨rfl,X2.out⟩
theorem rre_upd (w:World) (e:EntI) (h:EntOk e) (d1:(e.kind==1)=true):Calls Tryz.prog 16 #[.agg e.arr] w (Ret (.bool (zS e.u&&(decide (e.m=met00)&&decide (e.o=pair00)))) w):=by
 have HE:=hid (Ext.alloc w (.cells e.arr 61));have HB:=hid (Blk.new w 61 e.arr);have HC:=fun W=>hid (zld W e.u (by have:=h.up;omega));unfold UpdI.val at HC;generalize hrr:zS e.u=r at HC⊢;clear hrr;have Qm:∀ W,(Op.equalIn 10000 57 (.agg #[.int .i64 e.m.item.by_,.int .i64 e.m.item.n,.int .i64 e.m.st.v.by_,.int .i64 e.m.st.v.n,.int .i64 e.m.st.time,.string e.m.p,.int .i64 e.m.size,.bool e.m.dead]) (.agg #[.int .i64 0,.int .i64 0,.int .i64 0,.int .i64 0,.int .i64 0,.string ⟨#[]⟩,.int .i64 0,.bool false])).run Tryz.prog W=.ok (decide (e.m=met00)) W:=fun W=>zcX e.m met00 W
 have Qo:∀ W,(Op.equalIn 10000 59 (.agg #[.int .i64 e.o.a.by_,.int .i64 e.o.a.n,.int .i64 e.o.b.by_,.int .i64 e.o.b.n]) (.agg #[.int .i64 0,.int .i64 0,.int .i64 0,.int .i64 0])).run Tryz.prog W=.ok (decide (e.o=pair00)) W:=fun W=>zcJ e.o pair00 W;generalize decide (e.m=met00)=qa at Qm⊢;generalize decide (e.o=pair00)=qb at Qo⊢;clear h;have g0:e.arr[0]? = some (.int .i64 e.kind):=rfl;have g1:e.arr[1]? = some (.int .i64 e.u.item.by_):=rfl;have g2:e.arr[2]? = some (.int .i64 e.u.item.n):=rfl;have g3:e.arr[3]? = some (.int .i64 e.u.st.v.by_):=rfl;have g4:e.arr[4]? = some (.int .i64 e.u.st.v.n):=rfl
 have g5:e.arr[5]? = some (.int .i64 e.u.st.time):=rfl;have g6:e.arr[6]? = some (.string e.u.p):=rfl;have g7:e.arr[7]? = some (.string e.u.d):=rfl;have g8:e.arr[8]? = some (.bool e.u.dead):=rfl;have g9:e.arr[9]? = some (.int .i64 e.m.item.by_):=rfl;have g10:e.arr[10]? = some (.int .i64 e.m.item.n):=rfl;have g11:e.arr[11]? = some (.int .i64 e.m.st.v.by_):=rfl;have g12:e.arr[12]? = some (.int .i64 e.m.st.v.n):=rfl;have g13:e.arr[13]? = some (.int .i64 e.m.st.time):=rfl;have g14:e.arr[14]? = some (.string e.m.p):=rfl;have g15:e.arr[15]? = some (.int .i64 e.m.size):=rfl;have g16:e.arr[16]? = some (.bool e.m.dead):=rfl
 have g17:e.arr[17]? = some (.int .i64 e.o.a.by_):=rfl;have g18:e.arr[18]? = some (.int .i64 e.o.a.n):=rfl;have g19:e.arr[19]? = some (.int .i64 e.o.b.by_):=rfl;have g20:e.arr[20]? = some (.int .i64 e.o.b.n):=rfl;go_enter Tryz.func16,Tryz.ntmps16;go_wp2_with fail
 clear g0 g1 g2 g3 g4 g5 g6 g7 g8 g9 g10 g11 g12 g13 g14 g15 g16 g17 g18 g19 g20;generalize w.alloc (.cells e.arr 61)=w0 at HE HB⊢;refine((HC _).out).mono ?_;rintro en w1 ⟨rfl,x1⟩;have HE1:=hid (HE.out.trans x1);have HB1:=hid (HB.out.ext x1);clear x1 HE HB HC;have c0:=HB1.out.cell (i:=0) (v:=.int .i64 e.kind) rfl;have c1:=HB1.out.cell (i:=1) (v:=.int .i64 e.u.item.by_) rfl;have c2:=HB1.out.cell (i:=2) (v:=.int .i64 e.u.item.n) rfl;have c3:=HB1.out.cell (i:=3) (v:=.int .i64 e.u.st.v.by_) rfl;have c4:=HB1.out.cell (i:=4) (v:=.int .i64 e.u.st.v.n) rfl;have c5:=HB1.out.cell (i:=5) (v:=.int .i64 e.u.st.time) rfl
 have c6:=HB1.out.cell (i:=6) (v:=.string e.u.p) rfl;have c7:=HB1.out.cell (i:=7) (v:=.string e.u.d) rfl;have c8:=HB1.out.cell (i:=8) (v:=.bool e.u.dead) rfl;have c9:=HB1.out.cell (i:=9) (v:=.int .i64 e.m.item.by_) rfl;have c10:=HB1.out.cell (i:=10) (v:=.int .i64 e.m.item.n) rfl;have c11:=HB1.out.cell (i:=11) (v:=.int .i64 e.m.st.v.by_) rfl;have c12:=HB1.out.cell (i:=12) (v:=.int .i64 e.m.st.v.n) rfl;have c13:=HB1.out.cell (i:=13) (v:=.int .i64 e.m.st.time) rfl;have c14:=HB1.out.cell (i:=14) (v:=.string e.m.p) rfl;have c15:=HB1.out.cell (i:=15) (v:=.int .i64 e.m.size) rfl;have c16:=HB1.out.cell (i:=16) (v:=.bool e.m.dead) rfl
 have c17:=HB1.out.cell (i:=17) (v:=.int .i64 e.o.a.by_) rfl;have c18:=HB1.out.cell (i:=18) (v:=.int .i64 e.o.a.n) rfl;have c19:=HB1.out.cell (i:=19) (v:=.int .i64 e.o.b.by_) rfl;have c20:=HB1.out.cell (i:=20) (v:=.int .i64 e.o.b.n) rfl;have cl:=HB1.out.lt;cases r with
 | false=>
  go_wp2_with fail
  go_ret;exact⟨rfl,HE1.out⟩
 | true=>
  cases qa with
  | false=>
   go_wp2_with fail
   go_ret;exact⟨rfl,HE1.out⟩
  | true=>
   go_wp2_with fail
   go_ret;exact⟨rfl,HE1.out⟩
theorem rre_met (w:World) (e:EntI) (h:EntOk e) (d1:(e.kind==1)=false) (d2:(e.kind==2)=true):Calls Tryz.prog 16 #[.agg e.arr] w (Ret (.bool ((e.m.chk==0)&&(decide (e.u=upd0)&&decide (e.o=pair00)))) w):=by
 have HE:=hid (Ext.alloc w (.cells e.arr 61));have HB:=hid (Blk.new w 61 e.arr);have HC:=fun W=>hid (zka W e.m (by have:=h.mp;omega));unfold MetaI.val at HC;generalize hrr:e.m.chk=ck at HC;generalize hr2:(e.m.chk==0)=r;rw[hrr] at hr2;clear hrr;have Qu:∀ W,(Op.equalIn 10000 55 (.agg #[.int .i64 e.u.item.by_,.int .i64 e.u.item.n,.int .i64 e.u.st.v.by_,.int .i64 e.u.st.v.n,.int .i64 e.u.st.time,.string e.u.p,.string e.u.d,.bool e.u.dead]) (.agg #[.int .i64 0,.int .i64 0,.int .i64 0,.int .i64 0,.int .i64 0,.string ⟨#[]⟩,.string ⟨#[]⟩,.bool false])).run Tryz.prog W=.ok (decide (e.u=upd0)) W:=fun W=>zcW e.u upd0 W
 have Qo:∀ W,(Op.equalIn 10000 59 (.agg #[.int .i64 e.o.a.by_,.int .i64 e.o.a.n,.int .i64 e.o.b.by_,.int .i64 e.o.b.n]) (.agg #[.int .i64 0,.int .i64 0,.int .i64 0,.int .i64 0])).run Tryz.prog W=.ok (decide (e.o=pair00)) W:=fun W=>zcJ e.o pair00 W;generalize decide (e.u=upd0)=qa at Qu⊢;generalize decide (e.o=pair00)=qb at Qo⊢;clear h;have g0:e.arr[0]? = some (.int .i64 e.kind):=rfl;have g1:e.arr[1]? = some (.int .i64 e.u.item.by_):=rfl;have g2:e.arr[2]? = some (.int .i64 e.u.item.n):=rfl;have g3:e.arr[3]? = some (.int .i64 e.u.st.v.by_):=rfl;have g4:e.arr[4]? = some (.int .i64 e.u.st.v.n):=rfl
 have g5:e.arr[5]? = some (.int .i64 e.u.st.time):=rfl;have g6:e.arr[6]? = some (.string e.u.p):=rfl;have g7:e.arr[7]? = some (.string e.u.d):=rfl;have g8:e.arr[8]? = some (.bool e.u.dead):=rfl;have g9:e.arr[9]? = some (.int .i64 e.m.item.by_):=rfl;have g10:e.arr[10]? = some (.int .i64 e.m.item.n):=rfl;have g11:e.arr[11]? = some (.int .i64 e.m.st.v.by_):=rfl;have g12:e.arr[12]? = some (.int .i64 e.m.st.v.n):=rfl;have g13:e.arr[13]? = some (.int .i64 e.m.st.time):=rfl;have g14:e.arr[14]? = some (.string e.m.p):=rfl;have g15:e.arr[15]? = some (.int .i64 e.m.size):=rfl;have g16:e.arr[16]? = some (.bool e.m.dead):=rfl
 have g17:e.arr[17]? = some (.int .i64 e.o.a.by_):=rfl;have g18:e.arr[18]? = some (.int .i64 e.o.a.n):=rfl;have g19:e.arr[19]? = some (.int .i64 e.o.b.by_):=rfl;have g20:e.arr[20]? = some (.int .i64 e.o.b.n):=rfl;go_enter Tryz.func16,Tryz.ntmps16;go_wp2_with fail
 clear g0 g1 g2 g3 g4 g5 g6 g7 g8 g9 g10 g11 g12 g13 g14 g15 g16 g17 g18 g19 g20;generalize w.alloc (.cells e.arr 61)=w0 at HE HB⊢;refine((HC _).out).mono ?_;rintro en w1 ⟨rfl,x1⟩;have HE1:=hid (HE.out.trans x1);have HB1:=hid (HB.out.ext x1);clear x1 HE HB HC;have c0:=HB1.out.cell (i:=0) (v:=.int .i64 e.kind) rfl;have c1:=HB1.out.cell (i:=1) (v:=.int .i64 e.u.item.by_) rfl;have c2:=HB1.out.cell (i:=2) (v:=.int .i64 e.u.item.n) rfl;have c3:=HB1.out.cell (i:=3) (v:=.int .i64 e.u.st.v.by_) rfl;have c4:=HB1.out.cell (i:=4) (v:=.int .i64 e.u.st.v.n) rfl;have c5:=HB1.out.cell (i:=5) (v:=.int .i64 e.u.st.time) rfl
 have c6:=HB1.out.cell (i:=6) (v:=.string e.u.p) rfl;have c7:=HB1.out.cell (i:=7) (v:=.string e.u.d) rfl;have c8:=HB1.out.cell (i:=8) (v:=.bool e.u.dead) rfl;have c9:=HB1.out.cell (i:=9) (v:=.int .i64 e.m.item.by_) rfl;have c10:=HB1.out.cell (i:=10) (v:=.int .i64 e.m.item.n) rfl;have c11:=HB1.out.cell (i:=11) (v:=.int .i64 e.m.st.v.by_) rfl;have c12:=HB1.out.cell (i:=12) (v:=.int .i64 e.m.st.v.n) rfl;have c13:=HB1.out.cell (i:=13) (v:=.int .i64 e.m.st.time) rfl;have c14:=HB1.out.cell (i:=14) (v:=.string e.m.p) rfl;have c15:=HB1.out.cell (i:=15) (v:=.int .i64 e.m.size) rfl;have c16:=HB1.out.cell (i:=16) (v:=.bool e.m.dead) rfl
 have c17:=HB1.out.cell (i:=17) (v:=.int .i64 e.o.a.by_) rfl;have c18:=HB1.out.cell (i:=18) (v:=.int .i64 e.o.a.n) rfl;have c19:=HB1.out.cell (i:=19) (v:=.int .i64 e.o.b.by_) rfl;have c20:=HB1.out.cell (i:=20) (v:=.int .i64 e.o.b.n) rfl;have cl:=HB1.out.lt;cases r with
 | false=>
  go_wp2_with fail
  go_ret;exact⟨by rw[hr2];rfl,HE1.out⟩
 | true=>
  cases qa with
  | false=>
   go_wp2_with fail
   go_ret;exact⟨by rw[hr2];rfl,HE1.out⟩
  | true=>
   go_wp2_with fail
   go_ret;exact⟨by rw[hr2];rfl,HE1.out⟩
theorem rre_out (w:World) (e:EntI) (h:EntOk e) (d1:(e.kind==1)=false) (d2:(e.kind==2)=false) (d3:(e.kind==3)=true):Calls Tryz.prog 16 #[.agg e.arr] w (Ret (.bool (zaP e.o&&(decide (e.u=upd0)&&decide (e.m=met00)))) w):=by
 have HE:=hid (Ext.alloc w (.cells e.arr 61));have HB:=hid (Blk.new w 61 e.arr);have HC:=fun W=>hid (zj3 W e.o);unfold PairI.val at HC;generalize hrr:zaP e.o=r at HC⊢;clear hrr;have Qu:∀ W,(Op.equalIn 10000 55 (.agg #[.int .i64 e.u.item.by_,.int .i64 e.u.item.n,.int .i64 e.u.st.v.by_,.int .i64 e.u.st.v.n,.int .i64 e.u.st.time,.string e.u.p,.string e.u.d,.bool e.u.dead]) (.agg #[.int .i64 0,.int .i64 0,.int .i64 0,.int .i64 0,.int .i64 0,.string ⟨#[]⟩,.string ⟨#[]⟩,.bool false])).run Tryz.prog W=.ok (decide (e.u=upd0)) W:=fun W=>zcW e.u upd0 W
 have Qm:∀ W,(Op.equalIn 10000 57 (.agg #[.int .i64 e.m.item.by_,.int .i64 e.m.item.n,.int .i64 e.m.st.v.by_,.int .i64 e.m.st.v.n,.int .i64 e.m.st.time,.string e.m.p,.int .i64 e.m.size,.bool e.m.dead]) (.agg #[.int .i64 0,.int .i64 0,.int .i64 0,.int .i64 0,.int .i64 0,.string ⟨#[]⟩,.int .i64 0,.bool false])).run Tryz.prog W=.ok (decide (e.m=met00)) W:=fun W=>zcX e.m met00 W;generalize decide (e.u=upd0)=qa at Qu⊢;generalize decide (e.m=met00)=qb at Qm⊢;clear h;have g0:e.arr[0]? = some (.int .i64 e.kind):=rfl;have g1:e.arr[1]? = some (.int .i64 e.u.item.by_):=rfl;have g2:e.arr[2]? = some (.int .i64 e.u.item.n):=rfl
 have g3:e.arr[3]? = some (.int .i64 e.u.st.v.by_):=rfl;have g4:e.arr[4]? = some (.int .i64 e.u.st.v.n):=rfl;have g5:e.arr[5]? = some (.int .i64 e.u.st.time):=rfl;have g6:e.arr[6]? = some (.string e.u.p):=rfl;have g7:e.arr[7]? = some (.string e.u.d):=rfl;have g8:e.arr[8]? = some (.bool e.u.dead):=rfl;have g9:e.arr[9]? = some (.int .i64 e.m.item.by_):=rfl;have g10:e.arr[10]? = some (.int .i64 e.m.item.n):=rfl;have g11:e.arr[11]? = some (.int .i64 e.m.st.v.by_):=rfl;have g12:e.arr[12]? = some (.int .i64 e.m.st.v.n):=rfl;have g13:e.arr[13]? = some (.int .i64 e.m.st.time):=rfl;have g14:e.arr[14]? = some (.string e.m.p):=rfl
 have g15:e.arr[15]? = some (.int .i64 e.m.size):=rfl;have g16:e.arr[16]? = some (.bool e.m.dead):=rfl;have g17:e.arr[17]? = some (.int .i64 e.o.a.by_):=rfl;have g18:e.arr[18]? = some (.int .i64 e.o.a.n):=rfl;have g19:e.arr[19]? = some (.int .i64 e.o.b.by_):=rfl;have g20:e.arr[20]? = some (.int .i64 e.o.b.n):=rfl;go_enter Tryz.func16,Tryz.ntmps16;go_wp2_with fail
 clear g0 g1 g2 g3 g4 g5 g6 g7 g8 g9 g10 g11 g12 g13 g14 g15 g16 g17 g18 g19 g20;generalize w.alloc (.cells e.arr 61)=w0 at HE HB⊢;refine((HC _).out).mono ?_;rintro en w1 ⟨rfl,x1⟩;have HE1:=hid (HE.out.trans x1);have HB1:=hid (HB.out.ext x1);clear x1 HE HB HC;have c0:=HB1.out.cell (i:=0) (v:=.int .i64 e.kind) rfl;have c1:=HB1.out.cell (i:=1) (v:=.int .i64 e.u.item.by_) rfl;have c2:=HB1.out.cell (i:=2) (v:=.int .i64 e.u.item.n) rfl;have c3:=HB1.out.cell (i:=3) (v:=.int .i64 e.u.st.v.by_) rfl;have c4:=HB1.out.cell (i:=4) (v:=.int .i64 e.u.st.v.n) rfl;have c5:=HB1.out.cell (i:=5) (v:=.int .i64 e.u.st.time) rfl
 have c6:=HB1.out.cell (i:=6) (v:=.string e.u.p) rfl;have c7:=HB1.out.cell (i:=7) (v:=.string e.u.d) rfl;have c8:=HB1.out.cell (i:=8) (v:=.bool e.u.dead) rfl;have c9:=HB1.out.cell (i:=9) (v:=.int .i64 e.m.item.by_) rfl;have c10:=HB1.out.cell (i:=10) (v:=.int .i64 e.m.item.n) rfl;have c11:=HB1.out.cell (i:=11) (v:=.int .i64 e.m.st.v.by_) rfl;have c12:=HB1.out.cell (i:=12) (v:=.int .i64 e.m.st.v.n) rfl;have c13:=HB1.out.cell (i:=13) (v:=.int .i64 e.m.st.time) rfl;have c14:=HB1.out.cell (i:=14) (v:=.string e.m.p) rfl;have c15:=HB1.out.cell (i:=15) (v:=.int .i64 e.m.size) rfl;have c16:=HB1.out.cell (i:=16) (v:=.bool e.m.dead) rfl
 have c17:=HB1.out.cell (i:=17) (v:=.int .i64 e.o.a.by_) rfl;have c18:=HB1.out.cell (i:=18) (v:=.int .i64 e.o.a.n) rfl;have c19:=HB1.out.cell (i:=19) (v:=.int .i64 e.o.b.by_) rfl;have c20:=HB1.out.cell (i:=20) (v:=.int .i64 e.o.b.n) rfl;have cl:=HB1.out.lt;cases r with
 | false=>
  go_wp2_with fail
  go_ret;exact⟨rfl,HE1.out⟩
 | true=>
  cases qa with
  | false=>
   go_wp2_with fail
   go_ret;exact⟨rfl,HE1.out⟩
  | true=>
   go_wp2_with fail
   go_ret;exact⟨rfl,HE1.out⟩
theorem rre_no (w:World) (e:EntI) (h:EntOk e) (d1:(e.kind==1)=false) (d2:(e.kind==2)=false) (d3:(e.kind==3)=false):Calls Tryz.prog 16 #[.agg e.arr] w (Ret (.bool (false)) w):=by
 have HE:=hid (Ext.alloc w (.cells e.arr 61));have HB:=hid (Blk.new w 61 e.arr);clear h;have g0:e.arr[0]? = some (.int .i64 e.kind):=rfl;go_enter Tryz.func16,Tryz.ntmps16;go_wp2_with fail
 go_ret;exact⟨rfl,HE.out⟩
end
section
open Go.RowKit
theorem zj4 (w:World) (e:EntI) (h:EntOk e):Calls Tryz.prog 16 #[.agg e.arr] w (Ret (.bool (zJ e)) w):=by
 by_cases h1:e.kind=1
 ·have hr:zJ e=(zS e.u&&(decide (e.m=met00)&&decide (e.o=pair00))):=by
   unfold zJ zbM;rw[if_pos h1,if_pos h1,Bool.eq_iff_iff];simp;constructor
   ·rintro⟨⟨a,b⟩,c⟩;exact⟨c,a,b⟩
   ·rintro⟨c,a,b⟩;exact⟨⟨a,b⟩,c⟩
  rw[hr];exact rre_upd w e h (by simp[h1])
 by_cases h2:e.kind=2
 ·have hr:zJ e=((e.m.chk==0)&&(decide (e.u=upd0)&&decide (e.o=pair00))):=by
   unfold zJ zbM zW;rw[if_neg h1,if_neg h1,if_pos h2,if_pos h2,Bool.eq_iff_iff];simp;constructor
   ·rintro⟨⟨a,b⟩,c⟩;exact⟨c,a,b⟩
   ·rintro⟨c,a,b⟩;exact⟨⟨a,b⟩,c⟩
  rw[hr];exact rre_met w e h (by simp[h1]) (by simp[h2])
 by_cases h3:e.kind=3
 ·have hr:zJ e=(zaP e.o&&(decide (e.u=upd0)&&decide (e.m=met00))):=by
   unfold zJ zbM;rw[if_neg h1,if_neg h1,if_neg h2,if_neg h2,Bool.eq_iff_iff];simp[h3];constructor
   ·rintro⟨⟨a,b⟩,c⟩;exact⟨c,a,b⟩
   ·rintro⟨c,a,b⟩;exact⟨⟨a,b⟩,c⟩
  rw[hr];exact rre_out w e h (by simp[h1]) (by simp[h2]) (by simp[h3])
 ·have hr:zJ e=false:=by
   unfold zJ zbM;rw[if_neg h1,if_neg h1,if_neg h2,if_neg h2];simp[h3]
  rw[hr];exact rre_no w e h (by simp[h1]) (by simp[h2]) (by simp[h3])
end
section
open Go.RowKit
attribute [-simp] Tryz.isAgg61 Tryz.sizeOf61
theorem zmg {e:EntI} (hr:zJ e=true) (h1:e.kind=1):entB e=numB e.kind++zO (updB e.u):=by
 unfold entB entF;rw[if_pos hr,if_pos h1];apply ByteArray.ext;apply Array.ext';simp only[ByteArray.data_append,Array.toList_append,zu (show 0≤e.kind by omega),zV];simp[encL,fN,fT,FldI.enc]
theorem zmf {e:EntI} (hr:zJ e=true) (h1:¬ e.kind=1) (h2:e.kind=2):entB e=numB e.kind++zO (metB e.m):=by
 unfold entB entF;rw[if_pos hr,if_neg h1,if_pos h2];apply ByteArray.ext;apply Array.ext';simp only[ByteArray.data_append,Array.toList_append,zu (show 0≤e.kind by omega),zV];simp[encL,fN,fT,FldI.enc]
theorem right3 {e:EntI} (hr:zJ e=true) (h1:¬ e.kind=1) (h2:¬ e.kind=2):e.kind=3∧zaP e.o=true:=by
 unfold zJ zbM at hr;rw[if_neg h1,if_neg h1,if_neg h2,if_neg h2] at hr;simp only[Bool.and_eq_true,decide_eq_true_eq] at hr;exact⟨hr.1.1,hr.2⟩
theorem zja {e:EntI} (hr:zJ e=true) (h1:¬ e.kind=1) (h2:¬ e.kind=2):entB e=numB e.kind++(verB e.o.a++verB e.o.b):=by
 obtain⟨h3,hp⟩:=right3 hr h1 h2;unfold zaP zD at hp;simp only[Bool.and_eq_true,decide_eq_true_eq] at hp;unfold entB entF;rw[if_pos hr,if_neg h1,if_neg h2];apply ByteArray.ext;apply Array.ext';unfold verB;simp only[ByteArray.data_append,Array.toList_append,zu (show 0≤e.kind by omega),zu (show 0≤e.o.a.by_ by omega),zu (show 0≤e.o.a.n by omega),zu (show 0≤e.o.b.by_ by omega),zu (show 0≤e.o.b.n by omega)];simp[encL,bothF,fN,FldI.enc]
theorem ren_upd (w:World) (e:EntI) (h:EntOk e) (hr:zJ e=true) (h1:e.kind=1):Calls Tryz.prog 17 #[.agg e.arr] w (Ret (.string (entB e)) w):=by
 have HE:=hid (Ext.alloc w (.cells e.arr 61));have HB:=hid (Blk.new w 61 e.arr);have HK:=fun W=>hid (za7 W e.kind h.k.1 h.k.2);have sk:=zbp h.k.2;have HU:=fun W=>hid (rupd_c W e.u h.u (by have:=h.up;omega) (by have:=h.ud;omega));have su:=zd5 h.u (zcA (by unfold zJ at hr;rw[if_pos h1,Bool.and_eq_true] at hr;exact hr.2));have HT:=fun W=>hid (zc6 W (updB e.u) (by omega));have st:=zbm (updB e.u) (by omega);have d1:(e.kind==1)=true:=by simp[h1]
 unfold UpdI.val at HU;rw[zmg hr h1];clear h1;generalize numB e.kind=rk at HK sk⊢;generalize zO (updB e.u)=rt at HT st⊢;generalize updB e.u=ru at HU HT su st;clear h hr;have g0:e.arr[0]? = some (.int .i64 e.kind):=rfl;go_enter Tryz.func17,Tryz.ntmps17;go_wp2_with fail
 clear g0;generalize w.alloc (.cells e.arr 61)=w0 at HE HB⊢;refine((HK _).out).mono ?_;rintro en w1 ⟨rfl,x1⟩;have HE1:=hid (HE.out.trans x1);have HB1:=hid (HB.out.ext x1);clear x1 HE HB HK;have c0:=HB1.out.cell (i:=0) (v:=.int .i64 e.kind) rfl;have c1:=HB1.out.cell (i:=1) (v:=.int .i64 e.u.item.by_) rfl;have c2:=HB1.out.cell (i:=2) (v:=.int .i64 e.u.item.n) rfl;have c3:=HB1.out.cell (i:=3) (v:=.int .i64 e.u.st.v.by_) rfl;have c4:=HB1.out.cell (i:=4) (v:=.int .i64 e.u.st.v.n) rfl;have c5:=HB1.out.cell (i:=5) (v:=.int .i64 e.u.st.time) rfl;have c6:=HB1.out.cell (i:=6) (v:=.string e.u.p) rfl
 have c7:=HB1.out.cell (i:=7) (v:=.string e.u.d) rfl;have c8:=HB1.out.cell (i:=8) (v:=.bool e.u.dead) rfl;have c9:=HB1.out.cell (i:=9) (v:=.int .i64 e.m.item.by_) rfl;have c10:=HB1.out.cell (i:=10) (v:=.int .i64 e.m.item.n) rfl;have c11:=HB1.out.cell (i:=11) (v:=.int .i64 e.m.st.v.by_) rfl;have c12:=HB1.out.cell (i:=12) (v:=.int .i64 e.m.st.v.n) rfl;have c13:=HB1.out.cell (i:=13) (v:=.int .i64 e.m.st.time) rfl;have c14:=HB1.out.cell (i:=14) (v:=.string e.m.p) rfl;have c15:=HB1.out.cell (i:=15) (v:=.int .i64 e.m.size) rfl;have c16:=HB1.out.cell (i:=16) (v:=.bool e.m.dead) rfl
 have c17:=HB1.out.cell (i:=17) (v:=.int .i64 e.o.a.by_) rfl;have c18:=HB1.out.cell (i:=18) (v:=.int .i64 e.o.a.n) rfl;have c19:=HB1.out.cell (i:=19) (v:=.int .i64 e.o.b.by_) rfl;have c20:=HB1.out.cell (i:=20) (v:=.int .i64 e.o.b.n) rfl;have cl:=HB1.out.lt;go_wp2_with fail
 refine((HU _).out).mono ?_;rintro en w2 ⟨rfl,x2⟩;have HE2:=hid (HE1.out.trans x2);clear x2;go_wp2_with fail
 refine((HT _).out).mono ?_;rintro en w3 ⟨rfl,x3⟩;have HE3:=hid (HE2.out.trans x3);clear x3;go_wp2_with fail
 go_ret;exact⟨rfl,HE3.out⟩
theorem ren_met (w:World) (e:EntI) (h:EntOk e) (hr:zJ e=true) (h1:¬ e.kind=1) (h2:e.kind=2):Calls Tryz.prog 17 #[.agg e.arr] w (Ret (.string (entB e)) w):=by
 have HE:=hid (Ext.alloc w (.cells e.arr 61));have HB:=hid (Blk.new w 61 e.arr);have HK:=fun W=>hid (za7 W e.kind h.k.1 h.k.2);have sk:=zbp h.k.2;have HU:=fun W=>hid (rmet_c W e.m h.m (by have:=h.mp;omega) h.ms);have su:=zeb h.m (zb5 ((zex e.m).1 (by unfold zJ at hr;rw[if_neg h1,if_pos h2,Bool.and_eq_true] at hr;exact hr.2)));have HT:=fun W=>hid (zc6 W (metB e.m) (by omega));have st:=zbm (metB e.m) (by omega);have d1:(e.kind==1)=false:=by simp[h1]
 have d2:(e.kind==2)=true:=by simp[h2]
 unfold MetaI.val at HU;rw[zmf hr h1 h2];clear h1 h2;generalize numB e.kind=rk at HK sk⊢;generalize zO (metB e.m)=rt at HT st⊢;generalize metB e.m=ru at HU HT su st;clear h hr;have g0:e.arr[0]? = some (.int .i64 e.kind):=rfl;go_enter Tryz.func17,Tryz.ntmps17;go_wp2_with fail
 clear g0;generalize w.alloc (.cells e.arr 61)=w0 at HE HB⊢;refine((HK _).out).mono ?_;rintro en w1 ⟨rfl,x1⟩;have HE1:=hid (HE.out.trans x1);have HB1:=hid (HB.out.ext x1);clear x1 HE HB HK;have c0:=HB1.out.cell (i:=0) (v:=.int .i64 e.kind) rfl;have c1:=HB1.out.cell (i:=1) (v:=.int .i64 e.u.item.by_) rfl;have c2:=HB1.out.cell (i:=2) (v:=.int .i64 e.u.item.n) rfl;have c3:=HB1.out.cell (i:=3) (v:=.int .i64 e.u.st.v.by_) rfl;have c4:=HB1.out.cell (i:=4) (v:=.int .i64 e.u.st.v.n) rfl;have c5:=HB1.out.cell (i:=5) (v:=.int .i64 e.u.st.time) rfl;have c6:=HB1.out.cell (i:=6) (v:=.string e.u.p) rfl
 have c7:=HB1.out.cell (i:=7) (v:=.string e.u.d) rfl;have c8:=HB1.out.cell (i:=8) (v:=.bool e.u.dead) rfl;have c9:=HB1.out.cell (i:=9) (v:=.int .i64 e.m.item.by_) rfl;have c10:=HB1.out.cell (i:=10) (v:=.int .i64 e.m.item.n) rfl;have c11:=HB1.out.cell (i:=11) (v:=.int .i64 e.m.st.v.by_) rfl;have c12:=HB1.out.cell (i:=12) (v:=.int .i64 e.m.st.v.n) rfl;have c13:=HB1.out.cell (i:=13) (v:=.int .i64 e.m.st.time) rfl;have c14:=HB1.out.cell (i:=14) (v:=.string e.m.p) rfl;have c15:=HB1.out.cell (i:=15) (v:=.int .i64 e.m.size) rfl;have c16:=HB1.out.cell (i:=16) (v:=.bool e.m.dead) rfl
 have c17:=HB1.out.cell (i:=17) (v:=.int .i64 e.o.a.by_) rfl;have c18:=HB1.out.cell (i:=18) (v:=.int .i64 e.o.a.n) rfl;have c19:=HB1.out.cell (i:=19) (v:=.int .i64 e.o.b.by_) rfl;have c20:=HB1.out.cell (i:=20) (v:=.int .i64 e.o.b.n) rfl;have cl:=HB1.out.lt;go_wp2_with fail
 refine((HU _).out).mono ?_;rintro en w2 ⟨rfl,x2⟩;have HE2:=hid (HE1.out.trans x2);clear x2;go_wp2_with fail
 refine((HT _).out).mono ?_;rintro en w3 ⟨rfl,x3⟩;have HE3:=hid (HE2.out.trans x3);clear x3;go_wp2_with fail
 go_ret;exact⟨rfl,HE3.out⟩
theorem ren_out (w:World) (e:EntI) (h:EntOk e) (hr:zJ e=true) (h1:¬ e.kind=1) (h2:¬ e.kind=2):Calls Tryz.prog 17 #[.agg e.arr] w (Ret (.string (entB e)) w):=by
 have HE:=hid (Ext.alloc w (.cells e.arr 61));have HB:=hid (Blk.new w 61 e.arr);have HK:=fun W=>hid (za7 W e.kind h.k.1 h.k.2);have sk:=zbp h.k.2;have HU:=fun W=>hid (rpair_c W e.o h.o);have s1:=zbe h.o.1.1 h.o.1.2;have s2:=zbe h.o.2.1 h.o.2.2;have st:(verB e.o.a++verB e.o.b).size≤36:=by rw[ByteArray.size_append];omega
 have d1:(e.kind==1)=false:=by simp[h1]
 have d2:(e.kind==2)=false:=by simp[h2]
 unfold PairI.val at HU;rw[zja hr h1 h2];clear h1 h2 s1 s2;generalize numB e.kind=rk at HK sk⊢;generalize verB e.o.a++verB e.o.b=rt at HU st⊢;clear h hr;have g0:e.arr[0]? = some (.int .i64 e.kind):=rfl;go_enter Tryz.func17,Tryz.ntmps17;go_wp2_with fail
 clear g0;generalize w.alloc (.cells e.arr 61)=w0 at HE HB⊢;refine((HK _).out).mono ?_;rintro en w1 ⟨rfl,x1⟩;have HE1:=hid (HE.out.trans x1);have HB1:=hid (HB.out.ext x1);clear x1 HE HB HK;have c0:=HB1.out.cell (i:=0) (v:=.int .i64 e.kind) rfl;have c1:=HB1.out.cell (i:=1) (v:=.int .i64 e.u.item.by_) rfl;have c2:=HB1.out.cell (i:=2) (v:=.int .i64 e.u.item.n) rfl;have c3:=HB1.out.cell (i:=3) (v:=.int .i64 e.u.st.v.by_) rfl;have c4:=HB1.out.cell (i:=4) (v:=.int .i64 e.u.st.v.n) rfl;have c5:=HB1.out.cell (i:=5) (v:=.int .i64 e.u.st.time) rfl;have c6:=HB1.out.cell (i:=6) (v:=.string e.u.p) rfl
 have c7:=HB1.out.cell (i:=7) (v:=.string e.u.d) rfl;have c8:=HB1.out.cell (i:=8) (v:=.bool e.u.dead) rfl;have c9:=HB1.out.cell (i:=9) (v:=.int .i64 e.m.item.by_) rfl;have c10:=HB1.out.cell (i:=10) (v:=.int .i64 e.m.item.n) rfl;have c11:=HB1.out.cell (i:=11) (v:=.int .i64 e.m.st.v.by_) rfl;have c12:=HB1.out.cell (i:=12) (v:=.int .i64 e.m.st.v.n) rfl;have c13:=HB1.out.cell (i:=13) (v:=.int .i64 e.m.st.time) rfl;have c14:=HB1.out.cell (i:=14) (v:=.string e.m.p) rfl;have c15:=HB1.out.cell (i:=15) (v:=.int .i64 e.m.size) rfl;have c16:=HB1.out.cell (i:=16) (v:=.bool e.m.dead) rfl
 have c17:=HB1.out.cell (i:=17) (v:=.int .i64 e.o.a.by_) rfl;have c18:=HB1.out.cell (i:=18) (v:=.int .i64 e.o.a.n) rfl;have c19:=HB1.out.cell (i:=19) (v:=.int .i64 e.o.b.by_) rfl;have c20:=HB1.out.cell (i:=20) (v:=.int .i64 e.o.b.n) rfl;have cl:=HB1.out.lt;go_wp2_with fail
 refine((HU _).out).mono ?_;rintro en w2 ⟨rfl,x2⟩;have HE2:=hid (HE1.out.trans x2);clear x2;go_wp2_with fail
 go_ret;exact⟨rfl,HE2.out⟩
theorem zlt (w:World) (e:EntI) (h:EntOk e) (hr:zJ e=true):Calls Tryz.prog 17 #[.agg e.arr] w (Ret (.string (entB e)) w):=by
 by_cases h1:e.kind=1
 ·exact ren_upd w e h hr h1
 by_cases h2:e.kind=2
 ·exact ren_met w e h hr h1 h2
 exact ren_out w e h hr h1 h2
end
end Go.Proofs.YtofjpdgojoppbaaGreatDoor
