/-
  Of the claim's proof: LbN, LbO, LbP, LbR, LbS, BtA, BtB, BtC, EnA.
-/
import Derived.Test.YtofjpdgojoppbaaGreatDoorS01
import Derived.Test.YtofjpdgojoppbaaGreatDoorS05
import Derived.Test.YtofjpdgojoppbaaGreatDoorS08
import Derived.Test.YtofjpdgojoppbaaGreatDoorS13
set_option maxRecDepth 100000
set_option maxHeartbeats 16000000
set_option linter.unusedVariables false
set_option linter.unusedSimpArgs false
namespace Go.Proofs.YtofjpdgojoppbaaGreatDoor
section
open Go.RowKit
def metF (u:MetaI):List FldI:=[fN u.item.by_,fN u.item.n,fN u.st.v.by_,fN u.st.v.n,fN u.st.time,fT u.p,fN u.size,fN (zao u.dead)]
theorem putM_no (w:World) (u:MetaI) (m:Int) (hm:w.cell? ⟨0,0,none⟩=some (.int .i64 m)) (hu:u.p.size≤90000) (e0:u.chk≠0):Calls Tryz.prog 93 #[u.val] w (Ret (.tuple #[.string ⟨#[]⟩,.int .i64 2]) w):=by
 have HC:=fun W (hW:Ext w W)=>hid (zfX W u m (hW.cell hm) hu);have d0:(u.chk != 0)=true:=by simp[e0]
 generalize u.chk=ck at HC d0;have HE:=hid (Ext.alloc w (.cells #[.int .i64 u.item.by_,.int .i64 u.item.n,.int .i64 u.st.v.by_,.int .i64 u.st.v.n,.int .i64 u.st.time,.string u.p,.int .i64 u.size,.bool u.dead] 57));unfold MetaI.val at HC⊢;clear hm e0;go_enter Tryz.func93,Tryz.ntmps93;go_wp2_with fail
 refine((HC _ HE.out).out).mono ?_;rintro e w1 ⟨rfl,x1⟩;have X1:=hid (HE.out.trans x1);clear x1 HC;go_wp2_with fail
 go_ret2;exact⟨rfl,X1.out⟩
theorem zlx (w:World) (u:MetaI) (m:Int) (hm:w.cell? ⟨0,0,none⟩=some (.int .i64 m)) (hu:u.p.size≤90000) (e0:u.chk=0) (hok:∀ f∈metF u,f.ok) (htot:(encL (metF u)).length≤65536):Calls Tryz.prog 93 #[u.val] w (Ret (.tuple #[.string ⟨(encL (metF u)).toArray⟩,.int .i64 0]) w):=by
 have HC:=fun W (hW:Ext w W)=>hid (zfX W u m (hW.cell hm) hu);rw[e0] at HC;have HL:=fun W v (h:Sl W 3 v ((metF u).map FldI.cells))=>hid (zdt W v (metF u) h hok (by simp[metF]) htot);have HS:=fun W=>hid (zhv W u.item u.st.v.by_ u.st.v.n u.st.time u.p);have HN:=fun W n=>hid (fN_c W n);have HG:∀ W,Hid (Calls Tryz.prog 140 #[.bool u.dead] W (Ret (.int .i64 (zao u.dead)) W)):=fun W=>zmd W u.dead;have HE:=hid (Ext.alloc w (.cells #[.int .i64 u.item.by_,.int .i64 u.item.n,.int .i64 u.st.v.by_,.int .i64 u.st.v.n,.int .i64 u.st.time,.string u.p,.int .i64 u.size,.bool u.dead] 57))
 have HB:=hid (Blk.new w 57 #[.int .i64 u.item.by_,.int .i64 u.item.n,.int .i64 u.st.v.by_,.int .i64 u.st.v.n,.int .i64 u.st.time,.string u.p,.int .i64 u.size,.bool u.dead]);unfold MetaI.val at HC⊢;clear hm e0 hok htot;go_enter Tryz.func93,Tryz.ntmps93;go_wp2_with fail
 generalize w.alloc (.cells #[.int .i64 u.item.by_,.int .i64 u.item.n,.int .i64 u.st.v.by_,.int .i64 u.st.v.n,.int .i64 u.st.time,.string u.p,.int .i64 u.size,.bool u.dead] 57)=w0 at HE HB⊢;refine((HC _ HE.out).out).mono ?_;rintro e w1 ⟨rfl,x1⟩;have X1:=hid (HE.out.trans x1);have HB1:=hid (HB.out.ext x1);clear x1 HC HB;have b0:=HB1.out.cell (i:=0) (v:=.int .i64 u.item.by_) rfl;have b1:=HB1.out.cell (i:=1) (v:=.int .i64 u.item.n) rfl;have b2:=HB1.out.cell (i:=2) (v:=.int .i64 u.st.v.by_) rfl;have b3:=HB1.out.cell (i:=3) (v:=.int .i64 u.st.v.n) rfl;have b4:=HB1.out.cell (i:=4) (v:=.int .i64 u.st.time) rfl
 have b5:=HB1.out.cell (i:=5) (v:=.string u.p) rfl;have b6:=HB1.out.cell (i:=6) (v:=.int .i64 u.size) rfl;have b7:=HB1.out.cell (i:=7) (v:=.bool u.dead) rfl;have bl:=HB1.out.lt;go_wp2_with fail
 refine zbw (pre:=?pre13) (tl:=?tl13) 15 ?hpre13 ?htl13 (of_decide_eq_true (by kernel_rfl)) (by kernel_rfl) (by kernel_rfl) (by kernel_rfl) (by kernel_rfl) ?_
 case hpre13=>(simp only[List.take_succ_cons,List.take_zero];first | done | exact rfl)
 case htl13=>(simp only[List.drop_succ_cons,List.drop_zero];first | done | exact rfl)
 repeat (first
  | (refine AWq.val rfl rfl rfl rfl (fun K hK=>?_);go_big_quiet_op;refine hK _ ?_;clear hK K)
  | (refine AWq.skip rfl rfl rfl ?_;simp only[Act.put,zq6,zq7,zq8])
  | (refine AWq.call rfl Tryz.func95 (by kernel_rfl) (by kernel_rfl) rfl rfl rfl ?_;apply Exists.intro;refine And.intro (fun wc hc=>?_) ?_;(· (simp only[zh,zm,↓reduceIte,Nat.reduceEqDiff,zq1,zq2,zq3,zq4,zq5];with_reducible exact(HN _ _).out));simp only[Act.put,zq6,zq7,zq8])
  | (refine AWq.call rfl Tryz.func140 (by kernel_rfl) (by kernel_rfl) rfl rfl rfl ?_;apply Exists.intro;refine And.intro (fun wc hc=>?_) ?_;(· (simp only[zh,zm,↓reduceIte,Nat.reduceEqDiff,zq1,zq2,zq3,zq4,zq5];with_reducible exact(HG _).out));simp only[Act.put,zq6,zq7,zq8])
  | (refine AWq.callQ ((fun v W=>OwnF [fN u.item.by_,fN u.item.n,fN u.st.v.by_,fN u.st.v.n,fN u.st.time,fT u.p] w1.heap.size v W)) ((fun v _ _ he h=>OwnF.ext h he)) rfl Tryz.func139 (by kernel_rfl) (by kernel_rfl) rfl rfl rfl (fun wc hc=>?_) ?_;(· (simp only[zh,zm,↓reduceIte,Nat.reduceEqDiff,zq1,zq2,zq3,zq4,zq5];exact((HS wc).out).mono fun e w' ⟨v,e1,e2,e3⟩=>⟨v,e1,e2.weak hc.size,e3⟩)))
  | (refine AWq.opV (fun v W=>OwnF [fN u.size,fN (zao u.dead)] w1.heap.size v W) (fun v _ _ he h=>OwnF.ext h he) rfl rfl rfl rfl (fun wc hc=>?_) ?_;(· (have hc2:=hc.size;have hc':=hc.rule;clear hc;go_simp;dsimp only[Gives];exact⟨zcm wc hc2 (fN u.size) (fN (zao u.dead)),Ext.alloc _ _⟩))))
 refine AWq.tail rfl rfl rfl (fun w2 x2=>?_);simp only[zl,Act.put,zq6,zq7,zq8];intro v21 h21 v13 h13;obtain⟨v3,w3,hrun,hO3,hk3⟩:=h13.app x2.size h21.sl (by simp) (by simp);have HE3:Hid (Ext w1 w3):=hk3.toExt x2 fun q hq=>(zt h13 q hq).1;have HS3:Hid (Sl w3 3 v3 ((metF u).map FldI.cells)):=hO3.sl;obtain⟨A3,c3,rfl,_⟩:=zr HS3.out;clear hO3 hk3 h13 h21 b0 b1 b2 b3 b4 b5 b6 b7 bl
 at_builtin
 refine zx rfl (.tmp 13) (.tmp 21) _ _ rfl rfl rfl hrun ?_;go_wp2_with fail
 refine((HL _ _ HS3.out).out).mono ?_;rintro e w4 ⟨rfl,x4⟩;go_wp2_with fail
 go_ret2;exact⟨rfl,(X1.out.trans HE3.out).trans x4⟩
end
section
open Go.RowKit
def UpdI.in64 (u:UpdI):Prop:=Go.Proofs.YtofjpdgojoppbaaGreatDoor.in64 u.item.by_∧Go.Proofs.YtofjpdgojoppbaaGreatDoor.in64 u.item.n∧Go.Proofs.YtofjpdgojoppbaaGreatDoor.in64 u.st.v.by_∧Go.Proofs.YtofjpdgojoppbaaGreatDoor.in64 u.st.v.n∧Go.Proofs.YtofjpdgojoppbaaGreatDoor.in64 u.st.time
def bitB (b:Bool):ByteArray:=if b then⟨#[1]⟩ else⟨#[0]⟩
def updB (u:UpdI):ByteArray:=verB u.item++verB u.st.v++numB u.st.time++zO u.p++zO u.d++bitB u.dead
theorem rupd_c (w:World) (u:UpdI) (hi:u.in64) (hp:u.p.size≤100000) (hd:u.d.size≤100000):Calls Tryz.prog 48 #[u.val] w (Ret (.string (updB u)) w):=by
 obtain⟨i1,i2,i3,i4,i5⟩:=hi;have HV1:=fun W=>hid (zd7 W u.item i1 i2);have HV2:=fun W=>hid (zd7 W u.st.v i3 i4);have HNu:=fun W=>hid (za7 W u.st.time i5.1 i5.2);have HT1:=fun W=>hid (zc6 W u.p hp);have HT2:=fun W=>hid (zc6 W u.d hd);have HBi:∀ W,Hid (Calls Tryz.prog 88 #[.bool u.dead] W (Ret (.string (bitB u.dead)) W)):=fun W=>zlv W u.dead;have s1:=zbe i1 i2;have s2:=zbe i3 i4;have s3:=zbp i5.2;have s4:=zbm u.p hp;have s5:=zbm u.d hd;have s6:(bitB u.dead).size≤1:=by cases u.dead <;> decide
 have HE:=hid (Ext.alloc w (.cells #[.int .i64 u.item.by_,.int .i64 u.item.n,.int .i64 u.st.v.by_,.int .i64 u.st.v.n,.int .i64 u.st.time,.string u.p,.string u.d,.bool u.dead] 55));have HB:=hid (Blk.new w 55 #[.int .i64 u.item.by_,.int .i64 u.item.n,.int .i64 u.st.v.by_,.int .i64 u.st.v.n,.int .i64 u.st.time,.string u.p,.string u.d,.bool u.dead]);simp only[Ver.val] at HV1 HV2;unfold UpdI.val updB;generalize verB u.item=e1 at HV1 s1⊢;generalize verB u.st.v=e2 at HV2 s2⊢;generalize numB u.st.time=e3 at HNu s3⊢;generalize zO u.p=e4 at HT1 s4⊢;generalize zO u.d=e5 at HT2 s5⊢;generalize bitB u.dead=e6 at HBi s6⊢;clear i1 i2 i3 i4 i5
 go_enter Tryz.func48,Tryz.ntmps48;go_wp2_with fail
 generalize w.alloc (.cells #[.int .i64 u.item.by_,.int .i64 u.item.n,.int .i64 u.st.v.by_,.int .i64 u.st.v.n,.int .i64 u.st.time,.string u.p,.string u.d,.bool u.dead] 55)=w0 at HE HB⊢;have b0:=HB.out.cell (i:=0) (v:=.int .i64 u.item.by_) rfl;have b1:=HB.out.cell (i:=1) (v:=.int .i64 u.item.n) rfl;have b2:=HB.out.cell (i:=2) (v:=.int .i64 u.st.v.by_) rfl;have b3:=HB.out.cell (i:=3) (v:=.int .i64 u.st.v.n) rfl;have b4:=HB.out.cell (i:=4) (v:=.int .i64 u.st.time) rfl;have b5:=HB.out.cell (i:=5) (v:=.string u.p) rfl;have b6:=HB.out.cell (i:=6) (v:=.string u.d) rfl;have b7:=HB.out.cell (i:=7) (v:=.bool u.dead) rfl;have bl:=HB.out.lt
 refine zc (by kernel_rfl) (by kernel_rfl) (by kernel_rfl) ?_
 repeat (first
  | (refine AWq.val rfl rfl rfl rfl (fun K hK=>?_);go_big_quiet_op;refine hK _ ?_;clear hK K)
  | (refine AWq.skip rfl rfl rfl ?_;simp only[Act.put,zq6,zq7,zq8])
  | (refine AWq.call rfl Tryz.func87 (by kernel_rfl) (by kernel_rfl) rfl rfl rfl ?_;apply Exists.intro;refine And.intro (fun wc hc=>?_) ?_;(· (simp only[zh,zm,↓reduceIte,Nat.reduceEqDiff,zq1,zq2,zq3,zq4,zq5];with_reducible exact(HV1 _).out));simp only[Act.put,zq6,zq7,zq8])
  | (refine AWq.call rfl Tryz.func87 (by kernel_rfl) (by kernel_rfl) rfl rfl rfl ?_;apply Exists.intro;refine And.intro (fun wc hc=>?_) ?_;(· (simp only[zh,zm,↓reduceIte,Nat.reduceEqDiff,zq1,zq2,zq3,zq4,zq5];with_reducible exact(HV2 _).out));simp only[Act.put,zq6,zq7,zq8])
  | (refine AWq.call rfl Tryz.func46 (by kernel_rfl) (by kernel_rfl) rfl rfl rfl ?_;apply Exists.intro;refine And.intro (fun wc hc=>?_) ?_;(· (simp only[zh,zm,↓reduceIte,Nat.reduceEqDiff,zq1,zq2,zq3,zq4,zq5];with_reducible exact(HNu _).out));simp only[Act.put,zq6,zq7,zq8])
  | (refine AWq.call rfl Tryz.func47 (by kernel_rfl) (by kernel_rfl) rfl rfl rfl ?_;apply Exists.intro;refine And.intro (fun wc hc=>?_) ?_;(· (simp only[zh,zm,↓reduceIte,Nat.reduceEqDiff,zq1,zq2,zq3,zq4,zq5];with_reducible exact(HT1 _).out));simp only[Act.put,zq6,zq7,zq8])
  | (refine AWq.call rfl Tryz.func47 (by kernel_rfl) (by kernel_rfl) rfl rfl rfl ?_;apply Exists.intro;refine And.intro (fun wc hc=>?_) ?_;(· (simp only[zh,zm,↓reduceIte,Nat.reduceEqDiff,zq1,zq2,zq3,zq4,zq5];with_reducible exact(HT2 _).out));simp only[Act.put,zq6,zq7,zq8])
  | (refine AWq.call rfl Tryz.func88 (by kernel_rfl) (by kernel_rfl) rfl rfl rfl ?_;apply Exists.intro;refine And.intro (fun wc hc=>?_) ?_;(· (simp only[zh,zm,↓reduceIte,Nat.reduceEqDiff,zq1,zq2,zq3,zq4,zq5];with_reducible exact(HBi _).out));simp only[Act.put,zq6,zq7,zq8]))
 refine AWq.done rfl rfl rfl (fun w2 x2=>?_);simp only[zl,Act.put,zq6,zq7,zq8];go_wp2_with fail
 go_ret;exact⟨rfl,HE.out.trans x2⟩
end
section
open Go.RowKit
theorem zdh (b:Bool):(bitB b).data.toList=lebL (zao b).toNat:=by
 cases b
 ·show [0]=lebL 0
  rw[zaz (by omega)];rfl
 ·show [1]=lebL 1
  rw[zaz (by omega)];rfl
theorem upd_enc {u:UpdI} (h1:0≤u.item.by_) (h2:0≤u.item.n) (h3:0≤u.st.v.by_) (h4:0≤u.st.v.n) (h5:0≤u.st.time):(⟨(encL (updF u)).toArray⟩:ByteArray)=updB u:=by
 apply ByteArray.ext;apply Array.ext';unfold updB verB;simp only[ByteArray.data_append,Array.toList_append,zu h1,zu h2,zu h3,zu h4,zu h5,zV,zdh];simp[encL,updF,fN,fT,FldI.enc]
end
section
open Go.RowKit
def MetaI.in64 (u:MetaI):Prop:=Go.Proofs.YtofjpdgojoppbaaGreatDoor.in64 u.item.by_∧Go.Proofs.YtofjpdgojoppbaaGreatDoor.in64 u.item.n∧Go.Proofs.YtofjpdgojoppbaaGreatDoor.in64 u.st.v.by_∧Go.Proofs.YtofjpdgojoppbaaGreatDoor.in64 u.st.v.n∧Go.Proofs.YtofjpdgojoppbaaGreatDoor.in64 u.st.time
def metB (u:MetaI):ByteArray:=verB u.item++verB u.st.v++numB u.st.time++zO u.p++numB u.size++bitB u.dead
theorem rmet_c (w:World) (u:MetaI) (hi:u.in64) (hp:u.p.size≤100000) (hd:in64 u.size):Calls Tryz.prog 49 #[u.val] w (Ret (.string (metB u)) w):=by
 obtain⟨i1,i2,i3,i4,i5⟩:=hi;have HV1:=fun W=>hid (zd7 W u.item i1 i2);have HV2:=fun W=>hid (zd7 W u.st.v i3 i4);have HNu:=fun W=>hid (za7 W u.st.time i5.1 i5.2);have HT1:=fun W=>hid (zc6 W u.p hp);have HT2:=fun W=>hid (za7 W u.size hd.1 hd.2);have HBi:∀ W,Hid (Calls Tryz.prog 88 #[.bool u.dead] W (Ret (.string (bitB u.dead)) W)):=fun W=>zlv W u.dead;have s1:=zbe i1 i2;have s2:=zbe i3 i4;have s3:=zbp i5.2;have s4:=zbm u.p hp;have s5:=zbp hd.2;have s6:(bitB u.dead).size≤1:=by cases u.dead <;> decide
 have HE:=hid (Ext.alloc w (.cells #[.int .i64 u.item.by_,.int .i64 u.item.n,.int .i64 u.st.v.by_,.int .i64 u.st.v.n,.int .i64 u.st.time,.string u.p,.int .i64 u.size,.bool u.dead] 57));have HB:=hid (Blk.new w 57 #[.int .i64 u.item.by_,.int .i64 u.item.n,.int .i64 u.st.v.by_,.int .i64 u.st.v.n,.int .i64 u.st.time,.string u.p,.int .i64 u.size,.bool u.dead]);simp only[Ver.val] at HV1 HV2;unfold MetaI.val metB;generalize verB u.item=e1 at HV1 s1⊢;generalize verB u.st.v=e2 at HV2 s2⊢;generalize numB u.st.time=e3 at HNu s3⊢;generalize zO u.p=e4 at HT1 s4⊢;generalize numB u.size=e5 at HT2 s5⊢;generalize bitB u.dead=e6 at HBi s6⊢;clear i1 i2 i3 i4 i5 hd
 go_enter Tryz.func49,Tryz.ntmps49;go_wp2_with fail
 generalize w.alloc (.cells #[.int .i64 u.item.by_,.int .i64 u.item.n,.int .i64 u.st.v.by_,.int .i64 u.st.v.n,.int .i64 u.st.time,.string u.p,.int .i64 u.size,.bool u.dead] 57)=w0 at HE HB⊢;have b0:=HB.out.cell (i:=0) (v:=.int .i64 u.item.by_) rfl;have b1:=HB.out.cell (i:=1) (v:=.int .i64 u.item.n) rfl;have b2:=HB.out.cell (i:=2) (v:=.int .i64 u.st.v.by_) rfl;have b3:=HB.out.cell (i:=3) (v:=.int .i64 u.st.v.n) rfl;have b4:=HB.out.cell (i:=4) (v:=.int .i64 u.st.time) rfl;have b5:=HB.out.cell (i:=5) (v:=.string u.p) rfl;have b6:=HB.out.cell (i:=6) (v:=.int .i64 u.size) rfl;have b7:=HB.out.cell (i:=7) (v:=.bool u.dead) rfl
 have bl:=HB.out.lt;refine zc (by kernel_rfl) (by kernel_rfl) (by kernel_rfl) ?_
 repeat (first
  | (refine AWq.val rfl rfl rfl rfl (fun K hK=>?_);go_big_quiet_op;refine hK _ ?_;clear hK K)
  | (refine AWq.skip rfl rfl rfl ?_;simp only[Act.put,zq6,zq7,zq8])
  | (refine AWq.call rfl Tryz.func87 (by kernel_rfl) (by kernel_rfl) rfl rfl rfl ?_;apply Exists.intro;refine And.intro (fun wc hc=>?_) ?_;(· (simp only[zh,zm,↓reduceIte,Nat.reduceEqDiff,zq1,zq2,zq3,zq4,zq5];with_reducible exact(HV1 _).out));simp only[Act.put,zq6,zq7,zq8])
  | (refine AWq.call rfl Tryz.func87 (by kernel_rfl) (by kernel_rfl) rfl rfl rfl ?_;apply Exists.intro;refine And.intro (fun wc hc=>?_) ?_;(· (simp only[zh,zm,↓reduceIte,Nat.reduceEqDiff,zq1,zq2,zq3,zq4,zq5];with_reducible exact(HV2 _).out));simp only[Act.put,zq6,zq7,zq8])
  | (refine AWq.call rfl Tryz.func46 (by kernel_rfl) (by kernel_rfl) rfl rfl rfl ?_;apply Exists.intro;refine And.intro (fun wc hc=>?_) ?_;(· (simp only[zh,zm,↓reduceIte,Nat.reduceEqDiff,zq1,zq2,zq3,zq4,zq5];with_reducible exact(HNu _).out));simp only[Act.put,zq6,zq7,zq8])
  | (refine AWq.call rfl Tryz.func47 (by kernel_rfl) (by kernel_rfl) rfl rfl rfl ?_;apply Exists.intro;refine And.intro (fun wc hc=>?_) ?_;(· (simp only[zh,zm,↓reduceIte,Nat.reduceEqDiff,zq1,zq2,zq3,zq4,zq5];with_reducible exact(HT1 _).out));simp only[Act.put,zq6,zq7,zq8])
  | (refine AWq.call rfl Tryz.func46 (by kernel_rfl) (by kernel_rfl) rfl rfl rfl ?_;apply Exists.intro;refine And.intro (fun wc hc=>?_) ?_;(· (simp only[zh,zm,↓reduceIte,Nat.reduceEqDiff,zq1,zq2,zq3,zq4,zq5];with_reducible exact(HT2 _).out));simp only[Act.put,zq6,zq7,zq8])
  | (refine AWq.call rfl Tryz.func88 (by kernel_rfl) (by kernel_rfl) rfl rfl rfl ?_;apply Exists.intro;refine And.intro (fun wc hc=>?_) ?_;(· (simp only[zh,zm,↓reduceIte,Nat.reduceEqDiff,zq1,zq2,zq3,zq4,zq5];with_reducible exact(HBi _).out));simp only[Act.put,zq6,zq7,zq8]))
 refine AWq.done rfl rfl rfl (fun w2 x2=>?_);simp only[zl,Act.put,zq6,zq7,zq8];go_wp2_with fail
 go_ret;exact⟨rfl,HE.out.trans x2⟩
theorem met_enc {u:MetaI} (h1:0≤u.item.by_) (h2:0≤u.item.n) (h3:0≤u.st.v.by_) (h4:0≤u.st.v.n) (h5:0≤u.st.time) (h6:0≤u.size):(⟨(encL (metF u)).toArray⟩:ByteArray)=metB u:=by
 apply ByteArray.ext;apply Array.ext';unfold metB verB;simp only[ByteArray.data_append,Array.toList_append,zu h1,zu h2,zu h3,zu h4,zu h5,zu h6,zV,zdh];simp[encL,metF,fN,fT,FldI.enc]
end
section
open Go.RowKit
theorem zgx (u:UpdI):u.chk=0↔zS u=true:=by
 unfold UpdI.chk chkK zS za0;cases h1:zD u.item <;> cases h2:zD u.st.v <;> cases h3:decide (1≤u.st.time) <;> cases h4:Pa.rightK u.p <;> simp
 by_cases h5:(200:Int)<u.d.size
 ·rw[if_pos h5]
  constructor
  ·intro h;cases h
  ·intro h;omega
 ·rw[if_neg h5]
  have hs:=ze3 u.d;by_cases h6:u.dead=true∧0<u.d.size
  ·rw[if_pos (.inr h6)]
   have h7:=hs.1 (by have:=h6.2;omega);have h8:=h6.1
   constructor
   ·intro h;cases h
   ·rintro⟨_,h⟩
    rcases h with h | h
    ·rw[h8] at h;cases h
    ·rw[h] at h7;cases h7
  ·rw[if_neg (by rintro(h | h);omega;exact h6 h)]
   refine⟨fun _=>⟨by omega,?_⟩,fun _=>rfl⟩;cases hd:u.dead with
   | false=>exact .inl rfl
   | true=>
    right
    cases he:u.d.toList.isEmpty with
    | true=>exact List.isEmpty_iff.1 he
    | false=>exact absurd ⟨hd,by have:=hs.2 he;omega⟩ h6
structure Rightful (u:UpdI):Prop where
 b0:0≤u.item.by_
 n0:0≤u.item.n
 b1:0≤u.st.v.by_
 n1:0≤u.st.v.n
 t0:0≤u.st.time
 p:u.p.size≤40
 d:u.d.size≤200
theorem zgR {s:ByteArray} (h:Pa.rightK s=true):s.size≤40:=by
 unfold Pa.rightK at h;simp only[Bool.and_eq_true,decide_eq_true_eq] at h;exact h.1.2
theorem zcA {u:UpdI} (h:zS u=true):Rightful u:=by
 unfold zS zD at h;simp only[Bool.and_eq_true,decide_eq_true_eq] at h;obtain⟨⟨a1,a2,a3⟩,⟨b1,b2,b3⟩,c,d,e,_⟩:=h;exact⟨by omega,by omega,by omega,by omega,by omega,zgR d,by omega⟩
theorem zim (b:Bool):(bitB b).size=1:=by cases b <;> rfl
theorem zdU (b:Bool):0≤zao b∧zao b≤1:=by cases b <;> simp[zao]
theorem zd5 {u:UpdI} (hi:u.in64) (h:Rightful u):(updB u).size≤400:=by
 obtain⟨i1,i2,i3,i4,i5⟩:=hi;have a1:=zbe i1 i2;have a2:=zbe i3 i4;have a3:=zbp i5.2;have a4:=zbm u.p (by have:=h.p;omega);have a5:=zbm u.d (by have:=h.d;omega);have a6:=zim u.dead;have:=h.p;have:=h.d;unfold updB;simp only[ByteArray.size_append];omega
theorem ziI (w:World) (u:UpdI) (m:Int) (hm:w.cell? ⟨0,0,none⟩=some (.int .i64 m)) (hu:u.p.size≤90000) (hi:u.in64):Calls Tryz.prog 92 #[u.val] w (Ret (.tuple #[.string (putB (zS u) (updB u)),.int .i64 (okZ (zS u))]) w):=by
 cases hr:zS u with
 | false=>exact putU_no w u m hm hu fun h=>by rw[(zgx u).1 h] at hr;cases hr
 | true=>
  have hf:=zcA hr;have he:=upd_enc hf.b0 hf.n0 hf.b1 hf.n1 hf.t0;have hy:=zlw w u m hm hu ((zgx u).2 hr) (fun f h=>by
   obtain⟨i1,i2,i3,i4,i5⟩:=hi;have h1:=hf.b0;have h2:=hf.n0;have h3:=hf.b1;have h4:=hf.n1;have h5:=hf.t0;have h6:=hf.p;have h7:=hf.d;have h8:=zdU u.dead;simp only[updF,List.mem_cons,List.not_mem_nil,or_false] at h;rcases h with rfl | rfl | rfl | rfl | rfl | rfl | rfl | rfl
   ·exact⟨Nat.zero_le _,fun _=>h1,i1.2⟩
   ·exact⟨Nat.zero_le _,fun _=>h2,i2.2⟩
   ·exact⟨Nat.zero_le _,fun _=>h3,i3.2⟩
   ·exact⟨Nat.zero_le _,fun _=>h4,i4.2⟩
   ·exact⟨Nat.zero_le _,fun _=>h5,i5.2⟩
   ·exact⟨by show u.p.size≤_;omega,fun h=>(by(have h:true=false:=h);cases h),by show(0:Int)≤_;omega⟩
   ·exact⟨by show u.d.size≤_;omega,fun h=>(by(have h:true=false:=h);cases h),by show(0:Int)≤_;omega⟩
   ·exact⟨Nat.zero_le _,fun _=>h8.1,by show zao u.dead≤_;omega⟩) (by
   have h1:=zd5 hi hf;rw[←he] at h1;have h2:(encL (updF u)).length=(⟨(encL (updF u)).toArray⟩:ByteArray).size:=rfl;omega)
  rw[he] at hy;exact hy
def zW (u:MetaI):Bool:=decide (u.chk=0)
structure RightfulM (u:MetaI):Prop where
 b0:0≤u.item.by_
 n0:0≤u.item.n
 b1:0≤u.st.v.by_
 n1:0≤u.st.v.n
 t0:0≤u.st.time
 p:u.p.size≤40
 d:0≤u.size∧u.size≤200
theorem zb5 {u:MetaI} (h:u.chk=0):RightfulM u:=by
 unfold MetaI.chk chkK at h;by_cases h1:zD u.item=false∨za0 u.st=false
 ·rw[if_pos h1] at h;cases h
 rw[if_neg h1] at h;by_cases h2:Pa.rightK u.p=false
 ·rw[if_pos h2] at h;cases h
 rw[if_neg h2] at h;by_cases h3:200<u.size
 ·rw[if_pos h3] at h;cases h
 rw[if_neg h3] at h;by_cases h4:u.size<0∨(u.dead=true∧0<u.size)
 ·rw[if_pos h4] at h;cases h
 simp only[not_or,Bool.not_eq_false] at h1 h2;obtain⟨a,b⟩:=h1;unfold za0 at b;unfold zD at a b;simp only[Bool.and_eq_true,decide_eq_true_eq] at a b;exact⟨by omega,by omega,by omega,by omega,by omega,zgR h2,by omega⟩
theorem zeb {u:MetaI} (hi:u.in64) (h:RightfulM u):(metB u).size≤400:=by
 obtain⟨i1,i2,i3,i4,i5⟩:=hi;have a1:=zbe i1 i2;have a2:=zbe i3 i4;have a3:=zbp i5.2;have a4:=zbm u.p (by have:=h.p;omega);have a5:=zbp (z:=u.size) (by have:=h.d;omega);have a6:=zim u.dead;have:=h.p;unfold metB;simp only[ByteArray.size_append];omega
theorem ziJ (w:World) (u:MetaI) (m:Int) (hm:w.cell? ⟨0,0,none⟩=some (.int .i64 m)) (hu:u.p.size≤90000) (hi:u.in64):Calls Tryz.prog 93 #[u.val] w (Ret (.tuple #[.string (putB (zW u) (metB u)),.int .i64 (okZ (zW u))]) w):=by
 by_cases hc:u.chk=0
 ·have hr:zW u=true:=decide_eq_true hc
  rw[hr];have hf:=zb5 hc;have he:=met_enc hf.b0 hf.n0 hf.b1 hf.n1 hf.t0 hf.d.1;have hy:=zlx w u m hm hu hc (fun f h=>by
   obtain⟨i1,i2,i3,i4,i5⟩:=hi;have h1:=hf.b0;have h2:=hf.n0;have h3:=hf.b1;have h4:=hf.n1;have h5:=hf.t0;have h6:=hf.p;have h7:=hf.d;have h8:=zdU u.dead;simp only[metF,List.mem_cons,List.not_mem_nil,or_false] at h;rcases h with rfl | rfl | rfl | rfl | rfl | rfl | rfl | rfl
   ·exact⟨Nat.zero_le _,fun _=>h1,i1.2⟩
   ·exact⟨Nat.zero_le _,fun _=>h2,i2.2⟩
   ·exact⟨Nat.zero_le _,fun _=>h3,i3.2⟩
   ·exact⟨Nat.zero_le _,fun _=>h4,i4.2⟩
   ·exact⟨Nat.zero_le _,fun _=>h5,i5.2⟩
   ·exact⟨by show u.p.size≤_;omega,fun h=>(by(have h:true=false:=h);cases h),by show(0:Int)≤_;omega⟩
   ·exact⟨Nat.zero_le _,fun _=>h7.1,by show u.size≤_;omega⟩
   ·exact⟨Nat.zero_le _,fun _=>h8.1,by show zao u.dead≤_;omega⟩) (by
   have h1:=zeb hi hf;rw[←he] at h1;have h2:(encL (metF u)).length=(⟨(encL (metF u)).toArray⟩:ByteArray).size:=rfl;omega)
  rw[he] at hy;exact hy
 ·have hr:zW u=false:=decide_eq_false hc
  rw[hr];exact putM_no w u m hm hu hc
end
section
open Go.RowKit
structure PairI where
 a:Ver
 b:Ver
def PairI.val (p:PairI):Value:=.agg #[.int .i64 p.a.by_,.int .i64 p.a.n,.int .i64 p.b.by_,.int .i64 p.b.n]
structure EntI where
 kind:Int
 u:UpdI
 m:MetaI
 o:PairI
def EntI.cells (e:EntI):List Value:=[.int .i64 e.kind,.int .i64 e.u.item.by_,.int .i64 e.u.item.n,.int .i64 e.u.st.v.by_,.int .i64 e.u.st.v.n,.int .i64 e.u.st.time,.string e.u.p,.string e.u.d,.bool e.u.dead,.int .i64 e.m.item.by_,.int .i64 e.m.item.n,.int .i64 e.m.st.v.by_,.int .i64 e.m.st.v.n,.int .i64 e.m.st.time,.string e.m.p,.int .i64 e.m.size,.bool e.m.dead,.int .i64 e.o.a.by_,.int .i64 e.o.a.n,.int .i64 e.o.b.by_,.int .i64 e.o.b.n]
def EntI.arr (e:EntI):Array Value:=#[.int .i64 e.kind,.int .i64 e.u.item.by_,.int .i64 e.u.item.n,.int .i64 e.u.st.v.by_,.int .i64 e.u.st.v.n,.int .i64 e.u.st.time,.string e.u.p,.string e.u.d,.bool e.u.dead,.int .i64 e.m.item.by_,.int .i64 e.m.item.n,.int .i64 e.m.st.v.by_,.int .i64 e.m.st.v.n,.int .i64 e.m.st.time,.string e.m.p,.int .i64 e.m.size,.bool e.m.dead,.int .i64 e.o.a.by_,.int .i64 e.o.a.n,.int .i64 e.o.b.by_,.int .i64 e.o.b.n]
instance:DecidableEq MetaI:=fun a b=>if h:a.item=b.item∧a.st=b.st∧a.p=b.p∧a.size=b.size∧a.dead=b.dead then isTrue (by cases a;cases b;simp_all) else isFalse (by rintro rfl;exact h ⟨rfl,rfl,rfl,rfl,rfl⟩)
instance:DecidableEq PairI:=fun a b=>if h:a.a=b.a∧a.b=b.b then isTrue (by cases a;cases b;simp_all) else isFalse (by rintro rfl;exact h ⟨rfl,rfl⟩)
theorem ver_eq {a b:Ver}:a=b↔a.by_=b.by_∧a.n=b.n:=by cases a;cases b;simp
theorem zcY (d:Nat) (hd:d=9999∨d=9998∨d=9997) (a1 a2 b1 b2:Int) (w:World):(Op.equalIn d 51 (.agg #[.int .i64 a1,.int .i64 a2]) (.agg #[.int .i64 b1,.int .i64 b2])).run Tryz.prog w=.ok (decide ((⟨a1,a2⟩:Ver)=⟨b1,b2⟩)) w:=by
 rcases hd with rfl | rfl | rfl <;> by_cases h1:a1=b1 <;> by_cases h2:a2=b2 <;> simp[go_sem,h1,h2,ver_eq]
theorem e97 (a1 a2 b1 b2:Int) (w:World):(Op.equalIn 9997 51 (.agg #[.int .i64 a1,.int .i64 a2]) (.agg #[.int .i64 b1,.int .i64 b2])).run Tryz.prog w=.ok (decide ((⟨a1,a2⟩:Ver)=⟨b1,b2⟩)) w:=zcY 9997 (.inr (.inr rfl)) a1 a2 b1 b2 w
theorem e98 (a1 a2 b1 b2:Int) (w:World):(Op.equalIn 9998 51 (.agg #[.int .i64 a1,.int .i64 a2]) (.agg #[.int .i64 b1,.int .i64 b2])).run Tryz.prog w=.ok (decide ((⟨a1,a2⟩:Ver)=⟨b1,b2⟩)) w:=zcY 9998 (.inr (.inl rfl)) a1 a2 b1 b2 w
theorem e99 (a1 a2 b1 b2:Int) (w:World):(Op.equalIn 9999 51 (.agg #[.int .i64 a1,.int .i64 a2]) (.agg #[.int .i64 b1,.int .i64 b2])).run Tryz.prog w=.ok (decide ((⟨a1,a2⟩:Ver)=⟨b1,b2⟩)) w:=zcY 9999 (.inl rfl) a1 a2 b1 b2 w
attribute [go_sem 2000] e97 e98 e99
theorem st_eq {a b:Stamp}:a=b↔a.v=b.v∧a.time=b.time:=by cases a;cases b;simp
theorem ziF (a1 a2 a3 b1 b2 b3:Int) (w:World):(Op.equalIn 9998 53 (.agg #[.int .i64 a1,.int .i64 a2,.int .i64 a3]) (.agg #[.int .i64 b1,.int .i64 b2,.int .i64 b3])).run Tryz.prog w=.ok (decide ((⟨⟨a1,a2⟩,a3⟩:Stamp)=⟨⟨b1,b2⟩,b3⟩)) w:=by
 by_cases h1:(⟨a1,a2⟩:Ver)=⟨b1,b2⟩ <;> by_cases h2:a3=b3 <;> simp[go_sem,h1,h2,st_eq]
attribute [go_sem 2000] ziF
theorem up_eq {a b:UpdI}:a=b↔a.item=b.item∧a.st=b.st∧a.p=b.p∧a.d=b.d∧a.dead=b.dead:=by cases a;cases b;simp
theorem me_eq {a b:MetaI}:a=b↔a.item=b.item∧a.st=b.st∧a.p=b.p∧a.size=b.size∧a.dead=b.dead:=by cases a;cases b;simp
theorem zlF {a b:PairI}:a=b↔a.a=b.a∧a.b=b.b:=by cases a;cases b;simp
theorem zjO {a b:EntI}:a=b↔a.kind=b.kind∧a.u=b.u∧a.m=b.m∧a.o=b.o:=by cases a;cases b;simp
theorem zhp (a b:UpdI) (w:World):(Op.equalIn 9999 55 a.val b.val).run Tryz.prog w=.ok (decide (a=b)) w:=by
 obtain⟨⟨a1,a2⟩,⟨⟨a3,a4⟩,a5⟩,ap,ad,ax⟩:=a;obtain⟨⟨b1,b2⟩,⟨⟨b3,b4⟩,b5⟩,bp,bd,bx⟩:=b;have hp:(ap.toList==bp.toList)=decide (ap=bp):=zag ap bp;have hd:(ad.toList==bd.toList)=decide (ad=bd):=zag ad bd;unfold UpdI.val;by_cases h1:(⟨a1,a2⟩:Ver)=⟨b1,b2⟩ <;> by_cases h2:(⟨⟨a3,a4⟩,a5⟩:Stamp)=⟨⟨b3,b4⟩,b5⟩ <;> by_cases h3:ap=bp <;> by_cases h4:ad=bd <;> by_cases h5:ax=bx <;> simp[go_sem,h1,h2,h3,h4,h5,hp,hd,up_eq]
theorem zhq (a b:MetaI) (w:World):(Op.equalIn 9999 57 a.val b.val).run Tryz.prog w=.ok (decide (a=b)) w:=by
 obtain⟨⟨a1,a2⟩,⟨⟨a3,a4⟩,a5⟩,ap,ad,ax⟩:=a;obtain⟨⟨b1,b2⟩,⟨⟨b3,b4⟩,b5⟩,bp,bd,bx⟩:=b;have hp:(ap.toList==bp.toList)=decide (ap=bp):=zag ap bp;unfold MetaI.val;by_cases h1:(⟨a1,a2⟩:Ver)=⟨b1,b2⟩ <;> by_cases h2:(⟨⟨a3,a4⟩,a5⟩:Stamp)=⟨⟨b3,b4⟩,b5⟩ <;> by_cases h3:ap=bp <;> by_cases h4:ad=bd <;> by_cases h5:ax=bx <;> simp[go_sem,h1,h2,h3,h4,h5,hp,me_eq]
theorem zgM (a b:PairI) (w:World):(Op.equalIn 9999 59 a.val b.val).run Tryz.prog w=.ok (decide (a=b)) w:=by
 obtain⟨⟨a1,a2⟩,⟨a3,a4⟩⟩:=a;obtain⟨⟨b1,b2⟩,⟨b3,b4⟩⟩:=b;unfold PairI.val;by_cases h1:(⟨a1,a2⟩:Ver)=⟨b1,b2⟩ <;> by_cases h2:(⟨a3,a4⟩:Ver)=⟨b3,b4⟩ <;> simp[go_sem,h1,h2,zlF]
theorem eqU_lit (a1 a2 a3 a4 a5 b1 b2 b3 b4 b5:Int) (ap ad bp bd:ByteArray) (ax bx:Bool) (w:World):(Op.equalIn 9999 55 (.agg #[.int .i64 a1,.int .i64 a2,.int .i64 a3,.int .i64 a4,.int .i64 a5,.string ap,.string ad,.bool ax]) (.agg #[.int .i64 b1,.int .i64 b2,.int .i64 b3,.int .i64 b4,.int .i64 b5,.string bp,.string bd,.bool bx])).run Tryz.prog w=.ok (decide ((⟨⟨a1,a2⟩,⟨⟨a3,a4⟩,a5⟩,ap,ad,ax⟩:UpdI)=⟨⟨b1,b2⟩,⟨⟨b3,b4⟩,b5⟩,bp,bd,bx⟩)) w:=zhp ⟨⟨a1,a2⟩,⟨⟨a3,a4⟩,a5⟩,ap,ad,ax⟩ ⟨⟨b1,b2⟩,⟨⟨b3,b4⟩,b5⟩,bp,bd,bx⟩ w
theorem eqM_lit (a1 a2 a3 a4 a5 b1 b2 b3 b4 b5 ad bd:Int) (ap bp:ByteArray) (ax bx:Bool) (w:World):(Op.equalIn 9999 57 (.agg #[.int .i64 a1,.int .i64 a2,.int .i64 a3,.int .i64 a4,.int .i64 a5,.string ap,.int .i64 ad,.bool ax]) (.agg #[.int .i64 b1,.int .i64 b2,.int .i64 b3,.int .i64 b4,.int .i64 b5,.string bp,.int .i64 bd,.bool bx])).run Tryz.prog w=.ok (decide ((⟨⟨a1,a2⟩,⟨⟨a3,a4⟩,a5⟩,ap,ad,ax⟩:MetaI)=⟨⟨b1,b2⟩,⟨⟨b3,b4⟩,b5⟩,bp,bd,bx⟩)) w:=zhq ⟨⟨a1,a2⟩,⟨⟨a3,a4⟩,a5⟩,ap,ad,ax⟩ ⟨⟨b1,b2⟩,⟨⟨b3,b4⟩,b5⟩,bp,bd,bx⟩ w
theorem eqP_lit (a1 a2 a3 a4 b1 b2 b3 b4:Int) (w:World):(Op.equalIn 9999 59 (.agg #[.int .i64 a1,.int .i64 a2,.int .i64 a3,.int .i64 a4]) (.agg #[.int .i64 b1,.int .i64 b2,.int .i64 b3,.int .i64 b4])).run Tryz.prog w=.ok (decide ((⟨⟨a1,a2⟩,⟨a3,a4⟩⟩:PairI)=⟨⟨b1,b2⟩,⟨b3,b4⟩⟩)) w:=zgM ⟨⟨a1,a2⟩,⟨a3,a4⟩⟩ ⟨⟨b1,b2⟩,⟨b3,b4⟩⟩ w
attribute [go_sem 2000] eqU_lit eqM_lit eqP_lit
instance:DecidableEq EntI:=fun a b=>if h:a.kind=b.kind∧a.u=b.u∧a.m=b.m∧a.o=b.o then isTrue (by cases a;cases b;simp_all) else isFalse (by rintro rfl;exact h ⟨rfl,rfl,rfl,rfl⟩)
theorem zbN (x y:EntI) (w:World):(Op.equalIn 10000 61 (.agg x.arr) (.agg y.arr)).run Tryz.prog w=.ok (decide (x=y)) w:=by
 have hk:decide (x=y)=(decide (x.kind=y.kind)&&(decide (x.u=y.u)&&(decide (x.m=y.m)&&decide (x.o=y.o)))):=by
  rw[Bool.eq_iff_iff];simp[zjO]
 rw[hk];unfold EntI.arr;have eu:∀ u:UpdI,(⟨⟨u.item.by_,u.item.n⟩,⟨⟨u.st.v.by_,u.st.v.n⟩,u.st.time⟩,u.p,u.d,u.dead⟩:UpdI)=u:=fun u=>rfl;have em:∀ u:MetaI,(⟨⟨u.item.by_,u.item.n⟩,⟨⟨u.st.v.by_,u.st.v.n⟩,u.st.time⟩,u.p,u.size,u.dead⟩:MetaI)=u:=fun u=>rfl;have eo:∀ u:PairI,(⟨⟨u.a.by_,u.a.n⟩,⟨u.b.by_,u.b.n⟩⟩:PairI)=u:=fun u=>rfl;by_cases h1:x.kind=y.kind <;> by_cases h2:x.u=y.u <;> by_cases h3:x.m=y.m <;> by_cases h4:x.o=y.o <;> simp[go_sem,h1,h2,h3,h4,eu,em,eo]
end
section
open Go.RowKit
theorem zlM (w:World) (v:Ver):Calls Tryz.prog 143 #[v.val] w (RetQ (fun u W=>OwnF [fN v.by_,fN v.n] w.heap.size u W ∧ ∃ q,u=.slice (some ⟨q,0,none⟩) 2 2) w):=by
 have HN:=fun W n=>hid (fN_c W n);have HB:=hid (Blk.new w 51 #[.int .i64 v.by_,.int .i64 v.n]);have HE:=hid (Ext.alloc w (.cells #[.int .i64 v.by_,.int .i64 v.n] 51));unfold Ver.val;go_enter Tryz.func143,Tryz.ntmps143;go_wp2_with fail
 have hw:=HE.out.size;generalize w.alloc (.cells #[.int .i64 v.by_,.int .i64 v.n] 51)=w0 at HB HE hw⊢;have HWs:=hid hw;have b0:=HB.out.cell (i:=0) (v:=.int .i64 v.by_) rfl;have b1:=HB.out.cell (i:=1) (v:=.int .i64 v.n) rfl;have bl:=HB.out.lt;clear hw;refine zc (by kernel_rfl) (by kernel_rfl) (by kernel_rfl) ?_
 repeat (first
  | (refine AWq.val rfl rfl rfl rfl (fun K hK=>?_);go_big_quiet_op;refine hK _ ?_;clear hK K)
  | (refine AWq.skip rfl rfl rfl ?_;simp only[Act.put,zq6,zq7,zq8])
  | (refine AWq.call rfl Tryz.func95 (by kernel_rfl) (by kernel_rfl) rfl rfl rfl ?_;apply Exists.intro;refine And.intro (fun wc hc=>?_) ?_;(· (simp only[zh,zm,↓reduceIte,Nat.reduceEqDiff,zq1,zq2,zq3,zq4,zq5];with_reducible exact(HN _ _).out));simp only[Act.put,zq6,zq7,zq8])
  | (refine AWq.opV (fun u W=>OwnF [fN v.by_,fN v.n] w.heap.size u W ∧ ∃ q,u=.slice (some ⟨q,0,none⟩) 2 2) (fun u _ _ he h=>⟨OwnF.ext h.1 he,h.2⟩) rfl rfl rfl rfl (fun wc hc=>?_) ?_;(· (have hc2:=Nat.le_trans HWs.out hc.size;have hc':=hc.rule;clear hc;go_simp;dsimp only[Gives];exact⟨⟨zcm wc hc2 (fN v.by_) (fN v.n),_,rfl⟩,Ext.alloc _ _⟩)))
  | (refine AWq.opQ ((fun u W=>OwnF [fN v.by_,fN v.n] w.heap.size u W ∧ ∃ q,u=.slice (some ⟨q,0,none⟩) 2 2)) ((fun u _ _ he h=>⟨OwnF.ext h.1 he,h.2⟩)) rfl (fun a wc hc hl'=>⟨rfl,?_⟩) ?_;(· (have e:=hl' 9 (of_decide_eq_true (by kernel_rfl));exact⟨e,Ext.refl _⟩))))
 refine AWq.done rfl rfl rfl (fun w2 x2=>?_);simp only[zl,Act.put,zq6,zq7,zq8];intro u2 h2 _ _;go_wp2_with fail
 go_ret;exact⟨_,rfl,h2,HE.out.trans x2⟩
theorem lay_nil (w:World):Calls Tryz.prog 51 #[.slice none 0 0] w (Ret (.tuple #[.string ⟨#[]⟩,.int .i64 0]) w):=by
 have HQ0:=hid (Blk.new w 48 #[.slice none 0 0]);have HE0:=hid (Ext.alloc w (.cells #[.slice none 0 0] 48));go_enter Tryz.func51,Tryz.ntmps51;go_wp2_with fail
 generalize w.alloc (.cells #[.slice none 0 0] 48)=w0 at HQ0 HE0⊢;go_loopw [13] (fun i wr=>i=.int .i64 0∧Hid (Ext w0 wr)) (fun i _=>0)
 case atStart=>exact⟨rfl,Ext.refl _⟩
 case round=>
  obtain⟨rfl,HE⟩:=hrel;have HQ1:=hid (HQ0.out.ext HE.out);have HE1:=hid (HE0.out.trans HE.out);clear HQ0 HE0 HE;go_wp2_with fail
  go_loopw [28] (fun i W=>i=.int .i64 0∧Hid (Ext w W)∧Hid (Blk W w.heap.size 48 #[.slice none 0 0])) (fun i _=>0)
  case atStart=>exact⟨rfl,HE1,HQ1⟩
  case round=>
   obtain⟨rfl,HE2,HQ2⟩:=hrel;have b0:=HQ2.out.cell (i:=0) (v:=.slice none 0 0) rfl;have bl:=HQ2.out.lt;clear HE1 HQ1;have hcv:(convert 48 9 (.slice none 0 0)).run Tryz.prog wr=.ok (.string ⟨#[]⟩) wr:=by
    rw[run_convert_bytes_string _ _ _ 5 _ _ _ Tryz.underlying48 Tryz.underlying5 Tryz.underlying9];rfl
   go_wp2_with fail
   go_ret2;exact⟨rfl,HE2.out⟩
def zaP (p:PairI):Bool:=zD p.a&&zD p.b
theorem zeI (w:World) (p:PairI):Calls Tryz.prog 94 #[p.val] w (Ret (.bool (zaP p)) w):=by
 have H1:=fun W=>hid (zbx p.a W);have H2:=fun W=>hid (zbx p.b W);have HE:=hid (Ext.alloc w (.cells #[.int .i64 p.a.by_,.int .i64 p.a.n,.int .i64 p.b.by_,.int .i64 p.b.n] 59));have HB:=hid (Blk.new w 59 #[.int .i64 p.a.by_,.int .i64 p.a.n,.int .i64 p.b.by_,.int .i64 p.b.n]);unfold Ver.val at H1 H2;unfold PairI.val zaP;cases h1:zD p.a with
 | false=>
  rw[zcG h1] at H1;clear h1 H2;go_enter Tryz.func94,Tryz.ntmps94;go_wp2_with fail
  refine((H1 _).out).mono ?_;rintro e w1 ⟨rfl,x1⟩;have X1:=hid (HE.out.trans x1);clear x1;go_wp2_with fail
  go_ret;exact⟨rfl,X1.out⟩
 | true=>
  rw[zbW h1] at H1;clear h1;have hz:∀ b,zD p.b=b→(zct p.b==0)=b:=fun b hb=>by unfold zct;rw[hb];cases b <;> rfl
  have hz:=hz _ rfl;generalize zct p.b=z at H2 hz;generalize zD p.b=r at hz⊢;go_enter Tryz.func94,Tryz.ntmps94;go_wp2_with fail
  refine((H1 _).out).mono ?_;rintro e w1 ⟨rfl,x1⟩;have X1:=hid (HE.out.trans x1);have HB1:=hid (HB.out.ext x1);have c2:=HB1.out.cell (i:=2) (v:=.int .i64 p.b.by_) rfl;have c3:=HB1.out.cell (i:=3) (v:=.int .i64 p.b.n) rfl;have l1:=HB1.out.lt;clear x1;go_wp2_with fail
  refine((H2 _).out).mono ?_;rintro e w2 ⟨rfl,x2⟩;have X2:=hid (X1.out.trans x2);clear x2;go_wp2_with fail
  go_ret;exact⟨rfl,X2.out⟩
def met00:MetaI:=⟨⟨0,0⟩,⟨⟨0,0⟩,0⟩,⟨#[]⟩,0,false⟩
def pair00:PairI:=⟨⟨0,0⟩,⟨0,0⟩⟩
def zbM (e:EntI):Bool:=if e.kind=1 then decide (e.m=met00∧e.o=pair00) else if e.kind=2 then decide (e.u=upd0∧e.o=pair00) else decide (e.kind=3∧e.u=upd0∧e.m=met00)
theorem bare1 (e:EntI):decide (e=⟨e.kind,e.u,met00,pair00⟩)=decide (e.m=met00∧e.o=pair00):=by rw[decide_eq_decide,zjO];simp
theorem bare2 (e:EntI):decide (e=⟨e.kind,upd0,e.m,pair00⟩)=decide (e.u=upd0∧e.o=pair00):=by rw[decide_eq_decide,zjO];simp
theorem bare3 (e:EntI):decide (e=⟨3,upd0,met00,e.o⟩)=decide (e.kind=3∧e.u=upd0∧e.m=met00):=by rw[decide_eq_decide,zjO];simp
end
section
open Go.RowKit
attribute [-simp] Tryz.isAgg61 Tryz.sizeOf61
theorem zal (e:EntI):e.arr.size=21:=rfl
theorem bareR1 (e:EntI) (w:World):(Op.equalIn 10000 61 (.agg e.arr) (.agg #[.int .i64 e.kind,.int .i64 e.u.item.by_,.int .i64 e.u.item.n,.int .i64 e.u.st.v.by_,.int .i64 e.u.st.v.n,.int .i64 e.u.st.time,.string e.u.p,.string e.u.d,.bool e.u.dead,.int .i64 0,.int .i64 0,.int .i64 0,.int .i64 0,.int .i64 0,.string ⟨#[]⟩,.int .i64 0,.bool false,.int .i64 0,.int .i64 0,.int .i64 0,.int .i64 0])).run Tryz.prog w=.ok (decide (e.m=met00∧e.o=pair00)) w:=by
 rw[←bare1];exact zbN e ⟨e.kind,e.u,met00,pair00⟩ w
theorem bareR2 (e:EntI) (w:World):(Op.equalIn 10000 61 (.agg e.arr) (.agg #[.int .i64 e.kind,.int .i64 0,.int .i64 0,.int .i64 0,.int .i64 0,.int .i64 0,.string ⟨#[]⟩,.string ⟨#[]⟩,.bool false,.int .i64 e.m.item.by_,.int .i64 e.m.item.n,.int .i64 e.m.st.v.by_,.int .i64 e.m.st.v.n,.int .i64 e.m.st.time,.string e.m.p,.int .i64 e.m.size,.bool e.m.dead,.int .i64 0,.int .i64 0,.int .i64 0,.int .i64 0])).run Tryz.prog w=.ok (decide (e.u=upd0∧e.o=pair00)) w:=by
 rw[←bare2];exact zbN e ⟨e.kind,upd0,e.m,pair00⟩ w
theorem bareR3 (e:EntI) (w:World):(Op.equalIn 10000 61 (.agg e.arr) (.agg #[.int .i64 3,.int .i64 0,.int .i64 0,.int .i64 0,.int .i64 0,.int .i64 0,.string ⟨#[]⟩,.string ⟨#[]⟩,.bool false,.int .i64 0,.int .i64 0,.int .i64 0,.int .i64 0,.int .i64 0,.string ⟨#[]⟩,.int .i64 0,.bool false,.int .i64 e.o.a.by_,.int .i64 e.o.a.n,.int .i64 e.o.b.by_,.int .i64 e.o.b.n])).run Tryz.prog w=.ok (decide (e.kind=3∧e.u=upd0∧e.m=met00)) w:=by
 rw[←bare3];exact zbN e ⟨3,upd0,met00,e.o⟩ w
theorem bareC1 (w:World) (e:EntI) (d1:(e.kind==1)=true):Calls Tryz.prog 91 #[.agg e.arr] w (Ret (.bool (decide (e.m=met00∧e.o=pair00))) w):=by
 have HE:=hid (Ext.alloc w (.cells e.arr 61));have HB:=hid (Blk.new w 61 e.arr);have HQ:=fun W=>bareR1 e W;generalize decide (e.m=met00∧e.o=pair00)=r at HQ⊢;go_enter Tryz.func91,Tryz.ntmps91;have hz:=hid (zal e);have h0:e.arr[0]? = some (.int .i64 e.kind):=rfl;go_wp2_with fail
 clear h0;generalize w.alloc (.cells e.arr 61)=w0 at HE HB⊢;have c0:=HB.out.cell (i:=0) (v:=.int .i64 e.kind) rfl;have c1:=HB.out.cell (i:=1) (v:=.int .i64 e.u.item.by_) rfl;have c2:=HB.out.cell (i:=2) (v:=.int .i64 e.u.item.n) rfl;have c3:=HB.out.cell (i:=3) (v:=.int .i64 e.u.st.v.by_) rfl;have c4:=HB.out.cell (i:=4) (v:=.int .i64 e.u.st.v.n) rfl;have c5:=HB.out.cell (i:=5) (v:=.int .i64 e.u.st.time) rfl;have c6:=HB.out.cell (i:=6) (v:=.string e.u.p) rfl;have c7:=HB.out.cell (i:=7) (v:=.string e.u.d) rfl;have c8:=HB.out.cell (i:=8) (v:=.bool e.u.dead) rfl;have lb:=HB.out.lt
 simp only[Tryz.isAgg61,Tryz.sizeOf61,Result.andThen,↓reduceIte,za HB.out 21 hz.out];rw[Oper.upon_value];go_wp2_with fail
 go_ret;exact⟨rfl,HE.out⟩
theorem bareC2 (w:World) (e:EntI) (d1:(e.kind==1)=false) (d2:(e.kind==2)=true):Calls Tryz.prog 91 #[.agg e.arr] w (Ret (.bool (decide (e.u=upd0∧e.o=pair00))) w):=by
 have HE:=hid (Ext.alloc w (.cells e.arr 61));have HB:=hid (Blk.new w 61 e.arr);have HQ:=fun W=>bareR2 e W;generalize decide (e.u=upd0∧e.o=pair00)=r at HQ⊢;go_enter Tryz.func91,Tryz.ntmps91;have hz:=hid (zal e);have h0:e.arr[0]? = some (.int .i64 e.kind):=rfl;go_wp2_with fail
 clear h0;generalize w.alloc (.cells e.arr 61)=w0 at HE HB⊢;have c0:=HB.out.cell (i:=0) (v:=.int .i64 e.kind) rfl;have c9:=HB.out.cell (i:=9) (v:=.int .i64 e.m.item.by_) rfl;have c10:=HB.out.cell (i:=10) (v:=.int .i64 e.m.item.n) rfl;have c11:=HB.out.cell (i:=11) (v:=.int .i64 e.m.st.v.by_) rfl;have c12:=HB.out.cell (i:=12) (v:=.int .i64 e.m.st.v.n) rfl;have c13:=HB.out.cell (i:=13) (v:=.int .i64 e.m.st.time) rfl;have c14:=HB.out.cell (i:=14) (v:=.string e.m.p) rfl;have c15:=HB.out.cell (i:=15) (v:=.int .i64 e.m.size) rfl;have c16:=HB.out.cell (i:=16) (v:=.bool e.m.dead) rfl;have lb:=HB.out.lt
 simp only[Tryz.isAgg61,Tryz.sizeOf61,Result.andThen,↓reduceIte,za HB.out 21 hz.out];rw[Oper.upon_value];go_wp2_with fail
 go_ret;exact⟨rfl,HE.out⟩
theorem bareC3 (w:World) (e:EntI) (d1:(e.kind==1)=false) (d2:(e.kind==2)=false):Calls Tryz.prog 91 #[.agg e.arr] w (Ret (.bool (decide (e.kind=3∧e.u=upd0∧e.m=met00))) w):=by
 have HE:=hid (Ext.alloc w (.cells e.arr 61));have HB:=hid (Blk.new w 61 e.arr);have HQ:=fun W=>bareR3 e W;generalize decide (e.kind=3∧e.u=upd0∧e.m=met00)=r at HQ⊢;go_enter Tryz.func91,Tryz.ntmps91;have hz:=hid (zal e);have h0:e.arr[0]? = some (.int .i64 e.kind):=rfl;go_wp2_with fail
 clear h0;generalize w.alloc (.cells e.arr 61)=w0 at HE HB⊢;have c0:=HB.out.cell (i:=0) (v:=.int .i64 e.kind) rfl;have c17:=HB.out.cell (i:=17) (v:=.int .i64 e.o.a.by_) rfl;have c18:=HB.out.cell (i:=18) (v:=.int .i64 e.o.a.n) rfl;have c19:=HB.out.cell (i:=19) (v:=.int .i64 e.o.b.by_) rfl;have c20:=HB.out.cell (i:=20) (v:=.int .i64 e.o.b.n) rfl;have lb:=HB.out.lt;simp only[Tryz.isAgg61,Tryz.sizeOf61,Result.andThen,↓reduceIte,za HB.out 21 hz.out];rw[Oper.upon_value];go_wp2_with fail
 go_ret;exact⟨rfl,HE.out⟩
theorem zdC (w:World) (e:EntI):Calls Tryz.prog 91 #[.agg e.arr] w (Ret (.bool (zbM e)) w):=by
 unfold zbM;by_cases h1:e.kind=1
 ·rw[if_pos h1]
  exact bareC1 w e (by simp[h1])
 ·rw[if_neg h1]
  by_cases h2:e.kind=2
  ·rw[if_pos h2]
   exact bareC2 w e (by simp[h1]) (by simp[h2])
  ·rw[if_neg h2]
   exact bareC3 w e (by simp[h1]) (by simp[h2])
end
section
open Go.RowKit
theorem zbc:(Tryz.prog.info? 61).map (·.size)=some 21:=by kernel_rfl
theorem zbo (e:EntI):e.arr.toList=e.cells:=rfl
theorem zdi (e:EntI):e.arr.all (·.oneCell')=true:=by
 rw[Array.all_eq_true_iff_forall_mem];intro x hx;rw[←Array.mem_toList_iff,zbo] at hx;simp only[EntI.cells,List.mem_cons,List.not_mem_nil,or_false] at hx;rcases hx with rfl | rfl | rfl | rfl | rfl | rfl | rfl | rfl | rfl | rfl | rfl | rfl | rfl | rfl | rfl | rfl | rfl | rfl | rfl | rfl | rfl <;> rfl
theorem ent_coded:Coded EntI.cells 21:=⟨fun _=>rfl,fun a u hu=>by
 have:=zdi a;rw[Array.all_eq_true_iff_forall_mem] at this;exact this u (by rw[←Array.mem_toList_iff,zbo];exact hu)⟩
def entZ:Array Value:=#[.int .i64 0,.int .i64 0,.int .i64 0,.int .i64 0,.int .i64 0,.int .i64 0,.string ⟨#[]⟩,.string ⟨#[]⟩,.bool false,.int .i64 0,.int .i64 0,.int .i64 0,.int .i64 0,.int .i64 0,.string ⟨#[]⟩,.int .i64 0,.bool false,.int .i64 0,.int .i64 0,.int .i64 0,.int .i64 0]
theorem entinfo:(Tryz.prog.info? 61).map (fun i=>(i.zero,i.size,i.bytes))=some (some (.agg entZ),21,192):=by kernel_rfl
theorem zhZ:Elem Tryz.prog 31 61 21 192:=by
 obtain⟨i0,h0,h1,h2,h3⟩:=info_parts entinfo;exact⟨Tryz.underlying31,i0,_,h0,h1,h2,h3,rfl⟩
theorem zai {w:World} {b off:Nat} {cs:Array Value} (hz:cs.size=21) (h:∀ (j:Nat) v,cs[j]? = some v→w.cell? ⟨b,off+j,none⟩=some v):(loadVar 61 ⟨b,off,none⟩).run Tryz.prog w=.ok (.agg cs) w:=by
 have:=run_loadVar_mid (P:=Tryz.prog) w b off 61 cs.toList _ (fun j v hv=>h j v (by simpa using hv)) Tryz.underlying61 rfl (by rw[Array.length_toList,hz];exact zbc);simpa using this
theorem zX {o:Oper} {x ix:Operand} {b off n c k:Nat} {z:Int} {a:Act} {C:World→Prop} {K:Act→Prop} (hop:o.op=.indexAddr 31 x ix) (hx:a.eval x=.slice (some ⟨b,off,none⟩) n c) (hi:a.eval ix=.int .i64 z) (hz:z=(k:Int)) (hk:k<n) (hK:K (a.put o.dst (.pointer (some ⟨b,off+k*21,none⟩)))):o.quiet Tryz.prog a C K:=by
 refine⟨.pointer (some ⟨b,off+k*21,none⟩),fun w hw=>?_,hK⟩;subst hz;have h0:(0:Int)≤k∧(k:Int)<n:=by omega
 simp only[Oper.quietAt,execOp,hop,hx,hi];have hadd:(⟨b,off,none⟩:Addr).add (k*21)=⟨b,off+k*21,none⟩:=Addr.add_lit _ _ _;simp[go_sem,Instr.indexAt,asIntOf,Tryz.underlying31,Tryz.sizeOf61,h0,hadd];rw[if_pos hk];exact⟨rfl,rfl⟩
end
end Go.Proofs.YtofjpdgojoppbaaGreatDoor
