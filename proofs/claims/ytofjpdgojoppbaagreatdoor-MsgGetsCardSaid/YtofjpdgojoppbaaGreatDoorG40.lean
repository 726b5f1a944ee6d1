/-
  Of the claim's proof: RdR, RdG, BoE, AwM, LwG.
-/
import Derived.Test.YtofjpdgojoppbaaGreatDoorG15
import Derived.Test.YtofjpdgojoppbaaGreatDoorG20
import Derived.Test.YtofjpdgojoppbaaGreatDoorG35
import Derived.Test.YtofjpdgojoppbaaGreatDoorG39
set_option maxRecDepth 100000
set_option maxHeartbeats 16000000
set_option linter.unusedVariables false
set_option linter.unusedSimpArgs false
namespace Go.Proofs.YtofjpdgojoppbaaGreatDoor
section
open Go.RowKit
attribute [-simp] Tryz.isAgg36 Tryz.sizeOf36 Tryz.isAgg33 Tryz.sizeOf33
theorem mread_c (w:World) (q:Nat) (s:ByteArray) (e:Int) (mx:Int) (hm:w.cell? ⟨0,0,none⟩=some (.int .i64 mx)) (hq0:0<q) (h:InAt w q s e) (hs:s.size≤65536):Calls Tryz.prog 24 #[.pointer (some ⟨q,0,none⟩)] w (fun en w'=>∃ (S:SlM) (m:MsgI),en=.returned (.agg (m.at S).arr)∧MsgT w' S m∧MsgOk m∧KnowG m.k∧Keep (fun g=>g=q) w w' ∧ ∀ m0:MsgI,MsgOk m0→layB m0=true→KnowG m0.k→e=0→s=zao m0→m=m0):=by
 have hc0:=fun W (hW:Keep (fun g=>g=q) w W)=>zW hW (Nat.lt_of_le_of_lt (Nat.zero_le _) h.lt) (by omega) hm;have HN0:=hid (fun W h'=>n_c W q s e h' (by omega));have HN:=fun W (s':ByteArray) (e':Int) (h':InAt W q s' e') (hs':s'.size≤65536)=>hid (n_c W q s' e' h' (by omega));have HT:=fun W (s':ByteArray) (e':Int) (h':InAt W q s' e') (hs':s'.size≤65536)=>hid (t_c W q s' e' h' (by omega));have HSd:=fun W (s':ByteArray) (e':Int) (h':InAt W q s' e') (hs':s'.size≤65536)=>hid (zkF W q s' e' h' (by omega));have HGf:=fun W t (hW:Keep (fun g=>g=q) w W) (ht:t.size≤65536)=>hid (zj4 W t mx (hc0 W hW) ht)
 have HGk:=fun W t (hW:Keep (fun g=>g=q) w W) (ht:t.size≤65536)=>hid (getKT_c W t mx (hc0 W hW) ht);have HGv:=fun W t (ht:t.size≤65536)=>hid (zhh W t ht);have HGi:=fun W t (ht:t.size≤65536)=>hid (zj3 W t ht);have HPp:=fun W (s':ByteArray) (e':Int) (_:Keep (fun g=>g=q) w W) (h':InAt W q s' e') (hs':s'.size≤65536)=>hid (zlP W q s' e' h' (by omega) zfD zfE encP (fun W2 s2 e2 _ h2 hs2=>zjk W2 q s2 e2 h2 (by omega)))
 have HPe:=fun W (s':ByteArray) (e':Int) (hW:Keep (fun g=>g=q) w W) (h':InAt W q s' e') (hs':s'.size≤65536)=>hid (zlQ W q s' e' h' (by omega) EntOk (fun x=>EntOk x∧zP x=true) (fun x=>encL (entF x)) (fun W2 s2 e2 k2 h2 hs2=>zjm W2 q s2 e2 mx (hc0 W2 (hW.trans k2)) hq0 h2 (by omega)));have HZ:=hid (zJ msgZ);have HR0:=hid (Blk.new w 36 msgZ.arr);have HE0:=hid (Ext.alloc w (.cells msgZ.arr 36));have HI0:=hid (h.ext HE0.out);have NR:Hid (¬ w.heap.size=q):=by have:=h.lt;unfold Hid;omega
 clear hc0 hm h;go_enter Tryz.func24,Tryz.ntmps24;go_wp2_with fail
 rw[zaH];generalize w.alloc (.cells msgZ.arr 36)=w1 at HR0 HE0 HI0⊢;refine((HN0.out _ HI0.out)).mono ?_;rintro en w2 ⟨z,s2,e2,rfl,hz2,k2,h2,hs2,r2⟩;have HI2:=hid h2;have HR2:=hid (HR0.out.keep k2 NR.out);have HK2:=hid ((Keep.of_ext (S:=fun g=>g=q) HE0.out).trans k2);have R2:=hid r2;have Hz:=hid hz2;have HS2:=hid hs2;have hs2':s2.size≤65536:=by omega
 clear k2 h2 r2 hz2 hs2 HI0 HR0 HE0 HN0;go_wp2_with fail
 refine((HSd _ _ _ HI2.out hs2').out).mono ?_;rintro en w3 ⟨y1,y2,y3,s3,e3,rfl,hy1,hy2,hy3,k3,h3,hs3,r3⟩;have HY:=hid (And.intro hy1 (And.intro hy2 hy3));have RY:=hid r3;have HS3:=hid (Nat.le_trans hs3 HS2.out);have hs3':s3.size≤65536:=by omega
 have hfa:=zcn ⟨z,y1,y2,y3,0,0,0,false,[],⟨[],[]⟩,[],0,false,[],vec0,vec0,[],0,zi,zi⟩;dsimp only at hfa;have hfm:(zO ⟨z,y1,y2,y3,0,0,0,false,[],⟨[],[]⟩,[],0,false,[],vec0,vec0,[],0,zi,zi⟩).arr=(MsgC.mk z y1 y2 y3 0 0 0 false nilS nilS nilS nilS 0 false nilS vec0 vec0 nilS 0 zi zi).arr:=rfl;rw[hfm] at hfa;clear hfm;have HP:=hid (zJ (MsgC.mk z y1 y2 y3 0 0 0 false nilS nilS nilS nilS 0 false nilS vec0 vec0 nilS 0 zi zi));have HP1:=hid (zan (MsgC.mk z y1 y2 y3 0 0 0 false nilS nilS nilS nilS 0 false nilS vec0 vec0 nilS 0 zi zi))
 have ck:Hid ((MsgC.mk z y1 y2 y3 0 0 0 false nilS nilS nilS nilS 0 false nilS vec0 vec0 nilS 0 zi zi).arr[0]? = some (.int .i64 z)):=by unfold Hid;rw[zT _ _ (by omega)];rfl
 obtain⟨P,hP⟩:∃ P,(MsgC.mk z y1 y2 y3 0 0 0 false nilS nilS nilS nilS 0 false nilS vec0 vec0 nilS 0 zi zi).arr=P:=⟨_,rfl⟩
 have HPe0:=hid hP;rw[hP] at hfa HP HP1 ck;clear hP;have X3:=hid (Ext.alloc w3 (.cells P 36));have HI3:=hid (h3.ext X3.out);have HR3:=hid ((HR2.out.keep k3 NR.out).ext X3.out);have HK3:=hid ((HK2.out.trans k3).ext X3.out);have HU3:=hid (Blk.new w3 36 P);have NU:Hid (¬ w3.heap.size=q):=by have:=h3.lt;unfold Hid;omega
 have NUR:Hid (¬ w3.heap.size=w.heap.size):=by have:=(HR2.out.keep k3 NR.out).lt;unfold Hid;omega
 have GU:Hid (w.heap.size≤w3.heap.size):=(HK2.out.trans k3).size;clear hy1 hy2 hy3 k3 h3 hs3 r3 HI2 HR2 HK2 X3 hs2' HS2;go_wp2_with fail
 simp only[Tryz.sizeOf33,Result.andThen];rw[Oper.upon_value];clear hfa;go_wp2_with fail
 rw[zaH];have HB3:=hid (Blk.new w3 36 msgZ.arr);simp only[Tryz.sizeOf36,Result.andThen,↓reduceIte,zg HB3.out (by rw[HP.out];exact zK) (by rw[HP.out,HZ.out]) HP1.out,HP.out];rw[Oper.upon_skip];rw[World.setRow_alloc_new];clear HB3;obtain⟨g,hg⟩:∃ g,w3.heap.size=g:=⟨_,rfl⟩
 rw[hg] at NU NUR GU HU3;have hgoal:=hg;generalize hw9:w3.alloc (.cells P 36)=w9 at HI3 HR3 HU3 HK3⊢;rw[hg];clear hw9 hgoal hg;clear w3;obtain⟨w3,hw3⟩:∃ w,w=w9:=⟨_,rfl⟩
 subst hw3;have c0:=HU3.out.cell ck.out;have l3:=HU3.out.lt;rw[←HPe0.out] at HU3;clear HPe0 ck HP HP1;by_cases h1:z=1
 ·have d1:((z:Int)==1)=true:=by rw[h1];rfl
  have H1:=hid h1;clear h1 HSd HGv HGi HPe;go_wp2_with fail
  refine((HN _ _ _ HI3.out hs3').out).mono ?_;rintro en w4 ⟨z4,s4,e4,rfl,hz4,k4,h4,hs4,r4⟩;have HI4:=hid h4;have HR4:=hid (HR3.out.keep k4 NR.out);have HU4:=hid (HU3.out.keep k4 NU.out);have HK4:=hid (HK3.out.trans k4);have R4:=hid r4;have hs4':s4.size≤65536:=by omega
  have HS4:=hid (Nat.le_trans hs4 HS3.out);have Z4:=hid hz4;clear hz4;clear HI3 HR3 HU3 HK3  k4 h4 r4 hs4 hs3';have cup:=HU4.out.cell (i:=7) (v:=.bool false) (by rw[zT _ _ (by omega)];rfl);have fup:=HU4.out.frozen 7;have lu:=HU4.out.lt;go_wp2_with fail
  have HU5:Hid (Blk ((w4.setCell ⟨g,7,none⟩ (.bool ((z4:Int)==1)))) g 36 (MsgC.mk z y1 y2 y3 0 0 0 ((z4:Int)==1) nilS nilS nilS nilS 0 false nilS vec0 vec0 nilS 0 zi zi).arr):=by
   have h9:=HU4.out.setCells ([.bool ((z4:Int)==1)]) 7 (by rw[zJ];show 7+1≤147;omega);rw[zcW (MsgC.mk z y1 y2 y3 0 0 0 false nilS nilS nilS nilS 0 false nilS vec0 vec0 nilS 0 zi zi) (MsgC.mk z y1 y2 y3 0 0 0 ((z4:Int)==1) nilS nilS nilS nilS 0 false nilS vec0 vec0 nilS 0 zi zi) 7 [.bool ((z4:Int)==1)] (by show 7+1≤15;omega) rfl rfl] at h9;exact h9
  have kS5:Keep (fun k=>k=g) w4 ((w4.setCell ⟨g,7,none⟩ (.bool ((z4:Int)==1)))):=Keep.setCells (S:=fun q=>q=g) (.inl rfl) ([.bool ((z4:Int)==1)]) (Keep.refl _ w4) 7;have HI5:=hid (show InAt ((w4.setCell ⟨g,7,none⟩ (.bool ((z4:Int)==1)))) q s4 e4 from Blk.keep HI4.out kS5 (fun h=>NU.out h.symm));have HR5:=hid (HR4.out.keep kS5 (fun h=>NUR.out h.symm));have HK5:=hid (zaz HK4.out kS5 (fun k hk=>by rw[hk];exact GU.out));have HS5:=HS4;have hs5':=hs4';clear HI4 HR4 HU4 HK4  kS5 hs4';clear cup fup lu;generalize (w4.setCell ⟨g,7,none⟩ (.bool ((z4:Int)==1)))=w5 at HI5 HR5 HU5 HK5  ⊢;refine((HT _ _ _ HI5.out hs5').out).mono ?_
  rintro en w6 ⟨t6,s6,e6,rfl,ht6,k6,h6,hs6,r6⟩;have HI6:=hid h6;have HR6:=hid (HR5.out.keep k6 NR.out);have HU6:=hid (HU5.out.keep k6 NU.out);have HK6:=hid (HK5.out.trans k6);have R6:=hid r6;have hs6':s6.size≤65536:=by omega
  have HS6:=hid (Nat.le_trans hs6 HS5.out);have ht6':t6.size≤65536:=by omega
  clear ht6;clear HI5 HR5 HU5 HK5  k6 h6 r6 hs6 hs5';go_wp2_with fail
  refine((HGf _ _ HK6.out ht6').out).mono ?_;rintro en w7 ⟨sf,lf,zf,rfl,hrf,hgf,x7,hbf⟩;have HI7:=hid (HI6.out.ext x7);have HR7:=hid (HR6.out.ext x7);have HU7:=hid (HU6.out.ext x7);have HK7:=hid (HK6.out.ext x7);have HS7:=HS6;have hs7':=hs6';have HF7:=hid hrf;have HGF:=hid hgf;have BF:=hid hbf;clear HI6 HR6 HU6 HK6  x7 hrf hgf hbf ht6'
  try clear hs6'
  have cf:=HU7.out.cell (i:=8) (v:=.slice none 0 0) (by rw[zT _ _ (by omega)];rfl);have ff:=HU7.out.frozen 8;have lu:=HU7.out.lt;go_wp2_with fail
  have HU8:Hid (Blk ((w7.setCell ⟨g,8,none⟩ (.slice sf.a sf.n sf.c))) g 36 (MsgC.mk z y1 y2 y3 0 0 0 ((z4:Int)==1) sf nilS nilS nilS 0 false nilS vec0 vec0 nilS 0 zi zi).arr):=by
   have h9:=HU7.out.setCells ([.slice sf.a sf.n sf.c]) 8 (by rw[zJ];show 8+1≤147;omega);rw[zcW (MsgC.mk z y1 y2 y3 0 0 0 ((z4:Int)==1) nilS nilS nilS nilS 0 false nilS vec0 vec0 nilS 0 zi zi) (MsgC.mk z y1 y2 y3 0 0 0 ((z4:Int)==1) sf nilS nilS nilS 0 false nilS vec0 vec0 nilS 0 zi zi) 8 [.slice sf.a sf.n sf.c] (by show 8+1≤15;omega) rfl rfl] at h9;exact h9
  have kS8:Keep (fun k=>k=g) w7 ((w7.setCell ⟨g,8,none⟩ (.slice sf.a sf.n sf.c))):=Keep.setCells (S:=fun q=>q=g) (.inl rfl) ([.slice sf.a sf.n sf.c]) (Keep.refl _ w7) 8;have HI8:=hid (show InAt ((w7.setCell ⟨g,8,none⟩ (.slice sf.a sf.n sf.c))) q s6 e6 from Blk.keep HI7.out kS8 (fun h=>NU.out h.symm));have HR8:=hid (HR7.out.keep kS8 (fun h=>NUR.out h.symm));have HK8:=hid (zaz HK7.out kS8 (fun k hk=>by rw[hk];exact GU.out));have HS8:=HS7;have hs8':=hs7';have HF8:=hid (zy HF7.out kS8 (fun g hg hq=>zN HF7.out HU7.out (by decide) (by rw[←hq];exact hg)));clear HI7 HR7 HU7 HK7 HF7 kS8 hs7';clear cf ff lu
  generalize (w7.setCell ⟨g,8,none⟩ (.slice sf.a sf.n sf.c))=w8 at HI8 HR8 HU8 HK8 HF8⊢;refine((HT _ _ _ HI8.out hs8').out).mono ?_;rintro en w9 ⟨t9,s9,e9,rfl,ht9,k9,h9,hs9,r9⟩;have HI9:=hid h9;have HR9:=hid (HR8.out.keep k9 NR.out);have HU9:=hid (HU8.out.keep k9 NU.out);have HK9:=hid (HK8.out.trans k9);have R9:=hid r9;have hs9':s9.size≤65536:=by omega
  have HS9:=hid (Nat.le_trans hs9 HS8.out);have HF9:=hid (zy HF8.out k9 (fun g hg hq=>zN HF8.out HI8.out (by decide) (by rw[←hq];exact hg)));have ht9':t9.size≤65536:=by omega
  clear ht9;clear HI8 HR8 HU8 HK8 HF8 k9 h9 r9 hs9 hs8';go_wp2_with fail
  refine((HGk _ _ HK9.out ht9').out).mono ?_;rintro en w10 ⟨su,sv,lk,zk,rfl,hrk,hgk,x10,-,hbk⟩;have HI10:=hid (HI9.out.ext x10);have HR10:=hid (HR9.out.ext x10);have HU10:=hid (HU9.out.ext x10);have HK10:=hid (HK9.out.ext x10);have HS10:=HS9;have hs10':=hs9';have HF10:=hid (zF HF9.out x10);have HK910:=hid hrk;have HGK:=hid hgk;have BK:=hid hbk;clear HI9 HR9 HU9 HK9 HF9 x10 hrk hgk hbk ht9'
  try clear hs9'
  have ck1:=HU10.out.cell (i:=9) (v:=.slice none 0 0) (by rw[zT _ _ (by omega)];rfl);have fk1:=HU10.out.frozen 9;have ck2:=HU10.out.cell (i:=10) (v:=.slice none 0 0) (by rw[zT _ _ (by omega)];rfl);have fk2:=HU10.out.frozen 10;have lu:=HU10.out.lt;go_wp2_with fail
  have HU11:Hid (Blk (((w10.setCell ⟨g,9,none⟩ (.slice su.a su.n su.c)).setCell ⟨g,10,none⟩ (.slice sv.a sv.n sv.c))) g 36 (MsgC.mk z y1 y2 y3 0 0 0 ((z4:Int)==1) sf su sv nilS 0 false nilS vec0 vec0 nilS 0 zi zi).arr):=by
   have h9:=HU10.out.setCells ([.slice su.a su.n su.c,.slice sv.a sv.n sv.c]) 9 (by rw[zJ];show 9+2≤147;omega);rw[zcW (MsgC.mk z y1 y2 y3 0 0 0 ((z4:Int)==1) sf nilS nilS nilS 0 false nilS vec0 vec0 nilS 0 zi zi) (MsgC.mk z y1 y2 y3 0 0 0 ((z4:Int)==1) sf su sv nilS 0 false nilS vec0 vec0 nilS 0 zi zi) 9 [.slice su.a su.n su.c,.slice sv.a sv.n sv.c] (by show 9+2≤15;omega) rfl rfl] at h9;exact h9
  have kS11:Keep (fun k=>k=g) w10 (((w10.setCell ⟨g,9,none⟩ (.slice su.a su.n su.c)).setCell ⟨g,10,none⟩ (.slice sv.a sv.n sv.c))):=Keep.setCells (S:=fun q=>q=g) (.inl rfl) ([.slice su.a su.n su.c,.slice sv.a sv.n sv.c]) (Keep.refl _ w10) 9;have HI11:=hid (show InAt (((w10.setCell ⟨g,9,none⟩ (.slice su.a su.n su.c)).setCell ⟨g,10,none⟩ (.slice sv.a sv.n sv.c))) q s9 e9 from Blk.keep HI10.out kS11 (fun h=>NU.out h.symm));have HR11:=hid (HR10.out.keep kS11 (fun h=>NUR.out h.symm));have HK11:=hid (zaz HK10.out kS11 (fun k hk=>by rw[hk];exact GU.out));have HS11:=HS10;have hs11':=hs10'
  have HF11:=hid (zy HF10.out kS11 (fun g hg hq=>zN HF10.out HU10.out (by decide) (by rw[←hq];exact hg)));have HK911:=hid (HK910.out.keepBlk HU10.out (by decide) (by decide) (by decide) (by decide) kS11);clear HI10 HR10 HU10 HK10 HF10 HK910 kS11 hs10';clear ck1 fk1 ck2 fk2 lu;generalize ((w10.setCell ⟨g,9,none⟩ (.slice su.a su.n su.c)).setCell ⟨g,10,none⟩ (.slice sv.a sv.n sv.c))=w11 at HI11 HR11 HU11 HK11 HF11 HK911⊢;refine((HPp _ _ _ HK11.out HI11.out hs11').out).mono ?_;rintro en w12 ⟨vh,lh,s12,e12,rfl,hrh,hgh,hlh,k12,h12,hs12,r12⟩;have HI12:=hid h12;have HR12:=hid (HR11.out.keep k12 NR.out);have HU12:=hid (HU11.out.keep k12 NU.out)
  have HK12:=hid (HK11.out.trans k12);have R12:=hid r12;have hs12':s12.size≤65536:=by omega
  have HS12:=hid (Nat.le_trans hs12 HS11.out);have HF12:=hid (zy HF11.out k12 (fun g hg hq=>zN HF11.out HI11.out (by decide) (by rw[←hq];exact hg)));have HK912:=hid (HK911.out.keepBlk HI11.out (by decide) (by decide) (by decide) (by decide) k12);have HH12:=hid (zap hrh (Nat.zero_le _));have HGH:=hid hgh;have HLH:=hid hlh;obtain⟨⟨sh1,sh2,sh3⟩,hshe⟩:=zex hrh;subst hshe;dsimp only[SlV.val];clear hrh hgh hlh;clear HI11 HR11 HU11 HK11 HF11 HK911 k12 h12 r12 hs12 hs11';have cheld:=HU12.out.cell (i:=11) (v:=.slice none 0 0) (by rw[zT _ _ (by omega)];rfl);have fheld:=HU12.out.frozen 11;have lu:=HU12.out.lt;go_wp2_with fail
  have HU13:Hid (Blk ((w12.setCell ⟨g,11,none⟩ (.slice sh1 sh2 sh3))) g 36 (MsgC.mk z y1 y2 y3 0 0 0 ((z4:Int)==1) sf su sv ⟨sh1,sh2,sh3⟩ 0 false nilS vec0 vec0 nilS 0 zi zi).arr):=by
   have h9:=HU12.out.setCells ([.slice sh1 sh2 sh3]) 11 (by rw[zJ];show 11+1≤147;omega);rw[zcW (MsgC.mk z y1 y2 y3 0 0 0 ((z4:Int)==1) sf su sv nilS 0 false nilS vec0 vec0 nilS 0 zi zi) (MsgC.mk z y1 y2 y3 0 0 0 ((z4:Int)==1) sf su sv ⟨sh1,sh2,sh3⟩ 0 false nilS vec0 vec0 nilS 0 zi zi) 11 [.slice sh1 sh2 sh3] (by show 11+1≤15;omega) rfl rfl] at h9;exact h9
  have kS13:Keep (fun k=>k=g) w12 ((w12.setCell ⟨g,11,none⟩ (.slice sh1 sh2 sh3))):=Keep.setCells (S:=fun q=>q=g) (.inl rfl) ([.slice sh1 sh2 sh3]) (Keep.refl _ w12) 11;have HI13:=hid (show InAt ((w12.setCell ⟨g,11,none⟩ (.slice sh1 sh2 sh3))) q s12 e12 from Blk.keep HI12.out kS13 (fun h=>NU.out h.symm));have HR13:=hid (HR12.out.keep kS13 (fun h=>NUR.out h.symm));have HK13:=hid (zaz HK12.out kS13 (fun k hk=>by rw[hk];exact GU.out));have HS13:=HS12;have hs13':=hs12';have HF13:=hid (zy HF12.out kS13 (fun g hg hq=>zN HF12.out HU12.out (by decide) (by rw[←hq];exact hg)))
  have HK913:=hid (HK912.out.keepBlk HU12.out (by decide) (by decide) (by decide) (by decide) kS13);have HH13:=hid (zy HH12.out kS13 (fun g hg hq=>zN HH12.out HU12.out (by decide) (by rw[←hq];exact hg)));clear HI12 HR12 HU12 HK12 HF12 HK912 HH12 kS13 hs12';clear cheld fheld lu;generalize (w12.setCell ⟨g,11,none⟩ (.slice sh1 sh2 sh3))=w13 at HI13 HR13 HU13 HK13 HF13 HK913 HH13⊢;obtain⟨X,hX⟩:∃ X,(MsgC.mk z y1 y2 y3 0 0 0 ((z4:Int)==1) sf su sv ⟨sh1,sh2,sh3⟩ 0 false nilS vec0 vec0 nilS 0 zi zi).arr=X:=⟨_,rfl⟩
  have hz9:=hid (zJ (MsgC.mk z y1 y2 y3 0 0 0 ((z4:Int)==1) sf su sv ⟨sh1,sh2,sh3⟩ 0 false nilS vec0 vec0 nilS 0 zi zi));have ho9:=hid (zan (MsgC.mk z y1 y2 y3 0 0 0 ((z4:Int)==1) sf su sv ⟨sh1,sh2,sh3⟩ 0 false nilS vec0 vec0 nilS 0 zi zi));have HXe:=hid hX;rw[hX] at HU13 hz9 ho9;clear hX;go_wp2_with fail
  simp only[Tryz.isAgg36,Tryz.sizeOf36,Result.andThen,↓reduceIte,za HU13.out 147 hz9.out];rw[Oper.upon_value];go_wp2_with fail
  simp only[Tryz.sizeOf36,Result.andThen,↓reduceIte,zg HR13.out (by rw[hz9.out];exact zK) (by rw[hz9.out,HZ.out]) ho9.out,hz9.out];rw[Oper.upon_skip];go_wp2_with fail
  have HF:=hid (HR13.out.setRow X);have kR:Keep (fun g=>g=w.heap.size) w13 _:=Keep.setRow (S:=fun g=>g=w.heap.size) (Keep.refl _ w13) (.inl rfl) X;have HKf:=hid (Keep.setRow (S:=fun g=>g=q) HK13.out (.inr (Nat.le_refl _)) X);have HFf:=hid (zy HF13.out kR (fun g hg hq=>zN HF13.out HR13.out (by decide) (by rw[←hq];exact hg)));have HK9f:=hid (HK913.out.keepBlk HR13.out (by decide) (by decide) (by decide) (by decide) kR);have HHf:=hid (zy HH13.out kR (fun g hg hq=>zN HH13.out HR13.out (by decide) (by rw[←hq];exact hg)))
  refine bodyPost_ret (results_cell_row rfl _ _ w.heap.size 36 _ (0,0) _ rfl HF.out Tryz.underlying36 rfl (by rw[hz9.out];exact zK)) rfl ⟨⟨sf,su,sv,⟨sh1,sh2,sh3⟩,nilS,nilS⟩,⟨z,y1,y2,y3,0,0,0,((z4:Int)==1),lf,lk,lh,0,false,[],vec0,vec0,[],0,zi,zi⟩,by rw[←HXe.out];rfl,⟨HFf.out,HK9f.out,HHf.out,zw _ _ _ _,zw _ _ _ _⟩,?_,HGK.out,HKf.out,?_⟩
  ·exact⟨HGF.out,HGK.out.ok,Nat.le_trans HLH.out (by decide),zgs,Nat.zero_le _,zbc,zbc,zgp,Nat.zero_le _,zX Hz.out,⟨zX HY.out.1,zX HY.out.2.1,zX HY.out.2.2⟩,zhz,zaZ,zaZ,HGH.out⟩
  ·intro m0 hok hl hg a0 hs0
   exact back1 hok hl hg a0 hs0 R2.out RY.out R4.out R6.out R9.out R12.out BF.out (fun k0 x1 x2 x3=>(BK.out k0 x1 x2 x3).2) H1.out
 have d1:((z:Int)==1)=false:=by
  have:¬ (z:Int)=1:=by omega
  simpa using this
 by_cases h2:z=2
 ·have d2:((z:Int)==2)=true:=by rw[h2];rfl
  have H2:=hid h2;clear h1 h2 HGf HGk HPp;go_wp2_with fail
  refine((HSd _ _ _ HI3.out hs3').out).mono ?_;rintro en w4 ⟨a4,b4,c4,s4,e4,rfl,hx4,hy4,hz4,k4,h4,hs4,r4⟩;have HI4:=hid h4;have HR4:=hid (HR3.out.keep k4 NR.out);have HU4:=hid (HU3.out.keep k4 NU.out);have HK4:=hid (HK3.out.trans k4);have R4:=hid r4;have hs4':s4.size≤65536:=by omega
  have HS4:=hid (Nat.le_trans hs4 HS3.out);have Z4:=hid (And.intro hx4 (And.intro hy4 hz4));clear hx4 hy4 hz4;clear HI3 HR3 HU3 HK3  k4 h4 r4 hs4 hs3';go_wp2_with fail
  refine((HN _ _ _ HI4.out hs4').out).mono ?_;rintro en w5 ⟨z5,s5,e5,rfl,hz5,k5,h5,hs5,r5⟩;have HI5:=hid h5;have HR5:=hid (HR4.out.keep k5 NR.out);have HU5:=hid (HU4.out.keep k5 NU.out);have HK5:=hid (HK4.out.trans k5);have R5:=hid r5;have hs5':s5.size≤65536:=by omega
  have HS5:=hid (Nat.le_trans hs5 HS4.out);have Z5:=hid hz5;clear hz5;clear HI4 HR4 HU4 HK4  k5 h5 r5 hs5 hs4';have cr1:=HU5.out.cell (i:=4) (v:=.int .i64 0) (by rw[zT _ _ (by omega)];rfl);have fr1:=HU5.out.frozen 4;have cr2:=HU5.out.cell (i:=5) (v:=.int .i64 0) (by rw[zT _ _ (by omega)];rfl);have fr2:=HU5.out.frozen 5;have cr3:=HU5.out.cell (i:=6) (v:=.int .i64 0) (by rw[zT _ _ (by omega)];rfl);have fr3:=HU5.out.frozen 6;have cseq:=HU5.out.cell (i:=12) (v:=.int .i64 0) (by rw[zT _ _ (by omega)];rfl);have fseq:=HU5.out.frozen 12;have lu:=HU5.out.lt;go_wp2_with fail
  clear cseq fseq;have HU6:Hid (Blk ((((w5.setCell ⟨g,4,none⟩ (.int .i64 a4)).setCell ⟨g,5,none⟩ (.int .i64 b4)).setCell ⟨g,6,none⟩ (.int .i64 c4))) g 36 (MsgC.mk z y1 y2 y3 a4 b4 c4 false nilS nilS nilS nilS 0 false nilS vec0 vec0 nilS 0 zi zi).arr):=by
   have h9:=HU5.out.setCells ([.int .i64 a4,.int .i64 b4,.int .i64 c4]) 4 (by rw[zJ];show 4+3≤147;omega);rw[zcW (MsgC.mk z y1 y2 y3 0 0 0 false nilS nilS nilS nilS 0 false nilS vec0 vec0 nilS 0 zi zi) (MsgC.mk z y1 y2 y3 a4 b4 c4 false nilS nilS nilS nilS 0 false nilS vec0 vec0 nilS 0 zi zi) 4 [.int .i64 a4,.int .i64 b4,.int .i64 c4] (by show 4+3≤15;omega) rfl rfl] at h9;exact h9
  have kS6:Keep (fun k=>k=g) w5 ((((w5.setCell ⟨g,4,none⟩ (.int .i64 a4)).setCell ⟨g,5,none⟩ (.int .i64 b4)).setCell ⟨g,6,none⟩ (.int .i64 c4))):=Keep.setCells (S:=fun q=>q=g) (.inl rfl) ([.int .i64 a4,.int .i64 b4,.int .i64 c4]) (Keep.refl _ w5) 4;have HI6:=hid (show InAt ((((w5.setCell ⟨g,4,none⟩ (.int .i64 a4)).setCell ⟨g,5,none⟩ (.int .i64 b4)).setCell ⟨g,6,none⟩ (.int .i64 c4))) q s5 e5 from Blk.keep HI5.out kS6 (fun h=>NU.out h.symm));have HR6:=hid (HR5.out.keep kS6 (fun h=>NUR.out h.symm));have HK6:=hid (zaz HK5.out kS6 (fun k hk=>by rw[hk];exact GU.out));have HS6:=HS5;have hs6':=hs5';clear HI5 HR5 HU5 HK5  kS6 hs5'
  clear cr1 fr1 cr2 fr2 cr3 fr3 lu;generalize (((w5.setCell ⟨g,4,none⟩ (.int .i64 a4)).setCell ⟨g,5,none⟩ (.int .i64 b4)).setCell ⟨g,6,none⟩ (.int .i64 c4))=w6 at HI6 HR6 HU6 HK6  ⊢;have lu:=HU6.out.lt;have cseq:=trivial;have fseq:=trivial;have HU7:Hid (Blk ((w6.setCell ⟨g,12,none⟩ (.int .i64 z5))) g 36 (MsgC.mk z y1 y2 y3 a4 b4 c4 false nilS nilS nilS nilS z5 false nilS vec0 vec0 nilS 0 zi zi).arr):=by
   have h9:=HU6.out.setCells ([.int .i64 z5]) 12 (by rw[zJ];show 12+1≤147;omega);rw[zcW (MsgC.mk z y1 y2 y3 a4 b4 c4 false nilS nilS nilS nilS 0 false nilS vec0 vec0 nilS 0 zi zi) (MsgC.mk z y1 y2 y3 a4 b4 c4 false nilS nilS nilS nilS z5 false nilS vec0 vec0 nilS 0 zi zi) 12 [.int .i64 z5] (by show 12+1≤15;omega) rfl rfl] at h9;exact h9
  have kS7:Keep (fun k=>k=g) w6 ((w6.setCell ⟨g,12,none⟩ (.int .i64 z5))):=Keep.setCells (S:=fun q=>q=g) (.inl rfl) ([.int .i64 z5]) (Keep.refl _ w6) 12;have HI7:=hid (show InAt ((w6.setCell ⟨g,12,none⟩ (.int .i64 z5))) q s5 e5 from Blk.keep HI6.out kS7 (fun h=>NU.out h.symm));have HR7:=hid (HR6.out.keep kS7 (fun h=>NUR.out h.symm));have HK7:=hid (zaz HK6.out kS7 (fun k hk=>by rw[hk];exact GU.out));have HS7:=HS6;have hs7':=hs6';clear HI6 HR6 HU6 HK6  kS7 hs6';clear cseq fseq lu;generalize (w6.setCell ⟨g,12,none⟩ (.int .i64 z5))=w7 at HI7 HR7 HU7 HK7  ⊢;refine((HN _ _ _ HI7.out hs7').out).mono ?_
  rintro en w8 ⟨z8,s8,e8,rfl,hz8,k8,h8,hs8,r8⟩;have HI8:=hid h8;have HR8:=hid (HR7.out.keep k8 NR.out);have HU8:=hid (HU7.out.keep k8 NU.out);have HK8:=hid (HK7.out.trans k8);have R8:=hid r8;have hs8':s8.size≤65536:=by omega
  have HS8:=hid (Nat.le_trans hs8 HS7.out);have Z8:=hid hz8;clear hz8;clear HI7 HR7 HU7 HK7  k8 h8 r8 hs8 hs7';have clast:=HU8.out.cell (i:=13) (v:=.bool false) (by rw[zT _ _ (by omega)];rfl);have flast:=HU8.out.frozen 13;have lu:=HU8.out.lt;go_wp2_with fail
  have HU9:Hid (Blk ((w8.setCell ⟨g,13,none⟩ (.bool ((z8:Int)==1)))) g 36 (MsgC.mk z y1 y2 y3 a4 b4 c4 false nilS nilS nilS nilS z5 ((z8:Int)==1) nilS vec0 vec0 nilS 0 zi zi).arr):=by
   have h9:=HU8.out.setCells ([.bool ((z8:Int)==1)]) 13 (by rw[zJ];show 13+1≤147;omega);rw[zcW (MsgC.mk z y1 y2 y3 a4 b4 c4 false nilS nilS nilS nilS z5 false nilS vec0 vec0 nilS 0 zi zi) (MsgC.mk z y1 y2 y3 a4 b4 c4 false nilS nilS nilS nilS z5 ((z8:Int)==1) nilS vec0 vec0 nilS 0 zi zi) 13 [.bool ((z8:Int)==1)] (by show 13+1≤15;omega) rfl rfl] at h9;exact h9
  have kS9:Keep (fun k=>k=g) w8 ((w8.setCell ⟨g,13,none⟩ (.bool ((z8:Int)==1)))):=Keep.setCells (S:=fun q=>q=g) (.inl rfl) ([.bool ((z8:Int)==1)]) (Keep.refl _ w8) 13;have HI9:=hid (show InAt ((w8.setCell ⟨g,13,none⟩ (.bool ((z8:Int)==1)))) q s8 e8 from Blk.keep HI8.out kS9 (fun h=>NU.out h.symm));have HR9:=hid (HR8.out.keep kS9 (fun h=>NUR.out h.symm));have HK9:=hid (zaz HK8.out kS9 (fun k hk=>by rw[hk];exact GU.out));have HS9:=HS8;have hs9':=hs8';clear HI8 HR8 HU8 HK8  kS9 hs8';clear clast flast lu;generalize (w8.setCell ⟨g,13,none⟩ (.bool ((z8:Int)==1)))=w9 at HI9 HR9 HU9 HK9  ⊢
  refine((HPe _ _ _ HK9.out HI9.out hs9').out).mono ?_;rintro en w10 ⟨ve,le,s10,e10,rfl,hre,hge,hle,k10,h10,hs10,r10⟩;have HI10:=hid h10;have HR10:=hid (HR9.out.keep k10 NR.out);have HU10:=hid (HU9.out.keep k10 NU.out);have HK10:=hid (HK9.out.trans k10);have R10:=hid r10;have hs10':s10.size≤65536:=by omega
  have HS10:=hid (Nat.le_trans hs10 HS9.out);have HE10:=hid (zap hre (Nat.zero_le _));have HGE:=hid hge;have HLE:=hid hle;obtain⟨⟨sh1,sh2,sh3⟩,hshe⟩:=zex hre;subst hshe;dsimp only[SlV.val];clear hre hge hle;clear HI9 HR9 HU9 HK9  k10 h10 r10 hs10 hs9';have cents:=HU10.out.cell (i:=14) (v:=.slice none 0 0) (by rw[zT _ _ (by omega)];rfl);have fents:=HU10.out.frozen 14;have lu:=HU10.out.lt;go_wp2_with fail
  have HU11:Hid (Blk ((w10.setCell ⟨g,14,none⟩ (.slice sh1 sh2 sh3))) g 36 (MsgC.mk z y1 y2 y3 a4 b4 c4 false nilS nilS nilS nilS z5 ((z8:Int)==1) ⟨sh1,sh2,sh3⟩ vec0 vec0 nilS 0 zi zi).arr):=by
   have h9:=HU10.out.setCells ([.slice sh1 sh2 sh3]) 14 (by rw[zJ];show 14+1≤147;omega);rw[zcW (MsgC.mk z y1 y2 y3 a4 b4 c4 false nilS nilS nilS nilS z5 ((z8:Int)==1) nilS vec0 vec0 nilS 0 zi zi) (MsgC.mk z y1 y2 y3 a4 b4 c4 false nilS nilS nilS nilS z5 ((z8:Int)==1) ⟨sh1,sh2,sh3⟩ vec0 vec0 nilS 0 zi zi) 14 [.slice sh1 sh2 sh3] (by show 14+1≤15;omega) rfl rfl] at h9;exact h9
  have kS11:Keep (fun k=>k=g) w10 ((w10.setCell ⟨g,14,none⟩ (.slice sh1 sh2 sh3))):=Keep.setCells (S:=fun q=>q=g) (.inl rfl) ([.slice sh1 sh2 sh3]) (Keep.refl _ w10) 14;have HI11:=hid (show InAt ((w10.setCell ⟨g,14,none⟩ (.slice sh1 sh2 sh3))) q s10 e10 from Blk.keep HI10.out kS11 (fun h=>NU.out h.symm));have HR11:=hid (HR10.out.keep kS11 (fun h=>NUR.out h.symm));have HK11:=hid (zaz HK10.out kS11 (fun k hk=>by rw[hk];exact GU.out));have HS11:=HS10;have hs11':=hs10';have HE11:=hid (zy HE10.out kS11 (fun g hg hq=>zN HE10.out HU10.out (by decide) (by rw[←hq];exact hg)));clear HI10 HR10 HU10 HK10 HE10 kS11 hs10'
  clear cents fents lu;generalize (w10.setCell ⟨g,14,none⟩ (.slice sh1 sh2 sh3))=w11 at HI11 HR11 HU11 HK11 HE11⊢;refine((HT _ _ _ HI11.out hs11').out).mono ?_;rintro en w12 ⟨t12,s12,e12,rfl,ht12,k12,h12,hs12,r12⟩;have HI12:=hid h12;have HR12:=hid (HR11.out.keep k12 NR.out);have HU12:=hid (HU11.out.keep k12 NU.out);have HK12:=hid (HK11.out.trans k12);have R12:=hid r12;have hs12':s12.size≤65536:=by omega
  have HS12:=hid (Nat.le_trans hs12 HS11.out);have HE12:=hid (zy HE11.out k12 (fun g hg hq=>zN HE11.out HI11.out (by decide) (by rw[←hq];exact hg)));have ht12':t12.size≤65536:=by omega
  clear ht12;clear HI11 HR11 HU11 HK11 HE11 k12 h12 r12 hs12 hs11';go_wp2_with fail
  refine((HGv _ _ ht12').out).mono ?_;rintro en w13 ⟨vV,zvV,rfl,hlV,hinV,x13,hbV⟩;have HI13:=hid (HI12.out.ext x13);have HR13:=hid (HR12.out.ext x13);have HU13:=hid (HU12.out.ext x13);have HK13:=hid (HK12.out.ext x13);have HS13:=HS12;have hs13':=hs12';have HE13:=hid (zF HE12.out x13);have HLV:=hid hlV;have HINV:=hid hinV;have BVV:=hid hbV;have hzV:=hid (zbF hlV);clear HI12 HR12 HU12 HK12 HE12 x13 hlV hinV hbV ht12'
  try clear hs12'
  have hle:Hid (15+(vecV vV).toList.length≤(MsgC.mk z y1 y2 y3 a4 b4 c4 false nilS nilS nilS nilS z5 ((z8:Int)==1) ⟨sh1,sh2,sh3⟩ vec0 vec0 nilS 0 zi zi).arr.size):=by unfold Hid;rw[Array.length_toList,hzV.out,zJ];omega
  have h1V:Hid (∀ u∈(vecV vV).toList,u.oneCell'=true):=fun u hu=>Array.all_eq_true_iff_forall_mem.1 (zaw vV) u (Array.mem_toList_iff.1 hu);go_wp2_with fail
  simp only[Tryz.sizeOf33,Result.andThen];rw[if_neg (show ¬ (65:Nat)=0 by omega)];dsimp only;rw[Oper.upon_value];go_wp2_with fail
  simp only[Tryz.sizeOf33,Result.andThen,↓reduceIte,hzV.out,zar HU13.out hle.out h1V.out];rw[Oper.upon_skip];have HU14:Hid (Blk (w13.setCells g 15 (vecV vV).toList) g 36 (MsgC.mk z y1 y2 y3 a4 b4 c4 false nilS nilS nilS nilS z5 ((z8:Int)==1) ⟨sh1,sh2,sh3⟩ vV vec0 nilS 0 HLV.out zi).arr):=by
   have h9:=HU13.out.setCells ((vecV vV).toList) 15 hle.out;rw[set_VV (MsgC.mk z y1 y2 y3 a4 b4 c4 false nilS nilS nilS nilS z5 ((z8:Int)==1) ⟨sh1,sh2,sh3⟩ vec0 vec0 nilS 0 zi zi) (MsgC.mk z y1 y2 y3 a4 b4 c4 false nilS nilS nilS nilS z5 ((z8:Int)==1) ⟨sh1,sh2,sh3⟩ vV vec0 nilS 0 HLV.out zi) vV HLV.out rfl rfl rfl rfl rfl] at h9;exact h9
  have kS14:Keep (fun k=>k=g) w13 (w13.setCells g 15 (vecV vV).toList):=Keep.setCells (S:=fun q=>q=g) (.inl rfl) ((vecV vV).toList) (Keep.refl _ w13) 15;have HI14:=hid (show InAt (w13.setCells g 15 (vecV vV).toList) q s12 e12 from Blk.keep HI13.out kS14 (fun h=>NU.out h.symm));have HR14:=hid (HR13.out.keep kS14 (fun h=>NUR.out h.symm));have HK14:=hid (zaz HK13.out kS14 (fun k hk=>by rw[hk];exact GU.out));have HS14:=HS13;have hs14':=hs13';have HE14:=hid (zy HE13.out kS14 (fun g hg hq=>zN HE13.out HU13.out (by decide) (by rw[←hq];exact hg)));clear HI13 HR13 HU13 HK13 HE13 kS14 hs13' hle h1V
  generalize w13.setCells g 15 (vecV vV).toList=w14 at HI14 HR14 HU14 HK14 HE14⊢;go_wp2_with fail
  refine((HT _ _ _ HI14.out hs14').out).mono ?_;rintro en w15 ⟨t15,s15,e15,rfl,ht15,k15,h15,hs15,r15⟩;have HI15:=hid h15;have HR15:=hid (HR14.out.keep k15 NR.out);have HU15:=hid (HU14.out.keep k15 NU.out);have HK15:=hid (HK14.out.trans k15);have R15:=hid r15;have hs15':s15.size≤65536:=by omega
  have HS15:=hid (Nat.le_trans hs15 HS14.out);have HE15:=hid (zy HE14.out k15 (fun g hg hq=>zN HE14.out HI14.out (by decide) (by rw[←hq];exact hg)));have ht15':t15.size≤65536:=by omega
  clear ht15;clear HI14 HR14 HU14 HK14 HE14 k15 h15 r15 hs15 hs14';go_wp2_with fail
  refine((HGv _ _ ht15').out).mono ?_;rintro en w16 ⟨vA,zvA,rfl,hlA,hinA,x16,hbA⟩;have HI16:=hid (HI15.out.ext x16);have HR16:=hid (HR15.out.ext x16);have HU16:=hid (HU15.out.ext x16);have HK16:=hid (HK15.out.ext x16);have HS16:=HS15;have hs16':=hs15';have HE16:=hid (zF HE15.out x16);have HLA:=hid hlA;have HINA:=hid hinA;have BVA:=hid hbA;have hzA:=hid (zbF hlA);clear HI15 HR15 HU15 HK15 HE15 x16 hlA hinA hbA ht15'
  try clear hs15'
  have hle:Hid (80+(vecV vA).toList.length≤(MsgC.mk z y1 y2 y3 a4 b4 c4 false nilS nilS nilS nilS z5 ((z8:Int)==1) ⟨sh1,sh2,sh3⟩ vV vec0 nilS 0 HLV.out zi).arr.size):=by unfold Hid;rw[Array.length_toList,hzA.out,zJ];omega
  have h1V:Hid (∀ u∈(vecV vA).toList,u.oneCell'=true):=fun u hu=>Array.all_eq_true_iff_forall_mem.1 (zaw vA) u (Array.mem_toList_iff.1 hu);go_wp2_with fail
  simp only[Tryz.sizeOf33,Result.andThen];rw[if_neg (show ¬ (65:Nat)=0 by omega)];dsimp only;rw[Oper.upon_value];go_wp2_with fail
  simp only[Tryz.sizeOf33,Result.andThen,↓reduceIte,hzA.out,zar HU16.out hle.out h1V.out];rw[Oper.upon_skip];have HU17:Hid (Blk (w16.setCells g 80 (vecV vA).toList) g 36 (MsgC.mk z y1 y2 y3 a4 b4 c4 false nilS nilS nilS nilS z5 ((z8:Int)==1) ⟨sh1,sh2,sh3⟩ vV vA nilS 0 HLV.out HLA.out).arr):=by
   have h9:=HU16.out.setCells ((vecV vA).toList) 80 hle.out;rw[set_AA (MsgC.mk z y1 y2 y3 a4 b4 c4 false nilS nilS nilS nilS z5 ((z8:Int)==1) ⟨sh1,sh2,sh3⟩ vV vec0 nilS 0 HLV.out zi) (MsgC.mk z y1 y2 y3 a4 b4 c4 false nilS nilS nilS nilS z5 ((z8:Int)==1) ⟨sh1,sh2,sh3⟩ vV vA nilS 0 HLV.out HLA.out) vA HLA.out rfl rfl rfl rfl rfl] at h9;exact h9
  have kS17:Keep (fun k=>k=g) w16 (w16.setCells g 80 (vecV vA).toList):=Keep.setCells (S:=fun q=>q=g) (.inl rfl) ((vecV vA).toList) (Keep.refl _ w16) 80;have HI17:=hid (show InAt (w16.setCells g 80 (vecV vA).toList) q s15 e15 from Blk.keep HI16.out kS17 (fun h=>NU.out h.symm));have HR17:=hid (HR16.out.keep kS17 (fun h=>NUR.out h.symm));have HK17:=hid (zaz HK16.out kS17 (fun k hk=>by rw[hk];exact GU.out));have HS17:=HS16;have hs17':=hs16';have HE17:=hid (zy HE16.out kS17 (fun g hg hq=>zN HE16.out HU16.out (by decide) (by rw[←hq];exact hg)));clear HI16 HR16 HU16 HK16 HE16 kS17 hs16' hle h1V
  generalize w16.setCells g 80 (vecV vA).toList=w17 at HI17 HR17 HU17 HK17 HE17⊢;go_wp2_with fail
  refine((HT _ _ _ HI17.out hs17').out).mono ?_;rintro en w18 ⟨t18,s18,e18,rfl,ht18,k18,h18,hs18,r18⟩;have HI18:=hid h18;have HR18:=hid (HR17.out.keep k18 NR.out);have HU18:=hid (HU17.out.keep k18 NU.out);have HK18:=hid (HK17.out.trans k18);have R18:=hid r18;have hs18':s18.size≤65536:=by omega
  have HS18:=hid (Nat.le_trans hs18 HS17.out);have HE18:=hid (zy HE17.out k18 (fun g hg hq=>zN HE17.out HI17.out (by decide) (by rw[←hq];exact hg)));have ht18':t18.size≤65536:=by omega
  clear ht18;clear HI17 HR17 HU17 HK17 HE17 k18 h18 r18 hs18 hs17';go_wp2_with fail
  refine((HGi _ _ ht18').out).mono ?_;rintro en w19 ⟨sn,ln,zn,rfl,hrn,hgn,hln,x19,hbn⟩;have HI19:=hid (HI18.out.ext x19);have HR19:=hid (HR18.out.ext x19);have HU19:=hid (HU18.out.ext x19);have HK19:=hid (HK18.out.ext x19);have HS19:=HS18;have hs19':=hs18';have HE19:=hid (zF HE18.out x19);have HN919:=hid hrn;have HGN:=hid hgn;have HLN:=hid hln;have BN:=hid hbn;clear HI18 HR18 HU18 HK18 HE18 x19 hrn hgn hln hbn ht18'
  try clear hs18'
  have cnot:=HU19.out.cell (i:=145) (v:=.slice none 0 0) (by rw[show(145:Nat)=145+0 from rfl,zab];rfl);have fnot:=HU19.out.frozen 145;have lu:=HU19.out.lt;go_wp2_with fail
  have HU20:Hid (Blk ((w19.setCell ⟨g,145,none⟩ (.slice sn.a sn.n sn.c))) g 36 (MsgC.mk z y1 y2 y3 a4 b4 c4 false nilS nilS nilS nilS z5 ((z8:Int)==1) ⟨sh1,sh2,sh3⟩ vV vA sn 0 HLV.out HLA.out).arr):=by
   have h9:=HU19.out.setCells ([.slice sn.a sn.n sn.c]) 145 (by rw[zJ];show 145+1≤147;omega);rw[set_NN (MsgC.mk z y1 y2 y3 a4 b4 c4 false nilS nilS nilS nilS z5 ((z8:Int)==1) ⟨sh1,sh2,sh3⟩ vV vA nilS 0 HLV.out HLA.out) (MsgC.mk z y1 y2 y3 a4 b4 c4 false nilS nilS nilS nilS z5 ((z8:Int)==1) ⟨sh1,sh2,sh3⟩ vV vA sn 0 HLV.out HLA.out) (.slice sn.a sn.n sn.c) rfl rfl rfl rfl rfl] at h9;exact h9
  have kS20:Keep (fun k=>k=g) w19 ((w19.setCell ⟨g,145,none⟩ (.slice sn.a sn.n sn.c))):=Keep.setCells (S:=fun q=>q=g) (.inl rfl) ([.slice sn.a sn.n sn.c]) (Keep.refl _ w19) 145;have HI20:=hid (show InAt ((w19.setCell ⟨g,145,none⟩ (.slice sn.a sn.n sn.c))) q s18 e18 from Blk.keep HI19.out kS20 (fun h=>NU.out h.symm));have HR20:=hid (HR19.out.keep kS20 (fun h=>NUR.out h.symm));have HK20:=hid (zaz HK19.out kS20 (fun k hk=>by rw[hk];exact GU.out));have HS20:=HS19;have hs20':=hs19';have HE20:=hid (zy HE19.out kS20 (fun g hg hq=>zN HE19.out HU19.out (by decide) (by rw[←hq];exact hg)))
  have HN920:=hid (zy HN919.out kS20 (fun g hg hq=>zN HN919.out HU19.out (by decide) (by rw[←hq];exact hg)));clear HI19 HR19 HU19 HK19 HE19 HN919 kS20 hs19';clear cnot fnot lu;generalize (w19.setCell ⟨g,145,none⟩ (.slice sn.a sn.n sn.c))=w20 at HI20 HR20 HU20 HK20 HE20 HN920⊢;obtain⟨X,hX⟩:∃ X,(MsgC.mk z y1 y2 y3 a4 b4 c4 false nilS nilS nilS nilS z5 ((z8:Int)==1) ⟨sh1,sh2,sh3⟩ vV vA sn 0 HLV.out HLA.out).arr=X:=⟨_,rfl⟩
  have hz9:=hid (zJ (MsgC.mk z y1 y2 y3 a4 b4 c4 false nilS nilS nilS nilS z5 ((z8:Int)==1) ⟨sh1,sh2,sh3⟩ vV vA sn 0 HLV.out HLA.out));have ho9:=hid (zan (MsgC.mk z y1 y2 y3 a4 b4 c4 false nilS nilS nilS nilS z5 ((z8:Int)==1) ⟨sh1,sh2,sh3⟩ vV vA sn 0 HLV.out HLA.out));have HXe:=hid hX;rw[hX] at HU20 hz9 ho9;clear hX;go_wp2_with fail
  simp only[Tryz.isAgg36,Tryz.sizeOf36,Result.andThen,↓reduceIte,za HU20.out 147 hz9.out];rw[Oper.upon_value];go_wp2_with fail
  simp only[Tryz.sizeOf36,Result.andThen,↓reduceIte,zg HR20.out (by rw[hz9.out];exact zK) (by rw[hz9.out,HZ.out]) ho9.out,hz9.out];rw[Oper.upon_skip];go_wp2_with fail
  have HF:=hid (HR20.out.setRow X);have kR:Keep (fun g=>g=w.heap.size) w20 _:=Keep.setRow (S:=fun g=>g=w.heap.size) (Keep.refl _ w20) (.inl rfl) X;have HKf:=hid (Keep.setRow (S:=fun g=>g=q) HK20.out (.inr (Nat.le_refl _)) X);have HEf:=hid (zy HE20.out kR (fun g hg hq=>zN HE20.out HR20.out (by decide) (by rw[←hq];exact hg)));have HN9f:=hid (zy HN920.out kR (fun g hg hq=>zN HN920.out HR20.out (by decide) (by rw[←hq];exact hg)))
  refine bodyPost_ret (results_cell_row rfl _ _ w.heap.size 36 _ (0,0) _ rfl HF.out Tryz.underlying36 rfl (by rw[hz9.out];exact zK)) rfl ⟨⟨nilS,nilS,nilS,nilS,⟨sh1,sh2,sh3⟩,sn⟩,⟨z,y1,y2,y3,a4,b4,c4,false,[],⟨[],[]⟩,[],z5,((z8:Int)==1),le,vV,vA,ln,0,HLV.out,HLA.out⟩,by rw[←HXe.out];rfl,⟨zw _ _ _ _,KnowT.nil _,zw _ _ _ _,HEf.out,HN9f.out⟩,?_,zb6,HKf.out,?_⟩
  ·exact⟨zgr,zfI,Nat.zero_le _,HGE.out,Nat.le_trans HLE.out (by decide),HINV.out,HINA.out,fun c hc=>zcs (HGN.out c hc),Nat.le_trans HLN.out (by decide),zX Hz.out,⟨zX HY.out.1,zX HY.out.2.1,zX HY.out.2.2⟩,⟨zX Z4.out.1,zX Z4.out.2.1,zX Z4.out.2.2⟩,zX Z5.out,zaZ,zgq⟩
  ·intro m0 hok hl hg a0 hs0
   exact back2 hok hl a0 hs0 R2.out RY.out R4.out R5.out R8.out R10.out R12.out R15.out R18.out (fun u x1 x2 x3 x4=>(BVV.out u x1 x2 x3 x4).2) (fun u x1 x2 x3 x4=>(BVA.out u x1 x2 x3 x4).2) (fun f x1 x2 x3 x4=>(BN.out f x1 x2 x3 x4).2) H2.out
 have d2:((z:Int)==2)=false:=by
  have:¬ (z:Int)=2:=by omega
  simpa using this
 clear HGf HGk HPp HGv HGi HPe HT;by_cases h3:z=3
 ·have d3:((z:Int)==3)=true:=by rw[h3];rfl
  have H3:=hid h3;clear h1 h2 h3 HN;go_wp2_with fail
  refine((HSd _ _ _ HI3.out hs3').out).mono ?_;rintro en w4 ⟨a4,b4,c4,s4,e4,rfl,hx4,hy4,hz4,k4,h4,hs4,r4⟩;have HI4:=hid h4;have HR4:=hid (HR3.out.keep k4 NR.out);have HU4:=hid (HU3.out.keep k4 NU.out);have HK4:=hid (HK3.out.trans k4);have R4:=hid r4;have hs4':s4.size≤65536:=by omega
  have HS4:=hid (Nat.le_trans hs4 HS3.out);have Z4:=hid (And.intro hx4 (And.intro hy4 hz4));clear hx4 hy4 hz4;clear HI3 HR3 HU3 HK3  k4 h4 r4 hs4 hs3';have cr1:=HU4.out.cell (i:=4) (v:=.int .i64 0) (by rw[zT _ _ (by omega)];rfl);have fr1:=HU4.out.frozen 4;have cr2:=HU4.out.cell (i:=5) (v:=.int .i64 0) (by rw[zT _ _ (by omega)];rfl);have fr2:=HU4.out.frozen 5;have cr3:=HU4.out.cell (i:=6) (v:=.int .i64 0) (by rw[zT _ _ (by omega)];rfl);have fr3:=HU4.out.frozen 6;have lu:=HU4.out.lt;go_wp2_with fail
  have HU5:Hid (Blk ((((w4.setCell ⟨g,4,none⟩ (.int .i64 a4)).setCell ⟨g,5,none⟩ (.int .i64 b4)).setCell ⟨g,6,none⟩ (.int .i64 c4))) g 36 (MsgC.mk z y1 y2 y3 a4 b4 c4 false nilS nilS nilS nilS 0 false nilS vec0 vec0 nilS 0 zi zi).arr):=by
   have h9:=HU4.out.setCells ([.int .i64 a4,.int .i64 b4,.int .i64 c4]) 4 (by rw[zJ];show 4+3≤147;omega);rw[zcW (MsgC.mk z y1 y2 y3 0 0 0 false nilS nilS nilS nilS 0 false nilS vec0 vec0 nilS 0 zi zi) (MsgC.mk z y1 y2 y3 a4 b4 c4 false nilS nilS nilS nilS 0 false nilS vec0 vec0 nilS 0 zi zi) 4 [.int .i64 a4,.int .i64 b4,.int .i64 c4] (by show 4+3≤15;omega) rfl rfl] at h9;exact h9
  have kS5:Keep (fun k=>k=g) w4 ((((w4.setCell ⟨g,4,none⟩ (.int .i64 a4)).setCell ⟨g,5,none⟩ (.int .i64 b4)).setCell ⟨g,6,none⟩ (.int .i64 c4))):=Keep.setCells (S:=fun q=>q=g) (.inl rfl) ([.int .i64 a4,.int .i64 b4,.int .i64 c4]) (Keep.refl _ w4) 4;have HI5:=hid (show InAt ((((w4.setCell ⟨g,4,none⟩ (.int .i64 a4)).setCell ⟨g,5,none⟩ (.int .i64 b4)).setCell ⟨g,6,none⟩ (.int .i64 c4))) q s4 e4 from Blk.keep HI4.out kS5 (fun h=>NU.out h.symm));have HR5:=hid (HR4.out.keep kS5 (fun h=>NUR.out h.symm));have HK5:=hid (zaz HK4.out kS5 (fun k hk=>by rw[hk];exact GU.out));have HS5:=HS4;have hs5':=hs4';clear HI4 HR4 HU4 HK4  kS5 hs4'
  clear cr1 fr1 cr2 fr2 cr3 fr3 lu;generalize (((w4.setCell ⟨g,4,none⟩ (.int .i64 a4)).setCell ⟨g,5,none⟩ (.int .i64 b4)).setCell ⟨g,6,none⟩ (.int .i64 c4))=w5 at HI5 HR5 HU5 HK5  ⊢;obtain⟨X,hX⟩:∃ X,(MsgC.mk z y1 y2 y3 a4 b4 c4 false nilS nilS nilS nilS 0 false nilS vec0 vec0 nilS 0 zi zi).arr=X:=⟨_,rfl⟩
  have hz9:=hid (zJ (MsgC.mk z y1 y2 y3 a4 b4 c4 false nilS nilS nilS nilS 0 false nilS vec0 vec0 nilS 0 zi zi));have ho9:=hid (zan (MsgC.mk z y1 y2 y3 a4 b4 c4 false nilS nilS nilS nilS 0 false nilS vec0 vec0 nilS 0 zi zi));have HXe:=hid hX;rw[hX] at HU5 hz9 ho9;clear hX;go_wp2_with fail
  simp only[Tryz.isAgg36,Tryz.sizeOf36,Result.andThen,↓reduceIte,za HU5.out 147 hz9.out];rw[Oper.upon_value];go_wp2_with fail
  simp only[Tryz.sizeOf36,Result.andThen,↓reduceIte,zg HR5.out (by rw[hz9.out];exact zK) (by rw[hz9.out,HZ.out]) ho9.out,hz9.out];rw[Oper.upon_skip];go_wp2_with fail
  have HF:=hid (HR5.out.setRow X);have kR:Keep (fun g=>g=w.heap.size) w5 _:=Keep.setRow (S:=fun g=>g=w.heap.size) (Keep.refl _ w5) (.inl rfl) X;have HKf:=hid (Keep.setRow (S:=fun g=>g=q) HK5.out (.inr (Nat.le_refl _)) X);refine bodyPost_ret (results_cell_row rfl _ _ w.heap.size 36 _ (0,0) _ rfl HF.out Tryz.underlying36 rfl (by rw[hz9.out];exact zK)) rfl ⟨⟨nilS,nilS,nilS,nilS,nilS,nilS⟩,⟨z,y1,y2,y3,a4,b4,c4,false,[],⟨[],[]⟩,[],0,false,[],vec0,vec0,[],0,zi,zi⟩,by rw[←HXe.out];rfl,⟨zw _ _ _ _,KnowT.nil _,zw _ _ _ _,zw _ _ _ _,zw _ _ _ _⟩,?_,zb6,HKf.out,?_⟩
  ·exact⟨zgr,zfI,Nat.zero_le _,zgs,Nat.zero_le _,zbc,zbc,zgp,Nat.zero_le _,zX Hz.out,⟨zX HY.out.1,zX HY.out.2.1,zX HY.out.2.2⟩,⟨zX Z4.out.1,zX Z4.out.2.1,zX Z4.out.2.2⟩,zaZ,zaZ,zgq⟩
  ·intro m0 hok hl hg a0 hs0
   exact back3 hok hl a0 hs0 R2.out RY.out R4.out H3.out
 have d3:((z:Int)==3)=false:=by
  have:¬ (z:Int)=3:=by omega
  simpa using this
 clear HSd;by_cases h4:z=4
 ·have d4:((z:Int)==4)=true:=by rw[h4];rfl
  have H4:=hid h4;clear h1 h2 h3 h4;go_wp2_with fail
  refine((HN _ _ _ HI3.out hs3').out).mono ?_;rintro en w4 ⟨z4,s4,e4,rfl,hz4,k4,h4,hs4,r4⟩;have HI4:=hid h4;have HR4:=hid (HR3.out.keep k4 NR.out);have HU4:=hid (HU3.out.keep k4 NU.out);have HK4:=hid (HK3.out.trans k4);have R4:=hid r4;have hs4':s4.size≤65536:=by omega
  have HS4:=hid (Nat.le_trans hs4 HS3.out);have Z4:=hid hz4;clear hz4;clear HI3 HR3 HU3 HK3  k4 h4 r4 hs4 hs3';have ccode:=HU4.out.cell (i:=146) (v:=.int .i64 0) (by rw[show(146:Nat)=145+1 from rfl,zab];rfl);have fcode:=HU4.out.frozen 146;have lu:=HU4.out.lt;go_wp2_with fail
  have HU5:Hid (Blk ((w4.setCell ⟨g,146,none⟩ (.int .i64 z4))) g 36 (MsgC.mk z y1 y2 y3 0 0 0 false nilS nilS nilS nilS 0 false nilS vec0 vec0 nilS z4 zi zi).arr):=by
   have h9:=HU4.out.setCells ([.int .i64 z4]) 146 (by rw[zJ];show 146+1≤147;omega);rw[set_CC (MsgC.mk z y1 y2 y3 0 0 0 false nilS nilS nilS nilS 0 false nilS vec0 vec0 nilS 0 zi zi) (MsgC.mk z y1 y2 y3 0 0 0 false nilS nilS nilS nilS 0 false nilS vec0 vec0 nilS z4 zi zi) (.int .i64 z4) rfl rfl rfl rfl rfl] at h9;exact h9
  have kS5:Keep (fun k=>k=g) w4 ((w4.setCell ⟨g,146,none⟩ (.int .i64 z4))):=Keep.setCells (S:=fun q=>q=g) (.inl rfl) ([.int .i64 z4]) (Keep.refl _ w4) 146;have HI5:=hid (show InAt ((w4.setCell ⟨g,146,none⟩ (.int .i64 z4))) q s4 e4 from Blk.keep HI4.out kS5 (fun h=>NU.out h.symm));have HR5:=hid (HR4.out.keep kS5 (fun h=>NUR.out h.symm));have HK5:=hid (zaz HK4.out kS5 (fun k hk=>by rw[hk];exact GU.out));have HS5:=HS4;have hs5':=hs4';clear HI4 HR4 HU4 HK4  kS5 hs4';clear ccode fcode lu;generalize (w4.setCell ⟨g,146,none⟩ (.int .i64 z4))=w5 at HI5 HR5 HU5 HK5  ⊢
  obtain⟨X,hX⟩:∃ X,(MsgC.mk z y1 y2 y3 0 0 0 false nilS nilS nilS nilS 0 false nilS vec0 vec0 nilS z4 zi zi).arr=X:=⟨_,rfl⟩
  have hz9:=hid (zJ (MsgC.mk z y1 y2 y3 0 0 0 false nilS nilS nilS nilS 0 false nilS vec0 vec0 nilS z4 zi zi));have ho9:=hid (zan (MsgC.mk z y1 y2 y3 0 0 0 false nilS nilS nilS nilS 0 false nilS vec0 vec0 nilS z4 zi zi));have HXe:=hid hX;rw[hX] at HU5 hz9 ho9;clear hX;go_wp2_with fail
  simp only[Tryz.isAgg36,Tryz.sizeOf36,Result.andThen,↓reduceIte,za HU5.out 147 hz9.out];rw[Oper.upon_value];go_wp2_with fail
  simp only[Tryz.sizeOf36,Result.andThen,↓reduceIte,zg HR5.out (by rw[hz9.out];exact zK) (by rw[hz9.out,HZ.out]) ho9.out,hz9.out];rw[Oper.upon_skip];go_wp2_with fail
  have HF:=hid (HR5.out.setRow X);have kR:Keep (fun g=>g=w.heap.size) w5 _:=Keep.setRow (S:=fun g=>g=w.heap.size) (Keep.refl _ w5) (.inl rfl) X;have HKf:=hid (Keep.setRow (S:=fun g=>g=q) HK5.out (.inr (Nat.le_refl _)) X);refine bodyPost_ret (results_cell_row rfl _ _ w.heap.size 36 _ (0,0) _ rfl HF.out Tryz.underlying36 rfl (by rw[hz9.out];exact zK)) rfl ⟨⟨nilS,nilS,nilS,nilS,nilS,nilS⟩,⟨z,y1,y2,y3,0,0,0,false,[],⟨[],[]⟩,[],0,false,[],vec0,vec0,[],z4,zi,zi⟩,by rw[←HXe.out];rfl,⟨zw _ _ _ _,KnowT.nil _,zw _ _ _ _,zw _ _ _ _,zw _ _ _ _⟩,?_,zb6,HKf.out,?_⟩
  ·exact⟨zgr,zfI,Nat.zero_le _,zgs,Nat.zero_le _,zbc,zbc,zgp,Nat.zero_le _,zX Hz.out,⟨zX HY.out.1,zX HY.out.2.1,zX HY.out.2.2⟩,zhz,zaZ,zX Z4.out,zgq⟩
  ·intro m0 hok hl hg a0 hs0
   exact back4 hok hl a0 hs0 R2.out RY.out R4.out H4.out
 have d4:((z:Int)==4)=false:=by
  have:¬ (z:Int)=4:=by omega
  simpa using this
 have H0:Hid (¬ z=1∧¬ z=2∧¬ z=3∧¬ z=4):=⟨h1,h2,h3,h4⟩
 clear h1 h2 h3 h4 HN;obtain⟨X,hX⟩:∃ X,(MsgC.mk z y1 y2 y3 0 0 0 false nilS nilS nilS nilS 0 false nilS vec0 vec0 nilS 0 zi zi).arr=X:=⟨_,rfl⟩
 have hz9:=hid (zJ (MsgC.mk z y1 y2 y3 0 0 0 false nilS nilS nilS nilS 0 false nilS vec0 vec0 nilS 0 zi zi));have ho9:=hid (zan (MsgC.mk z y1 y2 y3 0 0 0 false nilS nilS nilS nilS 0 false nilS vec0 vec0 nilS 0 zi zi));have HXe:=hid hX;rw[hX] at HU3 hz9 ho9;clear hX;go_wp2_with fail
 simp only[Tryz.isAgg36,Tryz.sizeOf36,Result.andThen,↓reduceIte,za HU3.out 147 hz9.out];rw[Oper.upon_value];go_wp2_with fail
 simp only[Tryz.sizeOf36,Result.andThen,↓reduceIte,zg HR3.out (by rw[hz9.out];exact zK) (by rw[hz9.out,HZ.out]) ho9.out,hz9.out];rw[Oper.upon_skip];go_wp2_with fail
 have HF:=hid (HR3.out.setRow X);have kR:Keep (fun g=>g=w.heap.size) w3 _:=Keep.setRow (S:=fun g=>g=w.heap.size) (Keep.refl _ w3) (.inl rfl) X;have HKf:=hid (Keep.setRow (S:=fun g=>g=q) HK3.out (.inr (Nat.le_refl _)) X);refine bodyPost_ret (results_cell_row rfl _ _ w.heap.size 36 _ (0,0) _ rfl HF.out Tryz.underlying36 rfl (by rw[hz9.out];exact zK)) rfl ⟨⟨nilS,nilS,nilS,nilS,nilS,nilS⟩,⟨z,y1,y2,y3,0,0,0,false,[],⟨[],[]⟩,[],0,false,[],vec0,vec0,[],0,zi,zi⟩,by rw[←HXe.out];rfl,⟨zw _ _ _ _,KnowT.nil _,zw _ _ _ _,zw _ _ _ _,zw _ _ _ _⟩,?_,zb6,HKf.out,?_⟩
 ·exact⟨zgr,zfI,Nat.zero_le _,zgs,Nat.zero_le _,zbc,zbc,zgp,Nat.zero_le _,zX Hz.out,⟨zX HY.out.1,zX HY.out.2.1,zX HY.out.2.2⟩,zhz,zaZ,zaZ,zgq⟩
 ·intro m0 hok hl hg a0 hs0
  exact(back0 hok hl a0 hs0 R2.out H0.out).elim
end
section
open Go.RowKit
theorem MsgT.ext {w w':World} {S:SlM} {m:MsgI} (h:MsgT w S m) (he:Ext w w'):MsgT w' S m:=⟨zF h.f he,h.k.ext he,zF h.held he,zF h.ents he,zF h.not he⟩
theorem MsgT.keepMsg {w w':World} {S:SlM} {m:MsgI} {q:Nat} {cs:Array Value} (h:MsgT w S m) (hb:Blk w q 36 cs) (hk:Keep (fun g=>g=q) w w'):MsgT w' S m:=
 ⟨zy h.f hk (fun g hg hq=>zN h.f hb (by decide) (by rw[←hq];exact hg)),h.k.keepBlk hb (by decide) (by decide) (by decide) (by decide) hk,zy h.held hk (fun g hg hq=>zN h.held hb (by decide) (by rw[←hq];exact hg)),zy h.ents hk (fun g hg hq=>zN h.ents hb (by decide) (by rw[←hq];exact hg)),zy h.not hk (fun g hg hq=>zN h.not hb (by decide) (by rw[←hq];exact hg))⟩
theorem zjd (w:World):MsgT w slM0 msg0:=⟨zw _ _ _ _,KnowT.nil _,zw _ _ _ _,zw _ _ _ _,zw _ _ _ _⟩
theorem zjY:MsgOk msg0:=⟨zgr,zfI,Nat.zero_le _,zgs,Nat.zero_le _,zbc,zbc,zgp,Nat.zero_le _,zaZ,zhz,zhz,zaZ,zaZ,zgq⟩
theorem zhm {b:List UInt8} (hb:b.length<9223372036854775808):zas (zaL b)=(b,(zaL b).length,0):=by
 have ht:zal (zaL b)=(0,b,crcF b):=ziK b (crcF b) hb;have hc:chk0 b (crcF b)=0:=by
  unfold chk0;rw[zep,if_neg (by omega),List.take_of_length_le (by rw[zep];omega),if_pos rfl]
 unfold zas;rw[ht];dsimp only;rw[hc,if_neg (by simp),if_neg (by simp),zep,zdW]
 congr 2
theorem zkX (s:List UInt8):(zas s).1.length≤s.length:=by
 unfold zas
 split
 ·simp
 ·split
  ·simp
  ·exact(zew s).2
theorem zjt (s:List UInt8) (h:(zas s).2.2=0):0<(zas s).2.1:=by
 unfold zas at h⊢;by_cases h1:(zal s).1≠0
 ·rw[if_pos h1] at h;exact absurd h h1
 ·rw[if_neg h1] at h⊢
  by_cases h2:chk0 (zal s).2.1 (zal s).2.2≠0
  ·rw[if_pos h2] at h;exact absurd h h2
  ·rw[if_neg h2];show 0<_+4;omega
def GetQ (w:World) (s:ByteArray) (en:Ending) (w':World):Prop:=∃ (S:SlM) (m:MsgI) (z:Int),en=.returned (.tuple #[.agg (m.at S).arr,.int .i64 z])∧MsgAt w' S m∧MsgOk m∧KnowG m.k∧Ext w w'∧(z=0→layB m=true∧putZ m=0∧putM m=s)∧(z≠0→m=msg0∧z=if(zas s.data.toList).2.2=0 then 6 else(zas s.data.toList).2.2)∧(∀ m0:MsgI,MsgOk m0→layB m0=true→KnowG m0.k→putZ m0=0→s=putM m0→z=0∧m=m0)
theorem zgl {m0:MsgI} (h1:layB m0=true) (h2:putZ m0=0):putM m0=⟨(zaL (encL (partsF m0))).toArray⟩∧(encL (partsF m0)).length≤65536:=by
 unfold putZ at h2;rw[if_pos h1] at h2;by_cases h3:fszN (zao m0)≤65536
 ·unfold putM
  rw[if_pos h1,if_pos h3];refine⟨rfl,?_⟩;unfold fszN at h3;have:(zao m0).size=(encL (partsF m0)).length:=rfl;omega
 ·rw[if_neg h3] at h2;cases h2
attribute [-simp] Tryz.isAgg36 Tryz.sizeOf36
theorem zl3 (w:World) (s:ByteArray) (mx:Int) (hm:w.cell? ⟨0,0,none⟩=some (.int .i64 mx)) (hs:s.size≤65536):Calls Tryz.prog 8 #[.string s] w (GetQ w s):=by
 have HF:=fun W=>hid (first_c W s (by omega));have hb1:(⟨(zas s.data.toList).1.toArray⟩:ByteArray).size≤65536:=by
  have h1:=zkX s.data.toList;have h2:s.data.toList.length=s.size:=by rw[Array.length_toList];rfl
  show(zas s.data.toList).1.toArray.size≤_
  rw[List.size_toArray];omega
 have hfr:∀ m0:MsgI,layB m0=true→putZ m0=0→s=putM m0→(zas s.data.toList).2.2=0∧(zas s.data.toList).2.1=s.size∧(⟨(zas s.data.toList).1.toArray⟩:ByteArray)=zao m0:=fun m0 a1 a2 a3=>by
  obtain⟨b1,b2⟩:=zgl a1 a2;have e:s.data.toList=zaL (encL (partsF m0)):=by rw[a3,b1]
  have hl:s.data.toList.length=s.size:=by rw[Array.length_toList];rfl
  rw[e] at hl⊢;rw[zhm (by omega)];exact⟨rfl,hl,rfl⟩
 unfold zc9 at HF;have HQ:Hid (∀ en w',GetQ w s en w' = ∃ (S:SlM) (m:MsgI) (z:Int),en=.returned (.tuple #[.agg (m.at S).arr,.int .i64 z])∧MsgAt w' S m∧MsgOk m∧KnowG m.k∧Ext w w'∧(z=0→layB m=true∧putZ m=0∧putM m=s)∧(z≠0→m=msg0∧z=if(zas s.data.toList).2.2=0 then 6 else(zas s.data.toList).2.2)∧(∀ m0:MsgI,MsgOk m0→layB m0=true→KnowG m0.k→putZ m0=0→s=putM m0→z=0∧m=m0)):=fun _ _=>rfl;generalize hGQ:GetQ w s=GQ at HQ⊢;clear hGQ;generalize (⟨(zas s.data.toList).1.toArray⟩:ByteArray)=b at HF hb1 hfr;generalize (zas s.data.toList).2.1=n at HF hfr
 generalize (zas s.data.toList).2.2=z1 at HF hfr HQ;have HFr:=hid hfr;have HM:=hid hm;have HZ:=hid (zJ msgZ);have HZ1:=hid (zan msgZ);have HR0:=hid (Blk.new w 36 msgZ.arr);have HE0:=hid (Ext.alloc w (.cells msgZ.arr 36));have HSz:=hid hs;clear hm hfr hs;go_enter Tryz.func8,Tryz.ntmps8;go_wp2_with fail
 rw[zaH];generalize w.alloc (.cells msgZ.arr 36)=w1 at HR0 HE0⊢;refine((HF _).out).mono ?_;rintro en w2 ⟨rfl,x2⟩;have HR2:=hid (HR0.out.ext x2);have HE2:=hid (HE0.out.trans x2);clear x2 HR0 HE0 HF;by_cases h1:z1=0
 rotate_left
 ·have d1:(z1 != 0)=true:=by simpa using h1
  have H1:=hid h1;clear h1;go_wp2_with fail
  rw[zaH];simp only[Tryz.sizeOf36,Result.andThen,↓reduceIte,zg HR2.out (by rw[HZ.out];exact zK) (by first | rfl | rw[HZ.out,HZ.out]) HZ1.out,HZ.out];rw[Oper.upon_skip];go_wp2_with fail
  have HF:=hid (HR2.out.setRow msgZ.arr);have HEf:=hid (Ext.setRow HE2.out (Nat.le_refl _) msgZ.arr);refine bodyPost_ret (zu rfl _ _ w.heap.size 36 _ (0,0) _ rfl HF.out Tryz.underlying36 rfl (by rw[HZ.out];exact zK)) rfl ?_;rw[HQ.out];exact⟨slM0,msg0,z1,rfl,(zjd _).at,zjY,zb6,HEf.out,fun h=>absurd h H1.out,fun _=>⟨rfl,by rw[if_neg H1.out]⟩,fun m0 a1 a2 a3 a4 a5=>absurd (HFr.out m0 a2 a4 a5).1 H1.out⟩
 ·have d1:(z1 != 0)=false:=by rw[h1];rfl
  have H1:=hid h1;have HO:=fun W=>hid (zb3 W b);clear h1;go_wp2_with fail
  refine((HO _).out).mono ?_;rintro en w3 ⟨v,rfl,⟨q,rfl,hq,hI⟩,x3⟩;have hw0:=HR2.out.lt;have hq0:0<q:=by omega
  have HR3:=hid (HR2.out.ext x3);have HE3:=hid (HE2.out.trans x3);have HRd:=hid (mread_c w3 q b 0 mx (HE3.out.cell HM.out) hq0 hI hb1);have HQw:Hid (w.heap.size<q):=by unfold Hid;omega
  clear hw0 hq hI x3 hq0 HR2 HE2 HO;go_wp2_with fail
  refine(HRd.out).mono ?_;rintro en w4 ⟨S,m,rfl,hT,hok,hkg,k4,hbk⟩;have HR4:=hid (HR3.out.keep k4 (fun h=>by have:=HQw.out;omega));have HE4:=hid (Ext.of_below ((Keep.trans (Keep.of_ext (S:=fun g=>g=q) HE3.out) k4).below (Nat.le_refl _) fun k hk=>by have:=HQw.out;omega));have HT4:=hid hT;have HOk:=hid hok;have HKg:=hid hkg;have HBk:=hid hbk;have hz:=hid (zJ (m.at S));have ho:=hid (zan (m.at S));have HPut:=fun W (hW:Ext w W) (hA:MsgAt W S m)=>hid (zl2 W S m mx (hW.cell HM.out) hA hok);obtain⟨X,hX⟩:∃ X,(m.at S).arr=X:=⟨_,rfl⟩
  have HXe:=hid hX;rw[hX] at hz ho HPut⊢;clear hX hT hok hkg k4 hbk HR3 HE3 HRd;go_wp2_with fail
  rw[zaH];have HB3:=hid (Blk.new w4 36 msgZ.arr);simp only[Tryz.sizeOf36,Result.andThen,↓reduceIte,zg HB3.out (by rw[hz.out];exact zK) (by first | rfl | rw[hz.out,HZ.out]) ho.out,hz.out];rw[Oper.upon_skip];rw[World.setRow_alloc_new];have HR5:=hid (HR4.out.ext (Ext.alloc w4 (.cells X 36)));have HE5:=hid (HE4.out.alloc' (.cells X 36));have HT5:=hid (HT4.out.ext (Ext.alloc w4 (.cells X 36)));have HX5:=hid (Blk.new w4 36 X);clear HB3 HR4 HE4 HT4;generalize w4.alloc (.cells X 36)=w5 at HR5 HE5 HT5 HX5⊢;generalize w4.heap.size=g at HX5⊢;have lg:=HX5.out.lt;go_wp2_with fail
  simp only[Tryz.isAgg36,Tryz.sizeOf36,Result.andThen,↓reduceIte,za HX5.out 147 hz.out];rw[Oper.upon_value];go_wp2_with fail
  refine((HPut _ HE5.out HT5.out.at).out).mono ?_;rintro en w6 ⟨rfl,x6⟩;have HR6:=hid (HR5.out.ext x6);have HE6:=hid (HE5.out.trans x6);have HT6:=hid (HT5.out.ext x6);have HX6:=hid (HX5.out.ext x6);clear x6 HR5 HE5 HT5 HX5 HPut lg;have lg:=HX6.out.lt;by_cases hc:n=s.size∧putZ m=0∧putM m=s
  ·have d2:((n:Int) != (s.size:Int))=false:=by rw[hc.1];simp
   have d3:(putZ m != 0)=false:=by rw[hc.2.1];rfl
   have d4:((putM m).toList==s.toList)=true:=by rw[hc.2.2];simp
   have HC:=hid hc;have HLay:Hid (layB m=true):=by
    unfold Hid;have h2:=hc.2.1;unfold putZ at h2;cases hl:layB m with
    | true=>rfl
    | false=>rw[hl] at h2;cases h2
   clear hc;go_wp2_with fail
   simp only[Tryz.isAgg36,Tryz.sizeOf36,Result.andThen,↓reduceIte,za HX6.out 147 hz.out];rw[Oper.upon_value];go_wp2_with fail
   simp only[Tryz.sizeOf36,Result.andThen,↓reduceIte,zg HR6.out (by rw[hz.out];exact zK) (by first | rfl | rw[hz.out,HZ.out]) ho.out,hz.out];rw[Oper.upon_skip];go_wp2_with fail
   have HF:=hid (HR6.out.setRow X);have HEf:=hid (Ext.setRow HE6.out (Nat.le_refl _) X);have HTf:=hid (HT6.out.keepMsg HR6.out (Keep.setRow (S:=fun g=>g=w.heap.size) (Keep.refl _ w6) (.inl rfl) X));refine bodyPost_ret (zu rfl _ _ w.heap.size 36 _ (0,0) _ rfl HF.out Tryz.underlying36 rfl (by rw[hz.out];exact zK)) rfl ?_;rw[HQ.out];exact⟨S,m,0,by rw[HXe.out];rfl,HTf.out.at,HOk.out,HKg.out,HEf.out,fun _=>⟨HLay.out,HC.out.2.1,HC.out.2.2⟩,fun h=>absurd rfl h,fun m0 a1 a2 a3 a4 a5=>⟨rfl,HBk.out m0 a1 a2 a3 trivial (HFr.out m0 a2 a4 a5).2.2⟩⟩
  ·have HNo:Hid (∀ m0:MsgI,MsgOk m0→layB m0=true→KnowG m0.k→putZ m0=0→s=putM m0→False):=fun m0 a1 a2 a3 a4 a5=>by
    obtain⟨b1,b2,b3⟩:=HFr.out m0 a2 a4 a5;obtain rfl:=HBk.out m0 a1 a2 a3 trivial b3;exact hc ⟨b2,a4,a5.symm⟩
   have HEnd:∀ (en:Ending) (W:World),en=.returned (.tuple #[.agg msgZ.arr,.int .i64 6])→Hid (Ext w W)→Hid (GQ en W):=fun en W he hE=>by
    unfold Hid;subst he;rw[HQ.out];exact⟨slM0,msg0,6,rfl,(zjd _).at,zjY,zb6,hE.out,fun h=>absurd h (by decide),fun _=>⟨rfl,by rw[if_pos H1.out]⟩,fun m0 a1 a2 a3 a4 a5=>(HNo.out m0 a1 a2 a3 a4 a5).elim⟩
   by_cases c1:n=s.size
   ·have d2:((n:Int) != (s.size:Int))=false:=by rw[c1];simp
    by_cases c2:putZ m=0
    ·have c3:¬ putM m=s:=fun h=>hc ⟨c1,c2,h⟩
     have d3:(putZ m != 0)=false:=by rw[c2];rfl
     have d4:((putM m).toList==s.toList)=false:=by rw[zay];exact decide_eq_false c3
     clear hc c1 c2 c3;go_wp2_with fail
     rw[zaH];simp only[Tryz.sizeOf36,Result.andThen,↓reduceIte,zg HR6.out (by rw[HZ.out];exact zK) (by first | rfl | rw[HZ.out,HZ.out]) HZ1.out,HZ.out];rw[Oper.upon_skip];go_wp2_with fail
     have HF:=hid (HR6.out.setRow msgZ.arr);have HEf:=hid (Ext.setRow HE6.out (Nat.le_refl _) msgZ.arr);refine bodyPost_ret (zu rfl _ _ w.heap.size 36 _ (0,0) _ rfl HF.out Tryz.underlying36 rfl (by rw[HZ.out];exact zK)) rfl ?_;refine Hid.out (HEnd _ _ ?_ HEf);exact rfl
    ·have d3:(putZ m != 0)=true:=by simpa using c2
     clear hc c1 c2;go_wp2_with fail
     rw[zaH];simp only[Tryz.sizeOf36,Result.andThen,↓reduceIte,zg HR6.out (by rw[HZ.out];exact zK) (by first | rfl | rw[HZ.out,HZ.out]) HZ1.out,HZ.out];rw[Oper.upon_skip];go_wp2_with fail
     have HF:=hid (HR6.out.setRow msgZ.arr);have HEf:=hid (Ext.setRow HE6.out (Nat.le_refl _) msgZ.arr);refine bodyPost_ret (zu rfl _ _ w.heap.size 36 _ (0,0) _ rfl HF.out Tryz.underlying36 rfl (by rw[HZ.out];exact zK)) rfl ?_;refine Hid.out (HEnd _ _ ?_ HEf);exact rfl
   ·have d2:((n:Int) != (s.size:Int))=true:=by
     have:¬ (n:Int)=s.size:=by omega
     simpa using this
    clear hc c1;go_wp2_with fail
    rw[zaH];simp only[Tryz.sizeOf36,Result.andThen,↓reduceIte,zg HR6.out (by rw[HZ.out];exact zK) (by first | rfl | rw[HZ.out,HZ.out]) HZ1.out,HZ.out];rw[Oper.upon_skip];go_wp2_with fail
    have HF:=hid (HR6.out.setRow msgZ.arr);have HEf:=hid (Ext.setRow HE6.out (Nat.le_refl _) msgZ.arr);refine bodyPost_ret (zu rfl _ _ w.heap.size 36 _ (0,0) _ rfl HF.out Tryz.underlying36 rfl (by rw[HZ.out];exact zK)) rfl ?_;refine Hid.out (HEnd _ _ ?_ HEf);exact rfl
end
section
open Go.RowKit
theorem body_c (w:World) (S:SlM) (a:MsgI) (ha:MsgAt w S a) (hok:MsgOk a) (hl:layB a=true):Calls Tryz.prog 35 #[.agg (a.at S).arr] w (Ret (.string (zao a)) w):=by
 rcases rest_kind (zcd hl) with k | k | k | k
 ·exact body1_c w S a ha hok hl k
 ·exact body2_c w S a ha hok hl k
 ·exact body3_c w S a ha hok hl k
 ·exact body4_c w S a ha hok hl k
attribute [-simp] Tryz.isAgg36 Tryz.sizeOf36
theorem zlx (w:World) (S:SlM) (a:MsgI) (ha:MsgAt w S a) (hok:MsgOk a) (hl:layB a=true) (hp:putZ a=0):Calls Tryz.prog 10 #[.agg (a.at S).arr] w (Ret (.string (putM a)) w):=by
 obtain⟨e1,e2⟩:=zgl hl hp;have HBo:=fun W (hW:Ext w W)=>hid (body_c W S a (ha.ext hW) hok hl);have HO:=fun W=>hid (zhP W (zao a) (by show(encL (partsF a)).toArray.size≤100000;rw[List.size_toArray];omega));have he:(⟨(zaL (zao a).data.toList).toArray⟩:ByteArray)=putM a:=by rw[e1];rfl
 rw[he] at HO;have hz:=hid (zJ (a.at S));clear he e1 e2 hp hl ha hok;generalize putM a=pm at HO⊢;generalize zao a=bo at HBo HO;generalize (a.at S).arr=ar at HBo hz⊢;have HBa:=hid (Blk.new w 36 ar);have HX:=hid (Ext.alloc w (.cells ar 36));have la:=HBa.out.lt;go_enter Tryz.func10,Tryz.ntmps10;go_wp2_with fail
 simp only[Tryz.isAgg36,Tryz.sizeOf36,Result.andThen,↓reduceIte,za HBa.out 147 hz.out];rw[Oper.upon_value];go_wp2_with fail
 refine((HBo _ HX.out).out).mono ?_;rintro en w2 ⟨rfl,x2⟩;have HX2:=hid (HX.out.trans x2);clear x2;go_wp2_with fail
 refine((HO _).out).mono ?_;rintro en w3 ⟨rfl,x3⟩;have HX3:=hid (HX2.out.trans x3);clear x3;go_wp2_with fail
 go_ret;exact⟨rfl,HX3.out⟩
end
section
open Go.RowKit
def ackM:MsgI:=⟨3,1,1,1,2,1,1,false,[],⟨[],[]⟩,[],0,false,[],vec0,vec0,[],0,zi,zi⟩
theorem zfe:layB ackM=true:=by
 have h1:decide (ackM=zQ ackM)=true:=decide_eq_true rfl;have h2:sidB ackM.s1 ackM.s2 ackM.s3=true:=by decide
 have h3:zaY ackM=true:=by decide
 unfold layB;rw[h1,h2,h3];rfl
theorem zmI:MsgOk ackM:=⟨zgr,zfI,Nat.zero_le _,zgs,Nat.zero_le _,zbc,zbc,zgp,Nat.zero_le _,by unfold in64;decide,by unfold in64;decide,by unfold in64;decide,zaZ,zaZ,zgq⟩
theorem zeD {z:Int} (h:0≤z) (h2:z≤127):numB z=⟨#[UInt8.ofNat z.toNat]⟩:=by
 apply zd0;rw[zB h,zaF (by omega)]
theorem ziH:zao ackM=⟨#[3,1,1,1,2,1,1]⟩:=by
 rw[←zmD zfe rfl]
 show(numB 3++((numB 1++numB 1)++numB 1))++((numB 2++numB 1)++numB 1)=_
 rw[zeD (z:=3) (by decide) (by decide),zeD (z:=1) (by decide) (by decide),zeD (z:=2) (by decide) (by decide)];rfl
theorem ziG:(zao ackM).size≤65000:=by rw[ziH];decide
theorem ziF:putZ ackM=0:=zmd zfe ziG
theorem zkb:putM ackM=⟨(zaL (⟨#[3,1,1,1,2,1,1]⟩:ByteArray).data.toList).toArray⟩:=by rw[lay_one zfe ziG,ziH]
theorem ack_len:(putM ackM).size≤100:=by
 rw[zkb]
 show(zaL [3,1,1,1,2,1,1]).toArray.size≤100
 rw[List.size_toArray,zdW];rw[zaF (by decide)]
 decide
theorem zl1:msg0.at slM0=msgZ:=rfl
theorem zmK (w:World):MsgAt w slM0 ackM:=⟨Sl.nil w 3,⟨FragsAt.nil w,Sl.nil w 67⟩,Sl.nil w 4,Sl.nil w 21,Sl.nil w 2⟩
theorem ack_arr:(((((((Tryz.zeroCells36.setIfInBounds 0 (.int .i64 3)).setIfInBounds 1 (.int .i64 1)).setIfInBounds 2 (.int .i64 1)).setIfInBounds 3 (.int .i64 1)).setIfInBounds 4 (.int .i64 2)).setIfInBounds 5 (.int .i64 1)).setIfInBounds 6 (.int .i64 1))=(ackM.at slM0).arr:=by kernel_rfl
theorem zmJ:(((((((Tryz.zeroCells36.toList.set 0 (.int .i64 3)).set 1 (.int .i64 1)).set 2 (.int .i64 1)).set 3 (.int .i64 1)).set 4 (.int .i64 2)).set 5 (.int .i64 1)).set 6 (.int .i64 1))=(ackM.at slM0).arr.toList:=by kernel_rfl
attribute [-simp] Tryz.isAgg36 Tryz.sizeOf36
theorem zle (w:World) (mx:Int) (hm:w.cell? ⟨0,0,none⟩=some (.int .i64 mx)):Calls Tryz.prog 7 #[] w (Ret (.bool true) w):=by
 have HPu:=fun W (hW:Ext w W)=>hid (zl2 W slM0 ackM mx (hW.cell hm) (zmK W) zmI);have HGe:=fun W (hW:Ext w W)=>hid (zl3 W (putM ackM) mx (hW.cell hm) (by have:=ack_len;omega));have HOn:=fun W=>hid (zhP W ⟨#[3,1,1,1,2,1,1]⟩ (by decide));rw[←zkb] at HOn;rw[ziF] at HPu;have HSa:=fun W (S:SlM) (hS:MsgAt W S ackM)=>hid (zgh rfl hS (zmK W));have hbk:∀ (z:Int) (m:MsgI),(∀ m0:MsgI,MsgOk m0→layB m0=true→KnowG m0.k→putZ m0=0→putM ackM=putM m0→z=0∧m=m0)→z=0∧m=ackM:=fun z m h=>h ackM zmI zfe zb6 ziF rfl;have HBk:=hid hbk;clear hm hbk
 generalize putM ackM=s at HPu HGe HOn HBk;have hA:=ack_arr;have hL:=zmJ;have hz:=hid (zJ (ackM.at slM0));have ho:=hid (zan (ackM.at slM0));generalize (ackM.at slM0).arr=ar at HPu HSa hA hL hz ho;have HA:=hid hA;have HL:=hid hL;clear hA hL;have HZ:=hid (zJ msgZ);go_enter Tryz.func7,Tryz.ntmps7;go_wp2_with fail
 rw[HA.out,HL.out,zaH];have HB3:=hid (Blk.new (w.alloc (.cells #[.int .i64 1,.int .i64 1,.int .i64 1] 24)) 36 msgZ.arr);rw[World.size_alloc] at HB3;simp only[Tryz.sizeOf36,Result.andThen,↓reduceIte,zg HB3.out (by rw[hz.out];exact zK) (by first | rfl | rw[hz.out,HZ.out]) ho.out,hz.out];rw[Oper.upon_skip];have hset:=World.setRow_alloc_new (w.alloc (.cells #[.int .i64 1,.int .i64 1,.int .i64 1] 24)) msgZ.arr ar 36;rw[World.size_alloc] at hset;rw[hset];clear hset HB3;have HX1:=hid ((Ext.alloc w (.cells #[.int .i64 1,.int .i64 1,.int .i64 1] 24)).alloc' (.cells ar 36))
 have HB1:Hid (Blk ((w.alloc (.cells #[.int .i64 1,.int .i64 1,.int .i64 1] 24)).alloc (.cells ar 36)) (w.heap.size+1) 36 ar):=by
  have h:=Blk.new (w.alloc (.cells #[.int .i64 1,.int .i64 1,.int .i64 1] 24)) 36 ar;rw[World.size_alloc] at h;exact h
 generalize (w.alloc (.cells #[.int .i64 1,.int .i64 1,.int .i64 1] 24)).alloc (.cells ar 36)=w1 at HX1 HB1⊢;have la:=HB1.out.lt;go_wp2_with fail
 simp only[Tryz.isAgg36,Tryz.sizeOf36,Result.andThen,↓reduceIte,za HB1.out 147 hz.out];rw[Oper.upon_value];go_wp2_with fail
 refine((HPu _ HX1.out).out).mono ?_;rintro en w2 ⟨rfl,x2⟩;have HX2:=hid (HX1.out.trans x2);have HB2:=hid (HB1.out.ext x2);clear x2 HX1 HB1 la HPu;go_wp2_with fail
 refine((HGe _ HX2.out).out).mono ?_;rintro en w3 ⟨S,m,z,rfl,hma,-,-,x3,-,-,hbk⟩;obtain⟨rfl,rfl⟩:=HBk.out z m hbk;have HX3:=hid (HX2.out.trans x3);have HB3:=hid (HB2.out.ext x3);have HMa:=hid hma;have hg:w.heap.size+1≠w3.heap.size:=by have:=HB3.out.lt;omega
 have HG:=hid hg;have hz2:=hid (zJ (ackM.at S));have ho2:=hid (zan (ackM.at S));have HSa:=fun W (hW:Ext w3 W)=>HSa W S (HMa.out.ext hW);clear x3 hma hbk HX2 HB2 HGe HBk hg HMa;generalize (ackM.at S).arr=X at hz2 ho2 HSa⊢;go_wp2_with fail
 rw[zaH];have HC3:=hid (Blk.new w3 36 msgZ.arr);simp only[Tryz.sizeOf36,Result.andThen,↓reduceIte,zg HC3.out (by rw[hz2.out];exact zK) (by first | rfl | rw[hz2.out,HZ.out]) ho2.out,hz2.out];rw[Oper.upon_skip];rw[World.setRow_alloc_new];have HX4:=hid (HX3.out.alloc' (.cells X 36));have HY4:=hid (Ext.alloc w3 (.cells X 36));have HB4:=hid (HB3.out.ext (Ext.alloc w3 (.cells X 36)));have HC4:=hid (Blk.new w3 36 X);clear HC3 HX3 HB3 HG;generalize w3.alloc (.cells X 36)=w4 at HX4 HY4 HB4 HC4⊢;generalize w3.heap.size=g at HC4⊢;have hss:(s.toList==s.toList)=true:=by simp
 go_wp2_with fail
 refine((HOn _).out).mono ?_;rintro en w5 ⟨rfl,x5⟩;have HX5:=hid (HX4.out.trans x5);have HY5:=hid (HY4.out.trans x5);have HB5:=hid (HB4.out.ext x5);have HC5:=hid (HC4.out.ext x5);clear x5 HX4 HY4 HB4 HC4 HOn;have la:=HB5.out.lt;have lb:=HC5.out.lt;go_wp2_with fail
 simp only[Tryz.isAgg36,Tryz.sizeOf36,Result.andThen,↓reduceIte,za HC5.out 147 hz2.out];rw[Oper.upon_value];go_wp2_with fail
 simp only[Tryz.isAgg36,Tryz.sizeOf36,Result.andThen,↓reduceIte,za HB5.out 147 hz.out];rw[Oper.upon_value];go_wp2_with fail
 refine((HSa _ HY5.out).out).mono ?_;rintro en w6 ⟨rfl,x6⟩;have HX6:=hid (HX5.out.trans x6);clear x6 HX5 HY5 HB5 HC5 HSa la lb;go_wp2_with fail
 go_ret;exact⟨rfl,HX6.out⟩
end
section
open Go.RowKit
attribute [-simp] Tryz.isAgg36 Tryz.sizeOf36
theorem zkP (w:World) (s:ByteArray) (mx:Int) (hm:w.cell? ⟨0,0,none⟩=some (.int .i64 mx)):Calls Tryz.prog 3 #[.string s] w (Ret (.bool true) w):=by
 have HAw:=fun W (hW:Ext w W)=>hid (zle W mx (hW.cell hm));by_cases hbig:4000<s.size
 ·have d1:decide (4000<s.size)=true:=decide_eq_true hbig
  have d1':decide ((4000:Int)<s.size)=true:=decide_eq_true (by omega);clear hbig hm;go_enter Tryz.func3,Tryz.ntmps3;go_wp2_with fail
  refine((HAw _ (Ext.refl _)).out).mono ?_;rintro en w2 ⟨rfl,x2⟩;have HX2:=hid x2;clear x2;go_wp2_with fail
  go_ret;exact⟨rfl,HX2.out⟩
 have d1:decide (4000<s.size)=false:=decide_eq_false hbig;have d1':decide ((4000:Int)<s.size)=false:=decide_eq_false (by omega);have HGe:=hid (zl3 w s mx hm (by omega));have HFi:=fun W=>hid (ziW W s (by omega));unfold zc9 at HFi;have HPo:=hid (zjt s.data.toList);clear hbig hm;have HZ:=hid (zJ msgZ);go_enter Tryz.func3,Tryz.ntmps3;go_wp2_with fail
 refine(HGe.out).mono ?_;rintro en w2 ⟨S,m,z,rfl,hma,hmok,hkg,x2,hz0,hz1,-⟩;have HX2:=hid x2;have HMa:=hid hma;clear x2 hma HGe;have hz:=hid (zJ (m.at S));have ho:=hid (zan (m.at S));by_cases hz9:z=0
 ·obtain⟨hl,hp,hs⟩:=hz0 hz9
  have HRt:=fun W (hW:Ext w2 W)=>hid (zks W S m (HMa.out.ext hW) hmok (lay_le hl));have HPt:=fun W (hW:Ext w2 W)=>hid (zlx W S m (HMa.out.ext hW) hmok hl hp);rw[(lay_iff.1 hl).1] at HRt;rw[hs] at HPt;have hss:(s.toList==s.toList)=true:=by simp
  subst hz9;clear hz0 hz1 hl hp hs hmok hkg HPo HFi HMa;generalize (m.at S).arr=X at hz ho HRt HPt⊢;go_wp2_with fail
  rw[zaH];have HB3:=hid (Blk.new w2 36 msgZ.arr);simp only[Tryz.sizeOf36,Result.andThen,↓reduceIte,zg HB3.out (by rw[hz.out];exact zK) (by first | rfl | rw[hz.out,HZ.out]) ho.out,hz.out];rw[Oper.upon_skip];rw[World.setRow_alloc_new];have HX3:=hid (HX2.out.alloc' (.cells X 36));have HY3:=hid (Ext.alloc w2 (.cells X 36));have HB5:=hid (Blk.new w2 36 X);clear HB3 HX2;generalize w2.alloc (.cells X 36)=w3 at HX3 HY3 HB5⊢;generalize w2.heap.size=g at HB5⊢;go_wp2_with fail
  refine((HAw _ HX3.out).out).mono ?_;rintro en w4 ⟨rfl,x4⟩;have HX4:=hid (HX3.out.trans x4);have HY4:=hid (HY3.out.trans x4);have HB4:=hid (HB5.out.ext x4);clear x4 HX3 HY3 HB5 HAw;have lg:=HB4.out.lt;go_wp2_with fail
  simp only[Tryz.isAgg36,Tryz.sizeOf36,Result.andThen,↓reduceIte,za HB4.out 147 hz.out];rw[Oper.upon_value];go_wp2_with fail
  refine((HRt _ HY4.out).out).mono ?_;rintro en w5 ⟨rfl,x5⟩;have HX5:=hid (HX4.out.trans x5);have HY5:=hid (HY4.out.trans x5);have HB5:=hid (HB4.out.ext x5);clear x5 HX4 HY4 HB4 HRt lg;have lg:=HB5.out.lt;go_wp2_with fail
  simp only[Tryz.isAgg36,Tryz.sizeOf36,Result.andThen,↓reduceIte,za HB5.out 147 hz.out];rw[Oper.upon_value];go_wp2_with fail
  refine((HPt _ HY5.out).out).mono ?_;rintro en w6 ⟨rfl,x6⟩;have HX6:=hid (HX5.out.trans x6);clear x6 HX5 HY5 HB5 HPt lg;go_wp2_with fail
  go_ret;exact⟨rfl,HX6.out⟩
 ·obtain⟨rfl,hzv⟩:=hz1 hz9
  have e0:(z==0)=false:=by simpa using hz9
  have HSa:=fun W (hW:Ext w2 W)=>hid (zgh rfl (HMa.out.ext hW) (zjd W).at);rw[zl1] at HSa;clear hz0 hz1 hmok hkg HMa;generalize (msg0.at S).arr=X at hz ho HSa⊢;generalize (zas s.data.toList).1=b at HFi;generalize (zas s.data.toList).2.1=n at HFi HPo;generalize (zas s.data.toList).2.2=f at HFi hzv HPo;have HZv:=hid hzv;clear hzv hz9;go_wp2_with fail
  rw[zaH];have HB3:=hid (Blk.new w2 36 msgZ.arr);simp only[Tryz.sizeOf36,Result.andThen,↓reduceIte,zg HB3.out (by rw[hz.out];exact zK) (by first | rfl | rw[hz.out,HZ.out]) ho.out,hz.out];rw[Oper.upon_skip];rw[World.setRow_alloc_new];have HX3:=hid (HX2.out.alloc' (.cells X 36));have HY3:=hid (Ext.alloc w2 (.cells X 36));have HB5:=hid (Blk.new w2 36 X);clear HB3 HX2;generalize w2.alloc (.cells X 36)=w3 at HX3 HY3 HB5⊢;generalize w2.heap.size=g at HB5⊢;go_wp2_with fail
  refine((HFi _).out).mono ?_;rintro en w4 ⟨rfl,x4⟩;have HX4:=hid (HX3.out.trans x4);have HY4:=hid (HY3.out.trans x4);have HB4:=hid (HB5.out.ext x4);clear x4 HX3 HY3 HB5 HFi;by_cases hf:f=0
  ·subst hf
   have hn:decide ((0:Int)<n)=true:=decide_eq_true (by have:=HPo.out rfl;omega);have hn':decide (0<n)=true:=decide_eq_true (HPo.out rfl);obtain rfl:z=6:=by have:=HZv.out;rw[if_pos rfl] at this;exact this
   clear HZv HPo;go_wp2_with fail
   refine((HAw _ HX4.out).out).mono ?_;rintro en w5 ⟨rfl,x5⟩;have HX5:=hid (HX4.out.trans x5);have HY5:=hid (HY4.out.trans x5);have HB5:=hid (HB4.out.ext x5);clear x5 HX4 HY4 HB4 HAw;have lg:=HB5.out.lt;go_wp2_with fail
   simp only[Tryz.isAgg36,Tryz.sizeOf36,Result.andThen,↓reduceIte,za HB5.out 147 hz.out];rw[Oper.upon_value];go_wp2_with fail
   rw[zaH];refine((HSa _ HY5.out).out).mono ?_;rintro en w6 ⟨rfl,x6⟩;have HX6:=hid (HX5.out.trans x6);clear x6 HX5 HY5 HB5 HSa lg;go_wp2_with fail
   go_ret;exact⟨rfl,HX6.out⟩
  ·have e1:(f != 0)=true:=by simpa using hf
   obtain rfl:z=f:=by have:=HZv.out;rw[if_neg hf] at this;exact this
   clear HZv HPo hf;go_wp2_with fail
   refine((HAw _ HX4.out).out).mono ?_;rintro en w5 ⟨rfl,x5⟩;have HX5:=hid (HX4.out.trans x5);have HY5:=hid (HY4.out.trans x5);have HB5:=hid (HB4.out.ext x5);clear x5 HX4 HY4 HB4 HAw;have lg:=HB5.out.lt;go_wp2_with fail
   simp only[Tryz.isAgg36,Tryz.sizeOf36,Result.andThen,↓reduceIte,za HB5.out 147 hz.out];rw[Oper.upon_value];go_wp2_with fail
   rw[zaH];refine((HSa _ HY5.out).out).mono ?_;rintro en w6 ⟨rfl,x6⟩;have HX6:=hid (HX5.out.trans x6);clear x6 HX5 HY5 HB5 HSa lg;go_wp2_with fail
   go_ret;exact⟨rfl,HX6.out⟩
end
end Go.Proofs.YtofjpdgojoppbaaGreatDoor
