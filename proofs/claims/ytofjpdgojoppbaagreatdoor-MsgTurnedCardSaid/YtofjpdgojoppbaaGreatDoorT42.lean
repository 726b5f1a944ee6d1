/-
  Of the claim's proof: RdR, RdG, BoE, AwM, LwZ, TuA, LwT.
-/
import Derived.Lib.ConvBytes
import Derived.Test.YtofjpdgojoppbaaGreatDoorT02
import Derived.Test.YtofjpdgojoppbaaGreatDoorT15
import Derived.Test.YtofjpdgojoppbaaGreatDoorT20
import Derived.Test.YtofjpdgojoppbaaGreatDoorT35
import Derived.Test.YtofjpdgojoppbaaGreatDoorT40
import Derived.Test.YtofjpdgojoppbaaGreatDoorT41
set_option maxRecDepth 100000
set_option maxHeartbeats 16000000
set_option linter.unusedVariables false
set_option linter.unusedSimpArgs false
namespace Go.Proofs.YtofjpdgojoppbaaGreatDoor
section
open Go.RowKit
attribute [-simp] Tryz.isAgg36 Tryz.sizeOf36 Tryz.isAgg33 Tryz.sizeOf33
theorem mread_c (w:World) (q:Nat) (s:ByteArray) (e:Int) (mx:Int) (hm:w.cell? ⟨0,0,none⟩=some (.int .i64 mx)) (hq0:0<q) (h:InAt w q s e) (hs:s.size≤65536):Calls Tryz.prog 24 #[.pointer (some ⟨q,0,none⟩)] w (fun en w'=>∃ (S:SlM) (m:MsgI),en=.returned (.agg (m.at S).arr)∧MsgT w' S m∧MsgOk m∧KnowG m.k∧Keep (fun g=>g=q) w w' ∧ ∀ m0:MsgI,MsgOk m0→layB m0=true→KnowG m0.k→e=0→s=zam m0→m=m0):=by
 have hc0:=fun W (hW:Keep (fun g=>g=q) w W)=>zab hW (Nat.lt_of_le_of_lt (Nat.zero_le _) h.lt) (by omega) hm;have HN0:=hid (fun W h'=>n_c W q s e h' (by omega));have HN:=fun W (s':ByteArray) (e':Int) (h':InAt W q s' e') (hs':s'.size≤65536)=>hid (n_c W q s' e' h' (by omega));have HT:=fun W (s':ByteArray) (e':Int) (h':InAt W q s' e') (hs':s'.size≤65536)=>hid (t_c W q s' e' h' (by omega));have HSd:=fun W (s':ByteArray) (e':Int) (h':InAt W q s' e') (hs':s'.size≤65536)=>hid (zme W q s' e' h' (by omega));have HGf:=fun W t (hW:Keep (fun g=>g=q) w W) (ht:t.size≤65536)=>hid (zlt W t mx (hc0 W hW) ht)
 have HGk:=fun W t (hW:Keep (fun g=>g=q) w W) (ht:t.size≤65536)=>hid (getKT_c W t mx (hc0 W hW) ht);have HGv:=fun W t (ht:t.size≤65536)=>hid (zia W t ht);have HGi:=fun W t (ht:t.size≤65536)=>hid (zls W t ht);have HPp:=fun W (s':ByteArray) (e':Int) (_:Keep (fun g=>g=q) w W) (h':InAt W q s' e') (hs':s'.size≤65536)=>hid (znC W q s' e' h' (by omega) zgl zgm encP (fun W2 s2 e2 _ h2 hs2=>zkH W2 q s2 e2 h2 (by omega)))
 have HPe:=fun W (s':ByteArray) (e':Int) (hW:Keep (fun g=>g=q) w W) (h':InAt W q s' e') (hs':s'.size≤65536)=>hid (znD W q s' e' h' (by omega) EntOk (fun x=>EntOk x∧zS x=true) (fun x=>encL (entF x)) (fun W2 s2 e2 k2 h2 hs2=>zkJ W2 q s2 e2 mx (hc0 W2 (hW.trans k2)) hq0 h2 (by omega)));have HZ:=hid (zM msgZ);have HR0:=hid (Blk.new w 36 msgZ.arr);have HE0:=hid (Ext.alloc w (.cells msgZ.arr 36));have HI0:=hid (h.ext HE0.out);have NR:Hid (¬ w.heap.size=q):=by have:=h.lt;unfold Hid;omega
 clear hc0 hm h;go_enter Tryz.func24,Tryz.ntmps24;go_wp2_with fail
 rw[za6];generalize w.alloc (.cells msgZ.arr 36)=w1 at HR0 HE0 HI0⊢;refine((HN0.out _ HI0.out)).mono ?_;rintro en w2 ⟨z,s2,e2,rfl,hz2,k2,h2,hs2,r2⟩;have HI2:=hid h2;have HR2:=hid (HR0.out.keep k2 NR.out);have HK2:=hid ((Keep.of_ext (S:=fun g=>g=q) HE0.out).trans k2);have R2:=hid r2;have Hz:=hid hz2;have HS2:=hid hs2;have hs2':s2.size≤65536:=by omega
 clear k2 h2 r2 hz2 hs2 HI0 HR0 HE0 HN0;go_wp2_with fail
 refine((HSd _ _ _ HI2.out hs2').out).mono ?_;rintro en w3 ⟨y1,y2,y3,s3,e3,rfl,hy1,hy2,hy3,k3,h3,hs3,r3⟩;have HY:=hid (And.intro hy1 (And.intro hy2 hy3));have RY:=hid r3;have HS3:=hid (Nat.le_trans hs3 HS2.out);have hs3':s3.size≤65536:=by omega
 have hfa:=zcH ⟨z,y1,y2,y3,0,0,0,false,[],⟨[],[]⟩,[],0,false,[],vec0,vec0,[],0,zj,zj⟩;dsimp only at hfa;have hfm:(zR ⟨z,y1,y2,y3,0,0,0,false,[],⟨[],[]⟩,[],0,false,[],vec0,vec0,[],0,zj,zj⟩).arr=(MsgC.mk z y1 y2 y3 0 0 0 false nilS nilS nilS nilS 0 false nilS vec0 vec0 nilS 0 zj zj).arr:=rfl;rw[hfm] at hfa;clear hfm;have HP:=hid (zM (MsgC.mk z y1 y2 y3 0 0 0 false nilS nilS nilS nilS 0 false nilS vec0 vec0 nilS 0 zj zj));have HP1:=hid (zaw (MsgC.mk z y1 y2 y3 0 0 0 false nilS nilS nilS nilS 0 false nilS vec0 vec0 nilS 0 zj zj))
 have ck:Hid ((MsgC.mk z y1 y2 y3 0 0 0 false nilS nilS nilS nilS 0 false nilS vec0 vec0 nilS 0 zj zj).arr[0]? = some (.int .i64 z)):=by unfold Hid;rw[zW _ _ (by omega)];rfl
 obtain⟨P,hP⟩:∃ P,(MsgC.mk z y1 y2 y3 0 0 0 false nilS nilS nilS nilS 0 false nilS vec0 vec0 nilS 0 zj zj).arr=P:=⟨_,rfl⟩
 have HPe0:=hid hP;rw[hP] at hfa HP HP1 ck;clear hP;have X3:=hid (Ext.alloc w3 (.cells P 36));have HI3:=hid (h3.ext X3.out);have HR3:=hid ((HR2.out.keep k3 NR.out).ext X3.out);have HK3:=hid ((HK2.out.trans k3).ext X3.out);have HU3:=hid (Blk.new w3 36 P);have NU:Hid (¬ w3.heap.size=q):=by have:=h3.lt;unfold Hid;omega
 have NUR:Hid (¬ w3.heap.size=w.heap.size):=by have:=(HR2.out.keep k3 NR.out).lt;unfold Hid;omega
 have GU:Hid (w.heap.size≤w3.heap.size):=(HK2.out.trans k3).size;clear hy1 hy2 hy3 k3 h3 hs3 r3 HI2 HR2 HK2 X3 hs2' HS2;go_wp2_with fail
 simp only[Tryz.sizeOf33,Result.andThen];rw[Oper.upon_value];clear hfa;go_wp2_with fail
 rw[za6];have HB3:=hid (Blk.new w3 36 msgZ.arr);simp only[Tryz.sizeOf36,Result.andThen,↓reduceIte,zg HB3.out (by rw[HP.out];exact zP) (by rw[HP.out,HZ.out]) HP1.out,HP.out];rw[Oper.upon_skip];rw[World.setRow_alloc_new];clear HB3;obtain⟨g,hg⟩:∃ g,w3.heap.size=g:=⟨_,rfl⟩
 rw[hg] at NU NUR GU HU3;have hgoal:=hg;generalize hw9:w3.alloc (.cells P 36)=w9 at HI3 HR3 HU3 HK3⊢;rw[hg];clear hw9 hgoal hg;clear w3;obtain⟨w3,hw3⟩:∃ w,w=w9:=⟨_,rfl⟩
 subst hw3;have c0:=HU3.out.cell ck.out;have l3:=HU3.out.lt;rw[←HPe0.out] at HU3;clear HPe0 ck HP HP1;by_cases h1:z=1
 ·have d1:((z:Int)==1)=true:=by rw[h1];rfl
  have H1:=hid h1;clear h1 HSd HGv HGi HPe;go_wp2_with fail
  refine((HN _ _ _ HI3.out hs3').out).mono ?_;rintro en w4 ⟨z4,s4,e4,rfl,hz4,k4,h4,hs4,r4⟩;have HI4:=hid h4;have HR4:=hid (HR3.out.keep k4 NR.out);have HU4:=hid (HU3.out.keep k4 NU.out);have HK4:=hid (HK3.out.trans k4);have R4:=hid r4;have hs4':s4.size≤65536:=by omega
  have HS4:=hid (Nat.le_trans hs4 HS3.out);have Z4:=hid hz4;clear hz4;clear HI3 HR3 HU3 HK3  k4 h4 r4 hs4 hs3';have cup:=HU4.out.cell (i:=7) (v:=.bool false) (by rw[zW _ _ (by omega)];rfl);have fup:=HU4.out.frozen 7;have lu:=HU4.out.lt;go_wp2_with fail
  have HU5:Hid (Blk ((w4.setCell ⟨g,7,none⟩ (.bool ((z4:Int)==1)))) g 36 (MsgC.mk z y1 y2 y3 0 0 0 ((z4:Int)==1) nilS nilS nilS nilS 0 false nilS vec0 vec0 nilS 0 zj zj).arr):=by
   have h9:=HU4.out.setCells ([.bool ((z4:Int)==1)]) 7 (by rw[zM];show 7+1≤147;omega);rw[zdo (MsgC.mk z y1 y2 y3 0 0 0 false nilS nilS nilS nilS 0 false nilS vec0 vec0 nilS 0 zj zj) (MsgC.mk z y1 y2 y3 0 0 0 ((z4:Int)==1) nilS nilS nilS nilS 0 false nilS vec0 vec0 nilS 0 zj zj) 7 [.bool ((z4:Int)==1)] (by show 7+1≤15;omega) rfl rfl] at h9;exact h9
  have kS5:Keep (fun k=>k=g) w4 ((w4.setCell ⟨g,7,none⟩ (.bool ((z4:Int)==1)))):=Keep.setCells (S:=fun q=>q=g) (.inl rfl) ([.bool ((z4:Int)==1)]) (Keep.refl _ w4) 7;have HI5:=hid (show InAt ((w4.setCell ⟨g,7,none⟩ (.bool ((z4:Int)==1)))) q s4 e4 from Blk.keep HI4.out kS5 (fun h=>NU.out h.symm));have HR5:=hid (HR4.out.keep kS5 (fun h=>NUR.out h.symm));have HK5:=hid (zaJ HK4.out kS5 (fun k hk=>by rw[hk];exact GU.out));have HS5:=HS4;have hs5':=hs4';clear HI4 HR4 HU4 HK4  kS5 hs4';clear cup fup lu;generalize (w4.setCell ⟨g,7,none⟩ (.bool ((z4:Int)==1)))=w5 at HI5 HR5 HU5 HK5  ⊢;refine((HT _ _ _ HI5.out hs5').out).mono ?_
  rintro en w6 ⟨t6,s6,e6,rfl,ht6,k6,h6,hs6,r6⟩;have HI6:=hid h6;have HR6:=hid (HR5.out.keep k6 NR.out);have HU6:=hid (HU5.out.keep k6 NU.out);have HK6:=hid (HK5.out.trans k6);have R6:=hid r6;have hs6':s6.size≤65536:=by omega
  have HS6:=hid (Nat.le_trans hs6 HS5.out);have ht6':t6.size≤65536:=by omega
  clear ht6;clear HI5 HR5 HU5 HK5  k6 h6 r6 hs6 hs5';go_wp2_with fail
  refine((HGf _ _ HK6.out ht6').out).mono ?_;rintro en w7 ⟨sf,lf,zf,rfl,hrf,hgf,x7,hbf⟩;have HI7:=hid (HI6.out.ext x7);have HR7:=hid (HR6.out.ext x7);have HU7:=hid (HU6.out.ext x7);have HK7:=hid (HK6.out.ext x7);have HS7:=HS6;have hs7':=hs6';have HF7:=hid hrf;have HGF:=hid hgf;have BF:=hid hbf;clear HI6 HR6 HU6 HK6  x7 hrf hgf hbf ht6'
  try clear hs6'
  have cf:=HU7.out.cell (i:=8) (v:=.slice none 0 0) (by rw[zW _ _ (by omega)];rfl);have ff:=HU7.out.frozen 8;have lu:=HU7.out.lt;go_wp2_with fail
  have HU8:Hid (Blk ((w7.setCell ⟨g,8,none⟩ (.slice sf.a sf.n sf.c))) g 36 (MsgC.mk z y1 y2 y3 0 0 0 ((z4:Int)==1) sf nilS nilS nilS 0 false nilS vec0 vec0 nilS 0 zj zj).arr):=by
   have h9:=HU7.out.setCells ([.slice sf.a sf.n sf.c]) 8 (by rw[zM];show 8+1≤147;omega);rw[zdo (MsgC.mk z y1 y2 y3 0 0 0 ((z4:Int)==1) nilS nilS nilS nilS 0 false nilS vec0 vec0 nilS 0 zj zj) (MsgC.mk z y1 y2 y3 0 0 0 ((z4:Int)==1) sf nilS nilS nilS 0 false nilS vec0 vec0 nilS 0 zj zj) 8 [.slice sf.a sf.n sf.c] (by show 8+1≤15;omega) rfl rfl] at h9;exact h9
  have kS8:Keep (fun k=>k=g) w7 ((w7.setCell ⟨g,8,none⟩ (.slice sf.a sf.n sf.c))):=Keep.setCells (S:=fun q=>q=g) (.inl rfl) ([.slice sf.a sf.n sf.c]) (Keep.refl _ w7) 8;have HI8:=hid (show InAt ((w7.setCell ⟨g,8,none⟩ (.slice sf.a sf.n sf.c))) q s6 e6 from Blk.keep HI7.out kS8 (fun h=>NU.out h.symm));have HR8:=hid (HR7.out.keep kS8 (fun h=>NUR.out h.symm));have HK8:=hid (zaJ HK7.out kS8 (fun k hk=>by rw[hk];exact GU.out));have HS8:=HS7;have hs8':=hs7';have HF8:=hid (zw HF7.out kS8 (fun g hg hq=>zD HF7.out HU7.out (by decide) (by rw[←hq];exact hg)));clear HI7 HR7 HU7 HK7 HF7 kS8 hs7';clear cf ff lu
  generalize (w7.setCell ⟨g,8,none⟩ (.slice sf.a sf.n sf.c))=w8 at HI8 HR8 HU8 HK8 HF8⊢;refine((HT _ _ _ HI8.out hs8').out).mono ?_;rintro en w9 ⟨t9,s9,e9,rfl,ht9,k9,h9,hs9,r9⟩;have HI9:=hid h9;have HR9:=hid (HR8.out.keep k9 NR.out);have HU9:=hid (HU8.out.keep k9 NU.out);have HK9:=hid (HK8.out.trans k9);have R9:=hid r9;have hs9':s9.size≤65536:=by omega
  have HS9:=hid (Nat.le_trans hs9 HS8.out);have HF9:=hid (zw HF8.out k9 (fun g hg hq=>zD HF8.out HI8.out (by decide) (by rw[←hq];exact hg)));have ht9':t9.size≤65536:=by omega
  clear ht9;clear HI8 HR8 HU8 HK8 HF8 k9 h9 r9 hs9 hs8';go_wp2_with fail
  refine((HGk _ _ HK9.out ht9').out).mono ?_;rintro en w10 ⟨su,sv,lk,zk,rfl,hrk,hgk,x10,-,hbk⟩;have HI10:=hid (HI9.out.ext x10);have HR10:=hid (HR9.out.ext x10);have HU10:=hid (HU9.out.ext x10);have HK10:=hid (HK9.out.ext x10);have HS10:=HS9;have hs10':=hs9';have HF10:=hid (zz HF9.out x10);have HK910:=hid hrk;have HGK:=hid hgk;have BK:=hid hbk;clear HI9 HR9 HU9 HK9 HF9 x10 hrk hgk hbk ht9'
  try clear hs9'
  have ck1:=HU10.out.cell (i:=9) (v:=.slice none 0 0) (by rw[zW _ _ (by omega)];rfl);have fk1:=HU10.out.frozen 9;have ck2:=HU10.out.cell (i:=10) (v:=.slice none 0 0) (by rw[zW _ _ (by omega)];rfl);have fk2:=HU10.out.frozen 10;have lu:=HU10.out.lt;go_wp2_with fail
  have HU11:Hid (Blk (((w10.setCell ⟨g,9,none⟩ (.slice su.a su.n su.c)).setCell ⟨g,10,none⟩ (.slice sv.a sv.n sv.c))) g 36 (MsgC.mk z y1 y2 y3 0 0 0 ((z4:Int)==1) sf su sv nilS 0 false nilS vec0 vec0 nilS 0 zj zj).arr):=by
   have h9:=HU10.out.setCells ([.slice su.a su.n su.c,.slice sv.a sv.n sv.c]) 9 (by rw[zM];show 9+2≤147;omega);rw[zdo (MsgC.mk z y1 y2 y3 0 0 0 ((z4:Int)==1) sf nilS nilS nilS 0 false nilS vec0 vec0 nilS 0 zj zj) (MsgC.mk z y1 y2 y3 0 0 0 ((z4:Int)==1) sf su sv nilS 0 false nilS vec0 vec0 nilS 0 zj zj) 9 [.slice su.a su.n su.c,.slice sv.a sv.n sv.c] (by show 9+2≤15;omega) rfl rfl] at h9;exact h9
  have kS11:Keep (fun k=>k=g) w10 (((w10.setCell ⟨g,9,none⟩ (.slice su.a su.n su.c)).setCell ⟨g,10,none⟩ (.slice sv.a sv.n sv.c))):=Keep.setCells (S:=fun q=>q=g) (.inl rfl) ([.slice su.a su.n su.c,.slice sv.a sv.n sv.c]) (Keep.refl _ w10) 9;have HI11:=hid (show InAt (((w10.setCell ⟨g,9,none⟩ (.slice su.a su.n su.c)).setCell ⟨g,10,none⟩ (.slice sv.a sv.n sv.c))) q s9 e9 from Blk.keep HI10.out kS11 (fun h=>NU.out h.symm));have HR11:=hid (HR10.out.keep kS11 (fun h=>NUR.out h.symm));have HK11:=hid (zaJ HK10.out kS11 (fun k hk=>by rw[hk];exact GU.out));have HS11:=HS10;have hs11':=hs10'
  have HF11:=hid (zw HF10.out kS11 (fun g hg hq=>zD HF10.out HU10.out (by decide) (by rw[←hq];exact hg)));have HK911:=hid (HK910.out.keepBlk HU10.out (by decide) (by decide) (by decide) (by decide) kS11);clear HI10 HR10 HU10 HK10 HF10 HK910 kS11 hs10';clear ck1 fk1 ck2 fk2 lu;generalize ((w10.setCell ⟨g,9,none⟩ (.slice su.a su.n su.c)).setCell ⟨g,10,none⟩ (.slice sv.a sv.n sv.c))=w11 at HI11 HR11 HU11 HK11 HF11 HK911⊢;refine((HPp _ _ _ HK11.out HI11.out hs11').out).mono ?_;rintro en w12 ⟨vh,lh,s12,e12,rfl,hrh,hgh,hlh,k12,h12,hs12,r12⟩;have HI12:=hid h12;have HR12:=hid (HR11.out.keep k12 NR.out);have HU12:=hid (HU11.out.keep k12 NU.out)
  have HK12:=hid (HK11.out.trans k12);have R12:=hid r12;have hs12':s12.size≤65536:=by omega
  have HS12:=hid (Nat.le_trans hs12 HS11.out);have HF12:=hid (zw HF11.out k12 (fun g hg hq=>zD HF11.out HI11.out (by decide) (by rw[←hq];exact hg)));have HK912:=hid (HK911.out.keepBlk HI11.out (by decide) (by decide) (by decide) (by decide) k12);have HH12:=hid (zas hrh (Nat.zero_le _));have HGH:=hid hgh;have HLH:=hid hlh;obtain⟨⟨sh1,sh2,sh3⟩,hshe⟩:=zcO hrh;subst hshe;dsimp only[SlV.val];clear hrh hgh hlh;clear HI11 HR11 HU11 HK11 HF11 HK911 k12 h12 r12 hs12 hs11';have cheld:=HU12.out.cell (i:=11) (v:=.slice none 0 0) (by rw[zW _ _ (by omega)];rfl);have fheld:=HU12.out.frozen 11;have lu:=HU12.out.lt;go_wp2_with fail
  have HU13:Hid (Blk ((w12.setCell ⟨g,11,none⟩ (.slice sh1 sh2 sh3))) g 36 (MsgC.mk z y1 y2 y3 0 0 0 ((z4:Int)==1) sf su sv ⟨sh1,sh2,sh3⟩ 0 false nilS vec0 vec0 nilS 0 zj zj).arr):=by
   have h9:=HU12.out.setCells ([.slice sh1 sh2 sh3]) 11 (by rw[zM];show 11+1≤147;omega);rw[zdo (MsgC.mk z y1 y2 y3 0 0 0 ((z4:Int)==1) sf su sv nilS 0 false nilS vec0 vec0 nilS 0 zj zj) (MsgC.mk z y1 y2 y3 0 0 0 ((z4:Int)==1) sf su sv ⟨sh1,sh2,sh3⟩ 0 false nilS vec0 vec0 nilS 0 zj zj) 11 [.slice sh1 sh2 sh3] (by show 11+1≤15;omega) rfl rfl] at h9;exact h9
  have kS13:Keep (fun k=>k=g) w12 ((w12.setCell ⟨g,11,none⟩ (.slice sh1 sh2 sh3))):=Keep.setCells (S:=fun q=>q=g) (.inl rfl) ([.slice sh1 sh2 sh3]) (Keep.refl _ w12) 11;have HI13:=hid (show InAt ((w12.setCell ⟨g,11,none⟩ (.slice sh1 sh2 sh3))) q s12 e12 from Blk.keep HI12.out kS13 (fun h=>NU.out h.symm));have HR13:=hid (HR12.out.keep kS13 (fun h=>NUR.out h.symm));have HK13:=hid (zaJ HK12.out kS13 (fun k hk=>by rw[hk];exact GU.out));have HS13:=HS12;have hs13':=hs12';have HF13:=hid (zw HF12.out kS13 (fun g hg hq=>zD HF12.out HU12.out (by decide) (by rw[←hq];exact hg)))
  have HK913:=hid (HK912.out.keepBlk HU12.out (by decide) (by decide) (by decide) (by decide) kS13);have HH13:=hid (zw HH12.out kS13 (fun g hg hq=>zD HH12.out HU12.out (by decide) (by rw[←hq];exact hg)));clear HI12 HR12 HU12 HK12 HF12 HK912 HH12 kS13 hs12';clear cheld fheld lu;generalize (w12.setCell ⟨g,11,none⟩ (.slice sh1 sh2 sh3))=w13 at HI13 HR13 HU13 HK13 HF13 HK913 HH13⊢;obtain⟨X,hX⟩:∃ X,(MsgC.mk z y1 y2 y3 0 0 0 ((z4:Int)==1) sf su sv ⟨sh1,sh2,sh3⟩ 0 false nilS vec0 vec0 nilS 0 zj zj).arr=X:=⟨_,rfl⟩
  have hz9:=hid (zM (MsgC.mk z y1 y2 y3 0 0 0 ((z4:Int)==1) sf su sv ⟨sh1,sh2,sh3⟩ 0 false nilS vec0 vec0 nilS 0 zj zj));have ho9:=hid (zaw (MsgC.mk z y1 y2 y3 0 0 0 ((z4:Int)==1) sf su sv ⟨sh1,sh2,sh3⟩ 0 false nilS vec0 vec0 nilS 0 zj zj));have HXe:=hid hX;rw[hX] at HU13 hz9 ho9;clear hX;go_wp2_with fail
  simp only[Tryz.isAgg36,Tryz.sizeOf36,Result.andThen,↓reduceIte,za HU13.out 147 hz9.out];rw[Oper.upon_value];go_wp2_with fail
  simp only[Tryz.sizeOf36,Result.andThen,↓reduceIte,zg HR13.out (by rw[hz9.out];exact zP) (by rw[hz9.out,HZ.out]) ho9.out,hz9.out];rw[Oper.upon_skip];go_wp2_with fail
  have HF:=hid (HR13.out.setRow X);have kR:Keep (fun g=>g=w.heap.size) w13 _:=Keep.setRow (S:=fun g=>g=w.heap.size) (Keep.refl _ w13) (.inl rfl) X;have HKf:=hid (Keep.setRow (S:=fun g=>g=q) HK13.out (.inr (Nat.le_refl _)) X);have HFf:=hid (zw HF13.out kR (fun g hg hq=>zD HF13.out HR13.out (by decide) (by rw[←hq];exact hg)));have HK9f:=hid (HK913.out.keepBlk HR13.out (by decide) (by decide) (by decide) (by decide) kR);have HHf:=hid (zw HH13.out kR (fun g hg hq=>zD HH13.out HR13.out (by decide) (by rw[←hq];exact hg)))
  refine bodyPost_ret (results_cell_row rfl _ _ w.heap.size 36 _ (0,0) _ rfl HF.out Tryz.underlying36 rfl (by rw[hz9.out];exact zP)) rfl ⟨⟨sf,su,sv,⟨sh1,sh2,sh3⟩,nilS,nilS⟩,⟨z,y1,y2,y3,0,0,0,((z4:Int)==1),lf,lk,lh,0,false,[],vec0,vec0,[],0,zj,zj⟩,by rw[←HXe.out];rfl,⟨HFf.out,HK9f.out,HHf.out,zB _ _ _ _,zB _ _ _ _⟩,?_,HGK.out,HKf.out,?_⟩
  ·exact⟨HGF.out,HGK.out.ok,Nat.le_trans HLH.out (by decide),zhi,Nat.zero_le _,zbo,zbo,zhf,Nat.zero_le _,zac Hz.out,⟨zac HY.out.1,zac HY.out.2.1,zac HY.out.2.2⟩,zix,zbd,zbd,HGH.out⟩
  ·intro m0 hok hl hg a0 hs0
   exact back1 hok hl hg a0 hs0 R2.out RY.out R4.out R6.out R9.out R12.out BF.out (fun k0 x1 x2 x3=>(BK.out k0 x1 x2 x3).2) H1.out
 have d1:((z:Int)==1)=false:=by
  have:¬ (z:Int)=1:=by omega
  simpa using this
 by_cases h2:z=2
 ·have d2:((z:Int)==2)=true:=by rw[h2];rfl
  have H2:=hid h2;clear h1 h2 HGf HGk HPp;go_wp2_with fail
  refine((HSd _ _ _ HI3.out hs3').out).mono ?_;rintro en w4 ⟨a4,b4,c4,s4,e4,rfl,hx4,hy4,hz4,k4,h4,hs4,r4⟩;have HI4:=hid h4;have HR4:=hid (HR3.out.keep k4 NR.out);have HU4:=hid (HU3.out.keep k4 NU.out);have HK4:=hid (HK3.out.trans k4);have R4:=hid r4;have hs4':s4.size≤65536:=by omega
  have HS4:=hid (Nat.le_trans hs4 HS3.out);have Z4:=hid (And.intro hx4 (And.intro hy4 hz4));clear hx4 hy4 hz4;clear HI3 HR3 HU3 HK3  k4 h4 r4 hs4 hs3';go_wp2_with fail
  refine((HN _ _ _ HI4.out hs4').out).mono ?_;rintro en w5 ⟨z5,s5,e5,rfl,hz5,k5,h5,hs5,r5⟩;have HI5:=hid h5;have HR5:=hid (HR4.out.keep k5 NR.out);have HU5:=hid (HU4.out.keep k5 NU.out);have HK5:=hid (HK4.out.trans k5);have R5:=hid r5;have hs5':s5.size≤65536:=by omega
  have HS5:=hid (Nat.le_trans hs5 HS4.out);have Z5:=hid hz5;clear hz5;clear HI4 HR4 HU4 HK4  k5 h5 r5 hs5 hs4';have cr1:=HU5.out.cell (i:=4) (v:=.int .i64 0) (by rw[zW _ _ (by omega)];rfl);have fr1:=HU5.out.frozen 4;have cr2:=HU5.out.cell (i:=5) (v:=.int .i64 0) (by rw[zW _ _ (by omega)];rfl);have fr2:=HU5.out.frozen 5;have cr3:=HU5.out.cell (i:=6) (v:=.int .i64 0) (by rw[zW _ _ (by omega)];rfl);have fr3:=HU5.out.frozen 6;have cseq:=HU5.out.cell (i:=12) (v:=.int .i64 0) (by rw[zW _ _ (by omega)];rfl);have fseq:=HU5.out.frozen 12;have lu:=HU5.out.lt;go_wp2_with fail
  clear cseq fseq;have HU6:Hid (Blk ((((w5.setCell ⟨g,4,none⟩ (.int .i64 a4)).setCell ⟨g,5,none⟩ (.int .i64 b4)).setCell ⟨g,6,none⟩ (.int .i64 c4))) g 36 (MsgC.mk z y1 y2 y3 a4 b4 c4 false nilS nilS nilS nilS 0 false nilS vec0 vec0 nilS 0 zj zj).arr):=by
   have h9:=HU5.out.setCells ([.int .i64 a4,.int .i64 b4,.int .i64 c4]) 4 (by rw[zM];show 4+3≤147;omega);rw[zdo (MsgC.mk z y1 y2 y3 0 0 0 false nilS nilS nilS nilS 0 false nilS vec0 vec0 nilS 0 zj zj) (MsgC.mk z y1 y2 y3 a4 b4 c4 false nilS nilS nilS nilS 0 false nilS vec0 vec0 nilS 0 zj zj) 4 [.int .i64 a4,.int .i64 b4,.int .i64 c4] (by show 4+3≤15;omega) rfl rfl] at h9;exact h9
  have kS6:Keep (fun k=>k=g) w5 ((((w5.setCell ⟨g,4,none⟩ (.int .i64 a4)).setCell ⟨g,5,none⟩ (.int .i64 b4)).setCell ⟨g,6,none⟩ (.int .i64 c4))):=Keep.setCells (S:=fun q=>q=g) (.inl rfl) ([.int .i64 a4,.int .i64 b4,.int .i64 c4]) (Keep.refl _ w5) 4;have HI6:=hid (show InAt ((((w5.setCell ⟨g,4,none⟩ (.int .i64 a4)).setCell ⟨g,5,none⟩ (.int .i64 b4)).setCell ⟨g,6,none⟩ (.int .i64 c4))) q s5 e5 from Blk.keep HI5.out kS6 (fun h=>NU.out h.symm));have HR6:=hid (HR5.out.keep kS6 (fun h=>NUR.out h.symm));have HK6:=hid (zaJ HK5.out kS6 (fun k hk=>by rw[hk];exact GU.out));have HS6:=HS5;have hs6':=hs5';clear HI5 HR5 HU5 HK5  kS6 hs5'
  clear cr1 fr1 cr2 fr2 cr3 fr3 lu;generalize (((w5.setCell ⟨g,4,none⟩ (.int .i64 a4)).setCell ⟨g,5,none⟩ (.int .i64 b4)).setCell ⟨g,6,none⟩ (.int .i64 c4))=w6 at HI6 HR6 HU6 HK6  ⊢;have lu:=HU6.out.lt;have cseq:=trivial;have fseq:=trivial;have HU7:Hid (Blk ((w6.setCell ⟨g,12,none⟩ (.int .i64 z5))) g 36 (MsgC.mk z y1 y2 y3 a4 b4 c4 false nilS nilS nilS nilS z5 false nilS vec0 vec0 nilS 0 zj zj).arr):=by
   have h9:=HU6.out.setCells ([.int .i64 z5]) 12 (by rw[zM];show 12+1≤147;omega);rw[zdo (MsgC.mk z y1 y2 y3 a4 b4 c4 false nilS nilS nilS nilS 0 false nilS vec0 vec0 nilS 0 zj zj) (MsgC.mk z y1 y2 y3 a4 b4 c4 false nilS nilS nilS nilS z5 false nilS vec0 vec0 nilS 0 zj zj) 12 [.int .i64 z5] (by show 12+1≤15;omega) rfl rfl] at h9;exact h9
  have kS7:Keep (fun k=>k=g) w6 ((w6.setCell ⟨g,12,none⟩ (.int .i64 z5))):=Keep.setCells (S:=fun q=>q=g) (.inl rfl) ([.int .i64 z5]) (Keep.refl _ w6) 12;have HI7:=hid (show InAt ((w6.setCell ⟨g,12,none⟩ (.int .i64 z5))) q s5 e5 from Blk.keep HI6.out kS7 (fun h=>NU.out h.symm));have HR7:=hid (HR6.out.keep kS7 (fun h=>NUR.out h.symm));have HK7:=hid (zaJ HK6.out kS7 (fun k hk=>by rw[hk];exact GU.out));have HS7:=HS6;have hs7':=hs6';clear HI6 HR6 HU6 HK6  kS7 hs6';clear cseq fseq lu;generalize (w6.setCell ⟨g,12,none⟩ (.int .i64 z5))=w7 at HI7 HR7 HU7 HK7  ⊢;refine((HN _ _ _ HI7.out hs7').out).mono ?_
  rintro en w8 ⟨z8,s8,e8,rfl,hz8,k8,h8,hs8,r8⟩;have HI8:=hid h8;have HR8:=hid (HR7.out.keep k8 NR.out);have HU8:=hid (HU7.out.keep k8 NU.out);have HK8:=hid (HK7.out.trans k8);have R8:=hid r8;have hs8':s8.size≤65536:=by omega
  have HS8:=hid (Nat.le_trans hs8 HS7.out);have Z8:=hid hz8;clear hz8;clear HI7 HR7 HU7 HK7  k8 h8 r8 hs8 hs7';have clast:=HU8.out.cell (i:=13) (v:=.bool false) (by rw[zW _ _ (by omega)];rfl);have flast:=HU8.out.frozen 13;have lu:=HU8.out.lt;go_wp2_with fail
  have HU9:Hid (Blk ((w8.setCell ⟨g,13,none⟩ (.bool ((z8:Int)==1)))) g 36 (MsgC.mk z y1 y2 y3 a4 b4 c4 false nilS nilS nilS nilS z5 ((z8:Int)==1) nilS vec0 vec0 nilS 0 zj zj).arr):=by
   have h9:=HU8.out.setCells ([.bool ((z8:Int)==1)]) 13 (by rw[zM];show 13+1≤147;omega);rw[zdo (MsgC.mk z y1 y2 y3 a4 b4 c4 false nilS nilS nilS nilS z5 false nilS vec0 vec0 nilS 0 zj zj) (MsgC.mk z y1 y2 y3 a4 b4 c4 false nilS nilS nilS nilS z5 ((z8:Int)==1) nilS vec0 vec0 nilS 0 zj zj) 13 [.bool ((z8:Int)==1)] (by show 13+1≤15;omega) rfl rfl] at h9;exact h9
  have kS9:Keep (fun k=>k=g) w8 ((w8.setCell ⟨g,13,none⟩ (.bool ((z8:Int)==1)))):=Keep.setCells (S:=fun q=>q=g) (.inl rfl) ([.bool ((z8:Int)==1)]) (Keep.refl _ w8) 13;have HI9:=hid (show InAt ((w8.setCell ⟨g,13,none⟩ (.bool ((z8:Int)==1)))) q s8 e8 from Blk.keep HI8.out kS9 (fun h=>NU.out h.symm));have HR9:=hid (HR8.out.keep kS9 (fun h=>NUR.out h.symm));have HK9:=hid (zaJ HK8.out kS9 (fun k hk=>by rw[hk];exact GU.out));have HS9:=HS8;have hs9':=hs8';clear HI8 HR8 HU8 HK8  kS9 hs8';clear clast flast lu;generalize (w8.setCell ⟨g,13,none⟩ (.bool ((z8:Int)==1)))=w9 at HI9 HR9 HU9 HK9  ⊢
  refine((HPe _ _ _ HK9.out HI9.out hs9').out).mono ?_;rintro en w10 ⟨ve,le,s10,e10,rfl,hre,hge,hle,k10,h10,hs10,r10⟩;have HI10:=hid h10;have HR10:=hid (HR9.out.keep k10 NR.out);have HU10:=hid (HU9.out.keep k10 NU.out);have HK10:=hid (HK9.out.trans k10);have R10:=hid r10;have hs10':s10.size≤65536:=by omega
  have HS10:=hid (Nat.le_trans hs10 HS9.out);have HE10:=hid (zas hre (Nat.zero_le _));have HGE:=hid hge;have HLE:=hid hle;obtain⟨⟨sh1,sh2,sh3⟩,hshe⟩:=zcO hre;subst hshe;dsimp only[SlV.val];clear hre hge hle;clear HI9 HR9 HU9 HK9  k10 h10 r10 hs10 hs9';have cents:=HU10.out.cell (i:=14) (v:=.slice none 0 0) (by rw[zW _ _ (by omega)];rfl);have fents:=HU10.out.frozen 14;have lu:=HU10.out.lt;go_wp2_with fail
  have HU11:Hid (Blk ((w10.setCell ⟨g,14,none⟩ (.slice sh1 sh2 sh3))) g 36 (MsgC.mk z y1 y2 y3 a4 b4 c4 false nilS nilS nilS nilS z5 ((z8:Int)==1) ⟨sh1,sh2,sh3⟩ vec0 vec0 nilS 0 zj zj).arr):=by
   have h9:=HU10.out.setCells ([.slice sh1 sh2 sh3]) 14 (by rw[zM];show 14+1≤147;omega);rw[zdo (MsgC.mk z y1 y2 y3 a4 b4 c4 false nilS nilS nilS nilS z5 ((z8:Int)==1) nilS vec0 vec0 nilS 0 zj zj) (MsgC.mk z y1 y2 y3 a4 b4 c4 false nilS nilS nilS nilS z5 ((z8:Int)==1) ⟨sh1,sh2,sh3⟩ vec0 vec0 nilS 0 zj zj) 14 [.slice sh1 sh2 sh3] (by show 14+1≤15;omega) rfl rfl] at h9;exact h9
  have kS11:Keep (fun k=>k=g) w10 ((w10.setCell ⟨g,14,none⟩ (.slice sh1 sh2 sh3))):=Keep.setCells (S:=fun q=>q=g) (.inl rfl) ([.slice sh1 sh2 sh3]) (Keep.refl _ w10) 14;have HI11:=hid (show InAt ((w10.setCell ⟨g,14,none⟩ (.slice sh1 sh2 sh3))) q s10 e10 from Blk.keep HI10.out kS11 (fun h=>NU.out h.symm));have HR11:=hid (HR10.out.keep kS11 (fun h=>NUR.out h.symm));have HK11:=hid (zaJ HK10.out kS11 (fun k hk=>by rw[hk];exact GU.out));have HS11:=HS10;have hs11':=hs10';have HE11:=hid (zw HE10.out kS11 (fun g hg hq=>zD HE10.out HU10.out (by decide) (by rw[←hq];exact hg)));clear HI10 HR10 HU10 HK10 HE10 kS11 hs10'
  clear cents fents lu;generalize (w10.setCell ⟨g,14,none⟩ (.slice sh1 sh2 sh3))=w11 at HI11 HR11 HU11 HK11 HE11⊢;refine((HT _ _ _ HI11.out hs11').out).mono ?_;rintro en w12 ⟨t12,s12,e12,rfl,ht12,k12,h12,hs12,r12⟩;have HI12:=hid h12;have HR12:=hid (HR11.out.keep k12 NR.out);have HU12:=hid (HU11.out.keep k12 NU.out);have HK12:=hid (HK11.out.trans k12);have R12:=hid r12;have hs12':s12.size≤65536:=by omega
  have HS12:=hid (Nat.le_trans hs12 HS11.out);have HE12:=hid (zw HE11.out k12 (fun g hg hq=>zD HE11.out HI11.out (by decide) (by rw[←hq];exact hg)));have ht12':t12.size≤65536:=by omega
  clear ht12;clear HI11 HR11 HU11 HK11 HE11 k12 h12 r12 hs12 hs11';go_wp2_with fail
  refine((HGv _ _ ht12').out).mono ?_;rintro en w13 ⟨vV,zvV,rfl,hlV,hinV,x13,hbV⟩;have HI13:=hid (HI12.out.ext x13);have HR13:=hid (HR12.out.ext x13);have HU13:=hid (HU12.out.ext x13);have HK13:=hid (HK12.out.ext x13);have HS13:=HS12;have hs13':=hs12';have HE13:=hid (zz HE12.out x13);have HLV:=hid hlV;have HINV:=hid hinV;have BVV:=hid hbV;have hzV:=hid (zbX hlV);clear HI12 HR12 HU12 HK12 HE12 x13 hlV hinV hbV ht12'
  try clear hs12'
  have hle:Hid (15+(vecV vV).toList.length≤(MsgC.mk z y1 y2 y3 a4 b4 c4 false nilS nilS nilS nilS z5 ((z8:Int)==1) ⟨sh1,sh2,sh3⟩ vec0 vec0 nilS 0 zj zj).arr.size):=by unfold Hid;rw[Array.length_toList,hzV.out,zM];omega
  have h1V:Hid (∀ u∈(vecV vV).toList,u.oneCell'=true):=fun u hu=>Array.all_eq_true_iff_forall_mem.1 (zaE vV) u (Array.mem_toList_iff.1 hu);go_wp2_with fail
  simp only[Tryz.sizeOf33,Result.andThen];rw[if_neg (show ¬ (65:Nat)=0 by omega)];dsimp only;rw[Oper.upon_value];go_wp2_with fail
  simp only[Tryz.sizeOf33,Result.andThen,↓reduceIte,hzV.out,zaz HU13.out hle.out h1V.out];rw[Oper.upon_skip];have HU14:Hid (Blk (w13.setCells g 15 (vecV vV).toList) g 36 (MsgC.mk z y1 y2 y3 a4 b4 c4 false nilS nilS nilS nilS z5 ((z8:Int)==1) ⟨sh1,sh2,sh3⟩ vV vec0 nilS 0 HLV.out zj).arr):=by
   have h9:=HU13.out.setCells ((vecV vV).toList) 15 hle.out;rw[set_VV (MsgC.mk z y1 y2 y3 a4 b4 c4 false nilS nilS nilS nilS z5 ((z8:Int)==1) ⟨sh1,sh2,sh3⟩ vec0 vec0 nilS 0 zj zj) (MsgC.mk z y1 y2 y3 a4 b4 c4 false nilS nilS nilS nilS z5 ((z8:Int)==1) ⟨sh1,sh2,sh3⟩ vV vec0 nilS 0 HLV.out zj) vV HLV.out rfl rfl rfl rfl rfl] at h9;exact h9
  have kS14:Keep (fun k=>k=g) w13 (w13.setCells g 15 (vecV vV).toList):=Keep.setCells (S:=fun q=>q=g) (.inl rfl) ((vecV vV).toList) (Keep.refl _ w13) 15;have HI14:=hid (show InAt (w13.setCells g 15 (vecV vV).toList) q s12 e12 from Blk.keep HI13.out kS14 (fun h=>NU.out h.symm));have HR14:=hid (HR13.out.keep kS14 (fun h=>NUR.out h.symm));have HK14:=hid (zaJ HK13.out kS14 (fun k hk=>by rw[hk];exact GU.out));have HS14:=HS13;have hs14':=hs13';have HE14:=hid (zw HE13.out kS14 (fun g hg hq=>zD HE13.out HU13.out (by decide) (by rw[←hq];exact hg)));clear HI13 HR13 HU13 HK13 HE13 kS14 hs13' hle h1V
  generalize w13.setCells g 15 (vecV vV).toList=w14 at HI14 HR14 HU14 HK14 HE14⊢;go_wp2_with fail
  refine((HT _ _ _ HI14.out hs14').out).mono ?_;rintro en w15 ⟨t15,s15,e15,rfl,ht15,k15,h15,hs15,r15⟩;have HI15:=hid h15;have HR15:=hid (HR14.out.keep k15 NR.out);have HU15:=hid (HU14.out.keep k15 NU.out);have HK15:=hid (HK14.out.trans k15);have R15:=hid r15;have hs15':s15.size≤65536:=by omega
  have HS15:=hid (Nat.le_trans hs15 HS14.out);have HE15:=hid (zw HE14.out k15 (fun g hg hq=>zD HE14.out HI14.out (by decide) (by rw[←hq];exact hg)));have ht15':t15.size≤65536:=by omega
  clear ht15;clear HI14 HR14 HU14 HK14 HE14 k15 h15 r15 hs15 hs14';go_wp2_with fail
  refine((HGv _ _ ht15').out).mono ?_;rintro en w16 ⟨vA,zvA,rfl,hlA,hinA,x16,hbA⟩;have HI16:=hid (HI15.out.ext x16);have HR16:=hid (HR15.out.ext x16);have HU16:=hid (HU15.out.ext x16);have HK16:=hid (HK15.out.ext x16);have HS16:=HS15;have hs16':=hs15';have HE16:=hid (zz HE15.out x16);have HLA:=hid hlA;have HINA:=hid hinA;have BVA:=hid hbA;have hzA:=hid (zbX hlA);clear HI15 HR15 HU15 HK15 HE15 x16 hlA hinA hbA ht15'
  try clear hs15'
  have hle:Hid (80+(vecV vA).toList.length≤(MsgC.mk z y1 y2 y3 a4 b4 c4 false nilS nilS nilS nilS z5 ((z8:Int)==1) ⟨sh1,sh2,sh3⟩ vV vec0 nilS 0 HLV.out zj).arr.size):=by unfold Hid;rw[Array.length_toList,hzA.out,zM];omega
  have h1V:Hid (∀ u∈(vecV vA).toList,u.oneCell'=true):=fun u hu=>Array.all_eq_true_iff_forall_mem.1 (zaE vA) u (Array.mem_toList_iff.1 hu);go_wp2_with fail
  simp only[Tryz.sizeOf33,Result.andThen];rw[if_neg (show ¬ (65:Nat)=0 by omega)];dsimp only;rw[Oper.upon_value];go_wp2_with fail
  simp only[Tryz.sizeOf33,Result.andThen,↓reduceIte,hzA.out,zaz HU16.out hle.out h1V.out];rw[Oper.upon_skip];have HU17:Hid (Blk (w16.setCells g 80 (vecV vA).toList) g 36 (MsgC.mk z y1 y2 y3 a4 b4 c4 false nilS nilS nilS nilS z5 ((z8:Int)==1) ⟨sh1,sh2,sh3⟩ vV vA nilS 0 HLV.out HLA.out).arr):=by
   have h9:=HU16.out.setCells ((vecV vA).toList) 80 hle.out;rw[set_AA (MsgC.mk z y1 y2 y3 a4 b4 c4 false nilS nilS nilS nilS z5 ((z8:Int)==1) ⟨sh1,sh2,sh3⟩ vV vec0 nilS 0 HLV.out zj) (MsgC.mk z y1 y2 y3 a4 b4 c4 false nilS nilS nilS nilS z5 ((z8:Int)==1) ⟨sh1,sh2,sh3⟩ vV vA nilS 0 HLV.out HLA.out) vA HLA.out rfl rfl rfl rfl rfl] at h9;exact h9
  have kS17:Keep (fun k=>k=g) w16 (w16.setCells g 80 (vecV vA).toList):=Keep.setCells (S:=fun q=>q=g) (.inl rfl) ((vecV vA).toList) (Keep.refl _ w16) 80;have HI17:=hid (show InAt (w16.setCells g 80 (vecV vA).toList) q s15 e15 from Blk.keep HI16.out kS17 (fun h=>NU.out h.symm));have HR17:=hid (HR16.out.keep kS17 (fun h=>NUR.out h.symm));have HK17:=hid (zaJ HK16.out kS17 (fun k hk=>by rw[hk];exact GU.out));have HS17:=HS16;have hs17':=hs16';have HE17:=hid (zw HE16.out kS17 (fun g hg hq=>zD HE16.out HU16.out (by decide) (by rw[←hq];exact hg)));clear HI16 HR16 HU16 HK16 HE16 kS17 hs16' hle h1V
  generalize w16.setCells g 80 (vecV vA).toList=w17 at HI17 HR17 HU17 HK17 HE17⊢;go_wp2_with fail
  refine((HT _ _ _ HI17.out hs17').out).mono ?_;rintro en w18 ⟨t18,s18,e18,rfl,ht18,k18,h18,hs18,r18⟩;have HI18:=hid h18;have HR18:=hid (HR17.out.keep k18 NR.out);have HU18:=hid (HU17.out.keep k18 NU.out);have HK18:=hid (HK17.out.trans k18);have R18:=hid r18;have hs18':s18.size≤65536:=by omega
  have HS18:=hid (Nat.le_trans hs18 HS17.out);have HE18:=hid (zw HE17.out k18 (fun g hg hq=>zD HE17.out HI17.out (by decide) (by rw[←hq];exact hg)));have ht18':t18.size≤65536:=by omega
  clear ht18;clear HI17 HR17 HU17 HK17 HE17 k18 h18 r18 hs18 hs17';go_wp2_with fail
  refine((HGi _ _ ht18').out).mono ?_;rintro en w19 ⟨sn,ln,zn,rfl,hrn,hgn,hln,x19,hbn⟩;have HI19:=hid (HI18.out.ext x19);have HR19:=hid (HR18.out.ext x19);have HU19:=hid (HU18.out.ext x19);have HK19:=hid (HK18.out.ext x19);have HS19:=HS18;have hs19':=hs18';have HE19:=hid (zz HE18.out x19);have HN919:=hid hrn;have HGN:=hid hgn;have HLN:=hid hln;have BN:=hid hbn;clear HI18 HR18 HU18 HK18 HE18 x19 hrn hgn hln hbn ht18'
  try clear hs18'
  have cnot:=HU19.out.cell (i:=145) (v:=.slice none 0 0) (by rw[show(145:Nat)=145+0 from rfl,zah];rfl);have fnot:=HU19.out.frozen 145;have lu:=HU19.out.lt;go_wp2_with fail
  have HU20:Hid (Blk ((w19.setCell ⟨g,145,none⟩ (.slice sn.a sn.n sn.c))) g 36 (MsgC.mk z y1 y2 y3 a4 b4 c4 false nilS nilS nilS nilS z5 ((z8:Int)==1) ⟨sh1,sh2,sh3⟩ vV vA sn 0 HLV.out HLA.out).arr):=by
   have h9:=HU19.out.setCells ([.slice sn.a sn.n sn.c]) 145 (by rw[zM];show 145+1≤147;omega);rw[set_NN (MsgC.mk z y1 y2 y3 a4 b4 c4 false nilS nilS nilS nilS z5 ((z8:Int)==1) ⟨sh1,sh2,sh3⟩ vV vA nilS 0 HLV.out HLA.out) (MsgC.mk z y1 y2 y3 a4 b4 c4 false nilS nilS nilS nilS z5 ((z8:Int)==1) ⟨sh1,sh2,sh3⟩ vV vA sn 0 HLV.out HLA.out) (.slice sn.a sn.n sn.c) rfl rfl rfl rfl rfl] at h9;exact h9
  have kS20:Keep (fun k=>k=g) w19 ((w19.setCell ⟨g,145,none⟩ (.slice sn.a sn.n sn.c))):=Keep.setCells (S:=fun q=>q=g) (.inl rfl) ([.slice sn.a sn.n sn.c]) (Keep.refl _ w19) 145;have HI20:=hid (show InAt ((w19.setCell ⟨g,145,none⟩ (.slice sn.a sn.n sn.c))) q s18 e18 from Blk.keep HI19.out kS20 (fun h=>NU.out h.symm));have HR20:=hid (HR19.out.keep kS20 (fun h=>NUR.out h.symm));have HK20:=hid (zaJ HK19.out kS20 (fun k hk=>by rw[hk];exact GU.out));have HS20:=HS19;have hs20':=hs19';have HE20:=hid (zw HE19.out kS20 (fun g hg hq=>zD HE19.out HU19.out (by decide) (by rw[←hq];exact hg)))
  have HN920:=hid (zw HN919.out kS20 (fun g hg hq=>zD HN919.out HU19.out (by decide) (by rw[←hq];exact hg)));clear HI19 HR19 HU19 HK19 HE19 HN919 kS20 hs19';clear cnot fnot lu;generalize (w19.setCell ⟨g,145,none⟩ (.slice sn.a sn.n sn.c))=w20 at HI20 HR20 HU20 HK20 HE20 HN920⊢;obtain⟨X,hX⟩:∃ X,(MsgC.mk z y1 y2 y3 a4 b4 c4 false nilS nilS nilS nilS z5 ((z8:Int)==1) ⟨sh1,sh2,sh3⟩ vV vA sn 0 HLV.out HLA.out).arr=X:=⟨_,rfl⟩
  have hz9:=hid (zM (MsgC.mk z y1 y2 y3 a4 b4 c4 false nilS nilS nilS nilS z5 ((z8:Int)==1) ⟨sh1,sh2,sh3⟩ vV vA sn 0 HLV.out HLA.out));have ho9:=hid (zaw (MsgC.mk z y1 y2 y3 a4 b4 c4 false nilS nilS nilS nilS z5 ((z8:Int)==1) ⟨sh1,sh2,sh3⟩ vV vA sn 0 HLV.out HLA.out));have HXe:=hid hX;rw[hX] at HU20 hz9 ho9;clear hX;go_wp2_with fail
  simp only[Tryz.isAgg36,Tryz.sizeOf36,Result.andThen,↓reduceIte,za HU20.out 147 hz9.out];rw[Oper.upon_value];go_wp2_with fail
  simp only[Tryz.sizeOf36,Result.andThen,↓reduceIte,zg HR20.out (by rw[hz9.out];exact zP) (by rw[hz9.out,HZ.out]) ho9.out,hz9.out];rw[Oper.upon_skip];go_wp2_with fail
  have HF:=hid (HR20.out.setRow X);have kR:Keep (fun g=>g=w.heap.size) w20 _:=Keep.setRow (S:=fun g=>g=w.heap.size) (Keep.refl _ w20) (.inl rfl) X;have HKf:=hid (Keep.setRow (S:=fun g=>g=q) HK20.out (.inr (Nat.le_refl _)) X);have HEf:=hid (zw HE20.out kR (fun g hg hq=>zD HE20.out HR20.out (by decide) (by rw[←hq];exact hg)));have HN9f:=hid (zw HN920.out kR (fun g hg hq=>zD HN920.out HR20.out (by decide) (by rw[←hq];exact hg)))
  refine bodyPost_ret (results_cell_row rfl _ _ w.heap.size 36 _ (0,0) _ rfl HF.out Tryz.underlying36 rfl (by rw[hz9.out];exact zP)) rfl ⟨⟨nilS,nilS,nilS,nilS,⟨sh1,sh2,sh3⟩,sn⟩,⟨z,y1,y2,y3,a4,b4,c4,false,[],⟨[],[]⟩,[],z5,((z8:Int)==1),le,vV,vA,ln,0,HLV.out,HLA.out⟩,by rw[←HXe.out];rfl,⟨zB _ _ _ _,KnowT.nil _,zB _ _ _ _,HEf.out,HN9f.out⟩,?_,zcm,HKf.out,?_⟩
  ·exact⟨zhh,zgs,Nat.zero_le _,HGE.out,Nat.le_trans HLE.out (by decide),HINV.out,HINA.out,fun c hc=>zcN (HGN.out c hc),Nat.le_trans HLN.out (by decide),zac Hz.out,⟨zac HY.out.1,zac HY.out.2.1,zac HY.out.2.2⟩,⟨zac Z4.out.1,zac Z4.out.2.1,zac Z4.out.2.2⟩,zac Z5.out,zbd,zhg⟩
  ·intro m0 hok hl hg a0 hs0
   exact back2 hok hl a0 hs0 R2.out RY.out R4.out R5.out R8.out R10.out R12.out R15.out R18.out (fun u x1 x2 x3 x4=>(BVV.out u x1 x2 x3 x4).2) (fun u x1 x2 x3 x4=>(BVA.out u x1 x2 x3 x4).2) (fun f x1 x2 x3 x4=>(BN.out f x1 x2 x3 x4).2) H2.out
 have d2:((z:Int)==2)=false:=by
  have:¬ (z:Int)=2:=by omega
  simpa using this
 clear HGf HGk HPp HGv HGi HPe HT;by_cases h3:z=3
 ·have d3:((z:Int)==3)=true:=by rw[h3];rfl
  have H3:=hid h3;clear h1 h2 h3 HN;go_wp2_with fail
  refine((HSd _ _ _ HI3.out hs3').out).mono ?_;rintro en w4 ⟨a4,b4,c4,s4,e4,rfl,hx4,hy4,hz4,k4,h4,hs4,r4⟩;have HI4:=hid h4;have HR4:=hid (HR3.out.keep k4 NR.out);have HU4:=hid (HU3.out.keep k4 NU.out);have HK4:=hid (HK3.out.trans k4);have R4:=hid r4;have hs4':s4.size≤65536:=by omega
  have HS4:=hid (Nat.le_trans hs4 HS3.out);have Z4:=hid (And.intro hx4 (And.intro hy4 hz4));clear hx4 hy4 hz4;clear HI3 HR3 HU3 HK3  k4 h4 r4 hs4 hs3';have cr1:=HU4.out.cell (i:=4) (v:=.int .i64 0) (by rw[zW _ _ (by omega)];rfl);have fr1:=HU4.out.frozen 4;have cr2:=HU4.out.cell (i:=5) (v:=.int .i64 0) (by rw[zW _ _ (by omega)];rfl);have fr2:=HU4.out.frozen 5;have cr3:=HU4.out.cell (i:=6) (v:=.int .i64 0) (by rw[zW _ _ (by omega)];rfl);have fr3:=HU4.out.frozen 6;have lu:=HU4.out.lt;go_wp2_with fail
  have HU5:Hid (Blk ((((w4.setCell ⟨g,4,none⟩ (.int .i64 a4)).setCell ⟨g,5,none⟩ (.int .i64 b4)).setCell ⟨g,6,none⟩ (.int .i64 c4))) g 36 (MsgC.mk z y1 y2 y3 a4 b4 c4 false nilS nilS nilS nilS 0 false nilS vec0 vec0 nilS 0 zj zj).arr):=by
   have h9:=HU4.out.setCells ([.int .i64 a4,.int .i64 b4,.int .i64 c4]) 4 (by rw[zM];show 4+3≤147;omega);rw[zdo (MsgC.mk z y1 y2 y3 0 0 0 false nilS nilS nilS nilS 0 false nilS vec0 vec0 nilS 0 zj zj) (MsgC.mk z y1 y2 y3 a4 b4 c4 false nilS nilS nilS nilS 0 false nilS vec0 vec0 nilS 0 zj zj) 4 [.int .i64 a4,.int .i64 b4,.int .i64 c4] (by show 4+3≤15;omega) rfl rfl] at h9;exact h9
  have kS5:Keep (fun k=>k=g) w4 ((((w4.setCell ⟨g,4,none⟩ (.int .i64 a4)).setCell ⟨g,5,none⟩ (.int .i64 b4)).setCell ⟨g,6,none⟩ (.int .i64 c4))):=Keep.setCells (S:=fun q=>q=g) (.inl rfl) ([.int .i64 a4,.int .i64 b4,.int .i64 c4]) (Keep.refl _ w4) 4;have HI5:=hid (show InAt ((((w4.setCell ⟨g,4,none⟩ (.int .i64 a4)).setCell ⟨g,5,none⟩ (.int .i64 b4)).setCell ⟨g,6,none⟩ (.int .i64 c4))) q s4 e4 from Blk.keep HI4.out kS5 (fun h=>NU.out h.symm));have HR5:=hid (HR4.out.keep kS5 (fun h=>NUR.out h.symm));have HK5:=hid (zaJ HK4.out kS5 (fun k hk=>by rw[hk];exact GU.out));have HS5:=HS4;have hs5':=hs4';clear HI4 HR4 HU4 HK4  kS5 hs4'
  clear cr1 fr1 cr2 fr2 cr3 fr3 lu;generalize (((w4.setCell ⟨g,4,none⟩ (.int .i64 a4)).setCell ⟨g,5,none⟩ (.int .i64 b4)).setCell ⟨g,6,none⟩ (.int .i64 c4))=w5 at HI5 HR5 HU5 HK5  ⊢;obtain⟨X,hX⟩:∃ X,(MsgC.mk z y1 y2 y3 a4 b4 c4 false nilS nilS nilS nilS 0 false nilS vec0 vec0 nilS 0 zj zj).arr=X:=⟨_,rfl⟩
  have hz9:=hid (zM (MsgC.mk z y1 y2 y3 a4 b4 c4 false nilS nilS nilS nilS 0 false nilS vec0 vec0 nilS 0 zj zj));have ho9:=hid (zaw (MsgC.mk z y1 y2 y3 a4 b4 c4 false nilS nilS nilS nilS 0 false nilS vec0 vec0 nilS 0 zj zj));have HXe:=hid hX;rw[hX] at HU5 hz9 ho9;clear hX;go_wp2_with fail
  simp only[Tryz.isAgg36,Tryz.sizeOf36,Result.andThen,↓reduceIte,za HU5.out 147 hz9.out];rw[Oper.upon_value];go_wp2_with fail
  simp only[Tryz.sizeOf36,Result.andThen,↓reduceIte,zg HR5.out (by rw[hz9.out];exact zP) (by rw[hz9.out,HZ.out]) ho9.out,hz9.out];rw[Oper.upon_skip];go_wp2_with fail
  have HF:=hid (HR5.out.setRow X);have kR:Keep (fun g=>g=w.heap.size) w5 _:=Keep.setRow (S:=fun g=>g=w.heap.size) (Keep.refl _ w5) (.inl rfl) X;have HKf:=hid (Keep.setRow (S:=fun g=>g=q) HK5.out (.inr (Nat.le_refl _)) X);refine bodyPost_ret (results_cell_row rfl _ _ w.heap.size 36 _ (0,0) _ rfl HF.out Tryz.underlying36 rfl (by rw[hz9.out];exact zP)) rfl ⟨⟨nilS,nilS,nilS,nilS,nilS,nilS⟩,⟨z,y1,y2,y3,a4,b4,c4,false,[],⟨[],[]⟩,[],0,false,[],vec0,vec0,[],0,zj,zj⟩,by rw[←HXe.out];rfl,⟨zB _ _ _ _,KnowT.nil _,zB _ _ _ _,zB _ _ _ _,zB _ _ _ _⟩,?_,zcm,HKf.out,?_⟩
  ·exact⟨zhh,zgs,Nat.zero_le _,zhi,Nat.zero_le _,zbo,zbo,zhf,Nat.zero_le _,zac Hz.out,⟨zac HY.out.1,zac HY.out.2.1,zac HY.out.2.2⟩,⟨zac Z4.out.1,zac Z4.out.2.1,zac Z4.out.2.2⟩,zbd,zbd,zhg⟩
  ·intro m0 hok hl hg a0 hs0
   exact back3 hok hl a0 hs0 R2.out RY.out R4.out H3.out
 have d3:((z:Int)==3)=false:=by
  have:¬ (z:Int)=3:=by omega
  simpa using this
 clear HSd;by_cases h4:z=4
 ·have d4:((z:Int)==4)=true:=by rw[h4];rfl
  have H4:=hid h4;clear h1 h2 h3 h4;go_wp2_with fail
  refine((HN _ _ _ HI3.out hs3').out).mono ?_;rintro en w4 ⟨z4,s4,e4,rfl,hz4,k4,h4,hs4,r4⟩;have HI4:=hid h4;have HR4:=hid (HR3.out.keep k4 NR.out);have HU4:=hid (HU3.out.keep k4 NU.out);have HK4:=hid (HK3.out.trans k4);have R4:=hid r4;have hs4':s4.size≤65536:=by omega
  have HS4:=hid (Nat.le_trans hs4 HS3.out);have Z4:=hid hz4;clear hz4;clear HI3 HR3 HU3 HK3  k4 h4 r4 hs4 hs3';have ccode:=HU4.out.cell (i:=146) (v:=.int .i64 0) (by rw[show(146:Nat)=145+1 from rfl,zah];rfl);have fcode:=HU4.out.frozen 146;have lu:=HU4.out.lt;go_wp2_with fail
  have HU5:Hid (Blk ((w4.setCell ⟨g,146,none⟩ (.int .i64 z4))) g 36 (MsgC.mk z y1 y2 y3 0 0 0 false nilS nilS nilS nilS 0 false nilS vec0 vec0 nilS z4 zj zj).arr):=by
   have h9:=HU4.out.setCells ([.int .i64 z4]) 146 (by rw[zM];show 146+1≤147;omega);rw[set_CC (MsgC.mk z y1 y2 y3 0 0 0 false nilS nilS nilS nilS 0 false nilS vec0 vec0 nilS 0 zj zj) (MsgC.mk z y1 y2 y3 0 0 0 false nilS nilS nilS nilS 0 false nilS vec0 vec0 nilS z4 zj zj) (.int .i64 z4) rfl rfl rfl rfl rfl] at h9;exact h9
  have kS5:Keep (fun k=>k=g) w4 ((w4.setCell ⟨g,146,none⟩ (.int .i64 z4))):=Keep.setCells (S:=fun q=>q=g) (.inl rfl) ([.int .i64 z4]) (Keep.refl _ w4) 146;have HI5:=hid (show InAt ((w4.setCell ⟨g,146,none⟩ (.int .i64 z4))) q s4 e4 from Blk.keep HI4.out kS5 (fun h=>NU.out h.symm));have HR5:=hid (HR4.out.keep kS5 (fun h=>NUR.out h.symm));have HK5:=hid (zaJ HK4.out kS5 (fun k hk=>by rw[hk];exact GU.out));have HS5:=HS4;have hs5':=hs4';clear HI4 HR4 HU4 HK4  kS5 hs4';clear ccode fcode lu;generalize (w4.setCell ⟨g,146,none⟩ (.int .i64 z4))=w5 at HI5 HR5 HU5 HK5  ⊢
  obtain⟨X,hX⟩:∃ X,(MsgC.mk z y1 y2 y3 0 0 0 false nilS nilS nilS nilS 0 false nilS vec0 vec0 nilS z4 zj zj).arr=X:=⟨_,rfl⟩
  have hz9:=hid (zM (MsgC.mk z y1 y2 y3 0 0 0 false nilS nilS nilS nilS 0 false nilS vec0 vec0 nilS z4 zj zj));have ho9:=hid (zaw (MsgC.mk z y1 y2 y3 0 0 0 false nilS nilS nilS nilS 0 false nilS vec0 vec0 nilS z4 zj zj));have HXe:=hid hX;rw[hX] at HU5 hz9 ho9;clear hX;go_wp2_with fail
  simp only[Tryz.isAgg36,Tryz.sizeOf36,Result.andThen,↓reduceIte,za HU5.out 147 hz9.out];rw[Oper.upon_value];go_wp2_with fail
  simp only[Tryz.sizeOf36,Result.andThen,↓reduceIte,zg HR5.out (by rw[hz9.out];exact zP) (by rw[hz9.out,HZ.out]) ho9.out,hz9.out];rw[Oper.upon_skip];go_wp2_with fail
  have HF:=hid (HR5.out.setRow X);have kR:Keep (fun g=>g=w.heap.size) w5 _:=Keep.setRow (S:=fun g=>g=w.heap.size) (Keep.refl _ w5) (.inl rfl) X;have HKf:=hid (Keep.setRow (S:=fun g=>g=q) HK5.out (.inr (Nat.le_refl _)) X);refine bodyPost_ret (results_cell_row rfl _ _ w.heap.size 36 _ (0,0) _ rfl HF.out Tryz.underlying36 rfl (by rw[hz9.out];exact zP)) rfl ⟨⟨nilS,nilS,nilS,nilS,nilS,nilS⟩,⟨z,y1,y2,y3,0,0,0,false,[],⟨[],[]⟩,[],0,false,[],vec0,vec0,[],z4,zj,zj⟩,by rw[←HXe.out];rfl,⟨zB _ _ _ _,KnowT.nil _,zB _ _ _ _,zB _ _ _ _,zB _ _ _ _⟩,?_,zcm,HKf.out,?_⟩
  ·exact⟨zhh,zgs,Nat.zero_le _,zhi,Nat.zero_le _,zbo,zbo,zhf,Nat.zero_le _,zac Hz.out,⟨zac HY.out.1,zac HY.out.2.1,zac HY.out.2.2⟩,zix,zbd,zac Z4.out,zhg⟩
  ·intro m0 hok hl hg a0 hs0
   exact back4 hok hl a0 hs0 R2.out RY.out R4.out H4.out
 have d4:((z:Int)==4)=false:=by
  have:¬ (z:Int)=4:=by omega
  simpa using this
 have H0:Hid (¬ z=1∧¬ z=2∧¬ z=3∧¬ z=4):=⟨h1,h2,h3,h4⟩
 clear h1 h2 h3 h4 HN;obtain⟨X,hX⟩:∃ X,(MsgC.mk z y1 y2 y3 0 0 0 false nilS nilS nilS nilS 0 false nilS vec0 vec0 nilS 0 zj zj).arr=X:=⟨_,rfl⟩
 have hz9:=hid (zM (MsgC.mk z y1 y2 y3 0 0 0 false nilS nilS nilS nilS 0 false nilS vec0 vec0 nilS 0 zj zj));have ho9:=hid (zaw (MsgC.mk z y1 y2 y3 0 0 0 false nilS nilS nilS nilS 0 false nilS vec0 vec0 nilS 0 zj zj));have HXe:=hid hX;rw[hX] at HU3 hz9 ho9;clear hX;go_wp2_with fail
 simp only[Tryz.isAgg36,Tryz.sizeOf36,Result.andThen,↓reduceIte,za HU3.out 147 hz9.out];rw[Oper.upon_value];go_wp2_with fail
 simp only[Tryz.sizeOf36,Result.andThen,↓reduceIte,zg HR3.out (by rw[hz9.out];exact zP) (by rw[hz9.out,HZ.out]) ho9.out,hz9.out];rw[Oper.upon_skip];go_wp2_with fail
 have HF:=hid (HR3.out.setRow X);have kR:Keep (fun g=>g=w.heap.size) w3 _:=Keep.setRow (S:=fun g=>g=w.heap.size) (Keep.refl _ w3) (.inl rfl) X;have HKf:=hid (Keep.setRow (S:=fun g=>g=q) HK3.out (.inr (Nat.le_refl _)) X);refine bodyPost_ret (results_cell_row rfl _ _ w.heap.size 36 _ (0,0) _ rfl HF.out Tryz.underlying36 rfl (by rw[hz9.out];exact zP)) rfl ⟨⟨nilS,nilS,nilS,nilS,nilS,nilS⟩,⟨z,y1,y2,y3,0,0,0,false,[],⟨[],[]⟩,[],0,false,[],vec0,vec0,[],0,zj,zj⟩,by rw[←HXe.out];rfl,⟨zB _ _ _ _,KnowT.nil _,zB _ _ _ _,zB _ _ _ _,zB _ _ _ _⟩,?_,zcm,HKf.out,?_⟩
 ·exact⟨zhh,zgs,Nat.zero_le _,zhi,Nat.zero_le _,zbo,zbo,zhf,Nat.zero_le _,zac Hz.out,⟨zac HY.out.1,zac HY.out.2.1,zac HY.out.2.2⟩,zix,zbd,zbd,zhg⟩
 ·intro m0 hok hl hg a0 hs0
  exact(back0 hok hl a0 hs0 R2.out H0.out).elim
end
section
open Go.RowKit
theorem MsgT.ext {w w':World} {S:SlM} {m:MsgI} (h:MsgT w S m) (he:Ext w w'):MsgT w' S m:=⟨zz h.f he,h.k.ext he,zz h.held he,zz h.ents he,zz h.not he⟩
theorem MsgT.keepMsg {w w':World} {S:SlM} {m:MsgI} {q:Nat} {cs:Array Value} (h:MsgT w S m) (hb:Blk w q 36 cs) (hk:Keep (fun g=>g=q) w w'):MsgT w' S m:=
 ⟨zw h.f hk (fun g hg hq=>zD h.f hb (by decide) (by rw[←hq];exact hg)),h.k.keepBlk hb (by decide) (by decide) (by decide) (by decide) hk,zw h.held hk (fun g hg hq=>zD h.held hb (by decide) (by rw[←hq];exact hg)),zw h.ents hk (fun g hg hq=>zD h.ents hb (by decide) (by rw[←hq];exact hg)),zw h.not hk (fun g hg hq=>zD h.not hb (by decide) (by rw[←hq];exact hg))⟩
theorem zkz (w:World):MsgT w slM0 msg0:=⟨zB _ _ _ _,KnowT.nil _,zB _ _ _ _,zB _ _ _ _,zB _ _ _ _⟩
theorem zll:MsgOk msg0:=⟨zhh,zgs,Nat.zero_le _,zhi,Nat.zero_le _,zbo,zbo,zhf,Nat.zero_le _,zbd,zix,zix,zbd,zbd,zhg⟩
theorem zig {b:List UInt8} (hb:b.length<9223372036854775808):zbc (zat b)=(b,(zat b).length,0):=by
 have ht:zbA (zat b)=(0,b,crcF b):=zj2 b (crcF b) hb;have hc:chk0 b (crcF b)=0:=by
  unfold chk0;rw[zeW,if_neg (by omega),List.take_of_length_le (by rw[zeW];omega),if_pos rfl]
 unfold zbc;rw[ht];dsimp only;rw[hc,if_neg (by simp),if_neg (by simp),zeW,zbU]
 congr 2
theorem zmA (s:List UInt8):(zbc s).1.length≤s.length:=by
 unfold zbc
 split
 ·simp
 ·split
  ·simp
  ·exact(zg3 s).2
def GetQ (w:World) (s:ByteArray) (en:Ending) (w':World):Prop:=∃ (S:SlM) (m:MsgI) (z:Int),en=.returned (.tuple #[.agg (m.at S).arr,.int .i64 z])∧MsgAt w' S m∧MsgOk m∧KnowG m.k∧Ext w w'∧(z=0→layB m=true∧putZ m=0∧putM m=s)∧(z≠0→m=msg0∧z=if(zbc s.data.toList).2.2=0 then 6 else(zbc s.data.toList).2.2)∧(∀ m0:MsgI,MsgOk m0→layB m0=true→KnowG m0.k→putZ m0=0→s=putM m0→z=0∧m=m0)
theorem zdf {m0:MsgI} (h1:layB m0=true) (h2:putZ m0=0):putM m0=⟨(zat (encL (partsF m0))).toArray⟩∧(encL (partsF m0)).length≤65536:=by
 unfold putZ at h2;rw[if_pos h1] at h2;by_cases h3:fszN (zam m0)≤65536
 ·unfold putM
  rw[if_pos h1,if_pos h3];refine⟨rfl,?_⟩;unfold fszN at h3;have:(zam m0).size=(encL (partsF m0)).length:=rfl;omega
 ·rw[if_neg h3] at h2;cases h2
attribute [-simp] Tryz.isAgg36 Tryz.sizeOf36
theorem znR (w:World) (s:ByteArray) (mx:Int) (hm:w.cell? ⟨0,0,none⟩=some (.int .i64 mx)) (hs:s.size≤65536):Calls Tryz.prog 8 #[.string s] w (GetQ w s):=by
 have HF:=fun W=>hid (first_c W s (by omega));have hb1:(⟨(zbc s.data.toList).1.toArray⟩:ByteArray).size≤65536:=by
  have h1:=zmA s.data.toList;have h2:s.data.toList.length=s.size:=by rw[Array.length_toList];rfl
  show(zbc s.data.toList).1.toArray.size≤_
  rw[List.size_toArray];omega
 have hfr:∀ m0:MsgI,layB m0=true→putZ m0=0→s=putM m0→(zbc s.data.toList).2.2=0∧(zbc s.data.toList).2.1=s.size∧(⟨(zbc s.data.toList).1.toArray⟩:ByteArray)=zam m0:=fun m0 a1 a2 a3=>by
  obtain⟨b1,b2⟩:=zdf a1 a2;have e:s.data.toList=zat (encL (partsF m0)):=by rw[a3,b1]
  have hl:s.data.toList.length=s.size:=by rw[Array.length_toList];rfl
  rw[e] at hl⊢;rw[zig (by omega)];exact⟨rfl,hl,rfl⟩
 unfold zfj at HF;have HQ:Hid (∀ en w',GetQ w s en w' = ∃ (S:SlM) (m:MsgI) (z:Int),en=.returned (.tuple #[.agg (m.at S).arr,.int .i64 z])∧MsgAt w' S m∧MsgOk m∧KnowG m.k∧Ext w w'∧(z=0→layB m=true∧putZ m=0∧putM m=s)∧(z≠0→m=msg0∧z=if(zbc s.data.toList).2.2=0 then 6 else(zbc s.data.toList).2.2)∧(∀ m0:MsgI,MsgOk m0→layB m0=true→KnowG m0.k→putZ m0=0→s=putM m0→z=0∧m=m0)):=fun _ _=>rfl;generalize hGQ:GetQ w s=GQ at HQ⊢;clear hGQ;generalize (⟨(zbc s.data.toList).1.toArray⟩:ByteArray)=b at HF hb1 hfr;generalize (zbc s.data.toList).2.1=n at HF hfr
 generalize (zbc s.data.toList).2.2=z1 at HF hfr HQ;have HFr:=hid hfr;have HM:=hid hm;have HZ:=hid (zM msgZ);have HZ1:=hid (zaw msgZ);have HR0:=hid (Blk.new w 36 msgZ.arr);have HE0:=hid (Ext.alloc w (.cells msgZ.arr 36));have HSz:=hid hs;clear hm hfr hs;go_enter Tryz.func8,Tryz.ntmps8;go_wp2_with fail
 rw[za6];generalize w.alloc (.cells msgZ.arr 36)=w1 at HR0 HE0⊢;refine((HF _).out).mono ?_;rintro en w2 ⟨rfl,x2⟩;have HR2:=hid (HR0.out.ext x2);have HE2:=hid (HE0.out.trans x2);clear x2 HR0 HE0 HF;by_cases h1:z1=0
 rotate_left
 ·have d1:(z1 != 0)=true:=by simpa using h1
  have H1:=hid h1;clear h1;go_wp2_with fail
  rw[za6];simp only[Tryz.sizeOf36,Result.andThen,↓reduceIte,zg HR2.out (by rw[HZ.out];exact zP) (by first | rfl | rw[HZ.out,HZ.out]) HZ1.out,HZ.out];rw[Oper.upon_skip];go_wp2_with fail
  have HF:=hid (HR2.out.setRow msgZ.arr);have HEf:=hid (Ext.setRow HE2.out (Nat.le_refl _) msgZ.arr);refine bodyPost_ret (zv rfl _ _ w.heap.size 36 _ (0,0) _ rfl HF.out Tryz.underlying36 rfl (by rw[HZ.out];exact zP)) rfl ?_;rw[HQ.out];exact⟨slM0,msg0,z1,rfl,(zkz _).at,zll,zcm,HEf.out,fun h=>absurd h H1.out,fun _=>⟨rfl,by rw[if_neg H1.out]⟩,fun m0 a1 a2 a3 a4 a5=>absurd (HFr.out m0 a2 a4 a5).1 H1.out⟩
 ·have d1:(z1 != 0)=false:=by rw[h1];rfl
  have H1:=hid h1;have HO:=fun W=>hid (zcj W b);clear h1;go_wp2_with fail
  refine((HO _).out).mono ?_;rintro en w3 ⟨v,rfl,⟨q,rfl,hq,hI⟩,x3⟩;have hw0:=HR2.out.lt;have hq0:0<q:=by omega
  have HR3:=hid (HR2.out.ext x3);have HE3:=hid (HE2.out.trans x3);have HRd:=hid (mread_c w3 q b 0 mx (HE3.out.cell HM.out) hq0 hI hb1);have HQw:Hid (w.heap.size<q):=by unfold Hid;omega
  clear hw0 hq hI x3 hq0 HR2 HE2 HO;go_wp2_with fail
  refine(HRd.out).mono ?_;rintro en w4 ⟨S,m,rfl,hT,hok,hkg,k4,hbk⟩;have HR4:=hid (HR3.out.keep k4 (fun h=>by have:=HQw.out;omega));have HE4:=hid (Ext.of_below ((Keep.trans (Keep.of_ext (S:=fun g=>g=q) HE3.out) k4).below (Nat.le_refl _) fun k hk=>by have:=HQw.out;omega));have HT4:=hid hT;have HOk:=hid hok;have HKg:=hid hkg;have HBk:=hid hbk;have hz:=hid (zM (m.at S));have ho:=hid (zaw (m.at S));have HPut:=fun W (hW:Ext w W) (hA:MsgAt W S m)=>hid (znQ W S m mx (hW.cell HM.out) hA hok);obtain⟨X,hX⟩:∃ X,(m.at S).arr=X:=⟨_,rfl⟩
  have HXe:=hid hX;rw[hX] at hz ho HPut⊢;clear hX hT hok hkg k4 hbk HR3 HE3 HRd;go_wp2_with fail
  rw[za6];have HB3:=hid (Blk.new w4 36 msgZ.arr);simp only[Tryz.sizeOf36,Result.andThen,↓reduceIte,zg HB3.out (by rw[hz.out];exact zP) (by first | rfl | rw[hz.out,HZ.out]) ho.out,hz.out];rw[Oper.upon_skip];rw[World.setRow_alloc_new];have HR5:=hid (HR4.out.ext (Ext.alloc w4 (.cells X 36)));have HE5:=hid (HE4.out.alloc' (.cells X 36));have HT5:=hid (HT4.out.ext (Ext.alloc w4 (.cells X 36)));have HX5:=hid (Blk.new w4 36 X);clear HB3 HR4 HE4 HT4;generalize w4.alloc (.cells X 36)=w5 at HR5 HE5 HT5 HX5⊢;generalize w4.heap.size=g at HX5⊢;have lg:=HX5.out.lt;go_wp2_with fail
  simp only[Tryz.isAgg36,Tryz.sizeOf36,Result.andThen,↓reduceIte,za HX5.out 147 hz.out];rw[Oper.upon_value];go_wp2_with fail
  refine((HPut _ HE5.out HT5.out.at).out).mono ?_;rintro en w6 ⟨rfl,x6⟩;have HR6:=hid (HR5.out.ext x6);have HE6:=hid (HE5.out.trans x6);have HT6:=hid (HT5.out.ext x6);have HX6:=hid (HX5.out.ext x6);clear x6 HR5 HE5 HT5 HX5 HPut lg;have lg:=HX6.out.lt;by_cases hc:n=s.size∧putZ m=0∧putM m=s
  ·have d2:((n:Int) != (s.size:Int))=false:=by rw[hc.1];simp
   have d3:(putZ m != 0)=false:=by rw[hc.2.1];rfl
   have d4:((putM m).toList==s.toList)=true:=by rw[hc.2.2];simp
   have HC:=hid hc;have HLay:Hid (layB m=true):=by
    unfold Hid;have h2:=hc.2.1;unfold putZ at h2;cases hl:layB m with
    | true=>rfl
    | false=>rw[hl] at h2;cases h2
   clear hc;go_wp2_with fail
   simp only[Tryz.isAgg36,Tryz.sizeOf36,Result.andThen,↓reduceIte,za HX6.out 147 hz.out];rw[Oper.upon_value];go_wp2_with fail
   simp only[Tryz.sizeOf36,Result.andThen,↓reduceIte,zg HR6.out (by rw[hz.out];exact zP) (by first | rfl | rw[hz.out,HZ.out]) ho.out,hz.out];rw[Oper.upon_skip];go_wp2_with fail
   have HF:=hid (HR6.out.setRow X);have HEf:=hid (Ext.setRow HE6.out (Nat.le_refl _) X);have HTf:=hid (HT6.out.keepMsg HR6.out (Keep.setRow (S:=fun g=>g=w.heap.size) (Keep.refl _ w6) (.inl rfl) X));refine bodyPost_ret (zv rfl _ _ w.heap.size 36 _ (0,0) _ rfl HF.out Tryz.underlying36 rfl (by rw[hz.out];exact zP)) rfl ?_;rw[HQ.out];exact⟨S,m,0,by rw[HXe.out];rfl,HTf.out.at,HOk.out,HKg.out,HEf.out,fun _=>⟨HLay.out,HC.out.2.1,HC.out.2.2⟩,fun h=>absurd rfl h,fun m0 a1 a2 a3 a4 a5=>⟨rfl,HBk.out m0 a1 a2 a3 trivial (HFr.out m0 a2 a4 a5).2.2⟩⟩
  ·have HNo:Hid (∀ m0:MsgI,MsgOk m0→layB m0=true→KnowG m0.k→putZ m0=0→s=putM m0→False):=fun m0 a1 a2 a3 a4 a5=>by
    obtain⟨b1,b2,b3⟩:=HFr.out m0 a2 a4 a5;obtain rfl:=HBk.out m0 a1 a2 a3 trivial b3;exact hc ⟨b2,a4,a5.symm⟩
   have HEnd:∀ (en:Ending) (W:World),en=.returned (.tuple #[.agg msgZ.arr,.int .i64 6])→Hid (Ext w W)→Hid (GQ en W):=fun en W he hE=>by
    unfold Hid;subst he;rw[HQ.out];exact⟨slM0,msg0,6,rfl,(zkz _).at,zll,zcm,hE.out,fun h=>absurd h (by decide),fun _=>⟨rfl,by rw[if_pos H1.out]⟩,fun m0 a1 a2 a3 a4 a5=>(HNo.out m0 a1 a2 a3 a4 a5).elim⟩
   by_cases c1:n=s.size
   ·have d2:((n:Int) != (s.size:Int))=false:=by rw[c1];simp
    by_cases c2:putZ m=0
    ·have c3:¬ putM m=s:=fun h=>hc ⟨c1,c2,h⟩
     have d3:(putZ m != 0)=false:=by rw[c2];rfl
     have d4:((putM m).toList==s.toList)=false:=by rw[zaI];exact decide_eq_false c3
     clear hc c1 c2 c3;go_wp2_with fail
     rw[za6];simp only[Tryz.sizeOf36,Result.andThen,↓reduceIte,zg HR6.out (by rw[HZ.out];exact zP) (by first | rfl | rw[HZ.out,HZ.out]) HZ1.out,HZ.out];rw[Oper.upon_skip];go_wp2_with fail
     have HF:=hid (HR6.out.setRow msgZ.arr);have HEf:=hid (Ext.setRow HE6.out (Nat.le_refl _) msgZ.arr);refine bodyPost_ret (zv rfl _ _ w.heap.size 36 _ (0,0) _ rfl HF.out Tryz.underlying36 rfl (by rw[HZ.out];exact zP)) rfl ?_;refine Hid.out (HEnd _ _ ?_ HEf);exact rfl
    ·have d3:(putZ m != 0)=true:=by simpa using c2
     clear hc c1 c2;go_wp2_with fail
     rw[za6];simp only[Tryz.sizeOf36,Result.andThen,↓reduceIte,zg HR6.out (by rw[HZ.out];exact zP) (by first | rfl | rw[HZ.out,HZ.out]) HZ1.out,HZ.out];rw[Oper.upon_skip];go_wp2_with fail
     have HF:=hid (HR6.out.setRow msgZ.arr);have HEf:=hid (Ext.setRow HE6.out (Nat.le_refl _) msgZ.arr);refine bodyPost_ret (zv rfl _ _ w.heap.size 36 _ (0,0) _ rfl HF.out Tryz.underlying36 rfl (by rw[HZ.out];exact zP)) rfl ?_;refine Hid.out (HEnd _ _ ?_ HEf);exact rfl
   ·have d2:((n:Int) != (s.size:Int))=true:=by
     have:¬ (n:Int)=s.size:=by omega
     simpa using this
    clear hc c1;go_wp2_with fail
    rw[za6];simp only[Tryz.sizeOf36,Result.andThen,↓reduceIte,zg HR6.out (by rw[HZ.out];exact zP) (by first | rfl | rw[HZ.out,HZ.out]) HZ1.out,HZ.out];rw[Oper.upon_skip];go_wp2_with fail
    have HF:=hid (HR6.out.setRow msgZ.arr);have HEf:=hid (Ext.setRow HE6.out (Nat.le_refl _) msgZ.arr);refine bodyPost_ret (zv rfl _ _ w.heap.size 36 _ (0,0) _ rfl HF.out Tryz.underlying36 rfl (by rw[HZ.out];exact zP)) rfl ?_;refine Hid.out (HEnd _ _ ?_ HEf);exact rfl
end
section
open Go.RowKit
theorem body_c (w:World) (S:SlM) (a:MsgI) (ha:MsgAt w S a) (hok:MsgOk a) (hl:layB a=true):Calls Tryz.prog 35 #[.agg (a.at S).arr] w (Ret (.string (zam a)) w):=by
 rcases rest_kind (zcx hl) with k | k | k | k
 ·exact body1_c w S a ha hok hl k
 ·exact body2_c w S a ha hok hl k
 ·exact body3_c w S a ha hok hl k
 ·exact body4_c w S a ha hok hl k
attribute [-simp] Tryz.isAgg36 Tryz.sizeOf36
theorem znk (w:World) (S:SlM) (a:MsgI) (ha:MsgAt w S a) (hok:MsgOk a) (hl:layB a=true) (hp:putZ a=0):Calls Tryz.prog 10 #[.agg (a.at S).arr] w (Ret (.string (putM a)) w):=by
 obtain⟨e1,e2⟩:=zdf hl hp;have HBo:=fun W (hW:Ext w W)=>hid (body_c W S a (ha.ext hW) hok hl);have HO:=fun W=>hid (ziQ W (zam a) (by show(encL (partsF a)).toArray.size≤100000;rw[List.size_toArray];omega));have he:(⟨(zat (zam a).data.toList).toArray⟩:ByteArray)=putM a:=by rw[e1];rfl
 rw[he] at HO;have hz:=hid (zM (a.at S));clear he e1 e2 hp hl ha hok;generalize putM a=pm at HO⊢;generalize zam a=bo at HBo HO;generalize (a.at S).arr=ar at HBo hz⊢;have HBa:=hid (Blk.new w 36 ar);have HX:=hid (Ext.alloc w (.cells ar 36));have la:=HBa.out.lt;go_enter Tryz.func10,Tryz.ntmps10;go_wp2_with fail
 simp only[Tryz.isAgg36,Tryz.sizeOf36,Result.andThen,↓reduceIte,za HBa.out 147 hz.out];rw[Oper.upon_value];go_wp2_with fail
 refine((HBo _ HX.out).out).mono ?_;rintro en w2 ⟨rfl,x2⟩;have HX2:=hid (HX.out.trans x2);clear x2;go_wp2_with fail
 refine((HO _).out).mono ?_;rintro en w3 ⟨rfl,x3⟩;have HX3:=hid (HX2.out.trans x3);clear x3;go_wp2_with fail
 go_ret;exact⟨rfl,HX3.out⟩
end
section
open Go.RowKit
def ackM:MsgI:=⟨3,1,1,1,2,1,1,false,[],⟨[],[]⟩,[],0,false,[],vec0,vec0,[],0,zj,zj⟩
theorem zfW:layB ackM=true:=by
 have h1:decide (ackM=zT ackM)=true:=decide_eq_true rfl;have h2:sidB ackM.s1 ackM.s2 ackM.s3=true:=by decide
 have h3:za8 ackM=true:=by decide
 unfold layB;rw[h1,h2,h3];rfl
theorem zoB:MsgOk ackM:=⟨zhh,zgs,Nat.zero_le _,zhi,Nat.zero_le _,zbo,zbo,zhf,Nat.zero_le _,by unfold in64;decide,by unfold in64;decide,by unfold in64;decide,zbd,zbd,zhg⟩
theorem zfa {z:Int} (h:0≤z) (h2:z≤127):numB z=⟨#[UInt8.ofNat z.toNat]⟩:=by
 apply zez;rw[zF h,zaL (by omega)]
theorem zjX:zam ackM=⟨#[3,1,1,1,2,1,1]⟩:=by
 rw[←zk1 zfW rfl]
 show(numB 3++((numB 1++numB 1)++numB 1))++((numB 2++numB 1)++numB 1)=_
 rw[zfa (z:=3) (by decide) (by decide),zfa (z:=1) (by decide) (by decide),zfa (z:=2) (by decide) (by decide)];rfl
theorem zjW:(zam ackM).size≤65000:=by rw[zjX];decide
theorem zjV:putZ ackM=0:=zjb zfW zjW
theorem zlB:putM ackM=⟨(zat (⟨#[3,1,1,1,2,1,1]⟩:ByteArray).data.toList).toArray⟩:=by rw[zlo zfW zjW,zjX]
theorem ack_len:(putM ackM).size≤100:=by
 rw[zlB]
 show(zat [3,1,1,1,2,1,1]).toArray.size≤100
 rw[List.size_toArray,zbU];rw[zaL (by decide)]
 decide
theorem znP:msg0.at slM0=msgZ:=rfl
theorem zoD (w:World):MsgAt w slM0 ackM:=⟨Sl.nil w 3,⟨FragsAt.nil w,Sl.nil w 67⟩,Sl.nil w 4,Sl.nil w 21,Sl.nil w 2⟩
theorem ack_arr:(((((((Tryz.zeroCells36.setIfInBounds 0 (.int .i64 3)).setIfInBounds 1 (.int .i64 1)).setIfInBounds 2 (.int .i64 1)).setIfInBounds 3 (.int .i64 1)).setIfInBounds 4 (.int .i64 2)).setIfInBounds 5 (.int .i64 1)).setIfInBounds 6 (.int .i64 1))=(ackM.at slM0).arr:=by kernel_rfl
theorem zoC:(((((((Tryz.zeroCells36.toList.set 0 (.int .i64 3)).set 1 (.int .i64 1)).set 2 (.int .i64 1)).set 3 (.int .i64 1)).set 4 (.int .i64 2)).set 5 (.int .i64 1)).set 6 (.int .i64 1))=(ackM.at slM0).arr.toList:=by kernel_rfl
attribute [-simp] Tryz.isAgg36 Tryz.sizeOf36
theorem zmX (w:World) (mx:Int) (hm:w.cell? ⟨0,0,none⟩=some (.int .i64 mx)):Calls Tryz.prog 7 #[] w (Ret (.bool true) w):=by
 have HPu:=fun W (hW:Ext w W)=>hid (znQ W slM0 ackM mx (hW.cell hm) (zoD W) zoB);have HGe:=fun W (hW:Ext w W)=>hid (znR W (putM ackM) mx (hW.cell hm) (by have:=ack_len;omega));have HOn:=fun W=>hid (ziQ W ⟨#[3,1,1,1,2,1,1]⟩ (by decide));rw[←zlB] at HOn;rw[zjV] at HPu;have HSa:=fun W (S:SlM) (hS:MsgAt W S ackM)=>hid (zg4 rfl hS (zoD W));have hbk:∀ (z:Int) (m:MsgI),(∀ m0:MsgI,MsgOk m0→layB m0=true→KnowG m0.k→putZ m0=0→putM ackM=putM m0→z=0∧m=m0)→z=0∧m=ackM:=fun z m h=>h ackM zoB zfW zcm zjV rfl;have HBk:=hid hbk;clear hm hbk
 generalize putM ackM=s at HPu HGe HOn HBk;have hA:=ack_arr;have hL:=zoC;have hz:=hid (zM (ackM.at slM0));have ho:=hid (zaw (ackM.at slM0));generalize (ackM.at slM0).arr=ar at HPu HSa hA hL hz ho;have HA:=hid hA;have HL:=hid hL;clear hA hL;have HZ:=hid (zM msgZ);go_enter Tryz.func7,Tryz.ntmps7;go_wp2_with fail
 rw[HA.out,HL.out,za6];have HB3:=hid (Blk.new (w.alloc (.cells #[.int .i64 1,.int .i64 1,.int .i64 1] 24)) 36 msgZ.arr);rw[World.size_alloc] at HB3;simp only[Tryz.sizeOf36,Result.andThen,↓reduceIte,zg HB3.out (by rw[hz.out];exact zP) (by first | rfl | rw[hz.out,HZ.out]) ho.out,hz.out];rw[Oper.upon_skip];have hset:=World.setRow_alloc_new (w.alloc (.cells #[.int .i64 1,.int .i64 1,.int .i64 1] 24)) msgZ.arr ar 36;rw[World.size_alloc] at hset;rw[hset];clear hset HB3;have HX1:=hid ((Ext.alloc w (.cells #[.int .i64 1,.int .i64 1,.int .i64 1] 24)).alloc' (.cells ar 36))
 have HB1:Hid (Blk ((w.alloc (.cells #[.int .i64 1,.int .i64 1,.int .i64 1] 24)).alloc (.cells ar 36)) (w.heap.size+1) 36 ar):=by
  have h:=Blk.new (w.alloc (.cells #[.int .i64 1,.int .i64 1,.int .i64 1] 24)) 36 ar;rw[World.size_alloc] at h;exact h
 generalize (w.alloc (.cells #[.int .i64 1,.int .i64 1,.int .i64 1] 24)).alloc (.cells ar 36)=w1 at HX1 HB1⊢;have la:=HB1.out.lt;go_wp2_with fail
 simp only[Tryz.isAgg36,Tryz.sizeOf36,Result.andThen,↓reduceIte,za HB1.out 147 hz.out];rw[Oper.upon_value];go_wp2_with fail
 refine((HPu _ HX1.out).out).mono ?_;rintro en w2 ⟨rfl,x2⟩;have HX2:=hid (HX1.out.trans x2);have HB2:=hid (HB1.out.ext x2);clear x2 HX1 HB1 la HPu;go_wp2_with fail
 refine((HGe _ HX2.out).out).mono ?_;rintro en w3 ⟨S,m,z,rfl,hma,-,-,x3,-,-,hbk⟩;obtain⟨rfl,rfl⟩:=HBk.out z m hbk;have HX3:=hid (HX2.out.trans x3);have HB3:=hid (HB2.out.ext x3);have HMa:=hid hma;have hg:w.heap.size+1≠w3.heap.size:=by have:=HB3.out.lt;omega
 have HG:=hid hg;have hz2:=hid (zM (ackM.at S));have ho2:=hid (zaw (ackM.at S));have HSa:=fun W (hW:Ext w3 W)=>HSa W S (HMa.out.ext hW);clear x3 hma hbk HX2 HB2 HGe HBk hg HMa;generalize (ackM.at S).arr=X at hz2 ho2 HSa⊢;go_wp2_with fail
 rw[za6];have HC3:=hid (Blk.new w3 36 msgZ.arr);simp only[Tryz.sizeOf36,Result.andThen,↓reduceIte,zg HC3.out (by rw[hz2.out];exact zP) (by first | rfl | rw[hz2.out,HZ.out]) ho2.out,hz2.out];rw[Oper.upon_skip];rw[World.setRow_alloc_new];have HX4:=hid (HX3.out.alloc' (.cells X 36));have HY4:=hid (Ext.alloc w3 (.cells X 36));have HB4:=hid (HB3.out.ext (Ext.alloc w3 (.cells X 36)));have HC4:=hid (Blk.new w3 36 X);clear HC3 HX3 HB3 HG;generalize w3.alloc (.cells X 36)=w4 at HX4 HY4 HB4 HC4⊢;generalize w3.heap.size=g at HC4⊢;have hss:(s.toList==s.toList)=true:=by simp
 go_wp2_with fail
 refine((HOn _).out).mono ?_;rintro en w5 ⟨rfl,x5⟩;have HX5:=hid (HX4.out.trans x5);have HY5:=hid (HY4.out.trans x5);have HB5:=hid (HB4.out.ext x5);have HC5:=hid (HC4.out.ext x5);clear x5 HX4 HY4 HB4 HC4 HOn;have la:=HB5.out.lt;have lb:=HC5.out.lt;go_wp2_with fail
 simp only[Tryz.isAgg36,Tryz.sizeOf36,Result.andThen,↓reduceIte,za HC5.out 147 hz2.out];rw[Oper.upon_value];go_wp2_with fail
 simp only[Tryz.isAgg36,Tryz.sizeOf36,Result.andThen,↓reduceIte,za HB5.out 147 hz.out];rw[Oper.upon_value];go_wp2_with fail
 refine((HSa _ HY5.out).out).mono ?_;rintro en w6 ⟨rfl,x6⟩;have HX6:=hid (HX5.out.trans x6);clear x6 HX5 HY5 HB5 HC5 HSa la lb;go_wp2_with fail
 go_ret;exact⟨rfl,HX6.out⟩
end
section
open Go.RowKit
theorem zn0 (w:World) (S:SlM) (m:MsgI) (ha:MsgAt w S m):Calls Tryz.prog 13 #[.agg (m.at S).arr] w (Ret (.bool (zcS m)) w):=by
 have n1:=sl_n ha.held;have n2:=sl_n ha.not;obtain⟨_,_,_,b1,b2,_⟩:=zC ha.held;obtain⟨_,_,_,b3,b4,_⟩:=zC ha.not;exact zmi w (m.at S) m.f m.held.length m.not.length m.ents ha.f n1 n2 ha.ents (Nat.le_trans b1 b2) (Nat.le_trans b3 b4)
def SlM.know (S:SlM) (u v:SlV):SlM:=⟨S.f,u,v,S.held,S.ents,S.not⟩
theorem zni (m:MsgI) (S:SlM) (u v:SlV):(((m.at S).arr.setIfInBounds 9 u.val).setIfInBounds 10 v.val)=((zdA m).at (S.know u v)).arr:=rfl
theorem zmk {m:MsgI} (h:zcS m=true) (h64:∀ v∈m.not,zaM v) (hk:(zad m.k).size≤50000):layB m=zbb m:=by
 unfold zcS zcC at h;simp only[Bool.and_eq_true,decide_eq_true_eq] at h;have h9:=zaK verB m.not 18 40 (by decide) h.2.2.2.1 (by decide) (fun x hx=>zeD (h64 x hx));rw[Bool.eq_iff_iff];refine lay_iff.trans ⟨fun h=>h.1,fun h=>⟨h,fun _=>by omega,fun _=>by rw[zap];omega⟩⟩
theorem put_len {m:MsgI} (h:layB m=true) (hs:(zam m).size≤65000):(putM m).size≤65536:=by
 rw[zlo h hs]
 show(zat _).toArray.size≤_
 rw[List.size_toArray,zbU];have h2:(zam m).data.toList.length=(zam m).size:=by rw[Array.length_toList];rfl
 rw[h2];have h9:=zcl (n:=(zam m).size) (by omega);omega
end
section
open Go.RowKit
theorem zmU (w:World) (e:TypeId) (s:ByteArray):Ext w (Lib.bytesWorld w e s):=
 ⟨rfl,rfl,rfl,by rw[Lib.bytesWorld_size];omega,fun k hk=>Lib.bytesWorld_at_old w e s k hk⟩
theorem ziq (w:World) (e:TypeId) (s:ByteArray) (j:Nat) (hj:j<s.size):(Lib.bytesWorld w e s).frozen? ⟨w.heap.size,j,none⟩=false:=by
 simp[World.frozen?,Lib.bytesWorld_at_new,Lib.bytesCells];omega
theorem zjD (w:World) (g c:Nat) (l:List UInt8) (h:∀ j (hj:j<l.length),w.cell? ⟨g,j,none⟩=some (.int .u8 l[j].toNat)):(convert 48 9 (.slice (some ⟨g,0,none⟩) l.length c)).run Tryz.prog w=.ok (.string ⟨l.toArray⟩) w:=by
 rw[run_convert_bytes_string _ _ _ 5 _ _ _ Tryz.underlying48 Tryz.underlying5 Tryz.underlying9];rw[run_bytesToString _ _ _ _ (l.map fun b=>((b.toNat:Nat):Int)) ?_]
 ·rw[zhs]
  have e0:ByteArray.empty.data=#[]:=rfl;rw[e0,Array.empty_append]
 ·have:=run_loadCells_list (P:=Tryz.prog) w ⟨g,0,none⟩ (l.map fun b=>Value.int .u8 b.toNat) (fun j v hv=>by
   rw[List.getElem?_map] at hv;obtain⟨x,hx,rfl⟩:=Option.map_eq_some_iff.1 hv;obtain⟨hj,he⟩:=List.getElem?_eq_some_iff.1 hx;have:=h j hj;rw[he] at this;rw[Addr.add_lit];simpa using this)
  rw[List.length_map] at this;rw[this,List.map_map];rfl
theorem zlE {m m':MsgI} (h1:layB m=true) (z1:putZ m=0) (h2:layB m'=true) (z2:putZ m'=0) {i:Nat} {d:UInt8} (hi:i<(putM m).data.toList.length) (h:putM m'=⟨((putM m).data.toList.set i d).toArray⟩):d=(putM m).data.toList[i]:=by
 obtain⟨e1,_⟩:=zdf h1 z1;obtain⟨e2,_⟩:=zdf h2 z2;have a1:(putM m).data.toList=zat (encL (partsF m)):=by rw[e1]
 have a2:(putM m).data.toList.set i d=zat (encL (partsF m')):=by
  have h3:=congrArg (fun b:ByteArray=>b.data.toList) (h.symm.trans e2);simpa using h3
 generalize (putM m).data.toList=l at hi a1 a2⊢;rw[List.set_eq_take_append_cons_drop,if_pos hi] at a2;have a3:zat (encL (partsF m))=l.take i++l[i]::l.drop (i+1):=by
  rw[←a1,←List.drop_eq_getElem_cons hi,List.take_append_drop]
 exact(zic a3 a2.symm).symm
theorem zlP (w:World) (k:Nat) (h:k<8):(Op.shift BinOp.shl .u8 1 .u8 (k:Int)).run Tryz.prog w=.ok (.int .u8 ((2^k:Nat):Int)) w:=by
 rcases(by omega:k=0∨k=1∨k=2∨k=3∨k=4∨k=5∨k=6∨k=7) with rfl | rfl | rfl | rfl | rfl | rfl | rfl | rfl <;> rfl
theorem xor_ne (b:Nat) (k:Nat):b^^^2^k≠b:=by
 intro h;have h1:=congrArg (fun n=>n.testBit k) h;simp[Nat.testBit_xor,Nat.testBit_two_pow_self] at h1
theorem bits_u8 {a b:Nat} (ha:a<256) (hb:b<256):bits .xor .u8 (a:Int) (b:Int)=((a^^^b:Nat):Int):=by
 have h:=Nat.xor_lt_two_pow (n:=8) ha hb;have h1:(BitVec.ofInt 8 (a:Int)).toNat=a:=by
  rw[BitVec.ofInt_natCast,BitVec.toNat_ofNat];exact Nat.mod_eq_of_lt (by omega)
 have h2:(BitVec.ofInt 8 (b:Int)).toNat=b:=by
  rw[BitVec.ofInt_natCast,BitVec.toNat_ofNat];exact Nat.mod_eq_of_lt (by omega)
 show IntKind.u8.wrap ((BitVec.ofInt 8 (a:Int)^^^BitVec.ofInt 8 (b:Int)).toNat:Int)=_
 rw[BitVec.toNat_xor,h1,h2]
 show((a^^^b:Nat):Int)%256=_
 omega
theorem zm1 (b:UInt8) (k:Nat) (h:k<8):∃ d:UInt8,bits .xor .u8 (b.toNat:Int) (2^k%256)=(d.toNat:Int)∧d≠b:=by
 have hb:b.toNat<256:=b.toNat_lt;have hk:2^k<256:=Nat.pow_lt_pow_right (by omega) h;have hx:=Nat.xor_lt_two_pow (n:=8) hb hk;have e:((2:Int)^k%256)=((2^k:Nat):Int):=by
  have h1:((2:Int)^k)=((2^k:Nat):Int):=by simp
  rw[h1];exact Int.emod_eq_of_lt (Int.natCast_nonneg _) (Int.ofNat_lt.2 hk)
 refine⟨UInt8.ofNat (b.toNat^^^2^k),?_,fun hd=>xor_ne b.toNat k ?_⟩
 ·rw[e,bits_u8 hb hk,UInt8.toNat_ofNat']
  rw[Nat.mod_eq_of_lt (by omega)]
 ·have h2:=congrArg UInt8.toNat hd
  rw[UInt8.toNat_ofNat',Nat.mod_eq_of_lt (by omega)] at h2;exact h2
theorem zmT {w:World} {g i:Nat} {l:List UInt8} {d:UInt8} (hi:i<l.length) (h:∀ j (hj:j<l.length),w.cell? ⟨g,j,none⟩=some (.int .u8 l[j].toNat)):∀ j (hj:j<(l.set i d).length),(w.setCell ⟨g,i,none⟩ (.int .u8 d.toNat)).cell? ⟨g,j,none⟩=some (.int .u8 (l.set i d)[j].toNat):=by
 intro j hj;rw[List.length_set] at hj;by_cases e:i=j
 ·subst e
  rw[List.getElem_set_self];exact World.cell?_setCell_same _ _ _ (h i hi)
 ·rw[List.getElem_set_ne e]
  rw[←h j hj];exact World.cell?_setCell_other _ _ _ _ (by intro h9;injection h9 with _ h9 _;exact e h9)
end
section
open Go.RowKit
attribute [-simp] Tryz.isAgg36 Tryz.sizeOf36
theorem ziB (w:World) (S:SlM) (a:MsgI) (mx:Int) (hm:w.cell? ⟨0,0,none⟩=some (.int .i64 mx)) (ha:MsgAt w S a) (hin:MsgInI a) (at_ bit:Int) (hat:0≤at_∧at_<65536) (hbit:0≤bit∧bit<256):Calls Tryz.prog 4 #[.agg (a.at S).arr,.int .u16 at_,.int .u8 bit] w (Ret (.bool true) w):=by
 have HAw:=fun W (hW:Ext w W)=>hid (zmX W mx (hW.cell hm));have HLi:=fun W (hW:Ext w W)=>hid (zn0 W S a (ha.ext hW));have HSn:=fun W (hW:Ext w W)=>hid (zlO w W S.k1.val S.k2.val a.k ha.k hW);have hz:=hid (zM (a.at S));have HA:=hid (zW (a.at S));generalize har:(a.at S).arr=ar at HLi hz HA⊢;have HAr:=hid har;clear har;have HB0:=hid (Blk.new w 36 ar);have HX0:=hid (Ext.alloc w (.cells ar 36));have la:=HB0.out.lt;cases hl:zcS a with
 | false=>
  rw[hl] at HLi;clear hm ha hin hl HSn HA HAr;go_enter Tryz.func4,Tryz.ntmps4;go_wp2_with fail
  simp only[Tryz.isAgg36,Tryz.sizeOf36,Result.andThen,↓reduceIte,za HB0.out 147 hz.out];rw[Oper.upon_value];go_wp2_with fail
  refine((HLi _ HX0.out).out).mono ?_;rintro en w1 ⟨rfl,x1⟩;have HX1:=hid (HX0.out.trans x1);clear x1;go_wp2_with fail
  refine((HAw _ HX1.out).out).mono ?_;rintro en w2 ⟨rfl,x2⟩;have HX2:=hid (HX1.out.trans x2);clear x2;go_wp2_with fail
  go_ret;exact⟨rfl,HX2.out⟩
 | true=>
  obtain⟨hok,hle,hkg,hks⟩:=sane_ok hin hl;have hlm:zcS (zdA a)=true:=hl;have hlr:=zmk hlm hok.not hks;rw[hl] at HLi;have HRt:=fun W S' (h:MsgAt W S' (zdA a))=>hid (zlU W S' (zdA a) h hok hle);have hzz:=fun S'=>hid (zM ((zdA a).at S'));go_enter Tryz.func4,Tryz.ntmps4;go_wp2_with fail
  simp only[Tryz.isAgg36,Tryz.sizeOf36,Result.andThen,↓reduceIte,za HB0.out 147 hz.out];rw[Oper.upon_value];go_wp2_with fail
  refine((HLi _ HX0.out).out).mono ?_;rintro en w1 ⟨rfl,x1⟩;have HX1:=hid (HX0.out.trans x1);have HB1:=hid (HB0.out.ext x1);clear x1 HX0 HB0 HLi la;have a9:ar[9]? = some S.k1.val:=HA.out 9 (by omega);have a10:ar[10]? = some S.k2.val:=HA.out 10 (by omega);have c9:=HB1.out.cell a9;have c10:=HB1.out.cell a10;unfold SlV.val at c9 c10 HSn;have la:=HB1.out.lt;have z9:=HB1.out.frozen 9;have z10:=HB1.out.frozen 10;clear a9 a10;go_wp2_with fail
  refine((HSn _ HX1.out).out).mono ?_;rintro en w3 ⟨y,rfl,⟨u,v,rfl,-,hkp⟩,x3⟩;have HB3:=hid (HB1.out.ext x3);have HX3:=hid (HX1.out.trans x3);have k3:Keep (fun g=>g=w.heap.size) w3 ((w3.setCell ⟨w.heap.size,9,none⟩ (.slice u.a u.n u.c)).setCell ⟨w.heap.size,10,none⟩ (.slice v.a v.n v.c)):=Keep.setCell (S:=fun g=>g=w.heap.size) (Keep.setCell (S:=fun g=>g=w.heap.size) (Keep.refl _ w3) (p:=⟨w.heap.size,9,none⟩) (.inl rfl) (.slice u.a u.n u.c)) (p:=⟨w.heap.size,10,none⟩) (.inl rfl) (.slice v.a v.n v.c);have hk4:=hkp _ _ _ _ (by decide) (by decide) (Nat.le_refl _) HB3.out k3
  have HB4:=hid ((HB3.out.set 9 (.slice u.a u.n u.c)).set 10 (.slice v.a v.n v.c));have HX4:=hid (Ext.setCell' (Ext.setCell' HX3.out (p:=⟨w.heap.size,9,none⟩) (Nat.le_refl _) (.slice u.a u.n u.c)) (p:=⟨w.heap.size,10,none⟩) (Nat.le_refl _) (.slice v.a v.n v.c));have HMa:Hid (MsgAt _ (S.know u v) (zdA a)):=⟨(ha.ext HX4.out).f,hk4,(ha.ext HX4.out).held,(ha.ext HX4.out).ents,(ha.ext HX4.out).not⟩
  have r9:=HB3.out.cell (HA.out 9 (by omega));have r10:=HB3.out.cell (HA.out 10 (by omega));have z9:=HB3.out.frozen 9;have z10:=HB3.out.frozen 10;have la:=HB3.out.lt;have hrr:((ar.setIfInBounds 9 (.slice u.a u.n u.c)).setIfInBounds 10 (.slice v.a v.n v.c))=((zdA a).at (S.know u v)).arr:=by rw[←HAr.out];exact zni a S u v
  rw[hrr] at HB4;clear hkp k3 hk4 hrr x3 HSn HB1 HX1 c9 c10;go_wp2_with fail
  generalize (w3.setCell ⟨w.heap.size,9,none⟩ (.slice u.a u.n u.c)).setCell ⟨w.heap.size,10,none⟩ (.slice v.a v.n v.c)=w4 at HB4 HX4 HMa⊢;clear r9 r10 z9 z10 la HB3 HX3 HA HAr;have hg4:=HB4.out.lt;generalize zdA a=m at hok hle hkg hks hlm hlr HRt HMa HB4 hzz;generalize S.know u v=S' at HMa HB4;have hz4:=hzz S';generalize w.heap.size=g at HB4 hg4⊢;have HMa:=fun W (hW:Ext w4 W)=>HMa.out.ext hW;have HRt:=fun W (hW:Ext w4 W)=>HRt W S' (HMa W hW);have HAw:=fun W (hW:Ext w4 W)=>HAw W (HX4.out.trans hW);cases hb:zbb m with
  | false=>
   rw[hb] at HRt;clear hb hlr hlm hks hkg hle hok ha hin hl hm HMa hzz hz;generalize (m.at S').arr=ar at HRt HB4 hz4;go_wp2_with fail
   simp only[Tryz.isAgg36,Tryz.sizeOf36,Result.andThen,↓reduceIte,za HB4.out 147 hz4.out];rw[Oper.upon_value];go_wp2_with fail
   refine((HRt _ (Ext.refl _)).out).mono ?_;rintro en w7 ⟨rfl,x7⟩;have HY7:=hid x7;clear x7 HRt HB4 hg4;go_wp2_with fail
   refine((HAw _ HY7.out).out).mono ?_;rintro en w8 ⟨rfl,x8⟩;have HX8:=hid (HX4.out.trans (HY7.out.trans x8));clear x8;go_wp2_with fail
   go_ret;exact⟨rfl,HX8.out⟩
  | true=>
   have hl2:layB m=true:=hlr.trans hb;have hbs:=zn2 hok hl2 hlm hks;have hpz:=zjb hl2 hbs;rw[hb] at HRt;have hpl:=put_len hl2 hbs;have HRp:=fun W (hW:Ext w4 W)=>hid (znk W S' m (HMa W hW) hok hl2 hpz);have HTu:=fun m' (h2:layB m'=true) (z2:putZ m'=0) i d (hi:i<(putM m).data.toList.length) h=>zlE (m:=m) (m':=m') hl2 hpz h2 z2 (i:=i) (d:=d) hi h;have hps:0<(putM m).size:=by
    obtain⟨e1,_⟩:=zdf hl2 hpz;rw[e1]
    show 0<(zat _).toArray.size
    rw[List.size_toArray,zbU];omega
   have HGe:=fun W s (hW:Ext w4 W) (hs:s.size≤65536)=>hid (znR W s mx ((HX4.out.trans hW).cell hm) hs);have hzS:=fun S=>hid (zM (msg0.at S));have hoS:=fun S=>hid (zaw (msg0.at S));have HZ:=hid (zM msgZ);have HTu:=hid HTu;clear hl2 hbs hpz hb hlr hlm hks hkg hle hok ha hin hl hm HMa hzz hz;generalize putM m=s at HRp HTu hpl hps;generalize (m.at S').arr=ar at HRt HB4 hz4 HRp;go_wp2_with fail
   simp only[Tryz.isAgg36,Tryz.sizeOf36,Result.andThen,↓reduceIte,za HB4.out 147 hz4.out];rw[Oper.upon_value];go_wp2_with fail
   refine((HRt _ (Ext.refl _)).out).mono ?_;rintro en w7 ⟨rfl,x7⟩;have HY7:=hid x7;have HB7:=hid (HB4.out.ext x7);clear x7 HRt HB4 hg4;have hg:=HB7.out.lt;go_wp2_with fail
   simp only[Tryz.isAgg36,Tryz.sizeOf36,Result.andThen,↓reduceIte,za HB7.out 147 hz4.out];rw[Oper.upon_value];go_wp2_with fail
   refine((HRp _ HY7.out).out).mono ?_;rintro en w8 ⟨rfl,x8⟩;have HY8:=hid (HY7.out.trans x8);clear x8 HY7 HB7 hg;have hcv:=Lib.run_convert_string_bytes (P:=Tryz.prog) w8 9 48 5 s Tryz.underlying9 Tryz.underlying48 Tryz.underlying5;have HXb:=hid (HY8.out.trans (zmU w8 5 s));have HCb:=hid (Lib.bytesWorld_cell w8 5 s);have HFb:=hid (ziq w8 5 s);have HLb:Hid (w8.heap.size<(Lib.bytesWorld w8 5 s).heap.size):=by unfold Hid;rw[Lib.bytesWorld_size];omega
   have HG:Hid (w4.heap.size≤w8.heap.size):=HY8.out.size;generalize Lib.bytesWorld w8 5 s=wB at hcv HXb HCb HFb HLb;generalize w8.heap.size=gB at hcv HCb HFb HLb HG;obtain⟨i,hix,hi⟩:∃ i:Nat,at_%(s.size:Int)=(i:Int)∧i<s.size:=⟨(at_%(s.size:Int)).toNat,by have:=Int.emod_nonneg at_ (show(s.size:Int)≠0 by omega);omega,by have:=Int.emod_nonneg at_ (show(s.size:Int)≠0 by omega);have:=Int.emod_lt_of_pos at_ (show(0:Int)<s.size by omega);omega⟩
   obtain⟨k,hkx,hk⟩:∃ k:Nat,bit%8=(k:Int)∧k<8:=⟨(bit%8).toNat,by omega,by omega⟩
   have cB:=HCb.out i hi;have fB:=HFb.out i hi;have lB:=HLb.out;have hat2:=hat.1;have hat3:=hat.2;have hkt:bit.tmod 8=(k:Int):=by rw[Int.tmod_eq_emod_of_nonneg hbit.1];exact hkx
   have hsh:=zlP wB k hk;obtain⟨d,hxx,hne⟩:=zm1 (s.data[i]'hi) k hk;have hcB:∀ j (hj:j<s.data.toList.length),wB.cell? ⟨gB,j,none⟩=some (.int .u8 s.data.toList[j].toNat):=fun j hj=>by
    have h:=HCb.out j (by rw[Array.length_toList] at hj;exact hj);simpa[List.getD,List.getElem?_eq_getElem hj] using h
   have hcv2:=zjD (wB.setCell ⟨gB,i,none⟩ (.int .u8 d.toNat)) gB (grownCap w8 s.size 0 5) (s.data.toList.set i d) (zmT (by rw[Array.length_toList];exact hi) hcB);have hl9:(s.data.toList.set i d).length=s.size:=by rw[List.length_set,Array.length_toList];rfl
   rw[hl9] at hcv2;have hs9:(⟨(s.data.toList.set i d).toArray⟩:ByteArray).size≤65536:=by
    show(s.data.toList.set i d).toArray.size≤_
    rw[List.size_toArray,hl9];exact hpl
   have HXs:Hid (Ext w4 (wB.setCell ⟨gB,i,none⟩ (.int .u8 d.toNat))):=Ext.setCell' HXb.out (p:=⟨gB,i,none⟩) HG.out _;have HTn:Hid (∀ m':MsgI,layB m'=true→putZ m'=0→putM m'=⟨(s.data.toList.set i d).toArray⟩→False):=fun m' h2 z2 h=>hne (by
    have h9:=HTu.out m' h2 z2 i d (by rw[Array.length_toList];exact hi) h;rw[h9];simp)
   have hne2:=hne;clear hat hbit HY8 HTu hcB hl9 hne hne2 HXb HCb HFb HLb HG;generalize hs8:(⟨(s.data.toList.set i d).toArray⟩:ByteArray)=s9 at hcv2 hs9 HTn;clear hs8;go_wp2_with fail
   generalize wB.setCell ⟨gB,i,none⟩ (.int .u8 d.toNat)=w9 at hcv2 HXs⊢;clear hcv hcv2 cB fB lB;refine((HGe _ s9 HXs.out hs9).out).mono ?_;rintro en w10 ⟨S2,m2,z2,rfl,hma,-,-,x10,hz0,hz1,-⟩;have hz9:z2≠0:=fun h=>HTn.out m2 (hz0 h).1 (hz0 h).2.1 (hz0 h).2.2;obtain⟨rfl,-⟩:=hz1 hz9;have e1:(z2 != 0)=true:=by simpa using hz9
   have HX10:=hid (HX4.out.trans (HXs.out.trans x10));have HY10:=hid (HXs.out.trans x10);have HMb:=hid hma;have hz2:=hzS S2;have ho2:=hoS S2;have HSa:=fun W (hW:Ext w10 W)=>hid (zg4 rfl (HMb.out.ext hW) (zkz W).at);rw[znP] at HSa;clear x10 hma hz0 hz1 hz9 HMb HXs HGe HTn hzS hoS hs9;generalize (msg0.at S2).arr=X at hz2 ho2 HSa⊢;go_wp2_with fail
   rw[za6];have HC3:=hid (Blk.new w10 36 msgZ.arr);simp only[Tryz.sizeOf36,Result.andThen,↓reduceIte,zg HC3.out (by rw[hz2.out];exact zP) (by first | rfl | rw[hz2.out,HZ.out]) ho2.out,hz2.out];rw[Oper.upon_skip];rw[World.setRow_alloc_new];have HX11:=hid (HX10.out.alloc' (.cells X 36));have HY11:=hid (HY10.out.alloc' (.cells X 36));have HC11:=hid (Blk.new w10 36 X);have HE11:=hid (Ext.alloc w10 (.cells X 36));clear HC3 HX10 HY10;generalize w10.alloc (.cells X 36)=w11 at HX11 HY11 HC11 HE11⊢;generalize w10.heap.size=g2 at HC11⊢;go_wp2_with fail
   refine((HAw _ HY11.out).out).mono ?_;rintro en w12 ⟨rfl,x12⟩;have HC12:=hid (HC11.out.ext x12);have HX12:=hid (HX11.out.trans x12);have HE12:=hid (HE11.out.trans x12);clear x12 HC11 HX11 HE11 HY11;have hg2:=HC12.out.lt;go_wp2_with fail
   simp only[Tryz.isAgg36,Tryz.sizeOf36,Result.andThen,↓reduceIte,za HC12.out 147 hz2.out];rw[Oper.upon_value];go_wp2_with fail
   rw[za6];refine((HSa _ HE12.out).out).mono ?_;rintro en w13 ⟨rfl,x13⟩;have HX13:=hid (HX12.out.trans x13);clear x13;go_wp2_with fail
   go_ret;exact⟨rfl,HX13.out⟩
theorem zj0 (w:World) (S:SlM) (a:MsgI) (mx:Int) (hm:w.cell? ⟨0,0,none⟩=some (.int .i64 mx)) (ha:MsgAt w S a) (hin:MsgInI a) (at_ bit:Int) (hat:(Lit.int .u16 at_).wf=true) (hbit:(Lit.int .u8 bit).wf=true):Calls Tryz.prog 4 #[.agg (a.at S).arr,.int .u16 at_,.int .u8 bit] w (Ret (.bool true) w):=by
 have h1:0≤at_∧at_≤65535:=by simpa[Lit.wf,IntKind.min,IntKind.max,IntKind.signed,IntKind.bits] using hat
 have h2:0≤bit∧bit≤255:=by simpa[Lit.wf,IntKind.min,IntKind.max,IntKind.signed,IntKind.bits] using hbit
 exact ziB w S a mx hm ha hin at_ bit ⟨h1.1,by omega⟩ ⟨h2.1,by omega⟩
end
end Go.Proofs.YtofjpdgojoppbaaGreatDoor
