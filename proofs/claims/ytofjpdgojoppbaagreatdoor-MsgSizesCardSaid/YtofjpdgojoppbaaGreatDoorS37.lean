/-
  Of the claim's proof: RdK, RdL, BoA, RdR, RdG, MlA.
-/
import Derived.Test.YtofjpdgojoppbaaGreatDoorS02
import Derived.Test.YtofjpdgojoppbaaGreatDoorS08
import Derived.Test.YtofjpdgojoppbaaGreatDoorS17
import Derived.Test.YtofjpdgojoppbaaGreatDoorS18
import Derived.Test.YtofjpdgojoppbaaGreatDoorS20
import Derived.Test.YtofjpdgojoppbaaGreatDoorS25
import Derived.Test.YtofjpdgojoppbaaGreatDoorS32
import Derived.Test.YtofjpdgojoppbaaGreatDoorS33
import Derived.Test.YtofjpdgojoppbaaGreatDoorS34
import Derived.Test.YtofjpdgojoppbaaGreatDoorS35
import Derived.Test.YtofjpdgojoppbaaGreatDoorS36
set_option maxRecDepth 100000
set_option maxHeartbeats 16000000
set_option linter.unusedVariables false
set_option linter.unusedSimpArgs false
namespace Go.Proofs.YtofjpdgojoppbaaGreatDoor
section
open Go.RowKit
def KnowT (w:World) (u v:SlV) (k:KnowI):Prop:=∃ lf:List (FragC×FragI),k.fs=lf.map (·.2)∧w.ownsRow 0 85 67 u.val lf.length (lf.map FragP.list).flatten∧(∀ z∈lf,FragO w z.1 z.2)∧w.ownsRow 0 126 67 v.val k.ks.length (k.ks.map KnownI.list).flatten
theorem KnowT.at {w:World} {u v:SlV} {k:KnowI} (h:KnowT w u v k):KnowAt w u.val v.val k:=by
 obtain⟨lf,h1,h2,h3,h4⟩:=h;obtain⟨fs,ks⟩:=k;obtain rfl:fs=lf.map (·.2):=h1;exact zjH h2 h3 h4
theorem KnowT.ext {w w':World} {u v:SlV} {k:KnowI} (h:KnowT w u v k) (he:Ext w w'):KnowT w' u v k:=by
 obtain⟨lf,h1,h2,h3,h4⟩:=h;exact⟨lf,h1,zw h2 he,fun z hz=>(h3 z hz).ext he,zw h4 he⟩
theorem KnowT.nil (w:World):KnowT w nilS nilS ⟨[],[]⟩:=⟨[],rfl,zp _ _ _ _,fun z hz=>(by cases hz),zp _ _ _ _⟩
theorem KnowT.keepBlk {w w':World} {u v:SlV} {k:KnowI} {q:Nat} {t:TypeId} {cs:Array Value} (h:KnowT w u v k) (hb:Blk w q t cs) (h1:85≠t) (h2:126≠t) (h3:99≠t) (h4:51≠t) (hk:Keep (fun g=>g=q) w w'):KnowT w' u v k:=by
 obtain⟨lf,a1,a2,a3,a4⟩:=h;exact⟨lf,a1,zq a2 hk (fun g hg hq=>zC a2 hb h1 (by rw[←hq];exact hg)),fun z hz=>(a3 z hz).keepBlk hb h3 h4 hk,zq a4 hk (fun g hg hq=>zC a4 hb h2 (by rw[←hq];exact hg))⟩
attribute [-simp] Tryz.isAgg29 Tryz.sizeOf29
theorem getKT_c (w:World) (s:ByteArray) (m:Int) (hm:w.cell? ⟨0,0,none⟩=some (.int .i64 m)) (hs:s.size≤65536):Calls Tryz.prog 67 #[.string s] w (fun en w'=>∃ (u v:SlV) (k:KnowI) (z:Int),en=.returned (.tuple #[.agg #[.slice u.a u.n u.c,.slice v.a v.n v.c],.int .i64 z])∧KnowT w' u v k∧KnowG k∧Ext w w'∧((z=0∧mayB k=true∧zaj k=s)∨(z=6∧u=nilS∧v=nilS∧k=⟨[],[]⟩))∧(∀ k0,KnowG k0→mayB k0=true→s=zaj k0→z=0∧k=k0)):=by
 have HO:=fun W=>hid (zbP W s);have HT:=fun W q (s':ByteArray) (e':Int) (h':InAt W q s' e') (hs':s'.size≤65536)=>hid (t_c W q s' e' h' (by omega));have HFr:=fun W t (hW:Ext w W) (ht:t.size≤65536)=>hid (zke W t ht zaR (fun x=>x.v.length=65∧FragOk x∧mayF x=true) (fun W' t' ht' hW'=>(zkC W' t' m ((hW.trans hW').cell hm) (by omega)).mono fun en w' ⟨c,x,e,h1,h2,h3,h4,h5⟩=>⟨(c,x),e,h1,h2,h3,h4,fun x0 a b=>h5 x0 a.1 a.2.1 a.2.2 b⟩))
 have HKn:=fun W t (ht:t.size≤65536)=>hid (zkd W t ht zan (fun x=>KnownOk x∧mayN x=true) (fun W' t' ht' _=>(zi0 W' t' (by omega)).mono fun en w' ⟨x,e,h1,h3,h4,h5⟩=>⟨x,e,h1,trivial,h3,h4,fun x0 a b=>h5 x0 a.1 a.2 b⟩));have HSm:=fun W (u v:SlV) (k:KnowI) (hW:Ext w W) (h:KnowAt W u.val v.val k) (hk:KnowOk k)=>hid (sameK_x W #[.slice u.a u.n u.c,.slice v.a v.n v.c] rfl (by simp[Value.oneCell']) s _ _ (fun W' hW'=>hid (zly W' u.val v.val k m ((hW.trans hW').cell hm) (h.ext hW') hk)));simp only[gotX hs] at HSm;have HR0:=hid (Blk.new w 29 #[.slice none 0 0,.slice none 0 0])
 have HE0:=hid (Ext.alloc w (.cells #[.slice none 0 0,.slice none 0 0] 29));clear hm;go_enter Tryz.func67,Tryz.ntmps67;go_wp2_with fail
 refine((HO _).out).mono ?_;rintro en w1 ⟨v,rfl,⟨q,rfl,hq,hI⟩,x1⟩;have HI1:=hid hI;have HR1:=hid (HR0.out.ext x1);have HE1:=hid (HE0.out.trans x1);rw[World.size_alloc] at hq;have NR:Hid (¬ w.heap.size=q):=by unfold Hid;omega
 have HQ:=hid hq;clear hI x1 hq HR0 HE0 HO;have HK1:=hid (Keep.of_ext (S:=fun g=>g=q) HE1.out);have ToE:Hid (∀ W,Keep (fun g=>g=q) w W→Ext w W):=fun W hk=>Ext.of_below (hk.below (Nat.le_refl _) fun k hk=>by have:=HQ.out;omega);clear HE1;go_wp2_with fail
 refine((HT _ _ _ _ HI1.out hs).out).mono ?_;rintro en w2 ⟨t1,s2,e2,rfl,ht1,k2,h2,hs2,r1⟩;have HI2:=hid h2;have HR2:=hid (HR1.out.keep k2 NR.out);have HK2:=hid (HK1.out.trans k2);have R1:=hid r1;have ht1':t1.size≤65536:=by omega
 have hs2':s2.size≤65536:=by omega
 clear k2 h2 r1 ht1 HI1 HR1 HK1 hs2;go_wp2_with fail
 refine((HFr _ _ (ToE.out _ HK2.out) ht1').out).mono ?_;rintro en w3 ⟨vf,bf,lf,rfl,hrf,hof,hgf,hlf,x3,hbf⟩;obtain⟨sf,rfl⟩:=zd6 hrf;have HI3:=hid (HI2.out.ext x3);have HR3:=hid (HR2.out.ext x3);have HK3:=hid (HK2.out.ext x3);have HF3:=hid hrf;have HO3:=hid hof;have HGF:=hid hgf;have HLF:=hid hlf;have BF:=hid hbf;unfold SlV.val;clear hrf hof hgf hlf hbf x3 HI2 HR2 HK2 ht1' HFr;go_wp2_with fail
 refine((HT _ _ _ _ HI3.out hs2').out).mono ?_;rintro en w4 ⟨t2,s3,e3,rfl,ht2,k4,h4,hs3,r2⟩;have HR4:=hid (HR3.out.keep k4 NR.out);have HK4:=hid (HK3.out.trans k4);have HF4:=hid (zq HF3.out k4 (fun g hg hq=>zC HF3.out HI3.out (by decide) (by rw[←hq];exact hg)));have HO4:Hid (∀ z∈lf,FragO w4 z.1 z.2):=fun z hz=>(HO3.out z hz).keepBlk HI3.out (by decide) (by decide) k4;have R2:=hid r2;have ht2':t2.size≤65536:=by omega
 clear k4 h4 r2 ht2 hs3 HI3 HR3 HK3 HF3 HO3 HT hs2';go_wp2_with fail
 refine((HKn _ _ ht2').out).mono ?_;rintro en w5 ⟨vk,bk,lk,rfl,hrk,-,hgk,hlk,x5,hbk⟩;obtain⟨sk,rfl⟩:=zd6 hrk;have HR5:=hid (HR4.out.ext x5);have HE5:=hid (ToE.out _ (HK4.out.ext x5));have HKw:=hid (zjH (zw HF4.out x5) (fun z hz=>(HO4.out z hz).ext x5) hrk);have HLast:Hid (∀ W W',Ext w5 W→Keep (fun g=>g=w.heap.size) W W'→KnowT W' sf sk ⟨lf.map (·.2),lk⟩):=fun W W' hW hk=>by
  have hb:=HR5.out.ext hW;have f1:=zw (zw HF4.out x5) hW;have f2:=zw hrk hW;exact⟨lf,rfl,zY (zq f1 hk (fun g hg hq=>zC f1 hb (by decide) (by rw[←hq];exact hg))) (Nat.zero_le _),fun z hz=>(((HO4.out z hz).ext x5).ext hW).keepBlk hb (by decide) (by decide) hk,zY (zq f2 hk (fun g hg hq=>zC f2 hb (by decide) (by rw[←hq];exact hg))) (Nat.zero_le _)⟩
 have HOk:Hid (KnowG ⟨lf.map (·.2),lk⟩):=by
  refine⟨⟨fun x hx=>?_,fun x hx=>?_,hgk⟩,fun x hx=>?_⟩
  ·obtain⟨z,hz,rfl⟩:=List.mem_map.1 hx
   exact(HGF.out z hz).ok
  ·obtain⟨z,hz,rfl⟩:=List.mem_map.1 hx
   exact(HGF.out z hz).sz
  ·obtain⟨z,hz,rfl⟩:=List.mem_map.1 hx
   rw[←(HO4.out z hz).1];exact z.1.hv
 have HBk:Hid (∀ k0,KnowG k0→mayB k0=true→s=zaj k0→(⟨lf.map (·.2),lk⟩:KnowI)=k0):=fun k0 a0 a1 a2=>by
  obtain⟨b1,b2⟩:=zkx R1.out R2.out k0 a2;obtain⟨c1,c2,c3,c4⟩:=zfo a1;have d1:=BF.out k0.fs (fun x hx=>⟨a0.vs x hx,a0.ok.fs x hx,c1 x hx⟩) (by omega) b1;have d2:=hbk k0.ks (fun x hx=>⟨a0.ok.ks x hx,c2 x hx⟩) (by omega) b2;rw[List.map_id'] at d2;exact zb3.2 ⟨d1,d2⟩
 unfold SlV.val;clear hrk hgk hlk x5 hbk HR4 HK4 HF4 HO4 BF HGF HLF R1 R2 ht2' HKn HQ ToE NR;generalize (⟨lf.map (·.2),lk⟩:KnowI)=k at HKw HOk HBk HLast;have HS:=HSm w5 sf sk k HE5.out HKw.out HOk.out.ok;clear HSm;go_wp2_with fail
 refine(HS.out).mono ?_;rintro en w6 ⟨rfl,x6⟩;have HR6:=hid (HR5.out.ext x6);have HE6:=hid (HE5.out.trans x6);have HLs:=hid (fun W' hk=>HLast.out w6 W' x6 hk);clear x6 HR5 HE5 HKw HS HLast;by_cases hc:mayB k=true∧zaj k=s
 ·rw[if_pos hc,if_pos hc]
  have HC:=hid hc;clear hc;obtain⟨X,hX⟩:∃ X:Array Value,#[.slice sf.a sf.n sf.c,.slice sk.a sk.n sk.c]=X:=⟨_,rfl⟩
  have hz9:Hid (X.size=2):=by rw[←hX];rfl
  have ho9:Hid (X.all (·.oneCell')=true):=by unfold Hid;rw[←hX];simp[Value.oneCell']
  rw[hX];have HXe:=hid hX;clear hX;go_wp2_with fail
  simp only[Tryz.sizeOf29,Result.andThen,↓reduceIte,zb HR6.out (by rw[hz9.out];exact zbn) (by first | rfl | rw[hz9.out,(show(#[.slice none 0 0,.slice none 0 0]:Array Value).size=2 from rfl)] | rw[(show(#[.slice none 0 0,.slice none 0 0]:Array Value).size=2 from rfl),hz9.out]) ho9.out,hz9.out];rw[Oper.upon_skip];go_wp2_with fail
  have HF:=hid (HR6.out.setRow X);have HE8:=Ext.setRow HE6.out (Nat.le_refl _) X;have hk8:Keep (fun g=>g=w.heap.size) w6 _:=Keep.setRow (S:=fun g=>g=w.heap.size) (Keep.refl _ w6) (.inl rfl) X;refine bodyPost_ret (zi rfl _ _ w.heap.size 29 _ (0,0) _ rfl HF.out Tryz.underlying29 rfl (by rw[hz9.out];exact zbn)) rfl ?_;exact⟨sf,sk,k,0,by rw[←HXe.out];rfl,HLs.out _ hk8,HOk.out,HE8,.inl ⟨rfl,HC.out.1,HC.out.2⟩,fun k0 a0 a1 a2=>⟨rfl,HBk.out k0 a0 a1 a2⟩⟩
 ·rw[if_neg hc,if_neg hc]
  have HN:=hid hc;clear hc;obtain⟨X,hX⟩:∃ X:Array Value,#[.slice none 0 0,.slice none 0 0]=X:=⟨_,rfl⟩
  have hz9:Hid (X.size=2):=by rw[←hX];rfl
  have ho9:Hid (X.all (·.oneCell')=true):=by unfold Hid;rw[←hX];simp[Value.oneCell']
  rw[hX];have HXe:=hid hX;clear hX;go_wp2_with fail
  simp only[Tryz.sizeOf29,Result.andThen,↓reduceIte,zb HR6.out (by rw[hz9.out];exact zbn) (by first | rfl | rw[hz9.out,(show(#[.slice none 0 0,.slice none 0 0]:Array Value).size=2 from rfl)] | rw[(show(#[.slice none 0 0,.slice none 0 0]:Array Value).size=2 from rfl),hz9.out]) ho9.out,hz9.out];rw[Oper.upon_skip];go_wp2_with fail
  have HF:=hid (HR6.out.setRow X);have HE8:=Ext.setRow HE6.out (Nat.le_refl _) X;have hk8:Keep (fun g=>g=w.heap.size) w6 _:=Keep.setRow (S:=fun g=>g=w.heap.size) (Keep.refl _ w6) (.inl rfl) X;refine bodyPost_ret (zi rfl _ _ w.heap.size 29 _ (0,0) _ rfl HF.out Tryz.underlying29 rfl (by rw[hz9.out];exact zbn)) rfl ?_;refine⟨nilS,nilS,⟨[],[]⟩,6,by rw[←HXe.out];rfl,KnowT.nil _,⟨⟨fun x hx=>(by cases hx),fun x hx=>(by cases hx),fun x hx=>(by cases hx)⟩,fun x hx=>(by cases hx)⟩,HE8,.inr ⟨rfl,rfl,rfl,rfl⟩,fun k0 a0 a1 a2=>?_⟩;obtain rfl:=HBk.out k0 a0 a1 a2;exact absurd ⟨a1,a2.symm⟩ HN.out
end
section
open Go.RowKit
structure MsgT (w:World) (S:SlM) (m:MsgI):Prop where
 f:RowT w 99 3 S.f m.f.length (m.f.map ClauseI.cells).flatten
 k:KnowT w S.k1 S.k2 m.k
 held:RowT w 59 4 S.held m.held.length (m.held.map PairI.cells).flatten
 ents:RowT w 61 21 S.ents m.ents.length (m.ents.map EntI.cells).flatten
 not:RowT w 51 2 S.not m.not.length (m.not.map Ver.cells).flatten
theorem MsgT.at {w : World} {S : SlM} {m : MsgI} (h : MsgT w S m) : MsgAt w S m :=
  ⟨zam (xs := m.f.map ClauseI.cells) (clause_coded.sizes _) (by rw [List.length_map]; exact h.f), h.k.at,
   zam (xs := m.held.map PairI.cells) (pairI_coded.sizes _) (by rw [List.length_map]; exact h.held),
   zam (xs := m.ents.map EntI.cells) (ent_coded.sizes _) (by rw [List.length_map]; exact h.ents),
   zam (xs := m.not.map Ver.cells) (ver_coded.sizes _) (by rw [List.length_map]; exact h.not)⟩
def zfd (p:PairI):Prop:=zax p.a∧zax p.b
def zfe (p:PairI):Prop:=zaP p=true∧zfd p
def encP (p:PairI):List UInt8:=encL (bothF p)
theorem encP_eq (p:PairI):encP p=lebL p.a.by_.toNat++(lebL p.a.n.toNat++(lebL p.b.by_.toNat++lebL p.b.n.toNat)):=by
 unfold encP bothF encL;simp[FldI.enc,fN]
theorem ziZ (w:World) (q:Nat) (s:ByteArray) (e:Int) (h:InAt w q s e) (hs:s.size≤1000000):Calls Tryz.prog 69 #[.pointer (some ⟨q,0,none⟩)] w (GotA (fun x=>.agg (pairA x)) zfd zfe encP w q s e):=by
 refine(zfn w q s e h hs).mono ?_;rintro en w' ⟨z1,z2,z3,z4,s',e',rfl,h1,h2,h3,h4,hk,hi,hz,hr⟩;refine⟨⟨⟨z1,z2⟩,⟨z3,z4⟩⟩,s',e',rfl,?_,hk,hi,hz,fun y rest hy a0 hsy=>?_⟩
 ·unfold zfd zax in64;dsimp only;omega
 ·obtain⟨b1,b2⟩:=hy
  unfold zaP zD at b1;simp only[Bool.and_eq_true,decide_eq_true_eq] at b1;unfold zfd zax in64 at b2;rw[encP_eq] at hsy;simp only[List.append_assoc] at hsy;obtain⟨c1,c2,c3,c4,c5,c6⟩:=hr _ _ _ _ _ a0 (by omega) (by omega) (by omega) (by omega) hsy;refine⟨?_,c5,c6⟩;obtain⟨⟨o1,o2⟩,⟨o3,o4⟩⟩:=y;dsimp only at *
  congr 2 <;> omega
theorem zcH (M M':MsgC) (i:Nat) (vs:List Value) (h15:i+vs.length≤15) (he:M'.head=M.head.take i++(vs++M.head.drop (i+vs.length))) (ht:intsV M'.V++(intsV M'.A++[M'.not.val,.int .i64 M'.code])=intsV M.V++(intsV M.A++[M.not.val,.int .i64 M.code])):(M.arr.toList.take i++(vs++M.arr.toList.drop (i+vs.length))).toArray=M'.arr:=by
 unfold MsgC.arr MsgC.list;rw[he,ht];have hl:=zaN M;rw[List.take_append_of_le_length (by rw[hl];omega),List.drop_append_of_le_length (by rw[hl];omega)];simp
theorem set_VV (M M':MsgC) (v:List Int) (hv:v.length=65) (hh:M'.head=M.head) (hV:M'.V=v) (hA:M'.A=M.A) (hn:M'.not=M.not) (hc:M'.code=M.code):(M.arr.toList.take 15++((vecV v).toList++M.arr.toList.drop (15+(vecV v).toList.length))).toArray=M'.arr:=by
 have hl:(vecV v).toList=intsV v:=by simp[vecV,intsV]
 have h1:(intsV v).length=65:=by rw[zG];exact hv
 have h2:(intsV M.V).length=65:=by rw[zG];exact M.hV
 unfold MsgC.arr MsgC.list;rw[hl,h1,hh,hV,hA,hn,hc];have hd:=zaN M;dsimp only;rw[List.take_left' hd,show 15+65=(M.head++intsV M.V).length by rw[List.length_append,hd,h2],←List.append_assoc M.head (intsV M.V),List.drop_left]
theorem set_AA (M M':MsgC) (v:List Int) (hv:v.length=65) (hh:M'.head=M.head) (hV:M'.V=M.V) (hA:M'.A=v) (hn:M'.not=M.not) (hc:M'.code=M.code):(M.arr.toList.take 80++((vecV v).toList++M.arr.toList.drop (80+(vecV v).toList.length))).toArray=M'.arr:=by
 have hl:(vecV v).toList=intsV v:=by simp[vecV,intsV]
 have h1:(intsV v).length=65:=by rw[zG];exact hv
 have h2:(intsV M.V).length=65:=by rw[zG];exact M.hV
 have h3:(intsV M.A).length=65:=by rw[zG];exact M.hA
 unfold MsgC.arr MsgC.list;rw[hl,h1,hh,hV,hA,hn,hc];have hd:(M.head++intsV M.V).length=80:=by rw[List.length_append,zaN M,h2]
 dsimp only;rw[←List.append_assoc M.head (intsV M.V),List.take_left' hd,show 80+65=((M.head++intsV M.V)++intsV M.A).length by rw[List.length_append,hd,h3],←List.append_assoc (M.head++intsV M.V) (intsV M.A),List.drop_left];simp
theorem set_NN (M M':MsgC) (v:Value) (hh:M'.head=M.head) (hV:M'.V=M.V) (hA:M'.A=M.A) (hn:M'.not.val=v) (hc:M'.code=M.code):(M.arr.toList.take 145++([v]++M.arr.toList.drop (145+[v].length))).toArray=M'.arr:=by
 have h2:(intsV M.V).length=65:=by rw[zG];exact M.hV
 have h3:(intsV M.A).length=65:=by rw[zG];exact M.hA
 unfold MsgC.arr MsgC.list;rw[hh,hV,hA,hn,hc];have hd:(M.head++intsV M.V++intsV M.A).length=145:=by rw[List.length_append,List.length_append,zaN M,h2,h3]
 have e:M.head++(intsV M.V++(intsV M.A++[M.not.val,.int .i64 M.code]))=(M.head++intsV M.V++intsV M.A)++[M.not.val,.int .i64 M.code]:=by simp
 dsimp only;rw[e,List.take_left' hd,show 145+[v].length=((M.head++intsV M.V++intsV M.A)++[M.not.val]).length by rw[List.length_append,hd];rfl,show(M.head++intsV M.V++intsV M.A)++[M.not.val,.int .i64 M.code]=((M.head++intsV M.V++intsV M.A)++[M.not.val])++[.int .i64 M.code] by simp,List.drop_left];simp
theorem set_CC (M M':MsgC) (v:Value) (hh:M'.head=M.head) (hV:M'.V=M.V) (hA:M'.A=M.A) (hn:M'.not=M.not) (hc:.int .i64 M'.code=v):(M.arr.toList.take 146++([v]++M.arr.toList.drop (146+[v].length))).toArray=M'.arr:=by
 have h2:(intsV M.V).length=65:=by rw[zG];exact M.hV
 have h3:(intsV M.A).length=65:=by rw[zG];exact M.hA
 unfold MsgC.arr MsgC.list;rw[hh,hV,hA,hn,hc];have hd:(M.head++intsV M.V++intsV M.A++[M.not.val]).length=146:=by rw[List.length_append,List.length_append,List.length_append,zaN M,h2,h3];rfl
 have e:∀ x:Value,M.head++(intsV M.V++(intsV M.A++[M.not.val,x]))=(M.head++intsV M.V++intsV M.A++[M.not.val])++[x]:=fun x=>by simp
 dsimp only;rw[e,e,List.take_left' hd,List.drop_of_length_le (by rw[List.length_append,hd];simp)];simp
theorem zc8 {s s2 s3:ByteArray} {e e2 e3:Int} {z y1 y2 y3:Nat} {m0:MsgI} (hok:MsgOk m0) (hl:layB m0=true) (a0:e=0) (hs0:s=zau m0) (R2:Read s e z s2 e2) (RY:zbh s2 e2 y1 y2 y3 s3 e3):(z:Int)=m0.kind∧(y1:Int)=m0.s1∧(y2:Int)=m0.s2∧(y3:Int)=m0.s3∧s3.data.toList=encL (zce m0)∧e3=0∧m0=zI m0∧zbL m0=true:=by
 unfold layB at hl;rw[Bool.and_eq_true,Bool.and_eq_true] at hl;obtain⟨h1,h2,h3⟩:=hl;have h2:=of_decide_eq_true h2;unfold sidB at h1;simp only[Bool.and_eq_true,decide_eq_true_eq] at h1;have hk:0≤m0.kind:=by
  have h4:=h3;unfold zbL at h4;by_cases k1:m0.kind=1
  ·omega
  by_cases k2:m0.kind=2
  ·omega
  by_cases k3:m0.kind=3
  ·omega
  rw[if_neg k1,if_neg k2,if_neg k3] at h4;simp only[Bool.and_eq_true,decide_eq_true_eq] at h4;omega
 have b1:=hok.kind;have b2:=hok.s;unfold in64 at b1 b2;have hs:s.data.toList=lebL m0.kind.toNat++(lebL m0.s1.toNat++(lebL m0.s2.toNat++(lebL m0.s3.toNat++encL (zce m0)))):=by
  rw[hs0]
  show encL (partsF m0)=_
  unfold partsF nameF encL;simp[FldI.enc,fN]
 obtain⟨c1,c2,c3⟩:=R2 _ _ a0 (by omega) hs;obtain⟨d1,d2,d3,d4,d5⟩:=RY _ _ _ _ c3 (by omega) (by omega) (by omega) c2;exact⟨by omega,by omega,by omega,by omega,d4,d5,h2,h3⟩
theorem zfA (b:Bool) {z:Nat} (h:z=(zao b).toNat):((z:Int)==1)=b:=by
 subst h;cases b <;> rfl
def zmF {α:Type} (good:α→Prop) (enc:α→List UInt8) (s:ByteArray) (e:Int) (l:List α) (s':ByteArray) (e':Int):Prop:=∀ (l0:List α) rest,(∀ x∈l0,good x)→l0.length≤256→e=0→s.data.toList=lebL l0.length++((l0.map enc).flatten++rest)→l=l0∧s'.data.toList=rest∧e'=0
theorem zjN {α:Type} (f:α→List FldI) (l:List α):encL ((l.map f).flatten)=(l.map (fun x=>encL (f x))).flatten:=by
 induction l with
 | nil=>rfl
 | cons x l ih=>
  rw[List.map_cons,List.flatten_cons,List.map_cons,List.flatten_cons,←ih];unfold encL;rw[List.map_append,List.flatten_append]
theorem zdX (a b:List FldI):encL (a++b)=encL a++encL b:=by
 unfold encL;rw[List.map_append,List.flatten_append]
theorem back1 {s s2 s3 s4 s5 s6 s7 t1 t2:ByteArray} {e e2 e3 e4 e5 e6 e7:Int} {z y1 y2 y3 z1:Nat} {zf:Int} {lf:List ClauseI} {lk:KnowI} {lh:List PairI} {m0:MsgI} (hok:MsgOk m0) (hl:layB m0=true) (hg:KnowG m0.k) (a0:e=0) (hs0:s=zau m0) (R2:Read s e z s2 e2) (RY:zbh s2 e2 y1 y2 y3 s3 e3) (R3:Read s3 e3 z1 s4 e4) (R4:zbZ s4 e4 t1 s5 e5) (R5:zbZ s5 e5 t2 s6 e6) (R6:zmF zfe encP s6 e6 lh s7 e7) (BF:∀ f,zH f=true→t1=zg clB f→zf=0∧lf=f) (BK:∀ k0,KnowG k0→mayB k0=true→t2=zaj k0→lk=k0) (H:z=1) :
  (⟨z,y1,y2,y3,0,0,0,((z1:Int)==1),lf,lk,lh,0,false,[],vec0,vec0,[],0,zd,zd⟩:MsgI)=m0:=by
 obtain⟨h1,h2,h3,h4,h5,h6,h7,h8⟩:=zc8 hok hl a0 hs0 R2 RY;have hk:m0.kind=1:=by omega
 unfold zbL at h8;rw[if_pos hk] at h8;unfold reqB at h8;simp only[Bool.and_eq_true,decide_eq_true_eq] at h8;obtain⟨b1,b2,b3,b4⟩:=h8;unfold zce at h5;rw[if_pos hk] at h5;unfold reqP zdo at h5;rw[zdX] at h5;have e1:encL ((fN m0.held.length)::(m0.held.map bothF).flatten)=lebL m0.held.length++((m0.held.map encP).flatten++[]):=by
  rw[zah,zjN,List.append_nil];rfl
 rw[e1] at h5;have e2:encL [fN (zao m0.up),fT (zg clB m0.f),fT (zaj m0.k)]=lebL (zao m0.up).toNat++(lebL (zg clB m0.f).size++((zg clB m0.f).data.toList++(lebL (zaj m0.k).size++(zaj m0.k).data.toList))):=by
  unfold encL;simp[FldI.enc,fN,fT]
 rw[e2] at h5;simp only[List.append_assoc] at h5;obtain⟨c1,c2,c3⟩:=R3 _ _ h6 (by cases m0.up <;> decide) h5;obtain⟨d1,d2,d3⟩:=R4 _ _ c3 c2;obtain⟨f1,f2,f3⟩:=R5 _ _ d3 d2;obtain⟨g1,g2,g3⟩:=R6 m0.held _ (fun x hx=>⟨zgg b4 x hx,hok.heldV x hx⟩) b1 f3 f2;have k1:=(BF m0.f b2 d1).2;have k2:=BK m0.k hg (zbg.1 b3).1 f1;have k3:=zfA m0.up c1;rw[zea];have o1:=congrArg MsgI.r1 h7;have o2:=congrArg MsgI.r2 h7;have o3:=congrArg MsgI.r3 h7;have o4:=congrArg MsgI.seq h7;have o5:=congrArg MsgI.last h7;have o6:=congrArg MsgI.ents h7;have o7:=congrArg MsgI.V h7;have o8:=congrArg MsgI.A h7;have o9:=congrArg MsgI.not h7
 have o10:=congrArg MsgI.code h7;simp[zI,hk] at o1 o2 o3 o4 o5 o6 o7 o8 o9 o10;exact⟨⟨h1,⟨h2,h3,h4⟩,⟨o1.symm,o2.symm,o3.symm⟩,k3,o4.symm,o5.symm,o10.symm⟩,⟨k1,k2,g1,o6.symm,o9.symm⟩,o7.symm,o8.symm⟩
theorem back2 {s s2 s3 s4 s5 s6 s7 s8 s9 s10 t1 t2 t3:ByteArray} {e e2 e3 e4 e5 e6 e7 e8 e9 e10:Int} {z y1 y2 y3 a b c z1 z2:Nat} {le:List EntI} {vV vA:List Int} {ln:List Ver} {hV:vV.length=65} {hA:vA.length=65} {m0:MsgI} (hok:MsgOk m0) (hl:layB m0=true) (a0:e=0) (hs0:s=zau m0) (R2:Read s e z s2 e2) (RY:zbh s2 e2 y1 y2 y3 s3 e3) (R3:zbh s3 e3 a b c s4 e4) (R4:Read s4 e4 z1 s5 e5) (R5:Read s5 e5 z2 s6 e6) (R6:zmF (fun x=>EntOk x∧zJ x=true) (fun x=>encL (entF x)) s6 e6 le s7 e7) (R7:zbZ s7 e7 t1 s8 e8) (R8:zbZ s8 e8 t2 s9 e9) (R9:zbZ s9 e9 t3 s10 e10) (BV:∀ u:List Int,u.length=65→zaA u→u=cleanL u→t1=zg verB (endsL u)→vV=u) (BA:∀ u:List Int,u.length=65→zaA u→u=cleanL u→t2=zg verB (endsL u)→vA=u) (BN:∀ f:List Ver,(∀ c∈f,zax c)→f.length≤90000→itemsB f=true→t3=zg verB f→ln=f) (H:z=2) :
  (⟨z,y1,y2,y3,a,b,c,false,[],⟨[],[]⟩,[],z1,((z2:Int)==1),le,vV,vA,ln,0,hV,hA⟩:MsgI)=m0:=by
 obtain⟨h1,h2,h3,h4,h5,h6,h7,h8⟩:=zc8 hok hl a0 hs0 R2 RY;have hk:m0.kind=2:=by omega
 unfold zbL at h8;rw[if_neg (by omega),if_pos hk] at h8;unfold batB zbY sidB at h8;simp only[Bool.and_eq_true,decide_eq_true_eq] at h8;obtain⟨⟨⟨l0,l1,l2,l3⟩,l4,l5,l6⟩,b2,b3,b4,b5⟩:=h8;unfold zce at h5;rw[if_neg (by omega),if_pos hk] at h5;unfold batP nameF at h5;rw[zdX,zdX,zah (fN m0.ents.length),zjN] at h5;have e1:encL ([fN m0.r1,fN m0.r2,fN m0.r3]++[fN m0.seq,fN (zao m0.last)])=lebL m0.r1.toNat++(lebL m0.r2.toNat++(lebL m0.r3.toNat++(lebL m0.seq.toNat++lebL (zao m0.last).toNat))):=by
  unfold encL;simp[FldI.enc,fN]
 have e2:(fN m0.ents.length).enc=lebL m0.ents.length:=rfl;have e3:encL [fT (zg verB (endsL m0.V)),fT (zg verB (endsL m0.A)),fT (zg verB m0.not)]=lebL (zg verB (endsL m0.V)).size++((zg verB (endsL m0.V)).data.toList++(lebL (zg verB (endsL m0.A)).size++((zg verB (endsL m0.A)).data.toList++(lebL (zg verB m0.not).size++((zg verB m0.not).data.toList++[]))))):=by
  unfold encL;simp[FldI.enc,fT]
 rw[e1,e2,e3] at h5;simp only[List.append_assoc] at h5;have w1:=hok.r;have w2:=hok.seq;unfold in64 at w1 w2;obtain⟨c1,c2,c3,c4,c5⟩:=R3 _ _ _ _ h6 (by omega) (by omega) (by omega) h5;obtain⟨d1,d2,d3⟩:=R4 _ _ c5 (by omega) c4;obtain⟨f1,f2,f3⟩:=R5 _ _ d3 (by cases m0.last <;> decide) d2;rw[List.all_eq_true] at b2;obtain⟨g1,g2,g3⟩:=R6 m0.ents _ (fun x hx=>⟨hok.ents x hx,b2 x hx⟩) l6 f3 f2;obtain⟨j1,j2,j3⟩:=R7 _ _ g3 g2;obtain⟨p1,p2,p3⟩:=R8 _ _ j3 j2;obtain⟨q1,q2,q3⟩:=R9 _ _ p3 p2;have k1:=BV m0.V m0.hV hok.V b3 j1;have k2:=BA m0.A m0.hA hok.A b4 p1;have k3:=BN m0.not hok.not hok.notl (zbg.1 b5).1 q1;have k4:=zfA m0.last f1
 rw[zea];have o1:=congrArg MsgI.up h7;have o2:=congrArg MsgI.f h7;have o3:=congrArg MsgI.k h7;have o4:=congrArg MsgI.held h7;have o10:=congrArg MsgI.code h7;simp[zI,hk] at o1 o2 o3 o4 o10;dsimp only;exact⟨⟨h1,⟨h2,h3,h4⟩,⟨by omega,by omega,by omega⟩,o1.symm,by omega,k4,o10.symm⟩,⟨o2.symm,o3.symm,o4.symm,g1,k3⟩,k1,k2⟩
theorem back3 {s s2 s3 s4:ByteArray} {e e2 e3 e4:Int} {z y1 y2 y3 a b c:Nat} {m0:MsgI} (hok:MsgOk m0) (hl:layB m0=true) (a0:e=0) (hs0:s=zau m0) (R2:Read s e z s2 e2) (RY:zbh s2 e2 y1 y2 y3 s3 e3) (R3:zbh s3 e3 a b c s4 e4) (H:z=3) :
  (⟨z,y1,y2,y3,a,b,c,false,[],⟨[],[]⟩,[],0,false,[],vec0,vec0,[],0,zd,zd⟩:MsgI)=m0:=by
 obtain⟨h1,h2,h3,h4,h5,h6,h7,h8⟩:=zc8 hok hl a0 hs0 R2 RY;have hk:m0.kind=3:=by omega
 unfold zbL at h8;rw[if_neg (by omega),if_neg (by omega),if_pos hk] at h8;unfold sidB at h8;simp only[Bool.and_eq_true,decide_eq_true_eq] at h8;unfold zce at h5;rw[if_neg (by omega),if_neg (by omega),if_pos hk] at h5;have e1:encL (nameF m0.r1 m0.r2 m0.r3)=lebL m0.r1.toNat++(lebL m0.r2.toNat++(lebL m0.r3.toNat++[])):=by
  unfold encL nameF;simp[FldI.enc,fN]
 rw[e1] at h5;have w1:=hok.r;unfold in64 at w1;obtain⟨c1,c2,c3,c4,c5⟩:=R3 _ _ _ _ h6 (by omega) (by omega) (by omega) h5;rw[zea];have o0:=congrArg MsgI.up h7;have o1:=congrArg MsgI.f h7;have o2:=congrArg MsgI.k h7;have o3:=congrArg MsgI.held h7;have o4:=congrArg MsgI.seq h7;have o5:=congrArg MsgI.last h7;have o6:=congrArg MsgI.ents h7;have o7:=congrArg MsgI.V h7;have o8:=congrArg MsgI.A h7;have o9:=congrArg MsgI.not h7;have o10:=congrArg MsgI.code h7;simp[zI,hk] at o0 o1 o2 o3 o4 o5 o6 o7 o8 o9 o10;dsimp only
 exact⟨⟨h1,⟨h2,h3,h4⟩,⟨by omega,by omega,by omega⟩,o0.symm,o4.symm,o5.symm,o10.symm⟩,⟨o1.symm,o2.symm,o3.symm,o6.symm,o9.symm⟩,o7.symm,o8.symm⟩
theorem back4 {s s2 s3 s4:ByteArray} {e e2 e3 e4:Int} {z y1 y2 y3 z1:Nat} {m0:MsgI} (hok:MsgOk m0) (hl:layB m0=true) (a0:e=0) (hs0:s=zau m0) (R2:Read s e z s2 e2) (RY:zbh s2 e2 y1 y2 y3 s3 e3) (R3:Read s3 e3 z1 s4 e4) (H:z=4) :
  (⟨z,y1,y2,y3,0,0,0,false,[],⟨[],[]⟩,[],0,false,[],vec0,vec0,[],z1,zd,zd⟩:MsgI)=m0:=by
 obtain⟨h1,h2,h3,h4,h5,h6,h7,h8⟩:=zc8 hok hl a0 hs0 R2 RY;have hk:m0.kind=4:=by omega
 unfold zbL at h8;rw[if_neg (by omega),if_neg (by omega),if_neg (by omega)] at h8;simp only[Bool.and_eq_true,decide_eq_true_eq] at h8;unfold zce at h5;rw[if_neg (by omega),if_neg (by omega),if_neg (by omega)] at h5;have e1:encL [fN m0.code]=lebL m0.code.toNat++[]:=by
  unfold encL;simp[FldI.enc,fN]
 rw[e1] at h5;obtain⟨c1,c2,c3⟩:=R3 _ _ h6 (by omega) h5;rw[zea];have o11:=congrArg MsgI.r1 h7;have o12:=congrArg MsgI.r2 h7;have o13:=congrArg MsgI.r3 h7;have o0:=congrArg MsgI.up h7;have o1:=congrArg MsgI.f h7;have o2:=congrArg MsgI.k h7;have o3:=congrArg MsgI.held h7;have o4:=congrArg MsgI.seq h7;have o5:=congrArg MsgI.last h7;have o6:=congrArg MsgI.ents h7;have o7:=congrArg MsgI.V h7;have o8:=congrArg MsgI.A h7;have o9:=congrArg MsgI.not h7;simp[zI,hk] at o0 o1 o2 o3 o4 o5 o6 o7 o8 o9 o11 o12 o13;dsimp only
 exact⟨⟨h1,⟨h2,h3,h4⟩,⟨o11.symm,o12.symm,o13.symm⟩,o0.symm,o4.symm,o5.symm,by omega⟩,⟨o1.symm,o2.symm,o3.symm,o6.symm,o9.symm⟩,o7.symm,o8.symm⟩
theorem back0 {s s2:ByteArray} {e e2:Int} {z:Nat} {m0:MsgI} (hok:MsgOk m0) (hl:layB m0=true) (a0:e=0) (hs0:s=zau m0) (R2:Read s e z s2 e2) (H:¬ z=1∧¬ z=2∧¬ z=3∧¬ z=4):False:=by
 unfold layB at hl;rw[Bool.and_eq_true,Bool.and_eq_true] at hl;obtain⟨h1,h2,h3⟩:=hl;have b1:=hok.kind;unfold in64 at b1;have hs:s.data.toList=lebL m0.kind.toNat++encL (nameF m0.s1 m0.s2 m0.s3++zce m0):=by
  rw[hs0]
  show encL (partsF m0)=_
  unfold partsF;rw[List.cons_append,zah];rfl
 obtain⟨c1,c2,c3⟩:=R2 _ _ a0 (by omega) hs;unfold zbL at h3;by_cases k1:m0.kind=1
 ·omega
 by_cases k2:m0.kind=2
 ·omega
 by_cases k3:m0.kind=3
 ·omega
 rw[if_neg k1,if_neg k2,if_neg k3] at h3;simp only[Bool.and_eq_true,decide_eq_true_eq] at h3;omega
theorem zM {z:Nat} (h:z<9223372036854775808):in64 (z:Int):=by unfold in64;omega
theorem zf9:∀ c∈([]:List ClauseI),c.pre.size≤90000:=fun c h=>by cases h
theorem zfl:KnowOk ⟨[],[]⟩:=⟨fun x h=>(by cases h),fun x h=>(by cases h),fun x h=>(by cases h)⟩
theorem zga:∀ e∈([]:List EntI),EntOk e:=fun c h=>by cases h
theorem zf7:∀ c∈([]:List Ver),zax c:=fun c h=>by cases h
theorem zf8:∀ p∈([]:List PairI),zax p.a∧zax p.b:=fun c h=>by cases h
theorem zaZ:zaA vec0:=fun z hz=>by
 unfold vec0 at hz;rw[List.mem_replicate] at hz;rw[hz.2];unfold in64;decide
theorem zaL:in64 0:=by unfold in64;decide
theorem zhd:in64 0∧in64 0∧in64 0:=⟨zaL,zaL,zaL⟩
theorem zbR:KnowG ⟨[],[]⟩:=⟨zfl,fun x h=>by cases h⟩
end
section
open Go.RowKit
def headD (m:MsgI):ByteArray:=numB m.kind++sidD m.s1 m.s2 m.s3
theorem zf0 {a b c:Int} (h:sidB a b c=true):(sidD a b c).data.toList=lebL a.toNat++(lebL b.toNat++lebL c.toNat):=by
 unfold sidB at h;simp only[Bool.and_eq_true,decide_eq_true_eq] at h;unfold sidD;simp only[ByteArray.data_append,Array.toList_append,zu (show 0≤a by omega),zu (show 0≤b by omega),zu (show 0≤c by omega),List.append_assoc]
theorem ziY {m:MsgI} (h:layB m=true):(headD m).data.toList=encL (fN m.kind::nameF m.s1 m.s2 m.s3):=by
 have h0:=h;unfold layB at h;rw[Bool.and_eq_true,Bool.and_eq_true] at h;obtain⟨h1,h2,h3⟩:=h;have hk:0≤m.kind:=by
  unfold zbL at h3;by_cases k1:m.kind=1
  ·omega
  by_cases k2:m.kind=2
  ·omega
  by_cases k3:m.kind=3
  ·omega
  rw[if_neg k1,if_neg k2,if_neg k3] at h3;simp only[Bool.and_eq_true,decide_eq_true_eq] at h3;omega
 unfold headD;simp only[ByteArray.data_append,Array.toList_append,zu hk,zf0 h1];unfold encL nameF;simp[FldI.enc,fN]
theorem zl1 {m:MsgI} (h:layB m=true):zbL m=true:=by
 unfold layB at h;rw[Bool.and_eq_true,Bool.and_eq_true] at h;exact h.2.2
theorem zk3 (m:MsgI):(zau m).data.toList=encL (fN m.kind::nameF m.s1 m.s2 m.s3)++encL (zce m):=by
 show encL (partsF m)=_
 unfold partsF;rw[zdX]
theorem zmu {a b:ByteArray} (h:a.data.toList=b.data.toList):a=b:=ByteArray.ext (Array.ext' h)
theorem body_3 {m:MsgI} (h:layB m=true) (hk:m.kind=3):headD m++sidD m.r1 m.r2 m.r3=zau m:=by
 have h3:=zl1 h;unfold zbL at h3;rw[if_neg (by omega),if_neg (by omega),if_pos hk] at h3;apply zmu;rw[zk3,ByteArray.data_append,Array.toList_append,ziY h,zf0 h3];unfold zce;rw[if_neg (by omega),if_neg (by omega),if_pos hk];unfold encL nameF;simp[FldI.enc,fN]
end
section
open Go.RowKit
attribute [-simp] Tryz.isAgg36 Tryz.sizeOf36 Tryz.isAgg33 Tryz.sizeOf33
theorem mread_c (w:World) (q:Nat) (s:ByteArray) (e:Int) (mx:Int) (hm:w.cell? ⟨0,0,none⟩=some (.int .i64 mx)) (hq0:0<q) (h:InAt w q s e) (hs:s.size≤65536):Calls Tryz.prog 24 #[.pointer (some ⟨q,0,none⟩)] w (fun en w'=>∃ (S:SlM) (m:MsgI),en=.returned (.agg (m.at S).arr)∧MsgT w' S m∧MsgOk m∧KnowG m.k∧Keep (fun g=>g=q) w w' ∧ ∀ m0:MsgI,MsgOk m0→layB m0=true→KnowG m0.k→e=0→s=zau m0→m=m0):=by
 have hc0:=fun W (hW:Keep (fun g=>g=q) w W)=>zL hW (Nat.lt_of_le_of_lt (Nat.zero_le _) h.lt) (by omega) hm;have HN0:=hid (fun W h'=>n_c W q s e h' (by omega));have HN:=fun W (s':ByteArray) (e':Int) (h':InAt W q s' e') (hs':s'.size≤65536)=>hid (n_c W q s' e' h' (by omega));have HT:=fun W (s':ByteArray) (e':Int) (h':InAt W q s' e') (hs':s'.size≤65536)=>hid (t_c W q s' e' h' (by omega));have HSd:=fun W (s':ByteArray) (e':Int) (h':InAt W q s' e') (hs':s'.size≤65536)=>hid (zkq W q s' e' h' (by omega));have HGf:=fun W t (hW:Keep (fun g=>g=q) w W) (ht:t.size≤65536)=>hid (zjK W t mx (hc0 W hW) ht)
 have HGk:=fun W t (hW:Keep (fun g=>g=q) w W) (ht:t.size≤65536)=>hid (getKT_c W t mx (hc0 W hW) ht);have HGv:=fun W t (ht:t.size≤65536)=>hid (zgX W t ht);have HGi:=fun W t (ht:t.size≤65536)=>hid (zjJ W t ht);have HPp:=fun W (s':ByteArray) (e':Int) (_:Keep (fun g=>g=q) w W) (h':InAt W q s' e') (hs':s'.size≤65536)=>hid (zlC W q s' e' h' (by omega) zfd zfe encP (fun W2 s2 e2 _ h2 hs2=>ziZ W2 q s2 e2 h2 (by omega)))
 have HPe:=fun W (s':ByteArray) (e':Int) (hW:Keep (fun g=>g=q) w W) (h':InAt W q s' e') (hs':s'.size≤65536)=>hid (zlD W q s' e' h' (by omega) EntOk (fun x=>EntOk x∧zJ x=true) (fun x=>encL (entF x)) (fun W2 s2 e2 k2 h2 hs2=>zi1 W2 q s2 e2 mx (hc0 W2 (hW.trans k2)) hq0 h2 (by omega)));have HZ:=hid (zy msgZ);have HR0:=hid (Blk.new w 36 msgZ.arr);have HE0:=hid (Ext.alloc w (.cells msgZ.arr 36));have HI0:=hid (h.ext HE0.out);have NR:Hid (¬ w.heap.size=q):=by have:=h.lt;unfold Hid;omega
 clear hc0 hm h;go_enter Tryz.func24,Tryz.ntmps24;go_wp2_with fail
 rw[zaT];generalize w.alloc (.cells msgZ.arr 36)=w1 at HR0 HE0 HI0⊢;refine((HN0.out _ HI0.out)).mono ?_;rintro en w2 ⟨z,s2,e2,rfl,hz2,k2,h2,hs2,r2⟩;have HI2:=hid h2;have HR2:=hid (HR0.out.keep k2 NR.out);have HK2:=hid ((Keep.of_ext (S:=fun g=>g=q) HE0.out).trans k2);have R2:=hid r2;have Hz:=hid hz2;have HS2:=hid hs2;have hs2':s2.size≤65536:=by omega
 clear k2 h2 r2 hz2 hs2 HI0 HR0 HE0 HN0;go_wp2_with fail
 refine((HSd _ _ _ HI2.out hs2').out).mono ?_;rintro en w3 ⟨y1,y2,y3,s3,e3,rfl,hy1,hy2,hy3,k3,h3,hs3,r3⟩;have HY:=hid (And.intro hy1 (And.intro hy2 hy3));have RY:=hid r3;have HS3:=hid (Nat.le_trans hs3 HS2.out);have hs3':s3.size≤65536:=by omega
 have hfa:=zb7 ⟨z,y1,y2,y3,0,0,0,false,[],⟨[],[]⟩,[],0,false,[],vec0,vec0,[],0,zd,zd⟩;dsimp only at hfa;have hfm:(zF ⟨z,y1,y2,y3,0,0,0,false,[],⟨[],[]⟩,[],0,false,[],vec0,vec0,[],0,zd,zd⟩).arr=(MsgC.mk z y1 y2 y3 0 0 0 false nilS nilS nilS nilS 0 false nilS vec0 vec0 nilS 0 zd zd).arr:=rfl;rw[hfm] at hfa;clear hfm;have HP:=hid (zy (MsgC.mk z y1 y2 y3 0 0 0 false nilS nilS nilS nilS 0 false nilS vec0 vec0 nilS 0 zd zd));have HP1:=hid (zZ (MsgC.mk z y1 y2 y3 0 0 0 false nilS nilS nilS nilS 0 false nilS vec0 vec0 nilS 0 zd zd))
 have ck:Hid ((MsgC.mk z y1 y2 y3 0 0 0 false nilS nilS nilS nilS 0 false nilS vec0 vec0 nilS 0 zd zd).arr[0]? = some (.int .i64 z)):=by unfold Hid;rw[zP _ _ (by omega)];rfl
 obtain⟨P,hP⟩:∃ P,(MsgC.mk z y1 y2 y3 0 0 0 false nilS nilS nilS nilS 0 false nilS vec0 vec0 nilS 0 zd zd).arr=P:=⟨_,rfl⟩
 have HPe0:=hid hP;rw[hP] at hfa HP HP1 ck;clear hP;have X3:=hid (Ext.alloc w3 (.cells P 36));have HI3:=hid (h3.ext X3.out);have HR3:=hid ((HR2.out.keep k3 NR.out).ext X3.out);have HK3:=hid ((HK2.out.trans k3).ext X3.out);have HU3:=hid (Blk.new w3 36 P);have NU:Hid (¬ w3.heap.size=q):=by have:=h3.lt;unfold Hid;omega
 have NUR:Hid (¬ w3.heap.size=w.heap.size):=by have:=(HR2.out.keep k3 NR.out).lt;unfold Hid;omega
 have GU:Hid (w.heap.size≤w3.heap.size):=(HK2.out.trans k3).size;clear hy1 hy2 hy3 k3 h3 hs3 r3 HI2 HR2 HK2 X3 hs2' HS2;go_wp2_with fail
 simp only[Tryz.sizeOf33,Result.andThen];rw[Oper.upon_value];clear hfa;go_wp2_with fail
 rw[zaT];have HB3:=hid (Blk.new w3 36 msgZ.arr);simp only[Tryz.sizeOf36,Result.andThen,↓reduceIte,zb HB3.out (by rw[HP.out];exact zz) (by rw[HP.out,HZ.out]) HP1.out,HP.out];rw[Oper.upon_skip];rw[World.setRow_alloc_new];clear HB3;obtain⟨g,hg⟩:∃ g,w3.heap.size=g:=⟨_,rfl⟩
 rw[hg] at NU NUR GU HU3;have hgoal:=hg;generalize hw9:w3.alloc (.cells P 36)=w9 at HI3 HR3 HU3 HK3⊢;rw[hg];clear hw9 hgoal hg;clear w3;obtain⟨w3,hw3⟩:∃ w,w=w9:=⟨_,rfl⟩
 subst hw3;have c0:=HU3.out.cell ck.out;have l3:=HU3.out.lt;rw[←HPe0.out] at HU3;clear HPe0 ck HP HP1;by_cases h1:z=1
 ·have d1:((z:Int)==1)=true:=by rw[h1];rfl
  have H1:=hid h1;clear h1 HSd HGv HGi HPe;go_wp2_with fail
  refine((HN _ _ _ HI3.out hs3').out).mono ?_;rintro en w4 ⟨z4,s4,e4,rfl,hz4,k4,h4,hs4,r4⟩;have HI4:=hid h4;have HR4:=hid (HR3.out.keep k4 NR.out);have HU4:=hid (HU3.out.keep k4 NU.out);have HK4:=hid (HK3.out.trans k4);have R4:=hid r4;have hs4':s4.size≤65536:=by omega
  have HS4:=hid (Nat.le_trans hs4 HS3.out);have Z4:=hid hz4;clear hz4;clear HI3 HR3 HU3 HK3  k4 h4 r4 hs4 hs3';have cup:=HU4.out.cell (i:=7) (v:=.bool false) (by rw[zP _ _ (by omega)];rfl);have fup:=HU4.out.frozen 7;have lu:=HU4.out.lt;go_wp2_with fail
  have HU5:Hid (Blk ((w4.setCell ⟨g,7,none⟩ (.bool ((z4:Int)==1)))) g 36 (MsgC.mk z y1 y2 y3 0 0 0 ((z4:Int)==1) nilS nilS nilS nilS 0 false nilS vec0 vec0 nilS 0 zd zd).arr):=by
   have h9:=HU4.out.setCells ([.bool ((z4:Int)==1)]) 7 (by rw[zy];show 7+1≤147;omega);rw[zcH (MsgC.mk z y1 y2 y3 0 0 0 false nilS nilS nilS nilS 0 false nilS vec0 vec0 nilS 0 zd zd) (MsgC.mk z y1 y2 y3 0 0 0 ((z4:Int)==1) nilS nilS nilS nilS 0 false nilS vec0 vec0 nilS 0 zd zd) 7 [.bool ((z4:Int)==1)] (by show 7+1≤15;omega) rfl rfl] at h9;exact h9
  have kS5:Keep (fun k=>k=g) w4 ((w4.setCell ⟨g,7,none⟩ (.bool ((z4:Int)==1)))):=Keep.setCells (S:=fun q=>q=g) (.inl rfl) ([.bool ((z4:Int)==1)]) (Keep.refl _ w4) 7;have HI5:=hid (show InAt ((w4.setCell ⟨g,7,none⟩ (.bool ((z4:Int)==1)))) q s4 e4 from Blk.keep HI4.out kS5 (fun h=>NU.out h.symm));have HR5:=hid (HR4.out.keep kS5 (fun h=>NUR.out h.symm));have HK5:=hid (zak HK4.out kS5 (fun k hk=>by rw[hk];exact GU.out));have HS5:=HS4;have hs5':=hs4';clear HI4 HR4 HU4 HK4  kS5 hs4';clear cup fup lu;generalize (w4.setCell ⟨g,7,none⟩ (.bool ((z4:Int)==1)))=w5 at HI5 HR5 HU5 HK5  ⊢;refine((HT _ _ _ HI5.out hs5').out).mono ?_
  rintro en w6 ⟨t6,s6,e6,rfl,ht6,k6,h6,hs6,r6⟩;have HI6:=hid h6;have HR6:=hid (HR5.out.keep k6 NR.out);have HU6:=hid (HU5.out.keep k6 NU.out);have HK6:=hid (HK5.out.trans k6);have R6:=hid r6;have hs6':s6.size≤65536:=by omega
  have HS6:=hid (Nat.le_trans hs6 HS5.out);have ht6':t6.size≤65536:=by omega
  clear ht6;clear HI5 HR5 HU5 HK5  k6 h6 r6 hs6 hs5';go_wp2_with fail
  refine((HGf _ _ HK6.out ht6').out).mono ?_;rintro en w7 ⟨sf,lf,zf,rfl,hrf,hgf,x7,hbf⟩;have HI7:=hid (HI6.out.ext x7);have HR7:=hid (HR6.out.ext x7);have HU7:=hid (HU6.out.ext x7);have HK7:=hid (HK6.out.ext x7);have HS7:=HS6;have hs7':=hs6';have HF7:=hid hrf;have HGF:=hid hgf;have BF:=hid hbf;clear HI6 HR6 HU6 HK6  x7 hrf hgf hbf ht6'
  try clear hs6'
  have cf:=HU7.out.cell (i:=8) (v:=.slice none 0 0) (by rw[zP _ _ (by omega)];rfl);have ff:=HU7.out.frozen 8;have lu:=HU7.out.lt;go_wp2_with fail
  have HU8:Hid (Blk ((w7.setCell ⟨g,8,none⟩ (.slice sf.a sf.n sf.c))) g 36 (MsgC.mk z y1 y2 y3 0 0 0 ((z4:Int)==1) sf nilS nilS nilS 0 false nilS vec0 vec0 nilS 0 zd zd).arr):=by
   have h9:=HU7.out.setCells ([.slice sf.a sf.n sf.c]) 8 (by rw[zy];show 8+1≤147;omega);rw[zcH (MsgC.mk z y1 y2 y3 0 0 0 ((z4:Int)==1) nilS nilS nilS nilS 0 false nilS vec0 vec0 nilS 0 zd zd) (MsgC.mk z y1 y2 y3 0 0 0 ((z4:Int)==1) sf nilS nilS nilS 0 false nilS vec0 vec0 nilS 0 zd zd) 8 [.slice sf.a sf.n sf.c] (by show 8+1≤15;omega) rfl rfl] at h9;exact h9
  have kS8:Keep (fun k=>k=g) w7 ((w7.setCell ⟨g,8,none⟩ (.slice sf.a sf.n sf.c))):=Keep.setCells (S:=fun q=>q=g) (.inl rfl) ([.slice sf.a sf.n sf.c]) (Keep.refl _ w7) 8;have HI8:=hid (show InAt ((w7.setCell ⟨g,8,none⟩ (.slice sf.a sf.n sf.c))) q s6 e6 from Blk.keep HI7.out kS8 (fun h=>NU.out h.symm));have HR8:=hid (HR7.out.keep kS8 (fun h=>NUR.out h.symm));have HK8:=hid (zak HK7.out kS8 (fun k hk=>by rw[hk];exact GU.out));have HS8:=HS7;have hs8':=hs7';have HF8:=hid (zq HF7.out kS8 (fun g hg hq=>zC HF7.out HU7.out (by decide) (by rw[←hq];exact hg)));clear HI7 HR7 HU7 HK7 HF7 kS8 hs7';clear cf ff lu
  generalize (w7.setCell ⟨g,8,none⟩ (.slice sf.a sf.n sf.c))=w8 at HI8 HR8 HU8 HK8 HF8⊢;refine((HT _ _ _ HI8.out hs8').out).mono ?_;rintro en w9 ⟨t9,s9,e9,rfl,ht9,k9,h9,hs9,r9⟩;have HI9:=hid h9;have HR9:=hid (HR8.out.keep k9 NR.out);have HU9:=hid (HU8.out.keep k9 NU.out);have HK9:=hid (HK8.out.trans k9);have R9:=hid r9;have hs9':s9.size≤65536:=by omega
  have HS9:=hid (Nat.le_trans hs9 HS8.out);have HF9:=hid (zq HF8.out k9 (fun g hg hq=>zC HF8.out HI8.out (by decide) (by rw[←hq];exact hg)));have ht9':t9.size≤65536:=by omega
  clear ht9;clear HI8 HR8 HU8 HK8 HF8 k9 h9 r9 hs9 hs8';go_wp2_with fail
  refine((HGk _ _ HK9.out ht9').out).mono ?_;rintro en w10 ⟨su,sv,lk,zk,rfl,hrk,hgk,x10,-,hbk⟩;have HI10:=hid (HI9.out.ext x10);have HR10:=hid (HR9.out.ext x10);have HU10:=hid (HU9.out.ext x10);have HK10:=hid (HK9.out.ext x10);have HS10:=HS9;have hs10':=hs9';have HF10:=hid (zw HF9.out x10);have HK910:=hid hrk;have HGK:=hid hgk;have BK:=hid hbk;clear HI9 HR9 HU9 HK9 HF9 x10 hrk hgk hbk ht9'
  try clear hs9'
  have ck1:=HU10.out.cell (i:=9) (v:=.slice none 0 0) (by rw[zP _ _ (by omega)];rfl);have fk1:=HU10.out.frozen 9;have ck2:=HU10.out.cell (i:=10) (v:=.slice none 0 0) (by rw[zP _ _ (by omega)];rfl);have fk2:=HU10.out.frozen 10;have lu:=HU10.out.lt;go_wp2_with fail
  have HU11:Hid (Blk (((w10.setCell ⟨g,9,none⟩ (.slice su.a su.n su.c)).setCell ⟨g,10,none⟩ (.slice sv.a sv.n sv.c))) g 36 (MsgC.mk z y1 y2 y3 0 0 0 ((z4:Int)==1) sf su sv nilS 0 false nilS vec0 vec0 nilS 0 zd zd).arr):=by
   have h9:=HU10.out.setCells ([.slice su.a su.n su.c,.slice sv.a sv.n sv.c]) 9 (by rw[zy];show 9+2≤147;omega);rw[zcH (MsgC.mk z y1 y2 y3 0 0 0 ((z4:Int)==1) sf nilS nilS nilS 0 false nilS vec0 vec0 nilS 0 zd zd) (MsgC.mk z y1 y2 y3 0 0 0 ((z4:Int)==1) sf su sv nilS 0 false nilS vec0 vec0 nilS 0 zd zd) 9 [.slice su.a su.n su.c,.slice sv.a sv.n sv.c] (by show 9+2≤15;omega) rfl rfl] at h9;exact h9
  have kS11:Keep (fun k=>k=g) w10 (((w10.setCell ⟨g,9,none⟩ (.slice su.a su.n su.c)).setCell ⟨g,10,none⟩ (.slice sv.a sv.n sv.c))):=Keep.setCells (S:=fun q=>q=g) (.inl rfl) ([.slice su.a su.n su.c,.slice sv.a sv.n sv.c]) (Keep.refl _ w10) 9;have HI11:=hid (show InAt (((w10.setCell ⟨g,9,none⟩ (.slice su.a su.n su.c)).setCell ⟨g,10,none⟩ (.slice sv.a sv.n sv.c))) q s9 e9 from Blk.keep HI10.out kS11 (fun h=>NU.out h.symm));have HR11:=hid (HR10.out.keep kS11 (fun h=>NUR.out h.symm));have HK11:=hid (zak HK10.out kS11 (fun k hk=>by rw[hk];exact GU.out));have HS11:=HS10;have hs11':=hs10'
  have HF11:=hid (zq HF10.out kS11 (fun g hg hq=>zC HF10.out HU10.out (by decide) (by rw[←hq];exact hg)));have HK911:=hid (HK910.out.keepBlk HU10.out (by decide) (by decide) (by decide) (by decide) kS11);clear HI10 HR10 HU10 HK10 HF10 HK910 kS11 hs10';clear ck1 fk1 ck2 fk2 lu;generalize ((w10.setCell ⟨g,9,none⟩ (.slice su.a su.n su.c)).setCell ⟨g,10,none⟩ (.slice sv.a sv.n sv.c))=w11 at HI11 HR11 HU11 HK11 HF11 HK911⊢;refine((HPp _ _ _ HK11.out HI11.out hs11').out).mono ?_;rintro en w12 ⟨vh,lh,s12,e12,rfl,hrh,hgh,hlh,k12,h12,hs12,r12⟩;have HI12:=hid h12;have HR12:=hid (HR11.out.keep k12 NR.out);have HU12:=hid (HU11.out.keep k12 NU.out)
  have HK12:=hid (HK11.out.trans k12);have R12:=hid r12;have hs12':s12.size≤65536:=by omega
  have HS12:=hid (Nat.le_trans hs12 HS11.out);have HF12:=hid (zq HF11.out k12 (fun g hg hq=>zC HF11.out HI11.out (by decide) (by rw[←hq];exact hg)));have HK912:=hid (HK911.out.keepBlk HI11.out (by decide) (by decide) (by decide) (by decide) k12);have HH12:=hid (zY hrh (Nat.zero_le _));have HGH:=hid hgh;have HLH:=hid hlh;obtain⟨⟨sh1,sh2,sh3⟩,hshe⟩:=zd6 hrh;subst hshe;dsimp only[SlV.val];clear hrh hgh hlh;clear HI11 HR11 HU11 HK11 HF11 HK911 k12 h12 r12 hs12 hs11';have cheld:=HU12.out.cell (i:=11) (v:=.slice none 0 0) (by rw[zP _ _ (by omega)];rfl);have fheld:=HU12.out.frozen 11;have lu:=HU12.out.lt;go_wp2_with fail
  have HU13:Hid (Blk ((w12.setCell ⟨g,11,none⟩ (.slice sh1 sh2 sh3))) g 36 (MsgC.mk z y1 y2 y3 0 0 0 ((z4:Int)==1) sf su sv ⟨sh1,sh2,sh3⟩ 0 false nilS vec0 vec0 nilS 0 zd zd).arr):=by
   have h9:=HU12.out.setCells ([.slice sh1 sh2 sh3]) 11 (by rw[zy];show 11+1≤147;omega);rw[zcH (MsgC.mk z y1 y2 y3 0 0 0 ((z4:Int)==1) sf su sv nilS 0 false nilS vec0 vec0 nilS 0 zd zd) (MsgC.mk z y1 y2 y3 0 0 0 ((z4:Int)==1) sf su sv ⟨sh1,sh2,sh3⟩ 0 false nilS vec0 vec0 nilS 0 zd zd) 11 [.slice sh1 sh2 sh3] (by show 11+1≤15;omega) rfl rfl] at h9;exact h9
  have kS13:Keep (fun k=>k=g) w12 ((w12.setCell ⟨g,11,none⟩ (.slice sh1 sh2 sh3))):=Keep.setCells (S:=fun q=>q=g) (.inl rfl) ([.slice sh1 sh2 sh3]) (Keep.refl _ w12) 11;have HI13:=hid (show InAt ((w12.setCell ⟨g,11,none⟩ (.slice sh1 sh2 sh3))) q s12 e12 from Blk.keep HI12.out kS13 (fun h=>NU.out h.symm));have HR13:=hid (HR12.out.keep kS13 (fun h=>NUR.out h.symm));have HK13:=hid (zak HK12.out kS13 (fun k hk=>by rw[hk];exact GU.out));have HS13:=HS12;have hs13':=hs12';have HF13:=hid (zq HF12.out kS13 (fun g hg hq=>zC HF12.out HU12.out (by decide) (by rw[←hq];exact hg)))
  have HK913:=hid (HK912.out.keepBlk HU12.out (by decide) (by decide) (by decide) (by decide) kS13);have HH13:=hid (zq HH12.out kS13 (fun g hg hq=>zC HH12.out HU12.out (by decide) (by rw[←hq];exact hg)));clear HI12 HR12 HU12 HK12 HF12 HK912 HH12 kS13 hs12';clear cheld fheld lu;generalize (w12.setCell ⟨g,11,none⟩ (.slice sh1 sh2 sh3))=w13 at HI13 HR13 HU13 HK13 HF13 HK913 HH13⊢;obtain⟨X,hX⟩:∃ X,(MsgC.mk z y1 y2 y3 0 0 0 ((z4:Int)==1) sf su sv ⟨sh1,sh2,sh3⟩ 0 false nilS vec0 vec0 nilS 0 zd zd).arr=X:=⟨_,rfl⟩
  have hz9:=hid (zy (MsgC.mk z y1 y2 y3 0 0 0 ((z4:Int)==1) sf su sv ⟨sh1,sh2,sh3⟩ 0 false nilS vec0 vec0 nilS 0 zd zd));have ho9:=hid (zZ (MsgC.mk z y1 y2 y3 0 0 0 ((z4:Int)==1) sf su sv ⟨sh1,sh2,sh3⟩ 0 false nilS vec0 vec0 nilS 0 zd zd));have HXe:=hid hX;rw[hX] at HU13 hz9 ho9;clear hX;go_wp2_with fail
  simp only[Tryz.isAgg36,Tryz.sizeOf36,Result.andThen,↓reduceIte,za HU13.out 147 hz9.out];rw[Oper.upon_value];go_wp2_with fail
  simp only[Tryz.sizeOf36,Result.andThen,↓reduceIte,zb HR13.out (by rw[hz9.out];exact zz) (by rw[hz9.out,HZ.out]) ho9.out,hz9.out];rw[Oper.upon_skip];go_wp2_with fail
  have HF:=hid (HR13.out.setRow X);have kR:Keep (fun g=>g=w.heap.size) w13 _:=Keep.setRow (S:=fun g=>g=w.heap.size) (Keep.refl _ w13) (.inl rfl) X;have HKf:=hid (Keep.setRow (S:=fun g=>g=q) HK13.out (.inr (Nat.le_refl _)) X);have HFf:=hid (zq HF13.out kR (fun g hg hq=>zC HF13.out HR13.out (by decide) (by rw[←hq];exact hg)));have HK9f:=hid (HK913.out.keepBlk HR13.out (by decide) (by decide) (by decide) (by decide) kR);have HHf:=hid (zq HH13.out kR (fun g hg hq=>zC HH13.out HR13.out (by decide) (by rw[←hq];exact hg)))
  refine bodyPost_ret (results_cell_row rfl _ _ w.heap.size 36 _ (0,0) _ rfl HF.out Tryz.underlying36 rfl (by rw[hz9.out];exact zz)) rfl ⟨⟨sf,su,sv,⟨sh1,sh2,sh3⟩,nilS,nilS⟩,⟨z,y1,y2,y3,0,0,0,((z4:Int)==1),lf,lk,lh,0,false,[],vec0,vec0,[],0,zd,zd⟩,by rw[←HXe.out];rfl,⟨HFf.out,HK9f.out,HHf.out,zp _ _ _ _,zp _ _ _ _⟩,?_,HGK.out,HKf.out,?_⟩
  ·exact⟨HGF.out,HGK.out.ok,Nat.le_trans HLH.out (by decide),zga,Nat.zero_le _,zaZ,zaZ,zf7,Nat.zero_le _,zM Hz.out,⟨zM HY.out.1,zM HY.out.2.1,zM HY.out.2.2⟩,zhd,zaL,zaL,HGH.out⟩
  ·intro m0 hok hl hg a0 hs0
   exact back1 hok hl hg a0 hs0 R2.out RY.out R4.out R6.out R9.out R12.out BF.out (fun k0 x1 x2 x3=>(BK.out k0 x1 x2 x3).2) H1.out
 have d1:((z:Int)==1)=false:=by
  have:¬ (z:Int)=1:=by omega
  simpa using this
 by_cases h2:z=2
 ·have d2:((z:Int)==2)=true:=by rw[h2];rfl
  have H2:=hid h2;clear h1 h2 HGf HGk HPp;go_wp2_with fail
  refine((HSd _ _ _ HI3.out hs3').out).mono ?_;rintro en w4 ⟨a4,b4,c4,s4,e4,rfl,hx4,hy4,hz4,k4,h4,hs4,r4⟩;have HI4:=hid h4;have HR4:=hid (HR3.out.keep k4 NR.out);have HU4:=hid (HU3.out.keep k4 NU.out);have HK4:=hid (HK3.out.trans k4);have R4:=hid r4;have hs4':s4.size≤65536:=by omega
  have HS4:=hid (Nat.le_trans hs4 HS3.out);have Z4:=hid (And.intro hx4 (And.intro hy4 hz4));clear hx4 hy4 hz4;clear HI3 HR3 HU3 HK3  k4 h4 r4 hs4 hs3';go_wp2_with fail
  refine((HN _ _ _ HI4.out hs4').out).mono ?_;rintro en w5 ⟨z5,s5,e5,rfl,hz5,k5,h5,hs5,r5⟩;have HI5:=hid h5;have HR5:=hid (HR4.out.keep k5 NR.out);have HU5:=hid (HU4.out.keep k5 NU.out);have HK5:=hid (HK4.out.trans k5);have R5:=hid r5;have hs5':s5.size≤65536:=by omega
  have HS5:=hid (Nat.le_trans hs5 HS4.out);have Z5:=hid hz5;clear hz5;clear HI4 HR4 HU4 HK4  k5 h5 r5 hs5 hs4';have cr1:=HU5.out.cell (i:=4) (v:=.int .i64 0) (by rw[zP _ _ (by omega)];rfl);have fr1:=HU5.out.frozen 4;have cr2:=HU5.out.cell (i:=5) (v:=.int .i64 0) (by rw[zP _ _ (by omega)];rfl);have fr2:=HU5.out.frozen 5;have cr3:=HU5.out.cell (i:=6) (v:=.int .i64 0) (by rw[zP _ _ (by omega)];rfl);have fr3:=HU5.out.frozen 6;have cseq:=HU5.out.cell (i:=12) (v:=.int .i64 0) (by rw[zP _ _ (by omega)];rfl);have fseq:=HU5.out.frozen 12;have lu:=HU5.out.lt;go_wp2_with fail
  clear cseq fseq;have HU6:Hid (Blk ((((w5.setCell ⟨g,4,none⟩ (.int .i64 a4)).setCell ⟨g,5,none⟩ (.int .i64 b4)).setCell ⟨g,6,none⟩ (.int .i64 c4))) g 36 (MsgC.mk z y1 y2 y3 a4 b4 c4 false nilS nilS nilS nilS 0 false nilS vec0 vec0 nilS 0 zd zd).arr):=by
   have h9:=HU5.out.setCells ([.int .i64 a4,.int .i64 b4,.int .i64 c4]) 4 (by rw[zy];show 4+3≤147;omega);rw[zcH (MsgC.mk z y1 y2 y3 0 0 0 false nilS nilS nilS nilS 0 false nilS vec0 vec0 nilS 0 zd zd) (MsgC.mk z y1 y2 y3 a4 b4 c4 false nilS nilS nilS nilS 0 false nilS vec0 vec0 nilS 0 zd zd) 4 [.int .i64 a4,.int .i64 b4,.int .i64 c4] (by show 4+3≤15;omega) rfl rfl] at h9;exact h9
  have kS6:Keep (fun k=>k=g) w5 ((((w5.setCell ⟨g,4,none⟩ (.int .i64 a4)).setCell ⟨g,5,none⟩ (.int .i64 b4)).setCell ⟨g,6,none⟩ (.int .i64 c4))):=Keep.setCells (S:=fun q=>q=g) (.inl rfl) ([.int .i64 a4,.int .i64 b4,.int .i64 c4]) (Keep.refl _ w5) 4;have HI6:=hid (show InAt ((((w5.setCell ⟨g,4,none⟩ (.int .i64 a4)).setCell ⟨g,5,none⟩ (.int .i64 b4)).setCell ⟨g,6,none⟩ (.int .i64 c4))) q s5 e5 from Blk.keep HI5.out kS6 (fun h=>NU.out h.symm));have HR6:=hid (HR5.out.keep kS6 (fun h=>NUR.out h.symm));have HK6:=hid (zak HK5.out kS6 (fun k hk=>by rw[hk];exact GU.out));have HS6:=HS5;have hs6':=hs5';clear HI5 HR5 HU5 HK5  kS6 hs5'
  clear cr1 fr1 cr2 fr2 cr3 fr3 lu;generalize (((w5.setCell ⟨g,4,none⟩ (.int .i64 a4)).setCell ⟨g,5,none⟩ (.int .i64 b4)).setCell ⟨g,6,none⟩ (.int .i64 c4))=w6 at HI6 HR6 HU6 HK6  ⊢;have lu:=HU6.out.lt;have cseq:=trivial;have fseq:=trivial;have HU7:Hid (Blk ((w6.setCell ⟨g,12,none⟩ (.int .i64 z5))) g 36 (MsgC.mk z y1 y2 y3 a4 b4 c4 false nilS nilS nilS nilS z5 false nilS vec0 vec0 nilS 0 zd zd).arr):=by
   have h9:=HU6.out.setCells ([.int .i64 z5]) 12 (by rw[zy];show 12+1≤147;omega);rw[zcH (MsgC.mk z y1 y2 y3 a4 b4 c4 false nilS nilS nilS nilS 0 false nilS vec0 vec0 nilS 0 zd zd) (MsgC.mk z y1 y2 y3 a4 b4 c4 false nilS nilS nilS nilS z5 false nilS vec0 vec0 nilS 0 zd zd) 12 [.int .i64 z5] (by show 12+1≤15;omega) rfl rfl] at h9;exact h9
  have kS7:Keep (fun k=>k=g) w6 ((w6.setCell ⟨g,12,none⟩ (.int .i64 z5))):=Keep.setCells (S:=fun q=>q=g) (.inl rfl) ([.int .i64 z5]) (Keep.refl _ w6) 12;have HI7:=hid (show InAt ((w6.setCell ⟨g,12,none⟩ (.int .i64 z5))) q s5 e5 from Blk.keep HI6.out kS7 (fun h=>NU.out h.symm));have HR7:=hid (HR6.out.keep kS7 (fun h=>NUR.out h.symm));have HK7:=hid (zak HK6.out kS7 (fun k hk=>by rw[hk];exact GU.out));have HS7:=HS6;have hs7':=hs6';clear HI6 HR6 HU6 HK6  kS7 hs6';clear cseq fseq lu;generalize (w6.setCell ⟨g,12,none⟩ (.int .i64 z5))=w7 at HI7 HR7 HU7 HK7  ⊢;refine((HN _ _ _ HI7.out hs7').out).mono ?_
  rintro en w8 ⟨z8,s8,e8,rfl,hz8,k8,h8,hs8,r8⟩;have HI8:=hid h8;have HR8:=hid (HR7.out.keep k8 NR.out);have HU8:=hid (HU7.out.keep k8 NU.out);have HK8:=hid (HK7.out.trans k8);have R8:=hid r8;have hs8':s8.size≤65536:=by omega
  have HS8:=hid (Nat.le_trans hs8 HS7.out);have Z8:=hid hz8;clear hz8;clear HI7 HR7 HU7 HK7  k8 h8 r8 hs8 hs7';have clast:=HU8.out.cell (i:=13) (v:=.bool false) (by rw[zP _ _ (by omega)];rfl);have flast:=HU8.out.frozen 13;have lu:=HU8.out.lt;go_wp2_with fail
  have HU9:Hid (Blk ((w8.setCell ⟨g,13,none⟩ (.bool ((z8:Int)==1)))) g 36 (MsgC.mk z y1 y2 y3 a4 b4 c4 false nilS nilS nilS nilS z5 ((z8:Int)==1) nilS vec0 vec0 nilS 0 zd zd).arr):=by
   have h9:=HU8.out.setCells ([.bool ((z8:Int)==1)]) 13 (by rw[zy];show 13+1≤147;omega);rw[zcH (MsgC.mk z y1 y2 y3 a4 b4 c4 false nilS nilS nilS nilS z5 false nilS vec0 vec0 nilS 0 zd zd) (MsgC.mk z y1 y2 y3 a4 b4 c4 false nilS nilS nilS nilS z5 ((z8:Int)==1) nilS vec0 vec0 nilS 0 zd zd) 13 [.bool ((z8:Int)==1)] (by show 13+1≤15;omega) rfl rfl] at h9;exact h9
  have kS9:Keep (fun k=>k=g) w8 ((w8.setCell ⟨g,13,none⟩ (.bool ((z8:Int)==1)))):=Keep.setCells (S:=fun q=>q=g) (.inl rfl) ([.bool ((z8:Int)==1)]) (Keep.refl _ w8) 13;have HI9:=hid (show InAt ((w8.setCell ⟨g,13,none⟩ (.bool ((z8:Int)==1)))) q s8 e8 from Blk.keep HI8.out kS9 (fun h=>NU.out h.symm));have HR9:=hid (HR8.out.keep kS9 (fun h=>NUR.out h.symm));have HK9:=hid (zak HK8.out kS9 (fun k hk=>by rw[hk];exact GU.out));have HS9:=HS8;have hs9':=hs8';clear HI8 HR8 HU8 HK8  kS9 hs8';clear clast flast lu;generalize (w8.setCell ⟨g,13,none⟩ (.bool ((z8:Int)==1)))=w9 at HI9 HR9 HU9 HK9  ⊢
  refine((HPe _ _ _ HK9.out HI9.out hs9').out).mono ?_;rintro en w10 ⟨ve,le,s10,e10,rfl,hre,hge,hle,k10,h10,hs10,r10⟩;have HI10:=hid h10;have HR10:=hid (HR9.out.keep k10 NR.out);have HU10:=hid (HU9.out.keep k10 NU.out);have HK10:=hid (HK9.out.trans k10);have R10:=hid r10;have hs10':s10.size≤65536:=by omega
  have HS10:=hid (Nat.le_trans hs10 HS9.out);have HE10:=hid (zY hre (Nat.zero_le _));have HGE:=hid hge;have HLE:=hid hle;obtain⟨⟨sh1,sh2,sh3⟩,hshe⟩:=zd6 hre;subst hshe;dsimp only[SlV.val];clear hre hge hle;clear HI9 HR9 HU9 HK9  k10 h10 r10 hs10 hs9';have cents:=HU10.out.cell (i:=14) (v:=.slice none 0 0) (by rw[zP _ _ (by omega)];rfl);have fents:=HU10.out.frozen 14;have lu:=HU10.out.lt;go_wp2_with fail
  have HU11:Hid (Blk ((w10.setCell ⟨g,14,none⟩ (.slice sh1 sh2 sh3))) g 36 (MsgC.mk z y1 y2 y3 a4 b4 c4 false nilS nilS nilS nilS z5 ((z8:Int)==1) ⟨sh1,sh2,sh3⟩ vec0 vec0 nilS 0 zd zd).arr):=by
   have h9:=HU10.out.setCells ([.slice sh1 sh2 sh3]) 14 (by rw[zy];show 14+1≤147;omega);rw[zcH (MsgC.mk z y1 y2 y3 a4 b4 c4 false nilS nilS nilS nilS z5 ((z8:Int)==1) nilS vec0 vec0 nilS 0 zd zd) (MsgC.mk z y1 y2 y3 a4 b4 c4 false nilS nilS nilS nilS z5 ((z8:Int)==1) ⟨sh1,sh2,sh3⟩ vec0 vec0 nilS 0 zd zd) 14 [.slice sh1 sh2 sh3] (by show 14+1≤15;omega) rfl rfl] at h9;exact h9
  have kS11:Keep (fun k=>k=g) w10 ((w10.setCell ⟨g,14,none⟩ (.slice sh1 sh2 sh3))):=Keep.setCells (S:=fun q=>q=g) (.inl rfl) ([.slice sh1 sh2 sh3]) (Keep.refl _ w10) 14;have HI11:=hid (show InAt ((w10.setCell ⟨g,14,none⟩ (.slice sh1 sh2 sh3))) q s10 e10 from Blk.keep HI10.out kS11 (fun h=>NU.out h.symm));have HR11:=hid (HR10.out.keep kS11 (fun h=>NUR.out h.symm));have HK11:=hid (zak HK10.out kS11 (fun k hk=>by rw[hk];exact GU.out));have HS11:=HS10;have hs11':=hs10';have HE11:=hid (zq HE10.out kS11 (fun g hg hq=>zC HE10.out HU10.out (by decide) (by rw[←hq];exact hg)));clear HI10 HR10 HU10 HK10 HE10 kS11 hs10'
  clear cents fents lu;generalize (w10.setCell ⟨g,14,none⟩ (.slice sh1 sh2 sh3))=w11 at HI11 HR11 HU11 HK11 HE11⊢;refine((HT _ _ _ HI11.out hs11').out).mono ?_;rintro en w12 ⟨t12,s12,e12,rfl,ht12,k12,h12,hs12,r12⟩;have HI12:=hid h12;have HR12:=hid (HR11.out.keep k12 NR.out);have HU12:=hid (HU11.out.keep k12 NU.out);have HK12:=hid (HK11.out.trans k12);have R12:=hid r12;have hs12':s12.size≤65536:=by omega
  have HS12:=hid (Nat.le_trans hs12 HS11.out);have HE12:=hid (zq HE11.out k12 (fun g hg hq=>zC HE11.out HI11.out (by decide) (by rw[←hq];exact hg)));have ht12':t12.size≤65536:=by omega
  clear ht12;clear HI11 HR11 HU11 HK11 HE11 k12 h12 r12 hs12 hs11';go_wp2_with fail
  refine((HGv _ _ ht12').out).mono ?_;rintro en w13 ⟨vV,zvV,rfl,hlV,hinV,x13,hbV⟩;have HI13:=hid (HI12.out.ext x13);have HR13:=hid (HR12.out.ext x13);have HU13:=hid (HU12.out.ext x13);have HK13:=hid (HK12.out.ext x13);have HS13:=HS12;have hs13':=hs12';have HE13:=hid (zw HE12.out x13);have HLV:=hid hlV;have HINV:=hid hinV;have BVV:=hid hbV;have hzV:=hid (zbs hlV);clear HI12 HR12 HU12 HK12 HE12 x13 hlV hinV hbV ht12'
  try clear hs12'
  have hle:Hid (15+(vecV vV).toList.length≤(MsgC.mk z y1 y2 y3 a4 b4 c4 false nilS nilS nilS nilS z5 ((z8:Int)==1) ⟨sh1,sh2,sh3⟩ vec0 vec0 nilS 0 zd zd).arr.size):=by unfold Hid;rw[Array.length_toList,hzV.out,zy];omega
  have h1V:Hid (∀ u∈(vecV vV).toList,u.oneCell'=true):=fun u hu=>Array.all_eq_true_iff_forall_mem.1 (zaf vV) u (Array.mem_toList_iff.1 hu);go_wp2_with fail
  simp only[Tryz.sizeOf33,Result.andThen];rw[if_neg (show ¬ (65:Nat)=0 by omega)];dsimp only;rw[Oper.upon_value];go_wp2_with fail
  simp only[Tryz.sizeOf33,Result.andThen,↓reduceIte,hzV.out,zaa HU13.out hle.out h1V.out];rw[Oper.upon_skip];have HU14:Hid (Blk (w13.setCells g 15 (vecV vV).toList) g 36 (MsgC.mk z y1 y2 y3 a4 b4 c4 false nilS nilS nilS nilS z5 ((z8:Int)==1) ⟨sh1,sh2,sh3⟩ vV vec0 nilS 0 HLV.out zd).arr):=by
   have h9:=HU13.out.setCells ((vecV vV).toList) 15 hle.out;rw[set_VV (MsgC.mk z y1 y2 y3 a4 b4 c4 false nilS nilS nilS nilS z5 ((z8:Int)==1) ⟨sh1,sh2,sh3⟩ vec0 vec0 nilS 0 zd zd) (MsgC.mk z y1 y2 y3 a4 b4 c4 false nilS nilS nilS nilS z5 ((z8:Int)==1) ⟨sh1,sh2,sh3⟩ vV vec0 nilS 0 HLV.out zd) vV HLV.out rfl rfl rfl rfl rfl] at h9;exact h9
  have kS14:Keep (fun k=>k=g) w13 (w13.setCells g 15 (vecV vV).toList):=Keep.setCells (S:=fun q=>q=g) (.inl rfl) ((vecV vV).toList) (Keep.refl _ w13) 15;have HI14:=hid (show InAt (w13.setCells g 15 (vecV vV).toList) q s12 e12 from Blk.keep HI13.out kS14 (fun h=>NU.out h.symm));have HR14:=hid (HR13.out.keep kS14 (fun h=>NUR.out h.symm));have HK14:=hid (zak HK13.out kS14 (fun k hk=>by rw[hk];exact GU.out));have HS14:=HS13;have hs14':=hs13';have HE14:=hid (zq HE13.out kS14 (fun g hg hq=>zC HE13.out HU13.out (by decide) (by rw[←hq];exact hg)));clear HI13 HR13 HU13 HK13 HE13 kS14 hs13' hle h1V
  generalize w13.setCells g 15 (vecV vV).toList=w14 at HI14 HR14 HU14 HK14 HE14⊢;go_wp2_with fail
  refine((HT _ _ _ HI14.out hs14').out).mono ?_;rintro en w15 ⟨t15,s15,e15,rfl,ht15,k15,h15,hs15,r15⟩;have HI15:=hid h15;have HR15:=hid (HR14.out.keep k15 NR.out);have HU15:=hid (HU14.out.keep k15 NU.out);have HK15:=hid (HK14.out.trans k15);have R15:=hid r15;have hs15':s15.size≤65536:=by omega
  have HS15:=hid (Nat.le_trans hs15 HS14.out);have HE15:=hid (zq HE14.out k15 (fun g hg hq=>zC HE14.out HI14.out (by decide) (by rw[←hq];exact hg)));have ht15':t15.size≤65536:=by omega
  clear ht15;clear HI14 HR14 HU14 HK14 HE14 k15 h15 r15 hs15 hs14';go_wp2_with fail
  refine((HGv _ _ ht15').out).mono ?_;rintro en w16 ⟨vA,zvA,rfl,hlA,hinA,x16,hbA⟩;have HI16:=hid (HI15.out.ext x16);have HR16:=hid (HR15.out.ext x16);have HU16:=hid (HU15.out.ext x16);have HK16:=hid (HK15.out.ext x16);have HS16:=HS15;have hs16':=hs15';have HE16:=hid (zw HE15.out x16);have HLA:=hid hlA;have HINA:=hid hinA;have BVA:=hid hbA;have hzA:=hid (zbs hlA);clear HI15 HR15 HU15 HK15 HE15 x16 hlA hinA hbA ht15'
  try clear hs15'
  have hle:Hid (80+(vecV vA).toList.length≤(MsgC.mk z y1 y2 y3 a4 b4 c4 false nilS nilS nilS nilS z5 ((z8:Int)==1) ⟨sh1,sh2,sh3⟩ vV vec0 nilS 0 HLV.out zd).arr.size):=by unfold Hid;rw[Array.length_toList,hzA.out,zy];omega
  have h1V:Hid (∀ u∈(vecV vA).toList,u.oneCell'=true):=fun u hu=>Array.all_eq_true_iff_forall_mem.1 (zaf vA) u (Array.mem_toList_iff.1 hu);go_wp2_with fail
  simp only[Tryz.sizeOf33,Result.andThen];rw[if_neg (show ¬ (65:Nat)=0 by omega)];dsimp only;rw[Oper.upon_value];go_wp2_with fail
  simp only[Tryz.sizeOf33,Result.andThen,↓reduceIte,hzA.out,zaa HU16.out hle.out h1V.out];rw[Oper.upon_skip];have HU17:Hid (Blk (w16.setCells g 80 (vecV vA).toList) g 36 (MsgC.mk z y1 y2 y3 a4 b4 c4 false nilS nilS nilS nilS z5 ((z8:Int)==1) ⟨sh1,sh2,sh3⟩ vV vA nilS 0 HLV.out HLA.out).arr):=by
   have h9:=HU16.out.setCells ((vecV vA).toList) 80 hle.out;rw[set_AA (MsgC.mk z y1 y2 y3 a4 b4 c4 false nilS nilS nilS nilS z5 ((z8:Int)==1) ⟨sh1,sh2,sh3⟩ vV vec0 nilS 0 HLV.out zd) (MsgC.mk z y1 y2 y3 a4 b4 c4 false nilS nilS nilS nilS z5 ((z8:Int)==1) ⟨sh1,sh2,sh3⟩ vV vA nilS 0 HLV.out HLA.out) vA HLA.out rfl rfl rfl rfl rfl] at h9;exact h9
  have kS17:Keep (fun k=>k=g) w16 (w16.setCells g 80 (vecV vA).toList):=Keep.setCells (S:=fun q=>q=g) (.inl rfl) ((vecV vA).toList) (Keep.refl _ w16) 80;have HI17:=hid (show InAt (w16.setCells g 80 (vecV vA).toList) q s15 e15 from Blk.keep HI16.out kS17 (fun h=>NU.out h.symm));have HR17:=hid (HR16.out.keep kS17 (fun h=>NUR.out h.symm));have HK17:=hid (zak HK16.out kS17 (fun k hk=>by rw[hk];exact GU.out));have HS17:=HS16;have hs17':=hs16';have HE17:=hid (zq HE16.out kS17 (fun g hg hq=>zC HE16.out HU16.out (by decide) (by rw[←hq];exact hg)));clear HI16 HR16 HU16 HK16 HE16 kS17 hs16' hle h1V
  generalize w16.setCells g 80 (vecV vA).toList=w17 at HI17 HR17 HU17 HK17 HE17⊢;go_wp2_with fail
  refine((HT _ _ _ HI17.out hs17').out).mono ?_;rintro en w18 ⟨t18,s18,e18,rfl,ht18,k18,h18,hs18,r18⟩;have HI18:=hid h18;have HR18:=hid (HR17.out.keep k18 NR.out);have HU18:=hid (HU17.out.keep k18 NU.out);have HK18:=hid (HK17.out.trans k18);have R18:=hid r18;have hs18':s18.size≤65536:=by omega
  have HS18:=hid (Nat.le_trans hs18 HS17.out);have HE18:=hid (zq HE17.out k18 (fun g hg hq=>zC HE17.out HI17.out (by decide) (by rw[←hq];exact hg)));have ht18':t18.size≤65536:=by omega
  clear ht18;clear HI17 HR17 HU17 HK17 HE17 k18 h18 r18 hs18 hs17';go_wp2_with fail
  refine((HGi _ _ ht18').out).mono ?_;rintro en w19 ⟨sn,ln,zn,rfl,hrn,hgn,hln,x19,hbn⟩;have HI19:=hid (HI18.out.ext x19);have HR19:=hid (HR18.out.ext x19);have HU19:=hid (HU18.out.ext x19);have HK19:=hid (HK18.out.ext x19);have HS19:=HS18;have hs19':=hs18';have HE19:=hid (zw HE18.out x19);have HN919:=hid hrn;have HGN:=hid hgn;have HLN:=hid hln;have BN:=hid hbn;clear HI18 HR18 HU18 HK18 HE18 x19 hrn hgn hln hbn ht18'
  try clear hs18'
  have cnot:=HU19.out.cell (i:=145) (v:=.slice none 0 0) (by rw[show(145:Nat)=145+0 from rfl,zad];rfl);have fnot:=HU19.out.frozen 145;have lu:=HU19.out.lt;go_wp2_with fail
  have HU20:Hid (Blk ((w19.setCell ⟨g,145,none⟩ (.slice sn.a sn.n sn.c))) g 36 (MsgC.mk z y1 y2 y3 a4 b4 c4 false nilS nilS nilS nilS z5 ((z8:Int)==1) ⟨sh1,sh2,sh3⟩ vV vA sn 0 HLV.out HLA.out).arr):=by
   have h9:=HU19.out.setCells ([.slice sn.a sn.n sn.c]) 145 (by rw[zy];show 145+1≤147;omega);rw[set_NN (MsgC.mk z y1 y2 y3 a4 b4 c4 false nilS nilS nilS nilS z5 ((z8:Int)==1) ⟨sh1,sh2,sh3⟩ vV vA nilS 0 HLV.out HLA.out) (MsgC.mk z y1 y2 y3 a4 b4 c4 false nilS nilS nilS nilS z5 ((z8:Int)==1) ⟨sh1,sh2,sh3⟩ vV vA sn 0 HLV.out HLA.out) (.slice sn.a sn.n sn.c) rfl rfl rfl rfl rfl] at h9;exact h9
  have kS20:Keep (fun k=>k=g) w19 ((w19.setCell ⟨g,145,none⟩ (.slice sn.a sn.n sn.c))):=Keep.setCells (S:=fun q=>q=g) (.inl rfl) ([.slice sn.a sn.n sn.c]) (Keep.refl _ w19) 145;have HI20:=hid (show InAt ((w19.setCell ⟨g,145,none⟩ (.slice sn.a sn.n sn.c))) q s18 e18 from Blk.keep HI19.out kS20 (fun h=>NU.out h.symm));have HR20:=hid (HR19.out.keep kS20 (fun h=>NUR.out h.symm));have HK20:=hid (zak HK19.out kS20 (fun k hk=>by rw[hk];exact GU.out));have HS20:=HS19;have hs20':=hs19';have HE20:=hid (zq HE19.out kS20 (fun g hg hq=>zC HE19.out HU19.out (by decide) (by rw[←hq];exact hg)))
  have HN920:=hid (zq HN919.out kS20 (fun g hg hq=>zC HN919.out HU19.out (by decide) (by rw[←hq];exact hg)));clear HI19 HR19 HU19 HK19 HE19 HN919 kS20 hs19';clear cnot fnot lu;generalize (w19.setCell ⟨g,145,none⟩ (.slice sn.a sn.n sn.c))=w20 at HI20 HR20 HU20 HK20 HE20 HN920⊢;obtain⟨X,hX⟩:∃ X,(MsgC.mk z y1 y2 y3 a4 b4 c4 false nilS nilS nilS nilS z5 ((z8:Int)==1) ⟨sh1,sh2,sh3⟩ vV vA sn 0 HLV.out HLA.out).arr=X:=⟨_,rfl⟩
  have hz9:=hid (zy (MsgC.mk z y1 y2 y3 a4 b4 c4 false nilS nilS nilS nilS z5 ((z8:Int)==1) ⟨sh1,sh2,sh3⟩ vV vA sn 0 HLV.out HLA.out));have ho9:=hid (zZ (MsgC.mk z y1 y2 y3 a4 b4 c4 false nilS nilS nilS nilS z5 ((z8:Int)==1) ⟨sh1,sh2,sh3⟩ vV vA sn 0 HLV.out HLA.out));have HXe:=hid hX;rw[hX] at HU20 hz9 ho9;clear hX;go_wp2_with fail
  simp only[Tryz.isAgg36,Tryz.sizeOf36,Result.andThen,↓reduceIte,za HU20.out 147 hz9.out];rw[Oper.upon_value];go_wp2_with fail
  simp only[Tryz.sizeOf36,Result.andThen,↓reduceIte,zb HR20.out (by rw[hz9.out];exact zz) (by rw[hz9.out,HZ.out]) ho9.out,hz9.out];rw[Oper.upon_skip];go_wp2_with fail
  have HF:=hid (HR20.out.setRow X);have kR:Keep (fun g=>g=w.heap.size) w20 _:=Keep.setRow (S:=fun g=>g=w.heap.size) (Keep.refl _ w20) (.inl rfl) X;have HKf:=hid (Keep.setRow (S:=fun g=>g=q) HK20.out (.inr (Nat.le_refl _)) X);have HEf:=hid (zq HE20.out kR (fun g hg hq=>zC HE20.out HR20.out (by decide) (by rw[←hq];exact hg)));have HN9f:=hid (zq HN920.out kR (fun g hg hq=>zC HN920.out HR20.out (by decide) (by rw[←hq];exact hg)))
  refine bodyPost_ret (results_cell_row rfl _ _ w.heap.size 36 _ (0,0) _ rfl HF.out Tryz.underlying36 rfl (by rw[hz9.out];exact zz)) rfl ⟨⟨nilS,nilS,nilS,nilS,⟨sh1,sh2,sh3⟩,sn⟩,⟨z,y1,y2,y3,a4,b4,c4,false,[],⟨[],[]⟩,[],z5,((z8:Int)==1),le,vV,vA,ln,0,HLV.out,HLA.out⟩,by rw[←HXe.out];rfl,⟨zp _ _ _ _,KnowT.nil _,zp _ _ _ _,HEf.out,HN9f.out⟩,?_,zbR,HKf.out,?_⟩
  ·exact⟨zf9,zfl,Nat.zero_le _,HGE.out,Nat.le_trans HLE.out (by decide),HINV.out,HINA.out,fun c hc=>zeT (HGN.out c hc),Nat.le_trans HLN.out (by decide),zM Hz.out,⟨zM HY.out.1,zM HY.out.2.1,zM HY.out.2.2⟩,⟨zM Z4.out.1,zM Z4.out.2.1,zM Z4.out.2.2⟩,zM Z5.out,zaL,zf8⟩
  ·intro m0 hok hl hg a0 hs0
   exact back2 hok hl a0 hs0 R2.out RY.out R4.out R5.out R8.out R10.out R12.out R15.out R18.out (fun u x1 x2 x3 x4=>(BVV.out u x1 x2 x3 x4).2) (fun u x1 x2 x3 x4=>(BVA.out u x1 x2 x3 x4).2) (fun f x1 x2 x3 x4=>(BN.out f x1 x2 x3 x4).2) H2.out
 have d2:((z:Int)==2)=false:=by
  have:¬ (z:Int)=2:=by omega
  simpa using this
 clear HGf HGk HPp HGv HGi HPe HT;by_cases h3:z=3
 ·have d3:((z:Int)==3)=true:=by rw[h3];rfl
  have H3:=hid h3;clear h1 h2 h3 HN;go_wp2_with fail
  refine((HSd _ _ _ HI3.out hs3').out).mono ?_;rintro en w4 ⟨a4,b4,c4,s4,e4,rfl,hx4,hy4,hz4,k4,h4,hs4,r4⟩;have HI4:=hid h4;have HR4:=hid (HR3.out.keep k4 NR.out);have HU4:=hid (HU3.out.keep k4 NU.out);have HK4:=hid (HK3.out.trans k4);have R4:=hid r4;have hs4':s4.size≤65536:=by omega
  have HS4:=hid (Nat.le_trans hs4 HS3.out);have Z4:=hid (And.intro hx4 (And.intro hy4 hz4));clear hx4 hy4 hz4;clear HI3 HR3 HU3 HK3  k4 h4 r4 hs4 hs3';have cr1:=HU4.out.cell (i:=4) (v:=.int .i64 0) (by rw[zP _ _ (by omega)];rfl);have fr1:=HU4.out.frozen 4;have cr2:=HU4.out.cell (i:=5) (v:=.int .i64 0) (by rw[zP _ _ (by omega)];rfl);have fr2:=HU4.out.frozen 5;have cr3:=HU4.out.cell (i:=6) (v:=.int .i64 0) (by rw[zP _ _ (by omega)];rfl);have fr3:=HU4.out.frozen 6;have lu:=HU4.out.lt;go_wp2_with fail
  have HU5:Hid (Blk ((((w4.setCell ⟨g,4,none⟩ (.int .i64 a4)).setCell ⟨g,5,none⟩ (.int .i64 b4)).setCell ⟨g,6,none⟩ (.int .i64 c4))) g 36 (MsgC.mk z y1 y2 y3 a4 b4 c4 false nilS nilS nilS nilS 0 false nilS vec0 vec0 nilS 0 zd zd).arr):=by
   have h9:=HU4.out.setCells ([.int .i64 a4,.int .i64 b4,.int .i64 c4]) 4 (by rw[zy];show 4+3≤147;omega);rw[zcH (MsgC.mk z y1 y2 y3 0 0 0 false nilS nilS nilS nilS 0 false nilS vec0 vec0 nilS 0 zd zd) (MsgC.mk z y1 y2 y3 a4 b4 c4 false nilS nilS nilS nilS 0 false nilS vec0 vec0 nilS 0 zd zd) 4 [.int .i64 a4,.int .i64 b4,.int .i64 c4] (by show 4+3≤15;omega) rfl rfl] at h9;exact h9
  have kS5:Keep (fun k=>k=g) w4 ((((w4.setCell ⟨g,4,none⟩ (.int .i64 a4)).setCell ⟨g,5,none⟩ (.int .i64 b4)).setCell ⟨g,6,none⟩ (.int .i64 c4))):=Keep.setCells (S:=fun q=>q=g) (.inl rfl) ([.int .i64 a4,.int .i64 b4,.int .i64 c4]) (Keep.refl _ w4) 4;have HI5:=hid (show InAt ((((w4.setCell ⟨g,4,none⟩ (.int .i64 a4)).setCell ⟨g,5,none⟩ (.int .i64 b4)).setCell ⟨g,6,none⟩ (.int .i64 c4))) q s4 e4 from Blk.keep HI4.out kS5 (fun h=>NU.out h.symm));have HR5:=hid (HR4.out.keep kS5 (fun h=>NUR.out h.symm));have HK5:=hid (zak HK4.out kS5 (fun k hk=>by rw[hk];exact GU.out));have HS5:=HS4;have hs5':=hs4';clear HI4 HR4 HU4 HK4  kS5 hs4'
  clear cr1 fr1 cr2 fr2 cr3 fr3 lu;generalize (((w4.setCell ⟨g,4,none⟩ (.int .i64 a4)).setCell ⟨g,5,none⟩ (.int .i64 b4)).setCell ⟨g,6,none⟩ (.int .i64 c4))=w5 at HI5 HR5 HU5 HK5  ⊢;obtain⟨X,hX⟩:∃ X,(MsgC.mk z y1 y2 y3 a4 b4 c4 false nilS nilS nilS nilS 0 false nilS vec0 vec0 nilS 0 zd zd).arr=X:=⟨_,rfl⟩
  have hz9:=hid (zy (MsgC.mk z y1 y2 y3 a4 b4 c4 false nilS nilS nilS nilS 0 false nilS vec0 vec0 nilS 0 zd zd));have ho9:=hid (zZ (MsgC.mk z y1 y2 y3 a4 b4 c4 false nilS nilS nilS nilS 0 false nilS vec0 vec0 nilS 0 zd zd));have HXe:=hid hX;rw[hX] at HU5 hz9 ho9;clear hX;go_wp2_with fail
  simp only[Tryz.isAgg36,Tryz.sizeOf36,Result.andThen,↓reduceIte,za HU5.out 147 hz9.out];rw[Oper.upon_value];go_wp2_with fail
  simp only[Tryz.sizeOf36,Result.andThen,↓reduceIte,zb HR5.out (by rw[hz9.out];exact zz) (by rw[hz9.out,HZ.out]) ho9.out,hz9.out];rw[Oper.upon_skip];go_wp2_with fail
  have HF:=hid (HR5.out.setRow X);have kR:Keep (fun g=>g=w.heap.size) w5 _:=Keep.setRow (S:=fun g=>g=w.heap.size) (Keep.refl _ w5) (.inl rfl) X;have HKf:=hid (Keep.setRow (S:=fun g=>g=q) HK5.out (.inr (Nat.le_refl _)) X);refine bodyPost_ret (results_cell_row rfl _ _ w.heap.size 36 _ (0,0) _ rfl HF.out Tryz.underlying36 rfl (by rw[hz9.out];exact zz)) rfl ⟨⟨nilS,nilS,nilS,nilS,nilS,nilS⟩,⟨z,y1,y2,y3,a4,b4,c4,false,[],⟨[],[]⟩,[],0,false,[],vec0,vec0,[],0,zd,zd⟩,by rw[←HXe.out];rfl,⟨zp _ _ _ _,KnowT.nil _,zp _ _ _ _,zp _ _ _ _,zp _ _ _ _⟩,?_,zbR,HKf.out,?_⟩
  ·exact⟨zf9,zfl,Nat.zero_le _,zga,Nat.zero_le _,zaZ,zaZ,zf7,Nat.zero_le _,zM Hz.out,⟨zM HY.out.1,zM HY.out.2.1,zM HY.out.2.2⟩,⟨zM Z4.out.1,zM Z4.out.2.1,zM Z4.out.2.2⟩,zaL,zaL,zf8⟩
  ·intro m0 hok hl hg a0 hs0
   exact back3 hok hl a0 hs0 R2.out RY.out R4.out H3.out
 have d3:((z:Int)==3)=false:=by
  have:¬ (z:Int)=3:=by omega
  simpa using this
 clear HSd;by_cases h4:z=4
 ·have d4:((z:Int)==4)=true:=by rw[h4];rfl
  have H4:=hid h4;clear h1 h2 h3 h4;go_wp2_with fail
  refine((HN _ _ _ HI3.out hs3').out).mono ?_;rintro en w4 ⟨z4,s4,e4,rfl,hz4,k4,h4,hs4,r4⟩;have HI4:=hid h4;have HR4:=hid (HR3.out.keep k4 NR.out);have HU4:=hid (HU3.out.keep k4 NU.out);have HK4:=hid (HK3.out.trans k4);have R4:=hid r4;have hs4':s4.size≤65536:=by omega
  have HS4:=hid (Nat.le_trans hs4 HS3.out);have Z4:=hid hz4;clear hz4;clear HI3 HR3 HU3 HK3  k4 h4 r4 hs4 hs3';have ccode:=HU4.out.cell (i:=146) (v:=.int .i64 0) (by rw[show(146:Nat)=145+1 from rfl,zad];rfl);have fcode:=HU4.out.frozen 146;have lu:=HU4.out.lt;go_wp2_with fail
  have HU5:Hid (Blk ((w4.setCell ⟨g,146,none⟩ (.int .i64 z4))) g 36 (MsgC.mk z y1 y2 y3 0 0 0 false nilS nilS nilS nilS 0 false nilS vec0 vec0 nilS z4 zd zd).arr):=by
   have h9:=HU4.out.setCells ([.int .i64 z4]) 146 (by rw[zy];show 146+1≤147;omega);rw[set_CC (MsgC.mk z y1 y2 y3 0 0 0 false nilS nilS nilS nilS 0 false nilS vec0 vec0 nilS 0 zd zd) (MsgC.mk z y1 y2 y3 0 0 0 false nilS nilS nilS nilS 0 false nilS vec0 vec0 nilS z4 zd zd) (.int .i64 z4) rfl rfl rfl rfl rfl] at h9;exact h9
  have kS5:Keep (fun k=>k=g) w4 ((w4.setCell ⟨g,146,none⟩ (.int .i64 z4))):=Keep.setCells (S:=fun q=>q=g) (.inl rfl) ([.int .i64 z4]) (Keep.refl _ w4) 146;have HI5:=hid (show InAt ((w4.setCell ⟨g,146,none⟩ (.int .i64 z4))) q s4 e4 from Blk.keep HI4.out kS5 (fun h=>NU.out h.symm));have HR5:=hid (HR4.out.keep kS5 (fun h=>NUR.out h.symm));have HK5:=hid (zak HK4.out kS5 (fun k hk=>by rw[hk];exact GU.out));have HS5:=HS4;have hs5':=hs4';clear HI4 HR4 HU4 HK4  kS5 hs4';clear ccode fcode lu;generalize (w4.setCell ⟨g,146,none⟩ (.int .i64 z4))=w5 at HI5 HR5 HU5 HK5  ⊢
  obtain⟨X,hX⟩:∃ X,(MsgC.mk z y1 y2 y3 0 0 0 false nilS nilS nilS nilS 0 false nilS vec0 vec0 nilS z4 zd zd).arr=X:=⟨_,rfl⟩
  have hz9:=hid (zy (MsgC.mk z y1 y2 y3 0 0 0 false nilS nilS nilS nilS 0 false nilS vec0 vec0 nilS z4 zd zd));have ho9:=hid (zZ (MsgC.mk z y1 y2 y3 0 0 0 false nilS nilS nilS nilS 0 false nilS vec0 vec0 nilS z4 zd zd));have HXe:=hid hX;rw[hX] at HU5 hz9 ho9;clear hX;go_wp2_with fail
  simp only[Tryz.isAgg36,Tryz.sizeOf36,Result.andThen,↓reduceIte,za HU5.out 147 hz9.out];rw[Oper.upon_value];go_wp2_with fail
  simp only[Tryz.sizeOf36,Result.andThen,↓reduceIte,zb HR5.out (by rw[hz9.out];exact zz) (by rw[hz9.out,HZ.out]) ho9.out,hz9.out];rw[Oper.upon_skip];go_wp2_with fail
  have HF:=hid (HR5.out.setRow X);have kR:Keep (fun g=>g=w.heap.size) w5 _:=Keep.setRow (S:=fun g=>g=w.heap.size) (Keep.refl _ w5) (.inl rfl) X;have HKf:=hid (Keep.setRow (S:=fun g=>g=q) HK5.out (.inr (Nat.le_refl _)) X);refine bodyPost_ret (results_cell_row rfl _ _ w.heap.size 36 _ (0,0) _ rfl HF.out Tryz.underlying36 rfl (by rw[hz9.out];exact zz)) rfl ⟨⟨nilS,nilS,nilS,nilS,nilS,nilS⟩,⟨z,y1,y2,y3,0,0,0,false,[],⟨[],[]⟩,[],0,false,[],vec0,vec0,[],z4,zd,zd⟩,by rw[←HXe.out];rfl,⟨zp _ _ _ _,KnowT.nil _,zp _ _ _ _,zp _ _ _ _,zp _ _ _ _⟩,?_,zbR,HKf.out,?_⟩
  ·exact⟨zf9,zfl,Nat.zero_le _,zga,Nat.zero_le _,zaZ,zaZ,zf7,Nat.zero_le _,zM Hz.out,⟨zM HY.out.1,zM HY.out.2.1,zM HY.out.2.2⟩,zhd,zaL,zM Z4.out,zf8⟩
  ·intro m0 hok hl hg a0 hs0
   exact back4 hok hl a0 hs0 R2.out RY.out R4.out H4.out
 have d4:((z:Int)==4)=false:=by
  have:¬ (z:Int)=4:=by omega
  simpa using this
 have H0:Hid (¬ z=1∧¬ z=2∧¬ z=3∧¬ z=4):=⟨h1,h2,h3,h4⟩
 clear h1 h2 h3 h4 HN;obtain⟨X,hX⟩:∃ X,(MsgC.mk z y1 y2 y3 0 0 0 false nilS nilS nilS nilS 0 false nilS vec0 vec0 nilS 0 zd zd).arr=X:=⟨_,rfl⟩
 have hz9:=hid (zy (MsgC.mk z y1 y2 y3 0 0 0 false nilS nilS nilS nilS 0 false nilS vec0 vec0 nilS 0 zd zd));have ho9:=hid (zZ (MsgC.mk z y1 y2 y3 0 0 0 false nilS nilS nilS nilS 0 false nilS vec0 vec0 nilS 0 zd zd));have HXe:=hid hX;rw[hX] at HU3 hz9 ho9;clear hX;go_wp2_with fail
 simp only[Tryz.isAgg36,Tryz.sizeOf36,Result.andThen,↓reduceIte,za HU3.out 147 hz9.out];rw[Oper.upon_value];go_wp2_with fail
 simp only[Tryz.sizeOf36,Result.andThen,↓reduceIte,zb HR3.out (by rw[hz9.out];exact zz) (by rw[hz9.out,HZ.out]) ho9.out,hz9.out];rw[Oper.upon_skip];go_wp2_with fail
 have HF:=hid (HR3.out.setRow X);have kR:Keep (fun g=>g=w.heap.size) w3 _:=Keep.setRow (S:=fun g=>g=w.heap.size) (Keep.refl _ w3) (.inl rfl) X;have HKf:=hid (Keep.setRow (S:=fun g=>g=q) HK3.out (.inr (Nat.le_refl _)) X);refine bodyPost_ret (results_cell_row rfl _ _ w.heap.size 36 _ (0,0) _ rfl HF.out Tryz.underlying36 rfl (by rw[hz9.out];exact zz)) rfl ⟨⟨nilS,nilS,nilS,nilS,nilS,nilS⟩,⟨z,y1,y2,y3,0,0,0,false,[],⟨[],[]⟩,[],0,false,[],vec0,vec0,[],0,zd,zd⟩,by rw[←HXe.out];rfl,⟨zp _ _ _ _,KnowT.nil _,zp _ _ _ _,zp _ _ _ _,zp _ _ _ _⟩,?_,zbR,HKf.out,?_⟩
 ·exact⟨zf9,zfl,Nat.zero_le _,zga,Nat.zero_le _,zaZ,zaZ,zf7,Nat.zero_le _,zM Hz.out,⟨zM HY.out.1,zM HY.out.2.1,zM HY.out.2.2⟩,zhd,zaL,zaL,zf8⟩
 ·intro m0 hok hl hg a0 hs0
  exact(back0 hok hl a0 hs0 R2.out H0.out).elim
end
section
open Go.RowKit
theorem MsgT.ext {w w':World} {S:SlM} {m:MsgI} (h:MsgT w S m) (he:Ext w w'):MsgT w' S m:=⟨zw h.f he,h.k.ext he,zw h.held he,zw h.ents he,zw h.not he⟩
theorem MsgT.keepMsg {w w':World} {S:SlM} {m:MsgI} {q:Nat} {cs:Array Value} (h:MsgT w S m) (hb:Blk w q 36 cs) (hk:Keep (fun g=>g=q) w w'):MsgT w' S m:=
 ⟨zq h.f hk (fun g hg hq=>zC h.f hb (by decide) (by rw[←hq];exact hg)),h.k.keepBlk hb (by decide) (by decide) (by decide) (by decide) hk,zq h.held hk (fun g hg hq=>zC h.held hb (by decide) (by rw[←hq];exact hg)),zq h.ents hk (fun g hg hq=>zC h.ents hb (by decide) (by rw[←hq];exact hg)),zq h.not hk (fun g hg hq=>zC h.not hb (by decide) (by rw[←hq];exact hg))⟩
theorem zlO (w:World):MsgT w slM0 msg0:=⟨zp _ _ _ _,KnowT.nil _,zp _ _ _ _,zp _ _ _ _,zp _ _ _ _⟩
theorem zjE:MsgOk msg0:=⟨zf9,zfl,Nat.zero_le _,zga,Nat.zero_le _,zaZ,zaZ,zf7,Nat.zero_le _,zaL,zhd,zhd,zaL,zaL,zf8⟩
theorem zg1 {b:List UInt8} (hb:b.length<9223372036854775808):zaK (zaC b)=(b,(zaC b).length,0):=by
 have ht:za6 (zaC b)=(0,b,crcF b):=ziw b (crcF b) hb;have hc:chk0 b (crcF b)=0:=by
  unfold chk0;rw[zdZ,if_neg (by omega),List.take_of_length_le (by rw[zdZ];omega),if_pos rfl]
 unfold zaK;rw[ht];dsimp only;rw[hc,if_neg (by simp),if_neg (by simp),zdZ,zdw]
 congr 2
theorem zkJ (s:List UInt8):(zaK s).1.length≤s.length:=by
 unfold zaK
 split
 ·simp
 ·split
  ·simp
  ·exact(zfY s).2
def GetQ (w:World) (s:ByteArray) (en:Ending) (w':World):Prop:=∃ (S:SlM) (m:MsgI) (z:Int),en=.returned (.tuple #[.agg (m.at S).arr,.int .i64 z])∧MsgAt w' S m∧MsgOk m∧KnowG m.k∧Ext w w'∧(z=0→layB m=true∧putZ m=0∧putM m=s)∧(z≠0→m=msg0∧z=if(zaK s.data.toList).2.2=0 then 6 else(zaK s.data.toList).2.2)∧(∀ m0:MsgI,MsgOk m0→layB m0=true→KnowG m0.k→putZ m0=0→s=putM m0→z=0∧m=m0)
theorem zkb {m0:MsgI} (h1:layB m0=true) (h2:putZ m0=0):putM m0=⟨(zaC (encL (partsF m0))).toArray⟩∧(encL (partsF m0)).length≤65536:=by
 unfold putZ at h2;rw[if_pos h1] at h2;by_cases h3:fszN (zau m0)≤65536
 ·unfold putM
  rw[if_pos h1,if_pos h3];refine⟨rfl,?_⟩;unfold fszN at h3;have:(zau m0).size=(encL (partsF m0)).length:=rfl;omega
 ·rw[if_neg h3] at h2;cases h2
attribute [-simp] Tryz.isAgg36 Tryz.sizeOf36
theorem mget_c (w:World) (s:ByteArray) (mx:Int) (hm:w.cell? ⟨0,0,none⟩=some (.int .i64 mx)) (hs:s.size≤65536):Calls Tryz.prog 8 #[.string s] w (GetQ w s):=by
 have HF:=fun W=>hid (first_c W s (by omega));have hb1:(⟨(zaK s.data.toList).1.toArray⟩:ByteArray).size≤65536:=by
  have h1:=zkJ s.data.toList;have h2:s.data.toList.length=s.size:=by rw[Array.length_toList];rfl
  show(zaK s.data.toList).1.toArray.size≤_
  rw[List.size_toArray];omega
 have hfr:∀ m0:MsgI,layB m0=true→putZ m0=0→s=putM m0→(zaK s.data.toList).2.2=0∧(zaK s.data.toList).2.1=s.size∧(⟨(zaK s.data.toList).1.toArray⟩:ByteArray)=zau m0:=fun m0 a1 a2 a3=>by
  obtain⟨b1,b2⟩:=zkb a1 a2;have e:s.data.toList=zaC (encL (partsF m0)):=by rw[a3,b1]
  have hl:s.data.toList.length=s.size:=by rw[Array.length_toList];rfl
  rw[e] at hl⊢;rw[zg1 (by omega)];exact⟨rfl,hl,rfl⟩
 unfold zej at HF;have HQ:Hid (∀ en w',GetQ w s en w' = ∃ (S:SlM) (m:MsgI) (z:Int),en=.returned (.tuple #[.agg (m.at S).arr,.int .i64 z])∧MsgAt w' S m∧MsgOk m∧KnowG m.k∧Ext w w'∧(z=0→layB m=true∧putZ m=0∧putM m=s)∧(z≠0→m=msg0∧z=if(zaK s.data.toList).2.2=0 then 6 else(zaK s.data.toList).2.2)∧(∀ m0:MsgI,MsgOk m0→layB m0=true→KnowG m0.k→putZ m0=0→s=putM m0→z=0∧m=m0)):=fun _ _=>rfl;generalize hGQ:GetQ w s=GQ at HQ⊢;clear hGQ;generalize (⟨(zaK s.data.toList).1.toArray⟩:ByteArray)=b at HF hb1 hfr;generalize (zaK s.data.toList).2.1=n at HF hfr
 generalize (zaK s.data.toList).2.2=z1 at HF hfr HQ;have HFr:=hid hfr;have HM:=hid hm;have HZ:=hid (zy msgZ);have HZ1:=hid (zZ msgZ);have HR0:=hid (Blk.new w 36 msgZ.arr);have HE0:=hid (Ext.alloc w (.cells msgZ.arr 36));have HSz:=hid hs;clear hm hfr hs;go_enter Tryz.func8,Tryz.ntmps8;go_wp2_with fail
 rw[zaT];generalize w.alloc (.cells msgZ.arr 36)=w1 at HR0 HE0⊢;refine((HF _).out).mono ?_;rintro en w2 ⟨rfl,x2⟩;have HR2:=hid (HR0.out.ext x2);have HE2:=hid (HE0.out.trans x2);clear x2 HR0 HE0 HF;by_cases h1:z1=0
 rotate_left
 ·have d1:(z1 != 0)=true:=by simpa using h1
  have H1:=hid h1;clear h1;go_wp2_with fail
  rw[zaT];simp only[Tryz.sizeOf36,Result.andThen,↓reduceIte,zb HR2.out (by rw[HZ.out];exact zz) (by first | rfl | rw[HZ.out,HZ.out]) HZ1.out,HZ.out];rw[Oper.upon_skip];go_wp2_with fail
  have HF:=hid (HR2.out.setRow msgZ.arr);have HEf:=hid (Ext.setRow HE2.out (Nat.le_refl _) msgZ.arr);refine bodyPost_ret (zi rfl _ _ w.heap.size 36 _ (0,0) _ rfl HF.out Tryz.underlying36 rfl (by rw[HZ.out];exact zz)) rfl ?_;rw[HQ.out];exact⟨slM0,msg0,z1,rfl,(zlO _).at,zjE,zbR,HEf.out,fun h=>absurd h H1.out,fun _=>⟨rfl,by rw[if_neg H1.out]⟩,fun m0 a1 a2 a3 a4 a5=>absurd (HFr.out m0 a2 a4 a5).1 H1.out⟩
 ·have d1:(z1 != 0)=false:=by rw[h1];rfl
  have H1:=hid h1;have HO:=fun W=>hid (zbP W b);clear h1;go_wp2_with fail
  refine((HO _).out).mono ?_;rintro en w3 ⟨v,rfl,⟨q,rfl,hq,hI⟩,x3⟩;have hw0:=HR2.out.lt;have hq0:0<q:=by omega
  have HR3:=hid (HR2.out.ext x3);have HE3:=hid (HE2.out.trans x3);have HRd:=hid (mread_c w3 q b 0 mx (HE3.out.cell HM.out) hq0 hI hb1);have HQw:Hid (w.heap.size<q):=by unfold Hid;omega
  clear hw0 hq hI x3 hq0 HR2 HE2 HO;go_wp2_with fail
  refine(HRd.out).mono ?_;rintro en w4 ⟨S,m,rfl,hT,hok,hkg,k4,hbk⟩;have HR4:=hid (HR3.out.keep k4 (fun h=>by have:=HQw.out;omega));have HE4:=hid (Ext.of_below ((Keep.trans (Keep.of_ext (S:=fun g=>g=q) HE3.out) k4).below (Nat.le_refl _) fun k hk=>by have:=HQw.out;omega));have HT4:=hid hT;have HOk:=hid hok;have HKg:=hid hkg;have HBk:=hid hbk;have hz:=hid (zy (m.at S));have ho:=hid (zZ (m.at S));have HPut:=fun W (hW:Ext w W) (hA:MsgAt W S m)=>hid (zlP W S m mx (hW.cell HM.out) hA hok);obtain⟨X,hX⟩:∃ X,(m.at S).arr=X:=⟨_,rfl⟩
  have HXe:=hid hX;rw[hX] at hz ho HPut⊢;clear hX hT hok hkg k4 hbk HR3 HE3 HRd;go_wp2_with fail
  rw[zaT];have HB3:=hid (Blk.new w4 36 msgZ.arr);simp only[Tryz.sizeOf36,Result.andThen,↓reduceIte,zb HB3.out (by rw[hz.out];exact zz) (by first | rfl | rw[hz.out,HZ.out]) ho.out,hz.out];rw[Oper.upon_skip];rw[World.setRow_alloc_new];have HR5:=hid (HR4.out.ext (Ext.alloc w4 (.cells X 36)));have HE5:=hid (HE4.out.alloc' (.cells X 36));have HT5:=hid (HT4.out.ext (Ext.alloc w4 (.cells X 36)));have HX5:=hid (Blk.new w4 36 X);clear HB3 HR4 HE4 HT4;generalize w4.alloc (.cells X 36)=w5 at HR5 HE5 HT5 HX5⊢;generalize w4.heap.size=g at HX5⊢;have lg:=HX5.out.lt;go_wp2_with fail
  simp only[Tryz.isAgg36,Tryz.sizeOf36,Result.andThen,↓reduceIte,za HX5.out 147 hz.out];rw[Oper.upon_value];go_wp2_with fail
  refine((HPut _ HE5.out HT5.out.at).out).mono ?_;rintro en w6 ⟨rfl,x6⟩;have HR6:=hid (HR5.out.ext x6);have HE6:=hid (HE5.out.trans x6);have HT6:=hid (HT5.out.ext x6);have HX6:=hid (HX5.out.ext x6);clear x6 HR5 HE5 HT5 HX5 HPut lg;have lg:=HX6.out.lt;by_cases hc:n=s.size∧putZ m=0∧putM m=s
  ·have d2:((n:Int) != (s.size:Int))=false:=by rw[hc.1];simp
   have d3:(putZ m != 0)=false:=by rw[hc.2.1];rfl
   have d4:((putM m).toList==s.toList)=true:=by rw[hc.2.2];simp
   have HC:=hid hc;have HLay:Hid (layB m=true):=by
    unfold Hid;have h2:=hc.2.1;unfold putZ at h2;cases hl:layB m with
    | true=>rfl
    | false=>rw[hl] at h2;cases h2
   clear hc;go_wp2_with fail
   simp only[Tryz.isAgg36,Tryz.sizeOf36,Result.andThen,↓reduceIte,za HX6.out 147 hz.out];rw[Oper.upon_value];go_wp2_with fail
   simp only[Tryz.sizeOf36,Result.andThen,↓reduceIte,zb HR6.out (by rw[hz.out];exact zz) (by first | rfl | rw[hz.out,HZ.out]) ho.out,hz.out];rw[Oper.upon_skip];go_wp2_with fail
   have HF:=hid (HR6.out.setRow X);have HEf:=hid (Ext.setRow HE6.out (Nat.le_refl _) X);have HTf:=hid (HT6.out.keepMsg HR6.out (Keep.setRow (S:=fun g=>g=w.heap.size) (Keep.refl _ w6) (.inl rfl) X));refine bodyPost_ret (zi rfl _ _ w.heap.size 36 _ (0,0) _ rfl HF.out Tryz.underlying36 rfl (by rw[hz.out];exact zz)) rfl ?_;rw[HQ.out];exact⟨S,m,0,by rw[HXe.out];rfl,HTf.out.at,HOk.out,HKg.out,HEf.out,fun _=>⟨HLay.out,HC.out.2.1,HC.out.2.2⟩,fun h=>absurd rfl h,fun m0 a1 a2 a3 a4 a5=>⟨rfl,HBk.out m0 a1 a2 a3 trivial (HFr.out m0 a2 a4 a5).2.2⟩⟩
  ·have HNo:Hid (∀ m0:MsgI,MsgOk m0→layB m0=true→KnowG m0.k→putZ m0=0→s=putM m0→False):=fun m0 a1 a2 a3 a4 a5=>by
    obtain⟨b1,b2,b3⟩:=HFr.out m0 a2 a4 a5;obtain rfl:=HBk.out m0 a1 a2 a3 trivial b3;exact hc ⟨b2,a4,a5.symm⟩
   have HEnd:∀ (en:Ending) (W:World),en=.returned (.tuple #[.agg msgZ.arr,.int .i64 6])→Hid (Ext w W)→Hid (GQ en W):=fun en W he hE=>by
    unfold Hid;subst he;rw[HQ.out];exact⟨slM0,msg0,6,rfl,(zlO _).at,zjE,zbR,hE.out,fun h=>absurd h (by decide),fun _=>⟨rfl,by rw[if_pos H1.out]⟩,fun m0 a1 a2 a3 a4 a5=>(HNo.out m0 a1 a2 a3 a4 a5).elim⟩
   by_cases c1:n=s.size
   ·have d2:((n:Int) != (s.size:Int))=false:=by rw[c1];simp
    by_cases c2:putZ m=0
    ·have c3:¬ putM m=s:=fun h=>hc ⟨c1,c2,h⟩
     have d3:(putZ m != 0)=false:=by rw[c2];rfl
     have d4:((putM m).toList==s.toList)=false:=by rw[zag];exact decide_eq_false c3
     clear hc c1 c2 c3;go_wp2_with fail
     rw[zaT];simp only[Tryz.sizeOf36,Result.andThen,↓reduceIte,zb HR6.out (by rw[HZ.out];exact zz) (by first | rfl | rw[HZ.out,HZ.out]) HZ1.out,HZ.out];rw[Oper.upon_skip];go_wp2_with fail
     have HF:=hid (HR6.out.setRow msgZ.arr);have HEf:=hid (Ext.setRow HE6.out (Nat.le_refl _) msgZ.arr);refine bodyPost_ret (zi rfl _ _ w.heap.size 36 _ (0,0) _ rfl HF.out Tryz.underlying36 rfl (by rw[HZ.out];exact zz)) rfl ?_;refine Hid.out (HEnd _ _ ?_ HEf);exact rfl
    ·have d3:(putZ m != 0)=true:=by simpa using c2
     clear hc c1 c2;go_wp2_with fail
     rw[zaT];simp only[Tryz.sizeOf36,Result.andThen,↓reduceIte,zb HR6.out (by rw[HZ.out];exact zz) (by first | rfl | rw[HZ.out,HZ.out]) HZ1.out,HZ.out];rw[Oper.upon_skip];go_wp2_with fail
     have HF:=hid (HR6.out.setRow msgZ.arr);have HEf:=hid (Ext.setRow HE6.out (Nat.le_refl _) msgZ.arr);refine bodyPost_ret (zi rfl _ _ w.heap.size 36 _ (0,0) _ rfl HF.out Tryz.underlying36 rfl (by rw[HZ.out];exact zz)) rfl ?_;refine Hid.out (HEnd _ _ ?_ HEf);exact rfl
   ·have d2:((n:Int) != (s.size:Int))=true:=by
     have:¬ (n:Int)=s.size:=by omega
     simpa using this
    clear hc c1;go_wp2_with fail
    rw[zaT];simp only[Tryz.sizeOf36,Result.andThen,↓reduceIte,zb HR6.out (by rw[HZ.out];exact zz) (by first | rfl | rw[HZ.out,HZ.out]) HZ1.out,HZ.out];rw[Oper.upon_skip];go_wp2_with fail
    have HF:=hid (HR6.out.setRow msgZ.arr);have HEf:=hid (Ext.setRow HE6.out (Nat.le_refl _) msgZ.arr);refine bodyPost_ret (zi rfl _ _ w.heap.size 36 _ (0,0) _ rfl HF.out Tryz.underlying36 rfl (by rw[HZ.out];exact zz)) rfl ?_;refine Hid.out (HEnd _ _ ?_ HEf);exact rfl
end
section
open Go.RowKit
theorem zl0 {m:MsgI} (h:layB m=true) (hs:(zau m).size≤65000):putZ m=0:=by
 unfold putZ;have h9:=zb1 (n:=(zau m).size) (by omega);rw[if_pos h,if_pos (by unfold fszN;omega)]
theorem lay_one {m:MsgI} (h:layB m=true) (hs:(zau m).size≤65000):putM m=⟨(zaC (zau m).data.toList).toArray⟩:=by
 have h9:=zb1 (n:=(zau m).size) (by omega);unfold putM;rw[if_pos h,if_pos (by unfold fszN;omega)];rfl
end
end Go.Proofs.YtofjpdgojoppbaaGreatDoor
