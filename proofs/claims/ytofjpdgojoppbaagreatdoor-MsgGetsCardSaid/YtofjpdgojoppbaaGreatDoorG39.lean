/-
  Of the claim's proof: RdK, RdL, BoA, BoB, BoC, BoD, MlA.
-/
import Derived.ChangeMaps5
import Derived.OpenShut
import Derived.Test.YtofjpdgojoppbaaGreatDoorG05
import Derived.Test.YtofjpdgojoppbaaGreatDoorG06
import Derived.Test.YtofjpdgojoppbaaGreatDoorG12
import Derived.Test.YtofjpdgojoppbaaGreatDoorG14
import Derived.Test.YtofjpdgojoppbaaGreatDoorG15
import Derived.Test.YtofjpdgojoppbaaGreatDoorG23
import Derived.Test.YtofjpdgojoppbaaGreatDoorG27
import Derived.Test.YtofjpdgojoppbaaGreatDoorG33
import Derived.Test.YtofjpdgojoppbaaGreatDoorG35
import Derived.Test.YtofjpdgojoppbaaGreatDoorG36
import Derived.Test.YtofjpdgojoppbaaGreatDoorG37
import Derived.Test.YtofjpdgojoppbaaGreatDoorG38
set_option maxRecDepth 100000
set_option maxHeartbeats 16000000
set_option linter.unusedVariables false
set_option linter.unusedSimpArgs false
namespace Go.Proofs.YtofjpdgojoppbaaGreatDoor
section
open Go.RowKit
def KnowT (w:World) (u v:SlV) (k:KnowI):Prop:=∃ lf:List (FragC×FragI),k.fs=lf.map (·.2)∧w.ownsRow 0 85 67 u.val lf.length (lf.map FragP.list).flatten∧(∀ z∈lf,FragO w z.1 z.2)∧w.ownsRow 0 126 67 v.val k.ks.length (k.ks.map KnownI.list).flatten
theorem KnowT.at {w:World} {u v:SlV} {k:KnowI} (h:KnowT w u v k):KnowAt w u.val v.val k:=by
 obtain⟨lf,h1,h2,h3,h4⟩:=h;obtain⟨fs,ks⟩:=k;obtain rfl:fs=lf.map (·.2):=h1;exact zj0 h2 h3 h4
theorem KnowT.ext {w w':World} {u v:SlV} {k:KnowI} (h:KnowT w u v k) (he:Ext w w'):KnowT w' u v k:=by
 obtain⟨lf,h1,h2,h3,h4⟩:=h;exact⟨lf,h1,zF h2 he,fun z hz=>(h3 z hz).ext he,zF h4 he⟩
theorem KnowT.nil (w:World):KnowT w nilS nilS ⟨[],[]⟩:=⟨[],rfl,zw _ _ _ _,fun z hz=>(by cases hz),zw _ _ _ _⟩
theorem KnowT.keepBlk {w w':World} {u v:SlV} {k:KnowI} {q:Nat} {t:TypeId} {cs:Array Value} (h:KnowT w u v k) (hb:Blk w q t cs) (h1:85≠t) (h2:126≠t) (h3:99≠t) (h4:51≠t) (hk:Keep (fun g=>g=q) w w'):KnowT w' u v k:=by
 obtain⟨lf,a1,a2,a3,a4⟩:=h;exact⟨lf,a1,zy a2 hk (fun g hg hq=>zN a2 hb h1 (by rw[←hq];exact hg)),fun z hz=>(a3 z hz).keepBlk hb h3 h4 hk,zy a4 hk (fun g hg hq=>zN a4 hb h2 (by rw[←hq];exact hg))⟩
attribute [-simp] Tryz.isAgg29 Tryz.sizeOf29
theorem getKT_c (w:World) (s:ByteArray) (m:Int) (hm:w.cell? ⟨0,0,none⟩=some (.int .i64 m)) (hs:s.size≤65536):Calls Tryz.prog 67 #[.string s] w (fun en w'=>∃ (u v:SlV) (k:KnowI) (z:Int),en=.returned (.tuple #[.agg #[.slice u.a u.n u.c,.slice v.a v.n v.c],.int .i64 z])∧KnowT w' u v k∧KnowG k∧Ext w w'∧((z=0∧mayB k=true∧zaf k=s)∨(z=6∧u=nilS∧v=nilS∧k=⟨[],[]⟩))∧(∀ k0,KnowG k0→mayB k0=true→s=zaf k0→z=0∧k=k0)):=by
 have HO:=fun W=>hid (zb3 W s);have HT:=fun W q (s':ByteArray) (e':Int) (h':InAt W q s' e') (hs':s'.size≤65536)=>hid (t_c W q s' e' h' (by omega));have HFr:=fun W t (hW:Ext w W) (ht:t.size≤65536)=>hid (zkz W t ht zav (fun x=>x.v.length=65∧FragOk x∧mayF x=true) (fun W' t' ht' hW'=>(zkQ W' t' m ((hW.trans hW').cell hm) (by omega)).mono fun en w' ⟨c,x,e,h1,h2,h3,h4,h5⟩=>⟨(c,x),e,h1,h2,h3,h4,fun x0 a b=>h5 x0 a.1 a.2.1 a.2.2 b⟩))
 have HKn:=fun W t (ht:t.size≤65536)=>hid (zky W t ht zZ (fun x=>KnownOk x∧mayN x=true) (fun W' t' ht' _=>(zjl W' t' (by omega)).mono fun en w' ⟨x,e,h1,h3,h4,h5⟩=>⟨x,e,h1,trivial,h3,h4,fun x0 a b=>h5 x0 a.1 a.2 b⟩));have HSm:=fun W (u v:SlV) (k:KnowI) (hW:Ext w W) (h:KnowAt W u.val v.val k) (hk:KnowOk k)=>hid (sameK_x W #[.slice u.a u.n u.c,.slice v.a v.n v.c] rfl (by simp[Value.oneCell']) s _ _ (fun W' hW'=>hid (zlL W' u.val v.val k m ((hW.trans hW').cell hm) (h.ext hW') hk)));simp only[gotX hs] at HSm;have HR0:=hid (Blk.new w 29 #[.slice none 0 0,.slice none 0 0])
 have HE0:=hid (Ext.alloc w (.cells #[.slice none 0 0,.slice none 0 0] 29));clear hm;go_enter Tryz.func67,Tryz.ntmps67;go_wp2_with fail
 refine((HO _).out).mono ?_;rintro en w1 ⟨v,rfl,⟨q,rfl,hq,hI⟩,x1⟩;have HI1:=hid hI;have HR1:=hid (HR0.out.ext x1);have HE1:=hid (HE0.out.trans x1);rw[World.size_alloc] at hq;have NR:Hid (¬ w.heap.size=q):=by unfold Hid;omega
 have HQ:=hid hq;clear hI x1 hq HR0 HE0 HO;have HK1:=hid (Keep.of_ext (S:=fun g=>g=q) HE1.out);have ToE:Hid (∀ W,Keep (fun g=>g=q) w W→Ext w W):=fun W hk=>Ext.of_below (hk.below (Nat.le_refl _) fun k hk=>by have:=HQ.out;omega);clear HE1;go_wp2_with fail
 refine((HT _ _ _ _ HI1.out hs).out).mono ?_;rintro en w2 ⟨t1,s2,e2,rfl,ht1,k2,h2,hs2,r1⟩;have HI2:=hid h2;have HR2:=hid (HR1.out.keep k2 NR.out);have HK2:=hid (HK1.out.trans k2);have R1:=hid r1;have ht1':t1.size≤65536:=by omega
 have hs2':s2.size≤65536:=by omega
 clear k2 h2 r1 ht1 HI1 HR1 HK1 hs2;go_wp2_with fail
 refine((HFr _ _ (ToE.out _ HK2.out) ht1').out).mono ?_;rintro en w3 ⟨vf,bf,lf,rfl,hrf,hof,hgf,hlf,x3,hbf⟩;obtain⟨sf,rfl⟩:=zex hrf;have HI3:=hid (HI2.out.ext x3);have HR3:=hid (HR2.out.ext x3);have HK3:=hid (HK2.out.ext x3);have HF3:=hid hrf;have HO3:=hid hof;have HGF:=hid hgf;have HLF:=hid hlf;have BF:=hid hbf;unfold SlV.val;clear hrf hof hgf hlf hbf x3 HI2 HR2 HK2 ht1' HFr;go_wp2_with fail
 refine((HT _ _ _ _ HI3.out hs2').out).mono ?_;rintro en w4 ⟨t2,s3,e3,rfl,ht2,k4,h4,hs3,r2⟩;have HR4:=hid (HR3.out.keep k4 NR.out);have HK4:=hid (HK3.out.trans k4);have HF4:=hid (zy HF3.out k4 (fun g hg hq=>zN HF3.out HI3.out (by decide) (by rw[←hq];exact hg)));have HO4:Hid (∀ z∈lf,FragO w4 z.1 z.2):=fun z hz=>(HO3.out z hz).keepBlk HI3.out (by decide) (by decide) k4;have R2:=hid r2;have ht2':t2.size≤65536:=by omega
 clear k4 h4 r2 ht2 hs3 HI3 HR3 HK3 HF3 HO3 HT hs2';go_wp2_with fail
 refine((HKn _ _ ht2').out).mono ?_;rintro en w5 ⟨vk,bk,lk,rfl,hrk,-,hgk,hlk,x5,hbk⟩;obtain⟨sk,rfl⟩:=zex hrk;have HR5:=hid (HR4.out.ext x5);have HE5:=hid (ToE.out _ (HK4.out.ext x5));have HKw:=hid (zj0 (zF HF4.out x5) (fun z hz=>(HO4.out z hz).ext x5) hrk);have HLast:Hid (∀ W W',Ext w5 W→Keep (fun g=>g=w.heap.size) W W'→KnowT W' sf sk ⟨lf.map (·.2),lk⟩):=fun W W' hW hk=>by
  have hb:=HR5.out.ext hW;have f1:=zF (zF HF4.out x5) hW;have f2:=zF hrk hW;exact⟨lf,rfl,zap (zy f1 hk (fun g hg hq=>zN f1 hb (by decide) (by rw[←hq];exact hg))) (Nat.zero_le _),fun z hz=>(((HO4.out z hz).ext x5).ext hW).keepBlk hb (by decide) (by decide) hk,zap (zy f2 hk (fun g hg hq=>zN f2 hb (by decide) (by rw[←hq];exact hg))) (Nat.zero_le _)⟩
 have HOk:Hid (KnowG ⟨lf.map (·.2),lk⟩):=by
  refine⟨⟨fun x hx=>?_,fun x hx=>?_,hgk⟩,fun x hx=>?_⟩
  ·obtain⟨z,hz,rfl⟩:=List.mem_map.1 hx
   exact(HGF.out z hz).ok
  ·obtain⟨z,hz,rfl⟩:=List.mem_map.1 hx
   exact(HGF.out z hz).sz
  ·obtain⟨z,hz,rfl⟩:=List.mem_map.1 hx
   rw[←(HO4.out z hz).1];exact z.1.hv
 have HBk:Hid (∀ k0,KnowG k0→mayB k0=true→s=zaf k0→(⟨lf.map (·.2),lk⟩:KnowI)=k0):=fun k0 a0 a1 a2=>by
  obtain⟨b1,b2⟩:=zkK R1.out R2.out k0 a2;obtain⟨c1,c2,c3,c4⟩:=zc1 a1;have d1:=BF.out k0.fs (fun x hx=>⟨a0.vs x hx,a0.ok.fs x hx,c1 x hx⟩) (by omega) b1;have d2:=hbk k0.ks (fun x hx=>⟨a0.ok.ks x hx,c2 x hx⟩) (by omega) b2;rw[List.map_id'] at d2;exact ze9.2 ⟨d1,d2⟩
 unfold SlV.val;clear hrk hgk hlk x5 hbk HR4 HK4 HF4 HO4 BF HGF HLF R1 R2 ht2' HKn HQ ToE NR;generalize (⟨lf.map (·.2),lk⟩:KnowI)=k at HKw HOk HBk HLast;have HS:=HSm w5 sf sk k HE5.out HKw.out HOk.out.ok;clear HSm;go_wp2_with fail
 refine(HS.out).mono ?_;rintro en w6 ⟨rfl,x6⟩;have HR6:=hid (HR5.out.ext x6);have HE6:=hid (HE5.out.trans x6);have HLs:=hid (fun W' hk=>HLast.out w6 W' x6 hk);clear x6 HR5 HE5 HKw HS HLast;by_cases hc:mayB k=true∧zaf k=s
 ·rw[if_pos hc,if_pos hc]
  have HC:=hid hc;clear hc;obtain⟨X,hX⟩:∃ X:Array Value,#[.slice sf.a sf.n sf.c,.slice sk.a sk.n sk.c]=X:=⟨_,rfl⟩
  have hz9:Hid (X.size=2):=by rw[←hX];rfl
  have ho9:Hid (X.all (·.oneCell')=true):=by unfold Hid;rw[←hX];simp[Value.oneCell']
  rw[hX];have HXe:=hid hX;clear hX;go_wp2_with fail
  simp only[Tryz.sizeOf29,Result.andThen,↓reduceIte,zg HR6.out (by rw[hz9.out];exact zbA) (by first | rfl | rw[hz9.out,(show(#[.slice none 0 0,.slice none 0 0]:Array Value).size=2 from rfl)] | rw[(show(#[.slice none 0 0,.slice none 0 0]:Array Value).size=2 from rfl),hz9.out]) ho9.out,hz9.out];rw[Oper.upon_skip];go_wp2_with fail
  have HF:=hid (HR6.out.setRow X);have HE8:=Ext.setRow HE6.out (Nat.le_refl _) X;have hk8:Keep (fun g=>g=w.heap.size) w6 _:=Keep.setRow (S:=fun g=>g=w.heap.size) (Keep.refl _ w6) (.inl rfl) X;refine bodyPost_ret (zu rfl _ _ w.heap.size 29 _ (0,0) _ rfl HF.out Tryz.underlying29 rfl (by rw[hz9.out];exact zbA)) rfl ?_;exact⟨sf,sk,k,0,by rw[←HXe.out];rfl,HLs.out _ hk8,HOk.out,HE8,.inl ⟨rfl,HC.out.1,HC.out.2⟩,fun k0 a0 a1 a2=>⟨rfl,HBk.out k0 a0 a1 a2⟩⟩
 ·rw[if_neg hc,if_neg hc]
  have HN:=hid hc;clear hc;obtain⟨X,hX⟩:∃ X:Array Value,#[.slice none 0 0,.slice none 0 0]=X:=⟨_,rfl⟩
  have hz9:Hid (X.size=2):=by rw[←hX];rfl
  have ho9:Hid (X.all (·.oneCell')=true):=by unfold Hid;rw[←hX];simp[Value.oneCell']
  rw[hX];have HXe:=hid hX;clear hX;go_wp2_with fail
  simp only[Tryz.sizeOf29,Result.andThen,↓reduceIte,zg HR6.out (by rw[hz9.out];exact zbA) (by first | rfl | rw[hz9.out,(show(#[.slice none 0 0,.slice none 0 0]:Array Value).size=2 from rfl)] | rw[(show(#[.slice none 0 0,.slice none 0 0]:Array Value).size=2 from rfl),hz9.out]) ho9.out,hz9.out];rw[Oper.upon_skip];go_wp2_with fail
  have HF:=hid (HR6.out.setRow X);have HE8:=Ext.setRow HE6.out (Nat.le_refl _) X;have hk8:Keep (fun g=>g=w.heap.size) w6 _:=Keep.setRow (S:=fun g=>g=w.heap.size) (Keep.refl _ w6) (.inl rfl) X;refine bodyPost_ret (zu rfl _ _ w.heap.size 29 _ (0,0) _ rfl HF.out Tryz.underlying29 rfl (by rw[hz9.out];exact zbA)) rfl ?_;refine⟨nilS,nilS,⟨[],[]⟩,6,by rw[←HXe.out];rfl,KnowT.nil _,⟨⟨fun x hx=>(by cases hx),fun x hx=>(by cases hx),fun x hx=>(by cases hx)⟩,fun x hx=>(by cases hx)⟩,HE8,.inr ⟨rfl,rfl,rfl,rfl⟩,fun k0 a0 a1 a2=>?_⟩;obtain rfl:=HBk.out k0 a0 a1 a2;exact absurd ⟨a1,a2.symm⟩ HN.out
end
section
open Go.RowKit
structure MsgT (w:World) (S:SlM) (m:MsgI):Prop where
 f:RowT w 99 3 S.f m.f.length (m.f.map ClauseI.cells).flatten
 k:KnowT w S.k1 S.k2 m.k
 held:RowT w 59 4 S.held m.held.length (m.held.map PairI.cells).flatten
 ents:RowT w 61 21 S.ents m.ents.length (m.ents.map EntI.cells).flatten
 not:RowT w 51 2 S.not m.not.length (m.not.map Ver.cells).flatten
theorem MsgT.at {w : World} {S : SlM} {m : MsgI} (h : MsgT w S m) : MsgAt w S m :=
  ⟨zaA (xs := m.f.map ClauseI.cells) (clause_coded.sizes _) (by rw [List.length_map]; exact h.f), h.k.at,
   zaA (xs := m.held.map PairI.cells) (pairI_coded.sizes _) (by rw [List.length_map]; exact h.held),
   zaA (xs := m.ents.map EntI.cells) (ent_coded.sizes _) (by rw [List.length_map]; exact h.ents),
   zaA (xs := m.not.map Ver.cells) (ver_coded.sizes _) (by rw [List.length_map]; exact h.not)⟩
def zfD (p:PairI):Prop:=zaX p.a∧zaX p.b
def zfE (p:PairI):Prop:=zaT p=true∧zfD p
def encP (p:PairI):List UInt8:=encL (bothF p)
theorem encP_eq (p:PairI):encP p=lebL p.a.by_.toNat++(lebL p.a.n.toNat++(lebL p.b.by_.toNat++lebL p.b.n.toNat)):=by
 unfold encP bothF encL;simp[FldI.enc,fN]
theorem zjk (w:World) (q:Nat) (s:ByteArray) (e:Int) (h:InAt w q s e) (hs:s.size≤1000000):Calls Tryz.prog 69 #[.pointer (some ⟨q,0,none⟩)] w (GotA (fun x=>.agg (pairA x)) zfD zfE encP w q s e):=by
 refine(zfK w q s e h hs).mono ?_;rintro en w' ⟨z1,z2,z3,z4,s',e',rfl,h1,h2,h3,h4,hk,hi,hz,hr⟩;refine⟨⟨⟨z1,z2⟩,⟨z3,z4⟩⟩,s',e',rfl,?_,hk,hi,hz,fun y rest hy a0 hsy=>?_⟩
 ·unfold zfD zaX in64;dsimp only;omega
 ·obtain⟨b1,b2⟩:=hy
  unfold zaT zL at b1;simp only[Bool.and_eq_true,decide_eq_true_eq] at b1;unfold zfD zaX in64 at b2;rw[encP_eq] at hsy;simp only[List.append_assoc] at hsy;obtain⟨c1,c2,c3,c4,c5,c6⟩:=hr _ _ _ _ _ a0 (by omega) (by omega) (by omega) (by omega) hsy;refine⟨?_,c5,c6⟩;obtain⟨⟨o1,o2⟩,⟨o3,o4⟩⟩:=y;dsimp only at *
  congr 2 <;> omega
theorem zcW (M M':MsgC) (i:Nat) (vs:List Value) (h15:i+vs.length≤15) (he:M'.head=M.head.take i++(vs++M.head.drop (i+vs.length))) (ht:intsV M'.V++(intsV M'.A++[M'.not.val,.int .i64 M'.code])=intsV M.V++(intsV M.A++[M.not.val,.int .i64 M.code])):(M.arr.toList.take i++(vs++M.arr.toList.drop (i+vs.length))).toArray=M'.arr:=by
 unfold MsgC.arr MsgC.list;rw[he,ht];have hl:=za1 M;rw[List.take_append_of_le_length (by rw[hl];omega),List.drop_append_of_le_length (by rw[hl];omega)];simp
theorem set_VV (M M':MsgC) (v:List Int) (hv:v.length=65) (hh:M'.head=M.head) (hV:M'.V=v) (hA:M'.A=M.A) (hn:M'.not=M.not) (hc:M'.code=M.code):(M.arr.toList.take 15++((vecV v).toList++M.arr.toList.drop (15+(vecV v).toList.length))).toArray=M'.arr:=by
 have hl:(vecV v).toList=intsV v:=by simp[vecV,intsV]
 have h1:(intsV v).length=65:=by rw[zR];exact hv
 have h2:(intsV M.V).length=65:=by rw[zR];exact M.hV
 unfold MsgC.arr MsgC.list;rw[hl,h1,hh,hV,hA,hn,hc];have hd:=za1 M;dsimp only;rw[List.take_left' hd,show 15+65=(M.head++intsV M.V).length by rw[List.length_append,hd,h2],←List.append_assoc M.head (intsV M.V),List.drop_left]
theorem set_AA (M M':MsgC) (v:List Int) (hv:v.length=65) (hh:M'.head=M.head) (hV:M'.V=M.V) (hA:M'.A=v) (hn:M'.not=M.not) (hc:M'.code=M.code):(M.arr.toList.take 80++((vecV v).toList++M.arr.toList.drop (80+(vecV v).toList.length))).toArray=M'.arr:=by
 have hl:(vecV v).toList=intsV v:=by simp[vecV,intsV]
 have h1:(intsV v).length=65:=by rw[zR];exact hv
 have h2:(intsV M.V).length=65:=by rw[zR];exact M.hV
 have h3:(intsV M.A).length=65:=by rw[zR];exact M.hA
 unfold MsgC.arr MsgC.list;rw[hl,h1,hh,hV,hA,hn,hc];have hd:(M.head++intsV M.V).length=80:=by rw[List.length_append,za1 M,h2]
 dsimp only;rw[←List.append_assoc M.head (intsV M.V),List.take_left' hd,show 80+65=((M.head++intsV M.V)++intsV M.A).length by rw[List.length_append,hd,h3],←List.append_assoc (M.head++intsV M.V) (intsV M.A),List.drop_left];simp
theorem set_NN (M M':MsgC) (v:Value) (hh:M'.head=M.head) (hV:M'.V=M.V) (hA:M'.A=M.A) (hn:M'.not.val=v) (hc:M'.code=M.code):(M.arr.toList.take 145++([v]++M.arr.toList.drop (145+[v].length))).toArray=M'.arr:=by
 have h2:(intsV M.V).length=65:=by rw[zR];exact M.hV
 have h3:(intsV M.A).length=65:=by rw[zR];exact M.hA
 unfold MsgC.arr MsgC.list;rw[hh,hV,hA,hn,hc];have hd:(M.head++intsV M.V++intsV M.A).length=145:=by rw[List.length_append,List.length_append,za1 M,h2,h3]
 have e:M.head++(intsV M.V++(intsV M.A++[M.not.val,.int .i64 M.code]))=(M.head++intsV M.V++intsV M.A)++[M.not.val,.int .i64 M.code]:=by simp
 dsimp only;rw[e,List.take_left' hd,show 145+[v].length=((M.head++intsV M.V++intsV M.A)++[M.not.val]).length by rw[List.length_append,hd];rfl,show(M.head++intsV M.V++intsV M.A)++[M.not.val,.int .i64 M.code]=((M.head++intsV M.V++intsV M.A)++[M.not.val])++[.int .i64 M.code] by simp,List.drop_left];simp
theorem set_CC (M M':MsgC) (v:Value) (hh:M'.head=M.head) (hV:M'.V=M.V) (hA:M'.A=M.A) (hn:M'.not=M.not) (hc:.int .i64 M'.code=v):(M.arr.toList.take 146++([v]++M.arr.toList.drop (146+[v].length))).toArray=M'.arr:=by
 have h2:(intsV M.V).length=65:=by rw[zR];exact M.hV
 have h3:(intsV M.A).length=65:=by rw[zR];exact M.hA
 unfold MsgC.arr MsgC.list;rw[hh,hV,hA,hn,hc];have hd:(M.head++intsV M.V++intsV M.A++[M.not.val]).length=146:=by rw[List.length_append,List.length_append,List.length_append,za1 M,h2,h3];rfl
 have e:∀ x:Value,M.head++(intsV M.V++(intsV M.A++[M.not.val,x]))=(M.head++intsV M.V++intsV M.A++[M.not.val])++[x]:=fun x=>by simp
 dsimp only;rw[e,e,List.take_left' hd,List.drop_of_length_le (by rw[List.length_append,hd];simp)];simp
theorem zdw {s s2 s3:ByteArray} {e e2 e3:Int} {z y1 y2 y3:Nat} {m0:MsgI} (hok:MsgOk m0) (hl:layB m0=true) (a0:e=0) (hs0:s=zao m0) (R2:Read s e z s2 e2) (RY:zbv s2 e2 y1 y2 y3 s3 e3):(z:Int)=m0.kind∧(y1:Int)=m0.s1∧(y2:Int)=m0.s2∧(y3:Int)=m0.s3∧s3.data.toList=encL (zb0 m0)∧e3=0∧m0=zQ m0∧zaY m0=true:=by
 unfold layB at hl;rw[Bool.and_eq_true,Bool.and_eq_true] at hl;obtain⟨h1,h2,h3⟩:=hl;have h2:=of_decide_eq_true h2;unfold sidB at h1;simp only[Bool.and_eq_true,decide_eq_true_eq] at h1;have hk:0≤m0.kind:=by
  have h4:=h3;unfold zaY at h4;by_cases k1:m0.kind=1
  ·omega
  by_cases k2:m0.kind=2
  ·omega
  by_cases k3:m0.kind=3
  ·omega
  rw[if_neg k1,if_neg k2,if_neg k3] at h4;simp only[Bool.and_eq_true,decide_eq_true_eq] at h4;omega
 have b1:=hok.kind;have b2:=hok.s;unfold in64 at b1 b2;have hs:s.data.toList=lebL m0.kind.toNat++(lebL m0.s1.toNat++(lebL m0.s2.toNat++(lebL m0.s3.toNat++encL (zb0 m0)))):=by
  rw[hs0]
  show encL (partsF m0)=_
  unfold partsF nameF encL;simp[FldI.enc,fN]
 obtain⟨c1,c2,c3⟩:=R2 _ _ a0 (by omega) hs;obtain⟨d1,d2,d3,d4,d5⟩:=RY _ _ _ _ c3 (by omega) (by omega) (by omega) c2;exact⟨by omega,by omega,by omega,by omega,d4,d5,h2,h3⟩
theorem zfT (b:Bool) {z:Nat} (h:z=(zaq b).toNat):((z:Int)==1)=b:=by
 subst h;cases b <;> rfl
def zmN {α:Type} (good:α→Prop) (enc:α→List UInt8) (s:ByteArray) (e:Int) (l:List α) (s':ByteArray) (e':Int):Prop:=∀ (l0:List α) rest,(∀ x∈l0,good x)→l0.length≤256→e=0→s.data.toList=lebL l0.length++((l0.map enc).flatten++rest)→l=l0∧s'.data.toList=rest∧e'=0
theorem zhp {α:Type} (f:α→List FldI) (l:List α):encL ((l.map f).flatten)=(l.map (fun x=>encL (f x))).flatten:=by
 induction l with
 | nil=>rfl
 | cons x l ih=>
  rw[List.map_cons,List.flatten_cons,List.map_cons,List.flatten_cons,←ih];unfold encL;rw[List.map_append,List.flatten_append]
theorem zcy (a b:List FldI):encL (a++b)=encL a++encL b:=by
 unfold encL;rw[List.map_append,List.flatten_append]
theorem back1 {s s2 s3 s4 s5 s6 s7 t1 t2:ByteArray} {e e2 e3 e4 e5 e6 e7:Int} {z y1 y2 y3 z1:Nat} {zf:Int} {lf:List ClauseI} {lk:KnowI} {lh:List PairI} {m0:MsgI} (hok:MsgOk m0) (hl:layB m0=true) (hg:KnowG m0.k) (a0:e=0) (hs0:s=zao m0) (R2:Read s e z s2 e2) (RY:zbv s2 e2 y1 y2 y3 s3 e3) (R3:Read s3 e3 z1 s4 e4) (R4:zce s4 e4 t1 s5 e5) (R5:zce s5 e5 t2 s6 e6) (R6:zmN zfE encP s6 e6 lh s7 e7) (BF:∀ f,zM f=true→t1=zh clB f→zf=0∧lf=f) (BK:∀ k0,KnowG k0→mayB k0=true→t2=zaf k0→lk=k0) (H:z=1) :
  (⟨z,y1,y2,y3,0,0,0,((z1:Int)==1),lf,lk,lh,0,false,[],vec0,vec0,[],0,zi,zi⟩:MsgI)=m0:=by
 obtain⟨h1,h2,h3,h4,h5,h6,h7,h8⟩:=zdw hok hl a0 hs0 R2 RY;have hk:m0.kind=1:=by omega
 unfold zaY at h8;rw[if_pos hk] at h8;unfold reqB at h8;simp only[Bool.and_eq_true,decide_eq_true_eq] at h8;obtain⟨b1,b2,b3,b4⟩:=h8;unfold zb0 at h5;rw[if_pos hk] at h5;unfold reqP zdo at h5;rw[zcy] at h5;have e1:encL ((fN m0.held.length)::(m0.held.map bothF).flatten)=lebL m0.held.length++((m0.held.map encP).flatten++[]):=by
  rw[zad,zhp,List.append_nil];rfl
 rw[e1] at h5;have e2:encL [fN (zaq m0.up),fT (zh clB m0.f),fT (zaf m0.k)]=lebL (zaq m0.up).toNat++(lebL (zh clB m0.f).size++((zh clB m0.f).data.toList++(lebL (zaf m0.k).size++(zaf m0.k).data.toList))):=by
  unfold encL;simp[FldI.enc,fN,fT]
 rw[e2] at h5;simp only[List.append_assoc] at h5;obtain⟨c1,c2,c3⟩:=R3 _ _ h6 (by cases m0.up <;> decide) h5;obtain⟨d1,d2,d3⟩:=R4 _ _ c3 c2;obtain⟨f1,f2,f3⟩:=R5 _ _ d3 d2;obtain⟨g1,g2,g3⟩:=R6 m0.held _ (fun x hx=>⟨zeI b4 x hx,hok.heldV x hx⟩) b1 f3 f2;have k1:=(BF m0.f b2 d1).2;have k2:=BK m0.k hg (zaB.1 b3).1 f1;have k3:=zfT m0.up c1;rw[zdU];have o1:=congrArg MsgI.r1 h7;have o2:=congrArg MsgI.r2 h7;have o3:=congrArg MsgI.r3 h7;have o4:=congrArg MsgI.seq h7;have o5:=congrArg MsgI.last h7;have o6:=congrArg MsgI.ents h7;have o7:=congrArg MsgI.V h7;have o8:=congrArg MsgI.A h7;have o9:=congrArg MsgI.not h7
 have o10:=congrArg MsgI.code h7;simp[zQ,hk] at o1 o2 o3 o4 o5 o6 o7 o8 o9 o10;exact⟨⟨h1,⟨h2,h3,h4⟩,⟨o1.symm,o2.symm,o3.symm⟩,k3,o4.symm,o5.symm,o10.symm⟩,⟨k1,k2,g1,o6.symm,o9.symm⟩,o7.symm,o8.symm⟩
theorem back2 {s s2 s3 s4 s5 s6 s7 s8 s9 s10 t1 t2 t3:ByteArray} {e e2 e3 e4 e5 e6 e7 e8 e9 e10:Int} {z y1 y2 y3 a b c z1 z2:Nat} {le:List EntI} {vV vA:List Int} {ln:List Ver} {hV:vV.length=65} {hA:vA.length=65} {m0:MsgI} (hok:MsgOk m0) (hl:layB m0=true) (a0:e=0) (hs0:s=zao m0) (R2:Read s e z s2 e2) (RY:zbv s2 e2 y1 y2 y3 s3 e3) (R3:zbv s3 e3 a b c s4 e4) (R4:Read s4 e4 z1 s5 e5) (R5:Read s5 e5 z2 s6 e6) (R6:zmN (fun x=>EntOk x∧zP x=true) (fun x=>encL (entF x)) s6 e6 le s7 e7) (R7:zce s7 e7 t1 s8 e8) (R8:zce s8 e8 t2 s9 e9) (R9:zce s9 e9 t3 s10 e10) (BV:∀ u:List Int,u.length=65→za2 u→u=cleanL u→t1=zh verB (endsL u)→vV=u) (BA:∀ u:List Int,u.length=65→za2 u→u=cleanL u→t2=zh verB (endsL u)→vA=u) (BN:∀ f:List Ver,(∀ c∈f,zaX c)→f.length≤90000→itemsB f=true→t3=zh verB f→ln=f) (H:z=2) :
  (⟨z,y1,y2,y3,a,b,c,false,[],⟨[],[]⟩,[],z1,((z2:Int)==1),le,vV,vA,ln,0,hV,hA⟩:MsgI)=m0:=by
 obtain⟨h1,h2,h3,h4,h5,h6,h7,h8⟩:=zdw hok hl a0 hs0 R2 RY;have hk:m0.kind=2:=by omega
 unfold zaY at h8;rw[if_neg (by omega),if_pos hk] at h8;unfold batB zbu sidB at h8;simp only[Bool.and_eq_true,decide_eq_true_eq] at h8;obtain⟨⟨⟨l0,l1,l2,l3⟩,l4,l5,l6⟩,b2,b3,b4,b5⟩:=h8;unfold zb0 at h5;rw[if_neg (by omega),if_pos hk] at h5;unfold batP nameF at h5;rw[zcy,zcy,zad (fN m0.ents.length),zhp] at h5;have e1:encL ([fN m0.r1,fN m0.r2,fN m0.r3]++[fN m0.seq,fN (zaq m0.last)])=lebL m0.r1.toNat++(lebL m0.r2.toNat++(lebL m0.r3.toNat++(lebL m0.seq.toNat++lebL (zaq m0.last).toNat))):=by
  unfold encL;simp[FldI.enc,fN]
 have e2:(fN m0.ents.length).enc=lebL m0.ents.length:=rfl;have e3:encL [fT (zh verB (endsL m0.V)),fT (zh verB (endsL m0.A)),fT (zh verB m0.not)]=lebL (zh verB (endsL m0.V)).size++((zh verB (endsL m0.V)).data.toList++(lebL (zh verB (endsL m0.A)).size++((zh verB (endsL m0.A)).data.toList++(lebL (zh verB m0.not).size++((zh verB m0.not).data.toList++[]))))):=by
  unfold encL;simp[FldI.enc,fT]
 rw[e1,e2,e3] at h5;simp only[List.append_assoc] at h5;have w1:=hok.r;have w2:=hok.seq;unfold in64 at w1 w2;obtain⟨c1,c2,c3,c4,c5⟩:=R3 _ _ _ _ h6 (by omega) (by omega) (by omega) h5;obtain⟨d1,d2,d3⟩:=R4 _ _ c5 (by omega) c4;obtain⟨f1,f2,f3⟩:=R5 _ _ d3 (by cases m0.last <;> decide) d2;rw[List.all_eq_true] at b2;obtain⟨g1,g2,g3⟩:=R6 m0.ents _ (fun x hx=>⟨hok.ents x hx,b2 x hx⟩) l6 f3 f2;obtain⟨j1,j2,j3⟩:=R7 _ _ g3 g2;obtain⟨p1,p2,p3⟩:=R8 _ _ j3 j2;obtain⟨q1,q2,q3⟩:=R9 _ _ p3 p2;have k1:=BV m0.V m0.hV hok.V b3 j1;have k2:=BA m0.A m0.hA hok.A b4 p1;have k3:=BN m0.not hok.not hok.notl (zaB.1 b5).1 q1;have k4:=zfT m0.last f1
 rw[zdU];have o1:=congrArg MsgI.up h7;have o2:=congrArg MsgI.f h7;have o3:=congrArg MsgI.k h7;have o4:=congrArg MsgI.held h7;have o10:=congrArg MsgI.code h7;simp[zQ,hk] at o1 o2 o3 o4 o10;dsimp only;exact⟨⟨h1,⟨h2,h3,h4⟩,⟨by omega,by omega,by omega⟩,o1.symm,by omega,k4,o10.symm⟩,⟨o2.symm,o3.symm,o4.symm,g1,k3⟩,k1,k2⟩
theorem back3 {s s2 s3 s4:ByteArray} {e e2 e3 e4:Int} {z y1 y2 y3 a b c:Nat} {m0:MsgI} (hok:MsgOk m0) (hl:layB m0=true) (a0:e=0) (hs0:s=zao m0) (R2:Read s e z s2 e2) (RY:zbv s2 e2 y1 y2 y3 s3 e3) (R3:zbv s3 e3 a b c s4 e4) (H:z=3) :
  (⟨z,y1,y2,y3,a,b,c,false,[],⟨[],[]⟩,[],0,false,[],vec0,vec0,[],0,zi,zi⟩:MsgI)=m0:=by
 obtain⟨h1,h2,h3,h4,h5,h6,h7,h8⟩:=zdw hok hl a0 hs0 R2 RY;have hk:m0.kind=3:=by omega
 unfold zaY at h8;rw[if_neg (by omega),if_neg (by omega),if_pos hk] at h8;unfold sidB at h8;simp only[Bool.and_eq_true,decide_eq_true_eq] at h8;unfold zb0 at h5;rw[if_neg (by omega),if_neg (by omega),if_pos hk] at h5;have e1:encL (nameF m0.r1 m0.r2 m0.r3)=lebL m0.r1.toNat++(lebL m0.r2.toNat++(lebL m0.r3.toNat++[])):=by
  unfold encL nameF;simp[FldI.enc,fN]
 rw[e1] at h5;have w1:=hok.r;unfold in64 at w1;obtain⟨c1,c2,c3,c4,c5⟩:=R3 _ _ _ _ h6 (by omega) (by omega) (by omega) h5;rw[zdU];have o0:=congrArg MsgI.up h7;have o1:=congrArg MsgI.f h7;have o2:=congrArg MsgI.k h7;have o3:=congrArg MsgI.held h7;have o4:=congrArg MsgI.seq h7;have o5:=congrArg MsgI.last h7;have o6:=congrArg MsgI.ents h7;have o7:=congrArg MsgI.V h7;have o8:=congrArg MsgI.A h7;have o9:=congrArg MsgI.not h7;have o10:=congrArg MsgI.code h7;simp[zQ,hk] at o0 o1 o2 o3 o4 o5 o6 o7 o8 o9 o10;dsimp only
 exact⟨⟨h1,⟨h2,h3,h4⟩,⟨by omega,by omega,by omega⟩,o0.symm,o4.symm,o5.symm,o10.symm⟩,⟨o1.symm,o2.symm,o3.symm,o6.symm,o9.symm⟩,o7.symm,o8.symm⟩
theorem back4 {s s2 s3 s4:ByteArray} {e e2 e3 e4:Int} {z y1 y2 y3 z1:Nat} {m0:MsgI} (hok:MsgOk m0) (hl:layB m0=true) (a0:e=0) (hs0:s=zao m0) (R2:Read s e z s2 e2) (RY:zbv s2 e2 y1 y2 y3 s3 e3) (R3:Read s3 e3 z1 s4 e4) (H:z=4) :
  (⟨z,y1,y2,y3,0,0,0,false,[],⟨[],[]⟩,[],0,false,[],vec0,vec0,[],z1,zi,zi⟩:MsgI)=m0:=by
 obtain⟨h1,h2,h3,h4,h5,h6,h7,h8⟩:=zdw hok hl a0 hs0 R2 RY;have hk:m0.kind=4:=by omega
 unfold zaY at h8;rw[if_neg (by omega),if_neg (by omega),if_neg (by omega)] at h8;simp only[Bool.and_eq_true,decide_eq_true_eq] at h8;unfold zb0 at h5;rw[if_neg (by omega),if_neg (by omega),if_neg (by omega)] at h5;have e1:encL [fN m0.code]=lebL m0.code.toNat++[]:=by
  unfold encL;simp[FldI.enc,fN]
 rw[e1] at h5;obtain⟨c1,c2,c3⟩:=R3 _ _ h6 (by omega) h5;rw[zdU];have o11:=congrArg MsgI.r1 h7;have o12:=congrArg MsgI.r2 h7;have o13:=congrArg MsgI.r3 h7;have o0:=congrArg MsgI.up h7;have o1:=congrArg MsgI.f h7;have o2:=congrArg MsgI.k h7;have o3:=congrArg MsgI.held h7;have o4:=congrArg MsgI.seq h7;have o5:=congrArg MsgI.last h7;have o6:=congrArg MsgI.ents h7;have o7:=congrArg MsgI.V h7;have o8:=congrArg MsgI.A h7;have o9:=congrArg MsgI.not h7;simp[zQ,hk] at o0 o1 o2 o3 o4 o5 o6 o7 o8 o9 o11 o12 o13;dsimp only
 exact⟨⟨h1,⟨h2,h3,h4⟩,⟨o11.symm,o12.symm,o13.symm⟩,o0.symm,o4.symm,o5.symm,by omega⟩,⟨o1.symm,o2.symm,o3.symm,o6.symm,o9.symm⟩,o7.symm,o8.symm⟩
theorem back0 {s s2:ByteArray} {e e2:Int} {z:Nat} {m0:MsgI} (hok:MsgOk m0) (hl:layB m0=true) (a0:e=0) (hs0:s=zao m0) (R2:Read s e z s2 e2) (H:¬ z=1∧¬ z=2∧¬ z=3∧¬ z=4):False:=by
 unfold layB at hl;rw[Bool.and_eq_true,Bool.and_eq_true] at hl;obtain⟨h1,h2,h3⟩:=hl;have b1:=hok.kind;unfold in64 at b1;have hs:s.data.toList=lebL m0.kind.toNat++encL (nameF m0.s1 m0.s2 m0.s3++zb0 m0):=by
  rw[hs0]
  show encL (partsF m0)=_
  unfold partsF;rw[List.cons_append,zad];rfl
 obtain⟨c1,c2,c3⟩:=R2 _ _ a0 (by omega) hs;unfold zaY at h3;by_cases k1:m0.kind=1
 ·omega
 by_cases k2:m0.kind=2
 ·omega
 by_cases k3:m0.kind=3
 ·omega
 rw[if_neg k1,if_neg k2,if_neg k3] at h3;simp only[Bool.and_eq_true,decide_eq_true_eq] at h3;omega
theorem zX {z:Nat} (h:z<9223372036854775808):in64 (z:Int):=by unfold in64;omega
theorem zgr:∀ c∈([]:List ClauseI),c.pre.size≤90000:=fun c h=>by cases h
theorem zfI:KnowOk ⟨[],[]⟩:=⟨fun x h=>(by cases h),fun x h=>(by cases h),fun x h=>(by cases h)⟩
theorem zgs:∀ e∈([]:List EntI),EntOk e:=fun c h=>by cases h
theorem zgp:∀ c∈([]:List Ver),zaX c:=fun c h=>by cases h
theorem zgq:∀ p∈([]:List PairI),zaX p.a∧zaX p.b:=fun c h=>by cases h
theorem zbc:za2 vec0:=fun z hz=>by
 unfold vec0 at hz;rw[List.mem_replicate] at hz;rw[hz.2];unfold in64;decide
theorem zaZ:in64 0:=by unfold in64;decide
theorem zhz:in64 0∧in64 0∧in64 0:=⟨zaZ,zaZ,zaZ⟩
theorem zb6:KnowG ⟨[],[]⟩:=⟨zfI,fun x h=>by cases h⟩
end
section
open Go.RowKit
def catB {α:Type} (f:α→ByteArray) (l:List α):ByteArray:=⟨((l.map (fun x=>(f x).data.toList)).flatten).toArray⟩
theorem ziy {α:Type} (f:α→ByteArray):catB f []=⟨#[]⟩:=rfl
theorem zgO {α:Type} (f:α→ByteArray) {l:List α} {k:Nat} (h:k<l.length):catB f (l.take (k+1))=catB f (l.take k)++f l[k]:=by
 unfold catB;apply ByteArray.ext;apply Array.ext';rw[List.take_succ_eq_append_getElem h,List.map_append,List.flatten_append];simp only[ByteArray.data_append,Array.toList_append];simp
theorem zdE {α:Type} (f:α→ByteArray) (B:Nat):∀ (l:List α),(∀ x∈l,(f x).size≤B)→(catB f l).size≤B*l.length
 | [],_=>Nat.zero_le _
 | x::l,h=>by
  have h1:=h x (by simp);have h2:=zdE f B l (fun y hy=>h y (by simp[hy]));have e:(catB f (x::l)).size=(f x).size+(catB f l).size:=by
   show(((x::l).map (fun x=>(f x).data.toList)).flatten).toArray.size=_
   rw[List.size_toArray,List.map_cons,List.flatten_cons,List.length_append]
   show _=_+((l.map (fun x=>(f x).data.toList)).flatten).toArray.size
   rw[List.size_toArray,Array.length_toList];rfl
  rw[e,List.length_cons,Nat.mul_succ];omega
def zbU (p:PairI):ByteArray:=verB p.a++verB p.b
def headD (m:MsgI):ByteArray:=numB m.kind++sidD m.s1 m.s2 m.s3
def bitD (b:Bool):ByteArray:=if b then⟨#[1]⟩ else⟨#[0]⟩
def reqD (m:MsgI):ByteArray:=(((headD m++bitD m.up)++zG (zh clB m.f))++zG (zaf m.k))++numB m.held.length
def batD (m:MsgI):ByteArray:=(((headD m++sidD m.r1 m.r2 m.r3)++numB m.seq)++bitD m.last)++numB m.ents.length
def batE (m:MsgI) (s:ByteArray):ByteArray:=((s++zG (zh verB (endsL m.V)))++zG (zh verB (endsL m.A)))++zG (zh verB m.not)
theorem zgS (b:Bool):(bitD b).data.toList=lebL (zaq b).toNat:=by
 cases b <;> (unfold bitD zaq;rw[zaF (by decide)];rfl)
theorem zey {a b c:Int} (h:sidB a b c=true):(sidD a b c).data.toList=lebL a.toNat++(lebL b.toNat++lebL c.toNat):=by
 unfold sidB at h;simp only[Bool.and_eq_true,decide_eq_true_eq] at h;unfold sidD;simp only[ByteArray.data_append,Array.toList_append,zB (show 0≤a by omega),zB (show 0≤b by omega),zB (show 0≤c by omega),List.append_assoc]
theorem zc2 {m:MsgI} (h:layB m=true):(headD m).data.toList=encL (fN m.kind::nameF m.s1 m.s2 m.s3):=by
 have h0:=h;unfold layB at h;rw[Bool.and_eq_true,Bool.and_eq_true] at h;obtain⟨h1,h2,h3⟩:=h;have hk:0≤m.kind:=by
  unfold zaY at h3;by_cases k1:m.kind=1
  ·omega
  by_cases k2:m.kind=2
  ·omega
  by_cases k3:m.kind=3
  ·omega
  rw[if_neg k1,if_neg k2,if_neg k3] at h3;simp only[Bool.and_eq_true,decide_eq_true_eq] at h3;omega
 unfold headD;simp only[ByteArray.data_append,Array.toList_append,zB hk,zey h1];unfold encL nameF;simp[FldI.enc,fN]
theorem zcd {m:MsgI} (h:layB m=true):zaY m=true:=by
 unfold layB at h;rw[Bool.and_eq_true,Bool.and_eq_true] at h;exact h.2.2
theorem zdF (m:MsgI):(zao m).data.toList=encL (fN m.kind::nameF m.s1 m.s2 m.s3)++encL (zb0 m):=by
 show encL (partsF m)=_
 unfold partsF;rw[zcy]
theorem zd0 {a b:ByteArray} (h:a.data.toList=b.data.toList):a=b:=ByteArray.ext (Array.ext' h)
theorem zmD {m:MsgI} (h:layB m=true) (hk:m.kind=3):headD m++sidD m.r1 m.r2 m.r3=zao m:=by
 have h3:=zcd h;unfold zaY at h3;rw[if_neg (by omega),if_neg (by omega),if_pos hk] at h3;apply zd0;rw[zdF,ByteArray.data_append,Array.toList_append,zc2 h,zey h3];unfold zb0;rw[if_neg (by omega),if_neg (by omega),if_pos hk];unfold encL nameF;simp[FldI.enc,fN]
theorem body_4 {m:MsgI} (h:layB m=true) (h1:m.kind≠1) (h2:m.kind≠2) (h4:m.kind≠3):headD m++numB m.code=zao m:=by
 have h3:=zcd h;unfold zaY at h3;rw[if_neg h1,if_neg h2,if_neg h4] at h3;simp only[Bool.and_eq_true,decide_eq_true_eq] at h3;apply zd0;rw[zdF,ByteArray.data_append,Array.toList_append,zc2 h,zB (by omega)];unfold zb0;rw[if_neg h1,if_neg h2,if_neg h4];unfold encL;simp[FldI.enc,fN]
theorem zgP {α:Type} (f:α→ByteArray) (g:α→List FldI) (l:List α) (h:∀ x∈l,(f x).data.toList=encL (g x)):(catB f l).data.toList=encL ((l.map g).flatten):=by
 rw[zhp]
 show(l.map (fun x=>(f x).data.toList)).flatten=_
 congr 1
 exact List.map_congr_left h
theorem body_1 {m:MsgI} (h:layB m=true) (hk:m.kind=1):reqD m++catB zbU m.held=zao m:=by
 have h3:=zcd h;unfold zaY at h3;rw[if_pos hk] at h3;unfold reqB at h3;simp only[Bool.and_eq_true,decide_eq_true_eq] at h3;have hp:=zeI h3.2.2.2;apply zd0;rw[zdF];unfold reqD;simp only[ByteArray.data_append,Array.toList_append,zc2 h,zgS,zU,zB (show(0:Int)≤m.held.length by omega),List.append_assoc];rw[zgP zbU bothF m.held (fun p hpm=>by
  have hq:=hp p hpm;unfold zaT zL at hq;simp only[Bool.and_eq_true,decide_eq_true_eq] at hq;unfold zbU verB bothF encL;simp only[ByteArray.data_append,Array.toList_append,zB (show 0≤p.a.by_ by omega),zB (show 0≤p.a.n by omega),zB (show 0≤p.b.by_ by omega),zB (show 0≤p.b.n by omega)];simp[FldI.enc,fN])]
 unfold zb0;rw[if_pos hk];unfold reqP zdo;rw[zcy,zad (fN m.held.length)];have e2:encL [fN (zaq m.up),fT (zh clB m.f),fT (zaf m.k)]=lebL (zaq m.up).toNat++(lebL (zh clB m.f).size++((zh clB m.f).data.toList++(lebL (zaf m.k).size++(zaf m.k).data.toList))):=by
  unfold encL;simp[FldI.enc,fN,fT]
 have e3:(fN m.held.length).enc=lebL ((m.held.length:Int)).toNat:=rfl;rw[e2,e3];simp only[List.append_assoc]
theorem body_2 {m:MsgI} (h:layB m=true) (hk:m.kind=2):batE m (batD m++catB entB m.ents)=zao m:=by
 have h3:=zcd h;unfold zaY at h3;rw[if_neg (by omega),if_pos hk] at h3;unfold batB zbu at h3;simp only[Bool.and_eq_true,decide_eq_true_eq] at h3;obtain⟨⟨l0,l1,l2,l3⟩,_⟩:=h3;apply zd0;rw[zdF];unfold batE batD;simp only[ByteArray.data_append,Array.toList_append,zc2 h,zgS,zey l0,zU,zB l1,zB (show(0:Int)≤m.ents.length by omega),List.append_assoc];rw[zgP entB entF m.ents (fun e _=>rfl)];unfold zb0;rw[if_neg (by omega),if_pos hk];unfold batP nameF;rw[zcy,zcy,zad (fN m.ents.length)]
 have e1:encL ([fN m.r1,fN m.r2,fN m.r3]++[fN m.seq,fN (zaq m.last)])=lebL m.r1.toNat++(lebL m.r2.toNat++(lebL m.r3.toNat++(lebL m.seq.toNat++lebL (zaq m.last).toNat))):=by
  unfold encL;simp[FldI.enc,fN]
 have e2:(fN m.ents.length).enc=lebL ((m.ents.length:Int)).toNat:=rfl;have e3:encL [fT (zh verB (endsL m.V)),fT (zh verB (endsL m.A)),fT (zh verB m.not)]=lebL (zh verB (endsL m.V)).size++((zh verB (endsL m.V)).data.toList++(lebL (zh verB (endsL m.A)).size++((zh verB (endsL m.A)).data.toList++(lebL (zh verB m.not).size++(zh verB m.not).data.toList)))):=by
  unfold encL;simp[FldI.enc,fT]
 rw[e1,e2,e3];simp only[List.append_assoc]
end
section
open Go.RowKit
theorem zbH {a b c:Int} (h1:in64 a) (h2:in64 b) (h3:in64 c):(sidD a b c).size≤27:=by
 unfold sidD;rw[ByteArray.size_append,ByteArray.size_append];have:=zah h1.2;have:=zah h2.2;have:=zah h3.2;omega
attribute [-simp] Tryz.isAgg36 Tryz.sizeOf36 Tryz.isAgg33 Tryz.sizeOf33
theorem body3_c (w:World) (S:SlM) (a:MsgI) (ha:MsgAt w S a) (hok:MsgOk a) (hl:layB a=true) (ek:a.kind=3):Calls Tryz.prog 35 #[.agg (a.at S).arr] w (Ret (.string (zao a)) w):=by
 have d1:(a.kind==1)=false:=by rw[ek];decide
 have d2:(a.kind==2)=false:=by rw[ek];decide
 have d3:(a.kind==3)=true:=by rw[ek];decide
 have d4:(a.kind==4)=false:=by rw[ek];decide
 have HNk:=fun W=>hid (zS W a.kind hok.kind.1 hok.kind.2);have HSs:=fun W=>hid (zdl W a.s1 a.s2 a.s3 hok.s.1 hok.s.2.1 hok.s.2.2);have HSr:=fun W=>hid (zdl W a.r1 a.r2 a.r3 hok.r.1 hok.r.2.1 hok.r.2.2);have HNc:=fun W=>hid (zS W a.code hok.code.1 hok.code.2);have zk:=zah hok.kind.2;have zc:=zah hok.code.2;have zs:=zbH hok.s.1 hok.s.2.1 hok.s.2.2;have zr:=zbH hok.r.1 hok.r.2.1 hok.r.2.2;have HA:=hid (zT (a.at S));have HAE:=hid (zab (a.at S));have hb:=zmD hl ek;generalize (a.at S).arr=ar at HA HAE  ⊢;have HBa:=hid (Blk.new w 36 ar);have HX:=hid (Ext.alloc w (.cells ar 36))
 have a0:ar[0]? = some (.int .i64 a.kind):=HA.out 0 (by omega);have a1:ar[1]? = some (.int .i64 a.s1):=HA.out 1 (by omega);have a2:ar[2]? = some (.int .i64 a.s2):=HA.out 2 (by omega);have a3:ar[3]? = some (.int .i64 a.s3):=HA.out 3 (by omega);have a4:ar[4]? = some (.int .i64 a.r1):=HA.out 4 (by omega);have a5:ar[5]? = some (.int .i64 a.r2):=HA.out 5 (by omega);have a6:ar[6]? = some (.int .i64 a.r3):=HA.out 6 (by omega);have a146:ar[146]? = some (.int .i64 a.code):=HAE.out 1;have la:=HBa.out.lt;have c0:=HBa.out.cell a0;have c1:=HBa.out.cell a1;have c2:=HBa.out.cell a2;have c3:=HBa.out.cell a3;unfold sidV at HSs HSr;clear HA HAE ek ha hok hl
 unfold headD at hb;rw[←hb];clear hb;generalize sidD a.s1 a.s2 a.s3=ds at HSs zs⊢;generalize sidD a.r1 a.r2 a.r3=dr at HSr zr⊢;generalize numB a.kind=dk at HNk zk⊢;generalize numB a.code=dc at HNc zc⊢;go_enter Tryz.func35,Tryz.ntmps35;go_wp2_with fail
 generalize w.alloc (.cells ar 36)=w1 at HBa HX c0 c1 c2 c3 la⊢;refine zd (by kernel_rfl) (by kernel_rfl) (by kernel_rfl) ?_
 repeat (first
  | (refine AWq.val rfl rfl rfl rfl (fun K hK=>?_);go_big_quiet_op;refine hK _ ?_;clear hK K)
  | (refine AWq.skip rfl rfl rfl ?_;simp only[Act.put,zq6,zq7,zq8])
  | (refine AWq.call rfl Tryz.func46 (by kernel_rfl) (by kernel_rfl) rfl rfl rfl ?_;apply Exists.intro;refine And.intro (fun wc hc=>?_) ?_;(· (simp only[zm,zt,↓reduceIte,Nat.reduceEqDiff,zq1,zq2,zq3,zq4,zq5];with_reducible exact(HNk _).out));simp only[Act.put,zq6,zq7,zq8])
  | (refine AWq.call rfl Tryz.func78 (by kernel_rfl) (by kernel_rfl) rfl rfl rfl ?_;apply Exists.intro;refine And.intro (fun wc hc=>?_) ?_;(· (simp only[zm,zt,↓reduceIte,Nat.reduceEqDiff,zq1,zq2,zq3,zq4,zq5];with_reducible exact(HSs _).out));simp only[Act.put,zq6,zq7,zq8]))
 refine AWq.done rfl rfl rfl (fun w2 x2=>?_);simp only[zo,Act.put,zq6,zq7,zq8]
 all_goals intros
 have HX2:=hid (HX.out.trans x2);have HB2:=hid (HBa.out.ext x2);clear x2 HX HBa c0 c1 c2 c3 la HNk HSs;have c0:=HB2.out.cell a0;have la:=HB2.out.lt;have c4:=HB2.out.cell a4;have c5:=HB2.out.cell a5;have c6:=HB2.out.cell a6;go_wp2_with fail
 refine((HSr _).out).mono ?_;rintro en w3 ⟨rfl,x3⟩;have HX3:=hid (HX2.out.trans x3);clear x3;go_wp2_with fail
 go_ret;exact⟨rfl,HX3.out⟩
theorem body4_c (w:World) (S:SlM) (a:MsgI) (ha:MsgAt w S a) (hok:MsgOk a) (hl:layB a=true) (ek:a.kind=4):Calls Tryz.prog 35 #[.agg (a.at S).arr] w (Ret (.string (zao a)) w):=by
 have d1:(a.kind==1)=false:=by rw[ek];decide
 have d2:(a.kind==2)=false:=by rw[ek];decide
 have d3:(a.kind==3)=false:=by rw[ek];decide
 have d4:(a.kind==4)=true:=by rw[ek];decide
 have HNk:=fun W=>hid (zS W a.kind hok.kind.1 hok.kind.2);have HSs:=fun W=>hid (zdl W a.s1 a.s2 a.s3 hok.s.1 hok.s.2.1 hok.s.2.2);have HSr:=fun W=>hid (zdl W a.r1 a.r2 a.r3 hok.r.1 hok.r.2.1 hok.r.2.2);have HNc:=fun W=>hid (zS W a.code hok.code.1 hok.code.2);have zk:=zah hok.kind.2;have zc:=zah hok.code.2;have zs:=zbH hok.s.1 hok.s.2.1 hok.s.2.2;have zr:=zbH hok.r.1 hok.r.2.1 hok.r.2.2;have HA:=hid (zT (a.at S));have HAE:=hid (zab (a.at S));have hb:=body_4 hl (by omega) (by omega) (by omega);generalize (a.at S).arr=ar at HA HAE  ⊢;have HBa:=hid (Blk.new w 36 ar);have HX:=hid (Ext.alloc w (.cells ar 36))
 have a0:ar[0]? = some (.int .i64 a.kind):=HA.out 0 (by omega);have a1:ar[1]? = some (.int .i64 a.s1):=HA.out 1 (by omega);have a2:ar[2]? = some (.int .i64 a.s2):=HA.out 2 (by omega);have a3:ar[3]? = some (.int .i64 a.s3):=HA.out 3 (by omega);have a4:ar[4]? = some (.int .i64 a.r1):=HA.out 4 (by omega);have a5:ar[5]? = some (.int .i64 a.r2):=HA.out 5 (by omega);have a6:ar[6]? = some (.int .i64 a.r3):=HA.out 6 (by omega);have a146:ar[146]? = some (.int .i64 a.code):=HAE.out 1;have la:=HBa.out.lt;have c0:=HBa.out.cell a0;have c1:=HBa.out.cell a1;have c2:=HBa.out.cell a2;have c3:=HBa.out.cell a3;unfold sidV at HSs HSr;clear HA HAE ek ha hok hl
 unfold headD at hb;rw[←hb];clear hb;generalize sidD a.s1 a.s2 a.s3=ds at HSs zs⊢;generalize sidD a.r1 a.r2 a.r3=dr at HSr zr⊢;generalize numB a.kind=dk at HNk zk⊢;generalize numB a.code=dc at HNc zc⊢;go_enter Tryz.func35,Tryz.ntmps35;go_wp2_with fail
 generalize w.alloc (.cells ar 36)=w1 at HBa HX c0 c1 c2 c3 la⊢;refine zd (by kernel_rfl) (by kernel_rfl) (by kernel_rfl) ?_
 repeat (first
  | (refine AWq.val rfl rfl rfl rfl (fun K hK=>?_);go_big_quiet_op;refine hK _ ?_;clear hK K)
  | (refine AWq.skip rfl rfl rfl ?_;simp only[Act.put,zq6,zq7,zq8])
  | (refine AWq.call rfl Tryz.func46 (by kernel_rfl) (by kernel_rfl) rfl rfl rfl ?_;apply Exists.intro;refine And.intro (fun wc hc=>?_) ?_;(· (simp only[zm,zt,↓reduceIte,Nat.reduceEqDiff,zq1,zq2,zq3,zq4,zq5];with_reducible exact(HNk _).out));simp only[Act.put,zq6,zq7,zq8])
  | (refine AWq.call rfl Tryz.func78 (by kernel_rfl) (by kernel_rfl) rfl rfl rfl ?_;apply Exists.intro;refine And.intro (fun wc hc=>?_) ?_;(· (simp only[zm,zt,↓reduceIte,Nat.reduceEqDiff,zq1,zq2,zq3,zq4,zq5];with_reducible exact(HSs _).out));simp only[Act.put,zq6,zq7,zq8]))
 refine AWq.done rfl rfl rfl (fun w2 x2=>?_);simp only[zo,Act.put,zq6,zq7,zq8]
 all_goals intros
 have HX2:=hid (HX.out.trans x2);have HB2:=hid (HBa.out.ext x2);clear x2 HX HBa c0 c1 c2 c3 la HNk HSs;have c0:=HB2.out.cell a0;have la:=HB2.out.lt;have c146:=HB2.out.cell a146;go_wp2_with fail
 refine((HNc _).out).mono ?_;rintro en w3 ⟨rfl,x3⟩;have HX3:=hid (HX2.out.trans x3);clear x3;go_wp2_with fail
 go_ret;exact⟨rfl,HX3.out⟩
end
section
open Go.RowKit
attribute [-simp] Tryz.isAgg36 Tryz.sizeOf36 Tryz.isAgg33 Tryz.sizeOf33
theorem body1_c (w:World) (S:SlM) (a:MsgI) (ha:MsgAt w S a) (hok:MsgOk a) (hl:layB a=true) (ek:a.kind=1):Calls Tryz.prog 35 #[.agg (a.at S).arr] w (Ret (.string (zao a)) w):=by
 have d1:(a.kind==1)=true:=by rw[ek];decide
 have d2:(a.kind==2)=false:=by rw[ek];decide
 have d3:(a.kind==3)=false:=by rw[ek];decide
 have d4:(a.kind==4)=false:=by rw[ek];decide
 have HNk:=fun W=>hid (zS W a.kind hok.kind.1 hok.kind.2);have HSs:=fun W=>hid (zdl W a.s1 a.s2 a.s3 hok.s.1 hok.s.2.1 hok.s.2.2);have HSr:=fun W=>hid (zdl W a.r1 a.r2 a.r3 hok.r.1 hok.r.2.1 hok.r.2.2);have HNc:=fun W=>hid (zS W a.code hok.code.1 hok.code.2);have zk:=zah hok.kind.2;have zc:=zah hok.code.2;have zs:=zbH hok.s.1 hok.s.2.1 hok.s.2.2;have zr:=zbH hok.r.1 hok.r.2.1 hok.r.2.2;have HA:=hid (zT (a.at S));have HAE:=hid (zab (a.at S));have hb:=body_1 hl ek;have h3:=zcd hl;unfold zaY at h3;rw[if_pos ek] at h3;unfold reqB at h3;simp only[Bool.and_eq_true,decide_eq_true_eq] at h3
 obtain⟨l1,l2,l3,l4⟩:=h3;have hcl:=zbr l2;have hks:=(zaB.1 l3).2;have hkr:KnowR a.k:=by
  obtain⟨m1,m2,m3,m4⟩:=zc1 (zaB.1 l3).1;refine⟨fun x hx=>?_,hok.k,by omega⟩;have h5:=m1 x hx;unfold mayF at h5;rw[Bool.and_eq_true] at h5;obtain⟨n1,n2⟩:=zbr h5.1;exact⟨by omega,fun c hc=>by
   have h6:=n2 c hc;have:=h6.pre;have:=h6.lo;have:=h6.hi;unfold in64;omega⟩
 have HBt:=fun W=>hid (zhS W a.up);have HFi:=fun W (hW:Ext w W)=>hid (zgj W S.f.val a.f (ha.f.ext hW) (by omega) (fun c hc=>by
  have h6:=hcl.2 c hc;have:=h6.pre;have:=h6.lo;have:=h6.hi;unfold in64;omega))
 have HKn:=fun W (hW:Ext w W)=>hid (rknow_c W S.k1.val S.k2.val a.k (ha.k.ext hW) hkr);have HT1:=fun W=>hid (zbj W (zh clB a.f) (by have:=zb4 l2;omega));have HT2:=fun W=>hid (zbj W (zaf a.k) (by omega));have HNl:=fun W=>hid (zS W a.held.length (by omega) (by omega));have zf:=zax (zh clB a.f) (by have:=zb4 l2;omega);have zf2:=zb4 l2;have zn:=zax (zaf a.k) (by omega);have zl:=zah (z:=a.held.length) (by omega);have HPr:=fun W (p:PairI) (hp:p∈a.held)=>hid (zjR W p (hok.heldV p hp));have zp:∀ p∈a.held,(zbU p).size≤36:=fun p hp=>by
  unfold zbU;rw[ByteArray.size_append];have h5:=hok.heldV p hp;have:=zaR h5.1.1 h5.1.2;have:=zaR h5.2.1 h5.2.2;omega
 have hhl:=hok.held;have HHs:=ha.held;obtain⟨eA,ec,heq,h9,h10,H3⟩:=zz HHs;have H3:=hid H3;unfold maxLen at h10;have a11v:(a.at S).head[11]? = some (.slice eA a.held.length ec):=by rw[←heq];rfl
 obtain⟨fA,fn,fc,hfv⟩:∃ x y z,S.f.val=.slice x y z:=⟨_,_,_,rfl⟩
 obtain⟨xA,xn,xc,hxv⟩:∃ x y z,S.k1.val=.slice x y z:=⟨_,_,_,rfl⟩
 obtain⟨yA,yn,yc,hyv⟩:∃ x y z,S.k2.val=.slice x y z:=⟨_,_,_,rfl⟩
 rw[hfv] at HFi;rw[hxv,hyv] at HKn;have a8v:(a.at S).head[8]? = some (.slice fA fn fc):=by rw[←hfv];rfl
 have a9v:(a.at S).head[9]? = some (.slice xA xn xc):=by rw[←hxv];rfl
 have a10v:(a.at S).head[10]? = some (.slice yA yn yc):=by rw[←hyv];rfl
 have a7:(a.at S).arr[7]? = some (.bool a.up):=HA.out 7 (by omega);have a11:(a.at S).arr[11]? = some (.slice eA a.held.length ec):=(HA.out 11 (by omega)).trans a11v;have a8:(a.at S).arr[8]? = some (.slice fA fn fc):=(HA.out 8 (by omega)).trans a8v;have a9:(a.at S).arr[9]? = some (.slice xA xn xc):=(HA.out 9 (by omega)).trans a9v;have a10:(a.at S).arr[10]? = some (.slice yA yn yc):=(HA.out 10 (by omega)).trans a10v;clear a8v a9v a10v a11v HHs heq hfv hxv hyv hkr hcl l1 l2 l3 l4;generalize (a.at S).arr=ar at HA HAE a7 a8 a9 a10 a11⊢;have HBa:=hid (Blk.new w 36 ar);have HX:=hid (Ext.alloc w (.cells ar 36))
 have a0:ar[0]? = some (.int .i64 a.kind):=HA.out 0 (by omega);have a1:ar[1]? = some (.int .i64 a.s1):=HA.out 1 (by omega);have a2:ar[2]? = some (.int .i64 a.s2):=HA.out 2 (by omega);have a3:ar[3]? = some (.int .i64 a.s3):=HA.out 3 (by omega);have a4:ar[4]? = some (.int .i64 a.r1):=HA.out 4 (by omega);have a5:ar[5]? = some (.int .i64 a.r2):=HA.out 5 (by omega);have a6:ar[6]? = some (.int .i64 a.r3):=HA.out 6 (by omega);have a146:ar[146]? = some (.int .i64 a.code):=HAE.out 1;have la:=HBa.out.lt;have c0:=HBa.out.cell a0;have c1:=HBa.out.cell a1;have c2:=HBa.out.cell a2;have c3:=HBa.out.cell a3;unfold sidV at HSs HSr;clear HA HAE ek ha hok hl
 unfold reqD headD at hb;rw[←hb];clear hb;generalize sidD a.s1 a.s2 a.s3=ds at HSs zs⊢;generalize sidD a.r1 a.r2 a.r3=dr at HSr zr⊢;generalize numB a.kind=dk at HNk zk⊢;generalize numB a.code=dc at HNc zc⊢;have hbd:(if a.up then(⟨#[1]⟩:ByteArray) else⟨#[0]⟩)=bitD a.up:=rfl;rw[hbd] at HBt;have zb:(bitD a.up).size≤1:=by cases a.up <;> decide
 clear hbd;generalize bitD a.up=db at HBt zb⊢;generalize zG (zh clB a.f)=tf at HT1 zf⊢;generalize zG (zaf a.k)=tk at HT2 zn⊢;generalize zh clB a.f=bf at HFi HT1 zf zf2;generalize zaf a.k=bk at HKn HT2 zn hks;generalize numB a.held.length=nl at HNl zl⊢;obtain⟨H,hH⟩:∃ H,(((dk++ds++db)++tf)++tk)++nl=H:=⟨_,rfl⟩
 have zH:H.size≤80000:=by rw[←hH];simp only[ByteArray.size_append];omega
 rw[hH];have HH:=hid hH;clear hH;go_enter Tryz.func35,Tryz.ntmps35;go_wp2_with fail
 generalize w.alloc (.cells ar 36)=w1 at HBa HX c0 c1 c2 c3 la⊢;refine zd (by kernel_rfl) (by kernel_rfl) (by kernel_rfl) ?_
 repeat (first
  | (refine AWq.val rfl rfl rfl rfl (fun K hK=>?_);go_big_quiet_op;refine hK _ ?_;clear hK K)
  | (refine AWq.skip rfl rfl rfl ?_;simp only[Act.put,zq6,zq7,zq8])
  | (refine AWq.call rfl Tryz.func46 (by kernel_rfl) (by kernel_rfl) rfl rfl rfl ?_;apply Exists.intro;refine And.intro (fun wc hc=>?_) ?_;(· (simp only[zm,zt,↓reduceIte,Nat.reduceEqDiff,zq1,zq2,zq3,zq4,zq5];with_reducible exact(HNk _).out));simp only[Act.put,zq6,zq7,zq8])
  | (refine AWq.call rfl Tryz.func78 (by kernel_rfl) (by kernel_rfl) rfl rfl rfl ?_;apply Exists.intro;refine And.intro (fun wc hc=>?_) ?_;(· (simp only[zm,zt,↓reduceIte,Nat.reduceEqDiff,zq1,zq2,zq3,zq4,zq5];with_reducible exact(HSs _).out));simp only[Act.put,zq6,zq7,zq8]))
 refine AWq.done rfl rfl rfl (fun w2 x2=>?_);simp only[zo,Act.put,zq6,zq7,zq8]
 all_goals intros
 have HX2:=hid (HX.out.trans x2);have HB2:=hid (HBa.out.ext x2);clear x2 HX HBa c0 c1 c2 c3 la HNk HSs;have c0:=HB2.out.cell a0;have la:=HB2.out.lt;have c7:=HB2.out.cell a7;have c8:=HB2.out.cell a8;have c9:=HB2.out.cell a9;have c10:=HB2.out.cell a10;have c11:=HB2.out.cell a11;go_wp2_with fail
 refine zd (by kernel_rfl) (by kernel_rfl) (by kernel_rfl) ?_
 repeat (first
  | (refine AWq.val rfl rfl rfl rfl (fun K hK=>?_);go_big_quiet_op;refine hK _ ?_;clear hK K)
  | (refine AWq.skip rfl rfl rfl ?_;simp only[Act.put,zq6,zq7,zq8])
  | (refine AWq.call rfl Tryz.func79 (by kernel_rfl) (by kernel_rfl) rfl rfl rfl ?_;apply Exists.intro;refine And.intro (fun wc hc=>?_) ?_;(· (simp only[zm,zt,↓reduceIte,Nat.reduceEqDiff,zq1,zq2,zq3,zq4,zq5];with_reducible exact(HBt _).out));simp only[Act.put,zq6,zq7,zq8])
  | (refine AWq.call rfl Tryz.func80 (by kernel_rfl) (by kernel_rfl) rfl rfl rfl ?_;apply Exists.intro;refine And.intro (fun wc hc=>?_) ?_;(· (simp only[zm,zt,↓reduceIte,Nat.reduceEqDiff,zq1,zq2,zq3,zq4,zq5];with_reducible exact(HFi _ (HX2.out.trans hc)).out));simp only[Act.put,zq6,zq7,zq8])
  | (refine AWq.call rfl Tryz.func81 (by kernel_rfl) (by kernel_rfl) rfl rfl rfl ?_;apply Exists.intro;refine And.intro (fun wc hc=>?_) ?_;(· (simp only[zm,zt,↓reduceIte,Nat.reduceEqDiff,zq1,zq2,zq3,zq4,zq5];with_reducible exact(HKn _ (HX2.out.trans hc)).out));simp only[Act.put,zq6,zq7,zq8])
  | (refine AWq.call rfl Tryz.func47 (by kernel_rfl) (by kernel_rfl) rfl rfl rfl ?_;apply Exists.intro;refine And.intro (fun wc hc=>?_) ?_;(· (simp only[zm,zt,↓reduceIte,Nat.reduceEqDiff,zq1,zq2,zq3,zq4,zq5];with_reducible exact(HT1 _).out));simp only[Act.put,zq6,zq7,zq8])
  | (refine AWq.call rfl Tryz.func47 (by kernel_rfl) (by kernel_rfl) rfl rfl rfl ?_;apply Exists.intro;refine And.intro (fun wc hc=>?_) ?_;(· (simp only[zm,zt,↓reduceIte,Nat.reduceEqDiff,zq1,zq2,zq3,zq4,zq5];with_reducible exact(HT2 _).out));simp only[Act.put,zq6,zq7,zq8])
  | (refine AWq.call rfl Tryz.func46 (by kernel_rfl) (by kernel_rfl) rfl rfl rfl ?_;apply Exists.intro;refine And.intro (fun wc hc=>?_) ?_;(· (simp only[zm,zt,↓reduceIte,Nat.reduceEqDiff,zq1,zq2,zq3,zq4,zq5];with_reducible exact(HNl _).out));simp only[Act.put,zq6,zq7,zq8]))
 refine AWq.done rfl rfl rfl (fun w3 x3=>?_);simp only[zo,Act.put,zq6,zq7,zq8]
 all_goals intros
 have HX3:=hid (HX2.out.trans x3);have HB3:=hid (HB2.out.ext x3);rw[HH.out];clear HH x3 HX2 HB2 c0 la c7 c8 c9 c10 c11 HBt HFi HKn HT1 HT2 HNl;have la:=HB3.out.lt;go_wp2_with fail
 go_loopw [3,4] (fun s3 s4 wr=>∃ k:Nat,k≤a.held.length∧s4=.int .i64 k∧s3=.string (H++catB zbU (a.held.take k))∧Hid (Ext w3 wr)) (fun _ s4 _=>a.held.length-(intOf s4).toNat)
 case atStart=>exact⟨0,by omega,rfl,by rw[List.take_zero,ziy];congr 1;apply zd0;simp,Ext.refl _⟩
 case round=>
  obtain⟨k,hk,rfl,rfl,hE⟩:=hrel;clear la;have HBr:=hid (HB3.out.ext hE.out);have HXr:=hid (HX3.out.trans hE.out);have c11:=HBr.out.cell a11;have la:=HBr.out.lt;by_cases hlt:k<a.held.length
  ·have d1:decide ((k:Int)<a.held.length)=true:=decide_eq_true (by omega)
   have d1':decide (k<a.held.length)=true:=decide_eq_true hlt;obtain⟨b,o,rfl,lb,hcell⟩:=H3.out (by omega);have lbr:=Nat.lt_of_lt_of_le lb HXr.out.size;have p0:=HXr.out.cell (hcell k hlt 0 _ rfl);have p1:=HXr.out.cell (hcell k hlt 1 _ rfl);have p2:=HXr.out.cell (hcell k hlt 2 _ rfl);have p3:=HXr.out.cell (hcell k hlt 3 _ rfl);rw[Nat.add_zero] at p0;have HC:=fun W=>HPr W a.held[k] (List.getElem_mem hlt);have HS:Hid (H++catB zbU (a.held.take (k+1))=(H++catB zbU (a.held.take k))++(verB a.held[k].a++verB a.held[k].b)):=by
    unfold Hid;rw[zgO zbU hlt,ByteArray.append_assoc];rfl
   have zx:=zp _ (List.getElem_mem hlt);unfold zbU at zx;have zc8:(catB zbU (a.held.take k)).size≤36000:=by
    have h5:=zdE zbU 36 (a.held.take k) (fun x hx=>zp x (List.mem_of_mem_take hx));have h6:(a.held.take k).length≤1000:=by rw[List.length_take];omega
    omega
   have zacc:(H++catB zbU (a.held.take k)).size≤116000:=by rw[ByteArray.size_append];omega
   clear hcell H3 HPr lb zc8 zp;generalize a.held[k]=x at zx p0 p1 p2 p3 HC HS;generalize verB x.a++verB x.b=pb at HC HS zx;unfold PairI.val at HC;generalize H++catB zbU (a.held.take k)=acc at HS zacc⊢;go_wp2_with fail
   refine((HC _).out).mono ?_;rintro en w8 ⟨rfl,x8⟩;have hE8:=hid (hE.out.trans x8);clear x8 HC hE p0 p1 p2 p3 c11 la HBr HXr;go_wp2_with fail
   go_roundw
   case rel=>exact⟨k+1,by omega,by go_num,by rw[HS.out],hE8⟩
   case measure=>simp[intOf];omega
  ·obtain rfl:k=a.held.length:=by omega
   have d1:decide ((a.held.length:Int)<a.held.length)=false:=decide_eq_false (by omega);have d1':decide (a.held.length<a.held.length)=false:=decide_eq_false (by omega);rw[List.take_length];clear H3 HPr hlt;go_wp2_with fail
   go_ret;exact⟨rfl,HXr.out⟩
end
section
open Go.RowKit
attribute [-simp] Tryz.isAgg36 Tryz.sizeOf36 Tryz.isAgg33 Tryz.isAgg61 Tryz.sizeOf61
theorem body2_c (w:World) (S:SlM) (a:MsgI) (ha:MsgAt w S a) (hok:MsgOk a) (hl:layB a=true) (ek:a.kind=2):Calls Tryz.prog 35 #[.agg (a.at S).arr] w (Ret (.string (zao a)) w):=by
 have d1:(a.kind==1)=false:=by rw[ek];decide
 have d2:(a.kind==2)=true:=by rw[ek];decide
 have d3:(a.kind==3)=false:=by rw[ek];decide
 have d4:(a.kind==4)=false:=by rw[ek];decide
 have HNk:=fun W=>hid (zS W a.kind hok.kind.1 hok.kind.2);have HSs:=fun W=>hid (zdl W a.s1 a.s2 a.s3 hok.s.1 hok.s.2.1 hok.s.2.2);have HSr:=fun W=>hid (zdl W a.r1 a.r2 a.r3 hok.r.1 hok.r.2.1 hok.r.2.2);have HNc:=fun W=>hid (zS W a.code hok.code.1 hok.code.2);have zk:=zah hok.kind.2;have zc:=zah hok.code.2;have zs:=zbH hok.s.1 hok.s.2.1 hok.s.2.2;have zr:=zbH hok.r.1 hok.r.2.1 hok.r.2.2;have HA:=hid (zT (a.at S));have HAE:=hid (zab (a.at S));have hb:=body_2 hl ek;have h3:=zcd hl;unfold zaY at h3;rw[if_neg (by omega),if_pos ek] at h3;unfold batB zbu at h3
 simp only[Bool.and_eq_true,decide_eq_true_eq] at h3;obtain⟨⟨l0,l1,l2,l3⟩,l5,l6,l7,l8⟩:=h3;have hns:=(zaB.1 l8).2;rw[List.all_eq_true] at l5;have zends:∀ v:List Int,za2 v→(zh verB (endsL v)).size≤2000:=fun v hv=>by
  have h9:=zb5 verB (endsL v) 18 65 (by decide) (zaQ v) (by decide) (fun x hx=>zbe (zaU hv x hx));rw[za7];omega
 have zV:=zends a.V hok.V;have zA:=zends a.A hok.A;have HBt:=fun W=>hid (zhS W a.last);have HNs:=fun W=>hid (zS W a.seq hok.seq.1 hok.seq.2);have HNl:=fun W=>hid (zS W a.ents.length (by omega) (by omega));have HEn:=fun W (e:EntI) (he:e∈a.ents)=>hid (zlG W e (hok.ents e he) (l5 e he));have ze:∀ e∈a.ents,(entB e).size≤1000:=fun e he=>by
  have h9:=(zho (hok.ents e he) (l5 e he)).2.2
  show(encL (entF e)).toArray.size≤1000
  rw[List.size_toArray];exact h9
 have HRV:=fun W=>hid (ze5 W a.V a.hV);have HRA:=fun W=>hid (ze5 W a.A a.hA);have HVV:=fun W u (hu:Sl W 2 u ((endsL a.V).map Ver.cells))=>hid (zdu W u (endsL a.V) hu (by have:=zaQ a.V;omega) (fun y hy=>zcs (zaU hok.V y hy)));have HVA:=fun W u (hu:Sl W 2 u ((endsL a.A).map Ver.cells))=>hid (zdu W u (endsL a.A) hu (by have:=zaQ a.A;omega) (fun y hy=>zcs (zaU hok.A y hy)));have HVN:=fun W (hW:Ext w W)=>hid (zdu W S.not.val a.not (ha.not.ext hW) hok.notl hok.not);have HT1:=fun W=>hid (zbj W (zh verB (endsL a.V)) (by omega));have HT2:=fun W=>hid (zbj W (zh verB (endsL a.A)) (by omega))
 have HT3:=fun W=>hid (zbj W (zh verB a.not) (by omega));have zt1:=zax (zh verB (endsL a.V)) (by omega);have zt2:=zax (zh verB (endsL a.A)) (by omega);have zt3:=zax (zh verB a.not) (by omega);have zl:=zah (z:=a.ents.length) (by omega);have zq:=zah (z:=a.seq) hok.seq.2;have HAV:=hid (fun j v (h:(vecV a.V)[j]? = some v)=>zbJ (a.at S) j v (by simpa[vecV,intsV,MsgI.at] using h));have HAA:=hid (fun j v (h:(vecV a.A)[j]? = some v)=>zbK (a.at S) j v (by simpa[vecV,intsV,MsgI.at] using h));have hVs:=hid (show(vecV a.V).size=65 by rw[zj];exact a.hV)
 have hAs:=hid (show(vecV a.A).size=65 by rw[zj];exact a.hA);have hel:=l3;have HEs:=ha.ents;obtain⟨eA,ec,heq,h9,h10,H3⟩:=zz HEs;have H3:=hid H3;unfold maxLen at h10;have a14v:(a.at S).head[14]? = some (.slice eA a.ents.length ec):=by rw[←heq];rfl
 have hnot:S.not.val=(a.at S).not.val:=rfl;obtain⟨nA,nn,nc,hnv⟩:∃ x y z,S.not.val=.slice x y z:=⟨_,_,_,rfl⟩
 rw[hnv] at HVN;have a145v:([(a.at S).not.val,.int .i64 (a.at S).code]:List Value)[0]? = some (.slice nA nn nc):=by rw[←hnot,hnv];rfl
 have a14:(a.at S).arr[14]? = some (.slice eA a.ents.length ec):=(HA.out 14 (by omega)).trans a14v;have a145:(a.at S).arr[145]? = some (.slice nA nn nc):=(HAE.out 0).trans a145v;have a12:(a.at S).arr[12]? = some (.int .i64 a.seq):=HA.out 12 (by omega);have a13:(a.at S).arr[13]? = some (.bool a.last):=HA.out 13 (by omega);generalize vecV a.V=VV at HAV hVs HRV;generalize vecV a.A=AA at HAA hAs HRA;clear HEs heq hnot hnv a14v a145v zends;clear l0 l1 l2 l3 l5 l6 l7 l8;generalize (a.at S).arr=ar at HA HAE a12 a13 a14 a145 HAV HAA⊢;have HBa:=hid (Blk.new w 36 ar);have HX:=hid (Ext.alloc w (.cells ar 36));have a0:ar[0]? = some (.int .i64 a.kind):=HA.out 0 (by omega)
 have a1:ar[1]? = some (.int .i64 a.s1):=HA.out 1 (by omega);have a2:ar[2]? = some (.int .i64 a.s2):=HA.out 2 (by omega);have a3:ar[3]? = some (.int .i64 a.s3):=HA.out 3 (by omega);have a4:ar[4]? = some (.int .i64 a.r1):=HA.out 4 (by omega);have a5:ar[5]? = some (.int .i64 a.r2):=HA.out 5 (by omega);have a6:ar[6]? = some (.int .i64 a.r3):=HA.out 6 (by omega);have a146:ar[146]? = some (.int .i64 a.code):=HAE.out 1;have la:=HBa.out.lt;have c0:=HBa.out.cell a0;have c1:=HBa.out.cell a1;have c2:=HBa.out.cell a2;have c3:=HBa.out.cell a3;unfold sidV at HSs HSr;clear HA HAE ek ha hok hl;unfold batE batD headD at hb;rw[←hb];clear hb
 generalize sidD a.s1 a.s2 a.s3=ds at HSs zs⊢;generalize sidD a.r1 a.r2 a.r3=dr at HSr zr⊢;generalize numB a.kind=dk at HNk zk⊢;generalize numB a.code=dc at HNc zc⊢;have hbd:(if a.last then(⟨#[1]⟩:ByteArray) else⟨#[0]⟩)=bitD a.last:=rfl;rw[hbd] at HBt;have zb:(bitD a.last).size≤1:=by cases a.last <;> decide
 clear hbd;generalize bitD a.last=db at HBt zb⊢;generalize zG (zh verB (endsL a.V))=tV at HT1 zt1⊢;generalize zG (zh verB (endsL a.A))=tA at HT2 zt2⊢;generalize zG (zh verB a.not)=tN at HT3 zt3⊢;generalize endsL a.V=eV at HRV HVV HT1 zt1 zV;generalize endsL a.A=eW at HRA HVA HT2 zt2 zA;generalize zh verB eV=bV at HVV HT1 zt1 zV;generalize zh verB eW=bW at HVA HT2 zt2 zA;generalize zh verB a.not=bN at HVN HT3 zt3 hns;generalize numB a.ents.length=nl at HNl zl⊢;generalize numB a.seq=nq at HNs zq⊢;obtain⟨H,hH⟩:∃ H,(((dk++ds++dr)++nq)++db)++nl=H:=⟨_,rfl⟩
 have zH:H.size≤1000:=by rw[←hH];simp only[ByteArray.size_append];omega
 rw[hH];have HH:=hid hH;clear hH;go_enter Tryz.func35,Tryz.ntmps35;go_wp2_with fail
 generalize w.alloc (.cells ar 36)=w1 at HBa HX c0 c1 c2 c3 la⊢;refine zd (by kernel_rfl) (by kernel_rfl) (by kernel_rfl) ?_
 repeat (first
  | (refine AWq.val rfl rfl rfl rfl (fun K hK=>?_);go_big_quiet_op;refine hK _ ?_;clear hK K)
  | (refine AWq.skip rfl rfl rfl ?_;simp only[Act.put,zq6,zq7,zq8])
  | (refine AWq.call rfl Tryz.func46 (by kernel_rfl) (by kernel_rfl) rfl rfl rfl ?_;apply Exists.intro;refine And.intro (fun wc hc=>?_) ?_;(· (simp only[zm,zt,↓reduceIte,Nat.reduceEqDiff,zq1,zq2,zq3,zq4,zq5];with_reducible exact(HNk _).out));simp only[Act.put,zq6,zq7,zq8])
  | (refine AWq.call rfl Tryz.func78 (by kernel_rfl) (by kernel_rfl) rfl rfl rfl ?_;apply Exists.intro;refine And.intro (fun wc hc=>?_) ?_;(· (simp only[zm,zt,↓reduceIte,Nat.reduceEqDiff,zq1,zq2,zq3,zq4,zq5];with_reducible exact(HSs _).out));simp only[Act.put,zq6,zq7,zq8]))
 refine AWq.done rfl rfl rfl (fun w2 x2=>?_);simp only[zo,Act.put,zq6,zq7,zq8]
 all_goals intros
 have HX2:=hid (HX.out.trans x2);have HB2:=hid (HBa.out.ext x2);clear x2 HX HBa c0 c1 c2 c3 la HNk HSs;have c0:=HB2.out.cell a0;have la:=HB2.out.lt;have c4:=HB2.out.cell a4;have c5:=HB2.out.cell a5;have c6:=HB2.out.cell a6;have c12:=HB2.out.cell a12;have c13:=HB2.out.cell a13;have c14:=HB2.out.cell a14;go_wp2_with fail
 refine zd (by kernel_rfl) (by kernel_rfl) (by kernel_rfl) ?_
 repeat (first
  | (refine AWq.val rfl rfl rfl rfl (fun K hK=>?_);go_big_quiet_op;refine hK _ ?_;clear hK K)
  | (refine AWq.skip rfl rfl rfl ?_;simp only[Act.put,zq6,zq7,zq8])
  | (refine AWq.call rfl Tryz.func78 (by kernel_rfl) (by kernel_rfl) rfl rfl rfl ?_;apply Exists.intro;refine And.intro (fun wc hc=>?_) ?_;(· (simp only[zm,zt,↓reduceIte,Nat.reduceEqDiff,zq1,zq2,zq3,zq4,zq5];with_reducible exact(HSr _).out));simp only[Act.put,zq6,zq7,zq8])
  | (refine AWq.call rfl Tryz.func79 (by kernel_rfl) (by kernel_rfl) rfl rfl rfl ?_;apply Exists.intro;refine And.intro (fun wc hc=>?_) ?_;(· (simp only[zm,zt,↓reduceIte,Nat.reduceEqDiff,zq1,zq2,zq3,zq4,zq5];with_reducible exact(HBt _).out));simp only[Act.put,zq6,zq7,zq8])
  | (refine AWq.call rfl Tryz.func46 (by kernel_rfl) (by kernel_rfl) rfl rfl rfl ?_;apply Exists.intro;refine And.intro (fun wc hc=>?_) ?_;(· (simp only[zm,zt,↓reduceIte,Nat.reduceEqDiff,zq1,zq2,zq3,zq4,zq5];with_reducible exact(HNs _).out));simp only[Act.put,zq6,zq7,zq8])
  | (refine AWq.call rfl Tryz.func46 (by kernel_rfl) (by kernel_rfl) rfl rfl rfl ?_;apply Exists.intro;refine And.intro (fun wc hc=>?_) ?_;(· (simp only[zm,zt,↓reduceIte,Nat.reduceEqDiff,zq1,zq2,zq3,zq4,zq5];with_reducible exact(HNl _).out));simp only[Act.put,zq6,zq7,zq8]))
 refine AWq.done rfl rfl rfl (fun w3 x3=>?_);simp only[zo,Act.put,zq6,zq7,zq8]
 all_goals intros
 have HX3:=hid (HX2.out.trans x3);have HB3:=hid (HB2.out.ext x3);rw[HH.out];clear HH x3 HX2 HB2 c0 la c4 c5 c6 c12 c13 c14 HBt HSr HNs HNl;have c14:=HB3.out.cell a14;have la:=HB3.out.lt;go_wp2_with fail
 go_loopw [3,5] (fun s3 s4 wr=>∃ k:Nat,k≤a.ents.length∧s4=.int .i64 k∧s3=.string (H++catB entB (a.ents.take k))∧Hid (Ext w3 wr)) (fun _ s4 _=>a.ents.length-(intOf s4).toNat)
 case atStart=>exact⟨0,by omega,rfl,by rw[List.take_zero,ziy];congr 1;apply zd0;simp,Ext.refl _⟩
 case round=>
  obtain⟨k,hk,rfl,rfl,hE⟩:=hrel;clear la c14;have HBr:=hid (HB3.out.ext hE.out);have HXr:=hid (HX3.out.trans hE.out);have c14:=HBr.out.cell a14;have la:=HBr.out.lt;by_cases hlt:k<a.ents.length
  ·have d1:decide ((k:Int)<a.ents.length)=true:=decide_eq_true (by omega)
   have d1':decide (k<a.ents.length)=true:=decide_eq_true hlt;obtain⟨b,o,rfl,lb,hcell⟩:=H3.out (by omega);have lbr:=Nat.lt_of_lt_of_le lb HXr.out.size;have HR1:=hid (fun(q:Nat) u (hu:a.ents[k].arr[q]? = some u)=>HXr.out.cell (hcell k hlt q u (by rw[←zbZ,Array.getElem?_toList];exact hu)));have hzE:=hid (zaG a.ents[k]);have HC:=fun W=>HEn W a.ents[k] (List.getElem_mem hlt);have HS:Hid (H++catB entB (a.ents.take (k+1))=(H++catB entB (a.ents.take k))++entB a.ents[k]):=by
    unfold Hid;rw[zgO entB hlt,ByteArray.append_assoc]
   have zx:=ze _ (List.getElem_mem hlt);have zc8:(catB entB (a.ents.take k)).size≤256000:=by
    have h5:=zdE entB 1000 (a.ents.take k) (fun x hx=>ze x (List.mem_of_mem_take hx));have h6:(a.ents.take k).length≤256:=by rw[List.length_take];omega
    omega
   have zacc:(H++catB entB (a.ents.take k)).size≤258000:=by rw[ByteArray.size_append];omega
   clear hcell H3 HEn lb zc8 ze;generalize entB a.ents[k]=pb at HC HS zx;generalize a.ents[k].arr=XE at HR1 hzE HC;generalize H++catB entB (a.ents.take k)=acc at HS zacc⊢;go_wp2_with fail
   simp only[Tryz.sizeOf61,Result.andThen];rw[Oper.upon_value];go_wp2_with fail
   simp only[Tryz.isAgg61,Tryz.sizeOf61,Result.andThen,↓reduceIte,zv HR1.out 21 hzE.out];rw[Oper.upon_value];go_wp2_with fail
   refine((HC _).out).mono ?_;rintro en w8 ⟨rfl,x8⟩;have hE8:=hid (hE.out.trans x8);clear x8 HC hE c14 la HBr HXr HR1;go_wp2_with fail
   go_roundw
   case rel=>exact⟨k+1,by omega,by go_num,by rw[HS.out],hE8⟩
   case measure=>simp[intOf];omega
  ·obtain rfl:k=a.ents.length:=by omega
   have d1:decide ((a.ents.length:Int)<a.ents.length)=false:=decide_eq_false (by omega);have d1':decide (a.ents.length<a.ents.length)=false:=decide_eq_false (by omega);rw[List.take_length];have zc8:=zdE entB 1000 a.ents ze;have zacc:(H++catB entB a.ents).size≤258000:=by rw[ByteArray.size_append];omega
   clear H3 HEn hlt ze zc8;obtain⟨acc,hacc⟩:∃ acc,H++catB entB a.ents=acc:=⟨_,rfl⟩
   rw[hacc] at zacc⊢;have HAcc:=hid hacc;clear hacc;have c145:=HBr.out.cell a145;have HVL:=hid (fun j v (h:VV[j]? = some v)=>HBr.out.cell (HAV.out j v h));have HAL:=hid (fun j v (h:AA[j]? = some v)=>HBr.out.cell (HAA.out j v h));go_wp2_with fail
   refine zd (by kernel_rfl) (by kernel_rfl) (by kernel_rfl) ?_
   repeat (first
    | (refine AWq.val rfl rfl rfl rfl (fun K hK=>?_);go_big_quiet_op;refine hK _ ?_;clear hK K)
    | (refine AWq.skip rfl rfl rfl ?_;simp only[Act.put,zq6,zq7,zq8])
    | (refine AWq.val rfl rfl rfl rfl (fun K hK=>?_);refine zI rfl rfl (fun wc hwc=>by obtain⟨E,rfl⟩:=hwc;exact zae hVs.out (fun j v hv=>(Ext.of_wext _ _).cell (HVL.out j v hv))) (hK _ ?_);clear hK K;simp only[Act.put,zq6,zq7,zq8])
    | (refine AWq.val rfl rfl rfl rfl (fun K hK=>?_);refine zI rfl rfl (fun wc hwc=>by obtain⟨E,rfl⟩:=hwc;exact zae hAs.out (fun j v hv=>(Ext.of_wext _ _).cell (HAL.out j v hv))) (hK _ ?_);clear hK K;simp only[Act.put,zq6,zq7,zq8])
    | (refine AWq.call rfl Tryz.func82 (by kernel_rfl) (by kernel_rfl) rfl rfl rfl ?_;apply Exists.intro;refine And.intro (fun wc hc=>?_) ?_;(· (simp only[zm,zt,↓reduceIte,Nat.reduceEqDiff,zq1,zq2,zq3,zq4,zq5];with_reducible exact(HVN _ (HXr.out.trans hc)).out));simp only[Act.put,zq6,zq7,zq8])
    | (refine AWq.callQ ((RowAt Ver.cells 2 eV)) ((fun v _ _ he h=>RowAt.ext h he)) rfl Tryz.func83 (by kernel_rfl) (by kernel_rfl) rfl rfl rfl (fun wc hc=>?_) ?_;(· (simp only[zm,zt,↓reduceIte,Nat.reduceEqDiff,zq1,zq2,zq3,zq4,zq5];with_reducible exact(HRV wc).out)))
    | (refine AWq.callQ ((RowAt Ver.cells 2 eW)) ((fun v _ _ he h=>RowAt.ext h he)) rfl Tryz.func83 (by kernel_rfl) (by kernel_rfl) rfl rfl rfl (fun wc hc=>?_) ?_;(· (simp only[zm,zt,↓reduceIte,Nat.reduceEqDiff,zq1,zq2,zq3,zq4,zq5];with_reducible exact(HRA wc).out)))
    | (refine AWq.call rfl Tryz.func82 (by kernel_rfl) (by kernel_rfl) rfl rfl rfl ?_;apply Exists.intro;refine And.intro (fun wc hc=>?_) ?_;(· (simp only[zm,zt,↓reduceIte,Nat.reduceEqDiff,zq1,zq2,zq3,zq4,zq5];intro y hy;exact(HVV _ _ hy.1).out));simp only[Act.put,zq6,zq7,zq8])
    | (refine AWq.call rfl Tryz.func82 (by kernel_rfl) (by kernel_rfl) rfl rfl rfl ?_;apply Exists.intro;refine And.intro (fun wc hc=>?_) ?_;(· (simp only[zm,zt,↓reduceIte,Nat.reduceEqDiff,zq1,zq2,zq3,zq4,zq5];intro y hy;exact(HVA _ _ hy.1).out));simp only[Act.put,zq6,zq7,zq8])
    | (refine AWq.call rfl Tryz.func47 (by kernel_rfl) (by kernel_rfl) rfl rfl rfl ?_;apply Exists.intro;refine And.intro (fun wc hc=>?_) ?_;(· (simp only[zm,zt,↓reduceIte,Nat.reduceEqDiff,zq1,zq2,zq3,zq4,zq5];with_reducible exact(HT1 _).out));simp only[Act.put,zq6,zq7,zq8])
    | (refine AWq.call rfl Tryz.func47 (by kernel_rfl) (by kernel_rfl) rfl rfl rfl ?_;apply Exists.intro;refine And.intro (fun wc hc=>?_) ?_;(· (simp only[zm,zt,↓reduceIte,Nat.reduceEqDiff,zq1,zq2,zq3,zq4,zq5];with_reducible exact(HT2 _).out));simp only[Act.put,zq6,zq7,zq8])
    | (refine AWq.call rfl Tryz.func47 (by kernel_rfl) (by kernel_rfl) rfl rfl rfl ?_;apply Exists.intro;refine And.intro (fun wc hc=>?_) ?_;(· (simp only[zm,zt,↓reduceIte,Nat.reduceEqDiff,zq1,zq2,zq3,zq4,zq5];with_reducible exact(HT3 _).out));simp only[Act.put,zq6,zq7,zq8]))
   refine AWq.done rfl rfl rfl (fun w5 x5=>?_);simp only[zo,Act.put,zq6,zq7,zq8]
   all_goals intros
   go_wp2_with fail
   go_ret;exact⟨by rw[HAcc.out];rfl,HXr.out.trans x5⟩
end
section
open Go.RowKit
theorem zhX {m:MsgI} (hk:m.kind=1∨m.kind=2∨m.kind=3∨m.kind=4):m=zQ m↔((m.kind==2||m.kind==3||decide (m.r1=0∧m.r2=0∧m.r3=0))&&((m.kind==4||m.code==0)&&((m.kind==1||zch m)&&(m.kind==2||zbx m))))=true:=by
 obtain⟨kind,s1,s2,s3,r1,r2,r3,up,f,k,held,seq,last,ents,V,A,not,code,hV,hA⟩:=m;obtain⟨fs,ks⟩:=k;dsimp only at hk;rw[zdU];unfold zQ zch zbx;rcases hk with rfl | rfl | rfl | rfl <;> simp <;> constructor <;> intro h <;> simp_all <;> omega
theorem rest_kind {m:MsgI} (h:zaY m=true):m.kind=1∨m.kind=2∨m.kind=3∨m.kind=4:=by
 unfold zaY at h;by_cases k1:m.kind=1
 ·exact .inl k1
 by_cases k2:m.kind=2
 ·exact .inr (.inl k2)
 by_cases k3:m.kind=3
 ·exact .inr (.inr (.inl k3))
 rw[if_neg k1,if_neg k2,if_neg k3] at h;simp only[Bool.and_eq_true,decide_eq_true_eq] at h;exact .inr (.inr (.inr h.1))
theorem ziY {m:MsgI} (h:zbI m=true):m.kind=1∨m.kind=2∨m.kind=3∨m.kind=4:=by
 unfold zbI at h;by_cases k1:m.kind=1
 ·exact .inl k1
 by_cases k2:m.kind=2
 ·exact .inr (.inl k2)
 by_cases k3:m.kind=3
 ·exact .inr (.inr (.inl k3))
 by_cases k4:m.kind=4
 ·exact .inr (.inr (.inr k4))
 simp[k1,k2,k3,k4] at h
theorem zgk {m:MsgI}:zaY m=true↔zbI m=true∧(m.kind=1→(zaf m.k).size≤65536)∧(m.kind=2→(zh verB m.not).size≤65536):=by
 unfold zaY zbI reqB batB zbu;by_cases k1:m.kind=1
 ·simp[k1,zaB]
  constructor
  ·rintro⟨a,b,c,d⟩;exact⟨⟨d,a,b,c.1⟩,c.2⟩
  ·rintro⟨⟨d,a,b,c⟩,e⟩;exact⟨a,b,⟨c,e⟩,d⟩
 by_cases k2:m.kind=2
 ·simp[k2,zaB]
  constructor
  ·rintro⟨⟨a,b,c,d⟩,e,f,g,h⟩;exact⟨⟨e,a,b,c,d,f,g,h.1⟩,h.2⟩
  ·rintro⟨⟨e,a,b,c,d,f,g,h⟩,i⟩;exact⟨⟨a,b,c,d⟩,e,f,g,h,i⟩
 by_cases k3:m.kind=3
 ·simp[k3]
 by_cases k4:m.kind=4
 ·simp[k4]
 simp[k1,k2,k3,k4]
theorem lay_iff {m:MsgI}:layB m=true↔za6 m=true∧(m.kind=1→(zaf m.k).size≤65536)∧(m.kind=2→(zh verB m.not).size≤65536):=by
 constructor
 ·intro h
  unfold layB at h;rw[Bool.and_eq_true,Bool.and_eq_true,decide_eq_true_eq] at h;obtain⟨h1,h2,h3⟩:=h;have h4:=(zhX (rest_kind h3)).1 h2;have h5:=zgk.1 h3;simp only[Bool.and_eq_true] at h4;refine⟨?_,h5.2⟩;unfold za6;simp only[Bool.and_eq_true];exact⟨h1,h4.1,h4.2.1,h4.2.2.1,h4.2.2.2,h5.1⟩
 ·rintro⟨h,hs⟩
  unfold za6 at h;simp only[Bool.and_eq_true] at h;obtain⟨h1,h2,h3,h4,h5,h6⟩:=h;unfold layB;rw[Bool.and_eq_true,Bool.and_eq_true,decide_eq_true_eq];refine⟨h1,(zhX (ziY h6)).2 ?_,zgk.2 ⟨h6,hs⟩⟩;simp only[Bool.and_eq_true];exact⟨h2,h3,h4,h5⟩
theorem lay_le {m:MsgI} (h:layB m=true):MsgLe m:=by
 have h3:=zcd h;by_cases k1:m.kind=1
 ·unfold zaY at h3
  rw[if_pos k1] at h3;unfold reqB at h3;simp only[Bool.and_eq_true,decide_eq_true_eq] at h3;obtain⟨l1,l2,l3,l4⟩:=h3;obtain⟨c1,c2⟩:=zbr l2;obtain⟨m1,m2,m3,m4⟩:=zc1 (zaB.1 l3).1;exact⟨by omega,by omega,by omega⟩
 ·unfold layB at h
  rw[Bool.and_eq_true,Bool.and_eq_true,decide_eq_true_eq] at h;have h2:=h.2.1;have e1:=congrArg MsgI.f h2;have e2:=congrArg MsgI.k h2;simp[zQ,k1] at e1 e2;exact⟨by rw[e1];simp,by rw[e2];simp,by rw[e2];simp⟩
theorem zmd {m:MsgI} (h:layB m=true) (hs:(zao m).size≤65000):putZ m=0:=by
 unfold putZ;have h9:=zcg (n:=(zao m).size) (by omega);rw[if_pos h,if_pos (by unfold fszN;omega)]
theorem lay_one {m:MsgI} (h:layB m=true) (hs:(zao m).size≤65000):putM m=⟨(zaL (zao m).data.toList).toArray⟩:=by
 have h9:=zcg (n:=(zao m).size) (by omega);unfold putM;rw[if_pos h,if_pos (by unfold fszN;omega)];rfl
end
end Go.Proofs.YtofjpdgojoppbaaGreatDoor
