/-
  Of the claim's proof: RdK, RdL, BoA, BoB, BoC, BoD, MlA, OpN.
-/
import Derived.Test.YtofjpdgojoppbaaGreatDoorT15
import Derived.Test.YtofjpdgojoppbaaGreatDoorT23
import Derived.Test.YtofjpdgojoppbaaGreatDoorT27
import Derived.Test.YtofjpdgojoppbaaGreatDoorT33
import Derived.Test.YtofjpdgojoppbaaGreatDoorT35
import Derived.Test.YtofjpdgojoppbaaGreatDoorT36
import Derived.Test.YtofjpdgojoppbaaGreatDoorT37
import Derived.Test.YtofjpdgojoppbaaGreatDoorT40
set_option maxRecDepth 100000
set_option maxHeartbeats 16000000
set_option linter.unusedVariables false
set_option linter.unusedSimpArgs false
namespace Go.Proofs.YtofjpdgojoppbaaGreatDoor
section
open Go.RowKit
def KnowT (w:World) (u v:SlV) (k:KnowI):Prop:=∃ lf:List (FragC×FragI),k.fs=lf.map (·.2)∧w.ownsRow 0 85 67 u.val lf.length (lf.map FragP.list).flatten∧(∀ z∈lf,FragO w z.1 z.2)∧w.ownsRow 0 126 67 v.val k.ks.length (k.ks.map KnownI.list).flatten
theorem KnowT.at {w:World} {u v:SlV} {k:KnowI} (h:KnowT w u v k):KnowAt w u.val v.val k:=by
 obtain⟨lf,h1,h2,h3,h4⟩:=h;obtain⟨fs,ks⟩:=k;obtain rfl:fs=lf.map (·.2):=h1;exact zlp h2 h3 h4
theorem KnowT.ext {w w':World} {u v:SlV} {k:KnowI} (h:KnowT w u v k) (he:Ext w w'):KnowT w' u v k:=by
 obtain⟨lf,h1,h2,h3,h4⟩:=h;exact⟨lf,h1,zz h2 he,fun z hz=>(h3 z hz).ext he,zz h4 he⟩
theorem KnowT.nil (w:World):KnowT w nilS nilS ⟨[],[]⟩:=⟨[],rfl,zB _ _ _ _,fun z hz=>(by cases hz),zB _ _ _ _⟩
theorem KnowT.keepBlk {w w':World} {u v:SlV} {k:KnowI} {q:Nat} {t:TypeId} {cs:Array Value} (h:KnowT w u v k) (hb:Blk w q t cs) (h1:85≠t) (h2:126≠t) (h3:99≠t) (h4:51≠t) (hk:Keep (fun g=>g=q) w w'):KnowT w' u v k:=by
 obtain⟨lf,a1,a2,a3,a4⟩:=h;exact⟨lf,a1,zw a2 hk (fun g hg hq=>zD a2 hb h1 (by rw[←hq];exact hg)),fun z hz=>(a3 z hz).keepBlk hb h3 h4 hk,zw a4 hk (fun g hg hq=>zD a4 hb h2 (by rw[←hq];exact hg))⟩
attribute [-simp] Tryz.isAgg29 Tryz.sizeOf29
theorem getKT_c (w:World) (s:ByteArray) (m:Int) (hm:w.cell? ⟨0,0,none⟩=some (.int .i64 m)) (hs:s.size≤65536):Calls Tryz.prog 67 #[.string s] w (fun en w'=>∃ (u v:SlV) (k:KnowI) (z:Int),en=.returned (.tuple #[.agg #[.slice u.a u.n u.c,.slice v.a v.n v.c],.int .i64 z])∧KnowT w' u v k∧KnowG k∧Ext w w'∧((z=0∧mayB k=true∧zad k=s)∨(z=6∧u=nilS∧v=nilS∧k=⟨[],[]⟩))∧(∀ k0,KnowG k0→mayB k0=true→s=zad k0→z=0∧k=k0)):=by
 have HO:=fun W=>hid (zcj W s);have HT:=fun W q (s':ByteArray) (e':Int) (h':InAt W q s' e') (hs':s'.size≤65536)=>hid (t_c W q s' e' h' (by omega));have HFr:=fun W t (hW:Ext w W) (ht:t.size≤65536)=>hid (zl1 W t ht zau (fun x=>x.v.length=65∧FragOk x∧mayF x=true) (fun W' t' ht' hW'=>(zms W' t' m ((hW.trans hW').cell hm) (by omega)).mono fun en w' ⟨c,x,e,h1,h2,h3,h4,h5⟩=>⟨(c,x),e,h1,h2,h3,h4,fun x0 a b=>h5 x0 a.1 a.2.1 a.2.2 b⟩))
 have HKn:=fun W t (ht:t.size≤65536)=>hid (zl0 W t ht zY (fun x=>KnownOk x∧mayN x=true) (fun W' t' ht' _=>(zkI W' t' (by omega)).mono fun en w' ⟨x,e,h1,h3,h4,h5⟩=>⟨x,e,h1,trivial,h3,h4,fun x0 a b=>h5 x0 a.1 a.2 b⟩));have HSm:=fun W (u v:SlV) (k:KnowI) (hW:Ext w W) (h:KnowAt W u.val v.val k) (hk:KnowOk k)=>hid (sameK_x W #[.slice u.a u.n u.c,.slice v.a v.n v.c] rfl (by simp[Value.oneCell']) s _ _ (fun W' hW'=>hid (zny W' u.val v.val k m ((hW.trans hW').cell hm) (h.ext hW') hk)));simp only[gotX hs] at HSm;have HR0:=hid (Blk.new w 29 #[.slice none 0 0,.slice none 0 0])
 have HE0:=hid (Ext.alloc w (.cells #[.slice none 0 0,.slice none 0 0] 29));clear hm;go_enter Tryz.func67,Tryz.ntmps67;go_wp2_with fail
 refine((HO _).out).mono ?_;rintro en w1 ⟨v,rfl,⟨q,rfl,hq,hI⟩,x1⟩;have HI1:=hid hI;have HR1:=hid (HR0.out.ext x1);have HE1:=hid (HE0.out.trans x1);rw[World.size_alloc] at hq;have NR:Hid (¬ w.heap.size=q):=by unfold Hid;omega
 have HQ:=hid hq;clear hI x1 hq HR0 HE0 HO;have HK1:=hid (Keep.of_ext (S:=fun g=>g=q) HE1.out);have ToE:Hid (∀ W,Keep (fun g=>g=q) w W→Ext w W):=fun W hk=>Ext.of_below (hk.below (Nat.le_refl _) fun k hk=>by have:=HQ.out;omega);clear HE1;go_wp2_with fail
 refine((HT _ _ _ _ HI1.out hs).out).mono ?_;rintro en w2 ⟨t1,s2,e2,rfl,ht1,k2,h2,hs2,r1⟩;have HI2:=hid h2;have HR2:=hid (HR1.out.keep k2 NR.out);have HK2:=hid (HK1.out.trans k2);have R1:=hid r1;have ht1':t1.size≤65536:=by omega
 have hs2':s2.size≤65536:=by omega
 clear k2 h2 r1 ht1 HI1 HR1 HK1 hs2;go_wp2_with fail
 refine((HFr _ _ (ToE.out _ HK2.out) ht1').out).mono ?_;rintro en w3 ⟨vf,bf,lf,rfl,hrf,hof,hgf,hlf,x3,hbf⟩;obtain⟨sf,rfl⟩:=zcO hrf;have HI3:=hid (HI2.out.ext x3);have HR3:=hid (HR2.out.ext x3);have HK3:=hid (HK2.out.ext x3);have HF3:=hid hrf;have HO3:=hid hof;have HGF:=hid hgf;have HLF:=hid hlf;have BF:=hid hbf;unfold SlV.val;clear hrf hof hgf hlf hbf x3 HI2 HR2 HK2 ht1' HFr;go_wp2_with fail
 refine((HT _ _ _ _ HI3.out hs2').out).mono ?_;rintro en w4 ⟨t2,s3,e3,rfl,ht2,k4,h4,hs3,r2⟩;have HR4:=hid (HR3.out.keep k4 NR.out);have HK4:=hid (HK3.out.trans k4);have HF4:=hid (zw HF3.out k4 (fun g hg hq=>zD HF3.out HI3.out (by decide) (by rw[←hq];exact hg)));have HO4:Hid (∀ z∈lf,FragO w4 z.1 z.2):=fun z hz=>(HO3.out z hz).keepBlk HI3.out (by decide) (by decide) k4;have R2:=hid r2;have ht2':t2.size≤65536:=by omega
 clear k4 h4 r2 ht2 hs3 HI3 HR3 HK3 HF3 HO3 HT hs2';go_wp2_with fail
 refine((HKn _ _ ht2').out).mono ?_;rintro en w5 ⟨vk,bk,lk,rfl,hrk,-,hgk,hlk,x5,hbk⟩;obtain⟨sk,rfl⟩:=zcO hrk;have HR5:=hid (HR4.out.ext x5);have HE5:=hid (ToE.out _ (HK4.out.ext x5));have HKw:=hid (zlp (zz HF4.out x5) (fun z hz=>(HO4.out z hz).ext x5) hrk);have HLast:Hid (∀ W W',Ext w5 W→Keep (fun g=>g=w.heap.size) W W'→KnowT W' sf sk ⟨lf.map (·.2),lk⟩):=fun W W' hW hk=>by
  have hb:=HR5.out.ext hW;have f1:=zz (zz HF4.out x5) hW;have f2:=zz hrk hW;exact⟨lf,rfl,zas (zw f1 hk (fun g hg hq=>zD f1 hb (by decide) (by rw[←hq];exact hg))) (Nat.zero_le _),fun z hz=>(((HO4.out z hz).ext x5).ext hW).keepBlk hb (by decide) (by decide) hk,zas (zw f2 hk (fun g hg hq=>zD f2 hb (by decide) (by rw[←hq];exact hg))) (Nat.zero_le _)⟩
 have HOk:Hid (KnowG ⟨lf.map (·.2),lk⟩):=by
  refine⟨⟨fun x hx=>?_,fun x hx=>?_,hgk⟩,fun x hx=>?_⟩
  ·obtain⟨z,hz,rfl⟩:=List.mem_map.1 hx
   exact(HGF.out z hz).ok
  ·obtain⟨z,hz,rfl⟩:=List.mem_map.1 hx
   exact(HGF.out z hz).sz
  ·obtain⟨z,hz,rfl⟩:=List.mem_map.1 hx
   rw[←(HO4.out z hz).1];exact z.1.hv
 have HBk:Hid (∀ k0,KnowG k0→mayB k0=true→s=zad k0→(⟨lf.map (·.2),lk⟩:KnowI)=k0):=fun k0 a0 a1 a2=>by
  obtain⟨b1,b2⟩:=zmn R1.out R2.out k0 a2;obtain⟨c1,c2,c3,c4⟩:=zer a1;have d1:=BF.out k0.fs (fun x hx=>⟨a0.vs x hx,a0.ok.fs x hx,c1 x hx⟩) (by omega) b1;have d2:=hbk k0.ks (fun x hx=>⟨a0.ok.ks x hx,c2 x hx⟩) (by omega) b2;rw[List.map_id'] at d2;exact zfQ.2 ⟨d1,d2⟩
 unfold SlV.val;clear hrk hgk hlk x5 hbk HR4 HK4 HF4 HO4 BF HGF HLF R1 R2 ht2' HKn HQ ToE NR;generalize (⟨lf.map (·.2),lk⟩:KnowI)=k at HKw HOk HBk HLast;have HS:=HSm w5 sf sk k HE5.out HKw.out HOk.out.ok;clear HSm;go_wp2_with fail
 refine(HS.out).mono ?_;rintro en w6 ⟨rfl,x6⟩;have HR6:=hid (HR5.out.ext x6);have HE6:=hid (HE5.out.trans x6);have HLs:=hid (fun W' hk=>HLast.out w6 W' x6 hk);clear x6 HR5 HE5 HKw HS HLast;by_cases hc:mayB k=true∧zad k=s
 ·rw[if_pos hc,if_pos hc]
  have HC:=hid hc;clear hc;obtain⟨X,hX⟩:∃ X:Array Value,#[.slice sf.a sf.n sf.c,.slice sk.a sk.n sk.c]=X:=⟨_,rfl⟩
  have hz9:Hid (X.size=2):=by rw[←hX];rfl
  have ho9:Hid (X.all (·.oneCell')=true):=by unfold Hid;rw[←hX];simp[Value.oneCell']
  rw[hX];have HXe:=hid hX;clear hX;go_wp2_with fail
  simp only[Tryz.sizeOf29,Result.andThen,↓reduceIte,zg HR6.out (by rw[hz9.out];exact zbP) (by first | rfl | rw[hz9.out,(show(#[.slice none 0 0,.slice none 0 0]:Array Value).size=2 from rfl)] | rw[(show(#[.slice none 0 0,.slice none 0 0]:Array Value).size=2 from rfl),hz9.out]) ho9.out,hz9.out];rw[Oper.upon_skip];go_wp2_with fail
  have HF:=hid (HR6.out.setRow X);have HE8:=Ext.setRow HE6.out (Nat.le_refl _) X;have hk8:Keep (fun g=>g=w.heap.size) w6 _:=Keep.setRow (S:=fun g=>g=w.heap.size) (Keep.refl _ w6) (.inl rfl) X;refine bodyPost_ret (zv rfl _ _ w.heap.size 29 _ (0,0) _ rfl HF.out Tryz.underlying29 rfl (by rw[hz9.out];exact zbP)) rfl ?_;exact⟨sf,sk,k,0,by rw[←HXe.out];rfl,HLs.out _ hk8,HOk.out,HE8,.inl ⟨rfl,HC.out.1,HC.out.2⟩,fun k0 a0 a1 a2=>⟨rfl,HBk.out k0 a0 a1 a2⟩⟩
 ·rw[if_neg hc,if_neg hc]
  have HN:=hid hc;clear hc;obtain⟨X,hX⟩:∃ X:Array Value,#[.slice none 0 0,.slice none 0 0]=X:=⟨_,rfl⟩
  have hz9:Hid (X.size=2):=by rw[←hX];rfl
  have ho9:Hid (X.all (·.oneCell')=true):=by unfold Hid;rw[←hX];simp[Value.oneCell']
  rw[hX];have HXe:=hid hX;clear hX;go_wp2_with fail
  simp only[Tryz.sizeOf29,Result.andThen,↓reduceIte,zg HR6.out (by rw[hz9.out];exact zbP) (by first | rfl | rw[hz9.out,(show(#[.slice none 0 0,.slice none 0 0]:Array Value).size=2 from rfl)] | rw[(show(#[.slice none 0 0,.slice none 0 0]:Array Value).size=2 from rfl),hz9.out]) ho9.out,hz9.out];rw[Oper.upon_skip];go_wp2_with fail
  have HF:=hid (HR6.out.setRow X);have HE8:=Ext.setRow HE6.out (Nat.le_refl _) X;have hk8:Keep (fun g=>g=w.heap.size) w6 _:=Keep.setRow (S:=fun g=>g=w.heap.size) (Keep.refl _ w6) (.inl rfl) X;refine bodyPost_ret (zv rfl _ _ w.heap.size 29 _ (0,0) _ rfl HF.out Tryz.underlying29 rfl (by rw[hz9.out];exact zbP)) rfl ?_;refine⟨nilS,nilS,⟨[],[]⟩,6,by rw[←HXe.out];rfl,KnowT.nil _,⟨⟨fun x hx=>(by cases hx),fun x hx=>(by cases hx),fun x hx=>(by cases hx)⟩,fun x hx=>(by cases hx)⟩,HE8,.inr ⟨rfl,rfl,rfl,rfl⟩,fun k0 a0 a1 a2=>?_⟩;obtain rfl:=HBk.out k0 a0 a1 a2;exact absurd ⟨a1,a2.symm⟩ HN.out
end
section
open Go.RowKit
structure MsgT (w:World) (S:SlM) (m:MsgI):Prop where
 f:RowT w 99 3 S.f m.f.length (m.f.map ClauseI.cells).flatten
 k:KnowT w S.k1 S.k2 m.k
 held:RowT w 59 4 S.held m.held.length (m.held.map PairI.cells).flatten
 ents:RowT w 61 21 S.ents m.ents.length (m.ents.map EntI.cells).flatten
 not:RowT w 51 2 S.not m.not.length (m.not.map Ver.cells).flatten
theorem MsgT.at {w : World} {S : SlM} {m : MsgI} (h : MsgT w S m) : MsgAt w S m :=
  ⟨zaB (xs := m.f.map ClauseI.cells) (clause_coded.sizes _) (by rw [List.length_map]; exact h.f), h.k.at,
   zaB (xs := m.held.map PairI.cells) (pairI_coded.sizes _) (by rw [List.length_map]; exact h.held),
   zaB (xs := m.ents.map EntI.cells) (ent_coded.sizes _) (by rw [List.length_map]; exact h.ents),
   zaB (xs := m.not.map Ver.cells) (ver_coded.sizes _) (by rw [List.length_map]; exact h.not)⟩
def zgl (p:PairI):Prop:=zaM p.a∧zaM p.b
def zgm (p:PairI):Prop:=za9 p=true∧zgl p
def encP (p:PairI):List UInt8:=encL (bothF p)
theorem encP_eq (p:PairI):encP p=lebL p.a.by_.toNat++(lebL p.a.n.toNat++(lebL p.b.by_.toNat++lebL p.b.n.toNat)):=by
 unfold encP bothF encL;simp[FldI.enc,fN]
theorem zkH (w:World) (q:Nat) (s:ByteArray) (e:Int) (h:InAt w q s e) (hs:s.size≤1000000):Calls Tryz.prog 69 #[.pointer (some ⟨q,0,none⟩)] w (GotA (fun x=>.agg (pairA x)) zgl zgm encP w q s e):=by
 refine(zgu w q s e h hs).mono ?_;rintro en w' ⟨z1,z2,z3,z4,s',e',rfl,h1,h2,h3,h4,hk,hi,hz,hr⟩;refine⟨⟨⟨z1,z2⟩,⟨z3,z4⟩⟩,s',e',rfl,?_,hk,hi,hz,fun y rest hy a0 hsy=>?_⟩
 ·unfold zgl zaM in64;dsimp only;omega
 ·obtain⟨b1,b2⟩:=hy
  unfold za9 zO at b1;simp only[Bool.and_eq_true,decide_eq_true_eq] at b1;unfold zgl zaM in64 at b2;rw[encP_eq] at hsy;simp only[List.append_assoc] at hsy;obtain⟨c1,c2,c3,c4,c5,c6⟩:=hr _ _ _ _ _ a0 (by omega) (by omega) (by omega) (by omega) hsy;refine⟨?_,c5,c6⟩;obtain⟨⟨o1,o2⟩,⟨o3,o4⟩⟩:=y;dsimp only at *
  congr 2 <;> omega
theorem zdo (M M':MsgC) (i:Nat) (vs:List Value) (h15:i+vs.length≤15) (he:M'.head=M.head.take i++(vs++M.head.drop (i+vs.length))) (ht:intsV M'.V++(intsV M'.A++[M'.not.val,.int .i64 M'.code])=intsV M.V++(intsV M.A++[M.not.val,.int .i64 M.code])):(M.arr.toList.take i++(vs++M.arr.toList.drop (i+vs.length))).toArray=M'.arr:=by
 unfold MsgC.arr MsgC.list;rw[he,ht];have hl:=zbf M;rw[List.take_append_of_le_length (by rw[hl];omega),List.drop_append_of_le_length (by rw[hl];omega)];simp
theorem set_VV (M M':MsgC) (v:List Int) (hv:v.length=65) (hh:M'.head=M.head) (hV:M'.V=v) (hA:M'.A=M.A) (hn:M'.not=M.not) (hc:M'.code=M.code):(M.arr.toList.take 15++((vecV v).toList++M.arr.toList.drop (15+(vecV v).toList.length))).toArray=M'.arr:=by
 have hl:(vecV v).toList=intsV v:=by simp[vecV,intsV]
 have h1:(intsV v).length=65:=by rw[zU];exact hv
 have h2:(intsV M.V).length=65:=by rw[zU];exact M.hV
 unfold MsgC.arr MsgC.list;rw[hl,h1,hh,hV,hA,hn,hc];have hd:=zbf M;dsimp only;rw[List.take_left' hd,show 15+65=(M.head++intsV M.V).length by rw[List.length_append,hd,h2],←List.append_assoc M.head (intsV M.V),List.drop_left]
theorem set_AA (M M':MsgC) (v:List Int) (hv:v.length=65) (hh:M'.head=M.head) (hV:M'.V=M.V) (hA:M'.A=v) (hn:M'.not=M.not) (hc:M'.code=M.code):(M.arr.toList.take 80++((vecV v).toList++M.arr.toList.drop (80+(vecV v).toList.length))).toArray=M'.arr:=by
 have hl:(vecV v).toList=intsV v:=by simp[vecV,intsV]
 have h1:(intsV v).length=65:=by rw[zU];exact hv
 have h2:(intsV M.V).length=65:=by rw[zU];exact M.hV
 have h3:(intsV M.A).length=65:=by rw[zU];exact M.hA
 unfold MsgC.arr MsgC.list;rw[hl,h1,hh,hV,hA,hn,hc];have hd:(M.head++intsV M.V).length=80:=by rw[List.length_append,zbf M,h2]
 dsimp only;rw[←List.append_assoc M.head (intsV M.V),List.take_left' hd,show 80+65=((M.head++intsV M.V)++intsV M.A).length by rw[List.length_append,hd,h3],←List.append_assoc (M.head++intsV M.V) (intsV M.A),List.drop_left];simp
theorem set_NN (M M':MsgC) (v:Value) (hh:M'.head=M.head) (hV:M'.V=M.V) (hA:M'.A=M.A) (hn:M'.not.val=v) (hc:M'.code=M.code):(M.arr.toList.take 145++([v]++M.arr.toList.drop (145+[v].length))).toArray=M'.arr:=by
 have h2:(intsV M.V).length=65:=by rw[zU];exact M.hV
 have h3:(intsV M.A).length=65:=by rw[zU];exact M.hA
 unfold MsgC.arr MsgC.list;rw[hh,hV,hA,hn,hc];have hd:(M.head++intsV M.V++intsV M.A).length=145:=by rw[List.length_append,List.length_append,zbf M,h2,h3]
 have e:M.head++(intsV M.V++(intsV M.A++[M.not.val,.int .i64 M.code]))=(M.head++intsV M.V++intsV M.A)++[M.not.val,.int .i64 M.code]:=by simp
 dsimp only;rw[e,List.take_left' hd,show 145+[v].length=((M.head++intsV M.V++intsV M.A)++[M.not.val]).length by rw[List.length_append,hd];rfl,show(M.head++intsV M.V++intsV M.A)++[M.not.val,.int .i64 M.code]=((M.head++intsV M.V++intsV M.A)++[M.not.val])++[.int .i64 M.code] by simp,List.drop_left];simp
theorem set_CC (M M':MsgC) (v:Value) (hh:M'.head=M.head) (hV:M'.V=M.V) (hA:M'.A=M.A) (hn:M'.not=M.not) (hc:.int .i64 M'.code=v):(M.arr.toList.take 146++([v]++M.arr.toList.drop (146+[v].length))).toArray=M'.arr:=by
 have h2:(intsV M.V).length=65:=by rw[zU];exact M.hV
 have h3:(intsV M.A).length=65:=by rw[zU];exact M.hA
 unfold MsgC.arr MsgC.list;rw[hh,hV,hA,hn,hc];have hd:(M.head++intsV M.V++intsV M.A++[M.not.val]).length=146:=by rw[List.length_append,List.length_append,List.length_append,zbf M,h2,h3];rfl
 have e:∀ x:Value,M.head++(intsV M.V++(intsV M.A++[M.not.val,x]))=(M.head++intsV M.V++intsV M.A++[M.not.val])++[x]:=fun x=>by simp
 dsimp only;rw[e,e,List.take_left' hd,List.drop_of_length_le (by rw[List.length_append,hd];simp)];simp
theorem zd0 {s s2 s3:ByteArray} {e e2 e3:Int} {z y1 y2 y3:Nat} {m0:MsgI} (hok:MsgOk m0) (hl:layB m0=true) (a0:e=0) (hs0:s=zam m0) (R2:Read s e z s2 e2) (RY:zbK s2 e2 y1 y2 y3 s3 e3):(z:Int)=m0.kind∧(y1:Int)=m0.s1∧(y2:Int)=m0.s2∧(y3:Int)=m0.s3∧s3.data.toList=encL (zcg m0)∧e3=0∧m0=zT m0∧za8 m0=true:=by
 unfold layB at hl;rw[Bool.and_eq_true,Bool.and_eq_true] at hl;obtain⟨h1,h2,h3⟩:=hl;have h2:=of_decide_eq_true h2;unfold sidB at h1;simp only[Bool.and_eq_true,decide_eq_true_eq] at h1;have hk:0≤m0.kind:=by
  have h4:=h3;unfold za8 at h4;by_cases k1:m0.kind=1
  ·omega
  by_cases k2:m0.kind=2
  ·omega
  by_cases k3:m0.kind=3
  ·omega
  rw[if_neg k1,if_neg k2,if_neg k3] at h4;simp only[Bool.and_eq_true,decide_eq_true_eq] at h4;omega
 have b1:=hok.kind;have b2:=hok.s;unfold in64 at b1 b2;have hs:s.data.toList=lebL m0.kind.toNat++(lebL m0.s1.toNat++(lebL m0.s2.toNat++(lebL m0.s3.toNat++encL (zcg m0)))):=by
  rw[hs0]
  show encL (partsF m0)=_
  unfold partsF nameF encL;simp[FldI.enc,fN]
 obtain⟨c1,c2,c3⟩:=R2 _ _ a0 (by omega) hs;obtain⟨d1,d2,d3,d4,d5⟩:=RY _ _ _ _ c3 (by omega) (by omega) (by omega) c2;exact⟨by omega,by omega,by omega,by omega,d4,d5,h2,h3⟩
theorem zgF (b:Bool) {z:Nat} (h:z=(zay b).toNat):((z:Int)==1)=b:=by
 subst h;cases b <;> rfl
def zoG {α:Type} (good:α→Prop) (enc:α→List UInt8) (s:ByteArray) (e:Int) (l:List α) (s':ByteArray) (e':Int):Prop:=∀ (l0:List α) rest,(∀ x∈l0,good x)→l0.length≤256→e=0→s.data.toList=lebL l0.length++((l0.map enc).flatten++rest)→l=l0∧s'.data.toList=rest∧e'=0
theorem zij {α:Type} (f:α→List FldI) (l:List α):encL ((l.map f).flatten)=(l.map (fun x=>encL (f x))).flatten:=by
 induction l with
 | nil=>rfl
 | cons x l ih=>
  rw[List.map_cons,List.flatten_cons,List.map_cons,List.flatten_cons,←ih];unfold encL;rw[List.map_append,List.flatten_append]
theorem zcV (a b:List FldI):encL (a++b)=encL a++encL b:=by
 unfold encL;rw[List.map_append,List.flatten_append]
theorem back1 {s s2 s3 s4 s5 s6 s7 t1 t2:ByteArray} {e e2 e3 e4 e5 e6 e7:Int} {z y1 y2 y3 z1:Nat} {zf:Int} {lf:List ClauseI} {lk:KnowI} {lh:List PairI} {m0:MsgI} (hok:MsgOk m0) (hl:layB m0=true) (hg:KnowG m0.k) (a0:e=0) (hs0:s=zam m0) (R2:Read s e z s2 e2) (RY:zbK s2 e2 y1 y2 y3 s3 e3) (R3:Read s3 e3 z1 s4 e4) (R4:zcy s4 e4 t1 s5 e5) (R5:zcy s5 e5 t2 s6 e6) (R6:zoG zgm encP s6 e6 lh s7 e7) (BF:∀ f,zQ f=true→t1=zi clB f→zf=0∧lf=f) (BK:∀ k0,KnowG k0→mayB k0=true→t2=zad k0→lk=k0) (H:z=1) :
  (⟨z,y1,y2,y3,0,0,0,((z1:Int)==1),lf,lk,lh,0,false,[],vec0,vec0,[],0,zj,zj⟩:MsgI)=m0:=by
 obtain⟨h1,h2,h3,h4,h5,h6,h7,h8⟩:=zd0 hok hl a0 hs0 R2 RY;have hk:m0.kind=1:=by omega
 unfold za8 at h8;rw[if_pos hk] at h8;unfold reqB at h8;simp only[Bool.and_eq_true,decide_eq_true_eq] at h8;obtain⟨b1,b2,b3,b4⟩:=h8;unfold zcg at h5;rw[if_pos hk] at h5;unfold reqP zdR at h5;rw[zcV] at h5;have e1:encL ((fN m0.held.length)::(m0.held.map bothF).flatten)=lebL m0.held.length++((m0.held.map encP).flatten++[]):=by
  rw[zal,zij,List.append_nil];rfl
 rw[e1] at h5;have e2:encL [fN (zay m0.up),fT (zi clB m0.f),fT (zad m0.k)]=lebL (zay m0.up).toNat++(lebL (zi clB m0.f).size++((zi clB m0.f).data.toList++(lebL (zad m0.k).size++(zad m0.k).data.toList))):=by
  unfold encL;simp[FldI.enc,fN,fT]
 rw[e2] at h5;simp only[List.append_assoc] at h5;obtain⟨c1,c2,c3⟩:=R3 _ _ h6 (by cases m0.up <;> decide) h5;obtain⟨d1,d2,d3⟩:=R4 _ _ c3 c2;obtain⟨f1,f2,f3⟩:=R5 _ _ d3 d2;obtain⟨g1,g2,g3⟩:=R6 m0.held _ (fun x hx=>⟨zff b4 x hx,hok.heldV x hx⟩) b1 f3 f2;have k1:=(BF m0.f b2 d1).2;have k2:=BK m0.k hg (zaR.1 b3).1 f1;have k3:=zgF m0.up c1;rw[zeq];have o1:=congrArg MsgI.r1 h7;have o2:=congrArg MsgI.r2 h7;have o3:=congrArg MsgI.r3 h7;have o4:=congrArg MsgI.seq h7;have o5:=congrArg MsgI.last h7;have o6:=congrArg MsgI.ents h7;have o7:=congrArg MsgI.V h7;have o8:=congrArg MsgI.A h7;have o9:=congrArg MsgI.not h7
 have o10:=congrArg MsgI.code h7;simp[zT,hk] at o1 o2 o3 o4 o5 o6 o7 o8 o9 o10;exact⟨⟨h1,⟨h2,h3,h4⟩,⟨o1.symm,o2.symm,o3.symm⟩,k3,o4.symm,o5.symm,o10.symm⟩,⟨k1,k2,g1,o6.symm,o9.symm⟩,o7.symm,o8.symm⟩
theorem back2 {s s2 s3 s4 s5 s6 s7 s8 s9 s10 t1 t2 t3:ByteArray} {e e2 e3 e4 e5 e6 e7 e8 e9 e10:Int} {z y1 y2 y3 a b c z1 z2:Nat} {le:List EntI} {vV vA:List Int} {ln:List Ver} {hV:vV.length=65} {hA:vA.length=65} {m0:MsgI} (hok:MsgOk m0) (hl:layB m0=true) (a0:e=0) (hs0:s=zam m0) (R2:Read s e z s2 e2) (RY:zbK s2 e2 y1 y2 y3 s3 e3) (R3:zbK s3 e3 a b c s4 e4) (R4:Read s4 e4 z1 s5 e5) (R5:Read s5 e5 z2 s6 e6) (R6:zoG (fun x=>EntOk x∧zS x=true) (fun x=>encL (entF x)) s6 e6 le s7 e7) (R7:zcy s7 e7 t1 s8 e8) (R8:zcy s8 e8 t2 s9 e9) (R9:zcy s9 e9 t3 s10 e10) (BV:∀ u:List Int,u.length=65→zaQ u→u=cleanL u→t1=zi verB (endsL u)→vV=u) (BA:∀ u:List Int,u.length=65→zaQ u→u=cleanL u→t2=zi verB (endsL u)→vA=u) (BN:∀ f:List Ver,(∀ c∈f,zaM c)→f.length≤90000→itemsB f=true→t3=zi verB f→ln=f) (H:z=2) :
  (⟨z,y1,y2,y3,a,b,c,false,[],⟨[],[]⟩,[],z1,((z2:Int)==1),le,vV,vA,ln,0,hV,hA⟩:MsgI)=m0:=by
 obtain⟨h1,h2,h3,h4,h5,h6,h7,h8⟩:=zd0 hok hl a0 hs0 R2 RY;have hk:m0.kind=2:=by omega
 unfold za8 at h8;rw[if_neg (by omega),if_pos hk] at h8;unfold batB zby sidB at h8;simp only[Bool.and_eq_true,decide_eq_true_eq] at h8;obtain⟨⟨⟨l0,l1,l2,l3⟩,l4,l5,l6⟩,b2,b3,b4,b5⟩:=h8;unfold zcg at h5;rw[if_neg (by omega),if_pos hk] at h5;unfold batP nameF at h5;rw[zcV,zcV,zal (fN m0.ents.length),zij] at h5;have e1:encL ([fN m0.r1,fN m0.r2,fN m0.r3]++[fN m0.seq,fN (zay m0.last)])=lebL m0.r1.toNat++(lebL m0.r2.toNat++(lebL m0.r3.toNat++(lebL m0.seq.toNat++lebL (zay m0.last).toNat))):=by
  unfold encL;simp[FldI.enc,fN]
 have e2:(fN m0.ents.length).enc=lebL m0.ents.length:=rfl;have e3:encL [fT (zi verB (endsL m0.V)),fT (zi verB (endsL m0.A)),fT (zi verB m0.not)]=lebL (zi verB (endsL m0.V)).size++((zi verB (endsL m0.V)).data.toList++(lebL (zi verB (endsL m0.A)).size++((zi verB (endsL m0.A)).data.toList++(lebL (zi verB m0.not).size++((zi verB m0.not).data.toList++[]))))):=by
  unfold encL;simp[FldI.enc,fT]
 rw[e1,e2,e3] at h5;simp only[List.append_assoc] at h5;have w1:=hok.r;have w2:=hok.seq;unfold in64 at w1 w2;obtain⟨c1,c2,c3,c4,c5⟩:=R3 _ _ _ _ h6 (by omega) (by omega) (by omega) h5;obtain⟨d1,d2,d3⟩:=R4 _ _ c5 (by omega) c4;obtain⟨f1,f2,f3⟩:=R5 _ _ d3 (by cases m0.last <;> decide) d2;rw[List.all_eq_true] at b2;obtain⟨g1,g2,g3⟩:=R6 m0.ents _ (fun x hx=>⟨hok.ents x hx,b2 x hx⟩) l6 f3 f2;obtain⟨j1,j2,j3⟩:=R7 _ _ g3 g2;obtain⟨p1,p2,p3⟩:=R8 _ _ j3 j2;obtain⟨q1,q2,q3⟩:=R9 _ _ p3 p2;have k1:=BV m0.V m0.hV hok.V b3 j1;have k2:=BA m0.A m0.hA hok.A b4 p1;have k3:=BN m0.not hok.not hok.notl (zaR.1 b5).1 q1;have k4:=zgF m0.last f1
 rw[zeq];have o1:=congrArg MsgI.up h7;have o2:=congrArg MsgI.f h7;have o3:=congrArg MsgI.k h7;have o4:=congrArg MsgI.held h7;have o10:=congrArg MsgI.code h7;simp[zT,hk] at o1 o2 o3 o4 o10;dsimp only;exact⟨⟨h1,⟨h2,h3,h4⟩,⟨by omega,by omega,by omega⟩,o1.symm,by omega,k4,o10.symm⟩,⟨o2.symm,o3.symm,o4.symm,g1,k3⟩,k1,k2⟩
theorem back3 {s s2 s3 s4:ByteArray} {e e2 e3 e4:Int} {z y1 y2 y3 a b c:Nat} {m0:MsgI} (hok:MsgOk m0) (hl:layB m0=true) (a0:e=0) (hs0:s=zam m0) (R2:Read s e z s2 e2) (RY:zbK s2 e2 y1 y2 y3 s3 e3) (R3:zbK s3 e3 a b c s4 e4) (H:z=3) :
  (⟨z,y1,y2,y3,a,b,c,false,[],⟨[],[]⟩,[],0,false,[],vec0,vec0,[],0,zj,zj⟩:MsgI)=m0:=by
 obtain⟨h1,h2,h3,h4,h5,h6,h7,h8⟩:=zd0 hok hl a0 hs0 R2 RY;have hk:m0.kind=3:=by omega
 unfold za8 at h8;rw[if_neg (by omega),if_neg (by omega),if_pos hk] at h8;unfold sidB at h8;simp only[Bool.and_eq_true,decide_eq_true_eq] at h8;unfold zcg at h5;rw[if_neg (by omega),if_neg (by omega),if_pos hk] at h5;have e1:encL (nameF m0.r1 m0.r2 m0.r3)=lebL m0.r1.toNat++(lebL m0.r2.toNat++(lebL m0.r3.toNat++[])):=by
  unfold encL nameF;simp[FldI.enc,fN]
 rw[e1] at h5;have w1:=hok.r;unfold in64 at w1;obtain⟨c1,c2,c3,c4,c5⟩:=R3 _ _ _ _ h6 (by omega) (by omega) (by omega) h5;rw[zeq];have o0:=congrArg MsgI.up h7;have o1:=congrArg MsgI.f h7;have o2:=congrArg MsgI.k h7;have o3:=congrArg MsgI.held h7;have o4:=congrArg MsgI.seq h7;have o5:=congrArg MsgI.last h7;have o6:=congrArg MsgI.ents h7;have o7:=congrArg MsgI.V h7;have o8:=congrArg MsgI.A h7;have o9:=congrArg MsgI.not h7;have o10:=congrArg MsgI.code h7;simp[zT,hk] at o0 o1 o2 o3 o4 o5 o6 o7 o8 o9 o10;dsimp only
 exact⟨⟨h1,⟨h2,h3,h4⟩,⟨by omega,by omega,by omega⟩,o0.symm,o4.symm,o5.symm,o10.symm⟩,⟨o1.symm,o2.symm,o3.symm,o6.symm,o9.symm⟩,o7.symm,o8.symm⟩
theorem back4 {s s2 s3 s4:ByteArray} {e e2 e3 e4:Int} {z y1 y2 y3 z1:Nat} {m0:MsgI} (hok:MsgOk m0) (hl:layB m0=true) (a0:e=0) (hs0:s=zam m0) (R2:Read s e z s2 e2) (RY:zbK s2 e2 y1 y2 y3 s3 e3) (R3:Read s3 e3 z1 s4 e4) (H:z=4) :
  (⟨z,y1,y2,y3,0,0,0,false,[],⟨[],[]⟩,[],0,false,[],vec0,vec0,[],z1,zj,zj⟩:MsgI)=m0:=by
 obtain⟨h1,h2,h3,h4,h5,h6,h7,h8⟩:=zd0 hok hl a0 hs0 R2 RY;have hk:m0.kind=4:=by omega
 unfold za8 at h8;rw[if_neg (by omega),if_neg (by omega),if_neg (by omega)] at h8;simp only[Bool.and_eq_true,decide_eq_true_eq] at h8;unfold zcg at h5;rw[if_neg (by omega),if_neg (by omega),if_neg (by omega)] at h5;have e1:encL [fN m0.code]=lebL m0.code.toNat++[]:=by
  unfold encL;simp[FldI.enc,fN]
 rw[e1] at h5;obtain⟨c1,c2,c3⟩:=R3 _ _ h6 (by omega) h5;rw[zeq];have o11:=congrArg MsgI.r1 h7;have o12:=congrArg MsgI.r2 h7;have o13:=congrArg MsgI.r3 h7;have o0:=congrArg MsgI.up h7;have o1:=congrArg MsgI.f h7;have o2:=congrArg MsgI.k h7;have o3:=congrArg MsgI.held h7;have o4:=congrArg MsgI.seq h7;have o5:=congrArg MsgI.last h7;have o6:=congrArg MsgI.ents h7;have o7:=congrArg MsgI.V h7;have o8:=congrArg MsgI.A h7;have o9:=congrArg MsgI.not h7;simp[zT,hk] at o0 o1 o2 o3 o4 o5 o6 o7 o8 o9 o11 o12 o13;dsimp only
 exact⟨⟨h1,⟨h2,h3,h4⟩,⟨o11.symm,o12.symm,o13.symm⟩,o0.symm,o4.symm,o5.symm,by omega⟩,⟨o1.symm,o2.symm,o3.symm,o6.symm,o9.symm⟩,o7.symm,o8.symm⟩
theorem back0 {s s2:ByteArray} {e e2:Int} {z:Nat} {m0:MsgI} (hok:MsgOk m0) (hl:layB m0=true) (a0:e=0) (hs0:s=zam m0) (R2:Read s e z s2 e2) (H:¬ z=1∧¬ z=2∧¬ z=3∧¬ z=4):False:=by
 unfold layB at hl;rw[Bool.and_eq_true,Bool.and_eq_true] at hl;obtain⟨h1,h2,h3⟩:=hl;have b1:=hok.kind;unfold in64 at b1;have hs:s.data.toList=lebL m0.kind.toNat++encL (nameF m0.s1 m0.s2 m0.s3++zcg m0):=by
  rw[hs0]
  show encL (partsF m0)=_
  unfold partsF;rw[List.cons_append,zal];rfl
 obtain⟨c1,c2,c3⟩:=R2 _ _ a0 (by omega) hs;unfold za8 at h3;by_cases k1:m0.kind=1
 ·omega
 by_cases k2:m0.kind=2
 ·omega
 by_cases k3:m0.kind=3
 ·omega
 rw[if_neg k1,if_neg k2,if_neg k3] at h3;simp only[Bool.and_eq_true,decide_eq_true_eq] at h3;omega
theorem zac {z:Nat} (h:z<9223372036854775808):in64 (z:Int):=by unfold in64;omega
theorem zhh:∀ c∈([]:List ClauseI),c.pre.size≤90000:=fun c h=>by cases h
theorem zgs:KnowOk ⟨[],[]⟩:=⟨fun x h=>(by cases h),fun x h=>(by cases h),fun x h=>(by cases h)⟩
theorem zhi:∀ e∈([]:List EntI),EntOk e:=fun c h=>by cases h
theorem zhf:∀ c∈([]:List Ver),zaM c:=fun c h=>by cases h
theorem zhg:∀ p∈([]:List PairI),zaM p.a∧zaM p.b:=fun c h=>by cases h
theorem zbo:zaQ vec0:=fun z hz=>by
 unfold vec0 at hz;rw[List.mem_replicate] at hz;rw[hz.2];unfold in64;decide
theorem zbd:in64 0:=by unfold in64;decide
theorem zix:in64 0∧in64 0∧in64 0:=⟨zbd,zbd,zbd⟩
theorem zcm:KnowG ⟨[],[]⟩:=⟨zgs,fun x h=>by cases h⟩
end
section
open Go.RowKit
def catB {α:Type} (f:α→ByteArray) (l:List α):ByteArray:=⟨((l.map (fun x=>(f x).data.toList)).flatten).toArray⟩
theorem zjO {α:Type} (f:α→ByteArray):catB f []=⟨#[]⟩:=rfl
theorem zhH {α:Type} (f:α→ByteArray) {l:List α} {k:Nat} (h:k<l.length):catB f (l.take (k+1))=catB f (l.take k)++f l[k]:=by
 unfold catB;apply ByteArray.ext;apply Array.ext';rw[List.take_succ_eq_append_getElem h,List.map_append,List.flatten_append];simp only[ByteArray.data_append,Array.toList_append];simp
theorem zcL {α:Type} (f:α→ByteArray) (B:Nat):∀ (l:List α),(∀ x∈l,(f x).size≤B)→(catB f l).size≤B*l.length
 | [],_=>Nat.zero_le _
 | x::l,h=>by
  have h1:=h x (by simp);have h2:=zcL f B l (fun y hy=>h y (by simp[hy]));have e:(catB f (x::l)).size=(f x).size+(catB f l).size:=by
   show(((x::l).map (fun x=>(f x).data.toList)).flatten).toArray.size=_
   rw[List.size_toArray,List.map_cons,List.flatten_cons,List.length_append]
   show _=_+((l.map (fun x=>(f x).data.toList)).flatten).toArray.size
   rw[List.size_toArray,Array.length_toList];rfl
  rw[e,List.length_cons,Nat.mul_succ];omega
def zbL (p:PairI):ByteArray:=verB p.a++verB p.b
def headD (m:MsgI):ByteArray:=numB m.kind++sidD m.s1 m.s2 m.s3
def bitD (b:Bool):ByteArray:=if b then⟨#[1]⟩ else⟨#[0]⟩
def reqD (m:MsgI):ByteArray:=(((headD m++bitD m.up)++zK (zi clB m.f))++zK (zad m.k))++numB m.held.length
def batD (m:MsgI):ByteArray:=(((headD m++sidD m.r1 m.r2 m.r3)++numB m.seq)++bitD m.last)++numB m.ents.length
def batE (m:MsgI) (s:ByteArray):ByteArray:=((s++zK (zi verB (endsL m.V)))++zK (zi verB (endsL m.A)))++zK (zi verB m.not)
theorem zhL (b:Bool):(bitD b).data.toList=lebL (zay b).toNat:=by
 cases b <;> (unfold bitD zay;rw[zaL (by decide)];rfl)
theorem ze5 {a b c:Int} (h:sidB a b c=true):(sidD a b c).data.toList=lebL a.toNat++(lebL b.toNat++lebL c.toNat):=by
 unfold sidB at h;simp only[Bool.and_eq_true,decide_eq_true_eq] at h;unfold sidD;simp only[ByteArray.data_append,Array.toList_append,zF (show 0≤a by omega),zF (show 0≤b by omega),zF (show 0≤c by omega),List.append_assoc]
theorem zdu {m:MsgI} (h:layB m=true):(headD m).data.toList=encL (fN m.kind::nameF m.s1 m.s2 m.s3):=by
 have h0:=h;unfold layB at h;rw[Bool.and_eq_true,Bool.and_eq_true] at h;obtain⟨h1,h2,h3⟩:=h;have hk:0≤m.kind:=by
  unfold za8 at h3;by_cases k1:m.kind=1
  ·omega
  by_cases k2:m.kind=2
  ·omega
  by_cases k3:m.kind=3
  ·omega
  rw[if_neg k1,if_neg k2,if_neg k3] at h3;simp only[Bool.and_eq_true,decide_eq_true_eq] at h3;omega
 unfold headD;simp only[ByteArray.data_append,Array.toList_append,zF hk,ze5 h1];unfold encL nameF;simp[FldI.enc,fN]
theorem zcx {m:MsgI} (h:layB m=true):za8 m=true:=by
 unfold layB at h;rw[Bool.and_eq_true,Bool.and_eq_true] at h;exact h.2.2
theorem zd9 (m:MsgI):(zam m).data.toList=encL (fN m.kind::nameF m.s1 m.s2 m.s3)++encL (zcg m):=by
 show encL (partsF m)=_
 unfold partsF;rw[zcV]
theorem zez {a b:ByteArray} (h:a.data.toList=b.data.toList):a=b:=ByteArray.ext (Array.ext' h)
theorem zk1 {m:MsgI} (h:layB m=true) (hk:m.kind=3):headD m++sidD m.r1 m.r2 m.r3=zam m:=by
 have h3:=zcx h;unfold za8 at h3;rw[if_neg (by omega),if_neg (by omega),if_pos hk] at h3;apply zez;rw[zd9,ByteArray.data_append,Array.toList_append,zdu h,ze5 h3];unfold zcg;rw[if_neg (by omega),if_neg (by omega),if_pos hk];unfold encL nameF;simp[FldI.enc,fN]
theorem zot {m:MsgI} (h:layB m=true) (h1:m.kind≠1) (h2:m.kind≠2) (h4:m.kind≠3):headD m++numB m.code=zam m:=by
 have h3:=zcx h;unfold za8 at h3;rw[if_neg h1,if_neg h2,if_neg h4] at h3;simp only[Bool.and_eq_true,decide_eq_true_eq] at h3;apply zez;rw[zd9,ByteArray.data_append,Array.toList_append,zdu h,zF (by omega)];unfold zcg;rw[if_neg h1,if_neg h2,if_neg h4];unfold encL;simp[FldI.enc,fN]
theorem zhI {α:Type} (f:α→ByteArray) (g:α→List FldI) (l:List α) (h:∀ x∈l,(f x).data.toList=encL (g x)):(catB f l).data.toList=encL ((l.map g).flatten):=by
 rw[zij]
 show(l.map (fun x=>(f x).data.toList)).flatten=_
 congr 1
 exact List.map_congr_left h
theorem zov {m:MsgI} (h:layB m=true) (hk:m.kind=1):reqD m++catB zbL m.held=zam m:=by
 have h3:=zcx h;unfold za8 at h3;rw[if_pos hk] at h3;unfold reqB at h3;simp only[Bool.and_eq_true,decide_eq_true_eq] at h3;have hp:=zff h3.2.2.2;apply zez;rw[zd9];unfold reqD;simp only[ByteArray.data_append,Array.toList_append,zdu h,zhL,zaa,zF (show(0:Int)≤m.held.length by omega),List.append_assoc];rw[zhI zbL bothF m.held (fun p hpm=>by
  have hq:=hp p hpm;unfold za9 zO at hq;simp only[Bool.and_eq_true,decide_eq_true_eq] at hq;unfold zbL verB bothF encL;simp only[ByteArray.data_append,Array.toList_append,zF (show 0≤p.a.by_ by omega),zF (show 0≤p.a.n by omega),zF (show 0≤p.b.by_ by omega),zF (show 0≤p.b.n by omega)];simp[FldI.enc,fN])]
 unfold zcg;rw[if_pos hk];unfold reqP zdR;rw[zcV,zal (fN m.held.length)];have e2:encL [fN (zay m.up),fT (zi clB m.f),fT (zad m.k)]=lebL (zay m.up).toNat++(lebL (zi clB m.f).size++((zi clB m.f).data.toList++(lebL (zad m.k).size++(zad m.k).data.toList))):=by
  unfold encL;simp[FldI.enc,fN,fT]
 have e3:(fN m.held.length).enc=lebL ((m.held.length:Int)).toNat:=rfl;rw[e2,e3];simp only[List.append_assoc]
theorem zou {m:MsgI} (h:layB m=true) (hk:m.kind=2):batE m (batD m++catB entB m.ents)=zam m:=by
 have h3:=zcx h;unfold za8 at h3;rw[if_neg (by omega),if_pos hk] at h3;unfold batB zby at h3;simp only[Bool.and_eq_true,decide_eq_true_eq] at h3;obtain⟨⟨l0,l1,l2,l3⟩,_⟩:=h3;apply zez;rw[zd9];unfold batE batD;simp only[ByteArray.data_append,Array.toList_append,zdu h,zhL,ze5 l0,zaa,zF l1,zF (show(0:Int)≤m.ents.length by omega),List.append_assoc];rw[zhI entB entF m.ents (fun e _=>rfl)];unfold zcg;rw[if_neg (by omega),if_pos hk];unfold batP nameF;rw[zcV,zcV,zal (fN m.ents.length)]
 have e1:encL ([fN m.r1,fN m.r2,fN m.r3]++[fN m.seq,fN (zay m.last)])=lebL m.r1.toNat++(lebL m.r2.toNat++(lebL m.r3.toNat++(lebL m.seq.toNat++lebL (zay m.last).toNat))):=by
  unfold encL;simp[FldI.enc,fN]
 have e2:(fN m.ents.length).enc=lebL ((m.ents.length:Int)).toNat:=rfl;have e3:encL [fT (zi verB (endsL m.V)),fT (zi verB (endsL m.A)),fT (zi verB m.not)]=lebL (zi verB (endsL m.V)).size++((zi verB (endsL m.V)).data.toList++(lebL (zi verB (endsL m.A)).size++((zi verB (endsL m.A)).data.toList++(lebL (zi verB m.not).size++(zi verB m.not).data.toList)))):=by
  unfold encL;simp[FldI.enc,fT]
 rw[e1,e2,e3];simp only[List.append_assoc]
end
section
open Go.RowKit
theorem zbq {a b c:Int} (h1:in64 a) (h2:in64 b) (h3:in64 c):(sidD a b c).size≤27:=by
 unfold sidD;rw[ByteArray.size_append,ByteArray.size_append];have:=zag h1.2;have:=zag h2.2;have:=zag h3.2;omega
attribute [-simp] Tryz.isAgg36 Tryz.sizeOf36 Tryz.isAgg33 Tryz.sizeOf33
theorem body3_c (w:World) (S:SlM) (a:MsgI) (ha:MsgAt w S a) (hok:MsgOk a) (hl:layB a=true) (ek:a.kind=3):Calls Tryz.prog 35 #[.agg (a.at S).arr] w (Ret (.string (zam a)) w):=by
 have d1:(a.kind==1)=false:=by rw[ek];decide
 have d2:(a.kind==2)=false:=by rw[ek];decide
 have d3:(a.kind==3)=true:=by rw[ek];decide
 have d4:(a.kind==4)=false:=by rw[ek];decide
 have HNk:=fun W=>hid (zX W a.kind hok.kind.1 hok.kind.2);have HSs:=fun W=>hid (zdL W a.s1 a.s2 a.s3 hok.s.1 hok.s.2.1 hok.s.2.2);have HSr:=fun W=>hid (zdL W a.r1 a.r2 a.r3 hok.r.1 hok.r.2.1 hok.r.2.2);have HNc:=fun W=>hid (zX W a.code hok.code.1 hok.code.2);have zk:=zag hok.kind.2;have zc:=zag hok.code.2;have zs:=zbq hok.s.1 hok.s.2.1 hok.s.2.2;have zr:=zbq hok.r.1 hok.r.2.1 hok.r.2.2;have HA:=hid (zW (a.at S));have HAE:=hid (zah (a.at S));have hb:=zk1 hl ek;generalize (a.at S).arr=ar at HA HAE  ⊢;have HBa:=hid (Blk.new w 36 ar);have HX:=hid (Ext.alloc w (.cells ar 36))
 have a0:ar[0]? = some (.int .i64 a.kind):=HA.out 0 (by omega);have a1:ar[1]? = some (.int .i64 a.s1):=HA.out 1 (by omega);have a2:ar[2]? = some (.int .i64 a.s2):=HA.out 2 (by omega);have a3:ar[3]? = some (.int .i64 a.s3):=HA.out 3 (by omega);have a4:ar[4]? = some (.int .i64 a.r1):=HA.out 4 (by omega);have a5:ar[5]? = some (.int .i64 a.r2):=HA.out 5 (by omega);have a6:ar[6]? = some (.int .i64 a.r3):=HA.out 6 (by omega);have a146:ar[146]? = some (.int .i64 a.code):=HAE.out 1;have la:=HBa.out.lt;have c0:=HBa.out.cell a0;have c1:=HBa.out.cell a1;have c2:=HBa.out.cell a2;have c3:=HBa.out.cell a3;unfold sidV at HSs HSr;clear HA HAE ek ha hok hl
 unfold headD at hb;rw[←hb];clear hb;generalize sidD a.s1 a.s2 a.s3=ds at HSs zs⊢;generalize sidD a.r1 a.r2 a.r3=dr at HSr zr⊢;generalize numB a.kind=dk at HNk zk⊢;generalize numB a.code=dc at HNc zc⊢;go_enter Tryz.func35,Tryz.ntmps35;go_wp2_with fail
 generalize w.alloc (.cells ar 36)=w1 at HBa HX c0 c1 c2 c3 la⊢;refine zd (by kernel_rfl) (by kernel_rfl) (by kernel_rfl) ?_
 repeat (first
  | (refine AWq.val rfl rfl rfl rfl (fun K hK=>?_);go_big_quiet_op;refine hK _ ?_;clear hK K)
  | (refine AWq.skip rfl rfl rfl ?_;simp only[Act.put,zq6,zq7,zq8])
  | (refine AWq.call rfl Tryz.func46 (by kernel_rfl) (by kernel_rfl) rfl rfl rfl ?_;apply Exists.intro;refine And.intro (fun wc hc=>?_) ?_;(· (simp only[zo,zu,↓reduceIte,Nat.reduceEqDiff,zq1,zq2,zq3,zq4,zq5];with_reducible exact(HNk _).out));simp only[Act.put,zq6,zq7,zq8])
  | (refine AWq.call rfl Tryz.func78 (by kernel_rfl) (by kernel_rfl) rfl rfl rfl ?_;apply Exists.intro;refine And.intro (fun wc hc=>?_) ?_;(· (simp only[zo,zu,↓reduceIte,Nat.reduceEqDiff,zq1,zq2,zq3,zq4,zq5];with_reducible exact(HSs _).out));simp only[Act.put,zq6,zq7,zq8]))
 refine AWq.done rfl rfl rfl (fun w2 x2=>?_);simp only[zt,Act.put,zq6,zq7,zq8]
 all_goals intros
 have HX2:=hid (HX.out.trans x2);have HB2:=hid (HBa.out.ext x2);clear x2 HX HBa c0 c1 c2 c3 la HNk HSs;have c0:=HB2.out.cell a0;have la:=HB2.out.lt;have c4:=HB2.out.cell a4;have c5:=HB2.out.cell a5;have c6:=HB2.out.cell a6;go_wp2_with fail
 refine((HSr _).out).mono ?_;rintro en w3 ⟨rfl,x3⟩;have HX3:=hid (HX2.out.trans x3);clear x3;go_wp2_with fail
 go_ret;exact⟨rfl,HX3.out⟩
theorem body4_c (w:World) (S:SlM) (a:MsgI) (ha:MsgAt w S a) (hok:MsgOk a) (hl:layB a=true) (ek:a.kind=4):Calls Tryz.prog 35 #[.agg (a.at S).arr] w (Ret (.string (zam a)) w):=by
 have d1:(a.kind==1)=false:=by rw[ek];decide
 have d2:(a.kind==2)=false:=by rw[ek];decide
 have d3:(a.kind==3)=false:=by rw[ek];decide
 have d4:(a.kind==4)=true:=by rw[ek];decide
 have HNk:=fun W=>hid (zX W a.kind hok.kind.1 hok.kind.2);have HSs:=fun W=>hid (zdL W a.s1 a.s2 a.s3 hok.s.1 hok.s.2.1 hok.s.2.2);have HSr:=fun W=>hid (zdL W a.r1 a.r2 a.r3 hok.r.1 hok.r.2.1 hok.r.2.2);have HNc:=fun W=>hid (zX W a.code hok.code.1 hok.code.2);have zk:=zag hok.kind.2;have zc:=zag hok.code.2;have zs:=zbq hok.s.1 hok.s.2.1 hok.s.2.2;have zr:=zbq hok.r.1 hok.r.2.1 hok.r.2.2;have HA:=hid (zW (a.at S));have HAE:=hid (zah (a.at S));have hb:=zot hl (by omega) (by omega) (by omega);generalize (a.at S).arr=ar at HA HAE  ⊢;have HBa:=hid (Blk.new w 36 ar);have HX:=hid (Ext.alloc w (.cells ar 36))
 have a0:ar[0]? = some (.int .i64 a.kind):=HA.out 0 (by omega);have a1:ar[1]? = some (.int .i64 a.s1):=HA.out 1 (by omega);have a2:ar[2]? = some (.int .i64 a.s2):=HA.out 2 (by omega);have a3:ar[3]? = some (.int .i64 a.s3):=HA.out 3 (by omega);have a4:ar[4]? = some (.int .i64 a.r1):=HA.out 4 (by omega);have a5:ar[5]? = some (.int .i64 a.r2):=HA.out 5 (by omega);have a6:ar[6]? = some (.int .i64 a.r3):=HA.out 6 (by omega);have a146:ar[146]? = some (.int .i64 a.code):=HAE.out 1;have la:=HBa.out.lt;have c0:=HBa.out.cell a0;have c1:=HBa.out.cell a1;have c2:=HBa.out.cell a2;have c3:=HBa.out.cell a3;unfold sidV at HSs HSr;clear HA HAE ek ha hok hl
 unfold headD at hb;rw[←hb];clear hb;generalize sidD a.s1 a.s2 a.s3=ds at HSs zs⊢;generalize sidD a.r1 a.r2 a.r3=dr at HSr zr⊢;generalize numB a.kind=dk at HNk zk⊢;generalize numB a.code=dc at HNc zc⊢;go_enter Tryz.func35,Tryz.ntmps35;go_wp2_with fail
 generalize w.alloc (.cells ar 36)=w1 at HBa HX c0 c1 c2 c3 la⊢;refine zd (by kernel_rfl) (by kernel_rfl) (by kernel_rfl) ?_
 repeat (first
  | (refine AWq.val rfl rfl rfl rfl (fun K hK=>?_);go_big_quiet_op;refine hK _ ?_;clear hK K)
  | (refine AWq.skip rfl rfl rfl ?_;simp only[Act.put,zq6,zq7,zq8])
  | (refine AWq.call rfl Tryz.func46 (by kernel_rfl) (by kernel_rfl) rfl rfl rfl ?_;apply Exists.intro;refine And.intro (fun wc hc=>?_) ?_;(· (simp only[zo,zu,↓reduceIte,Nat.reduceEqDiff,zq1,zq2,zq3,zq4,zq5];with_reducible exact(HNk _).out));simp only[Act.put,zq6,zq7,zq8])
  | (refine AWq.call rfl Tryz.func78 (by kernel_rfl) (by kernel_rfl) rfl rfl rfl ?_;apply Exists.intro;refine And.intro (fun wc hc=>?_) ?_;(· (simp only[zo,zu,↓reduceIte,Nat.reduceEqDiff,zq1,zq2,zq3,zq4,zq5];with_reducible exact(HSs _).out));simp only[Act.put,zq6,zq7,zq8]))
 refine AWq.done rfl rfl rfl (fun w2 x2=>?_);simp only[zt,Act.put,zq6,zq7,zq8]
 all_goals intros
 have HX2:=hid (HX.out.trans x2);have HB2:=hid (HBa.out.ext x2);clear x2 HX HBa c0 c1 c2 c3 la HNk HSs;have c0:=HB2.out.cell a0;have la:=HB2.out.lt;have c146:=HB2.out.cell a146;go_wp2_with fail
 refine((HNc _).out).mono ?_;rintro en w3 ⟨rfl,x3⟩;have HX3:=hid (HX2.out.trans x3);clear x3;go_wp2_with fail
 go_ret;exact⟨rfl,HX3.out⟩
end
section
open Go.RowKit
attribute [-simp] Tryz.isAgg36 Tryz.sizeOf36 Tryz.isAgg33 Tryz.sizeOf33
theorem body1_c (w:World) (S:SlM) (a:MsgI) (ha:MsgAt w S a) (hok:MsgOk a) (hl:layB a=true) (ek:a.kind=1):Calls Tryz.prog 35 #[.agg (a.at S).arr] w (Ret (.string (zam a)) w):=by
 have d1:(a.kind==1)=true:=by rw[ek];decide
 have d2:(a.kind==2)=false:=by rw[ek];decide
 have d3:(a.kind==3)=false:=by rw[ek];decide
 have d4:(a.kind==4)=false:=by rw[ek];decide
 have HNk:=fun W=>hid (zX W a.kind hok.kind.1 hok.kind.2);have HSs:=fun W=>hid (zdL W a.s1 a.s2 a.s3 hok.s.1 hok.s.2.1 hok.s.2.2);have HSr:=fun W=>hid (zdL W a.r1 a.r2 a.r3 hok.r.1 hok.r.2.1 hok.r.2.2);have HNc:=fun W=>hid (zX W a.code hok.code.1 hok.code.2);have zk:=zag hok.kind.2;have zc:=zag hok.code.2;have zs:=zbq hok.s.1 hok.s.2.1 hok.s.2.2;have zr:=zbq hok.r.1 hok.r.2.1 hok.r.2.2;have HA:=hid (zW (a.at S));have HAE:=hid (zah (a.at S));have hb:=zov hl ek;have h3:=zcx hl;unfold za8 at h3;rw[if_pos ek] at h3;unfold reqB at h3;simp only[Bool.and_eq_true,decide_eq_true_eq] at h3
 obtain⟨l1,l2,l3,l4⟩:=h3;have hcl:=zb4 l2;have hks:=(zaR.1 l3).2;have hkr:KnowR a.k:=by
  obtain⟨m1,m2,m3,m4⟩:=zer (zaR.1 l3).1;refine⟨fun x hx=>?_,hok.k,by omega⟩;have h5:=m1 x hx;unfold mayF at h5;rw[Bool.and_eq_true] at h5;obtain⟨n1,n2⟩:=zb4 h5.1;exact⟨by omega,fun c hc=>by
   have h6:=n2 c hc;have:=h6.pre;have:=h6.lo;have:=h6.hi;unfold in64;omega⟩
 have HBt:=fun W=>hid (ziT W a.up);have HFi:=fun W (hW:Ext w W)=>hid (zg8 W S.f.val a.f (ha.f.ext hW) (by omega) (fun c hc=>by
  have h6:=hcl.2 c hc;have:=h6.pre;have:=h6.lo;have:=h6.hi;unfold in64;omega))
 have HKn:=fun W (hW:Ext w W)=>hid (rknow_c W S.k1.val S.k2.val a.k (ha.k.ext hW) hkr);have HT1:=fun W=>hid (zbv W (zi clB a.f) (by have:=zbS l2;omega));have HT2:=fun W=>hid (zbv W (zad a.k) (by omega));have HNl:=fun W=>hid (zX W a.held.length (by omega) (by omega));have zf:=zZ (zi clB a.f) (by have:=zbS l2;omega);have zf2:=zbS l2;have zn:=zZ (zad a.k) (by omega);have zl:=zag (z:=a.held.length) (by omega);have HPr:=fun W (p:PairI) (hp:p∈a.held)=>hid (zle W p (hok.heldV p hp));have zp:∀ p∈a.held,(zbL p).size≤36:=fun p hp=>by
  unfold zbL;rw[ByteArray.size_append];have h5:=hok.heldV p hp;have:=zaP h5.1.1 h5.1.2;have:=zaP h5.2.1 h5.2.2;omega
 have hhl:=hok.held;have HHs:=ha.held;obtain⟨eA,ec,heq,h9,h10,H3⟩:=zC HHs;have H3:=hid H3;unfold maxLen at h10;have a11v:(a.at S).head[11]? = some (.slice eA a.held.length ec):=by rw[←heq];rfl
 obtain⟨fA,fn,fc,hfv⟩:∃ x y z,S.f.val=.slice x y z:=⟨_,_,_,rfl⟩
 obtain⟨xA,xn,xc,hxv⟩:∃ x y z,S.k1.val=.slice x y z:=⟨_,_,_,rfl⟩
 obtain⟨yA,yn,yc,hyv⟩:∃ x y z,S.k2.val=.slice x y z:=⟨_,_,_,rfl⟩
 rw[hfv] at HFi;rw[hxv,hyv] at HKn;have a8v:(a.at S).head[8]? = some (.slice fA fn fc):=by rw[←hfv];rfl
 have a9v:(a.at S).head[9]? = some (.slice xA xn xc):=by rw[←hxv];rfl
 have a10v:(a.at S).head[10]? = some (.slice yA yn yc):=by rw[←hyv];rfl
 have a7:(a.at S).arr[7]? = some (.bool a.up):=HA.out 7 (by omega);have a11:(a.at S).arr[11]? = some (.slice eA a.held.length ec):=(HA.out 11 (by omega)).trans a11v;have a8:(a.at S).arr[8]? = some (.slice fA fn fc):=(HA.out 8 (by omega)).trans a8v;have a9:(a.at S).arr[9]? = some (.slice xA xn xc):=(HA.out 9 (by omega)).trans a9v;have a10:(a.at S).arr[10]? = some (.slice yA yn yc):=(HA.out 10 (by omega)).trans a10v;clear a8v a9v a10v a11v HHs heq hfv hxv hyv hkr hcl l1 l2 l3 l4;generalize (a.at S).arr=ar at HA HAE a7 a8 a9 a10 a11⊢;have HBa:=hid (Blk.new w 36 ar);have HX:=hid (Ext.alloc w (.cells ar 36))
 have a0:ar[0]? = some (.int .i64 a.kind):=HA.out 0 (by omega);have a1:ar[1]? = some (.int .i64 a.s1):=HA.out 1 (by omega);have a2:ar[2]? = some (.int .i64 a.s2):=HA.out 2 (by omega);have a3:ar[3]? = some (.int .i64 a.s3):=HA.out 3 (by omega);have a4:ar[4]? = some (.int .i64 a.r1):=HA.out 4 (by omega);have a5:ar[5]? = some (.int .i64 a.r2):=HA.out 5 (by omega);have a6:ar[6]? = some (.int .i64 a.r3):=HA.out 6 (by omega);have a146:ar[146]? = some (.int .i64 a.code):=HAE.out 1;have la:=HBa.out.lt;have c0:=HBa.out.cell a0;have c1:=HBa.out.cell a1;have c2:=HBa.out.cell a2;have c3:=HBa.out.cell a3;unfold sidV at HSs HSr;clear HA HAE ek ha hok hl
 unfold reqD headD at hb;rw[←hb];clear hb;generalize sidD a.s1 a.s2 a.s3=ds at HSs zs⊢;generalize sidD a.r1 a.r2 a.r3=dr at HSr zr⊢;generalize numB a.kind=dk at HNk zk⊢;generalize numB a.code=dc at HNc zc⊢;have hbd:(if a.up then(⟨#[1]⟩:ByteArray) else⟨#[0]⟩)=bitD a.up:=rfl;rw[hbd] at HBt;have zb:(bitD a.up).size≤1:=by cases a.up <;> decide
 clear hbd;generalize bitD a.up=db at HBt zb⊢;generalize zK (zi clB a.f)=tf at HT1 zf⊢;generalize zK (zad a.k)=tk at HT2 zn⊢;generalize zi clB a.f=bf at HFi HT1 zf zf2;generalize zad a.k=bk at HKn HT2 zn hks;generalize numB a.held.length=nl at HNl zl⊢;obtain⟨H,hH⟩:∃ H,(((dk++ds++db)++tf)++tk)++nl=H:=⟨_,rfl⟩
 have zH:H.size≤80000:=by rw[←hH];simp only[ByteArray.size_append];omega
 rw[hH];have HH:=hid hH;clear hH;go_enter Tryz.func35,Tryz.ntmps35;go_wp2_with fail
 generalize w.alloc (.cells ar 36)=w1 at HBa HX c0 c1 c2 c3 la⊢;refine zd (by kernel_rfl) (by kernel_rfl) (by kernel_rfl) ?_
 repeat (first
  | (refine AWq.val rfl rfl rfl rfl (fun K hK=>?_);go_big_quiet_op;refine hK _ ?_;clear hK K)
  | (refine AWq.skip rfl rfl rfl ?_;simp only[Act.put,zq6,zq7,zq8])
  | (refine AWq.call rfl Tryz.func46 (by kernel_rfl) (by kernel_rfl) rfl rfl rfl ?_;apply Exists.intro;refine And.intro (fun wc hc=>?_) ?_;(· (simp only[zo,zu,↓reduceIte,Nat.reduceEqDiff,zq1,zq2,zq3,zq4,zq5];with_reducible exact(HNk _).out));simp only[Act.put,zq6,zq7,zq8])
  | (refine AWq.call rfl Tryz.func78 (by kernel_rfl) (by kernel_rfl) rfl rfl rfl ?_;apply Exists.intro;refine And.intro (fun wc hc=>?_) ?_;(· (simp only[zo,zu,↓reduceIte,Nat.reduceEqDiff,zq1,zq2,zq3,zq4,zq5];with_reducible exact(HSs _).out));simp only[Act.put,zq6,zq7,zq8]))
 refine AWq.done rfl rfl rfl (fun w2 x2=>?_);simp only[zt,Act.put,zq6,zq7,zq8]
 all_goals intros
 have HX2:=hid (HX.out.trans x2);have HB2:=hid (HBa.out.ext x2);clear x2 HX HBa c0 c1 c2 c3 la HNk HSs;have c0:=HB2.out.cell a0;have la:=HB2.out.lt;have c7:=HB2.out.cell a7;have c8:=HB2.out.cell a8;have c9:=HB2.out.cell a9;have c10:=HB2.out.cell a10;have c11:=HB2.out.cell a11;go_wp2_with fail
 refine zd (by kernel_rfl) (by kernel_rfl) (by kernel_rfl) ?_
 repeat (first
  | (refine AWq.val rfl rfl rfl rfl (fun K hK=>?_);go_big_quiet_op;refine hK _ ?_;clear hK K)
  | (refine AWq.skip rfl rfl rfl ?_;simp only[Act.put,zq6,zq7,zq8])
  | (refine AWq.call rfl Tryz.func79 (by kernel_rfl) (by kernel_rfl) rfl rfl rfl ?_;apply Exists.intro;refine And.intro (fun wc hc=>?_) ?_;(· (simp only[zo,zu,↓reduceIte,Nat.reduceEqDiff,zq1,zq2,zq3,zq4,zq5];with_reducible exact(HBt _).out));simp only[Act.put,zq6,zq7,zq8])
  | (refine AWq.call rfl Tryz.func80 (by kernel_rfl) (by kernel_rfl) rfl rfl rfl ?_;apply Exists.intro;refine And.intro (fun wc hc=>?_) ?_;(· (simp only[zo,zu,↓reduceIte,Nat.reduceEqDiff,zq1,zq2,zq3,zq4,zq5];with_reducible exact(HFi _ (HX2.out.trans hc)).out));simp only[Act.put,zq6,zq7,zq8])
  | (refine AWq.call rfl Tryz.func81 (by kernel_rfl) (by kernel_rfl) rfl rfl rfl ?_;apply Exists.intro;refine And.intro (fun wc hc=>?_) ?_;(· (simp only[zo,zu,↓reduceIte,Nat.reduceEqDiff,zq1,zq2,zq3,zq4,zq5];with_reducible exact(HKn _ (HX2.out.trans hc)).out));simp only[Act.put,zq6,zq7,zq8])
  | (refine AWq.call rfl Tryz.func47 (by kernel_rfl) (by kernel_rfl) rfl rfl rfl ?_;apply Exists.intro;refine And.intro (fun wc hc=>?_) ?_;(· (simp only[zo,zu,↓reduceIte,Nat.reduceEqDiff,zq1,zq2,zq3,zq4,zq5];with_reducible exact(HT1 _).out));simp only[Act.put,zq6,zq7,zq8])
  | (refine AWq.call rfl Tryz.func47 (by kernel_rfl) (by kernel_rfl) rfl rfl rfl ?_;apply Exists.intro;refine And.intro (fun wc hc=>?_) ?_;(· (simp only[zo,zu,↓reduceIte,Nat.reduceEqDiff,zq1,zq2,zq3,zq4,zq5];with_reducible exact(HT2 _).out));simp only[Act.put,zq6,zq7,zq8])
  | (refine AWq.call rfl Tryz.func46 (by kernel_rfl) (by kernel_rfl) rfl rfl rfl ?_;apply Exists.intro;refine And.intro (fun wc hc=>?_) ?_;(· (simp only[zo,zu,↓reduceIte,Nat.reduceEqDiff,zq1,zq2,zq3,zq4,zq5];with_reducible exact(HNl _).out));simp only[Act.put,zq6,zq7,zq8]))
 refine AWq.done rfl rfl rfl (fun w3 x3=>?_);simp only[zt,Act.put,zq6,zq7,zq8]
 all_goals intros
 have HX3:=hid (HX2.out.trans x3);have HB3:=hid (HB2.out.ext x3);rw[HH.out];clear HH x3 HX2 HB2 c0 la c7 c8 c9 c10 c11 HBt HFi HKn HT1 HT2 HNl;have la:=HB3.out.lt;go_wp2_with fail
 go_loopw [3,4] (fun s3 s4 wr=>∃ k:Nat,k≤a.held.length∧s4=.int .i64 k∧s3=.string (H++catB zbL (a.held.take k))∧Hid (Ext w3 wr)) (fun _ s4 _=>a.held.length-(intOf s4).toNat)
 case atStart=>exact⟨0,by omega,rfl,by rw[List.take_zero,zjO];congr 1;apply zez;simp,Ext.refl _⟩
 case round=>
  obtain⟨k,hk,rfl,rfl,hE⟩:=hrel;clear la;have HBr:=hid (HB3.out.ext hE.out);have HXr:=hid (HX3.out.trans hE.out);have c11:=HBr.out.cell a11;have la:=HBr.out.lt;by_cases hlt:k<a.held.length
  ·have d1:decide ((k:Int)<a.held.length)=true:=decide_eq_true (by omega)
   have d1':decide (k<a.held.length)=true:=decide_eq_true hlt;obtain⟨b,o,rfl,lb,hcell⟩:=H3.out (by omega);have lbr:=Nat.lt_of_lt_of_le lb HXr.out.size;have p0:=HXr.out.cell (hcell k hlt 0 _ rfl);have p1:=HXr.out.cell (hcell k hlt 1 _ rfl);have p2:=HXr.out.cell (hcell k hlt 2 _ rfl);have p3:=HXr.out.cell (hcell k hlt 3 _ rfl);rw[Nat.add_zero] at p0;have HC:=fun W=>HPr W a.held[k] (List.getElem_mem hlt);have HS:Hid (H++catB zbL (a.held.take (k+1))=(H++catB zbL (a.held.take k))++(verB a.held[k].a++verB a.held[k].b)):=by
    unfold Hid;rw[zhH zbL hlt,ByteArray.append_assoc];rfl
   have zx:=zp _ (List.getElem_mem hlt);unfold zbL at zx;have zc8:(catB zbL (a.held.take k)).size≤36000:=by
    have h5:=zcL zbL 36 (a.held.take k) (fun x hx=>zp x (List.mem_of_mem_take hx));have h6:(a.held.take k).length≤1000:=by rw[List.length_take];omega
    omega
   have zacc:(H++catB zbL (a.held.take k)).size≤116000:=by rw[ByteArray.size_append];omega
   clear hcell H3 HPr lb zc8 zp;generalize a.held[k]=x at zx p0 p1 p2 p3 HC HS;generalize verB x.a++verB x.b=pb at HC HS zx;unfold PairI.val at HC;generalize H++catB zbL (a.held.take k)=acc at HS zacc⊢;go_wp2_with fail
   refine((HC _).out).mono ?_;rintro en w8 ⟨rfl,x8⟩;have hE8:=hid (hE.out.trans x8);clear x8 HC hE p0 p1 p2 p3 c11 la HBr HXr;go_wp2_with fail
   go_roundw
   case rel=>exact⟨k+1,by omega,by go_num,by rw[HS.out],hE8⟩
   case measure=>simp[intOf];omega
  ·obtain rfl:k=a.held.length:=by omega
   have d1:decide ((a.held.length:Int)<a.held.length)=false:=decide_eq_false (by omega);have d1':decide (a.held.length<a.held.length)=false:=decide_eq_false (by omega);rw[List.take_length];clear H3 HPr hlt;go_wp2_with fail
   go_ret;exact⟨rfl,HXr.out⟩
end
section
open Go.RowKit
attribute [-simp] Tryz.isAgg36 Tryz.sizeOf36 Tryz.isAgg33 Tryz.isAgg61 Tryz.sizeOf61
theorem body2_c (w:World) (S:SlM) (a:MsgI) (ha:MsgAt w S a) (hok:MsgOk a) (hl:layB a=true) (ek:a.kind=2):Calls Tryz.prog 35 #[.agg (a.at S).arr] w (Ret (.string (zam a)) w):=by
 have d1:(a.kind==1)=false:=by rw[ek];decide
 have d2:(a.kind==2)=true:=by rw[ek];decide
 have d3:(a.kind==3)=false:=by rw[ek];decide
 have d4:(a.kind==4)=false:=by rw[ek];decide
 have HNk:=fun W=>hid (zX W a.kind hok.kind.1 hok.kind.2);have HSs:=fun W=>hid (zdL W a.s1 a.s2 a.s3 hok.s.1 hok.s.2.1 hok.s.2.2);have HSr:=fun W=>hid (zdL W a.r1 a.r2 a.r3 hok.r.1 hok.r.2.1 hok.r.2.2);have HNc:=fun W=>hid (zX W a.code hok.code.1 hok.code.2);have zk:=zag hok.kind.2;have zc:=zag hok.code.2;have zs:=zbq hok.s.1 hok.s.2.1 hok.s.2.2;have zr:=zbq hok.r.1 hok.r.2.1 hok.r.2.2;have HA:=hid (zW (a.at S));have HAE:=hid (zah (a.at S));have hb:=zou hl ek;have h3:=zcx hl;unfold za8 at h3;rw[if_neg (by omega),if_pos ek] at h3;unfold batB zby at h3
 simp only[Bool.and_eq_true,decide_eq_true_eq] at h3;obtain⟨⟨l0,l1,l2,l3⟩,l5,l6,l7,l8⟩:=h3;have hns:=(zaR.1 l8).2;rw[List.all_eq_true] at l5;have zends:∀ v:List Int,zaQ v→(zi verB (endsL v)).size≤2000:=fun v hv=>by
  have h9:=zaK verB (endsL v) 18 65 (by decide) (zaS v) (by decide) (fun x hx=>za5 (zaV hv x hx));rw[zap];omega
 have zV:=zends a.V hok.V;have zA:=zends a.A hok.A;have HBt:=fun W=>hid (ziT W a.last);have HNs:=fun W=>hid (zX W a.seq hok.seq.1 hok.seq.2);have HNl:=fun W=>hid (zX W a.ents.length (by omega) (by omega));have HEn:=fun W (e:EntI) (he:e∈a.ents)=>hid (znt W e (hok.ents e he) (l5 e he));have ze:∀ e∈a.ents,(entB e).size≤1000:=fun e he=>by
  have h9:=(zfR (hok.ents e he) (l5 e he)).2.2
  show(encL (entF e)).toArray.size≤1000
  rw[List.size_toArray];exact h9
 have HRV:=fun W=>hid (zfM W a.V a.hV);have HRA:=fun W=>hid (zfM W a.A a.hA);have HVV:=fun W u (hu:Sl W 2 u ((endsL a.V).map Ver.cells))=>hid (zdX W u (endsL a.V) hu (by have:=zaS a.V;omega) (fun y hy=>zcN (zaV hok.V y hy)));have HVA:=fun W u (hu:Sl W 2 u ((endsL a.A).map Ver.cells))=>hid (zdX W u (endsL a.A) hu (by have:=zaS a.A;omega) (fun y hy=>zcN (zaV hok.A y hy)));have HVN:=fun W (hW:Ext w W)=>hid (zdX W S.not.val a.not (ha.not.ext hW) hok.notl hok.not);have HT1:=fun W=>hid (zbv W (zi verB (endsL a.V)) (by omega));have HT2:=fun W=>hid (zbv W (zi verB (endsL a.A)) (by omega))
 have HT3:=fun W=>hid (zbv W (zi verB a.not) (by omega));have zt1:=zZ (zi verB (endsL a.V)) (by omega);have zt2:=zZ (zi verB (endsL a.A)) (by omega);have zt3:=zZ (zi verB a.not) (by omega);have zl:=zag (z:=a.ents.length) (by omega);have zq:=zag (z:=a.seq) hok.seq.2;have HAV:=hid (fun j v (h:(vecV a.V)[j]? = some v)=>zb0 (a.at S) j v (by simpa[vecV,intsV,MsgI.at] using h));have HAA:=hid (fun j v (h:(vecV a.A)[j]? = some v)=>zb1 (a.at S) j v (by simpa[vecV,intsV,MsgI.at] using h));have hVs:=hid (show(vecV a.V).size=65 by rw[zm];exact a.hV)
 have hAs:=hid (show(vecV a.A).size=65 by rw[zm];exact a.hA);have hel:=l3;have HEs:=ha.ents;obtain⟨eA,ec,heq,h9,h10,H3⟩:=zC HEs;have H3:=hid H3;unfold maxLen at h10;have a14v:(a.at S).head[14]? = some (.slice eA a.ents.length ec):=by rw[←heq];rfl
 have hnot:S.not.val=(a.at S).not.val:=rfl;obtain⟨nA,nn,nc,hnv⟩:∃ x y z,S.not.val=.slice x y z:=⟨_,_,_,rfl⟩
 rw[hnv] at HVN;have a145v:([(a.at S).not.val,.int .i64 (a.at S).code]:List Value)[0]? = some (.slice nA nn nc):=by rw[←hnot,hnv];rfl
 have a14:(a.at S).arr[14]? = some (.slice eA a.ents.length ec):=(HA.out 14 (by omega)).trans a14v;have a145:(a.at S).arr[145]? = some (.slice nA nn nc):=(HAE.out 0).trans a145v;have a12:(a.at S).arr[12]? = some (.int .i64 a.seq):=HA.out 12 (by omega);have a13:(a.at S).arr[13]? = some (.bool a.last):=HA.out 13 (by omega);generalize vecV a.V=VV at HAV hVs HRV;generalize vecV a.A=AA at HAA hAs HRA;clear HEs heq hnot hnv a14v a145v zends;clear l0 l1 l2 l3 l5 l6 l7 l8;generalize (a.at S).arr=ar at HA HAE a12 a13 a14 a145 HAV HAA⊢;have HBa:=hid (Blk.new w 36 ar);have HX:=hid (Ext.alloc w (.cells ar 36));have a0:ar[0]? = some (.int .i64 a.kind):=HA.out 0 (by omega)
 have a1:ar[1]? = some (.int .i64 a.s1):=HA.out 1 (by omega);have a2:ar[2]? = some (.int .i64 a.s2):=HA.out 2 (by omega);have a3:ar[3]? = some (.int .i64 a.s3):=HA.out 3 (by omega);have a4:ar[4]? = some (.int .i64 a.r1):=HA.out 4 (by omega);have a5:ar[5]? = some (.int .i64 a.r2):=HA.out 5 (by omega);have a6:ar[6]? = some (.int .i64 a.r3):=HA.out 6 (by omega);have a146:ar[146]? = some (.int .i64 a.code):=HAE.out 1;have la:=HBa.out.lt;have c0:=HBa.out.cell a0;have c1:=HBa.out.cell a1;have c2:=HBa.out.cell a2;have c3:=HBa.out.cell a3;unfold sidV at HSs HSr;clear HA HAE ek ha hok hl;unfold batE batD headD at hb;rw[←hb];clear hb
 generalize sidD a.s1 a.s2 a.s3=ds at HSs zs⊢;generalize sidD a.r1 a.r2 a.r3=dr at HSr zr⊢;generalize numB a.kind=dk at HNk zk⊢;generalize numB a.code=dc at HNc zc⊢;have hbd:(if a.last then(⟨#[1]⟩:ByteArray) else⟨#[0]⟩)=bitD a.last:=rfl;rw[hbd] at HBt;have zb:(bitD a.last).size≤1:=by cases a.last <;> decide
 clear hbd;generalize bitD a.last=db at HBt zb⊢;generalize zK (zi verB (endsL a.V))=tV at HT1 zt1⊢;generalize zK (zi verB (endsL a.A))=tA at HT2 zt2⊢;generalize zK (zi verB a.not)=tN at HT3 zt3⊢;generalize endsL a.V=eV at HRV HVV HT1 zt1 zV;generalize endsL a.A=eW at HRA HVA HT2 zt2 zA;generalize zi verB eV=bV at HVV HT1 zt1 zV;generalize zi verB eW=bW at HVA HT2 zt2 zA;generalize zi verB a.not=bN at HVN HT3 zt3 hns;generalize numB a.ents.length=nl at HNl zl⊢;generalize numB a.seq=nq at HNs zq⊢;obtain⟨H,hH⟩:∃ H,(((dk++ds++dr)++nq)++db)++nl=H:=⟨_,rfl⟩
 have zH:H.size≤1000:=by rw[←hH];simp only[ByteArray.size_append];omega
 rw[hH];have HH:=hid hH;clear hH;go_enter Tryz.func35,Tryz.ntmps35;go_wp2_with fail
 generalize w.alloc (.cells ar 36)=w1 at HBa HX c0 c1 c2 c3 la⊢;refine zd (by kernel_rfl) (by kernel_rfl) (by kernel_rfl) ?_
 repeat (first
  | (refine AWq.val rfl rfl rfl rfl (fun K hK=>?_);go_big_quiet_op;refine hK _ ?_;clear hK K)
  | (refine AWq.skip rfl rfl rfl ?_;simp only[Act.put,zq6,zq7,zq8])
  | (refine AWq.call rfl Tryz.func46 (by kernel_rfl) (by kernel_rfl) rfl rfl rfl ?_;apply Exists.intro;refine And.intro (fun wc hc=>?_) ?_;(· (simp only[zo,zu,↓reduceIte,Nat.reduceEqDiff,zq1,zq2,zq3,zq4,zq5];with_reducible exact(HNk _).out));simp only[Act.put,zq6,zq7,zq8])
  | (refine AWq.call rfl Tryz.func78 (by kernel_rfl) (by kernel_rfl) rfl rfl rfl ?_;apply Exists.intro;refine And.intro (fun wc hc=>?_) ?_;(· (simp only[zo,zu,↓reduceIte,Nat.reduceEqDiff,zq1,zq2,zq3,zq4,zq5];with_reducible exact(HSs _).out));simp only[Act.put,zq6,zq7,zq8]))
 refine AWq.done rfl rfl rfl (fun w2 x2=>?_);simp only[zt,Act.put,zq6,zq7,zq8]
 all_goals intros
 have HX2:=hid (HX.out.trans x2);have HB2:=hid (HBa.out.ext x2);clear x2 HX HBa c0 c1 c2 c3 la HNk HSs;have c0:=HB2.out.cell a0;have la:=HB2.out.lt;have c4:=HB2.out.cell a4;have c5:=HB2.out.cell a5;have c6:=HB2.out.cell a6;have c12:=HB2.out.cell a12;have c13:=HB2.out.cell a13;have c14:=HB2.out.cell a14;go_wp2_with fail
 refine zd (by kernel_rfl) (by kernel_rfl) (by kernel_rfl) ?_
 repeat (first
  | (refine AWq.val rfl rfl rfl rfl (fun K hK=>?_);go_big_quiet_op;refine hK _ ?_;clear hK K)
  | (refine AWq.skip rfl rfl rfl ?_;simp only[Act.put,zq6,zq7,zq8])
  | (refine AWq.call rfl Tryz.func78 (by kernel_rfl) (by kernel_rfl) rfl rfl rfl ?_;apply Exists.intro;refine And.intro (fun wc hc=>?_) ?_;(· (simp only[zo,zu,↓reduceIte,Nat.reduceEqDiff,zq1,zq2,zq3,zq4,zq5];with_reducible exact(HSr _).out));simp only[Act.put,zq6,zq7,zq8])
  | (refine AWq.call rfl Tryz.func79 (by kernel_rfl) (by kernel_rfl) rfl rfl rfl ?_;apply Exists.intro;refine And.intro (fun wc hc=>?_) ?_;(· (simp only[zo,zu,↓reduceIte,Nat.reduceEqDiff,zq1,zq2,zq3,zq4,zq5];with_reducible exact(HBt _).out));simp only[Act.put,zq6,zq7,zq8])
  | (refine AWq.call rfl Tryz.func46 (by kernel_rfl) (by kernel_rfl) rfl rfl rfl ?_;apply Exists.intro;refine And.intro (fun wc hc=>?_) ?_;(· (simp only[zo,zu,↓reduceIte,Nat.reduceEqDiff,zq1,zq2,zq3,zq4,zq5];with_reducible exact(HNs _).out));simp only[Act.put,zq6,zq7,zq8])
  | (refine AWq.call rfl Tryz.func46 (by kernel_rfl) (by kernel_rfl) rfl rfl rfl ?_;apply Exists.intro;refine And.intro (fun wc hc=>?_) ?_;(· (simp only[zo,zu,↓reduceIte,Nat.reduceEqDiff,zq1,zq2,zq3,zq4,zq5];with_reducible exact(HNl _).out));simp only[Act.put,zq6,zq7,zq8]))
 refine AWq.done rfl rfl rfl (fun w3 x3=>?_);simp only[zt,Act.put,zq6,zq7,zq8]
 all_goals intros
 have HX3:=hid (HX2.out.trans x3);have HB3:=hid (HB2.out.ext x3);rw[HH.out];clear HH x3 HX2 HB2 c0 la c4 c5 c6 c12 c13 c14 HBt HSr HNs HNl;have c14:=HB3.out.cell a14;have la:=HB3.out.lt;go_wp2_with fail
 go_loopw [3,5] (fun s3 s4 wr=>∃ k:Nat,k≤a.ents.length∧s4=.int .i64 k∧s3=.string (H++catB entB (a.ents.take k))∧Hid (Ext w3 wr)) (fun _ s4 _=>a.ents.length-(intOf s4).toNat)
 case atStart=>exact⟨0,by omega,rfl,by rw[List.take_zero,zjO];congr 1;apply zez;simp,Ext.refl _⟩
 case round=>
  obtain⟨k,hk,rfl,rfl,hE⟩:=hrel;clear la c14;have HBr:=hid (HB3.out.ext hE.out);have HXr:=hid (HX3.out.trans hE.out);have c14:=HBr.out.cell a14;have la:=HBr.out.lt;by_cases hlt:k<a.ents.length
  ·have d1:decide ((k:Int)<a.ents.length)=true:=decide_eq_true (by omega)
   have d1':decide (k<a.ents.length)=true:=decide_eq_true hlt;obtain⟨b,o,rfl,lb,hcell⟩:=H3.out (by omega);have lbr:=Nat.lt_of_lt_of_le lb HXr.out.size;have HR1:=hid (fun(q:Nat) u (hu:a.ents[k].arr[q]? = some u)=>HXr.out.cell (hcell k hlt q u (by rw[←zbR,Array.getElem?_toList];exact hu)));have hzE:=hid (zaW a.ents[k]);have HC:=fun W=>HEn W a.ents[k] (List.getElem_mem hlt);have HS:Hid (H++catB entB (a.ents.take (k+1))=(H++catB entB (a.ents.take k))++entB a.ents[k]):=by
    unfold Hid;rw[zhH entB hlt,ByteArray.append_assoc]
   have zx:=ze _ (List.getElem_mem hlt);have zc8:(catB entB (a.ents.take k)).size≤256000:=by
    have h5:=zcL entB 1000 (a.ents.take k) (fun x hx=>ze x (List.mem_of_mem_take hx));have h6:(a.ents.take k).length≤256:=by rw[List.length_take];omega
    omega
   have zacc:(H++catB entB (a.ents.take k)).size≤258000:=by rw[ByteArray.size_append];omega
   clear hcell H3 HEn lb zc8 ze;generalize entB a.ents[k]=pb at HC HS zx;generalize a.ents[k].arr=XE at HR1 hzE HC;generalize H++catB entB (a.ents.take k)=acc at HS zacc⊢;go_wp2_with fail
   simp only[Tryz.sizeOf61,Result.andThen];rw[Oper.upon_value];go_wp2_with fail
   simp only[Tryz.isAgg61,Tryz.sizeOf61,Result.andThen,↓reduceIte,zy HR1.out 21 hzE.out];rw[Oper.upon_value];go_wp2_with fail
   refine((HC _).out).mono ?_;rintro en w8 ⟨rfl,x8⟩;have hE8:=hid (hE.out.trans x8);clear x8 HC hE c14 la HBr HXr HR1;go_wp2_with fail
   go_roundw
   case rel=>exact⟨k+1,by omega,by go_num,by rw[HS.out],hE8⟩
   case measure=>simp[intOf];omega
  ·obtain rfl:k=a.ents.length:=by omega
   have d1:decide ((a.ents.length:Int)<a.ents.length)=false:=decide_eq_false (by omega);have d1':decide (a.ents.length<a.ents.length)=false:=decide_eq_false (by omega);rw[List.take_length];have zc8:=zcL entB 1000 a.ents ze;have zacc:(H++catB entB a.ents).size≤258000:=by rw[ByteArray.size_append];omega
   clear H3 HEn hlt ze zc8;obtain⟨acc,hacc⟩:∃ acc,H++catB entB a.ents=acc:=⟨_,rfl⟩
   rw[hacc] at zacc⊢;have HAcc:=hid hacc;clear hacc;have c145:=HBr.out.cell a145;have HVL:=hid (fun j v (h:VV[j]? = some v)=>HBr.out.cell (HAV.out j v h));have HAL:=hid (fun j v (h:AA[j]? = some v)=>HBr.out.cell (HAA.out j v h));go_wp2_with fail
   refine zd (by kernel_rfl) (by kernel_rfl) (by kernel_rfl) ?_
   repeat (first
    | (refine AWq.val rfl rfl rfl rfl (fun K hK=>?_);go_big_quiet_op;refine hK _ ?_;clear hK K)
    | (refine AWq.skip rfl rfl rfl ?_;simp only[Act.put,zq6,zq7,zq8])
    | (refine AWq.val rfl rfl rfl rfl (fun K hK=>?_);refine zJ rfl rfl (fun wc hwc=>by obtain⟨E,rfl⟩:=hwc;exact zai hVs.out (fun j v hv=>(Ext.of_wext _ _).cell (HVL.out j v hv))) (hK _ ?_);clear hK K;simp only[Act.put,zq6,zq7,zq8])
    | (refine AWq.val rfl rfl rfl rfl (fun K hK=>?_);refine zJ rfl rfl (fun wc hwc=>by obtain⟨E,rfl⟩:=hwc;exact zai hAs.out (fun j v hv=>(Ext.of_wext _ _).cell (HAL.out j v hv))) (hK _ ?_);clear hK K;simp only[Act.put,zq6,zq7,zq8])
    | (refine AWq.call rfl Tryz.func82 (by kernel_rfl) (by kernel_rfl) rfl rfl rfl ?_;apply Exists.intro;refine And.intro (fun wc hc=>?_) ?_;(· (simp only[zo,zu,↓reduceIte,Nat.reduceEqDiff,zq1,zq2,zq3,zq4,zq5];with_reducible exact(HVN _ (HXr.out.trans hc)).out));simp only[Act.put,zq6,zq7,zq8])
    | (refine AWq.callQ ((RowAt Ver.cells 2 eV)) ((fun v _ _ he h=>RowAt.ext h he)) rfl Tryz.func83 (by kernel_rfl) (by kernel_rfl) rfl rfl rfl (fun wc hc=>?_) ?_;(· (simp only[zo,zu,↓reduceIte,Nat.reduceEqDiff,zq1,zq2,zq3,zq4,zq5];with_reducible exact(HRV wc).out)))
    | (refine AWq.callQ ((RowAt Ver.cells 2 eW)) ((fun v _ _ he h=>RowAt.ext h he)) rfl Tryz.func83 (by kernel_rfl) (by kernel_rfl) rfl rfl rfl (fun wc hc=>?_) ?_;(· (simp only[zo,zu,↓reduceIte,Nat.reduceEqDiff,zq1,zq2,zq3,zq4,zq5];with_reducible exact(HRA wc).out)))
    | (refine AWq.call rfl Tryz.func82 (by kernel_rfl) (by kernel_rfl) rfl rfl rfl ?_;apply Exists.intro;refine And.intro (fun wc hc=>?_) ?_;(· (simp only[zo,zu,↓reduceIte,Nat.reduceEqDiff,zq1,zq2,zq3,zq4,zq5];intro y hy;exact(HVV _ _ hy.1).out));simp only[Act.put,zq6,zq7,zq8])
    | (refine AWq.call rfl Tryz.func82 (by kernel_rfl) (by kernel_rfl) rfl rfl rfl ?_;apply Exists.intro;refine And.intro (fun wc hc=>?_) ?_;(· (simp only[zo,zu,↓reduceIte,Nat.reduceEqDiff,zq1,zq2,zq3,zq4,zq5];intro y hy;exact(HVA _ _ hy.1).out));simp only[Act.put,zq6,zq7,zq8])
    | (refine AWq.call rfl Tryz.func47 (by kernel_rfl) (by kernel_rfl) rfl rfl rfl ?_;apply Exists.intro;refine And.intro (fun wc hc=>?_) ?_;(· (simp only[zo,zu,↓reduceIte,Nat.reduceEqDiff,zq1,zq2,zq3,zq4,zq5];with_reducible exact(HT1 _).out));simp only[Act.put,zq6,zq7,zq8])
    | (refine AWq.call rfl Tryz.func47 (by kernel_rfl) (by kernel_rfl) rfl rfl rfl ?_;apply Exists.intro;refine And.intro (fun wc hc=>?_) ?_;(· (simp only[zo,zu,↓reduceIte,Nat.reduceEqDiff,zq1,zq2,zq3,zq4,zq5];with_reducible exact(HT2 _).out));simp only[Act.put,zq6,zq7,zq8])
    | (refine AWq.call rfl Tryz.func47 (by kernel_rfl) (by kernel_rfl) rfl rfl rfl ?_;apply Exists.intro;refine And.intro (fun wc hc=>?_) ?_;(· (simp only[zo,zu,↓reduceIte,Nat.reduceEqDiff,zq1,zq2,zq3,zq4,zq5];with_reducible exact(HT3 _).out));simp only[Act.put,zq6,zq7,zq8]))
   refine AWq.done rfl rfl rfl (fun w5 x5=>?_);simp only[zt,Act.put,zq6,zq7,zq8]
   all_goals intros
   go_wp2_with fail
   go_ret;exact⟨by rw[HAcc.out];rfl,HXr.out.trans x5⟩
end
section
open Go.RowKit
theorem zi0 {m:MsgI} (hk:m.kind=1∨m.kind=2∨m.kind=3∨m.kind=4):m=zT m↔((m.kind==2||m.kind==3||decide (m.r1=0∧m.r2=0∧m.r3=0))&&((m.kind==4||m.code==0)&&((m.kind==1||zcA m)&&(m.kind==2||zbM m))))=true:=by
 obtain⟨kind,s1,s2,s3,r1,r2,r3,up,f,k,held,seq,last,ents,V,A,not,code,hV,hA⟩:=m;obtain⟨fs,ks⟩:=k;dsimp only at hk;rw[zeq];unfold zT zcA zbM;rcases hk with rfl | rfl | rfl | rfl <;> simp <;> constructor <;> intro h <;> simp_all <;> omega
theorem rest_kind {m:MsgI} (h:za8 m=true):m.kind=1∨m.kind=2∨m.kind=3∨m.kind=4:=by
 unfold za8 at h;by_cases k1:m.kind=1
 ·exact .inl k1
 by_cases k2:m.kind=2
 ·exact .inr (.inl k2)
 by_cases k3:m.kind=3
 ·exact .inr (.inr (.inl k3))
 rw[if_neg k1,if_neg k2,if_neg k3] at h;simp only[Bool.and_eq_true,decide_eq_true_eq] at h;exact .inr (.inr (.inr h.1))
theorem zkg {m:MsgI} (h:zbY m=true):m.kind=1∨m.kind=2∨m.kind=3∨m.kind=4:=by
 unfold zbY at h;by_cases k1:m.kind=1
 ·exact .inl k1
 by_cases k2:m.kind=2
 ·exact .inr (.inl k2)
 by_cases k3:m.kind=3
 ·exact .inr (.inr (.inl k3))
 by_cases k4:m.kind=4
 ·exact .inr (.inr (.inr k4))
 simp[k1,k2,k3,k4] at h
theorem zg9 {m:MsgI}:za8 m=true↔zbY m=true∧(m.kind=1→(zad m.k).size≤65536)∧(m.kind=2→(zi verB m.not).size≤65536):=by
 unfold za8 zbY reqB batB zby;by_cases k1:m.kind=1
 ·simp[k1,zaR]
  constructor
  ·rintro⟨a,b,c,d⟩;exact⟨⟨d,a,b,c.1⟩,c.2⟩
  ·rintro⟨⟨d,a,b,c⟩,e⟩;exact⟨a,b,⟨c,e⟩,d⟩
 by_cases k2:m.kind=2
 ·simp[k2,zaR]
  constructor
  ·rintro⟨⟨a,b,c,d⟩,e,f,g,h⟩;exact⟨⟨e,a,b,c,d,f,g,h.1⟩,h.2⟩
  ·rintro⟨⟨e,a,b,c,d,f,g,h⟩,i⟩;exact⟨⟨a,b,c,d⟩,e,f,g,h,i⟩
 by_cases k3:m.kind=3
 ·simp[k3]
 by_cases k4:m.kind=4
 ·simp[k4]
 simp[k1,k2,k3,k4]
theorem lay_iff {m:MsgI}:layB m=true↔zbb m=true∧(m.kind=1→(zad m.k).size≤65536)∧(m.kind=2→(zi verB m.not).size≤65536):=by
 constructor
 ·intro h
  unfold layB at h;rw[Bool.and_eq_true,Bool.and_eq_true,decide_eq_true_eq] at h;obtain⟨h1,h2,h3⟩:=h;have h4:=(zi0 (rest_kind h3)).1 h2;have h5:=zg9.1 h3;simp only[Bool.and_eq_true] at h4;refine⟨?_,h5.2⟩;unfold zbb;simp only[Bool.and_eq_true];exact⟨h1,h4.1,h4.2.1,h4.2.2.1,h4.2.2.2,h5.1⟩
 ·rintro⟨h,hs⟩
  unfold zbb at h;simp only[Bool.and_eq_true] at h;obtain⟨h1,h2,h3,h4,h5,h6⟩:=h;unfold layB;rw[Bool.and_eq_true,Bool.and_eq_true,decide_eq_true_eq];refine⟨h1,(zi0 (zkg h6)).2 ?_,zg9.2 ⟨h6,hs⟩⟩;simp only[Bool.and_eq_true];exact⟨h2,h3,h4,h5⟩
theorem zn2 {m:MsgI} (hok:MsgOk m) (h:layB m=true) (hl:zcC m.ents m.held.length m.not.length m.f=true) (hk:(zad m.k).size≤50000):(zam m).size≤65000:=by
 unfold zcC at hl;simp only[Bool.and_eq_true,decide_eq_true_eq] at hl;obtain⟨-,q1,q2,q3,q4⟩:=hl;have h3:=zcx h;have zh:(headD m).size≤36:=by
  unfold headD;rw[ByteArray.size_append];have:=zag hok.kind.2;have:=zbq hok.s.1 hok.s.2.1 hok.s.2.2;omega
 have zr:=zbq hok.r.1 hok.r.2.1 hok.r.2.2;by_cases k1:m.kind=1
 ·rw[←zov h k1]
  unfold za8 at h3;rw[if_pos k1] at h3;unfold reqB at h3;simp only[Bool.and_eq_true,decide_eq_true_eq] at h3;have zf:=zbS h3.2.1;have z1:=zZ (zi clB m.f) (by omega);have z2:=zZ (zad m.k) (by omega);have z3:=zag (z:=m.held.length) (by omega);have z4:=zcL zbL 36 m.held (fun p hp=>by
   unfold zbL;rw[ByteArray.size_append];have h5:=hok.heldV p hp;have:=zaP h5.1.1 h5.1.2;have:=zaP h5.2.1 h5.2.2;omega)
  have z5:(bitD m.up).size≤1:=by cases m.up <;> decide
  unfold reqD;simp only[ByteArray.size_append];omega
 by_cases k2:m.kind=2
 ·rw[←zou h k2]
  unfold za8 at h3;rw[if_neg k1,if_pos k2] at h3;unfold batB zby at h3;simp only[Bool.and_eq_true,decide_eq_true_eq] at h3;obtain⟨⟨l0,l1,l2,l3⟩,l5,l6,l7,l8⟩:=h3;rw[List.all_eq_true] at l5;have zends:∀ v:List Int,zaQ v→(zi verB (endsL v)).size≤2000:=fun v hv=>by
   have h9:=zaK verB (endsL v) 18 65 (by decide) (zaS v) (by decide) (fun x hx=>za5 (zaV hv x hx));rw[zap];omega
  have zV:=zends m.V hok.V;have zA:=zends m.A hok.A;have zN:(zi verB m.not).size≤2000:=by
   have h9:=zaK verB m.not 18 40 (by decide) q3 (by decide) (fun x hx=>zeD (hok.not x hx));rw[zap];omega
  have z1:=zZ (zi verB (endsL m.V)) (by omega);have z2:=zZ (zi verB (endsL m.A)) (by omega);have z3:=zZ (zi verB m.not) (by omega);have z4:=zcL entB 1000 m.ents (fun e he=>by
   have h9:=(zfR (hok.ents e he) (l5 e he)).2.2
   show(encL (entF e)).toArray.size≤1000
   rw[List.size_toArray];exact h9)
  have z5:(bitD m.last).size≤1:=by cases m.last <;> decide
  have z6:=zag (z:=m.seq) hok.seq.2;have z7:=zag (z:=m.ents.length) (by omega);unfold batE batD;simp only[ByteArray.size_append];omega
 by_cases k3:m.kind=3
 ·rw[←zk1 h k3,ByteArray.size_append]
  omega
 rw[←zot h k1 k2 k3,ByteArray.size_append];have:=zag hok.code.2;omega
theorem zjb {m:MsgI} (h:layB m=true) (hs:(zam m).size≤65000):putZ m=0:=by
 unfold putZ;have h9:=zcl (n:=(zam m).size) (by omega);rw[if_pos h,if_pos (by unfold fszN;omega)]
theorem zlo {m:MsgI} (h:layB m=true) (hs:(zam m).size≤65000):putM m=⟨(zat (zam m).data.toList).toArray⟩:=by
 have h9:=zcl (n:=(zam m).size) (by omega);unfold putM;rw[if_pos h,if_pos (by unfold fszN;omega)];rfl
end
section
open Go.RowKit Go.ChangeShapes Go.WideShapes Go.ChangeAt Go.Deep
structure MsgInI (m:MsgI):Prop where
 kind:in64 m.kind
 s:in64 m.s1∧in64 m.s2∧in64 m.s3
 r:in64 m.r1∧in64 m.r2∧in64 m.r3
 f:∀ c∈m.f,in64 c.lo∧in64 c.hi
 k:KnowIn m.k
 held:∀ p∈m.held,zaM p.a∧zaM p.b
 seq:in64 m.seq
 ents:∀ e∈m.ents,EntIn e
 V:zaQ m.V
 A:zaQ m.A
 not:∀ v∈m.not,zaM v
 code:in64 m.code
theorem zkt (w:World):zbj Tryz.prog w 36 (fun z:SlM×MsgI=>(z.2.at z.1).list) (fun z=>MsgAt w z.1 z.2∧MsgInI z.2):=by
 intro H enc fuel cs x h;obtain⟨xs,n,_,_,hlen,hxs,hf⟩:=DataW.trod_struct Tryz.underlying36 h;rw[zmP] at hlen;obtain⟨f0,e0,o0⟩:=zL hxs hf (i:=0) rfl zaO (zaC w);obtain⟨f1,e1,o1⟩:=zL hxs hf (i:=1) rfl zfo (zha w);obtain⟨f2,e2,o2⟩:=zL hxs hf (i:=2) rfl zfo (zha w);obtain⟨f3,e3,_⟩:=zL hxs hf (i:=3) rfl zd8 (zds Tryz.underlying4);obtain⟨f4,e4,o4,p4⟩:=zL hxs hf (i:=4) (sz:=1) rfl (by kernel_rfl) (zbD (w:=w) Tryz.underlying25 (zma w) zjM (by omega) (fun _=>rfl));obtain⟨f5,e5,o5,p5⟩:=zL hxs hf (i:=5) rfl zkY (zkv w)
 obtain⟨f6,e6,o6,p6⟩:=zL hxs hf (i:=6) (sz:=1) rfl (by kernel_rfl) (zbD (w:=w) Tryz.underlying30 (zfA w) zex (by omega) (fun _=>rfl));obtain⟨f7,e7,o7⟩:=zL hxs hf (i:=7) rfl zaO (zaC w);obtain⟨f8,e8,_⟩:=zL hxs hf (i:=8) rfl zd8 (zds Tryz.underlying4);obtain⟨f9,e9,o9,p9⟩:=zL hxs hf (i:=9) (sz:=1) rfl (by kernel_rfl) (zbD (w:=w) Tryz.underlying31 (zl9 w) zjL (by omega) (fun _=>rfl));obtain⟨f10,e10,o10,p10⟩:=zL hxs hf (i:=10) rfl zfm (zgo w);obtain⟨f11,e11,o11,p11⟩:=zL hxs hf (i:=11) rfl zfm (zgo w)
 obtain⟨f12,e12,o12,p12⟩:=zL hxs hf (i:=12) (sz:=1) rfl (by kernel_rfl) (zbD (w:=w) Tryz.underlying34 (zbZ w) zcY (by omega) (fun _=>rfl));obtain⟨f13,e13,o13⟩:=zL hxs hf (i:=13) rfl zaO (zaC w);refine⟨(⟨f4.s,f5.u,f5.v,f6.s,f9.s,f12.s⟩,⟨f0,f1.1,f1.2.1,f1.2.2,f2.1,f2.2.1,f2.2.2,f3,f4.l,f5.k,f6.l,f7,f8,f9.l,f10,f11,f12.l,f13,o10,o11⟩),?_,⟨o4,o5,o6,o9,o12⟩,⟨o0.bounds,o1,o2,p4,p5,p6,o7.bounds,p9,p10,p11,fun y hy=>⟨(p12 y hy).1.bounds,(p12 y hy).2.bounds⟩,o13.bounds⟩⟩;have hend:cs.drop 147=[]:=List.drop_eq_nil_of_le (by omega);have s0:=zbw cs 0 1;have s1:=zbw cs 1 3
 have s2:=zbw cs 4 3;have s3:=zbw cs 7 1;have s4:=zbw cs 8 1;have s5:=zbw cs 9 2;have s6:=zbw cs 11 1;have s7:=zbw cs 12 1;have s8:=zbw cs 13 1;have s9:=zbw cs 14 1;have s10:=zbw cs 15 65;have s11:=zbw cs 80 65;have s12:=zbw cs 145 1;have s13:=zbw cs 146 1;have g0:(cs.drop 0).take 1=_:=e0;have g1:(cs.drop 1).take 3=_:=e1;have g2:(cs.drop 4).take 3=_:=e2;have g3:(cs.drop 7).take 1=_:=e3;have g4:(cs.drop 8).take 1=_:=e4;have g5:(cs.drop 9).take 2=_:=e5;have g6:(cs.drop 11).take 1=_:=e6;have g7:(cs.drop 12).take 1=_:=e7;have g8:(cs.drop 13).take 1=_:=e8
 have g9:(cs.drop 14).take 1=_:=e9;have g10:(cs.drop 15).take 65=_:=e10;have g11:(cs.drop 80).take 65=_:=e11;have g12:(cs.drop 145).take 1=_:=e12;have g13:(cs.drop 146).take 1=_:=e13;rw[g0] at s0;rw[g1] at s1;rw[g2] at s2;rw[g3] at s3;rw[g4] at s4;rw[g5] at s5;rw[g6] at s6;rw[g7] at s7;rw[g8] at s8;rw[g9] at s9;rw[g10] at s10;rw[g11] at s11;rw[g12] at s12;rw[g13,hend] at s13
 have:=s0.trans (congrArg _ (s1.trans (congrArg _ (s2.trans (congrArg _ (s3.trans (congrArg _ (s4.trans (congrArg _ (s5.trans (congrArg _ (s6.trans (congrArg _ (s7.trans (congrArg _ (s8.trans (congrArg _ (s9.trans (congrArg _ (s10.trans (congrArg _ (s11.trans (congrArg _ (s12.trans (congrArg _ s13)))))))))))))))))))))))));rw[List.drop_zero] at this;rw[this];rfl
theorem zoe {e:EntI} (h:EntIn e) (hl:zdP e=true):EntOk e:=by
 unfold zdP zgw at hl;simp only[Bool.and_eq_true,decide_eq_true_eq] at hl;exact⟨h.u,by omega,by omega,h.m,by omega,h.ms,h.k,h.o⟩
def zdA (m:MsgI):MsgI:=⟨m.kind,m.s1,m.s2,m.s3,m.r1,m.r2,m.r3,m.up,m.f,saneK m.k,m.held,m.seq,m.last,m.ents,m.V,m.A,m.not,m.code,m.hV,m.hA⟩
def zcS (m:MsgI):Bool:=zcC m.ents m.held.length m.not.length m.f
theorem sane_ok {m:MsgI} (h:MsgInI m) (hl:zcS m=true):MsgOk (zdA m)∧MsgLe (zdA m)∧KnowG (zdA m).k∧(zad (zdA m).k).size≤50000:=by
 unfold zcS zcC at hl;simp only[Bool.and_eq_true,decide_eq_true_eq,List.all_eq_true] at hl;obtain⟨q0,q1,q2,q3,q4⟩:=hl;obtain⟨q5,q6⟩:=zck.1 q4;have g:=zgc h.k;refine⟨⟨fun c hc=>by have:=q5 c hc;show c.pre.size≤90000;omega,g.ok,by show m.held.length≤1000;omega,fun e he=>zoe (h.ents e he) (q0 e he),by show m.ents.length≤1000;omega,h.V,h.A,h.not,by show m.not.length≤90000;omega,h.kind,h.s,h.r,h.seq,h.code,h.held⟩,⟨by show m.f.length≤90000;omega,?_,?_⟩,g,zj5 h.k⟩
 ·show((m.k.fs.take 6).map zaf).length≤90000
  rw[List.length_map,List.length_take];omega
 ·show(m.k.ks.take 12).length≤90000
  rw[List.length_take];omega
end
end Go.Proofs.YtofjpdgojoppbaaGreatDoor
