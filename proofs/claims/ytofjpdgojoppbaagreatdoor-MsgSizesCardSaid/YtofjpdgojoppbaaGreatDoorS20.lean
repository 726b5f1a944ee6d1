/-
  Of the claim's proof: OpX, OpE, MgB, SmA, MgI, MgJ, SmB, SmN.
-/
import Derived.Test.YtofjpdgojoppbaaGreatDoorS04
import Derived.Test.YtofjpdgojoppbaaGreatDoorS07
import Derived.Test.YtofjpdgojoppbaaGreatDoorS08
import Derived.Test.YtofjpdgojoppbaaGreatDoorS12
import Derived.Test.YtofjpdgojoppbaaGreatDoorS14
import Derived.Test.YtofjpdgojoppbaaGreatDoorS15
import Derived.Test.YtofjpdgojoppbaaGreatDoorS16
import Derived.Test.YtofjpdgojoppbaaGreatDoorS17
import Derived.Test.YtofjpdgojoppbaaGreatDoorS18
import Derived.Test.YtofjpdgojoppbaaGreatDoorS19
set_option maxRecDepth 100000
set_option maxHeartbeats 16000000
set_option linter.unusedVariables false
set_option linter.unusedSimpArgs false
namespace Go.Proofs.YtofjpdgojoppbaaGreatDoor
section
open Go.RowKit Go.ChangeShapes Go.WideShapes Go.ChangeAt Go.Deep
theorem zd0:Tryz.prog.cellsOf 9=1:=by kernel_rfl
theorem zdf:Tryz.prog.cellsOf 4=1:=by kernel_rfl
theorem zdA:Tryz.prog.cellsOf 53=3:=by kernel_rfl
theorem zid:Tryz.prog.cellsOf 55=8:=by kernel_rfl
theorem zgz:Tryz.prog.cellsOf 57=8:=by kernel_rfl
theorem zez (w:World):zaS Tryz.prog w 53 Stamp.cells (fun v=>okI v.v.by_∧okI v.v.n∧okI v.time):=by
 intro H enc fuel cs x h;obtain⟨xs,n,_,_,hlen,hxs,hf⟩:=DataW.trod_struct Tryz.underlying53 h;rw[zdA] at hlen
 match cs,hlen with
 | [c0,c1,c2],_=>
  obtain⟨a,ha,oa⟩:=zv hxs hf (i:=0) rfl zck (zbu w);obtain⟨b,hb,ob⟩:=zv hxs hf (i:=1) rfl zas (zac w);simp[Ver.cells] at ha hb;obtain⟨ha1,ha2⟩:=ha;subst ha1 ha2 hb;exact⟨⟨a,b⟩,rfl,oa.1,oa.2,ob⟩
theorem zkg (w:World):zaS Tryz.prog w 55 UpdI.cells (fun u=>u.in64∧u.p.size≤maxLen∧u.d.size≤maxLen):=by
 intro H enc fuel cs x h;obtain⟨xs,n,_,_,hlen,hxs,hf⟩:=DataW.trod_struct Tryz.underlying55 h;rw[zid] at hlen
 match cs,hlen with
 | [c0,c1,c2,c3,c4,c5,c6,c7],_=>
  obtain⟨a,ha,oa⟩:=zv hxs hf (i:=0) rfl zck (zbu w);obtain⟨b,hb,ob⟩:=zv hxs hf (i:=1) rfl zdA (zez w);obtain⟨c,hc,oc⟩:=zv hxs hf (i:=2) rfl zd0 (zbC Tryz.underlying9);obtain⟨d,hd,od⟩:=zv hxs hf (i:=3) rfl zd0 (zbC Tryz.underlying9);obtain⟨e,he,oe⟩:=zv hxs hf (i:=4) rfl zdf (zcL Tryz.underlying4);simp[Ver.cells,Stamp.cells] at ha hb hc hd he;obtain⟨ha1,ha2⟩:=ha;obtain⟨hb1,hb2,hb3⟩:=hb;subst ha1 ha2 hb1 hb2 hb3 hc hd he;exact⟨⟨a,b,c,d,e⟩,rfl,⟨oa.1.bounds,oa.2.bounds,ob.1.bounds,ob.2.1.bounds,ob.2.2.bounds⟩,oc,od⟩
def MetaI.cells (u:MetaI):List Value:=[.int .i64 u.item.by_,.int .i64 u.item.n,.int .i64 u.st.v.by_,.int .i64 u.st.v.n,.int .i64 u.st.time,.string u.p,.int .i64 u.size,.bool u.dead]
theorem ziN (w:World):zaS Tryz.prog w 57 MetaI.cells (fun u=>u.in64∧in64 u.size∧u.p.size≤maxLen):=by
 intro H enc fuel cs x h;obtain⟨xs,n,_,_,hlen,hxs,hf⟩:=DataW.trod_struct Tryz.underlying57 h;rw[zgz] at hlen
 match cs,hlen with
 | [c0,c1,c2,c3,c4,c5,c6,c7],_=>
  obtain⟨a,ha,oa⟩:=zv hxs hf (i:=0) rfl zck (zbu w);obtain⟨b,hb,ob⟩:=zv hxs hf (i:=1) rfl zdA (zez w);obtain⟨c,hc,oc⟩:=zv hxs hf (i:=2) rfl zd0 (zbC Tryz.underlying9);obtain⟨d,hd,od⟩:=zv hxs hf (i:=3) rfl zas (zac w);obtain⟨e,he,oe⟩:=zv hxs hf (i:=4) rfl zdf (zcL Tryz.underlying4);simp[Ver.cells,Stamp.cells] at ha hb hc hd he;obtain⟨ha1,ha2⟩:=ha;obtain⟨hb1,hb2,hb3⟩:=hb;subst ha1 ha2 hb1 hb2 hb3 hc hd he;exact⟨⟨a,b,c,d,e⟩,rfl,⟨oa.1.bounds,oa.2.bounds,ob.1.bounds,ob.2.1.bounds,ob.2.2.bounds⟩,od.bounds,oc⟩
end
section
open Go.RowKit Go.ChangeShapes Go.WideShapes Go.ChangeAt Go.Deep
structure EntIn (e:EntI):Prop where
 u:e.u.in64
 m:e.m.in64
 ms:in64 e.m.size
 k:in64 e.kind
 o:(in64 e.o.a.by_∧in64 e.o.a.n)∧(in64 e.o.b.by_∧in64 e.o.b.n)
def PairI.cells (p:PairI):List Value:=[.int .i64 p.a.by_,.int .i64 p.a.n,.int .i64 p.b.by_,.int .i64 p.b.n]
theorem zdB:Tryz.prog.cellsOf 59=4:=by kernel_rfl
theorem zig:Tryz.prog.cellsOf 61=21:=by kernel_rfl
theorem zeA (w:World):zaS Tryz.prog w 59 PairI.cells (fun p=>(in64 p.a.by_∧in64 p.a.n)∧(in64 p.b.by_∧in64 p.b.n)):=by
 intro H enc fuel cs x h;obtain⟨xs,n,_,_,hlen,hxs,hf⟩:=DataW.trod_struct Tryz.underlying59 h;rw[zdB] at hlen
 match cs,hlen with
 | [c0,c1,c2,c3],_=>
  obtain⟨a,ha,oa⟩:=zv hxs hf (i:=0) rfl zck (zbu w);obtain⟨b,hb,ob⟩:=zv hxs hf (i:=1) rfl zck (zbu w);simp[Ver.cells] at ha hb;obtain⟨ha1,ha2⟩:=ha;obtain⟨hb1,hb2⟩:=hb;subst ha1 ha2 hb1 hb2;exact⟨⟨a,b⟩,rfl,⟨oa.1.bounds,oa.2.bounds⟩,⟨ob.1.bounds,ob.2.bounds⟩⟩
theorem zf4 (w:World):zaS Tryz.prog w 61 EntI.cells EntIn:=by
 intro H enc fuel cs x h;obtain⟨xs,n,_,_,hlen,hxs,hf⟩:=DataW.trod_struct Tryz.underlying61 h;rw[zig] at hlen
 match cs,hlen with
 | [c0,c1,c2,c3,c4,c5,c6,c7,c8,c9,c10,c11,c12,c13,c14,c15,c16,c17,c18,c19,c20],_=>
  obtain⟨a,ha,oa⟩:=zv hxs hf (i:=0) rfl zas (zac w);obtain⟨b,hb,ob⟩:=zv hxs hf (i:=1) rfl zid (zkg w);obtain⟨c,hc,oc⟩:=zv hxs hf (i:=2) rfl zgz (ziN w);obtain⟨d,hd,od⟩:=zv hxs hf (i:=3) rfl zdB (zeA w);simp[UpdI.cells,MetaI.cells,PairI.cells] at ha hb hc hd;obtain⟨hb1,hb2,hb3,hb4,hb5,hb6,hb7,hb8⟩:=hb;obtain⟨hc1,hc2,hc3,hc4,hc5,hc6,hc7,hc8⟩:=hc;obtain⟨hd1,hd2,hd3,hd4⟩:=hd;subst ha hb1 hb2 hb3 hb4 hb5 hb6 hb7 hb8 hc1 hc2 hc3 hc4 hc5 hc6 hc7 hc8 hd1 hd2 hd3 hd4;exact⟨⟨a,b,c,d⟩,rfl,ob.1,oc.1,oc.2.1,oa.bounds,od⟩
end
section
open Go.RowKit
structure MsgI where
 kind:Int
 s1:Int
 s2:Int
 s3:Int
 r1:Int
 r2:Int
 r3:Int
 up:Bool
 f:List ClauseI
 k:KnowI
 held:List PairI
 seq:Int
 last:Bool
 ents:List EntI
 V:List Int
 A:List Int
 not:List Ver
 code:Int
 hV:V.length=65
 hA:A.length=65
theorem zea {a b:MsgI}:a=b↔(a.kind=b.kind∧(a.s1=b.s1∧a.s2=b.s2∧a.s3=b.s3)∧(a.r1=b.r1∧a.r2=b.r2∧a.r3=b.r3)∧a.up=b.up∧a.seq=b.seq∧a.last=b.last∧a.code=b.code)∧(a.f=b.f∧a.k=b.k∧a.held=b.held∧a.ents=b.ents∧a.not=b.not)∧a.V=b.V∧a.A=b.A:=by
 constructor
 ·rintro rfl
  simp
 ·obtain⟨a1,a2,a3,a4,a5,a6,a7,a8,a9,a10,a11,a12,a13,a14,a15,a16,a17,a18,_,_⟩:=a
  obtain⟨b1,b2,b3,b4,b5,b6,b7,b8,b9,b10,b11,b12,b13,b14,b15,b16,b17,b18,_,_⟩:=b;dsimp only;rintro⟨⟨rfl,⟨rfl,rfl,rfl⟩,⟨rfl,rfl,rfl⟩,rfl,rfl,rfl,rfl⟩,⟨rfl,rfl,rfl,rfl,rfl⟩,rfl,rfl⟩;rfl
instance:DecidableEq MsgI:=fun a b=>decidable_of_iff _ (zea (a:=a) (b:=b)).symm
structure SlM where
 f:SlV
 k1:SlV
 k2:SlV
 held:SlV
 ents:SlV
 not:SlV
def slM0:SlM:=⟨nilS,nilS,nilS,nilS,nilS,nilS⟩
def MsgI.at (m:MsgI) (S:SlM):MsgC:=⟨m.kind,m.s1,m.s2,m.s3,m.r1,m.r2,m.r3,m.up,S.f,S.k1,S.k2,S.held,m.seq,m.last,S.ents,m.V,m.A,S.not,m.code,m.hV,m.hA⟩
def msg0:MsgI:=⟨0,0,0,0,0,0,0,false,[],⟨[],[]⟩,[],0,false,[],vec0,vec0,[],0,by simp[vec0],by simp[vec0]⟩
structure MsgAt (w:World) (S:SlM) (m:MsgI):Prop where
 f:Sl w 3 S.f.val (m.f.map ClauseI.cells)
 k:KnowAt w S.k1.val S.k2.val m.k
 held:Sl w 4 S.held.val (m.held.map PairI.cells)
 ents:Sl w 21 S.ents.val (m.ents.map EntI.cells)
 not:Sl w 2 S.not.val (m.not.map Ver.cells)
end
section
open Go.RowKit
theorem zcd (a1 a2 a3 b1 b2 b3:Int) (w:World):(Op.equalIn 10000 24 (.agg #[.int .i64 a1,.int .i64 a2,.int .i64 a3]) (.agg #[.int .i64 b1,.int .i64 b2,.int .i64 b3])).run Tryz.prog w=.ok (decide (a1=b1∧a2=b2∧a3=b3)) w:=by
 by_cases h1:a1=b1 <;> by_cases h2:a2=b2 <;> by_cases h3:a3=b3 <;> simp[go_sem,h1,h2,h3]
theorem zcI (a b:PairI) (w:World):(Op.equalIn 10000 59 a.val b.val).run Tryz.prog w=.ok (decide (a=b)) w:=by
 obtain⟨⟨a1,a2⟩,⟨a3,a4⟩⟩:=a;obtain⟨⟨b1,b2⟩,⟨b3,b4⟩⟩:=b;unfold PairI.val;by_cases h1:(⟨a1,a2⟩:Ver)=⟨b1,b2⟩ <;> by_cases h2:(⟨a3,a4⟩:Ver)=⟨b3,b4⟩ <;> simp[go_sem,h1,h2,zlF]
def MsgC.slots (a:MsgC) (f k1 k2 held ents not:SlV):MsgC:=⟨a.kind,a.s1,a.s2,a.s3,a.r1,a.r2,a.r3,a.up,f,k1,k2,held,a.seq,a.last,ents,a.V,a.A,not,a.code,a.hV,a.hA⟩
attribute [-simp] Tryz.isAgg61 Tryz.sizeOf61 Tryz.isAgg33 Tryz.sizeOf33 Tryz.isAgg36 Tryz.sizeOf36
theorem ziA (w:World) (a:MsgC) (f k1 k2 held ents not:SlV) (cl:List ClauseI) (hl:List PairI) (el:List EntI) (nl:List Ver)
  (hf:Sl w 3 a.f.val (cl.map ClauseI.cells)) (hf':Sl w 3 f.val (cl.map ClauseI.cells)) (hh:Sl w 4 a.held.val (hl.map PairI.cells)) (hh':Sl w 4 held.val (hl.map PairI.cells))
  (he:Sl w 21 a.ents.val (el.map EntI.cells)) (he':Sl w 21 ents.val (el.map EntI.cells)) (hn:Sl w 2 a.not.val (nl.map Ver.cells)) (hn':Sl w 2 not.val (nl.map Ver.cells))
  (hK:∀ W,Ext w W→Calls Tryz.prog 39 #[.agg #[a.k1.val,a.k2.val],.agg #[k1.val,k2.val]] W (Ret (.bool true) W)) :
  Calls Tryz.prog 12 #[.agg a.arr,.agg (a.slots f k1 k2 held ents not).arr] w (Ret (.bool true) w):=by
 have HA:=hid (zP a);have HB:=hid (zP (a.slots f k1 k2 held ents not));have HAV0:=hid (zbD a);have HBV0:=hid (zbD (a.slots f k1 k2 held ents not));have HAA0:=hid (zbE a);have HBA0:=hid (zbE (a.slots f k1 k2 held ents not));have HAE:=hid (zad a);have HBE:=hid (zad (a.slots f k1 k2 held ents not));generalize a.arr=ar at HA HAV0 HAA0 HAE⊢;generalize (a.slots f k1 k2 held ents not).arr=br at HB HBV0 HBA0 HBE⊢;have HEqV:=fun W=>zay a.V a.V a.hV a.hV W;have HEqA:=fun W=>zay a.A a.A a.hA a.hA W;rw[decide_eq_true rfl] at HEqV HEqA;have hVs:=hid (show(vecV a.V).size=65 by rw[ze];exact a.hV)
 have hAs:=hid (show(vecV a.A).size=65 by rw[ze];exact a.hA);have HAV:=hid (fun j v (h:(vecV a.V)[j]? = some v)=>HAV0.out j v (by simpa[vecV,intsV] using h));have HAA:=hid (fun j v (h:(vecV a.A)[j]? = some v)=>HAA0.out j v (by simpa[vecV,intsV] using h));have HBV:=hid (fun j v (h:(vecV a.V)[j]? = some v)=>HBV0.out j v (by simpa[vecV,intsV,MsgC.slots] using h));have HBA:=hid (fun j v (h:(vecV a.A)[j]? = some v)=>HBA0.out j v (by simpa[vecV,intsV,MsgC.slots] using h));clear HAV0 HAA0 HBV0 HBA0
 obtain⟨ak,as1,as2,as3,ar1,ar2,ar3,aup,⟨af1,af2,af3⟩,⟨ax1,ax2,ax3⟩,⟨ay1,ay2,ay3⟩,⟨ah1,ah2,ah3⟩,aseq,alast,⟨ae1,ae2,ae3⟩,aV,aA,⟨an1,an2,an3⟩,acode,hV,hA⟩:=a;obtain⟨bf1,bf2,bf3⟩:=f;obtain⟨bx1,bx2,bx3⟩:=k1;obtain⟨by1,by2,by3⟩:=k2;obtain⟨bh1,bh2,bh3⟩:=held;obtain⟨be1,be2,be3⟩:=ents;obtain⟨bn1,bn2,bn3⟩:=not;simp only[SlV.val] at hf hf' hh hh' he he' hn hn' hK;have len:∀ {sz:Nat} {α:Type} {code:α→List Value} {l:List α} {A n c},Sl w sz (.slice A n c) (l.map code)→n=l.length:=fun h=>by
  obtain⟨A',c',h1,_⟩:=zr h;injection h1
 obtain rfl:=len hf;obtain rfl:=len hf';obtain rfl:=len hh;obtain rfl:=len hh';obtain rfl:=len he;obtain rfl:=len he';obtain rfl:=len hn;obtain rfl:=len hn';clear len;dsimp only at HAV HAA HBV HBA HEqV HEqA hVs hAs;generalize vecV aV=VV at HAV HBV HEqV hVs;generalize vecV aA=AA at HAA HBA HEqA hAs;have HEqS:=fun x1 x2 x3 W=>(zcd x1 x2 x3 x1 x2 x3 W).trans (by rw[decide_eq_true ⟨rfl,rfl,rfl⟩]);have HReq:=fun W (hW:Ext w W)=>hid (ze8 W _ _ cl cl (hf.ext hW) (hf'.ext hW));have HRvs:=fun W (hW:Ext w W)=>hid (zgI W _ _ nl nl (hn.ext hW) (hn'.ext hW));have HK:=fun W (hW:Ext w W)=>hid (hK W hW);rw[decide_eq_true rfl] at HReq HRvs
 obtain⟨_,_,e1,hh1,hh2,hh3⟩:=zr hh;injection e1 with e1 _ e1c
 subst e1 e1c;obtain⟨_,_,e1,hi1,hi2,hi3⟩:=zr hh';injection e1 with e1 _ e1c
 subst e1 e1c;obtain⟨_,_,e1,he1,he2,he3⟩:=zr he;injection e1 with e1 _ e1c
 subst e1 e1c;obtain⟨_,_,e1,hg1,hg2,hg3⟩:=zr he';injection e1 with e1 _ e1c
 subst e1 e1c;have HH3:=hid hh3;have HI3:=hid hi3;have HE3:=hid he3;have HG3:=hid hg3;clear hf hf' hh hh' he he' hn hn' hK hh3 hi3 he3 hg3;unfold maxLen at hh2 hi2 he2 hg2;have HBa:=hid ((Blk.new w 36 ar).alloc (.cells br 36));have HBb:=hid (Blk.new (w.alloc (.cells ar 36)) 36 br);have HX:=hid ((Ext.alloc w (.cells ar 36)).alloc' (.cells br 36));rw[World.size_alloc] at HBb;have a0:ar[0]? = some (.int .i64 ak):=HA.out 0 (by omega);have b0:br[0]? = some (.int .i64 ak):=HB.out 0 (by omega);have a1:ar[1]? = some (.int .i64 as1):=HA.out 1 (by omega);have b1:br[1]? = some (.int .i64 as1):=HB.out 1 (by omega)
 have a2:ar[2]? = some (.int .i64 as2):=HA.out 2 (by omega);have b2:br[2]? = some (.int .i64 as2):=HB.out 2 (by omega);have a3:ar[3]? = some (.int .i64 as3):=HA.out 3 (by omega);have b3:br[3]? = some (.int .i64 as3):=HB.out 3 (by omega);have a4:ar[4]? = some (.int .i64 ar1):=HA.out 4 (by omega);have b4:br[4]? = some (.int .i64 ar1):=HB.out 4 (by omega);have a5:ar[5]? = some (.int .i64 ar2):=HA.out 5 (by omega);have b5:br[5]? = some (.int .i64 ar2):=HB.out 5 (by omega);have a6:ar[6]? = some (.int .i64 ar3):=HA.out 6 (by omega);have b6:br[6]? = some (.int .i64 ar3):=HB.out 6 (by omega);have a7:ar[7]? = some (.bool aup):=HA.out 7 (by omega)
 have b7:br[7]? = some (.bool aup):=HB.out 7 (by omega);have a8:ar[8]? = some (.slice af1 cl.length af3):=HA.out 8 (by omega);have b8:br[8]? = some (.slice bf1 cl.length bf3):=HB.out 8 (by omega);have a9:ar[9]? = some (.slice ax1 ax2 ax3):=HA.out 9 (by omega);have b9:br[9]? = some (.slice bx1 bx2 bx3):=HB.out 9 (by omega);have a10:ar[10]? = some (.slice ay1 ay2 ay3):=HA.out 10 (by omega);have b10:br[10]? = some (.slice by1 by2 by3):=HB.out 10 (by omega);have a11:ar[11]? = some (.slice ah1 hl.length ah3):=HA.out 11 (by omega);have b11:br[11]? = some (.slice bh1 hl.length bh3):=HB.out 11 (by omega)
 have a12:ar[12]? = some (.int .i64 aseq):=HA.out 12 (by omega);have b12:br[12]? = some (.int .i64 aseq):=HB.out 12 (by omega);have a13:ar[13]? = some (.bool alast):=HA.out 13 (by omega);have b13:br[13]? = some (.bool alast):=HB.out 13 (by omega);have a14:ar[14]? = some (.slice ae1 el.length ae3):=HA.out 14 (by omega);have b14:br[14]? = some (.slice be1 el.length be3):=HB.out 14 (by omega);have a145:ar[145]? = some (.slice an1 nl.length an3):=HAE.out 0;have a146:ar[146]? = some (.int .i64 acode):=HAE.out 1;have b145:br[145]? = some (.slice bn1 nl.length bn3):=HBE.out 0;have b146:br[146]? = some (.int .i64 acode):=HBE.out 1
 have HLa:=hid (fun j v (h:VV[j]? = some v)=>HBa.out.cell (HAV.out j v h));have HLb:=hid (fun j v (h:VV[j]? = some v)=>HBb.out.cell (HBV.out j v h));have HMa:=hid (fun j v (h:AA[j]? = some v)=>HBa.out.cell (HAA.out j v h));have HMb:=hid (fun j v (h:AA[j]? = some v)=>HBb.out.cell (HBA.out j v h));clear HA HB HAE HBE HAV HBV HAA HBA;go_enter Tryz.func12,Tryz.ntmps12;go_wp2_with fail
 simp only[Tryz.sizeOf33,Result.andThen];rw[if_neg (show ¬ (65:Nat)=0 by omega)];dsimp only;rw[Oper.upon_value];go_wp2_with fail
 simp only[Tryz.isAgg33,Tryz.sizeOf33,Result.andThen,↓reduceIte,zo HLa.out 65 hVs.out];rw[Oper.upon_value];go_wp2_with fail
 simp only[Tryz.sizeOf33,Result.andThen];rw[if_neg (show ¬ (65:Nat)=0 by omega)];dsimp only;rw[Oper.upon_value];go_wp2_with fail
 simp only[Tryz.isAgg33,Tryz.sizeOf33,Result.andThen,↓reduceIte,zo HLb.out 65 hVs.out];rw[Oper.upon_value];go_wp2_with fail
 simp only[Tryz.sizeOf33,Result.andThen];rw[if_neg (show ¬ (65:Nat)=0 by omega)];dsimp only;rw[Oper.upon_value];go_wp2_with fail
 simp only[Tryz.isAgg33,Tryz.sizeOf33,Result.andThen,↓reduceIte,zo HMa.out 65 hAs.out];rw[Oper.upon_value];go_wp2_with fail
 simp only[Tryz.sizeOf33,Result.andThen];rw[if_neg (show ¬ (65:Nat)=0 by omega)];dsimp only;rw[Oper.upon_value];go_wp2_with fail
 simp only[Tryz.isAgg33,Tryz.sizeOf33,Result.andThen,↓reduceIte,zo HMb.out 65 hAs.out];rw[Oper.upon_value];go_wp2_with fail
 generalize (w.alloc (.cells ar 36)).alloc (.cells br 36)=w1 at HBa HBb HX⊢;refine((HReq _ HX.out).out).mono ?_;rintro en w2 ⟨rfl,x2⟩;have HX2:=hid (HX.out.trans x2);have HA2:=hid (HBa.out.ext x2);have HB2:=hid (HBb.out.ext x2);clear x2 HX HBa HBb HReq HLa HLb HMa HMb HEqV HEqA hVs hAs HEqS;have c9:=HA2.out.cell a9;have c10:=HA2.out.cell a10;have d9:=HB2.out.cell b9;have d10:=HB2.out.cell b10;go_wp2_with fail
 refine((HK _ HX2.out).out).mono ?_;rintro en w3 ⟨rfl,x3⟩;have HX3:=hid (HX2.out.trans x3);have HA3:=hid (HA2.out.ext x3);have HB3:=hid (HB2.out.ext x3);clear x3 HX2 HA2 HB2 c9 c10 d9 d10 HK;have c145:=HA3.out.cell a145;have d145:=HB3.out.cell b145;go_wp2_with fail
 refine((HRvs _ HX3.out).out).mono ?_;rintro en w4 ⟨rfl,x4⟩;have HX4:=hid (HX3.out.trans x4);have HA4:=hid (HA3.out.ext x4);have HB4:=hid (HB3.out.ext x4);clear x4 HX3 HA3 HB3 c145 d145 HRvs;have c11:=HA4.out.cell a11;have c14:=HA4.out.cell a14;have d11:=HB4.out.cell b11;have d14:=HB4.out.cell b14;have HA11:=hid a11;have HA14:=hid a14;have HB11:=hid b11;have HB14:=hid b14;clear a0 a1 a2 a3 a4 a5 a6 a7 a8 a9 a10 a11 a12 a13 a14 a145 a146 b0 b1 b2 b3 b4 b5 b6 b7 b8 b9 b10 b11 b12 b13 b14 b145 b146;go_wp2_with fail
 clear c11 c14 d11 d14;go_loopw [5] (fun s5 wr=>∃ k:Nat,k≤hl.length∧s5=.int .i64 k∧Hid (Ext w4 wr)) (fun s5 _=>hl.length-(intOf s5).toNat)
 case atStart=>exact⟨0,by omega,rfl,Ext.refl _⟩
 case round=>
  obtain⟨k,hk,rfl,hE⟩:=hrel;have c11:=(HA4.out.ext hE.out).cell HA11.out;have d11:=(HB4.out.ext hE.out).cell HB11.out;have l1:=(HA4.out.ext hE.out).lt;have l2:=(HB4.out.ext hE.out).lt;by_cases hlt:k<hl.length
  ·have e1:decide ((k:Int)<hl.length)=true:=decide_eq_true (by omega)
   have e1':decide (k<hl.length)=true:=decide_eq_true hlt;obtain⟨p,o,rfl,lb,hc⟩:=HH3.out (by omega);obtain⟨p',o',rfl,lb',hc'⟩:=HI3.out (by omega);have hXE:=HX4.out.trans hE.out;have y0:=hXE.cell (hc k hlt 0 _ rfl);have y1:=hXE.cell (hc k hlt 1 _ rfl);have y2:=hXE.cell (hc k hlt 2 _ rfl);have y3:=hXE.cell (hc k hlt 3 _ rfl);have z0:=hXE.cell (hc' k hlt 0 _ rfl);have z1:=hXE.cell (hc' k hlt 1 _ rfl);have z2:=hXE.cell (hc' k hlt 2 _ rfl);have z3:=hXE.cell (hc' k hlt 3 _ rfl);rw[Nat.add_zero] at y0 z0;have l3:=Nat.lt_of_lt_of_le lb hXE.size;have l4:=Nat.lt_of_lt_of_le lb' hXE.size;have HEq:=fun W=>zcI hl[k] hl[k] W
   rw[decide_eq_true rfl] at HEq;clear hc hc' HH3 HI3 hXE lb lb';generalize hl[k]=x at y0 y1 y2 y3 z0 z1 z2 z3 HEq;unfold PairI.val at HEq;go_wp2_with fail
   refine zc (by kernel_rfl) (by kernel_rfl) (by kernel_rfl) ?_
   repeat (first
    | (refine AWq.val rfl rfl rfl rfl (fun K hK=>?_);go_big_quiet_op;refine hK _ ?_;clear hK K)
    | (refine AWq.skip rfl rfl rfl ?_;simp only[Act.put,zq6,zq7,zq8]))
   refine AWq.done rfl rfl rfl (fun w5 x5=>?_);simp only[zl,Act.put,zq6,zq7,zq8];go_wp2_with fail
   go_roundw
   case rel=>exact⟨k+1,by omega,by go_num,hE.out.trans x5⟩
   case measure=>simp[intOf];omega
  ·obtain rfl:k=hl.length:=by omega
   have e1:decide ((hl.length:Int)<hl.length)=false:=decide_eq_false (by omega);have e1':decide (hl.length<hl.length)=false:=decide_eq_false (by omega);have HA5:=hid (HA4.out.ext hE.out);have HB5:=hid (HB4.out.ext hE.out);have HX5:=hid (HX4.out.trans hE.out);have c14:=HA5.out.cell HA14.out;have d14:=HB5.out.cell HB14.out;clear HA4 HB4 HX4 hE hlt hk HH3 HI3 HA11 HB11;go_wp2_with fail
   clear c14 d14 c11 d11 l1 l2;generalize wr=w6 at HA5 HB5 HX5⊢;go_loopw [6] (fun s6 WQ=>∃ k:Nat,k≤el.length∧s6=.int .i64 k∧Hid (Ext w6 WQ)) (fun s6 _=>el.length-(intOf s6).toNat)
   case atStart=>exact⟨0,by omega,rfl,Ext.refl _⟩
   case round=>
    obtain⟨k,hk,rfl,hE⟩:=hrel;have c14:=(HA5.out.ext hE.out).cell HA14.out;have d14:=(HB5.out.ext hE.out).cell HB14.out;have l1:=(HA5.out.ext hE.out).lt;have l2:=(HB5.out.ext hE.out).lt;by_cases hlt:k<el.length
    ·have e1:decide ((k:Int)<el.length)=true:=decide_eq_true (by omega)
     have e1':decide (k<el.length)=true:=decide_eq_true hlt;obtain⟨p,o,rfl,lb,hc⟩:=HE3.out (by omega);obtain⟨p',o',rfl,lb',hc'⟩:=HG3.out (by omega);have HXE:=hid (HX5.out.trans hE.out);have HR1:=hid (fun(q:Nat) u (hu:el[k].arr[q]? = some u)=>HXE.out.cell (hc k hlt q u (by rw[←zbo,Array.getElem?_toList];exact hu)));have HR2:=hid (fun(q:Nat) u (hu:el[k].arr[q]? = some u)=>HXE.out.cell (hc' k hlt q u (by rw[←zbo,Array.getElem?_toList];exact hu)));have HEq:=fun W=>zbN el[k] el[k] W;rw[decide_eq_true rfl] at HEq;have hz:=hid (zal el[k]);clear hc hc' HE3 HG3 HXE lb lb';generalize el[k].arr=arr at HR1 HR2 HEq hz
     go_wp2_with fail
     refine zc (by kernel_rfl) (by kernel_rfl) (by kernel_rfl) ?_
     repeat (first
      | (refine AWq.val rfl rfl rfl rfl (fun K hK=>?_);go_big_quiet_op;refine hK _ ?_;clear hK K)
      | (refine AWq.skip rfl rfl rfl ?_;simp only[Act.put,zq6,zq7,zq8])
      | (refine AWq.val rfl rfl rfl rfl (fun K hK=>?_);refine zX (k:=k) rfl rfl rfl rfl hlt (hK _ ?_);clear hK K;simp only[Act.put,zq6,zq7,zq8])
      | (refine AWq.val rfl rfl rfl rfl (fun K hK=>?_);refine zj rfl rfl (fun wc hwc=>by obtain⟨E,rfl⟩:=hwc;exact zai hz.out (fun j v hv=>(Ext.of_wext _ _).cell (HR1.out j v hv))) (hK _ ?_);clear hK K;simp only[Act.put,zq6,zq7,zq8])
      | (refine AWq.val rfl rfl rfl rfl (fun K hK=>?_);refine zj rfl rfl (fun wc hwc=>by obtain⟨E,rfl⟩:=hwc;exact zai hz.out (fun j v hv=>(Ext.of_wext _ _).cell (HR2.out j v hv))) (hK _ ?_);clear hK K;simp only[Act.put,zq6,zq7,zq8]))
     refine AWq.done rfl rfl rfl (fun w5 x5=>?_);simp only[zl,Act.put,zq6,zq7,zq8];go_wp2_with fail
     go_roundw
     case rel=>exact⟨k+1,by omega,by go_num,hE.out.trans x5⟩
     case measure=>simp[intOf];omega
    ·obtain rfl:k=el.length:=by omega
     have e1:decide ((el.length:Int)<el.length)=false:=decide_eq_false (by omega);have e1':decide (el.length<el.length)=false:=decide_eq_false (by omega);have HX6:=hid (HX5.out.trans hE.out);clear HE3 HG3 HX5 hE HA5 HB5;go_wp2_with fail
     go_ret;exact⟨rfl,HX6.out⟩
end
section
open Go.RowKit
def zav (ls:List (List FldI)):List FldI:=if ls.all (fun l=>!l.isEmpty) then ls.flatten else []
theorem zmw {α:Type} {p:α→Bool} {l:List α} {k:Nat} (h:k<l.length):(l.take (k+1)).all p=((l.take k).all p&&p l[k]):=by
 rw[List.take_succ_eq_append_getElem h,List.all_append];simp
theorem zmv {α:Type} {p:α→Bool} {l:List α} {k:Nat} (h:k<l.length) (hp:p l[k]=false):l.all p=false:=by
 rw[List.all_eq_false];exact⟨l[k],List.getElem_mem h,by simp[hp]⟩
theorem emp_len {α:Type} {l:List α}:(!l.isEmpty)=false↔l.length=0:=by cases l <;> simp
theorem whole_c (w : World) (v : Value) (rows : List (SlV × List FldI)) (h : Sl w 1 v (rows.map (fun r : SlV × List FldI => [r.1.val]))) (hr : ∀ r ∈ rows, Sl w 3 r.1.val (r.2.map FldI.cells)) (hl : ∀ k, ((rows.take k).map (·.2)).flatten.length ≤ 100000) (hl2 : ∀ r ∈ rows, r.2.length ≤ 100000) : Calls Tryz.prog 103 #[v] w (RetQ (RowAt FldI.cells 3 (zav (rows.map (·.2)))) w) := by
  obtain ⟨A, c, rfl, h1, h2, h3⟩ := zr (code := fun r : SlV × List FldI => [r.1.val]) h
  unfold maxLen at h2
  have H3 := hid h3
  have HR := hid hr
  have HL := hid hl
  have HL2 := hid hl2
  clear h h3 hr hl hl2
  go_enter Tryz.func103, Tryz.ntmps103
  go_wp2_with fail
  go_loopw [3, 8] (fun ou iv wr => ∃ (k : Nat) (ov : Value), ov = ou ∧ k ≤ rows.length ∧ iv = .int .i64 k ∧ Hid (Ext w wr) ∧ Hid (OwnF ((rows.take k).map (·.2)).flatten w.heap.size ov wr) ∧ Hid ((k = 0 → ov = .slice none 0 0) ∧ (0 < k → 0 < ((rows.take k).map (·.2)).flatten.length) ∧ ((rows.take k).map (·.2)).all (fun l => !l.isEmpty) = true)) (fun _ iv _ => rows.length - (intOf iv).toNat)
  case atStart => exact ⟨0, _, rfl, by omega, rfl, Ext.refl _, zp _ _ _ _, fun _ => rfl, fun h => by omega, rfl⟩
  case round =>
    obtain ⟨k, ov, rfl, hk, rfl, hE, hO, hP⟩ := hrel
    by_cases hlt : k < rows.length
    · obtain ⟨b, o, rfl, lb, hcell⟩ := H3.out (by omega)
      have c0 := hE.out.cell (hcell k hlt 0 _ rfl)
      rw [Nat.mul_one, Nat.add_zero] at c0
      have lbr := Nat.lt_of_lt_of_le lb hE.out.size
      have hrow := (HR.out _ (List.getElem_mem hlt)).ext hE.out
      have hml := HL2.out _ (List.getElem_mem hlt)
      have hal := HL.out k
      have HM : Hid (((rows.take (k + 1)).map (·.2)).flatten = ((rows.take k).map (·.2)).flatten ++ rows[k].2) := by
        unfold Hid
        rw [List.take_succ_eq_append_getElem hlt, List.map_append, List.flatten_append]
        simp
      have HA : Hid (((rows.take (k + 1)).map (·.2)).all (fun l => !l.isEmpty) = (((rows.take k).map (·.2)).all (fun l => !l.isEmpty) && !rows[k].2.isEmpty)) := by
        unfold Hid
        rw [List.take_succ_eq_append_getElem hlt, List.map_append, List.all_append]
        simp
      have HN : Hid ((!rows[k].2.isEmpty) = false → zav (rows.map (·.2)) = []) := fun h => by
        unfold zav
        rw [if_neg]
        rw [zmv (k := k) (by rw [List.length_map]; exact hlt) (by rw [List.getElem_map]; exact h)]
        simp
      clear hcell H3 HR HL HL2
      generalize ((rows.take k).map (·.2)).flatten = acc at hO hP HM hal
      generalize ((rows.take k).map (·.2)).all (fun l => !l.isEmpty) = ta at hP HA
      generalize rows[k] = r at c0 hrow hml HM HA HN
      obtain ⟨⟨a1, a2, a3⟩, fl⟩ := r
      dsimp only [SlV.val] at c0 hrow
      dsimp only at hml HM HA HN
      obtain ⟨A1, c1, e1, _⟩ := zr hrow
      injection e1 with e1 e2 e3
      subst e1 e2 e3
      have HRow := hid hrow
      clear hrow
      cases hz : ((fl.length : Int) == 0) with
      | true =>
        have h0 : fl.length = 0 := by have : (fl.length : Int) = 0 := by simpa using hz
                                      omega
        have HN2 := hid (HN.out (emp_len.2 h0))
        clear HN HM HA hP hO h0 HRow
        go_wp2_with fail
        go_ret
        exact ⟨_, rfl, by rw [HN2.out]; exact RowAt.nil _, hE.out⟩
      | false =>
        have h0 : fl.length ≠ 0 := by intro h; rw [h] at hz; simp at hz
        have hne : (!fl.isEmpty) = true := by cases fl <;> simp at h0 ⊢
        obtain ⟨v', w6, hr6, ho6, hk6⟩ := hO.out.app hE.out.size HRow.out hal hml
        have HO6 := hid ho6
        have HE6 := hid (hk6.toExt hE.out (fun q hq => (zt hO.out q hq).1))
        clear ho6 hk6 hO HN HRow
        go_wp2_with (at_builtin; refine zx rfl (.tmp 15) (.tmp 16) _ _ rfl rfl rfl hr6 ?_)
        go_roundw
        case rel => exact ⟨k + 1, _, rfl, by omega, by go_num, HE6.out, by rw [HM.out]; exact HO6.out, fun h => by omega, fun _ => by rw [HM.out, List.length_append]; omega, by rw [HA.out, hne, hP.out.2.2]; rfl⟩
        case measure => simp [intOf]; omega
    · obtain rfl : k = rows.length := by omega
      rw [List.take_length] at hO hP
      have HW : Hid (zav (rows.map (·.2)) = (rows.map (·.2)).flatten) := if_pos hP.out.2.2
      have HZ : Hid ((rows.map (·.2)).flatten.length = 0 → ov = .slice none 0 0) := fun h => by
        by_cases h0 : rows.length = 0
        · exact hP.out.1 h0
        · have := hP.out.2.1 (by omega); omega
      clear H3 HR HL HL2 hP
      go_wp2_with fail
      go_ret
      exact ⟨_, rfl, by rw [HW.out]; exact RowAt.of_row fld_coded hO.out HZ.out, hE.out⟩
theorem zeW (a b:Ver) (w:World):Calls Tryz.prog 177 #[a.val,b.val] w (Ret (.bool (a.lt b)) w):=by
 have H:∀ W,Hid (Calls Tryz.prog 184 #[.agg #[.int .i64 a.by_,.int .i64 a.n],.agg #[.int .i64 b.by_,.int .i64 b.n]] W (Ret (.int .i64 (zcj a b)) W)):=fun W=>order_e a b W;have HL:=hid (zfK a b);unfold Ver.val;generalize zcj a b=z at H HL;go_enter Tryz.func177,Tryz.ntmps177;go_wp2_with (go_at_call 184;refine(H _).out.mono ?_;rintro e w' ⟨rfl,hx⟩)
 go_ret;exact⟨by rw[HL.out];rfl,(((Ext.refl _).alloc' _).alloc' _).trans hx⟩
def zdo (l:List PairI):List FldI:=fN l.length::(l.map bothF).flatten
def zco (l:List EntI):List FldI:=if l.all zJ then fN l.length::(l.map entF).flatten else []
theorem zd4 (p:PairI):(bothF p).length≤5:=by show 4≤5;omega
theorem zeK (e:EntI):(entF e).length≤5:=by
 unfold entF
 split
 ·split
  ·show 2≤5;omega
  ·split
   ·show 2≤5;omega
   ·show 5≤5;omega
 ·exact Nat.zero_le _
theorem zcQ {α:Type} (f:α→List FldI) (hf:∀ x,(f x).length≤5):∀ l:List α,((l.map f).flatten).length≤5*l.length
 | []=>by simp
 | x::l=>by
  have:=zcQ f hf l;have:=hf x;rw[List.map_cons,List.flatten_cons,List.length_append,List.length_cons];omega
theorem listP_c (w:World) (v:Value) (l:List PairI) (h:Sl w 4 v (l.map PairI.cells)) (hl:l.length≤1000):Calls Tryz.prog 178 #[v,.func (.func 96) #[] #[]] w (RetQ (RowAt FldI.cells 3 (zdo l)) w):=by
 obtain⟨A,c,rfl,h1,h2,h3⟩:=zr h;unfold maxLen at h2;have HN:=fun W n=>hid (fN_c W n);have HOne:=fun W (hW:Ext w W) (x:PairI)=>hid (zmr W x);have H3:=hid h3;clear h h3;unfold zdo;go_enter Tryz.func178,Tryz.ntmps178;go_wp2_with fail
 refine((HN _ _).out).mono ?_;rintro en w1 ⟨rfl,x1⟩;have HE1:=hid x1;clear x1;have HF0:Hid (OwnF [fN l.length] w.heap.size (.slice (some ⟨w1.heap.size,0,none⟩) 1 1) (w1.alloc (.cells #[.int .i64 l.length,.string ⟨#[]⟩,.bool false] 140))):=zaH HE1.out.size 140 3 1 #[.int .i64 l.length,.string ⟨#[]⟩,.bool false] (by unfold maxLen;omega) rfl;have HE2:=hid (HE1.out.alloc' (.cells #[.int .i64 l.length,.string ⟨#[]⟩,.bool false] 140));go_wp2_with fail
 generalize w1.alloc (.cells #[.int .i64 l.length,.string ⟨#[]⟩,.bool false] 140)=w2 at HF0 HE2⊢;go_loopw [5,15] (fun s5 s15 wr=>∃ (k:Nat) (ov:Value),ov=s5∧k≤l.length∧s15=.int .i64 k∧Hid (Ext w wr)∧Hid (OwnF (fN l.length::((l.take k).map bothF).flatten) w.heap.size ov wr)) (fun _ s15 _=>l.length-(intOf s15).toNat)
 case atStart=>exact⟨0,_,rfl,by omega,rfl,HE2,HF0⟩
 case round=>
  obtain⟨k,s5,rfl,hk,rfl,hE,hO⟩:=hrel;clear HF0 HE2 HE1 HN;by_cases hlt:k<l.length
  ·have d1:decide ((k:Int)<l.length)=true:=decide_eq_true (by omega)
   have d1':decide (k<l.length)=true:=decide_eq_true hlt;obtain⟨b,o,rfl,lb,hcell⟩:=H3.out (by omega);have lbr:=Nat.lt_of_lt_of_le lb hE.out.size;have HM:Hid (((l.take (k+1)).map bothF).flatten=((l.take k).map bothF).flatten++bothF l[k]):=by
    unfold Hid;rw[List.take_succ_eq_append_getElem hlt,List.map_append,List.flatten_append];simp
   have hlen:=zcQ bothF zd4 (l.take k);have htk:(l.take k).length≤1000:=by rw[List.length_take];omega
   have hen:=zd4 l[k];have HC:=fun W (hW:Ext wr W)=>HOne W (hE.out.trans hW) l[k];have c0:=hE.out.cell (hcell k hlt 0 _ rfl);have c1:=hE.out.cell (hcell k hlt 1 _ rfl);have c2:=hE.out.cell (hcell k hlt 2 _ rfl);have c3:=hE.out.cell (hcell k hlt 3 _ rfl);rw[Nat.add_zero] at c0;clear hcell H3 HOne lb;generalize hacc1:((l.take (k+1)).map bothF).flatten=acc1 at HM;have HA1:=hid hacc1;clear hacc1;generalize hacc:((l.take k).map bothF).flatten=acc at hO HM hlen;clear hacc;generalize l[k]=x at HM HC hen c0 c1 c2 c3;unfold PairI.val at HC;go_wp2_with fail
   have HE2:=hid (Ext.alloc wr (.cells #[.int .i64 x.a.by_,.int .i64 x.a.n,.int .i64 x.b.by_,.int .i64 x.b.n] 59));generalize wr.alloc (.cells #[.int .i64 x.a.by_,.int .i64 x.a.n,.int .i64 x.b.by_,.int .i64 x.b.n] 59)=w2 at HE2⊢;refine((HC _ HE2.out).out).mono ?_;rintro en w3 ⟨u,rfl,hu,x3⟩;have HE3:=hid (hE.out.trans (HE2.out.trans x3));have hO3:=hid (hO.out.ext (HE2.out.trans x3));have hrow:=hu.sl;obtain⟨A4,c4,rfl,_⟩:=zr hrow;obtain⟨v',w6,hr6,ho6,hk6⟩:=hO3.out.app HE3.out.size hrow (by rw[List.length_cons];omega) (by omega);have HO6:Hid (OwnF (fN l.length::acc1) w.heap.size v' w6):=by
    unfold Hid;rw[HM.out];exact ho6
   have HE6:=hid (hk6.toExt HE3.out (fun q hq=>(zt hO3.out q hq).1));have d4:(((bothF x).length:Int)==0)=false:=rfl;clear ho6 hk6 hO3 hrow hu x3 HE2 hE hO HC;go_wp2_with (at_builtin;refine zx rfl (.tmp 25) (.tmp 26) _ _ rfl rfl rfl hr6 ?_)
   go_roundw
   case rel=>exact⟨k+1,_,rfl,by omega,by go_num,HE6,by rw[HA1.out];exact HO6⟩
   case measure=>simp[intOf];omega
  ·obtain rfl:k=l.length:=by omega
   rw[List.take_length] at hO;have d1:decide ((l.length:Int)<l.length)=false:=decide_eq_false (by omega);have d1':decide (l.length<l.length)=false:=decide_eq_false (by omega);clear H3 HOne;go_wp2_with fail
   go_ret;exact⟨_,rfl,RowAt.of_row fld_coded hO.out (fun h=>by simp at h),hE.out⟩
attribute [-simp] Tryz.isAgg61 Tryz.sizeOf61
theorem listE_c (w:World) (v:Value) (l:List EntI) (m:Int) (hm:w.cell? ⟨0,0,none⟩=some (.int .i64 m)) (hok:∀ e∈l,EntOk e) (h:Sl w 21 v (l.map EntI.cells)) (hl:l.length≤1000):Calls Tryz.prog 172 #[v,.func (.func 52) #[] #[]] w (RetQ (RowAt FldI.cells 3 (zco l)) w):=by
 obtain⟨A,c,rfl,h1,h2,h3⟩:=zr h;unfold maxLen at h2;have HN:=fun W n=>hid (fN_c W n);have HOne:=fun W (hW:Ext w W) (x:EntI) (hx:x∈l)=>hid (zjM W x m (hW.cell hm) (hok x hx));have HOk:=hid hok;have H3:=hid h3;clear h h3 hm hok;obtain⟨Z,hZ⟩:∃ Z:Array Value,entZ=Z:=⟨_,rfl⟩
 have hZs:Z.size=21:=by rw[←hZ];rfl
 have HZ:=hid hZs;unfold entZ at hZ;clear hZs;have HRes:Hid (l.all zJ=true→zco l=fN l.length::(l.map entF).flatten):=fun h=>if_pos h;have HResN:Hid (l.all zJ=false→zco l=[]):=fun h=>if_neg (by rw[h];decide);generalize zco l=R at HRes HResN⊢;go_enter Tryz.func172,Tryz.ntmps172;go_wp2_with fail
 refine((HN _ _).out).mono ?_;rintro en w1 ⟨rfl,x1⟩;have HE1:=hid x1;clear x1;have HF0:Hid (OwnF [fN l.length] w.heap.size (.slice (some ⟨w1.heap.size,0,none⟩) 1 1) (w1.alloc (.cells #[.int .i64 l.length,.string ⟨#[]⟩,.bool false] 140))):=zaH HE1.out.size 140 3 1 #[.int .i64 l.length,.string ⟨#[]⟩,.bool false] (by unfold maxLen;omega) rfl;have HE2:=hid (HE1.out.alloc' (.cells #[.int .i64 l.length,.string ⟨#[]⟩,.bool false] 140));go_wp2_with fail
 generalize w1.alloc (.cells #[.int .i64 l.length,.string ⟨#[]⟩,.bool false] 140)=w2 at HF0 HE2⊢;go_loopw [5,15] (fun s5 s15 wr=>∃ (k:Nat) (ov:Value),ov=s5∧k≤l.length∧s15=.int .i64 k∧Hid (Ext w wr)∧Hid ((l.take k).all zJ=true)∧Hid (OwnF (fN l.length::((l.take k).map entF).flatten) w.heap.size ov wr)) (fun _ s15 _=>l.length-(intOf s15).toNat)
 case atStart=>exact⟨0,_,rfl,by omega,rfl,HE2,rfl,HF0⟩
 case round=>
  obtain⟨k,s5,rfl,hk,rfl,hE,hG,hO⟩:=hrel;clear HF0 HE2 HE1 HN;by_cases hlt:k<l.length
  ·have d1:decide ((k:Int)<l.length)=true:=decide_eq_true (by omega)
   have d1':decide (k<l.length)=true:=decide_eq_true hlt;obtain⟨b,o,rfl,lb,hcell⟩:=H3.out (by omega);have lbr:=Nat.lt_of_lt_of_le lb hE.out.size;have HM:Hid (((l.take (k+1)).map entF).flatten=((l.take k).map entF).flatten++entF l[k]):=by
    unfold Hid;rw[List.take_succ_eq_append_getElem hlt,List.map_append,List.flatten_append];simp
   have hlen:=zcQ entF zeK (l.take k);have htk:(l.take k).length≤1000:=by rw[List.length_take];omega
   have hen:=zeK l[k];have HC:=fun W (hW:Ext wr W)=>HOne W (hE.out.trans hW) l[k] (List.getElem_mem hlt);have HG1:Hid ((l.take (k+1)).all zJ=((l.take k).all zJ&&zJ l[k])):=zmw hlt;have HBad:Hid (zJ l[k]=false→R=[]):=fun h=>HResN.out (zmv hlt h);have HPos:Hid (zJ l[k]=true→0<(entF l[k]).length):=fun h=>(zg3 (HOk.out _ (List.getElem_mem hlt)) h).2.1;have HR1:=hid (fun(q:Nat) u (hu:l[k].arr[q]? = some u)=>hE.out.cell (hcell k hlt q u (by rw[←zbo,Array.getElem?_toList];exact hu)));have hz:=hid (zal l[k]);have ho1:=hid (zdi l[k]);clear hcell H3 HOne lb HOk HRes HResN
   generalize hacc1:((l.take (k+1)).map entF).flatten=acc1 at HM;have HA1:=hid hacc1;clear hacc1;generalize hacc:((l.take k).map entF).flatten=acc at hO HM hlen;clear hacc;generalize l[k]=x at HM HC hen HR1 hz ho1 HG1 HBad HPos;generalize x.arr=X at HR1 hz ho1 HC;go_wp2_with fail
   simp only[Tryz.sizeOf61,Result.andThen];rw[Oper.upon_value];go_wp2_with fail
   simp only[Tryz.isAgg61,Tryz.sizeOf61,Result.andThen,↓reduceIte,zo HR1.out 21 hz.out];rw[Oper.upon_value];go_wp2_with fail
   have HB3:=hid (Blk.new wr 61 Z);simp only[Tryz.sizeOf61,Result.andThen,↓reduceIte,zb HB3.out (by rw[hz.out];exact zbc) (by rw[hz.out,HZ.out]) ho1.out,hz.out];rw[Oper.upon_skip];rw[World.setRow_alloc_new];have HB2:=hid (Blk.new wr 61 X);have HE2:=hid (Ext.alloc wr (.cells X 61));clear HB3 HR1;go_wp2_with fail
   generalize wr.alloc (.cells X 61)=w2 at HB2 HE2⊢;simp only[Tryz.isAgg61,Tryz.sizeOf61,Result.andThen,↓reduceIte,za HB2.out 21 hz.out];rw[Oper.upon_value];go_wp2_with fail
   cases hrx:zJ x with
   | false=>
    have hnil:=(ze4 hrx).2;rw[hnil] at HC;have HB:=hid (HBad.out hrx);clear HBad HPos HM HA1 HG1 hen;refine((HC _ HE2.out).out).mono ?_;rintro en w3 ⟨u,rfl,hu,x3⟩;have HE3:=hid (hE.out.trans (HE2.out.trans x3));obtain rfl:=hu.2 rfl;clear x3 hu HE2 hE hO HC HB2;go_wp2_with fail
    go_ret;exact⟨_,rfl,by rw[HB.out];exact RowAt.nil _,HE3.out⟩
   | true=>
    have hp:=HPos.out hrx;refine((HC _ HE2.out).out).mono ?_;rintro en w3 ⟨u,rfl,hu,x3⟩;have HE3:=hid (hE.out.trans (HE2.out.trans x3));have hO3:=hid (hO.out.ext (HE2.out.trans x3));have hrow:=hu.1;obtain⟨A4,c4,rfl,_⟩:=zr hrow;obtain⟨v',w6,hr6,ho6,hk6⟩:=hO3.out.app HE3.out.size hrow (by rw[List.length_cons];omega) (by omega);have HO6:Hid (OwnF (fN l.length::acc1) w.heap.size v' w6):=by
     unfold Hid;rw[HM.out];exact ho6
    have HE6:=hid (hk6.toExt HE3.out (fun q hq=>(zt hO3.out q hq).1));have d4:(((entF x).length:Int)==0)=false:=by
     have:¬ ((entF x).length:Int)=0:=by omega
     simpa using this
    have HGn:Hid ((l.take (k+1)).all zJ=true):=by unfold Hid;rw[HG1.out,hG.out,hrx];rfl
    clear ho6 hk6 hO3 hrow hu x3 HE2 hE hO HC HB2 HBad HPos HG1 hrx hp;go_wp2_with (at_builtin;refine zx rfl (.tmp 25) (.tmp 26) _ _ rfl rfl rfl hr6 ?_)
    go_roundw
    case rel=>exact⟨k+1,_,rfl,by omega,by go_num,HE6,HGn,by rw[HA1.out];exact HO6⟩
    case measure=>simp[intOf];omega
  ·obtain rfl:k=l.length:=by omega
   rw[List.take_length] at hO hG;have HW:=hid (HRes.out hG.out);have d1:decide ((l.length:Int)<l.length)=false:=decide_eq_false (by omega);have d1':decide (l.length<l.length)=false:=decide_eq_false (by omega);clear H3 HOne HRes HResN HOk;go_wp2_with fail
   go_ret;exact⟨_,rfl,by rw[HW.out];exact RowAt.of_row fld_coded hO.out (fun h=>by simp at h),hE.out⟩
end
section
open Go.RowKit
def okAt (l:List PairI) (k:Nat):Bool:=match l[k]? with
 | none=>true
 | some x=>zaP x&&(match k with
  | 0=>true
  | j+1=>match l[j]? with
   | none=>true
   | some y=>y.a.lt x.a)
def zdP (l:List PairI):Bool:=(List.range l.length).all (okAt l)
def zcn (l:List PairI):List FldI:=if zdP l then zdo l else []
theorem zfa (l:List PairI) (k:Nat):(List.range (k+1)).all (okAt l)=((List.range k).all (okAt l)&&okAt l k):=by
 rw[List.range_succ,List.all_append];simp
theorem zhu {l:List PairI} {k:Nat} (h:k<l.length) (hp:okAt l k=false):zdP l=false:=by
 unfold zdP;rw[List.all_eq_false];exact⟨k,List.mem_range.2 h,by simp[hp]⟩
theorem zkm {l:List PairI} (h:0<l.length):okAt l 0=zaP l[0]:=by
 unfold okAt;rw[List.getElem?_eq_getElem h];simp
theorem zkn {l:List PairI} {j:Nat} (h:j+1<l.length):okAt l (j+1)=(zaP l[j+1]&&(l[j]'(by omega)).a.lt l[j+1].a):=by
 unfold okAt;rw[List.getElem?_eq_getElem h];dsimp only;rw[List.getElem?_eq_getElem (show j<l.length by omega)]
theorem held_c (w:World) (v:Value) (l:List PairI) (h:Sl w 4 v (l.map PairI.cells)) (hl:l.length≤1000):Calls Tryz.prog 171 #[v] w (RetQ (RowAt FldI.cells 3 (zcn l)) w):=by
 have HList:=fun W (hW:Ext w W)=>hid (listP_c W v l (h.ext hW) hl);obtain⟨A,c,rfl,h1,h2,h3⟩:=zr h;unfold maxLen at h2;have H3:=hid h3;have HYes:Hid (zdP l=true→zcn l=zdo l):=fun h=>if_pos h;have HNo:Hid (zdP l=false→zcn l=[]):=fun h=>if_neg (by rw[h];decide);clear h h3;go_enter Tryz.func171,Tryz.ntmps171;go_wp2_with fail
 go_loopw [6] (fun iv wr=>∃ k:Nat,k≤l.length∧iv=.int .i64 k∧Hid (Ext w wr)∧Hid ((List.range k).all (okAt l)=true)) (fun iv _=>l.length-(intOf iv).toNat)
 case atStart=>exact⟨0,by omega,rfl,Ext.refl _,rfl⟩
 case round=>
  obtain⟨k,hk,rfl,hE,hG⟩:=hrel;by_cases hlt:k<l.length
  ·obtain⟨b,o,rfl,lb,hcell⟩:=H3.out (by omega)
   have lbr:=Nat.lt_of_lt_of_le lb hE.out.size;rcases k with _ | j
   ·have c0:=hE.out.cell (hcell 0 hlt 0 _ rfl)
    have c1:=hE.out.cell (hcell 0 hlt 1 _ rfl);have c2:=hE.out.cell (hcell 0 hlt 2 _ rfl);have c3:=hE.out.cell (hcell 0 hlt 3 _ rfl);simp only[Nat.zero_mul,Nat.add_zero] at c0 c1 c2 c3;have HG0:Hid (okAt l 0=true→(List.range (0+1)).all (okAt l)=true):=fun h=>by rw[zfa,h];rfl
    have HX0:Hid (okAt l 0=false→zcn l=[]):=fun h=>HNo.out (zhu hlt h);have HO:=hid (zkm hlt);clear hcell H3 HYes HNo lb hG HList;generalize l[0]=x at c0 c1 c2 c3 HO;have HP:=fun W=>hid (zeI W x);have HB:=fun W=>hid (zeW x.a x.a W);cases hp:zaP x with
    | true=>
     rw[hp] at HP HO;have HG:=hid (HG0.out HO.out);clear HG0 HX0 HO hp;unfold PairI.val at HP;go_wp2_with fail
     refine zc (by kernel_rfl) (by kernel_rfl) (by kernel_rfl) ?_
     repeat (first
      | (refine AWq.val rfl rfl rfl rfl (fun K hK=>?_);go_big_quiet_op;refine hK _ ?_;clear hK K)
      | (refine AWq.skip rfl rfl rfl ?_;simp only[Act.put,zq6,zq7,zq8])
      | (refine AWq.call rfl Tryz.func94 (by kernel_rfl) (by kernel_rfl) rfl rfl rfl ?_;apply Exists.intro;refine And.intro (fun wc hc=>?_) ?_;(· (simp only[zh,zm,↓reduceIte,Nat.reduceEqDiff,zq1,zq2,zq3,zq4,zq5];with_reducible exact(HP _).out));simp only[Act.put,zq6,zq7,zq8])
      | (refine AWq.call rfl Tryz.func177 (by kernel_rfl) (by kernel_rfl) rfl rfl rfl ?_;apply Exists.intro;refine And.intro (fun wc hc=>?_) ?_;(· (simp only[zh,zm,↓reduceIte,Nat.reduceEqDiff,zq1,zq2,zq3,zq4,zq5];with_reducible exact(HB _).out));simp only[Act.put,zq6,zq7,zq8]))
     refine AWq.done rfl rfl rfl (fun w5 x5=>?_);simp only[zl,Act.put,zq6,zq7,zq8];go_wp2_with fail
     go_roundw
     case rel=>exact⟨0+1,by omega,by go_num,hE.out.trans x5,HG.out⟩
     case measure=>simp[intOf];omega
    | false=>
     rw[hp] at HP HO;have HX:=hid (HX0.out HO.out);clear HG0 HX0 HO hp;unfold PairI.val at HP;go_wp2_with fail
     refine zc (by kernel_rfl) (by kernel_rfl) (by kernel_rfl) ?_
     repeat (first
      | (refine AWq.val rfl rfl rfl rfl (fun K hK=>?_);go_big_quiet_op;refine hK _ ?_;clear hK K)
      | (refine AWq.skip rfl rfl rfl ?_;simp only[Act.put,zq6,zq7,zq8])
      | (refine AWq.call rfl Tryz.func94 (by kernel_rfl) (by kernel_rfl) rfl rfl rfl ?_;apply Exists.intro;refine And.intro (fun wc hc=>?_) ?_;(· (simp only[zh,zm,↓reduceIte,Nat.reduceEqDiff,zq1,zq2,zq3,zq4,zq5];with_reducible exact(HP _).out));simp only[Act.put,zq6,zq7,zq8])
      | (refine AWq.call rfl Tryz.func177 (by kernel_rfl) (by kernel_rfl) rfl rfl rfl ?_;apply Exists.intro;refine And.intro (fun wc hc=>?_) ?_;(· (simp only[zh,zm,↓reduceIte,Nat.reduceEqDiff,zq1,zq2,zq3,zq4,zq5];with_reducible exact(HB _).out));simp only[Act.put,zq6,zq7,zq8]))
     refine AWq.done rfl rfl rfl (fun w5 x5=>?_);simp only[zl,Act.put,zq6,zq7,zq8];go_wp2_with fail
     go_ret;exact⟨_,rfl,by rw[HX.out];exact RowAt.nil _,hE.out.trans x5⟩
   ·have c0:=hE.out.cell (hcell (j+1) hlt 0 _ rfl)
    have c1:=hE.out.cell (hcell (j+1) hlt 1 _ rfl);have c2:=hE.out.cell (hcell (j+1) hlt 2 _ rfl);have c3:=hE.out.cell (hcell (j+1) hlt 3 _ rfl);have e0:=hE.out.cell (hcell j (by omega) 0 _ rfl);have e1:=hE.out.cell (hcell j (by omega) 1 _ rfl);rw[Nat.add_zero] at c0 e0;have HG0:Hid (okAt l (j+1)=true→(List.range (j+1+1)).all (okAt l)=true):=fun h=>by rw[zfa,h,hG.out];rfl
    have HX0:Hid (okAt l (j+1)=false→zcn l=[]):=fun h=>HNo.out (zhu hlt h);have HO:=hid (zkn hlt);clear hcell H3 HYes HNo lb hG HList;generalize l[j+1]=x at c0 c1 c2 c3 HO;generalize l[j]'(by omega)=y at e0 e1 HO;have HP:=fun W=>hid (zeI W x);have HB:=fun W=>hid (zeW y.a x.a W);unfold Ver.val at HB;have d0:decide ((0:Int)<(j:Int)+1)=true:=decide_eq_true (by omega);cases hp:zaP x with
    | true=>
     rw[hp] at HP HO;cases ht:y.a.lt x.a with
     | true=>
      rw[ht] at HB HO;have HG:=hid (HG0.out HO.out);clear HG0 HX0 HO hp ht;unfold PairI.val at HP;go_wp2_with fail
      refine zc (by kernel_rfl) (by kernel_rfl) (by kernel_rfl) ?_
      repeat (first
       | (refine AWq.val rfl rfl rfl rfl (fun K hK=>?_);go_big_quiet_op;refine hK _ ?_;clear hK K)
       | (refine AWq.skip rfl rfl rfl ?_;simp only[Act.put,zq6,zq7,zq8])
       | (refine AWq.call rfl Tryz.func94 (by kernel_rfl) (by kernel_rfl) rfl rfl rfl ?_;apply Exists.intro;refine And.intro (fun wc hc=>?_) ?_;(· (simp only[zh,zm,↓reduceIte,Nat.reduceEqDiff,zq1,zq2,zq3,zq4,zq5];with_reducible exact(HP _).out));simp only[Act.put,zq6,zq7,zq8])
       | (refine AWq.call rfl Tryz.func177 (by kernel_rfl) (by kernel_rfl) rfl rfl rfl ?_;apply Exists.intro;refine And.intro (fun wc hc=>?_) ?_;(· (simp only[zh,zm,↓reduceIte,Nat.reduceEqDiff,zq1,zq2,zq3,zq4,zq5];with_reducible exact(HB _).out));simp only[Act.put,zq6,zq7,zq8]))
      refine AWq.done rfl rfl rfl (fun w5 x5=>?_);simp only[zl,Act.put,zq6,zq7,zq8];go_wp2_with fail
      go_roundw
      case rel=>exact⟨j+1+1,by omega,by go_num,hE.out.trans x5,HG.out⟩
      case measure=>simp[intOf];omega
     | false=>
      rw[ht] at HB HO;have HX:=hid (HX0.out HO.out);clear HG0 HX0 HO hp ht;unfold PairI.val at HP;go_wp2_with fail
      refine zc (by kernel_rfl) (by kernel_rfl) (by kernel_rfl) ?_
      repeat (first
       | (refine AWq.val rfl rfl rfl rfl (fun K hK=>?_);go_big_quiet_op;refine hK _ ?_;clear hK K)
       | (refine AWq.skip rfl rfl rfl ?_;simp only[Act.put,zq6,zq7,zq8])
       | (refine AWq.call rfl Tryz.func94 (by kernel_rfl) (by kernel_rfl) rfl rfl rfl ?_;apply Exists.intro;refine And.intro (fun wc hc=>?_) ?_;(· (simp only[zh,zm,↓reduceIte,Nat.reduceEqDiff,zq1,zq2,zq3,zq4,zq5];with_reducible exact(HP _).out));simp only[Act.put,zq6,zq7,zq8])
       | (refine AWq.call rfl Tryz.func177 (by kernel_rfl) (by kernel_rfl) rfl rfl rfl ?_;apply Exists.intro;refine And.intro (fun wc hc=>?_) ?_;(· (simp only[zh,zm,↓reduceIte,Nat.reduceEqDiff,zq1,zq2,zq3,zq4,zq5];with_reducible exact(HB _).out));simp only[Act.put,zq6,zq7,zq8]))
      refine AWq.done rfl rfl rfl (fun w5 x5=>?_);simp only[zl,Act.put,zq6,zq7,zq8];go_wp2_with fail
      go_ret;exact⟨_,rfl,by rw[HX.out];exact RowAt.nil _,hE.out.trans x5⟩
    | false=>
     rw[hp] at HP HO;have HX:=hid (HX0.out (by rw[HO.out];rfl));clear HG0 HX0 HO hp;unfold PairI.val at HP;go_wp2_with fail
     refine zc (by kernel_rfl) (by kernel_rfl) (by kernel_rfl) ?_
     repeat (first
      | (refine AWq.val rfl rfl rfl rfl (fun K hK=>?_);go_big_quiet_op;refine hK _ ?_;clear hK K)
      | (refine AWq.skip rfl rfl rfl ?_;simp only[Act.put,zq6,zq7,zq8])
      | (refine AWq.call rfl Tryz.func94 (by kernel_rfl) (by kernel_rfl) rfl rfl rfl ?_;apply Exists.intro;refine And.intro (fun wc hc=>?_) ?_;(· (simp only[zh,zm,↓reduceIte,Nat.reduceEqDiff,zq1,zq2,zq3,zq4,zq5];with_reducible exact(HP _).out));simp only[Act.put,zq6,zq7,zq8])
      | (refine AWq.call rfl Tryz.func177 (by kernel_rfl) (by kernel_rfl) rfl rfl rfl ?_;apply Exists.intro;refine And.intro (fun wc hc=>?_) ?_;(· (simp only[zh,zm,↓reduceIte,Nat.reduceEqDiff,zq1,zq2,zq3,zq4,zq5];with_reducible exact(HB _).out));simp only[Act.put,zq6,zq7,zq8]))
     refine AWq.done rfl rfl rfl (fun w5 x5=>?_);simp only[zl,Act.put,zq6,zq7,zq8];go_wp2_with fail
     go_ret;exact⟨_,rfl,by rw[HX.out];exact RowAt.nil _,hE.out.trans x5⟩
  ·obtain rfl:k=l.length:=by omega
   have HV:=hid (HYes.out hG.out);have HL:=HList wr hE.out;clear H3 HYes HNo hG HList;go_wp2_with fail
   refine(HL.out).mono ?_;rintro en w2 ⟨u,rfl,hu,x2⟩;have HU:=hid hu;have X2:=hid (hE.out.trans x2);clear hu x2 HL;go_wp2_with fail
   go_ret;exact⟨_,rfl,by rw[HV.out];exact HU.out,X2.out⟩
end
section
open Go.RowKit
def zdL (el:List EntI) (nh nn:Nat) (f:List ClauseI):Bool:=el.all zbQ&&(decide (el.length≤40)&&(decide (nh≤40)&&(decide (nn≤40)&&zcf f)))
attribute [-simp] Tryz.isAgg61 Tryz.sizeOf61 Tryz.isAgg33 Tryz.isAgg36 Tryz.sizeOf36
theorem zku (w:World) (a:MsgC) (cl:List ClauseI) (nh nn:Nat) (el:List EntI) (hf:Sl w 3 a.f.val (cl.map ClauseI.cells)) (hh:a.held.n=nh) (hn:a.not.n=nn) (he:Sl w 21 a.ents.val (el.map EntI.cells)) (hnh:nh≤maxLen) (hnn:nn≤maxLen):Calls Tryz.prog 13 #[.agg a.arr] w (Ret (.bool (zdL el nh nn cl)) w):=by
 have h4:=zP a 8 (by omega);have h11:=zP a 11 (by omega);have h14:=zP a 14 (by omega);have h145:=zad a 0;generalize a.arr=ar at *;obtain⟨ak,as1,as2,as3,ar1,ar2,ar3,aup,⟨af1,af2,af3⟩,⟨ax1,ax2,ax3⟩,⟨ay1,ay2,ay3⟩,⟨ah1,ah2,ah3⟩,aseq,alast,⟨ae1,ae2,ae3⟩,aV,aA,⟨an1,an2,an3⟩,acode,hV,hA⟩:=a;simp only[SlV.val] at hf he;dsimp only at hh hn;subst hh hn;obtain⟨_,_,e1,f1,f2,_⟩:=zr hf;injection e1 with e1 e1n e1c
 subst e1 e1n e1c;obtain⟨_,_,e1,g1,g2,g3⟩:=zr he;injection e1 with e1 e1n e1c
 subst e1 e1n e1c;have a8:ar[8]? = some (.slice af1 cl.length af3):=h4;have a11:ar[11]? = some (.slice ah1 ah2 ah3):=h11;have a14:ar[14]? = some (.slice ae1 el.length ae3):=h14;have a145:ar[145]? = some (.slice an1 an2 an3):=h145;have HLt:=fun W u=>hid (zgc W u);unfold UpdI.val at HLt;have HLf:=fun W (hW:Ext w W)=>hid (zlY W _ cl (hf.ext hW));have H3:=hid g3;have HB:=hid (Blk.new w 36 ar);have HX:=hid (Ext.alloc w (.cells ar 36));have HFin:Hid (∀ b,el.all zbQ=b→zdL el ah2 an2 cl=(b&&(decide (el.length≤40)&&(decide (ah2≤40)&&(decide (an2≤40)&&zcf cl))))):=fun b h=>by unfold zdL;rw[h]
 generalize zdL el ah2 an2 cl=res at HFin⊢;generalize zcf cl=lf at HLf HFin;unfold maxLen at f2 g2 hnh hnn;have HA8:=hid a8;have HA11:=hid a11;have HA14:=hid a14;have HA145:=hid a145;clear h4 h11 h14 h145 hf he g3 hV hA a8 a11 a145;go_enter Tryz.func13,Tryz.ntmps13;go_wp2_with fail
 generalize w.alloc (.cells ar 36)=w0 at HB HX⊢;clear a14;go_loopw [3] (fun s3 wr=>∃ k:Nat,k≤el.length∧s3=.int .i64 k∧Hid (Ext w0 wr)∧Hid ((el.take k).all zbQ=true)) (fun s3 _=>el.length-(intOf s3).toNat)
 case atStart=>exact⟨0,by omega,rfl,Ext.refl _,rfl⟩
 case round=>
  obtain⟨k,hk,rfl,hE,hA⟩:=hrel;have HB1:=hid (HB.out.ext hE.out);have HX1:=hid (HX.out.trans hE.out);have q14:=HB1.out.cell HA14.out;have q1:=HB1.out.lt;by_cases hlt:k<el.length
  ·have d1:decide ((k:Int)<el.length)=true:=decide_eq_true (by omega)
   have d1':decide (k<el.length)=true:=decide_eq_true hlt;obtain⟨b,o,rfl,lb,hcell⟩:=H3.out (by omega);have HR:=hid (fun(j:Nat) u (hu:el[k].arr[j]? = some u)=>HX1.out.cell (hcell k hlt j u (by rw[←zbo,Array.getElem?_toList];exact hu)));have lbr:=Nat.lt_of_lt_of_le lb HX1.out.size;have HT:=hid (fun h=>zk6 (p:=zbQ) hlt hA.out h);have HF:=hid (fun h=>zmx (p:=zbQ) hlt h);clear hcell H3 hA lb;generalize el[k]=e at HR HT HF;have HC:=fun W=>HLt W e.u;have c1:=HR.out 1 (.int .i64 e.u.item.by_) rfl;have c2:=HR.out 2 (.int .i64 e.u.item.n) rfl;have c3:=HR.out 3 (.int .i64 e.u.st.v.by_) rfl
   have c4:=HR.out 4 (.int .i64 e.u.st.v.n) rfl;have c5:=HR.out 5 (.int .i64 e.u.st.time) rfl;have c6:=HR.out 6 (.string e.u.p) rfl;have c7:=HR.out 7 (.string e.u.d) rfl;have c8:=HR.out 8 (.bool e.u.dead) rfl;unfold zbQ at HT HF;generalize zdv e.u=lu at HC HT HF;go_wp2_with fail
   simp only[Tryz.sizeOf61,Result.andThen];rw[Oper.upon_value];go_wp2_with fail
   refine((HC _).out).mono ?_;rintro en w3 ⟨rfl,x3⟩;have HE3:=hid (hE.out.trans x3);have c14:=x3.cell (HR.out 14 (.string e.m.p) rfl);have lb3:=Nat.lt_of_lt_of_le lbr x3.size;have r14:=(HB1.out.ext x3).cell HA14.out;have r1:=(HB1.out.ext x3).lt;clear x3 c1 c2 c3 c4 c5 c6 c7 c8 HR HC HLt q14 q1;cases lu with
   | false=>
    have hF:=hid (HFin.out false (HF.out rfl));rw[Bool.false_and] at hF;have HX3:=hid (HX.out.trans HE3.out);clear HT HF c14 HFin r14 r1;go_wp2_with fail
    go_ret;exact⟨by rw[hF.out];rfl,HX3.out⟩
   | true=>
    by_cases hb:e.m.p.size≤200
    ·have d2:decide (200<e.m.p.size)=false:=decide_eq_false (by omega)
     have d2':decide ((200:Int)<e.m.p.size)=false:=decide_eq_false (by omega);have hT:=hid (HT.out (by simp[hb]));clear hb HT HF;go_wp2_with fail
     simp only[Tryz.sizeOf61,Result.andThen];rw[Oper.upon_value];go_wp2_with fail
     go_roundw
     case rel=>exact⟨k+1,by omega,by go_num,HE3,hT⟩
     case measure=>simp[intOf];omega
    ·have d2:decide (200<e.m.p.size)=true:=decide_eq_true (by omega)
     have d2':decide ((200:Int)<e.m.p.size)=true:=decide_eq_true (by omega);have hF:=hid (HFin.out false (HF.out (by simp[hb])));rw[Bool.false_and] at hF;have HX3:=hid (HX.out.trans HE3.out);clear hb HT HF HFin;go_wp2_with fail
     simp only[Tryz.sizeOf61,Result.andThen];rw[Oper.upon_value];go_wp2_with fail
     go_ret;exact⟨by rw[hF.out];rfl,HX3.out⟩
  ·obtain rfl:k=el.length:=by omega
   rw[List.take_length] at hA;have hF:=hid (HFin.out true hA.out);rw[Bool.true_and] at hF;have e1:decide ((el.length:Int)<el.length)=false:=decide_eq_false (by omega);have e1':decide (el.length<el.length)=false:=decide_eq_false (by omega);have q8:=HB1.out.cell HA8.out;have q11:=HB1.out.cell HA11.out;have q145:=HB1.out.cell HA145.out;clear hlt hk H3 HLt HFin hA HB HX hE;by_cases h40:el.length≤40
   ·have p1:decide ((el.length:Int)≤40)=true:=decide_eq_true (by omega)
    have p1':decide (el.length≤40)=true:=decide_eq_true h40;rw[p1',Bool.true_and] at hF;clear h40;by_cases hh40:ah2≤40
    ·have p2:decide ((ah2:Int)≤40)=true:=decide_eq_true (by omega)
     have p2':decide (ah2≤40)=true:=decide_eq_true hh40;rw[p2',Bool.true_and] at hF;clear hh40;by_cases hn40:an2≤40
     ·have p3:decide ((an2:Int)≤40)=true:=decide_eq_true (by omega)
      have p3':decide (an2≤40)=true:=decide_eq_true hn40;rw[p3',Bool.true_and] at hF;clear hn40;go_wp2_with fail
      refine((HLf _ HX1.out).out).mono ?_;rintro en w3 ⟨rfl,x3⟩;have HX3:=hid (HX1.out.trans x3);clear x3 HLf HX1 HB1 q1 q8 q11 q14 q145;go_wp2_with fail
      go_ret;exact⟨by rw[hF.out];rfl,HX3.out⟩
     ·have p3:decide ((an2:Int)≤40)=false:=decide_eq_false (by omega)
      have p3':decide (an2≤40)=false:=decide_eq_false hn40;rw[p3',Bool.false_and] at hF;clear hn40;go_wp2_with fail
      go_ret;exact⟨by rw[hF.out];rfl,HX1.out⟩
    ·have p2:decide ((ah2:Int)≤40)=false:=decide_eq_false (by omega)
     have p2':decide (ah2≤40)=false:=decide_eq_false hh40;rw[p2',Bool.false_and] at hF;clear hh40;go_wp2_with fail
     go_ret;exact⟨by rw[hF.out];rfl,HX1.out⟩
   ·have p1:decide ((el.length:Int)≤40)=false:=decide_eq_false (by omega)
    have p1':decide (el.length≤40)=false:=decide_eq_false h40;rw[p1',Bool.false_and] at hF;clear h40;go_wp2_with fail
    go_ret;exact⟨by rw[hF.out];rfl,HX1.out⟩
end
section
open Go.RowKit
theorem zgN (w:World) (A B C D:Option Addr) (a b c d:Nat):Calls Tryz.prog 39 #[.agg #[.slice A 0 a,.slice B 0 b],.agg #[.slice C 0 c,.slice D 0 d]] w (Ret (.bool true) w):=by
 have HX:=hid ((Ext.alloc w (.cells #[.slice A 0 a,.slice B 0 b] 29)).alloc' (.cells #[.slice C 0 c,.slice D 0 d] 29));go_enter Tryz.func39,Tryz.ntmps39;go_wp2_with fail
 go_loopw [5] (fun s5 wr=>s5=.int .i64 0∧wr=((w.alloc (.cells #[.slice A 0 a,.slice B 0 b] 29)).alloc (.cells #[.slice C 0 c,.slice D 0 d] 29))) (fun s5 _=>0)
 case atStart=>exact⟨rfl,rfl⟩
 case round=>
  obtain⟨rfl,rfl⟩:=hrel;go_wp2_with fail
  go_loopw [6] (fun s6 wr=>s6=.int .i64 0∧wr=((w.alloc (.cells #[.slice A 0 a,.slice B 0 b] 29)).alloc (.cells #[.slice C 0 c,.slice D 0 d] 29))) (fun s5 _=>0)
  case atStart=>exact⟨rfl,rfl⟩
  case round=>
   obtain⟨rfl,rfl⟩:=hrel;go_wp2_with fail
   go_ret;exact⟨rfl,HX.out⟩
theorem zlp {w:World} {S R:SlM} {m:MsgI} (ha:MsgAt w S m) (hb:MsgAt w R m) (hK:∀ W,Ext w W→Calls Tryz.prog 39 #[.agg #[S.k1.val,S.k2.val],.agg #[R.k1.val,R.k2.val]] W (Ret (.bool true) W)):Calls Tryz.prog 12 #[.agg (m.at S).arr,.agg (m.at R).arr] w (Ret (.bool true) w):=
 ziA w (m.at S) R.f R.k1 R.k2 R.held R.ents R.not m.f m.held m.ents m.not ha.f hb.f ha.held hb.held ha.ents hb.ents ha.not hb.not hK
theorem zc7 {w:World} {u v:SlV} (h:KnowAt w u.val v.val ⟨[],[]⟩):u.val=.slice u.a 0 u.c∧v.val=.slice v.a 0 v.c:=by
 obtain⟨⟨cs,h1,_,h2⟩,h3⟩:=h;obtain⟨_,_,e,_⟩:=zr h2;obtain⟨_,_,e',_⟩:=zr h3;unfold SlV.val at e e';injection e with _ e _
 injection e' with _ e' _
 have h1':cs.length=0:=h1;have e9:u.n=0:=by omega
 have e8:v.n=0:=e';unfold SlV.val;rw[e9,e8];exact⟨rfl,rfl⟩
theorem zjZ {w:World} {S R:SlM} {m:MsgI} (hk:m.k=⟨[],[]⟩) (ha:MsgAt w S m) (hb:MsgAt w R m):Calls Tryz.prog 12 #[.agg (m.at S).arr,.agg (m.at R).arr] w (Ret (.bool true) w):=by
 refine zlp ha hb fun W _=>?_;have h1:=ha.k;have h2:=hb.k;rw[hk] at h1 h2;rw[(zc7 h1).1,(zc7 h1).2,(zc7 h2).1,(zc7 h2).2];exact zgN W _ _ _ _ _ _ _ _
end
end Go.Proofs.YtofjpdgojoppbaaGreatDoor
