/-
  Of the claim's proof: Open, IsO, CdA, OpE, MgB, SmA, SmN.
-/
import Derived.ProofKit
import Derived.Carry
import Derived.Deep.Slices
import Derived.Test.YtofjpdgojoppbaaGreatDoorRows
import Derived.Test.YtofjpdgojoppbaaGreatDoorTie
import Derived.Test.YtofjpdgojoppbaaGreatDoorCards
import Derived.HandedShaped
import Derived.ChangeMaps5
import Derived.OpenShut
import Derived.LaidMore
import Derived.Lay
import Derived.SevenTiedAt
import Derived.Stop.Joined
import Derived.Test.YtofjpdgojoppbaaGreatDoorG02
import Derived.Test.YtofjpdgojoppbaaGreatDoorG04
import Derived.Test.YtofjpdgojoppbaaGreatDoorG06
import Derived.Test.YtofjpdgojoppbaaGreatDoorG08
import Derived.Test.YtofjpdgojoppbaaGreatDoorG09
import Derived.Test.YtofjpdgojoppbaaGreatDoorG12
import Derived.Test.YtofjpdgojoppbaaGreatDoorG13
import Derived.Test.YtofjpdgojoppbaaGreatDoorG14
set_option maxRecDepth 100000
set_option maxHeartbeats 16000000
set_option linter.unusedVariables false
set_option linter.unusedSimpArgs false
namespace Go.Proofs.YtofjpdgojoppbaaGreatDoor
section
open Go.RowKit Go.ChangeShapes Go.WideShapes Go.Deep
section
variable {H:Type} {enc:TypeId×Value→H} {P:Program} {w:World}
theorem zeU {W W':World} (hl:laidOutB P=true) (he:Ext W W'):∀ (ts:List TypeId) (vs:List Value) (ds:List (DataW H)) (ps:List MemPlace),(ts.all fun t=>P.readableRec t&&decide (t<P.types.size))=true→(∀ x∈ps,x.block<W.heap.size) →
  DataW.TrodAll enc P W 0 (fun _=>true) true ts vs ds ps→DataW.TrodAll enc P W' 0 (fun b=>decide (b<W.heap.size)) true ts vs ds ps
 | [],[],[],_,_,_,h=>h
 | t::ts,v::vs,d::ds,ps,hr,hlt,h=>by
  obtain⟨p,q,h1,h2,rfl⟩:=h;simp only[List.all_cons,Bool.and_eq_true,decide_eq_true_eq] at hr;exact⟨p,q,Below.trod hl hr.1.1 hr.1.2 h1 he (fun x hx=>hlt x (by simp[hx])),zeU hl he ts vs ds q hr.2 (fun x hx=>hlt x (by simp[hx])) h2,rfl⟩
 | [],[],_::_,_,_,_,h=>h.elim
 | [],_::_,_,_,_,_,h=>h.elim
 | _::_,[],_,_,_,_,h=>h.elim
 | _::_,_::_,[],_,_,_,h=>h.elim
theorem zme {f:Func} {s:ChangeSpec} {W W':World} {args:Array Value} {ds gs:List (DataW H)} {before:List MemPlace} {tb:TypeId} (hv:s.vars=[]) (hs:s.fn H (ds++gs)={ results:=[.lit (.bool true)],args:=ds })
  (hr:f.resultTypes=#[tb]) (hb:P.underlying tb=some .bool) (hl:laidOutB P=true) (hp:(f.params.toList.all fun t=>P.readableRec t&&decide (t<P.types.size))=true)
  (hW:DataW.Whole enc P f.params.toList s.vars false W args.toList ds gs before) (he:Ext W W'):s.post enc P f false true false false W args (.bool true) W':=by
 have hlt:=fun x hx=>hW.lt (p:=x) hx;obtain⟨p,q,hA,hV,hpq,hz,hn⟩:=hW;have hV':=hV;rw[hv] at hV';cases gs with
 | cons g gs=>exact hV'.elim
 | nil=>
  have hq:q=[]:=hV';subst hq;refine⟨ds,[],before,[],p,[],⟨p,[],hA,hV,hpq,hz,hn⟩,?_,?_,?_,he.frame _,fun h=>by cases h⟩
  ·rw[hs,hr]
   exact trodAll_mk1 (shut_bool hb _)
  ·rw[hs]
   exact zeU hl he _ _ _ _ hp (fun x hx=>hlt x (by rw[hpq];simp[hx])) hA
  ·rw[hs,hv]
   rfl
end
end
section
open Go.RowKit Go.ChangeShapes Go.WideShapes Go.ChangeAt Go.Deep
theorem zfm:Tryz.prog.underlying 4=some .bool:=Tryz.underlying4
theorem own:ownKnob Tryz.prog.godebug=none:=by kernel_rfl
theorem laidOut:laidOutB Tryz.prog=true:=by kernel_rfl
end
section
open Go.RowKit Go.ChangeShapes Go.WideShapes Go.ChangeAt Go.Deep
theorem zdm {H:Type} {enc:TypeId×Value→H} {a:Assume} {C:Checked} {os:Os} {f:FuncId} {fn:Func} {s:ChangeSpec} {conds:List PathCond} {apart fresh handsOn again:Bool} {X:World→Array Value→Prop}
  (hX:∀ (w w':World) (args:Array Value),w.heap=w'.heap→X w args→X w' args)
  (own:ownKnob C.prog.godebug=none) (started:os.Started) (noInit:C.prog.inits.idxOf? f=none) (hfn:C.prog.funcs[f]? = some fn)
  (witness:∃ (w:World) (tape:Tape) (i:Input),w.os=os∧(w.forCall tape i).Shaped C.prog∧i.vars=[]∧Input.okWide C.prog (w.forCall tape i) .any w.heap.size f i ∧
   ((s.pre enc C.prog fn conds apart (w.forCall tape i).memory i.args∧X (w.forCall tape i).memory i.args)∧sizedMet enc C.prog fn (OpenSpec.ofChange s) apart (w.forCall tape i).memory i.args)∧a.holds C.prog (lone (Frame.enter C.prog f i.args .normal) [] (w.forCall tape i)))
  (contract:∀ (W:World) (base:Nat) (args:Array Value) (ds gs:List (DataW H)) (before:List MemPlace),
   (∀ (j:Nat) t v,fn.params[j]? = some t→args[j]? = some v→Value.okWide C.prog W .any base t v) →
   DataW.Whole enc C.prog fn.params.toList s.vars apart W args.toList ds gs before→W.ShapedOpen C.prog →
   Calls C.prog f args W fun e W'=>∃ v,e=.returned v∧s.post enc C.prog fn apart fresh handsOn again W args v W') :
  ReturnsInHanded a C os f .any (fun w args=>(s.pre enc C.prog fn conds apart w args∧X w args)∧sizedMet enc C.prog fn (OpenSpec.ofChange s) apart w args) (s.post enc C.prog fn apart fresh handsOn again):=by
 refine returnsInHanded_of_calls own started noInit witness ?_;intro w tape i _ hsh _ hok hpre hholds;obtain⟨_,_,_,fn',hfn',_,_,_,_,hval⟩:=hok;have e:fn'=fn:=Option.some.inj (hfn'.symm.trans hfn);subst e;obtain⟨⟨⟨ds,gs,before,hw,hc⟩,hx⟩,hz⟩:=hpre;have hw':=DataW.Whole.of_heap (w':=w.forCall tape i) (by rfl) hw;refine(contract (w.forCall tape i) w.heap.size i.args ds gs before hval hw' hsh).mono fun e W' ⟨v,he,hp⟩=>?_;subst he;exact ChangeSpec.post_blind hp
theorem zh4 {W:World} (h:W.ShapedOpen Tryz.prog):∃ m,W.cell? ⟨0,0,none⟩=some (.int .i64 m):=Tryz.laysM146.s1_3 W h
end
section
open Go.RowKit Go.ChangeShapes Go.WideShapes Go.ChangeAt Go.Deep
def PairI.cells (p:PairI):List Value:=[.int .i64 p.a.by_,.int .i64 p.a.n,.int .i64 p.b.by_,.int .i64 p.b.n]
end
section
open Go.RowKit
structure MsgI where
 kind:Int
 s1:Int
 s2:Int
 s3:Int
 r1:Int
 r2:Int
 r3:Int
 up:Bool
 f:List ClauseI
 k:KnowI
 held:List PairI
 seq:Int
 last:Bool
 ents:List EntI
 V:List Int
 A:List Int
 not:List Ver
 code:Int
 hV:V.length=65
 hA:A.length=65
theorem zdU {a b:MsgI}:a=b↔(a.kind=b.kind∧(a.s1=b.s1∧a.s2=b.s2∧a.s3=b.s3)∧(a.r1=b.r1∧a.r2=b.r2∧a.r3=b.r3)∧a.up=b.up∧a.seq=b.seq∧a.last=b.last∧a.code=b.code)∧(a.f=b.f∧a.k=b.k∧a.held=b.held∧a.ents=b.ents∧a.not=b.not)∧a.V=b.V∧a.A=b.A:=by
 constructor
 ·rintro rfl
  simp
 ·obtain⟨a1,a2,a3,a4,a5,a6,a7,a8,a9,a10,a11,a12,a13,a14,a15,a16,a17,a18,_,_⟩:=a
  obtain⟨b1,b2,b3,b4,b5,b6,b7,b8,b9,b10,b11,b12,b13,b14,b15,b16,b17,b18,_,_⟩:=b;dsimp only;rintro⟨⟨rfl,⟨rfl,rfl,rfl⟩,⟨rfl,rfl,rfl⟩,rfl,rfl,rfl,rfl⟩,⟨rfl,rfl,rfl,rfl,rfl⟩,rfl,rfl⟩;rfl
instance:DecidableEq MsgI:=fun a b=>decidable_of_iff _ (zdU (a:=a) (b:=b)).symm
structure SlM where
 f:SlV
 k1:SlV
 k2:SlV
 held:SlV
 ents:SlV
 not:SlV
def slM0:SlM:=⟨nilS,nilS,nilS,nilS,nilS,nilS⟩
def MsgI.at (m:MsgI) (S:SlM):MsgC:=⟨m.kind,m.s1,m.s2,m.s3,m.r1,m.r2,m.r3,m.up,S.f,S.k1,S.k2,S.held,m.seq,m.last,S.ents,m.V,m.A,S.not,m.code,m.hV,m.hA⟩
def msg0:MsgI:=⟨0,0,0,0,0,0,0,false,[],⟨[],[]⟩,[],0,false,[],vec0,vec0,[],0,by simp[vec0],by simp[vec0]⟩
structure MsgAt (w:World) (S:SlM) (m:MsgI):Prop where
 f:Sl w 3 S.f.val (m.f.map ClauseI.cells)
 k:KnowAt w S.k1.val S.k2.val m.k
 held:Sl w 4 S.held.val (m.held.map PairI.cells)
 ents:Sl w 21 S.ents.val (m.ents.map EntI.cells)
 not:Sl w 2 S.not.val (m.not.map Ver.cells)
end
section
open Go.RowKit
theorem zbn (a1 a2 a3 b1 b2 b3:Int) (w:World):(Op.equalIn 10000 24 (.agg #[.int .i64 a1,.int .i64 a2,.int .i64 a3]) (.agg #[.int .i64 b1,.int .i64 b2,.int .i64 b3])).run Tryz.prog w=.ok (decide (a1=b1∧a2=b2∧a3=b3)) w:=by
 by_cases h1:a1=b1 <;> by_cases h2:a2=b2 <;> by_cases h3:a3=b3 <;> simp[go_sem,h1,h2,h3]
theorem zd3 (a b:PairI) (w:World):(Op.equalIn 10000 59 a.val b.val).run Tryz.prog w=.ok (decide (a=b)) w:=by
 obtain⟨⟨a1,a2⟩,⟨a3,a4⟩⟩:=a;obtain⟨⟨b1,b2⟩,⟨b3,b4⟩⟩:=b;unfold PairI.val;by_cases h1:(⟨a1,a2⟩:Ver)=⟨b1,b2⟩ <;> by_cases h2:(⟨a3,a4⟩:Ver)=⟨b3,b4⟩ <;> simp[go_sem,h1,h2,zlS]
def MsgC.slots (a:MsgC) (f k1 k2 held ents not:SlV):MsgC:=⟨a.kind,a.s1,a.s2,a.s3,a.r1,a.r2,a.r3,a.up,f,k1,k2,held,a.seq,a.last,ents,a.V,a.A,not,a.code,a.hV,a.hA⟩
attribute [-simp] Tryz.isAgg61 Tryz.sizeOf61 Tryz.isAgg33 Tryz.sizeOf33 Tryz.isAgg36 Tryz.sizeOf36
theorem ziO (w:World) (a:MsgC) (f k1 k2 held ents not:SlV) (cl:List ClauseI) (hl:List PairI) (el:List EntI) (nl:List Ver)
  (hf:Sl w 3 a.f.val (cl.map ClauseI.cells)) (hf':Sl w 3 f.val (cl.map ClauseI.cells)) (hh:Sl w 4 a.held.val (hl.map PairI.cells)) (hh':Sl w 4 held.val (hl.map PairI.cells))
  (he:Sl w 21 a.ents.val (el.map EntI.cells)) (he':Sl w 21 ents.val (el.map EntI.cells)) (hn:Sl w 2 a.not.val (nl.map Ver.cells)) (hn':Sl w 2 not.val (nl.map Ver.cells))
  (hK:∀ W,Ext w W→Calls Tryz.prog 39 #[.agg #[a.k1.val,a.k2.val],.agg #[k1.val,k2.val]] W (Ret (.bool true) W)) :
  Calls Tryz.prog 12 #[.agg a.arr,.agg (a.slots f k1 k2 held ents not).arr] w (Ret (.bool true) w):=by
 have HA:=hid (zT a);have HB:=hid (zT (a.slots f k1 k2 held ents not));have HAV0:=hid (zbJ a);have HBV0:=hid (zbJ (a.slots f k1 k2 held ents not));have HAA0:=hid (zbK a);have HBA0:=hid (zbK (a.slots f k1 k2 held ents not));have HAE:=hid (zab a);have HBE:=hid (zab (a.slots f k1 k2 held ents not));generalize a.arr=ar at HA HAV0 HAA0 HAE⊢;generalize (a.slots f k1 k2 held ents not).arr=br at HB HBV0 HBA0 HBE⊢;have HEqV:=fun W=>zaV a.V a.V a.hV a.hV W;have HEqA:=fun W=>zaV a.A a.A a.hA a.hA W;rw[decide_eq_true rfl] at HEqV HEqA;have hVs:=hid (show(vecV a.V).size=65 by rw[zj];exact a.hV)
 have hAs:=hid (show(vecV a.A).size=65 by rw[zj];exact a.hA);have HAV:=hid (fun j v (h:(vecV a.V)[j]? = some v)=>HAV0.out j v (by simpa[vecV,intsV] using h));have HAA:=hid (fun j v (h:(vecV a.A)[j]? = some v)=>HAA0.out j v (by simpa[vecV,intsV] using h));have HBV:=hid (fun j v (h:(vecV a.V)[j]? = some v)=>HBV0.out j v (by simpa[vecV,intsV,MsgC.slots] using h));have HBA:=hid (fun j v (h:(vecV a.A)[j]? = some v)=>HBA0.out j v (by simpa[vecV,intsV,MsgC.slots] using h));clear HAV0 HAA0 HBV0 HBA0
 obtain⟨ak,as1,as2,as3,ar1,ar2,ar3,aup,⟨af1,af2,af3⟩,⟨ax1,ax2,ax3⟩,⟨ay1,ay2,ay3⟩,⟨ah1,ah2,ah3⟩,aseq,alast,⟨ae1,ae2,ae3⟩,aV,aA,⟨an1,an2,an3⟩,acode,hV,hA⟩:=a;obtain⟨bf1,bf2,bf3⟩:=f;obtain⟨bx1,bx2,bx3⟩:=k1;obtain⟨by1,by2,by3⟩:=k2;obtain⟨bh1,bh2,bh3⟩:=held;obtain⟨be1,be2,be3⟩:=ents;obtain⟨bn1,bn2,bn3⟩:=not;simp only[SlV.val] at hf hf' hh hh' he he' hn hn' hK;have len:∀ {sz:Nat} {α:Type} {code:α→List Value} {l:List α} {A n c},Sl w sz (.slice A n c) (l.map code)→n=l.length:=fun h=>by
  obtain⟨A',c',h1,_⟩:=zz h;injection h1
 obtain rfl:=len hf;obtain rfl:=len hf';obtain rfl:=len hh;obtain rfl:=len hh';obtain rfl:=len he;obtain rfl:=len he';obtain rfl:=len hn;obtain rfl:=len hn';clear len;dsimp only at HAV HAA HBV HBA HEqV HEqA hVs hAs;generalize vecV aV=VV at HAV HBV HEqV hVs;generalize vecV aA=AA at HAA HBA HEqA hAs;have HEqS:=fun x1 x2 x3 W=>(zbn x1 x2 x3 x1 x2 x3 W).trans (by rw[decide_eq_true ⟨rfl,rfl,rfl⟩]);have HReq:=fun W (hW:Ext w W)=>hid (zlF W _ _ cl cl (hf.ext hW) (hf'.ext hW));have HRvs:=fun W (hW:Ext w W)=>hid (zjJ W _ _ nl nl (hn.ext hW) (hn'.ext hW));have HK:=fun W (hW:Ext w W)=>hid (hK W hW);rw[decide_eq_true rfl] at HReq HRvs
 obtain⟨_,_,e1,hh1,hh2,hh3⟩:=zz hh;injection e1 with e1 _ e1c
 subst e1 e1c;obtain⟨_,_,e1,hi1,hi2,hi3⟩:=zz hh';injection e1 with e1 _ e1c
 subst e1 e1c;obtain⟨_,_,e1,he1,he2,he3⟩:=zz he;injection e1 with e1 _ e1c
 subst e1 e1c;obtain⟨_,_,e1,hg1,hg2,hg3⟩:=zz he';injection e1 with e1 _ e1c
 subst e1 e1c;have HH3:=hid hh3;have HI3:=hid hi3;have HE3:=hid he3;have HG3:=hid hg3;clear hf hf' hh hh' he he' hn hn' hK hh3 hi3 he3 hg3;unfold maxLen at hh2 hi2 he2 hg2;have HBa:=hid ((Blk.new w 36 ar).alloc (.cells br 36));have HBb:=hid (Blk.new (w.alloc (.cells ar 36)) 36 br);have HX:=hid ((Ext.alloc w (.cells ar 36)).alloc' (.cells br 36));rw[World.size_alloc] at HBb;have a0:ar[0]? = some (.int .i64 ak):=HA.out 0 (by omega);have b0:br[0]? = some (.int .i64 ak):=HB.out 0 (by omega);have a1:ar[1]? = some (.int .i64 as1):=HA.out 1 (by omega);have b1:br[1]? = some (.int .i64 as1):=HB.out 1 (by omega)
 have a2:ar[2]? = some (.int .i64 as2):=HA.out 2 (by omega);have b2:br[2]? = some (.int .i64 as2):=HB.out 2 (by omega);have a3:ar[3]? = some (.int .i64 as3):=HA.out 3 (by omega);have b3:br[3]? = some (.int .i64 as3):=HB.out 3 (by omega);have a4:ar[4]? = some (.int .i64 ar1):=HA.out 4 (by omega);have b4:br[4]? = some (.int .i64 ar1):=HB.out 4 (by omega);have a5:ar[5]? = some (.int .i64 ar2):=HA.out 5 (by omega);have b5:br[5]? = some (.int .i64 ar2):=HB.out 5 (by omega);have a6:ar[6]? = some (.int .i64 ar3):=HA.out 6 (by omega);have b6:br[6]? = some (.int .i64 ar3):=HB.out 6 (by omega);have a7:ar[7]? = some (.bool aup):=HA.out 7 (by omega)
 have b7:br[7]? = some (.bool aup):=HB.out 7 (by omega);have a8:ar[8]? = some (.slice af1 cl.length af3):=HA.out 8 (by omega);have b8:br[8]? = some (.slice bf1 cl.length bf3):=HB.out 8 (by omega);have a9:ar[9]? = some (.slice ax1 ax2 ax3):=HA.out 9 (by omega);have b9:br[9]? = some (.slice bx1 bx2 bx3):=HB.out 9 (by omega);have a10:ar[10]? = some (.slice ay1 ay2 ay3):=HA.out 10 (by omega);have b10:br[10]? = some (.slice by1 by2 by3):=HB.out 10 (by omega);have a11:ar[11]? = some (.slice ah1 hl.length ah3):=HA.out 11 (by omega);have b11:br[11]? = some (.slice bh1 hl.length bh3):=HB.out 11 (by omega)
 have a12:ar[12]? = some (.int .i64 aseq):=HA.out 12 (by omega);have b12:br[12]? = some (.int .i64 aseq):=HB.out 12 (by omega);have a13:ar[13]? = some (.bool alast):=HA.out 13 (by omega);have b13:br[13]? = some (.bool alast):=HB.out 13 (by omega);have a14:ar[14]? = some (.slice ae1 el.length ae3):=HA.out 14 (by omega);have b14:br[14]? = some (.slice be1 el.length be3):=HB.out 14 (by omega);have a145:ar[145]? = some (.slice an1 nl.length an3):=HAE.out 0;have a146:ar[146]? = some (.int .i64 acode):=HAE.out 1;have b145:br[145]? = some (.slice bn1 nl.length bn3):=HBE.out 0;have b146:br[146]? = some (.int .i64 acode):=HBE.out 1
 have HLa:=hid (fun j v (h:VV[j]? = some v)=>HBa.out.cell (HAV.out j v h));have HLb:=hid (fun j v (h:VV[j]? = some v)=>HBb.out.cell (HBV.out j v h));have HMa:=hid (fun j v (h:AA[j]? = some v)=>HBa.out.cell (HAA.out j v h));have HMb:=hid (fun j v (h:AA[j]? = some v)=>HBb.out.cell (HBA.out j v h));clear HA HB HAE HBE HAV HBV HAA HBA;go_enter Tryz.func12,Tryz.ntmps12;go_wp2_with fail
 simp only[Tryz.sizeOf33,Result.andThen];rw[if_neg (show ¬ (65:Nat)=0 by omega)];dsimp only;rw[Oper.upon_value];go_wp2_with fail
 simp only[Tryz.isAgg33,Tryz.sizeOf33,Result.andThen,↓reduceIte,zv HLa.out 65 hVs.out];rw[Oper.upon_value];go_wp2_with fail
 simp only[Tryz.sizeOf33,Result.andThen];rw[if_neg (show ¬ (65:Nat)=0 by omega)];dsimp only;rw[Oper.upon_value];go_wp2_with fail
 simp only[Tryz.isAgg33,Tryz.sizeOf33,Result.andThen,↓reduceIte,zv HLb.out 65 hVs.out];rw[Oper.upon_value];go_wp2_with fail
 simp only[Tryz.sizeOf33,Result.andThen];rw[if_neg (show ¬ (65:Nat)=0 by omega)];dsimp only;rw[Oper.upon_value];go_wp2_with fail
 simp only[Tryz.isAgg33,Tryz.sizeOf33,Result.andThen,↓reduceIte,zv HMa.out 65 hAs.out];rw[Oper.upon_value];go_wp2_with fail
 simp only[Tryz.sizeOf33,Result.andThen];rw[if_neg (show ¬ (65:Nat)=0 by omega)];dsimp only;rw[Oper.upon_value];go_wp2_with fail
 simp only[Tryz.isAgg33,Tryz.sizeOf33,Result.andThen,↓reduceIte,zv HMb.out 65 hAs.out];rw[Oper.upon_value];go_wp2_with fail
 generalize (w.alloc (.cells ar 36)).alloc (.cells br 36)=w1 at HBa HBb HX⊢;refine((HReq _ HX.out).out).mono ?_;rintro en w2 ⟨rfl,x2⟩;have HX2:=hid (HX.out.trans x2);have HA2:=hid (HBa.out.ext x2);have HB2:=hid (HBb.out.ext x2);clear x2 HX HBa HBb HReq HLa HLb HMa HMb HEqV HEqA hVs hAs HEqS;have c9:=HA2.out.cell a9;have c10:=HA2.out.cell a10;have d9:=HB2.out.cell b9;have d10:=HB2.out.cell b10;go_wp2_with fail
 refine((HK _ HX2.out).out).mono ?_;rintro en w3 ⟨rfl,x3⟩;have HX3:=hid (HX2.out.trans x3);have HA3:=hid (HA2.out.ext x3);have HB3:=hid (HB2.out.ext x3);clear x3 HX2 HA2 HB2 c9 c10 d9 d10 HK;have c145:=HA3.out.cell a145;have d145:=HB3.out.cell b145;go_wp2_with fail
 refine((HRvs _ HX3.out).out).mono ?_;rintro en w4 ⟨rfl,x4⟩;have HX4:=hid (HX3.out.trans x4);have HA4:=hid (HA3.out.ext x4);have HB4:=hid (HB3.out.ext x4);clear x4 HX3 HA3 HB3 c145 d145 HRvs;have c11:=HA4.out.cell a11;have c14:=HA4.out.cell a14;have d11:=HB4.out.cell b11;have d14:=HB4.out.cell b14;have HA11:=hid a11;have HA14:=hid a14;have HB11:=hid b11;have HB14:=hid b14;clear a0 a1 a2 a3 a4 a5 a6 a7 a8 a9 a10 a11 a12 a13 a14 a145 a146 b0 b1 b2 b3 b4 b5 b6 b7 b8 b9 b10 b11 b12 b13 b14 b145 b146;go_wp2_with fail
 clear c11 c14 d11 d14;go_loopw [5] (fun s5 wr=>∃ k:Nat,k≤hl.length∧s5=.int .i64 k∧Hid (Ext w4 wr)) (fun s5 _=>hl.length-(intOf s5).toNat)
 case atStart=>exact⟨0,by omega,rfl,Ext.refl _⟩
 case round=>
  obtain⟨k,hk,rfl,hE⟩:=hrel;have c11:=(HA4.out.ext hE.out).cell HA11.out;have d11:=(HB4.out.ext hE.out).cell HB11.out;have l1:=(HA4.out.ext hE.out).lt;have l2:=(HB4.out.ext hE.out).lt;by_cases hlt:k<hl.length
  ·have e1:decide ((k:Int)<hl.length)=true:=decide_eq_true (by omega)
   have e1':decide (k<hl.length)=true:=decide_eq_true hlt;obtain⟨p,o,rfl,lb,hc⟩:=HH3.out (by omega);obtain⟨p',o',rfl,lb',hc'⟩:=HI3.out (by omega);have hXE:=HX4.out.trans hE.out;have y0:=hXE.cell (hc k hlt 0 _ rfl);have y1:=hXE.cell (hc k hlt 1 _ rfl);have y2:=hXE.cell (hc k hlt 2 _ rfl);have y3:=hXE.cell (hc k hlt 3 _ rfl);have z0:=hXE.cell (hc' k hlt 0 _ rfl);have z1:=hXE.cell (hc' k hlt 1 _ rfl);have z2:=hXE.cell (hc' k hlt 2 _ rfl);have z3:=hXE.cell (hc' k hlt 3 _ rfl);rw[Nat.add_zero] at y0 z0;have l3:=Nat.lt_of_lt_of_le lb hXE.size;have l4:=Nat.lt_of_lt_of_le lb' hXE.size;have HEq:=fun W=>zd3 hl[k] hl[k] W
   rw[decide_eq_true rfl] at HEq;clear hc hc' HH3 HI3 hXE lb lb';generalize hl[k]=x at y0 y1 y2 y3 z0 z1 z2 z3 HEq;unfold PairI.val at HEq;go_wp2_with fail
   refine zd (by kernel_rfl) (by kernel_rfl) (by kernel_rfl) ?_
   repeat (first
    | (refine AWq.val rfl rfl rfl rfl (fun K hK=>?_);go_big_quiet_op;refine hK _ ?_;clear hK K)
    | (refine AWq.skip rfl rfl rfl ?_;simp only[Act.put,zq6,zq7,zq8]))
   refine AWq.done rfl rfl rfl (fun w5 x5=>?_);simp only[zo,Act.put,zq6,zq7,zq8];go_wp2_with fail
   go_roundw
   case rel=>exact⟨k+1,by omega,by go_num,hE.out.trans x5⟩
   case measure=>simp[intOf];omega
  ·obtain rfl:k=hl.length:=by omega
   have e1:decide ((hl.length:Int)<hl.length)=false:=decide_eq_false (by omega);have e1':decide (hl.length<hl.length)=false:=decide_eq_false (by omega);have HA5:=hid (HA4.out.ext hE.out);have HB5:=hid (HB4.out.ext hE.out);have HX5:=hid (HX4.out.trans hE.out);have c14:=HA5.out.cell HA14.out;have d14:=HB5.out.cell HB14.out;clear HA4 HB4 HX4 hE hlt hk HH3 HI3 HA11 HB11;go_wp2_with fail
   clear c14 d14 c11 d11 l1 l2;generalize wr=w6 at HA5 HB5 HX5⊢;go_loopw [6] (fun s6 WQ=>∃ k:Nat,k≤el.length∧s6=.int .i64 k∧Hid (Ext w6 WQ)) (fun s6 _=>el.length-(intOf s6).toNat)
   case atStart=>exact⟨0,by omega,rfl,Ext.refl _⟩
   case round=>
    obtain⟨k,hk,rfl,hE⟩:=hrel;have c14:=(HA5.out.ext hE.out).cell HA14.out;have d14:=(HB5.out.ext hE.out).cell HB14.out;have l1:=(HA5.out.ext hE.out).lt;have l2:=(HB5.out.ext hE.out).lt;by_cases hlt:k<el.length
    ·have e1:decide ((k:Int)<el.length)=true:=decide_eq_true (by omega)
     have e1':decide (k<el.length)=true:=decide_eq_true hlt;obtain⟨p,o,rfl,lb,hc⟩:=HE3.out (by omega);obtain⟨p',o',rfl,lb',hc'⟩:=HG3.out (by omega);have HXE:=hid (HX5.out.trans hE.out);have HR1:=hid (fun(q:Nat) u (hu:el[k].arr[q]? = some u)=>HXE.out.cell (hc k hlt q u (by rw[←zbZ,Array.getElem?_toList];exact hu)));have HR2:=hid (fun(q:Nat) u (hu:el[k].arr[q]? = some u)=>HXE.out.cell (hc' k hlt q u (by rw[←zbZ,Array.getElem?_toList];exact hu)));have HEq:=fun W=>zcu el[k] el[k] W;rw[decide_eq_true rfl] at HEq;have hz:=hid (zaG el[k]);clear hc hc' HE3 HG3 HXE lb lb';generalize el[k].arr=arr at HR1 HR2 HEq hz
     go_wp2_with fail
     refine zd (by kernel_rfl) (by kernel_rfl) (by kernel_rfl) ?_
     repeat (first
      | (refine AWq.val rfl rfl rfl rfl (fun K hK=>?_);go_big_quiet_op;refine hK _ ?_;clear hK K)
      | (refine AWq.skip rfl rfl rfl ?_;simp only[Act.put,zq6,zq7,zq8])
      | (refine AWq.val rfl rfl rfl rfl (fun K hK=>?_);refine zbd (k:=k) rfl rfl rfl rfl hlt (hK _ ?_);clear hK K;simp only[Act.put,zq6,zq7,zq8])
      | (refine AWq.val rfl rfl rfl rfl (fun K hK=>?_);refine zI rfl rfl (fun wc hwc=>by obtain⟨E,rfl⟩:=hwc;exact zbN hz.out (fun j v hv=>(Ext.of_wext _ _).cell (HR1.out j v hv))) (hK _ ?_);clear hK K;simp only[Act.put,zq6,zq7,zq8])
      | (refine AWq.val rfl rfl rfl rfl (fun K hK=>?_);refine zI rfl rfl (fun wc hwc=>by obtain⟨E,rfl⟩:=hwc;exact zbN hz.out (fun j v hv=>(Ext.of_wext _ _).cell (HR2.out j v hv))) (hK _ ?_);clear hK K;simp only[Act.put,zq6,zq7,zq8]))
     refine AWq.done rfl rfl rfl (fun w5 x5=>?_);simp only[zo,Act.put,zq6,zq7,zq8];go_wp2_with fail
     go_roundw
     case rel=>exact⟨k+1,by omega,by go_num,hE.out.trans x5⟩
     case measure=>simp[intOf];omega
    ·obtain rfl:k=el.length:=by omega
     have e1:decide ((el.length:Int)<el.length)=false:=decide_eq_false (by omega);have e1':decide (el.length<el.length)=false:=decide_eq_false (by omega);have HX6:=hid (HX5.out.trans hE.out);clear HE3 HG3 HX5 hE HA5 HB5;go_wp2_with fail
     go_ret;exact⟨rfl,HX6.out⟩
end
section
open Go.RowKit
theorem zg6 (w:World) (A B C D:Option Addr) (a b c d:Nat):Calls Tryz.prog 39 #[.agg #[.slice A 0 a,.slice B 0 b],.agg #[.slice C 0 c,.slice D 0 d]] w (Ret (.bool true) w):=by
 have HX:=hid ((Ext.alloc w (.cells #[.slice A 0 a,.slice B 0 b] 29)).alloc' (.cells #[.slice C 0 c,.slice D 0 d] 29));go_enter Tryz.func39,Tryz.ntmps39;go_wp2_with fail
 go_loopw [5] (fun s5 wr=>s5=.int .i64 0∧wr=((w.alloc (.cells #[.slice A 0 a,.slice B 0 b] 29)).alloc (.cells #[.slice C 0 c,.slice D 0 d] 29))) (fun s5 _=>0)
 case atStart=>exact⟨rfl,rfl⟩
 case round=>
  obtain⟨rfl,rfl⟩:=hrel;go_wp2_with fail
  go_loopw [6] (fun s6 wr=>s6=.int .i64 0∧wr=((w.alloc (.cells #[.slice A 0 a,.slice B 0 b] 29)).alloc (.cells #[.slice C 0 c,.slice D 0 d] 29))) (fun s5 _=>0)
  case atStart=>exact⟨rfl,rfl⟩
  case round=>
   obtain⟨rfl,rfl⟩:=hrel;go_wp2_with fail
   go_ret;exact⟨rfl,HX.out⟩
theorem zlw {w:World} {S R:SlM} {m:MsgI} (ha:MsgAt w S m) (hb:MsgAt w R m) (hK:∀ W,Ext w W→Calls Tryz.prog 39 #[.agg #[S.k1.val,S.k2.val],.agg #[R.k1.val,R.k2.val]] W (Ret (.bool true) W)):Calls Tryz.prog 12 #[.agg (m.at S).arr,.agg (m.at R).arr] w (Ret (.bool true) w):=
 ziO w (m.at S) R.f R.k1 R.k2 R.held R.ents R.not m.f m.held m.ents m.not ha.f hb.f ha.held hb.held ha.ents hb.ents ha.not hb.not hK
theorem zdv {w:World} {u v:SlV} (h:KnowAt w u.val v.val ⟨[],[]⟩):u.val=.slice u.a 0 u.c∧v.val=.slice v.a 0 v.c:=by
 obtain⟨⟨cs,h1,_,h2⟩,h3⟩:=h;obtain⟨_,_,e,_⟩:=zz h2;obtain⟨_,_,e',_⟩:=zz h3;unfold SlV.val at e e';injection e with _ e _
 injection e' with _ e' _
 have h1':cs.length=0:=h1;have e9:u.n=0:=by omega
 have e8:v.n=0:=e';unfold SlV.val;rw[e9,e8];exact⟨rfl,rfl⟩
theorem zgh {w:World} {S R:SlM} {m:MsgI} (hk:m.k=⟨[],[]⟩) (ha:MsgAt w S m) (hb:MsgAt w R m):Calls Tryz.prog 12 #[.agg (m.at S).arr,.agg (m.at R).arr] w (Ret (.bool true) w):=by
 refine zlw ha hb fun W _=>?_;have h1:=ha.k;have h2:=hb.k;rw[hk] at h1 h2;rw[(zdv h1).1,(zdv h1).2,(zdv h2).1,(zdv h2).2];exact zg6 W _ _ _ _ _ _ _ _
end
end Go.Proofs.YtofjpdgojoppbaaGreatDoor
