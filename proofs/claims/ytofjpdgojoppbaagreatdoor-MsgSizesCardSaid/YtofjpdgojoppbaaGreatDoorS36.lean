/-
  Of the claim's proof: OpK.
-/
import Derived.ChangeMaps5
import Derived.OpenShut
import Derived.Test.YtofjpdgojoppbaaGreatDoorS05
import Derived.Test.YtofjpdgojoppbaaGreatDoorS08
import Derived.Test.YtofjpdgojoppbaaGreatDoorS10
import Derived.Test.YtofjpdgojoppbaaGreatDoorS15
set_option maxRecDepth 100000
set_option maxHeartbeats 16000000
set_option linter.unusedVariables false
set_option linter.unusedSimpArgs false
namespace Go.Proofs.YtofjpdgojoppbaaGreatDoor
open Go.RowKit Go.ChangeShapes Go.WideShapes Go.ChangeAt Go.Deep
theorem zhL (ok:Int→Prop):∀ cs:List Value,(∀ i,i<cs.length → ∃ z,cs[i]? = some (.int .i64 z)∧ok z) → ∃ v:List Int,cs=v.map (Value.int .i64)∧v.length=cs.length ∧ ∀ z∈v,ok z
 | [],_=>⟨[],rfl,rfl,fun z hz=>by cases hz⟩
 | c::cs,h=>by
  obtain⟨z,h1,h2⟩:=h 0 (by simp);obtain⟨v,h3,h4,h5⟩:=zhL ok cs (fun i hi=>by
   have:=h (i+1) (by simp;omega);simpa using this)
  simp at h1;refine⟨z::v,by rw[h1,h3];rfl,by simp[h4],fun y hy=>?_⟩;rcases List.mem_cons.1 hy with rfl | hy
  ·exact h2
  ·exact h5 y hy
theorem zep:Tryz.prog.cellsOf 33=65:=by kernel_rfl
theorem zkW:Tryz.prog.cellsOf 9=1:=by kernel_rfl
theorem zif:Tryz.prog.cellsOf 97=2:=by kernel_rfl
theorem zii:Tryz.prog.cellsOf 99=3:=by kernel_rfl
theorem zgy:Tryz.prog.cellsOf 51=2:=by kernel_rfl
theorem zk0:Tryz.prog.cellsOf 25=1:=by kernel_rfl
theorem zjf:Tryz.prog.cellsOf 34=1:=by kernel_rfl
theorem zfM:Tryz.prog.cellsOf 85=67:=by kernel_rfl
theorem zeF:Tryz.prog.cellsOf 126=67:=by kernel_rfl
theorem zkZ:Tryz.prog.cellsOf 26=1:=by kernel_rfl
theorem zkY:Tryz.prog.cellsOf 27=1:=by kernel_rfl
theorem zjh:Tryz.prog.cellsOf 29=2:=by kernel_rfl
theorem zfh (w:World):zaS Tryz.prog w 33 (fun v:List Int=>v.map (Value.int .i64)) (fun v=>v.length=65∧zaA v):=by
 intro H enc fuel cs x h;obtain⟨xs,n,_,_,hlen,hxl,hf⟩:=DataW.trod_array Tryz.underlying33 h;rw[zep] at hlen;obtain⟨v,h1,h2,h3⟩:=zhL okI cs (fun i hi=>by
  have hi65:i<65:=by omega
  have hx:=hf i hi65;rw[zas,Nat.mul_one] at hx;have hlt:i<xs.length:=by omega
  rw[List.getElem?_eq_getElem hlt] at hx;obtain⟨z,hz,oz⟩:=zac w H enc _ _ _ hx;refine⟨z,?_,oz⟩;have h0:((cs.drop i).take 1)[0]? = some (.int .i64 z):=by rw[hz];rfl
  rw[List.getElem?_take,if_pos (by omega),List.getElem?_drop,Nat.add_zero] at h0;exact h0)
 exact⟨v,h1,by omega,fun z hz=>(h3 z hz).bounds⟩
theorem zki (w:World):zaS Tryz.prog w 97 Ver.cells (fun v=>okI v.by_∧okI v.n):=by
 intro H enc fuel cs x h;obtain⟨xs,n,_,_,hlen,hxs,hf⟩:=DataW.trod_struct Tryz.underlying97 h;rw[zif] at hlen
 match cs,hlen with
 | [c0,c1],_=>
  obtain⟨a,ha,oa⟩:=zv hxs hf (i:=0) rfl zas (zac w);obtain⟨b,hb,ob⟩:=zv hxs hf (i:=1) rfl zas (zac w);simp at ha hb;subst ha hb;exact⟨⟨a,b⟩,rfl,oa,ob⟩
theorem zkl (w:World):zaS Tryz.prog w 99 ClauseI.cells (fun c=>in64 c.lo∧in64 c.hi):=by
 intro H enc fuel cs x h;obtain⟨xs,n,_,_,hlen,hxs,hf⟩:=DataW.trod_struct Tryz.underlying99 h;rw[zii] at hlen
 match cs,hlen with
 | [c0,c1,c2],_=>
  obtain⟨a,ha,oa⟩:=zv hxs hf (i:=0) rfl zkW (zbC Tryz.underlying9);obtain⟨b,hb,ob⟩:=zv hxs hf (i:=1) rfl zif (zki w);simp[Ver.cells] at ha hb;obtain⟨hb1,hb2⟩:=hb;subst ha hb1 hb2;exact⟨⟨a,b.by_,b.n⟩,rfl,ob.1.bounds,ob.2.bounds⟩
structure RowK (α:Type) where
 s:SlV
 l:List α
theorem za8 {P:Program} {w:World} {t e:TypeId} {α:Type} {code:α→List Value} {ok:α→Prop} (ht:P.underlying t=some (.slice e)) (he:zaS P w e code ok) {sz:Nat} (hsz:P.cellsOf e=sz) (hpos:0<sz) (hlen:∀ a,(code a).length=sz):zaS P w t (fun s:RowK α=>[s.s.val]) (fun s=>Sl w sz s.s.val (s.l.map code) ∧ ∀ a∈s.l,ok a):=by
 intro H enc fuel cs x h;have hv:∃ v,cs=[v]:=by
  rcases open_slice ht h with⟨hcs,_⟩ | ⟨a,len,cap,m,n,D,Pl,hcs,_⟩
  ·exact⟨_,hcs⟩
  ·exact⟨_,hcs⟩
 obtain⟨v,rfl⟩:=hv;obtain⟨l,h1,h2⟩:=zhy ht he hsz hpos hlen fuel v x h;obtain⟨A,c,rfl,_⟩:=id h1;exact⟨⟨⟨A,_,c⟩,l⟩,rfl,h1,h2⟩
structure FragIn (x:FragI):Prop where
 len:x.v.length=65
 v:zaA x.v
 n:∀ y∈x.n,zax y
 f:∀ c∈x.f,in64 c.lo∧in64 c.hi
theorem ziP (w:World):zaS Tryz.prog w 85 (fun z:FragC×FragI=>z.1.list) (fun z=>FragAt w z.1 z.2∧FragIn z.2):=by
 intro H enc fuel cs x h;obtain⟨xs,n,_,_,hlen,hxs,hf⟩:=DataW.trod_struct Tryz.underlying85 h;rw[zfM] at hlen;obtain⟨a,ha,oa,oa2⟩:=zv hxs hf (i:=0) rfl zk0 (za8 Tryz.underlying25 (zkl w) zii (by decide) (fun _=>rfl));obtain⟨b,hb,ob,ob2⟩:=zv hxs hf (i:=1) rfl zep (zfh w);obtain⟨c,hc,oc,oc2⟩:=zv hxs hf (i:=2) rfl zjf (za8 Tryz.underlying34 (zbu w) zgy (by decide) (fun _=>rfl));have ha':(cs.drop 0).take 1=[a.s.val]:=ha;have hb':(cs.drop 1).take 65=intsV b:=hb;have hc':(cs.drop 66).take 1=[c.s.val]:=hc
 have e:cs=[a.s.val]++(intsV b++[c.s.val]):=by
  rw[←ha',←hb',←hc',List.drop_zero,List.take_of_length_le (l:=cs.drop 66) (by rw[List.length_drop];omega)];have e1:cs.drop 66=(cs.drop 1).drop 65:=by rw[List.drop_drop]
  rw[e1,List.take_append_drop,List.take_append_drop]
 exact⟨(⟨a.s,b,c.s,ob⟩,⟨a.l,b,c.l⟩),e,⟨rfl,oa,oc⟩,⟨ob,ob2,fun y hy=>⟨(oc2 y hy).1.bounds,(oc2 y hy).2.bounds⟩,oa2⟩⟩
structure KnownIn (x:KnownI):Prop where
 v:zaA x.v
 i:zax x.i
theorem zhz (w:World):zaS Tryz.prog w 126 KnownI.list KnownIn:=by
 intro H enc fuel cs x h;obtain⟨xs,n,_,_,hlen,hxs,hf⟩:=DataW.trod_struct Tryz.underlying126 h;rw[zeF] at hlen;obtain⟨a,ha,oa⟩:=zv hxs hf (i:=0) rfl zgy (zbu w);obtain⟨b,hb,ob,ob2⟩:=zv hxs hf (i:=1) rfl zep (zfh w);have ha':(cs.drop 0).take 2=[.int .i64 a.by_,.int .i64 a.n]:=ha;have hb':(cs.drop 2).take 65=intsV b:=hb;have e:cs=[.int .i64 a.by_,.int .i64 a.n]++intsV b:=by
  rw[←ha',←hb',List.drop_zero,List.take_of_length_le (l:=cs.drop 2) (by rw[List.length_drop];omega),List.take_append_drop]
 exact⟨⟨a,b,ob⟩,e,ob2,⟨oa.1.bounds,oa.2.bounds⟩⟩
structure KnowS where
 u:SlV
 v:SlV
 k:KnowI
structure KnowIn (k:KnowI):Prop where
 fs:∀ x∈k.fs,FragIn x
 ks:∀ x∈k.ks,KnownIn x
theorem ziO (w:World):zaS Tryz.prog w 29 (fun s:KnowS=>[s.u.val,s.v.val]) (fun s=>KnowAt w s.u.val s.v.val s.k∧KnowIn s.k):=by
 intro H enc fuel cs x h;obtain⟨xs,n,_,_,hlen,hxs,hf⟩:=DataW.trod_struct Tryz.underlying29 h;rw[zjh] at hlen
 match cs,hlen with
 | [c0,c1],_=>
  obtain⟨a,ha,oa,oa2⟩:=zv hxs hf (i:=0) rfl zkZ (za8 Tryz.underlying26 (ziP w) zfM (by decide) (fun z=>zeh z.1));obtain⟨b,hb,ob,ob2⟩:=zv hxs hf (i:=1) rfl zkY (za8 Tryz.underlying27 (zhz w) zeF (by decide) zef);simp at ha hb;subst ha hb;refine⟨⟨a.s,b.s,⟨a.l.map (·.2),b.l⟩⟩,rfl,⟨⟨a.l.map (·.1),by simp,fun i c x h1 h2=>?_,?_⟩,ob⟩,⟨fun x hx=>?_,ob2⟩⟩
  ·rw[List.getElem?_map] at h1 h2
   obtain⟨z,hz,rfl⟩:=Option.map_eq_some_iff.1 h1;rw[hz] at h2;injection h2 with h2
   subst h2;exact(oa2 z (List.mem_of_getElem? hz)).1
  ·rw[List.map_map]
   exact oa
  ·obtain⟨z,hz,rfl⟩:=List.mem_map.1 hx
   exact(oa2 z hz).2
end Go.Proofs.YtofjpdgojoppbaaGreatDoor
