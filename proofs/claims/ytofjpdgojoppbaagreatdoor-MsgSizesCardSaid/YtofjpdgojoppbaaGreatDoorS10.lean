/-
  Of the claim's proof: Open, IsO.
-/
import Derived.ProofKit
import Derived.Carry
import Derived.Deep.Slices
import Derived.Test.YtofjpdgojoppbaaGreatDoorRows
import Derived.Test.YtofjpdgojoppbaaGreatDoorS01
import Derived.Test.YtofjpdgojoppbaaGreatDoorS04
set_option maxRecDepth 100000
set_option maxHeartbeats 16000000
set_option linter.unusedVariables false
set_option linter.unusedSimpArgs false
namespace Go.Proofs.YtofjpdgojoppbaaGreatDoor
section
open Go.RowKit Go.ChangeShapes Go.WideShapes Go.Deep
section
variable {H:Type} {enc:TypeId×Value→H} {P:Program} {w:World}
def zaS (P:Program) (w:World) (t:TypeId) {α:Type} (code:α→List Value) (ok:α→Prop):Prop:=
 ∀ (H:Type) (enc:TypeId×Value→H) (fuel:Nat) (cs:List Value) (x:DataW H×List MemPlace),DataW.trod enc P w 0 (fun _=>true) true fuel t cs=some x → ∃ a,cs=code a∧ok a
theorem zkj {t:TypeId} {k:IntKind} (ht:P.underlying t=some (.int k)):zaS P w t (fun z:Int=>[.int k z]) (fun z=>(Lit.int k z).wf=true):=by
 intro H enc fuel cs x h;cases fuel with
 | zero=>simp[DataW.trod] at h
 | succ n=>
  unfold DataW.trod at h;rw[ht] at h
  split at h <;> simp_all
theorem zcL {t:TypeId} (ht:P.underlying t=some .bool):zaS P w t (fun z:Bool=>[.bool z]) (fun _=>True):=by
 intro H enc fuel cs x h;cases fuel with
 | zero=>simp[DataW.trod] at h
 | succ n=>
  unfold DataW.trod at h;rw[ht] at h
  split at h <;> simp_all
theorem zbC {t:TypeId} (ht:P.underlying t=some .string):zaS P w t (fun z:ByteArray=>[.string z]) (fun z=>z.size≤maxLen):=by
 intro H enc fuel cs x h;cases fuel with
 | zero=>simp[DataW.trod] at h
 | succ n=>
  unfold DataW.trod at h;rw[ht] at h
  split at h <;> simp_all
theorem zhy {t e:TypeId} {α:Type} {code:α→List Value} {ok:α→Prop} (ht:P.underlying t=some (.slice e)) (he:zaS P w e code ok) {sz:Nat} (hsz:P.cellsOf e=sz) (hpos:0<sz)
  (hlen:∀ a,(code a).length=sz) (fuel:Nat) (v:Value) (x:DataW H×List MemPlace) (h:DataW.trod enc P w 0 (fun _=>true) true fuel t [v]=some x) :
  ∃ l:List α,Sl w sz v (l.map code) ∧ ∀ a∈l,ok a:=by
 subst hsz;rcases open_slice ht h with⟨hcs,_⟩ | ⟨a,len,cap,m,n,D,Pl,hcs,hb,hl,hm,hmm,hx,hi⟩
 ·injection hcs with hv
  subst hv;exact⟨[],Sl.nil w _,by simp⟩
 ·injection hcs with hv
  subst hv;have hml:m=cap:=by simp at hmm;exact hmm
  have each:∀ i:Nat,i<len → ∃ y:α,w.cells? 0 (a.add (i*P.cellsOf e)) (P.cellsOf e)=some (code y)∧ok y:=fun i hi'=>by
   obtain⟨cs',hc,htr⟩:=hi i (by omega);obtain⟨y,rfl,hok⟩:=he H enc n cs' _ htr;exact⟨y,hc,hok⟩
  obtain⟨l,hlen',hl'⟩:∃ l:List α,l.length=len ∧ ∀ i (h:i<l.length),w.cells? 0 (a.add (i*P.cellsOf e)) (P.cellsOf e)=some (code l[i])∧ok l[i]:=by
   clear hx hi hmm hml hl h
   induction len with
   | zero=>exact⟨[],rfl,fun i h=>absurd h (by simp)⟩
   | succ len ih=>
    obtain⟨l,h1,h2⟩:=ih (fun i h=>each i (by omega));obtain⟨y,hy,hok⟩:=each len (by omega);refine⟨l++[y],by simp[h1],fun i h=>?_⟩;by_cases hil:i<l.length
    ·rw[List.getElem_append_left hil];exact h2 i hil
    ·have:i=l.length:=by simp at h;omega
     subst this;simp only[List.getElem_concat_length];rw[h1];exact⟨hy,hok⟩
  refine⟨l,⟨some a,cap,by simp[hlen'],by simp[hlen'];exact hl,hm,fun hp=>?_⟩,fun y hy=>?_⟩
  ·obtain⟨b,o,s⟩:=a
   have hp0:0<l.length:=by simpa using hp
   have hc0:=(hl' 0 hp0).1;obtain⟨_,_,hat⟩:=World.cells?_some hc0;have h0:=hat 0 hpos;have h00:(code l[0])[0]? = some ((code l[0])[0]'(by rw[hlen];exact hpos)):=List.getElem?_eq_getElem _;rw[h00] at h0;have hs:s=none:=by
    simp[World.cell?,Addr.add] at h0
    split at h0
    ·cases s with
     | none=>rfl
     | some z=>simp at h0
    ·cases h0
   subst hs;have hbl:b<w.heap.size:=by
    have:=World.block_lt_of_cell? w _ h0;simpa[Addr.add] using this
   refine⟨b,o,rfl,hbl,fun k x j u hk hj=>?_⟩;simp only[List.getElem?_map,Option.map_eq_some_iff] at hk;obtain⟨y,hy,rfl⟩:=hk;obtain⟨hkl,rfl⟩:=List.getElem?_eq_some_iff.1 hy;obtain⟨_,_,hat⟩:=World.cells?_some (hl' k hkl).1;have hjl:j<P.cellsOf e:=by
    have:=(List.getElem?_eq_some_iff.1 hj).1;rwa [hlen] at this
   have:=hat j hjl;rw[hj] at this;rw[←this];simp only[Addr.add_lit]
  ·obtain⟨i,hi',rfl⟩:=List.getElem_of_mem hy
   exact(hl' i hi').2
theorem zv {fs:Array Field} {xs:List (DataW H×List MemPlace)} {n:Nat} {cs:List Value} (hl:xs.length=fs.size)
  (hf:∀ (i:Nat) (f:Field),fs[i]? = some f→DataW.trod enc P w 0 (fun _=>true) true n f.type ((cs.drop f.offset).take (P.cellsOf f.type))=xs[i]?) {i:Nat} {f:Field} (hi:fs[i]? = some f) {sz:Nat} (hsz:P.cellsOf f.type=sz)
  {α:Type} {code:α→List Value} {ok:α→Prop} (ho:zaS P w f.type code ok):∃ a,(cs.drop f.offset).take sz=code a∧ok a:=by
 have h:=hf i f hi;have hlt:i<xs.length:=by rw[hl];exact(Array.getElem?_eq_some_iff.1 hi).1
 rw[List.getElem?_eq_getElem hlt,hsz] at h;exact ho H enc n _ _ h
theorem zfj {t:TypeId} {fs:Array Field} {v:Value} {d:DataW H} {p:List MemPlace} {r:Reach} {b0:Nat} {α:Type} {code:α→List Value} {ok:α→Prop} (ht:P.underlying t=some (.struct fs)) (ho:zaS P w t code ok)
  (hv:Value.okWide P w r b0 t v) (h:DataW.Trod enc P w 0 (fun _=>true) true t v d p):∃ a,v=.agg (code a).toArray∧ok a:=by
 obtain⟨cs,rfl,_⟩:=okWide_struct ht hv;obtain⟨fuel,hf⟩:=h;obtain⟨a,h1,h2⟩:=ho H enc fuel _ _ hf;refine⟨a,?_,h2⟩;have:cs.toList=code a:=h1;rw[←this]
def okI (z:Int):Prop:=(Lit.int .i64 z).wf=true
theorem okI.bounds {z:Int} (h:okI z):-9223372036854775808≤z∧z≤9223372036854775807:=by
 simpa[okI,Lit.wf,IntKind.min,IntKind.max,IntKind.signed,IntKind.bits] using h
theorem zev {W W':World} (hl:laidOutB P=true) (he:Ext W W'):∀ (ts:List TypeId) (vs:List Value) (ds:List (DataW H)) (ps:List MemPlace),(ts.all fun t=>P.readableRec t&&decide (t<P.types.size))=true→(∀ x∈ps,x.block<W.heap.size) →
  DataW.TrodAll enc P W 0 (fun _=>true) true ts vs ds ps→DataW.TrodAll enc P W' 0 (fun b=>decide (b<W.heap.size)) true ts vs ds ps
 | [],[],[],_,_,_,h=>h
 | t::ts,v::vs,d::ds,ps,hr,hlt,h=>by
  obtain⟨p,q,h1,h2,rfl⟩:=h;simp only[List.all_cons,Bool.and_eq_true,decide_eq_true_eq] at hr;exact⟨p,q,Below.trod hl hr.1.1 hr.1.2 h1 he (fun x hx=>hlt x (by simp[hx])),zev hl he ts vs ds q hr.2 (fun x hx=>hlt x (by simp[hx])) h2,rfl⟩
 | [],[],_::_,_,_,_,h=>h.elim
 | [],_::_,_,_,_,_,h=>h.elim
 | _::_,[],_,_,_,_,h=>h.elim
 | _::_,_::_,[],_,_,_,h=>h.elim
theorem zl3 {f:Func} {s:ChangeSpec} {W W':World} {args:Array Value} {ds gs:List (DataW H)} {before:List MemPlace} {tb:TypeId} (hv:s.vars=[]) (hs:s.fn H (ds++gs)={ results:=[.lit (.bool true)],args:=ds })
  (hr:f.resultTypes=#[tb]) (hb:P.underlying tb=some .bool) (hl:laidOutB P=true) (hp:(f.params.toList.all fun t=>P.readableRec t&&decide (t<P.types.size))=true)
  (hW:DataW.Whole enc P f.params.toList s.vars false W args.toList ds gs before) (he:Ext W W'):s.post enc P f false true false false W args (.bool true) W':=by
 have hlt:=fun x hx=>hW.lt (p:=x) hx;obtain⟨p,q,hA,hV,hpq,hz,hn⟩:=hW;have hV':=hV;rw[hv] at hV';cases gs with
 | cons g gs=>exact hV'.elim
 | nil=>
  have hq:q=[]:=hV';subst hq;refine⟨ds,[],before,[],p,[],⟨p,[],hA,hV,hpq,hz,hn⟩,?_,?_,?_,he.frame _,fun h=>by cases h⟩
  ·rw[hs,hr]
   exact trodAll_mk1 (shut_bool hb _)
  ·rw[hs]
   exact zev hl he _ _ _ _ hp (fun x hx=>hlt x (by rw[hpq];simp[hx])) hA
  ·rw[hs,hv]
   rfl
end
end
section
open Go.RowKit Go.ChangeShapes Go.WideShapes Go.ChangeAt Go.Deep
theorem zeY:Tryz.prog.underlying 4=some .bool:=Tryz.underlying4
theorem own:ownKnob Tryz.prog.godebug=none:=by kernel_rfl
theorem laidOut:laidOutB Tryz.prog=true:=by kernel_rfl
theorem zck:Tryz.prog.cellsOf 51=2:=by kernel_rfl
theorem zas:Tryz.prog.cellsOf 3=1:=by kernel_rfl
theorem zac (w:World):zaS Tryz.prog w 3 (fun z:Int=>[.int .i64 z]) okI:=zkj Tryz.underlying3
theorem zbu (w:World):zaS Tryz.prog w 51 Ver.cells (fun v=>okI v.by_∧okI v.n):=by
 intro H enc fuel cs x h;obtain⟨xs,n,_,_,hlen,hxs,hf⟩:=DataW.trod_struct Tryz.underlying51 h;rw[zck] at hlen
 match cs,hlen with
 | [c0,c1],_=>
  obtain⟨a,ha,oa⟩:=zv hxs hf (i:=0) rfl zas (zac w);obtain⟨b,hb,ob⟩:=zv hxs hf (i:=1) rfl zas (zac w);simp at ha hb;subst ha hb;exact⟨⟨a,b⟩,rfl,oa,ob⟩
end
end Go.Proofs.YtofjpdgojoppbaaGreatDoor
