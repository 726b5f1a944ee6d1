/-
  Of the claim's proof: AwE, AwC, MgH.
-/
import Derived.Test.YtofjpdgojoppbaaGreatDoorS01
import Derived.Test.YtofjpdgojoppbaaGreatDoorS20
import Derived.Test.YtofjpdgojoppbaaGreatDoorS26
set_option maxRecDepth 100000
set_option maxHeartbeats 16000000
set_option linter.unusedVariables false
set_option linter.unusedSimpArgs false
namespace Go.Proofs.YtofjpdgojoppbaaGreatDoor
section
open Go.RowKit
section
variable (P:Program) (ops:Array Oper) (M:Rel) (F:World→Prop) (a0:Act)
def AWE (R:(Nat→Slot)→(World→Prop)→Prop):List Oper→(Nat→Slot)→(World→Prop)→Prop
 | [],g,E=>R g E
 | o::rest,g,E=>(∃ s:Slot,s.steady M∧OpOK P ops M F o g s∧AWE R rest (upd g o.dst s) E)∨(o.dst=none ∧ ∃ φ:World→Prop,zae M φ∧OpOK P ops M F o g (.any fun _=>φ)∧AWE R rest g (fun w=>E w∧φ w))
def zmi (sl:Nat→Slot) (n:Nat) (w:World):Prop:=∀ j o,j<n→ops[j]? = some o→o.dst=none → ∃ v,(sl j).ok v w
end
section
variable {P:Program} {ops:Array Oper} {M:Rel} {F:World→Prop} {a0:Act}
theorem AWE.slots {R:(Nat→Slot)→(World→Prop)→Prop}:∀ (l:List Oper) (k:Nat) (g:Nat→Slot) (sl:Nat→Slot) (E:World→Prop),(∀ w,zmi ops sl k w→E w)→(∀ j o,l[j]? = some o→ops[k+j]? = some o)→(∀ t,g t=slotOf ops a0 sl (fun _=>true) t k)→AWE P ops M F R l g E →
  ∃ (sl':Nat→Slot) (g':Nat→Slot) (E':World→Prop),(∀ w,zmi ops sl' (k+l.length) w→E' w)∧(∀ j,j<k→sl' j=sl j)∧(∀ j,k+l.length≤j→sl' j=sl j)∧(∀ j o,k≤j→j<k+l.length→ops[j]? = some o→(sl' j).steady M∧OpOK P ops M F o (fun t=>slotOf ops a0 sl' (fun _=>true) t j) (sl' j)) ∧
   (∀ t,g' t=slotOf ops a0 sl' (fun _=>true) t (k+l.length))∧R g' E'
 | [],k,g,sl,E,hE,hl,he,h=>by
   refine⟨sl,g,E,hE,fun _ _=>rfl,fun _ _=>rfl,fun j o hj hj2 ho=>?_,by simpa using he,h⟩;simp at hj2;omega
 | o::l,k,g,sl,E,hE,hl,he,h=>by
  obtain⟨s,E1,hs,hop,hr,hE1⟩:∃ (s:Slot) (E1:World→Prop),s.steady M∧OpOK P ops M F o g s∧AWE P ops M F R l (upd g o.dst s) E1 ∧ ∀ w,E w→(o.dst=none → ∃ v,s.ok v w)→E1 w:=by
   rcases h with⟨s,h1,h2,h3⟩ | ⟨hd,φ,h1,h2,h3⟩
   ·exact⟨s,E,h1,h2,h3,fun w a _=>a⟩
   ·refine⟨.any fun _=>φ,fun w=>E w∧φ w,fun _=>h1,h2,by rw[hd];exact h3,fun w a b=>?_⟩
    obtain⟨v,hv⟩:=b hd;exact⟨a,hv⟩
  have h0:ops[k]? = some o:=by simpa using hl 0 o rfl
  have hd:dstOf ops k=o.dst:=by simp[dstOf,h0]
  let sl1:Nat→Slot:=fun j=>if j=k then s else sl j
  have hcong:∀ t,slotOf ops a0 sl1 (fun _=>true) t k=slotOf ops a0 sl (fun _=>true) t k:=by
   intro t;have:∀ n,n≤k→slotOf ops a0 sl1 (fun _=>true) t n=slotOf ops a0 sl (fun _=>true) t n:=by
    intro n
    induction n with
    | zero=>intro _;rfl
    | succ n ih=>
     intro hn;unfold slotOf;rw[ih (by omega)];have:sl1 n=sl n:=by simp only[sl1];rw[if_neg (by omega)]
     rw[this]
   exact this k (Nat.le_refl _)
  have hk1:∀ t,upd g o.dst s t=slotOf ops a0 sl1 (fun _=>true) t (k+1):=by
   intro t;unfold slotOf;rw[hd,hcong];have hs1:sl1 k=s:=by simp[sl1]
   rw[hs1];cases ho:o.dst with
   | none=>simp[he,upd]
   | some d=>
    by_cases hdt:d=t
    ·subst hdt;simp[upd]
    ·simp[upd,hdt,he]
  have hE2:∀ w,zmi ops sl1 (k+1) w→E1 w:=fun w h=>by
   refine hE1 w (hE w fun j p hj hp hd=>?_) (fun hd=>?_)
   ·obtain⟨v,hv⟩:=h j p (by omega) hp hd
    refine⟨v,?_⟩;have e:sl1 j=sl j:=by simp only[sl1];rw[if_neg (by omega)]
    rw[e] at hv;exact hv
   ·obtain⟨v,hv⟩:=h k o (by omega) h0 hd
    refine⟨v,?_⟩;have e:sl1 k=s:=by simp[sl1]
    rw[e] at hv;exact hv
  obtain⟨sl',env',E',hE3,h1,h1b,h2,h3,h4⟩:=AWE.slots l (k+1) _ sl1 E1 hE2 (fun j p hj=>by have:=hl (j+1) p (by simpa using hj);simpa[Nat.add_assoc,Nat.add_comm 1 j] using this) hk1 hr;refine⟨sl',env',E',fun w h=>hE3 w (by rw[show k+1+l.length=k+(o::l).length by simp;omega];exact h),fun j hj=>?_,fun j hj=>?_,fun j p hj hj2 hp=>?_,fun t=>?_,h4⟩
  ·rw[h1 j (by omega)];simp only[sl1];rw[if_neg (by omega)]
  ·simp only[List.length_cons] at hj
   rw[h1b j (by omega)];simp only[sl1];rw[if_neg (by omega)]
  ·by_cases hjk:j=k
   ·subst hjk
    rw[h0] at hp;injection hp with hp;subst hp
    have e1:sl' j=s:=by rw[h1 j (by omega)];simp[sl1]
    have e2:(fun t=>slotOf ops a0 sl' (fun _=>true) t j)=g:=by
     funext t
     rw[he t,←hcong t];have:∀ n,n≤j→slotOf ops a0 sl' (fun _=>true) t n=slotOf ops a0 sl1 (fun _=>true) t n:=by
      intro n
      induction n with
      | zero=>intro _;rfl
      | succ n ih=>intro hn;unfold slotOf;rw[ih (by omega),h1 n (by omega)]
     exact this j (Nat.le_refl _)
    rw[e1,e2];exact⟨hs,hop⟩
   ·simp only[List.length_cons] at hj2
    exact h2 j p (by omega) (by omega) hp
  ·rw[h3 t];congr 1;simp;omega
structure MidE (ops:Array Oper) (F:World→Prop) (a0:Act) (sl:Nat→Slot) (L:Array Bool) (a:Act) (w:World):Prop where
 size:L.size=ops.size
 down:∀ i o,L.getD i false=true→ops[i]? = some o → ∀ e∈o.after,Region.binds .any e=true→L.getD e.on false=true
 frame:F w
 tmps:a.tmps.size=a0.tmps.size
 defers:a.defers=a0.defers
 slots:∀ t,t<a0.tmps.size→(slotOf ops a0 sl (fun j=>L.getD j false) t ops.size).ok (a.tmps.getD t undef) w
 effs:∀ j o,L.getD j false=true→ops[j]? = some o→o.dst=none → ∃ v,(sl j).ok v w
theorem MidE.mid {sl:Nat→Slot} {L:Array Bool} {a:Act} {w:World} (h:MidE ops F a0 sl L a w):Mid ops F a0 sl L a w:=⟨h.size,h.down,h.frame,h.tmps,h.defers,h.slots⟩
theorem MidE.start {w:World} {sl:Nat→Slot} (hw:F w):MidE ops F a0 sl (Array.replicate ops.size false) a0 w:=by
 have h:=Mid.start (ops:=ops) (a0:=a0) (sl:=sl) hw;exact⟨h.size,h.down,h.frame,h.tmps,h.defers,h.slots,fun j o hj=>by
  have hf:(Array.replicate ops.size false).getD j false=false:=by simp[Array.getElem?_replicate];split <;> rfl
  rw[hf] at hj;cases hj⟩
theorem MidE.step {sl:Nat→Slot} {L:Array Bool} {a:Act} {w:World} (hF:zae M F) (hg:zaV ops a0.tmps.size=true)
  (hst:∀ j o,ops[j]? = some o→(sl j).steady M) {i:Nat} (hsl:∀ o,ops[i]? = some o→OpOK P ops M F o (fun t=>slotOf ops a0 sl (fun _=>true) t i) (sl i))
  (hm:MidE ops F a0 sl L a w) (hi:i∈Region.ready .any ops L) (hlook:∀ o,ops[i]? = some o → ∀ t∈o.looksAt ops,t<a0.tmps.size) {Q:Exit→Act→World→Prop} :
  wpOp P ops Q i (fun a' w'=>MidE ops F a0 sl (L.setIfInBounds i true) a' w') a w:=by
 obtain⟨hun,o,ho,hall⟩:=mem_ready.1 hi;have hil:i<ops.size:=(Array.getElem?_eq_some_iff.1 ho).1;have hiL:i<L.size:=by rw[hm.size];exact hil
 have hunf:L.getD i false=false:=by simp[hiL] at hun⊢;exact hun
 obtain⟨g1,g2,g3,g4⟩:=zaB hg ho;have hop:=hsl o ho;have early:∀ j p,j<i→ops[j]? = some p→(L.getD j false=true∨p.apart ops o=true):=fun j p hj hp=>by
  rcases g4 j p hj hp with⟨e,he,hb,rfl⟩ | h
  ·exact .inl (hall e he hb)
  ·exact .inr h
 have late:∀ j p,i<j→ops[j]? = some p→(L.getD j false=false∨o.apart ops p=true):=fun j p hj hp=>by
  rcases(zaB hg hp).2.2.2 i o hj ho with⟨e,he,hb,rfl⟩ | h
  ·left
   cases hLj:L.getD j false with
   | false=>rfl
   | true=>have:=hm.down j p hLj hp e he hb;rw[hunf] at this;cases this
  ·exact .inr h
 have hlooks:∀ t∈o.looksAt ops,slotOf ops a0 sl (fun j=>L.getD j false) t ops.size=slotOf ops a0 sl (fun _=>true) t i:=fun t ht=>by
  rw[zaU ops a0 (i:=i) ops.size (Nat.le_of_lt hil) fun j h1 h2 h3=>?_]
  ·refine zaw ops a0 i fun j hj hd=>?_
   have hp:ops[j]? = some ops[j]:=Array.getElem?_eq_getElem (by omega);have hd':ops[j].dst=some t:=by simpa[dstOf,hp] using hd
   rcases early j _ hj hp with h | h
   ·exact h
   ·exact absurd rfl (zfp ht hd' h)
  ·have hp:ops[j]? = some ops[j]:=Array.getElem?_eq_getElem h2
   have hd':ops[j].dst=some t:=by simpa[dstOf,hp] using h3
   by_cases hij:i=j
   ·subst hij;exact hunf
   ·rcases late j _ (by omega) hp with h | h
    ·exact h
    ·exact absurd rfl (zeB ht hd' h)
 have hag:=hop a w hm.frame fun t ht=>by
  have:=hm.slots t (hlook o ho t ht);rw[hlooks t ht] at this;exact this
 have after:∀ v w',(sl i).ok v w'→M.r w w'→MidE ops F a0 sl (L.setIfInBounds i true) (a.put o.dst v) w':=fun v w' hv he=>by
  have hsz:(a.put o.dst v).tmps.size=a0.tmps.size:=by cases o.dst <;> simp[Act.put,hm.tmps]
  refine⟨by simp[hm.size],fun j p hj hp e hep hb=>?_,hF _ _ he hm.frame,hsz,by cases o.dst <;> simp[Act.put,hm.defers],fun t htn=>?_,fun j p hj hp hd=>?_⟩
  ·by_cases hji:i=j
   ·subst hji
    rw[ho] at hp;injection hp with hp;subst hp
    exact getD_set_true (hall e hep hb)
   ·rw[getD_set_ne false hji] at hj
    exact getD_set_true (hm.down j p hj hp e hep hb)
  ·by_cases hdt:o.dst=some t
   ·have e1:slotOf ops a0 sl (fun j=>(L.setIfInBounds i true).getD j false) t ops.size=sl i:=by
     rw[zaU ops a0 (i:=i+1) ops.size hil fun j h1 h2 h3=>?_]
     ·unfold slotOf
      rw[if_pos ⟨by simp[hiL],by simp[dstOf,ho,hdt]⟩]
     ·have hp:ops[j]? = some ops[j]:=Array.getElem?_eq_getElem h2
      have hd':ops[j].dst=some t:=by simpa[dstOf,hp] using h3
      show(L.setIfInBounds i true).getD j false=false
      rw[getD_set_ne false (by omega)];rcases late j _ (by omega) hp with h | h
      ·exact h
      ·exact absurd hd' ((Oper.apart_spec h).2.1 t hdt)
    rw[e1];have:(a.put o.dst v).tmps.getD t undef=v:=by
     have:t<a.tmps.size:=by rw[hm.tmps];exact htn
     simp[Act.put,hdt,this]
    rw[this];exact hv
   ·have e1:slotOf ops a0 sl (fun j=>(L.setIfInBounds i true).getD j false) t ops.size=slotOf ops a0 sl (fun j=>L.getD j false) t ops.size:=by
     refine zaw ops a0 _ fun j hj hd=>getD_set_ne false ?_;rintro rfl;exact hdt (by simpa[dstOf,ho] using hd)
    rw[e1];have e2:(a.put o.dst v).tmps.getD t undef=a.tmps.getD t undef:=by
     cases hd:o.dst with
     | none=>rfl
     | some d=>
      have hne:d≠t:=fun e=>hdt (by rw[hd,e]);simp[Act.put,Array.getElem?_setIfInBounds_ne hne]
    rw[e2];have hk:=hm.slots t htn;have hsteady:(slotOf ops a0 sl (fun j=>L.getD j false) t ops.size).steady M:=by
     have:∀ k,(slotOf ops a0 sl (fun j=>L.getD j false) t k).steady M:=by
      intro k
      induction k with
      | zero=>exact trivial
      | succ k ih=>
       unfold slotOf
       split
       ·rename_i hh
        cases hok:ops[k]? with
        | none=>simp[dstOf,hok] at hh
        | some p=>exact hst k p hok
       ·exact ih
     exact this _
    exact Slot.ok_ext hsteady he hk
  ·by_cases hji:i=j
   ·subst hji
    exact⟨v,hv⟩
   ·rw[getD_set_ne false hji] at hj
    obtain⟨u,hu⟩:=hm.effs j p hj hp hd;exact⟨u,Slot.ok_ext (hst j p hp) he hu⟩
 unfold wpOp;simp only[ho]
 split
 ·rename_i hw
  rw[if_pos hw] at hag;exact .inl (Gives.wp hag fun v w' ⟨h1,h2⟩=>after v w' h1 h2)
 ·rename_i hw
  rw[if_neg hw] at hag;exact after undef w hag (M.refl w)
theorem MidE.any {sl:Nat→Slot} {z:Nat} (hF:zae M F) (hg:zaV ops a0.tmps.size=true) (hlk:zbi ops a0.tmps.size=true) (hz:ops.size≤z+1) (hlast:za3 ops z=true)
  (hst:∀ j o,ops[j]? = some o→(sl j).steady M)
  (hsl:∀ j o,j<z→ops[j]? = some o→OpOK P ops M F o (fun t=>slotOf ops a0 sl (fun _=>true) t j) (sl j)) {Q:Exit→Act→World→Prop}
  (hQ:∀ L a w,(∀ i,i<ops.size→i<z→L.getD i false=true)→L.getD z false=false→MidE ops F a0 sl L a w→wpOp P ops Q z (fun a' w'=>Q .normal a' w') a w) :
  ∀ (fuel:Nat) (L:Array Bool) (a:Act) (w:World),L.getD z false=false→MidE ops F a0 sl L a w→((List.range ops.size).filter fun i=>!L.getD i false).length≤fuel→wpAny P .any ops Q fuel L a w:=by
 have none_ready:∀ L:Array Bool,L.size=ops.size→(∀ i,i<ops.size→L.getD i false=true)→Region.ready .any ops L=[]:=by
  intro L hs hall;rcases hr:Region.ready .any ops L with _ | ⟨i,r⟩
  ·rfl
  ·have hi:i∈Region.ready .any ops L:=by rw[hr];simp
   obtain⟨hun,o,ho,_⟩:=mem_ready.1 hi;have hil:i<ops.size:=(Array.getElem?_eq_some_iff.1 ho).1;have hiL:i<L.size:=by rw[hs];exact hil
   have:=hall i hil;simp[hiL] at hun this;rw[hun] at this;cases this
 have full:∀ L a w,MidE ops F a0 sl L a w→Region.ready .any ops L=[] → ∀ i,i<ops.size→L.getD i false=true:=by
  intro L a w hm hr i
  induction i using Nat.strongRecOn with
  | _ i ih=>
   intro hi;cases hL:L.getD i false with
   | true=>rfl
   | false=>
    have ho:ops[i]? = some ops[i]:=Array.getElem?_eq_getElem hi;have:i∈Region.ready .any ops L:=mem_ready.2 ⟨by
     have hiL:i<L.size:=by rw[hm.size];exact hi
     simp[hiL] at hL⊢;exact hL,_,ho,fun e he hb=>by
      have hlt:=(zaB hg ho).1 e he hb;exact ih e.on hlt (by omega)⟩
    rw[hr] at this;cases this
 intro fuel
 induction fuel with
 | zero=>
  intro L a w hz0 hm hc;have hall:∀ i,i<ops.size→L.getD i false=true:=fun i hi=>by
   cases hL:L.getD i false with
   | true=>rfl
   | false=>
    have hmem:i∈(List.range ops.size).filter fun i=>!L.getD i false:=List.mem_filter.2 ⟨List.mem_range.2 hi,by simp only[hL];rfl⟩;have:=List.length_pos_of_mem hmem;omega
  refine⟨none_ready L hm.size hall,?_⟩;have hzn:ops[z]? = none:=by
   rcases Nat.lt_or_ge z ops.size with h | h
   ·rw[hall z h] at hz0;cases hz0
   ·exact Array.getElem?_eq_none h
  have:=hQ L a w (fun i hi _=>hall i hi) hz0 hm;simpa[wpOp,hzn] using this
 | succ fuel ih=>
  intro L a w hz0 hm hc;refine⟨fun hr=>?_,fun i hi=>?_⟩
  ·have hall:=full L a w hm hr
   have hzn:ops[z]? = none:=by
    rcases Nat.lt_or_ge z ops.size with h | h
    ·rw[hall z h] at hz0;cases hz0
    ·exact Array.getElem?_eq_none h
   have:=hQ L a w (fun i hi _=>hall i hi) hz0 hm;simpa[wpOp,hzn] using this
  ·obtain⟨hun,o,ho,hready⟩:=mem_ready.1 hi
   have hil:i<ops.size:=(Array.getElem?_eq_some_iff.1 ho).1;have hiL:i<L.size:=by rw[hm.size];exact hil
   by_cases hiz:i=z
   ·subst hiz
    have hanc:=zca (ops:=ops) (L:=fun j=>L.getD j false) hm.down i ((o.after.toList.filter (Region.binds .any)).map (·.on)) (fun j hj=>by
     obtain⟨e,he,rfl⟩:=List.mem_map.1 hj;obtain⟨h1,h2⟩:=List.mem_filter.1 he;exact hready e (Array.mem_toList_iff.1 h1) h2)
    have hall:∀ j,j<i→L.getD j false=true:=fun j hj=>by
     unfold za3 at hlast;simp only[ho] at hlast;exact hanc j (by simpa using List.all_eq_true.1 hlast j (List.mem_range.2 hj))
    refine wpOp_mono (fun a' w' h'=>?_) (hQ L a w (fun j _ hj=>hall j hj) hz0 hm);have hn:Region.ready .any ops (L.setIfInBounds i true)=[]:=none_ready _ (by simp[hm.size]) fun j hj=>by
     by_cases hji:i=j
     ·subst hji;simp[hiL]
     ·rw[getD_set_ne false hji];exact hall j (by omega)
    cases fuel with
    | zero=>exact⟨hn,h'⟩
    | succ fuel=>exact⟨fun _=>h',fun j hj=>by rw[hn] at hj;cases hj⟩
   ·refine wpOp_mono (fun a' w' hm'=>ih _ _ _ (by rw[getD_set_ne false hiz];exact hz0) hm' ?_) (hm.step hF hg hst (fun p hp=>hsl i p (by omega) hp) hi fun o ho=>zdK hlk ho)
    have hlt:((List.range ops.size).filter fun j=>!(L.setIfInBounds i true).getD j false).length<((List.range ops.size).filter fun j=>!L.getD j false).length:=by
     have hmem:i∈(List.range ops.size).filter fun j=>!L.getD j false:=List.mem_filter.2 ⟨List.mem_range.2 hil,by simp[hiL] at hun⊢;exact hun⟩;have hsub:((List.range ops.size).filter fun j=>!(L.setIfInBounds i true).getD j false)=((List.range ops.size).filter fun j=>!L.getD j false).filter fun j=>j != i:=by
      rw[List.filter_filter];refine List.filter_congr fun j _=>?_;by_cases hji:i=j
      ·subst hji;simp[hiL]
      ·have hb:(j != i)=true:=by simp;omega
       rw[getD_set_ne false hji,hb,Bool.true_and]
     rw[hsub];refine List.length_filter_lt_length_iff_exists.2 ⟨i,hmem,by simp⟩
    omega
def zdD (P:Program) (ops:Array Oper) (F:World→Prop) (a0:Act) (Q:Exit→Act→World→Prop) (z:Oper) (g:Nat→Slot) (E:World→Prop):Prop:=
 ∀ a w,F w→a.tmps.size=a0.tmps.size→a.defers=a0.defers→(∀ t,t<a0.tmps.size→(g t).ok (a.tmps.getD t undef) w)→E w→wpList P ops Q [z] a w
theorem zdq {id:Nat} {Q:Exit→Act→World→Prop} {w:World} (M:Rel) (F:World→Prop) (hF:zae M F) (hF0:F { w with drawn:=w.drawn+1 }) {l:List Oper} {z:Oper} (hm:P.follows .mixedOrders=true) (hg:zaV (l++[z]).toArray a0.tmps.size=true) (hlk:zbi (l++[z]).toArray a0.tmps.size=true)
  (hlast:za3 (l++[z]).toArray l.length=true)
  (h:AWE P (l++[z]).toArray M F (zdD P (l++[z]).toArray F a0 Q z) l (fun t=>.val (a0.tmps.getD t undef)) (fun _=>True)):(Code.region id (l++[z]).toArray true).wp P Q a0 w:=by
 obtain⟨sl,env,E',hE,_,hfar,hsl,he,hR⟩:=AWE.slots (a0:=a0) (ops:=(l++[z]).toArray) l 0 _ (fun _=>.val undef) (fun _=>True) (fun _ _=>trivial) (fun j o hj=>by simpa[List.getElem?_append_left (List.getElem?_eq_some_iff.1 hj).1] using hj) (fun _=>rfl) h;simp only[Nat.zero_add] at he hsl hfar hE;have hsz:(l++[z]).toArray.size=l.length+1:=by simp
 have hzs:(l++[z]).toArray[l.length]? = some z:=by simp
 have hlt:∀ j o,(l++[z]).toArray[j]? = some o→j<l.length+1:=fun j o ho=>by have:=(Array.getElem?_eq_some_iff.1 ho).1;omega
 refine wp_region_any hm (MidE.any (z:=l.length) (M:=M) hF hg hlk (by omega) hlast (fun j o ho=>?_) (fun j o hj ho=>(hsl j o (Nat.zero_le _) hj ho).2) (fun L a w' hall hz0 hm=>?_) _ _ _ _ (zc4 _ _) (MidE.start hF0) ?_)
 ·rcases Nat.lt_or_ge j l.length with hj | hj
  ·exact(hsl j o (Nat.zero_le _) hj ho).1
  ·rw[hfar j hj];exact trivial
 ·have:=hR a w' hm.frame hm.tmps hm.defers (Mid.end_ (by omega) he hall hz0 hm.mid) (hE w' fun j o hj ho hd=>hm.effs j o (hall j (by omega) hj) ho hd)
  simpa[wpOp,hzs,wpList] using this
 ·exact Nat.le_trans (List.length_filter_le _ _) (by simp)
end
theorem zcN {P:Program} {o:Oper} {a:Act} {w:World} {T:TypeId} {x:Operand} {p:Addr} {cs:Array Value} (hop:o.op=.load T x) (hx:a.eval x=.pointer (some p)) (hld:(loadVar T p).run P w=.ok (.agg cs) w):Gives P (fun u w'=>u=.agg cs∧w'=w) ((execOp a.eval o).run P w):=by
 simp only[execOp,hop,hx,Instr.loadAt,Instr.sureAddr,Sem.run_bind,Sem.run_pure,Result.andThen,hld];exact⟨rfl,rfl⟩
section
variable {P:Program} {ops:Array Oper} {M:Rel} {F:World→Prop} {R:(Nat→Slot)→(World→Prop)→Prop} {a0:Act} {E:World→Prop}
def AWe (P:Program) (ops:Array Oper) (M:Rel) (F:World→Prop) (R:(Nat→Slot)→(World→Prop)→Prop) (l:List Oper) (b:Act) (A:Anys) (E:World→Prop):Prop:=AWE P ops M F R l (zT b A) E
theorem AWe.val {o:Oper} {rest:List Oper} {b:Act} {A:Anys} {v:Value} (hap:zbX A (o.looksAt ops)=true) (hd:dstB A b.tmps.size o.dst=true) (hsel:(match o.op with | .select ..=>false | _=>true)=true) (hw:Region.wanted o (yielded ops b.tmps)=true)
  (h:∀ w,F w→Gives P (fun u w'=>u=v∧w'=w) ((execOp b.eval o).run P w)) (hr:AWe P ops M F R rest (b.put o.dst v) A E):AWe P ops M F R (o::rest) b A E:=by
 refine .inl ⟨.val v,trivial,fun a w hF hl=>?_,by rw[←zbt hd];exact hr⟩;rw[zbr hap hl,if_pos hw,zcE hsel hap hl];exact(h w hF).mono fun u w' h3=>⟨h3.1,by rw[h3.2];exact M.refl _⟩
theorem AWe.valE {o:Oper} {rest:List Oper} {b:Act} {A:Anys} (hap:zbX A (o.looksAt ops)=true) (hd:dstB A b.tmps.size o.dst=true) (hsel:(match o.op with | .select ..=>false | _=>true)=true) (hw:Region.wanted o (yielded ops b.tmps)=true)
  (h:∃ v,(∀ w,F w→Gives P (fun u w'=>u=v∧w'=w) ((execOp b.eval o).run P w))∧AWe P ops M F R rest (b.put o.dst v) A E):AWe P ops M F R (o::rest) b A E:=
 AWe.val hap hd hsel hw h.choose_spec.1 h.choose_spec.2
theorem AWe.call {o:Oper} {rest:List Oper} {b:Act} {A:Anys} {f:FuncId} {fn:Func} {xs:List Operand} {ats:Array TypeId} (ho:o.op=.call { callee:=.value (.func f),args:=xs.toArray,argTypes:=ats })
  (hf : P.funcs[f]? = some fn) (h1 : (fn.name == "runtime.NumGoroutine") = false) (h2 : fn.body.isNone = false)
  (hgn:o.guard=none) (hd:dstB A b.tmps.size o.dst=true)
  (h:∃ c,(∀ w,F w→zh b A w xs fun ys=>Calls P f ys.toArray w (Ret c w))∧AWe P ops M F R rest (b.put o.dst c) A E):AWe P ops M F R (o::rest) b A E:=by
 obtain⟨c,hc,hr⟩:=h;refine .inl ⟨.val c,trivial,fun a w hF hl=>?_,by rw[←zbt hd];exact hr⟩;have hops:∀ t,.tmp t∈xs→(zT b A t).ok (a.tmps.getD t undef) w:=fun t ht=>
  hl t (List.mem_append_left _ (List.mem_filterMap.2 ⟨.tmp t,by simp[ho,Op.operands,Call.operands,ht],rfl⟩))
 have hwa:Region.wanted o (yielded ops a.tmps)=true:=by unfold Region.wanted;rw[hgn]
 rw[if_pos hwa,zdc ho rfl,zbz hf h1 h2];exact(zmp (zaX xs _ hops (hc w hF))).mono fun _ _ ⟨v,e,h,k⟩=>⟨v,e,h,M.ofExt _ _ k⟩
theorem AWe.eff {o:Oper} {rest:List Oper} {b:Act} {A:Anys} (φ:World→Prop) (hφ:zae M φ) (hap:zbX A (o.looksAt ops)=true) (hd:o.dst=none) (hsel:(match o.op with | .select ..=>false | _=>true)=true) (hw:Region.wanted o (yielded ops b.tmps)=true)
  (h:∀ w,F w→Gives P (fun _ w'=>φ w'∧M.r w w') ((execOp b.eval o).run P w)) (hr:AWe P ops M F R rest b A (fun w=>E w∧φ w)):AWe P ops M F R (o::rest) b A E:=by
 refine .inr ⟨hd,φ,hφ,fun a w hF hl=>?_,hr⟩;rw[zbr hap hl,if_pos hw,zcE hsel hap hl];exact h w hF
theorem AWe.last {Q:Exit→Act→World→Prop} {b:Act} {A:Anys} {z:Oper} (hs:b.tmps.size=a0.tmps.size) (hd:b.defers=a0.defers) (hk:zdO b.tmps.size A=true)
  (h:∀ w,F w→E w→zl (wpList P ops Q [z]) w A b):AWe P ops M F (zdD P ops F a0 Q z) [] b A E:=
 fun a w hF hsz hdf hsl hE=>zaD A b hk (by rw[hs,hsz]) (by rw[hd,hdf]) (fun t ht=>hsl t (by rw[←hs];exact ht)) (h w hF hE)
theorem zaY {id:Nat} {L pre:List Oper} {z:Oper} {Q:Exit→Act→World→Prop} {w:World} (M:Rel) (F:World→Prop) (hpre:L.dropLast=pre) (hz:L.getLast? = some z) (hF:zae M F) (hF0:F w.drew) (hm:P.follows .mixedOrders=true) (hg:zaV L.toArray a0.tmps.size=true) (hlk:zbi L.toArray a0.tmps.size=true)
  (hlast:za3 L.toArray (L.length-1)=true)
  (h:AWe P L.toArray M F (zdD P L.toArray F a0 Q z) pre a0 [] (fun _=>True)):(Code.region id L.toArray true).wp P Q a0 w:=by
 have hL:L=pre++[z]:=by
  subst hpre;have hne:L≠[]:=by rintro rfl;cases hz
  have hz':=List.getLast?_eq_some_getLast hne;rw[hz] at hz';injection hz' with hz'
  rw[hz',List.dropLast_concat_getLast hne]
 subst hL;exact zdq M F hF hF0 hm hg hlk (by simpa using hlast) h
end
end
section
open Go.RowKit
def Btw (p t c:Array Value):Prop:=c.size=p.size ∧ ∀ j:Nat,c[j]? = p[j]? ∨ c[j]? = t[j]?
def relC (g:Nat) (T:TypeId) (p t:Array Value):Rel where
 r a b:=Keep (fun q=>q=g) a b ∧ ∀ c,Blk a g T c→Btw p t c → ∃ c',Blk b g T c'∧Btw p t c' ∧ ∀ j:Nat,c[j]? = t[j]? → c'[j]? = t[j]?
 refl w:=⟨Keep.refl _ _,fun c h b=>⟨c,h,b,fun _ h=>h⟩⟩
 trans a b c h k:=⟨h.1.trans k.1,fun x hx bx=>by
  obtain⟨y,hy,by_,ky⟩:=h.2 x hx bx;obtain⟨z,hz,bz,kz⟩:=k.2 y hy by_;exact⟨z,hz,bz,fun j hj=>kz j (ky j hj)⟩⟩
 ofExt a b h:=⟨Keep.of_ext h,fun c x bx=>⟨c,x.ext h,bx,fun _ h=>h⟩⟩
def facC (w:World) (g:Nat) (T:TypeId) (p t:Array Value) (W:World):Prop:=Keep (fun q=>q=g) w W ∧ ∃ c,Blk W g T c∧Btw p t c
theorem facC.steady (w:World) (g:Nat) (T:TypeId) (p t:Array Value):zae (relC g T p t) (facC w g T p t):=fun a b h ⟨k,c,hc,bc⟩=>by
 obtain⟨y,hy,by_,_⟩:=h.2 c hc bc;exact⟨k.trans h.1,y,hy,by_⟩
theorem facC.start {w:World} {g:Nat} {T:TypeId} {p t:Array Value} (h:Blk w g T p):facC w g T p t w.drew:=⟨Keep.of_ext (Ext.drew w),p,h.ext (Ext.drew w),rfl,fun _=>.inl rfl⟩
def setC (g:Nat) (T:TypeId) (p t:Array Value) (o n:Nat) (W:World):Prop:=∃ c,Blk W g T c∧Btw p t c ∧ ∀ j:Nat,o≤j→j<o+n→c[j]? = t[j]?
theorem setC.steady (g:Nat) (T:TypeId) (p t:Array Value) (o n:Nat):zae (relC g T p t) (setC g T p t o n):=fun a b h ⟨c,hc,bc,kc⟩=>by
 obtain⟨y,hy,by_,ky⟩:=h.2 c hc bc;exact⟨y,hy,by_,fun j h1 h2=>ky j (kc j h1 h2)⟩
theorem zg9 {w:World} {g:Nat} {T:TypeId} {c d:Array Value} (h:Blk w g T c) (k:Blk w g T d):c=d:=by
 have h1:w.heap[g]? = some (.cells c T (0,0)):=h;have h2:w.heap[g]? = some (.cells d T (0,0)):=k;rw[h1] at h2;injection h2 with h2
 injection h2
theorem setC.all {w:World} {g:Nat} {T:TypeId} {p t:Array Value} (hs:p.size=t.size) (L:List (Nat×Nat)) (h0:∃ c,Blk w g T c∧Btw p t c) (h:∀ x∈L,setC g T p t x.1 x.2 w) (hd:∀ j:Nat,p[j]? = t[j]? ∨ ∃ x∈L,x.1≤j∧j<x.1+x.2):Blk w g T t:=by
 obtain⟨c,hc,bc⟩:=h0;have e:c=t:=by
  apply Array.ext_getElem?;intro j;rcases hd j with hj | ⟨x,hx,h1,h2⟩
  ·rcases bc.2 j with h3 | h3
   ·rw[h3,hj]
   ·exact h3
  ·obtain⟨d,hd1,_,hd3⟩:=h x hx
   rw[zg9 hc hd1];exact hd3 j h1 h2
 rw[←e];exact hc
theorem zab {w:World} {g o:Nat} {T:TypeId} {p t c:Array Value} {vs:List Value} (h:Blk w g T c) (hb:Btw p t c) (hle:o+vs.length≤p.size) (hv:∀ j:Nat,j<vs.length→vs[j]? = t[o+j]?):setC g T p t o vs.length (w.setCells g o vs)∧(relC g T p t).r w (w.setCells g o vs):=by
 obtain⟨c2,h2,s2,t2,k2⟩:=zc5 (Nat.le_refl g) vs o w c h (by rw[hb.1];exact hle);have hcs:=hb.1;have hcl:c.toList.length=c.size:=Array.length_toList;have hget:∀ j:Nat,c2[j]? = if o≤j∧j<o+vs.length then t[j]? else c[j]?:=by
  intro j;rw[←Array.getElem?_toList,t2];by_cases h1:o≤j∧j<o+vs.length
  ·rw[if_pos h1,List.append_assoc,List.getElem?_append_right (by rw[List.length_take];omega),List.length_take,Nat.min_eq_left (by omega),List.getElem?_append_left (by omega),hv _ (by omega),show o+(j-o)=j by omega]
  ·rw[if_neg h1]
   by_cases h3:j<o
   ·rw[List.append_assoc,List.getElem?_append_left (by rw[List.length_take];omega),List.getElem?_take,if_pos h3,Array.getElem?_toList]
   ·rw[List.getElem?_append_right (by rw[List.length_append,List.length_take];omega),List.length_append,List.length_take,Nat.min_eq_left (by omega),List.getElem?_drop,show o+vs.length+(j-(o+vs.length))=j by omega,Array.getElem?_toList]
 have b2:Btw p t c2:=⟨s2.trans hb.1,fun j=>by
  rw[hget]
  split
  ·exact .inr rfl
  ·exact hb.2 j⟩
 refine⟨⟨c2,h2,b2,fun j h1 h3=>by rw[hget,if_pos ⟨h1,h3⟩]⟩,k2,fun d hd bd=>⟨c2,h2,b2,fun j hj=>?_⟩⟩;rw[hget]
 split
 ·rfl
 ·rw[zg9 h hd];exact hj
theorem zbb {P:Program} {o:Oper} {a:Act} {w:World} {ψ:Value→World→Prop} {T T1:TypeId} {x y:Operand} {g k:Nat} {cs:Array Value} {v:Value} {vs:Array Value} (hop:o.op=.store T1 x y) (hx:a.eval x=.pointer (some ⟨g,k,none⟩)) (hy:a.eval y=v) (hv:v.cells=vs) (h:Blk w g T cs) (hi:(P.info? T1).map (·.size)=some vs.size) (hle:k+vs.size≤cs.size) (h1:∀ u∈vs.toList,u.oneCell'=true) (hψ:ψ undef (w.setCells g k vs.toList)):Gives P ψ ((execOp a.eval o).run P w):=by
 have hr:(storeVar T1 ⟨g,k,none⟩ v).run P w=.ok () (w.setCells g k vs.toList):=by
  have:=zaa (P:=P) (vs:=vs.toList) h (by rw[Array.length_toList];exact hle) h1;cases hq:P.info? T1 with
  | none=>simp[hq] at hi
  | some i=>
   have hs:vs.size=i.size:=by simp[hq] at hi;omega
   simp[storeVar,sizeOf,typeInfo,hq,hv,hs,this]
 simp only[execOp,hop,hx,hy,Instr.storeAt,Instr.sureAddr,Sem.run_bind,Sem.run_pure,Result.andThen,hr];exact hψ
end
section
open Go.RowKit
attribute [-simp] Tryz.isAgg36 Tryz.sizeOf36 Tryz.isAgg33 Tryz.sizeOf33
def zI (m:MsgI):MsgI:=⟨m.kind,m.s1,m.s2,m.s3,if m.kind=2∨m.kind=3 then m.r1 else 0,if m.kind=2∨m.kind=3 then m.r2 else 0,if m.kind=2∨m.kind=3 then m.r3 else 0,
 if m.kind=1 then m.up else false,if m.kind=1 then m.f else [],if m.kind=1 then m.k else⟨[],[]⟩,if m.kind=1 then m.held else [],
 if m.kind=2 then m.seq else 0,if m.kind=2 then m.last else false,if m.kind=2 then m.ents else [],if m.kind=2 then m.V else vec0,if m.kind=2 then m.A else vec0,if m.kind=2 then m.not else [],
 if m.kind=4 then m.code else 0,by split;exact m.hV;simp[vec0],by split;exact m.hA;simp[vec0]⟩
def zU (m:MsgI) (S:SlM):SlM:=⟨if m.kind=1 then S.f else nilS,if m.kind=1 then S.k1 else nilS,if m.kind=1 then S.k2 else nilS,if m.kind=1 then S.held else nilS,if m.kind=2 then S.ents else nilS,if m.kind=2 then S.not else nilS⟩
theorem only_at {w:World} {S:SlM} {m:MsgI} (h:MsgAt w S m):MsgAt w (zU m S) (zI m):=by
 refine⟨?_,?_,?_,?_,?_⟩
 ·unfold zU zI;dsimp only;split;exact h.f;exact Sl.nil w 3
 ·unfold zU zI;dsimp only;split;exact h.k;exact⟨FragsAt.nil w,Sl.nil w 67⟩
 ·unfold zU zI;dsimp only;split;exact h.held;exact Sl.nil w 4
 ·unfold zU zI;dsimp only;split;exact h.ents;exact Sl.nil w 21
 ·unfold zU zI;dsimp only;split;exact h.not;exact Sl.nil w 2
def zF (m:MsgI):MsgC:=⟨m.kind,m.s1,m.s2,m.s3,0,0,0,false,nilS,nilS,nilS,nilS,0,false,nilS,vec0,vec0,nilS,0,by simp[vec0],by simp[vec0]⟩
theorem zb7 (m:MsgI):((((Tryz.zeroCells36.setIfInBounds 0 (.int .i64 m.kind)).setIfInBounds 1 (.int .i64 m.s1)).setIfInBounds 2 (.int .i64 m.s2)).setIfInBounds 3 (.int .i64 m.s3))=(zF m).arr:=by kernel_rfl
theorem zaT:Tryz.zeroCells36=msgZ.arr:=by kernel_rfl
theorem zc1 (a b:MsgC) (j:Nat):a.arr[j]? = b.arr[j]? ∨ (j<15∧a.head[j]? ≠ b.head[j]?)∨(15≤j∧j<80∧a.V≠b.V)∨(80≤j∧j<145∧a.A≠b.A)∨(145≤j∧([a.not.val,.int .i64 a.code]:List Value)[j-145]? ≠ ([b.not.val,.int .i64 b.code]:List Value)[j-145]?):=by
 by_cases h1:j<15
 ·rw[zP a j h1,zP b j h1]
  by_cases h:a.head[j]? = b.head[j]?
  ·exact .inl h
  ·exact .inr (.inl ⟨h1,h⟩)
 ·by_cases h2:j<80
  ·by_cases h:a.V=b.V
   ·obtain⟨v,hv⟩:∃ v,(intsV a.V)[j-15]? = some v:=⟨_,List.getElem?_eq_getElem (by rw[zG,a.hV];omega)⟩
    have e1:=zbD a (j-15) v hv;have e2:=zbD b (j-15) v (by rw[←h];exact hv);rw[show 15+(j-15)=j by omega] at e1 e2;exact .inl (e1.trans e2.symm)
   ·exact .inr (.inr (.inl ⟨by omega,h2,h⟩))
  ·by_cases h3:j<145
   ·by_cases h:a.A=b.A
    ·obtain⟨v,hv⟩:∃ v,(intsV a.A)[j-80]? = some v:=⟨_,List.getElem?_eq_getElem (by rw[zG,a.hA];omega)⟩
     have e1:=zbE a (j-80) v hv;have e2:=zbE b (j-80) v (by rw[←h];exact hv);rw[show 80+(j-80)=j by omega] at e1 e2;exact .inl (e1.trans e2.symm)
    ·exact .inr (.inr (.inr (.inl ⟨by omega,h3,h⟩)))
   ·have e1:=zad a (j-145)
    have e2:=zad b (j-145);rw[show 145+(j-145)=j by omega] at e1 e2;rw[e1,e2];by_cases h:([a.not.val,.int .i64 a.code]:List Value)[j-145]? = ([b.not.val,.int .i64 b.code]:List Value)[j-145]?
    ·exact .inl h
    ·exact .inr (.inr (.inr (.inr ⟨by omega,h⟩)))
theorem zL {S:Nat→Prop} {w w':World} (k:Keep S w w') {b o:Nat} {v:Value} (hb:b<w.heap.size) (hs:¬ S b) (h:w.cell? ⟨b,o,none⟩=some v):w'.cell? ⟨b,o,none⟩=some v:=by
 have hk:=k.block b hb hs;unfold World.cell? at h⊢;rw[hk];exact h
theorem only1_c (w:World) (S:SlM) (m:MsgI) (ek:m.kind=1):Calls Tryz.prog 102 #[.agg (m.at S).arr] w (Ret (.agg ((zI m).at (zU m S)).arr) w):=by
 have d1:(m.kind==1)=true:=by rw[ek];decide
 have d2:(m.kind==2)=false:=by rw[ek];decide
 have d3:(m.kind==3)=false:=by rw[ek];decide
 have d4:(m.kind==4)=false:=by rw[ek];decide
 have HEk:=hid ek;clear ek;have HA:=hid (zP (m.at S));have HAE:=hid (zad (m.at S));have hz:=hid (zy (m.at S));have HAV:=hid (fun j v (h:(vecV m.V)[j]? = some v)=>zbD (m.at S) j v (by simpa[vecV,intsV,MsgI.at] using h));have HAA:=hid (fun j v (h:(vecV m.A)[j]? = some v)=>zbE (m.at S) j v (by simpa[vecV,intsV,MsgI.at] using h));generalize (m.at S).arr=ar at HA hz HAE HAV HAA⊢;have HBa:=hid (Blk.new w 36 ar);obtain⟨⟨af1,af2,af3⟩,⟨ax1,ax2,ax3⟩,⟨ay1,ay2,ay3⟩,⟨ah1,ah2,ah3⟩,⟨ae1,ae2,ae3⟩,⟨an1,an2,an3⟩⟩:=S;have a0:ar[0]? = some (.int .i64 m.kind):=HA.out 0 (by omega)
 have a1:ar[1]? = some (.int .i64 m.s1):=HA.out 1 (by omega);have a2:ar[2]? = some (.int .i64 m.s2):=HA.out 2 (by omega);have a3:ar[3]? = some (.int .i64 m.s3):=HA.out 3 (by omega);have HZ:=hid (zy msgZ);have HZ1:=hid (zZ msgZ);have HP:=hid (zy (zF m));have HP1:=hid (zZ (zF m));obtain⟨X,hXe⟩:∃ X:MsgC,(zI m).at (zU m ⟨⟨af1,af2,af3⟩,⟨ax1,ax2,ax3⟩,⟨ay1,ay2,ay3⟩,⟨ah1,ah2,ah3⟩,⟨ae1,ae2,ae3⟩,⟨an1,an2,an3⟩⟩)=X:=⟨_,rfl⟩
 have HDf:=hid (zc1 (zF m) X);have HT:=hid (zP X);have HTE:=hid (zad X);have HTs:=hid (zy X);have HT1:=hid (zZ X);have HTV:=hid (zbD X);have HTA:=hid (zbE X);have HXE:=hid hXe;rw[hXe];clear hXe;generalize hte:X.arr=t at HDf HT HTE HTs HT1 HTV HTA⊢;have Hte:=hid hte;clear hte;go_enter Tryz.func102,Tryz.ntmps102;go_wp2_with fail
 simp only[Tryz.sizeOf33,Result.andThen];rw[Oper.upon_value,zb7];generalize hp0:(zF m).arr=p at HP HP1 HDf⊢;have Hp0:=hid hp0;clear hp0;go_wp2_with fail
 rw[zaT];have HB3:=hid (Blk.new ((w.alloc (.cells ar 36)).alloc (.cells msgZ.arr 36)) 36 msgZ.arr);rw[World.size_alloc,World.size_alloc] at HB3;simp only[Tryz.sizeOf36,Result.andThen,↓reduceIte,zb HB3.out (by rw[HP.out];exact zz) (by rw[HP.out,HZ.out]) HP1.out,HP.out];rw[Oper.upon_skip];have hset:=World.setRow_alloc_new ((w.alloc (.cells ar 36)).alloc (.cells msgZ.arr 36)) msgZ.arr p 36;rw[World.size_alloc,World.size_alloc] at hset;rw[hset];clear hset HB3;have hX:=((Ext.alloc w (.cells ar 36)).alloc' (.cells msgZ.arr 36)).alloc' (.cells p 36);have hB1:=(HBa.out.alloc (.cells msgZ.arr 36)).alloc (.cells p 36)
 have hB2:=(Blk.new (w.alloc (.cells ar 36)) 36 msgZ.arr).alloc (.cells p 36);have hB3:=Blk.new ((w.alloc (.cells ar 36)).alloc (.cells msgZ.arr 36)) 36 p;rw[World.size_alloc] at hB2;rw[World.size_alloc,World.size_alloc] at hB3;generalize ((w.alloc (.cells ar 36)).alloc (.cells msgZ.arr 36)).alloc (.cells p 36)=w3 at hX hB1 hB2 hB3⊢;have HX3:=hid hX;have HB1:=hid hB1;have HB2:=hid hB2;have HB3:=hid hB3;clear hX hB1 hB2 hB3 HBa;obtain⟨q1,hq1⟩:∃ q,q=w.heap.size:=⟨_,rfl⟩
 rw[←hq1] at HB1 HB2 HB3⊢;have hqw:w.heap.size≤q1:=by omega
 have HW:=hid hqw;clear hq1 hqw;dsimp only[Act.put];have c0:=HB1.out.cell a0;have l1:=HB1.out.lt;have l3:=HB3.out.lt;have hn13:q1≠q1+1+1:=by omega
 have a7:ar[7]? = some (.bool m.up):=HA.out 7 (by omega);have t7:t[7]? = some (.bool m.up):=by rw[HT.out 7 (by omega),←HXE.out];simp[MsgC.head,MsgI.at,zI,zU,HEk.out,SlV.val,zF,nilS]
 have c7:=HB1.out.cell a7;have a8:ar[8]? = some (.slice af1 af2 af3):=HA.out 8 (by omega);have t8:t[8]? = some (.slice af1 af2 af3):=by rw[HT.out 8 (by omega),←HXE.out];simp[MsgC.head,MsgI.at,zI,zU,HEk.out,SlV.val,zF,nilS]
 have c8:=HB1.out.cell a8;have a9:ar[9]? = some (.slice ax1 ax2 ax3):=HA.out 9 (by omega);have t9:t[9]? = some (.slice ax1 ax2 ax3):=by rw[HT.out 9 (by omega),←HXE.out];simp[MsgC.head,MsgI.at,zI,zU,HEk.out,SlV.val,zF,nilS]
 have c9:=HB1.out.cell a9;have a10:ar[10]? = some (.slice ay1 ay2 ay3):=HA.out 10 (by omega);have t10:t[10]? = some (.slice ay1 ay2 ay3):=by rw[HT.out 10 (by omega),←HXE.out];simp[MsgC.head,MsgI.at,zI,zU,HEk.out,SlV.val,zF,nilS]
 have c10:=HB1.out.cell a10;have a11:ar[11]? = some (.slice ah1 ah2 ah3):=HA.out 11 (by omega);have t11:t[11]? = some (.slice ah1 ah2 ah3):=by rw[HT.out 11 (by omega),←HXE.out];simp[MsgC.head,MsgI.at,zI,zU,HEk.out,SlV.val,zF,nilS]
 have c11:=HB1.out.cell a11;go_wp2_with fail
 refine zaY (relC (q1+1+1) 36 p t) (facC w3 (q1+1+1) 36 p t) (pre:=?pre3) (z:=?z3) ?hpre3 ?hz3 (facC.steady _ _ _ _ _) (facC.start HB3.out) (by kernel_rfl) (by kernel_rfl) (by kernel_rfl) (by kernel_rfl) ?_
 case hpre3=>(simp only[List.dropLast_cons_cons,List.dropLast_singleton];first | done | exact rfl)
 case hz3=>(simp only[List.getLast?_cons_cons,List.getLast?_singleton];first | done | exact rfl)
 repeat (first
  | (refine AWe.valE rfl rfl rfl rfl ?_;apply Exists.intro;refine And.intro (fun wc hc=>?_) ?_;(· (have r7:=zL hc.1 l1 hn13 c7;have r8:=zL hc.1 l1 hn13 c8;have r9:=zL hc.1 l1 hn13 c9;have r10:=zL hc.1 l1 hn13 c10;have r11:=zL hc.1 l1 hn13 c11;have lw:=Nat.lt_of_lt_of_le l1 hc.1.size;clear hc;go_simp;dsimp only[Gives];exact⟨rfl,rfl⟩));simp only[Act.put,zq6,zq7,zq8])
  | (refine AWe.eff (setC (q1+1+1) 36 p t 7 1) (setC.steady _ _ _ _ _ _) rfl rfl rfl rfl (fun wc hc=>?_) ?_;(· (obtain⟨c9,h9,b9⟩:=hc.2;have k:=zab (o:=7) (vs:=[Value.bool m.up]) h9 b9 (by rw[HP.out];show 7+1≤147;omega) (fun j hj=>by(have:j=0:=by simpa using hj);subst this;exact t7.symm);exact zbb (vs:=#[Value.bool m.up]) rfl rfl rfl rfl h9 (by kernel_rfl) (by rw[b9.1,HP.out];show 7+1≤147;omega) (fun u hu=>by simp at hu;subst hu;rfl) ⟨k.1,k.2⟩)))
  | (refine AWe.eff (setC (q1+1+1) 36 p t 8 1) (setC.steady _ _ _ _ _ _) rfl rfl rfl rfl (fun wc hc=>?_) ?_;(· (obtain⟨c9,h9,b9⟩:=hc.2;have k:=zab (o:=8) (vs:=[Value.slice af1 af2 af3]) h9 b9 (by rw[HP.out];show 8+1≤147;omega) (fun j hj=>by(have:j=0:=by simpa using hj);subst this;exact t8.symm);exact zbb (vs:=#[Value.slice af1 af2 af3]) rfl rfl rfl rfl h9 (by kernel_rfl) (by rw[b9.1,HP.out];show 8+1≤147;omega) (fun u hu=>by simp at hu;subst hu;rfl) ⟨k.1,k.2⟩)))
  | (refine AWe.eff (setC (q1+1+1) 36 p t 9 2) (setC.steady _ _ _ _ _ _) rfl rfl rfl rfl (fun wc hc=>?_) ?_;(· (obtain⟨c9,h9,b9⟩:=hc.2;have k:=zab (o:=9) (vs:=[Value.slice ax1 ax2 ax3,Value.slice ay1 ay2 ay3]) h9 b9 (by rw[HP.out];show 9+2≤147;omega) (fun j hj=>by rcases j with _ | _ | j;exact t9.symm;exact t10.symm;(simp at hj;try omega));exact zbb (vs:=#[Value.slice ax1 ax2 ax3,Value.slice ay1 ay2 ay3]) rfl rfl rfl rfl h9 (by kernel_rfl) (by rw[b9.1,HP.out];show 9+2≤147;omega) (fun u hu=>by simp at hu;rcases hu with rfl | rfl <;> rfl) ⟨k.1,k.2⟩))))
 refine AWe.last rfl rfl rfl (fun w9 x9 hfin=>?_);simp only[zl,Act.put,zq6,zq7,zq8];obtain⟨k9,c9,h9,b9⟩:=x9;obtain⟨v9,hv9⟩:∃ v,c9[11]? = some v:=⟨_,Array.getElem?_eq_getElem (by rw[b9.1,HP.out];omega)⟩
 have r9:=h9.cell hv9;have f9:=h9.frozen 11;have l9:=h9.lt;have ks:=zab (o:=11) (vs:=[Value.slice ah1 ah2 ah3]) h9 b9 (by rw[HP.out];show 11+1≤147;omega) (fun j hj=>by(have:j=0:=by simpa using hj);subst this;exact t11.symm);have HKs:=hid ks;have HBt:Hid (Blk (w9.setCell ⟨q1+1+1,11,none⟩ (.slice ah1 ah2 ah3)) (q1+1+1) 36 t):=by
  have st:=fun o n (h:setC (q1+1+1) 36 p t o n w9)=>setC.steady _ _ _ _ o n _ _ HKs.out.2 h;obtain⟨y,hy,by_,_⟩:=HKs.out.2.2 c9 h9 b9;refine setC.all (p:=p) (by rw[HP.out,HTs.out]) [(7,1),(8,1),(9,2),(11,1)] ⟨y,hy,by_⟩ (fun x hx=>by
   simp only[List.mem_cons,List.not_mem_nil,or_false] at hx;rcases hx with rfl | rfl | rfl | rfl
   ·exact st _ _ hfin.1.1.2
   ·exact st _ _ hfin.1.2
   ·exact st _ _ hfin.2
   ·exact HKs.out.1)
   (fun j=>by
   rcases HDf.out j with h | ⟨h1,h2⟩ | ⟨h1,h2,h3⟩ | ⟨h1,h2,h3⟩ | ⟨h1,h2⟩
   ·exact .inl h
   ·right
    rw[←HXE.out] at h2;rcases j with _ | _ | _ | _ | _ | _ | _ | _ | _ | _ | _ | _ | _ | _ | _ | j
    all_goals first
     | (exfalso;apply h2;simp[MsgC.head,MsgI.at,zI,zU,HEk.out,zF];done)
     | (simp only[List.mem_cons,List.not_mem_nil,or_false,exists_eq_or_imp,exists_eq_left];omega)
   ·rw[←HXE.out] at h3
    first
     | (exfalso;apply h3;simp[MsgI.at,zI,HEk.out,zF];done)
     | (right;simp only[List.mem_cons,List.not_mem_nil,or_false,exists_eq_or_imp,exists_eq_left];omega)
   ·rw[←HXE.out] at h3
    first
     | (exfalso;apply h3;simp[MsgI.at,zI,HEk.out,zF];done)
     | (right;simp only[List.mem_cons,List.not_mem_nil,or_false,exists_eq_or_imp,exists_eq_left];omega)
   ·rw[←HXE.out] at h2
    generalize hjj:j-145=i at h2;rcases i with _ | _ | i
    all_goals first
     | (exfalso;apply h2;simp[MsgI.at,zI,zU,HEk.out,zF];done)
     | (right;simp only[List.mem_cons,List.not_mem_nil,or_false,exists_eq_or_imp,exists_eq_left];omega))
 have HXt:=hid (((k9.trans HKs.out.2.1).toExt HX3.out (fun g hg=>by subst hg;have:=HW.out;omega):Ext w (w9.setCell ⟨q1+1+1,11,none⟩ (.slice ah1 ah2 ah3))));have HB2t:=hid (HB2.out.keep (k9.trans HKs.out.2.1) (show ¬ (q1+1=q1+1+1) by omega):Blk (w9.setCell ⟨q1+1+1,11,none⟩ (.slice ah1 ah2 ah3)) (q1+1) 36 msgZ.arr);have r0:=zL k9 l1 hn13 c0;have lw:=Nat.lt_of_lt_of_le l1 k9.size;clear HKs ks k9 h9 b9 hfin hv9 c7 c8 c10 c11;go_wp2_with fail
 generalize w9.setCell ⟨q1+1+1,11,none⟩ (.slice ah1 ah2 ah3)=wt at HBt HXt HB2t⊢;have lt:=HBt.out.lt;go_wp2_with fail
 simp only[Tryz.isAgg36,Tryz.sizeOf36,Result.andThen,↓reduceIte,za HBt.out 147 HTs.out];rw[Oper.upon_value];go_wp2_with fail
 simp only[Tryz.sizeOf36,Result.andThen,↓reduceIte,zb HB2t.out (by rw[HTs.out];exact zz) (by rw[HTs.out,HZ.out]) HT1.out,HTs.out];rw[Oper.upon_skip];have hB5:=HB2t.out.setRow t;have hE5:=(Keep.setRow (S:=fun q=>q=q1+1) (Keep.refl _ _) (.inl rfl) t).toExt HXt.out (fun g hg=>by subst hg;have:=HW.out;omega);have HB5:=hid hB5;have HE5:=hid hE5;clear hB5 hE5;dsimp only[Act.put];go_wp2_with fail
 exact bodyPost_ret (results_cell_row rfl _ _ (q1+1) 36 _ (0,0) _ rfl HB5.out Tryz.underlying36 rfl (by rw[HTs.out];exact zz)) rfl ⟨rfl,HE5.out⟩
theorem only2_c (w:World) (S:SlM) (m:MsgI) (ek:m.kind=2):Calls Tryz.prog 102 #[.agg (m.at S).arr] w (Ret (.agg ((zI m).at (zU m S)).arr) w):=by
 have d1:(m.kind==1)=false:=by rw[ek];decide
 have d2:(m.kind==2)=true:=by rw[ek];decide
 have d3:(m.kind==3)=false:=by rw[ek];decide
 have d4:(m.kind==4)=false:=by rw[ek];decide
 have HEk:=hid ek;clear ek;have HA:=hid (zP (m.at S));have HAE:=hid (zad (m.at S));have hz:=hid (zy (m.at S));have HAV:=hid (fun j v (h:(vecV m.V)[j]? = some v)=>zbD (m.at S) j v (by simpa[vecV,intsV,MsgI.at] using h));have HAA:=hid (fun j v (h:(vecV m.A)[j]? = some v)=>zbE (m.at S) j v (by simpa[vecV,intsV,MsgI.at] using h));generalize (m.at S).arr=ar at HA hz HAE HAV HAA⊢;have HBa:=hid (Blk.new w 36 ar);obtain⟨⟨af1,af2,af3⟩,⟨ax1,ax2,ax3⟩,⟨ay1,ay2,ay3⟩,⟨ah1,ah2,ah3⟩,⟨ae1,ae2,ae3⟩,⟨an1,an2,an3⟩⟩:=S;have a0:ar[0]? = some (.int .i64 m.kind):=HA.out 0 (by omega)
 have a1:ar[1]? = some (.int .i64 m.s1):=HA.out 1 (by omega);have a2:ar[2]? = some (.int .i64 m.s2):=HA.out 2 (by omega);have a3:ar[3]? = some (.int .i64 m.s3):=HA.out 3 (by omega);have HZ:=hid (zy msgZ);have HZ1:=hid (zZ msgZ);have HP:=hid (zy (zF m));have HP1:=hid (zZ (zF m));obtain⟨X,hXe⟩:∃ X:MsgC,(zI m).at (zU m ⟨⟨af1,af2,af3⟩,⟨ax1,ax2,ax3⟩,⟨ay1,ay2,ay3⟩,⟨ah1,ah2,ah3⟩,⟨ae1,ae2,ae3⟩,⟨an1,an2,an3⟩⟩)=X:=⟨_,rfl⟩
 have HDf:=hid (zc1 (zF m) X);have HT:=hid (zP X);have HTE:=hid (zad X);have HTs:=hid (zy X);have HT1:=hid (zZ X);have HTV:=hid (zbD X);have HTA:=hid (zbE X);have HXE:=hid hXe;rw[hXe];clear hXe;generalize hte:X.arr=t at HDf HT HTE HTs HT1 HTV HTA⊢;have Hte:=hid hte;clear hte;go_enter Tryz.func102,Tryz.ntmps102;go_wp2_with fail
 simp only[Tryz.sizeOf33,Result.andThen];rw[Oper.upon_value,zb7];generalize hp0:(zF m).arr=p at HP HP1 HDf⊢;have Hp0:=hid hp0;clear hp0;go_wp2_with fail
 rw[zaT];have HB3:=hid (Blk.new ((w.alloc (.cells ar 36)).alloc (.cells msgZ.arr 36)) 36 msgZ.arr);rw[World.size_alloc,World.size_alloc] at HB3;simp only[Tryz.sizeOf36,Result.andThen,↓reduceIte,zb HB3.out (by rw[HP.out];exact zz) (by rw[HP.out,HZ.out]) HP1.out,HP.out];rw[Oper.upon_skip];have hset:=World.setRow_alloc_new ((w.alloc (.cells ar 36)).alloc (.cells msgZ.arr 36)) msgZ.arr p 36;rw[World.size_alloc,World.size_alloc] at hset;rw[hset];clear hset HB3;have hX:=((Ext.alloc w (.cells ar 36)).alloc' (.cells msgZ.arr 36)).alloc' (.cells p 36);have hB1:=(HBa.out.alloc (.cells msgZ.arr 36)).alloc (.cells p 36)
 have hB2:=(Blk.new (w.alloc (.cells ar 36)) 36 msgZ.arr).alloc (.cells p 36);have hB3:=Blk.new ((w.alloc (.cells ar 36)).alloc (.cells msgZ.arr 36)) 36 p;rw[World.size_alloc] at hB2;rw[World.size_alloc,World.size_alloc] at hB3;generalize ((w.alloc (.cells ar 36)).alloc (.cells msgZ.arr 36)).alloc (.cells p 36)=w3 at hX hB1 hB2 hB3⊢;have HX3:=hid hX;have HB1:=hid hB1;have HB2:=hid hB2;have HB3:=hid hB3;clear hX hB1 hB2 hB3 HBa;obtain⟨q1,hq1⟩:∃ q,q=w.heap.size:=⟨_,rfl⟩
 rw[←hq1] at HB1 HB2 HB3⊢;have hqw:w.heap.size≤q1:=by omega
 have HW:=hid hqw;clear hq1 hqw;dsimp only[Act.put];have c0:=HB1.out.cell a0;have l1:=HB1.out.lt;have l3:=HB3.out.lt;have hn13:q1≠q1+1+1:=by omega
 have a4:ar[4]? = some (.int .i64 m.r1):=HA.out 4 (by omega);have t4:t[4]? = some (.int .i64 m.r1):=by rw[HT.out 4 (by omega),←HXE.out];simp[MsgC.head,MsgI.at,zI,zU,HEk.out,SlV.val,zF,nilS]
 have a5:ar[5]? = some (.int .i64 m.r2):=HA.out 5 (by omega);have t5:t[5]? = some (.int .i64 m.r2):=by rw[HT.out 5 (by omega),←HXE.out];simp[MsgC.head,MsgI.at,zI,zU,HEk.out,SlV.val,zF,nilS]
 have a6:ar[6]? = some (.int .i64 m.r3):=HA.out 6 (by omega);have t6:t[6]? = some (.int .i64 m.r3):=by rw[HT.out 6 (by omega),←HXE.out];simp[MsgC.head,MsgI.at,zI,zU,HEk.out,SlV.val,zF,nilS]
 have a12:ar[12]? = some (.int .i64 m.seq):=HA.out 12 (by omega);have t12:t[12]? = some (.int .i64 m.seq):=by rw[HT.out 12 (by omega),←HXE.out];simp[MsgC.head,MsgI.at,zI,zU,HEk.out,SlV.val,zF,nilS]
 have a13:ar[13]? = some (.bool m.last):=HA.out 13 (by omega);have t13:t[13]? = some (.bool m.last):=by rw[HT.out 13 (by omega),←HXE.out];simp[MsgC.head,MsgI.at,zI,zU,HEk.out,SlV.val,zF,nilS]
 have a14:ar[14]? = some (.slice ae1 ae2 ae3):=HA.out 14 (by omega);have t14:t[14]? = some (.slice ae1 ae2 ae3):=by rw[HT.out 14 (by omega),←HXE.out];simp[MsgC.head,MsgI.at,zI,zU,HEk.out,SlV.val,zF,nilS]
 have a145:ar[145]? = some (.slice an1 an2 an3):=HAE.out 0;have t145:t[145]? = some (.slice an1 an2 an3):=by rw[HTE.out 0,←HXE.out];simp[MsgC.head,MsgI.at,zI,zU,HEk.out,SlV.val,zF,nilS]
 have c4:=HB1.out.cell a4;have c5:=HB1.out.cell a5;have c6:=HB1.out.cell a6;have c12:=HB1.out.cell a12;have c13:=HB1.out.cell a13;have c14:=HB1.out.cell a14;go_wp2_with fail
 refine zaY (relC (q1+1+1) 36 p t) (facC w3 (q1+1+1) 36 p t) (pre:=?pre3) (z:=?z3) ?hpre3 ?hz3 (facC.steady _ _ _ _ _) (facC.start HB3.out) (by kernel_rfl) (by kernel_rfl) (by kernel_rfl) (by kernel_rfl) ?_
 case hpre3=>(simp only[List.dropLast_cons_cons,List.dropLast_singleton];first | done | exact rfl)
 case hz3=>(simp only[List.getLast?_cons_cons,List.getLast?_singleton];first | done | exact rfl)
 repeat (first
  | (refine AWe.valE rfl rfl rfl rfl ?_;apply Exists.intro;refine And.intro (fun wc hc=>?_) ?_;(· (have r4:=zL hc.1 l1 hn13 c4;have r5:=zL hc.1 l1 hn13 c5;have r6:=zL hc.1 l1 hn13 c6;have r12:=zL hc.1 l1 hn13 c12;have r13:=zL hc.1 l1 hn13 c13;have r14:=zL hc.1 l1 hn13 c14;have lw:=Nat.lt_of_lt_of_le l1 hc.1.size;clear hc;go_simp;dsimp only[Gives];exact⟨rfl,rfl⟩));simp only[Act.put,zq6,zq7,zq8])
  | (refine AWe.eff (setC (q1+1+1) 36 p t 4 3) (setC.steady _ _ _ _ _ _) rfl rfl rfl rfl (fun wc hc=>?_) ?_;(· (obtain⟨c9,h9,b9⟩:=hc.2;have k:=zab (o:=4) (vs:=[Value.int .i64 m.r1,Value.int .i64 m.r2,Value.int .i64 m.r3]) h9 b9 (by rw[HP.out];show 4+3≤147;omega) (fun j hj=>by rcases j with _ | _ | _ | j;exact t4.symm;exact t5.symm;exact t6.symm;(simp at hj;try omega));exact zbb (vs:=#[Value.int .i64 m.r1,Value.int .i64 m.r2,Value.int .i64 m.r3]) rfl rfl rfl rfl h9 (by kernel_rfl) (by rw[b9.1,HP.out];show 4+3≤147;omega) (fun u hu=>by simp at hu;rcases hu with rfl | rfl | rfl <;> rfl) ⟨k.1,k.2⟩)))
  | (refine AWe.eff (setC (q1+1+1) 36 p t 12 1) (setC.steady _ _ _ _ _ _) rfl rfl rfl rfl (fun wc hc=>?_) ?_;(· (obtain⟨c9,h9,b9⟩:=hc.2;have k:=zab (o:=12) (vs:=[Value.int .i64 m.seq]) h9 b9 (by rw[HP.out];show 12+1≤147;omega) (fun j hj=>by(have:j=0:=by simpa using hj);subst this;exact t12.symm);exact zbb (vs:=#[Value.int .i64 m.seq]) rfl rfl rfl rfl h9 (by kernel_rfl) (by rw[b9.1,HP.out];show 12+1≤147;omega) (fun u hu=>by simp at hu;subst hu;rfl) ⟨k.1,k.2⟩)))
  | (refine AWe.eff (setC (q1+1+1) 36 p t 13 1) (setC.steady _ _ _ _ _ _) rfl rfl rfl rfl (fun wc hc=>?_) ?_;(· (obtain⟨c9,h9,b9⟩:=hc.2;have k:=zab (o:=13) (vs:=[Value.bool m.last]) h9 b9 (by rw[HP.out];show 13+1≤147;omega) (fun j hj=>by(have:j=0:=by simpa using hj);subst this;exact t13.symm);exact zbb (vs:=#[Value.bool m.last]) rfl rfl rfl rfl h9 (by kernel_rfl) (by rw[b9.1,HP.out];show 13+1≤147;omega) (fun u hu=>by simp at hu;subst hu;rfl) ⟨k.1,k.2⟩))))
 refine AWe.last rfl rfl rfl (fun w9 x9 hfin=>?_);simp only[zl,Act.put,zq6,zq7,zq8];obtain⟨k9,c9,h9,b9⟩:=x9;obtain⟨v9,hv9⟩:∃ v,c9[14]? = some v:=⟨_,Array.getElem?_eq_getElem (by rw[b9.1,HP.out];omega)⟩
 have r9:=h9.cell hv9;have f9:=h9.frozen 14;have l9:=h9.lt;have ks:=zab (o:=14) (vs:=[Value.slice ae1 ae2 ae3]) h9 b9 (by rw[HP.out];show 14+1≤147;omega) (fun j hj=>by(have:j=0:=by simpa using hj);subst this;exact t14.symm);have HKs:=hid ks;have st:=fun o n (h:setC (q1+1+1) 36 p t o n w9)=>setC.steady _ _ _ _ o n _ _ HKs.out.2 h;obtain⟨y,hy,by_,_⟩:=HKs.out.2.2 c9 h9 b9;have HY:Hid (∀ x∈[(4,3),(12,1),(13,1),(14,1)],∀ j:Nat,x.1≤j→j<x.1+x.2→y[j]? = t[j]?):=fun x hx=>by
  have hall:setC (q1+1+1) 36 p t x.1 x.2 (w9.setCells (q1+1+1) 14 [.slice ae1 ae2 ae3]):=by
   simp only[List.mem_cons,List.not_mem_nil,or_false] at hx;rcases hx with rfl | rfl | rfl | rfl
   ·exact st _ _ hfin.1.1.2
   ·exact st _ _ hfin.1.2
   ·exact st _ _ hfin.2
   ·exact HKs.out.1
  obtain⟨d,hd1,_,hd3⟩:=hall;rw[zg9 hy hd1];exact hd3
 have HPy:Hid (y.size=147):=by_.1.trans HP.out;have HBy:=hid by_.2;have HB7:Hid (Blk (w9.setCell ⟨q1+1+1,14,none⟩ (.slice ae1 ae2 ae3)) (q1+1+1) 36 y):=hy;have K10:Hid (Keep (fun q=>q=q1+1+1) w3 (w9.setCell ⟨q1+1+1,14,none⟩ (.slice ae1 ae2 ae3))):=k9.trans HKs.out.2.1;clear HKs ks h9 b9 hfin hv9 c4 c5 c6 c12 c13 c14 st hy by_ k9;go_wp2_with fail
 generalize w9.setCell ⟨q1+1+1,14,none⟩ (.slice ae1 ae2 ae3)=w7 at HB7 K10⊢;clear r9 f9 l9;have l17:=Nat.lt_of_lt_of_le l1 K10.out.size;have c1457:=zL K10.out l1 hn13 (HB1.out.cell a145);have HLV7:=hid (fun j v (h:(vecV m.V)[j]? = some v)=>zL K10.out l1 hn13 (HB1.out.cell (HAV.out j v h)));have HLA7:=hid (fun j v (h:(vecV m.A)[j]? = some v)=>zL K10.out l1 hn13 (HB1.out.cell (HAA.out j v h)));have hsV:=hid (show(vecV m.V).size=65 by rw[ze];exact m.hV);have hsA:=hid (show(vecV m.A).size=65 by rw[ze];exact m.hA);have hvV:∀ j,j<(vecV m.V).toList.length→(vecV m.V).toList[j]? = t[15+j]?:=fun j hj=>by
  rw[List.getElem?_eq_getElem hj];refine(HTV.out j _ ?_).symm;rw[←HXE.out];have e:((zI m).at (zU m ⟨⟨af1,af2,af3⟩,⟨ax1,ax2,ax3⟩,⟨ay1,ay2,ay3⟩,⟨ah1,ah2,ah3⟩,⟨ae1,ae2,ae3⟩,⟨an1,an2,an3⟩⟩)).V=m.V:=by simp[MsgI.at,zI,HEk.out]
  rw[e];have e2:(vecV m.V).toList=intsV m.V:=by simp[vecV,intsV]
  rw[←e2];exact List.getElem?_eq_getElem hj
 have hvA:∀ j,j<(vecV m.A).toList.length→(vecV m.A).toList[j]? = t[80+j]?:=fun j hj=>by
  rw[List.getElem?_eq_getElem hj];refine(HTA.out j _ ?_).symm;rw[←HXE.out];have e:((zI m).at (zU m ⟨⟨af1,af2,af3⟩,⟨ax1,ax2,ax3⟩,⟨ay1,ay2,ay3⟩,⟨ah1,ah2,ah3⟩,⟨ae1,ae2,ae3⟩,⟨an1,an2,an3⟩⟩)).A=m.A:=by simp[MsgI.at,zI,HEk.out]
  rw[e];have e2:(vecV m.A).toList=intsV m.A:=by simp[vecV,intsV]
  rw[←e2];exact List.getElem?_eq_getElem hj
 refine zaY (relC (q1+1+1) 36 y t) (facC w7 (q1+1+1) 36 y t) (pre:=?pre7) (z:=?z7) ?hpre7 ?hz7 (facC.steady _ _ _ _ _) (facC.start HB7.out) (by kernel_rfl) (by kernel_rfl) (by kernel_rfl) (by kernel_rfl) ?_
 case hpre7=>(simp only[List.dropLast_cons_cons,List.dropLast_singleton];first | done | exact rfl)
 case hz7=>(simp only[List.getLast?_cons_cons,List.getLast?_singleton];first | done | exact rfl)
 repeat (first
  | (refine AWe.valE rfl rfl rfl rfl ?_;apply Exists.intro;refine And.intro (fun wc hc=>zcN rfl rfl (zK hsV.out (fun j v hv=>zL hc.1 l17 hn13 (HLV7.out j v hv)))) ?_;simp only[Act.put,zq6,zq7,zq8])
  | (refine AWe.valE rfl rfl rfl rfl ?_;apply Exists.intro;refine And.intro (fun wc hc=>zcN rfl rfl (zK hsA.out (fun j v hv=>zL hc.1 l17 hn13 (HLA7.out j v hv)))) ?_;simp only[Act.put,zq6,zq7,zq8])
  | (refine AWe.valE rfl rfl rfl rfl ?_;apply Exists.intro;refine And.intro (fun wc hc=>?_) ?_;(· (have r145:=zL hc.1 l17 hn13 c1457;have lw:=Nat.lt_of_lt_of_le l17 hc.1.size;clear hc;go_simp;dsimp only[Gives];exact⟨rfl,rfl⟩));simp only[Act.put,zq6,zq7,zq8])
  | (refine AWe.valE rfl rfl rfl rfl ?_;apply Exists.intro;refine And.intro (fun wc hc=>?_) ?_;(· (clear hc;go_simp;simp only[Tryz.sizeOf33,Result.andThen];rw[if_neg (show ¬ (65:Nat)=0 by omega)];dsimp only[Gives];exact⟨rfl,rfl⟩));simp only[Act.put,zq6,zq7,zq8])
  | (refine AWe.eff (setC (q1+1+1) 36 y t 15 (vecV m.V).toList.length) (setC.steady _ _ _ _ _ _) rfl rfl rfl rfl (fun wc hc=>?_) ?_;(· (obtain⟨c9,h9,b9⟩:=hc.2;have k:=zab (o:=15) (vs:=(vecV m.V).toList) h9 b9 (by rw[Array.length_toList,ze,m.hV,HPy.out];omega) (fun j hj=>hvV j hj);exact zbb (vs:=vecV m.V) rfl rfl rfl rfl h9 (by rw[ze,m.hV];exact zN) (by rw[b9.1,HPy.out,ze,m.hV];omega) (fun u hu=>(Array.all_eq_true_iff_forall_mem.1 (zaf m.V)) u (by simpa using hu)) ⟨k.1,k.2⟩)))
  | (refine AWe.eff (setC (q1+1+1) 36 y t 80 (vecV m.A).toList.length) (setC.steady _ _ _ _ _ _) rfl rfl rfl rfl (fun wc hc=>?_) ?_;(· (obtain⟨c9,h9,b9⟩:=hc.2;have k:=zab (o:=80) (vs:=(vecV m.A).toList) h9 b9 (by rw[Array.length_toList,ze,m.hA,HPy.out];omega) (fun j hj=>hvA j hj);exact zbb (vs:=vecV m.A) rfl rfl rfl rfl h9 (by rw[ze,m.hA];exact zN) (by rw[b9.1,HPy.out,ze,m.hA];omega) (fun u hu=>(Array.all_eq_true_iff_forall_mem.1 (zaf m.A)) u (by simpa using hu)) ⟨k.1,k.2⟩))))
 refine AWe.last rfl rfl rfl (fun w9 x9 hfin=>?_);simp only[zl,Act.put,zq6,zq7,zq8];obtain⟨k9,c9,h9,b9⟩:=x9;obtain⟨v9,hv9⟩:∃ v,c9[145]? = some v:=⟨_,Array.getElem?_eq_getElem (by rw[b9.1,HPy.out];omega)⟩
 have r9:=h9.cell hv9;have f9:=h9.frozen 145;have l9:=h9.lt;have ks:=zab (o:=145) (vs:=[Value.slice an1 an2 an3]) h9 b9 (by rw[HPy.out];show 145+1≤147;omega) (fun j hj=>by(have:j=0:=by simpa using hj);subst this;exact t145.symm);have HKs:=hid ks;have HBt:Hid (Blk (w9.setCell ⟨q1+1+1,145,none⟩ (.slice an1 an2 an3)) (q1+1+1) 36 t):=by
  have st:=fun o n (h:setC (q1+1+1) 36 y t o n w9)=>setC.steady _ _ _ _ o n _ _ HKs.out.2 h;obtain⟨u,hu,bu,_⟩:=HKs.out.2.2 c9 h9 b9;have hl1:(vecV m.V).toList.length=65:=by rw[Array.length_toList];exact hsV.out
  have hl2:(vecV m.A).toList.length=65:=by rw[Array.length_toList];exact hsA.out
  refine setC.all (p:=y) (by rw[HPy.out,HTs.out]) [(15,65),(80,65),(145,1)] ⟨u,hu,bu⟩ (fun x hx=>by
   simp only[List.mem_cons,List.not_mem_nil,or_false] at hx;rcases hx with rfl | rfl | rfl
   ·have:=st _ _ hfin.1.2
    rw[hl1] at this;exact this
   ·have:=st _ _ hfin.2
    rw[hl2] at this;exact this
   ·exact HKs.out.1) (fun j=>?_)
  have hpy:p[j]? = t[j]? → y[j]? = t[j]?:=fun h=>by
   rcases HBy.out j with h2 | h2
   ·rw[h2,h]
   ·exact h2
  rcases HDf.out j with h | ⟨h1,h2⟩ | ⟨h1,h2,h3⟩ | ⟨h1,h2,h3⟩ | ⟨h1,h2⟩
  ·exact .inl (hpy h)
  ·left
   rw[←HXE.out] at h2;rcases j with _ | _ | _ | _ | _ | _ | _ | _ | _ | _ | _ | _ | _ | _ | _ | j
   all_goals first
    | (exfalso;apply h2;simp[MsgC.head,MsgI.at,zI,zU,HEk.out,zF];done)
    | exact HY.out (4,3) (by simp) _ (by show 4≤_;omega) (by show _<4+3;omega)
    | exact HY.out (12,1) (by simp) _ (by show 12≤_;omega) (by show _<12+1;omega)
    | exact HY.out (13,1) (by simp) _ (by show 13≤_;omega) (by show _<13+1;omega)
    | exact HY.out (14,1) (by simp) _ (by show 14≤_;omega) (by show _<14+1;omega)
    | (exfalso;omega)
  ·right;exact⟨(15,65),by simp,h1,by show j<15+65;omega⟩
  ·right;exact⟨(80,65),by simp,h1,by show j<80+65;omega⟩
  ·rw[←HXE.out] at h2
   generalize hjj:j-145=i at h2;rcases i with _ | _ | i
   ·right;exact⟨(145,1),by simp,h1,by show j<145+1;omega⟩
   ·exfalso;apply h2;simp[MsgI.at,zI,HEk.out,zF]
   ·exfalso;apply h2;simp
 have HKx:Hid (Keep (fun q=>q=q1+1+1) w3 (w9.setCell ⟨q1+1+1,145,none⟩ (.slice an1 an2 an3))):=K10.out.trans (k9.trans HKs.out.2.1);have HXt:=hid (HKx.out.toExt HX3.out (fun g hg=>by subst hg;have:=HW.out;omega));have HB2t:=hid (HB2.out.keep HKx.out (show ¬ (q1+1=q1+1+1) by omega));have r0:=zL (K10.out.trans k9) l1 hn13 c0;have lw:=Nat.lt_of_lt_of_le l17 k9.size;clear HKs ks k9 h9 b9 hfin hv9 c1457 HKx K10 hvV hvA HLV7 HLA7 hsV hsA;go_wp2_with fail
 generalize w9.setCell ⟨q1+1+1,145,none⟩ (.slice an1 an2 an3)=wt at HBt HXt HB2t⊢;have lt:=HBt.out.lt;go_wp2_with fail
 simp only[Tryz.isAgg36,Tryz.sizeOf36,Result.andThen,↓reduceIte,za HBt.out 147 HTs.out];rw[Oper.upon_value];go_wp2_with fail
 simp only[Tryz.sizeOf36,Result.andThen,↓reduceIte,zb HB2t.out (by rw[HTs.out];exact zz) (by rw[HTs.out,HZ.out]) HT1.out,HTs.out];rw[Oper.upon_skip];have hB5:=HB2t.out.setRow t;have hE5:=(Keep.setRow (S:=fun q=>q=q1+1) (Keep.refl _ _) (.inl rfl) t).toExt HXt.out (fun g hg=>by subst hg;have:=HW.out;omega);have HB5:=hid hB5;have HE5:=hid hE5;clear hB5 hE5;dsimp only[Act.put];go_wp2_with fail
 exact bodyPost_ret (results_cell_row rfl _ _ (q1+1) 36 _ (0,0) _ rfl HB5.out Tryz.underlying36 rfl (by rw[HTs.out];exact zz)) rfl ⟨rfl,HE5.out⟩
theorem only3_c (w:World) (S:SlM) (m:MsgI) (ek:m.kind=3):Calls Tryz.prog 102 #[.agg (m.at S).arr] w (Ret (.agg ((zI m).at (zU m S)).arr) w):=by
 have d1:(m.kind==1)=false:=by rw[ek];decide
 have d2:(m.kind==2)=false:=by rw[ek];decide
 have d3:(m.kind==3)=true:=by rw[ek];decide
 have d4:(m.kind==4)=false:=by rw[ek];decide
 have HEk:=hid ek;clear ek;have HA:=hid (zP (m.at S));have HAE:=hid (zad (m.at S));have hz:=hid (zy (m.at S));have HAV:=hid (fun j v (h:(vecV m.V)[j]? = some v)=>zbD (m.at S) j v (by simpa[vecV,intsV,MsgI.at] using h));have HAA:=hid (fun j v (h:(vecV m.A)[j]? = some v)=>zbE (m.at S) j v (by simpa[vecV,intsV,MsgI.at] using h));generalize (m.at S).arr=ar at HA hz HAE HAV HAA⊢;have HBa:=hid (Blk.new w 36 ar);obtain⟨⟨af1,af2,af3⟩,⟨ax1,ax2,ax3⟩,⟨ay1,ay2,ay3⟩,⟨ah1,ah2,ah3⟩,⟨ae1,ae2,ae3⟩,⟨an1,an2,an3⟩⟩:=S;have a0:ar[0]? = some (.int .i64 m.kind):=HA.out 0 (by omega)
 have a1:ar[1]? = some (.int .i64 m.s1):=HA.out 1 (by omega);have a2:ar[2]? = some (.int .i64 m.s2):=HA.out 2 (by omega);have a3:ar[3]? = some (.int .i64 m.s3):=HA.out 3 (by omega);have HZ:=hid (zy msgZ);have HZ1:=hid (zZ msgZ);have HP:=hid (zy (zF m));have HP1:=hid (zZ (zF m));obtain⟨X,hXe⟩:∃ X:MsgC,(zI m).at (zU m ⟨⟨af1,af2,af3⟩,⟨ax1,ax2,ax3⟩,⟨ay1,ay2,ay3⟩,⟨ah1,ah2,ah3⟩,⟨ae1,ae2,ae3⟩,⟨an1,an2,an3⟩⟩)=X:=⟨_,rfl⟩
 have HDf:=hid (zc1 (zF m) X);have HT:=hid (zP X);have HTE:=hid (zad X);have HTs:=hid (zy X);have HT1:=hid (zZ X);have HTV:=hid (zbD X);have HTA:=hid (zbE X);have HXE:=hid hXe;rw[hXe];clear hXe;generalize hte:X.arr=t at HDf HT HTE HTs HT1 HTV HTA⊢;have Hte:=hid hte;clear hte;go_enter Tryz.func102,Tryz.ntmps102;go_wp2_with fail
 simp only[Tryz.sizeOf33,Result.andThen];rw[Oper.upon_value,zb7];generalize hp0:(zF m).arr=p at HP HP1 HDf⊢;have Hp0:=hid hp0;clear hp0;go_wp2_with fail
 rw[zaT];have HB3:=hid (Blk.new ((w.alloc (.cells ar 36)).alloc (.cells msgZ.arr 36)) 36 msgZ.arr);rw[World.size_alloc,World.size_alloc] at HB3;simp only[Tryz.sizeOf36,Result.andThen,↓reduceIte,zb HB3.out (by rw[HP.out];exact zz) (by rw[HP.out,HZ.out]) HP1.out,HP.out];rw[Oper.upon_skip];have hset:=World.setRow_alloc_new ((w.alloc (.cells ar 36)).alloc (.cells msgZ.arr 36)) msgZ.arr p 36;rw[World.size_alloc,World.size_alloc] at hset;rw[hset];clear hset HB3;have hX:=((Ext.alloc w (.cells ar 36)).alloc' (.cells msgZ.arr 36)).alloc' (.cells p 36);have hB1:=(HBa.out.alloc (.cells msgZ.arr 36)).alloc (.cells p 36)
 have hB2:=(Blk.new (w.alloc (.cells ar 36)) 36 msgZ.arr).alloc (.cells p 36);have hB3:=Blk.new ((w.alloc (.cells ar 36)).alloc (.cells msgZ.arr 36)) 36 p;rw[World.size_alloc] at hB2;rw[World.size_alloc,World.size_alloc] at hB3;generalize ((w.alloc (.cells ar 36)).alloc (.cells msgZ.arr 36)).alloc (.cells p 36)=w3 at hX hB1 hB2 hB3⊢;have HX3:=hid hX;have HB1:=hid hB1;have HB2:=hid hB2;have HB3:=hid hB3;clear hX hB1 hB2 hB3 HBa;obtain⟨q1,hq1⟩:∃ q,q=w.heap.size:=⟨_,rfl⟩
 rw[←hq1] at HB1 HB2 HB3⊢;have hqw:w.heap.size≤q1:=by omega
 have HW:=hid hqw;clear hq1 hqw;dsimp only[Act.put];have c0:=HB1.out.cell a0;have l1:=HB1.out.lt;have l3:=HB3.out.lt;have hn13:q1≠q1+1+1:=by omega
 have a4:ar[4]? = some (.int .i64 m.r1):=HA.out 4 (by omega);have t4:t[4]? = some (.int .i64 m.r1):=by rw[HT.out 4 (by omega),←HXE.out];simp[MsgC.head,MsgI.at,zI,zU,HEk.out,SlV.val,zF,nilS]
 have c4:=HB1.out.cell a4;have a5:ar[5]? = some (.int .i64 m.r2):=HA.out 5 (by omega);have t5:t[5]? = some (.int .i64 m.r2):=by rw[HT.out 5 (by omega),←HXE.out];simp[MsgC.head,MsgI.at,zI,zU,HEk.out,SlV.val,zF,nilS]
 have c5:=HB1.out.cell a5;have a6:ar[6]? = some (.int .i64 m.r3):=HA.out 6 (by omega);have t6:t[6]? = some (.int .i64 m.r3):=by rw[HT.out 6 (by omega),←HXE.out];simp[MsgC.head,MsgI.at,zI,zU,HEk.out,SlV.val,zF,nilS]
 have c6:=HB1.out.cell a6;have z4:w3.cell? ⟨q1+1+1,4,none⟩=some (.int .i64 0):=HB3.out.cell (by rw[←Hp0.out];rfl);have f4:=HB3.out.frozen 4;have z5:w3.cell? ⟨q1+1+1,5,none⟩=some (.int .i64 0):=HB3.out.cell (by rw[←Hp0.out];rfl);have f5:=HB3.out.frozen 5;have z6:w3.cell? ⟨q1+1+1,6,none⟩=some (.int .i64 0):=HB3.out.cell (by rw[←Hp0.out];rfl);have f6:=HB3.out.frozen 6
 have HKs:=hid (zab (o:=4) (vs:=[Value.int .i64 m.r1,Value.int .i64 m.r2,Value.int .i64 m.r3]) HB3.out ⟨rfl,fun _=>.inl rfl⟩ (by rw[HP.out];show 4+3≤147;omega) (fun j hj=>by rcases j with _ | _ | _ | j;exact t4.symm;exact t5.symm;exact t6.symm;(simp at hj;try omega)));have HBt:Hid (Blk (((w3.setCell ⟨q1+1+1,4,none⟩ (.int .i64 m.r1)).setCell ⟨q1+1+1,5,none⟩ (.int .i64 m.r2)).setCell ⟨q1+1+1,6,none⟩ (.int .i64 m.r3)) (q1+1+1) 36 t):=by
  obtain⟨y,hy,by_,_⟩:=HKs.out.2.2 p HB3.out ⟨rfl,fun _=>.inl rfl⟩;refine setC.all (p:=p) (by rw[HP.out,HTs.out]) [(4,3)] ⟨y,hy,by_⟩ (fun x hx=>by
   simp only[List.mem_cons,List.not_mem_nil,or_false] at hx;subst hx;exact HKs.out.1)
   (fun j=>by
   rcases HDf.out j with h | ⟨h1,h2⟩ | ⟨h1,h2,h3⟩ | ⟨h1,h2,h3⟩ | ⟨h1,h2⟩
   ·exact .inl h
   ·right
    rw[←HXE.out] at h2;rcases j with _ | _ | _ | _ | _ | _ | _ | _ | _ | _ | _ | _ | _ | _ | _ | j
    all_goals first
     | (exfalso;apply h2;simp[MsgC.head,MsgI.at,zI,zU,HEk.out,zF];done)
     | (simp only[List.mem_cons,List.not_mem_nil,or_false,exists_eq_or_imp,exists_eq_left];omega)
   ·rw[←HXE.out] at h3
    first
     | (exfalso;apply h3;simp[MsgI.at,zI,HEk.out,zF];done)
     | (right;simp only[List.mem_cons,List.not_mem_nil,or_false,exists_eq_or_imp,exists_eq_left];omega)
   ·rw[←HXE.out] at h3
    first
     | (exfalso;apply h3;simp[MsgI.at,zI,HEk.out,zF];done)
     | (right;simp only[List.mem_cons,List.not_mem_nil,or_false,exists_eq_or_imp,exists_eq_left];omega)
   ·rw[←HXE.out] at h2
    generalize hjj:j-145=i at h2;rcases i with _ | _ | i
    all_goals first
     | (exfalso;apply h2;simp[MsgI.at,zI,zU,HEk.out,zF];done)
     | (right;simp only[List.mem_cons,List.not_mem_nil,or_false,exists_eq_or_imp,exists_eq_left];omega))
 have HXt:Hid (Ext w (((w3.setCell ⟨q1+1+1,4,none⟩ (.int .i64 m.r1)).setCell ⟨q1+1+1,5,none⟩ (.int .i64 m.r2)).setCell ⟨q1+1+1,6,none⟩ (.int .i64 m.r3))):=HKs.out.2.1.toExt HX3.out (fun g hg=>by subst hg;have:=HW.out;omega);have HB2t:Hid (Blk (((w3.setCell ⟨q1+1+1,4,none⟩ (.int .i64 m.r1)).setCell ⟨q1+1+1,5,none⟩ (.int .i64 m.r2)).setCell ⟨q1+1+1,6,none⟩ (.int .i64 m.r3)) (q1+1) 36 msgZ.arr):=HB2.out.keep HKs.out.2.1 (show ¬ (q1+1=q1+1+1) by omega);clear HKs;go_wp2_with fail
 generalize ((w3.setCell ⟨q1+1+1,4,none⟩ (.int .i64 m.r1)).setCell ⟨q1+1+1,5,none⟩ (.int .i64 m.r2)).setCell ⟨q1+1+1,6,none⟩ (.int .i64 m.r3)=wt at HBt HXt HB2t⊢;have lt:=HBt.out.lt;go_wp2_with fail
 simp only[Tryz.isAgg36,Tryz.sizeOf36,Result.andThen,↓reduceIte,za HBt.out 147 HTs.out];rw[Oper.upon_value];go_wp2_with fail
 simp only[Tryz.sizeOf36,Result.andThen,↓reduceIte,zb HB2t.out (by rw[HTs.out];exact zz) (by rw[HTs.out,HZ.out]) HT1.out,HTs.out];rw[Oper.upon_skip];have hB5:=HB2t.out.setRow t;have hE5:=(Keep.setRow (S:=fun q=>q=q1+1) (Keep.refl _ _) (.inl rfl) t).toExt HXt.out (fun g hg=>by subst hg;have:=HW.out;omega);have HB5:=hid hB5;have HE5:=hid hE5;clear hB5 hE5;dsimp only[Act.put];go_wp2_with fail
 exact bodyPost_ret (results_cell_row rfl _ _ (q1+1) 36 _ (0,0) _ rfl HB5.out Tryz.underlying36 rfl (by rw[HTs.out];exact zz)) rfl ⟨rfl,HE5.out⟩
theorem only4_c (w:World) (S:SlM) (m:MsgI) (ek:m.kind=4):Calls Tryz.prog 102 #[.agg (m.at S).arr] w (Ret (.agg ((zI m).at (zU m S)).arr) w):=by
 have d1:(m.kind==1)=false:=by rw[ek];decide
 have d2:(m.kind==2)=false:=by rw[ek];decide
 have d3:(m.kind==3)=false:=by rw[ek];decide
 have d4:(m.kind==4)=true:=by rw[ek];decide
 have HEk:=hid ek;clear ek;have HA:=hid (zP (m.at S));have HAE:=hid (zad (m.at S));have hz:=hid (zy (m.at S));have HAV:=hid (fun j v (h:(vecV m.V)[j]? = some v)=>zbD (m.at S) j v (by simpa[vecV,intsV,MsgI.at] using h));have HAA:=hid (fun j v (h:(vecV m.A)[j]? = some v)=>zbE (m.at S) j v (by simpa[vecV,intsV,MsgI.at] using h));generalize (m.at S).arr=ar at HA hz HAE HAV HAA⊢;have HBa:=hid (Blk.new w 36 ar);obtain⟨⟨af1,af2,af3⟩,⟨ax1,ax2,ax3⟩,⟨ay1,ay2,ay3⟩,⟨ah1,ah2,ah3⟩,⟨ae1,ae2,ae3⟩,⟨an1,an2,an3⟩⟩:=S;have a0:ar[0]? = some (.int .i64 m.kind):=HA.out 0 (by omega)
 have a1:ar[1]? = some (.int .i64 m.s1):=HA.out 1 (by omega);have a2:ar[2]? = some (.int .i64 m.s2):=HA.out 2 (by omega);have a3:ar[3]? = some (.int .i64 m.s3):=HA.out 3 (by omega);have HZ:=hid (zy msgZ);have HZ1:=hid (zZ msgZ);have HP:=hid (zy (zF m));have HP1:=hid (zZ (zF m));obtain⟨X,hXe⟩:∃ X:MsgC,(zI m).at (zU m ⟨⟨af1,af2,af3⟩,⟨ax1,ax2,ax3⟩,⟨ay1,ay2,ay3⟩,⟨ah1,ah2,ah3⟩,⟨ae1,ae2,ae3⟩,⟨an1,an2,an3⟩⟩)=X:=⟨_,rfl⟩
 have HDf:=hid (zc1 (zF m) X);have HT:=hid (zP X);have HTE:=hid (zad X);have HTs:=hid (zy X);have HT1:=hid (zZ X);have HTV:=hid (zbD X);have HTA:=hid (zbE X);have HXE:=hid hXe;rw[hXe];clear hXe;generalize hte:X.arr=t at HDf HT HTE HTs HT1 HTV HTA⊢;have Hte:=hid hte;clear hte;go_enter Tryz.func102,Tryz.ntmps102;go_wp2_with fail
 simp only[Tryz.sizeOf33,Result.andThen];rw[Oper.upon_value,zb7];generalize hp0:(zF m).arr=p at HP HP1 HDf⊢;have Hp0:=hid hp0;clear hp0;go_wp2_with fail
 rw[zaT];have HB3:=hid (Blk.new ((w.alloc (.cells ar 36)).alloc (.cells msgZ.arr 36)) 36 msgZ.arr);rw[World.size_alloc,World.size_alloc] at HB3;simp only[Tryz.sizeOf36,Result.andThen,↓reduceIte,zb HB3.out (by rw[HP.out];exact zz) (by rw[HP.out,HZ.out]) HP1.out,HP.out];rw[Oper.upon_skip];have hset:=World.setRow_alloc_new ((w.alloc (.cells ar 36)).alloc (.cells msgZ.arr 36)) msgZ.arr p 36;rw[World.size_alloc,World.size_alloc] at hset;rw[hset];clear hset HB3;have hX:=((Ext.alloc w (.cells ar 36)).alloc' (.cells msgZ.arr 36)).alloc' (.cells p 36);have hB1:=(HBa.out.alloc (.cells msgZ.arr 36)).alloc (.cells p 36)
 have hB2:=(Blk.new (w.alloc (.cells ar 36)) 36 msgZ.arr).alloc (.cells p 36);have hB3:=Blk.new ((w.alloc (.cells ar 36)).alloc (.cells msgZ.arr 36)) 36 p;rw[World.size_alloc] at hB2;rw[World.size_alloc,World.size_alloc] at hB3;generalize ((w.alloc (.cells ar 36)).alloc (.cells msgZ.arr 36)).alloc (.cells p 36)=w3 at hX hB1 hB2 hB3⊢;have HX3:=hid hX;have HB1:=hid hB1;have HB2:=hid hB2;have HB3:=hid hB3;clear hX hB1 hB2 hB3 HBa;obtain⟨q1,hq1⟩:∃ q,q=w.heap.size:=⟨_,rfl⟩
 rw[←hq1] at HB1 HB2 HB3⊢;have hqw:w.heap.size≤q1:=by omega
 have HW:=hid hqw;clear hq1 hqw;dsimp only[Act.put];have c0:=HB1.out.cell a0;have l1:=HB1.out.lt;have l3:=HB3.out.lt;have hn13:q1≠q1+1+1:=by omega
 have a146:ar[146]? = some (.int .i64 m.code):=HAE.out 1;have t146:t[146]? = some (.int .i64 m.code):=by rw[HTE.out 1,←HXE.out];simp[MsgC.head,MsgI.at,zI,zU,HEk.out,SlV.val,zF,nilS]
 have c146:=HB1.out.cell a146;have z146:w3.cell? ⟨q1+1+1,146,none⟩=some (.int .i64 0):=HB3.out.cell (by rw[←Hp0.out];exact zad (zF m) 1);have f146:=HB3.out.frozen 146;have HKs:=hid (zab (o:=146) (vs:=[Value.int .i64 m.code]) HB3.out ⟨rfl,fun _=>.inl rfl⟩ (by rw[HP.out];show 146+1≤147;omega) (fun j hj=>by(have:j=0:=by simpa using hj);subst this;exact t146.symm));have HBt:Hid (Blk (w3.setCell ⟨q1+1+1,146,none⟩ (.int .i64 m.code)) (q1+1+1) 36 t):=by
  obtain⟨y,hy,by_,_⟩:=HKs.out.2.2 p HB3.out ⟨rfl,fun _=>.inl rfl⟩;refine setC.all (p:=p) (by rw[HP.out,HTs.out]) [(146,1)] ⟨y,hy,by_⟩ (fun x hx=>by
   simp only[List.mem_cons,List.not_mem_nil,or_false] at hx;subst hx;exact HKs.out.1)
   (fun j=>by
   rcases HDf.out j with h | ⟨h1,h2⟩ | ⟨h1,h2,h3⟩ | ⟨h1,h2,h3⟩ | ⟨h1,h2⟩
   ·exact .inl h
   ·right
    rw[←HXE.out] at h2;rcases j with _ | _ | _ | _ | _ | _ | _ | _ | _ | _ | _ | _ | _ | _ | _ | j
    all_goals first
     | (exfalso;apply h2;simp[MsgC.head,MsgI.at,zI,zU,HEk.out,zF];done)
     | (simp only[List.mem_cons,List.not_mem_nil,or_false,exists_eq_or_imp,exists_eq_left];omega)
   ·rw[←HXE.out] at h3
    first
     | (exfalso;apply h3;simp[MsgI.at,zI,HEk.out,zF];done)
     | (right;simp only[List.mem_cons,List.not_mem_nil,or_false,exists_eq_or_imp,exists_eq_left];omega)
   ·rw[←HXE.out] at h3
    first
     | (exfalso;apply h3;simp[MsgI.at,zI,HEk.out,zF];done)
     | (right;simp only[List.mem_cons,List.not_mem_nil,or_false,exists_eq_or_imp,exists_eq_left];omega)
   ·rw[←HXE.out] at h2
    generalize hjj:j-145=i at h2;rcases i with _ | _ | i
    all_goals first
     | (exfalso;apply h2;simp[MsgI.at,zI,zU,HEk.out,zF];done)
     | (right;simp only[List.mem_cons,List.not_mem_nil,or_false,exists_eq_or_imp,exists_eq_left];omega))
 have HXt:Hid (Ext w (w3.setCell ⟨q1+1+1,146,none⟩ (.int .i64 m.code))):=HKs.out.2.1.toExt HX3.out (fun g hg=>by subst hg;have:=HW.out;omega);have HB2t:Hid (Blk (w3.setCell ⟨q1+1+1,146,none⟩ (.int .i64 m.code)) (q1+1) 36 msgZ.arr):=HB2.out.keep HKs.out.2.1 (show ¬ (q1+1=q1+1+1) by omega);clear HKs;go_wp2_with fail
 generalize w3.setCell ⟨q1+1+1,146,none⟩ (.int .i64 m.code)=wt at HBt HXt HB2t⊢;have lt:=HBt.out.lt;go_wp2_with fail
 simp only[Tryz.isAgg36,Tryz.sizeOf36,Result.andThen,↓reduceIte,za HBt.out 147 HTs.out];rw[Oper.upon_value];go_wp2_with fail
 simp only[Tryz.sizeOf36,Result.andThen,↓reduceIte,zb HB2t.out (by rw[HTs.out];exact zz) (by rw[HTs.out,HZ.out]) HT1.out,HTs.out];rw[Oper.upon_skip];have hB5:=HB2t.out.setRow t;have hE5:=(Keep.setRow (S:=fun q=>q=q1+1) (Keep.refl _ _) (.inl rfl) t).toExt HXt.out (fun g hg=>by subst hg;have:=HW.out;omega);have HB5:=hid hB5;have HE5:=hid hE5;clear hB5 hE5;dsimp only[Act.put];go_wp2_with fail
 exact bodyPost_ret (results_cell_row rfl _ _ (q1+1) 36 _ (0,0) _ rfl HB5.out Tryz.underlying36 rfl (by rw[HTs.out];exact zz)) rfl ⟨rfl,HE5.out⟩
theorem only0_c (w:World) (S:SlM) (m:MsgI) (ek:m.kind≠1∧m.kind≠2∧m.kind≠3∧m.kind≠4):Calls Tryz.prog 102 #[.agg (m.at S).arr] w (Ret (.agg ((zI m).at (zU m S)).arr) w):=by
 have d1:(m.kind==1)=false:=by simp[ek]
 have d2:(m.kind==2)=false:=by simp[ek]
 have d3:(m.kind==3)=false:=by simp[ek]
 have d4:(m.kind==4)=false:=by simp[ek]
 have HEk:=hid ek;clear ek;have HA:=hid (zP (m.at S));have HAE:=hid (zad (m.at S));have hz:=hid (zy (m.at S));have HAV:=hid (fun j v (h:(vecV m.V)[j]? = some v)=>zbD (m.at S) j v (by simpa[vecV,intsV,MsgI.at] using h));have HAA:=hid (fun j v (h:(vecV m.A)[j]? = some v)=>zbE (m.at S) j v (by simpa[vecV,intsV,MsgI.at] using h));generalize (m.at S).arr=ar at HA hz HAE HAV HAA⊢;have HBa:=hid (Blk.new w 36 ar);obtain⟨⟨af1,af2,af3⟩,⟨ax1,ax2,ax3⟩,⟨ay1,ay2,ay3⟩,⟨ah1,ah2,ah3⟩,⟨ae1,ae2,ae3⟩,⟨an1,an2,an3⟩⟩:=S;have a0:ar[0]? = some (.int .i64 m.kind):=HA.out 0 (by omega)
 have a1:ar[1]? = some (.int .i64 m.s1):=HA.out 1 (by omega);have a2:ar[2]? = some (.int .i64 m.s2):=HA.out 2 (by omega);have a3:ar[3]? = some (.int .i64 m.s3):=HA.out 3 (by omega);have HZ:=hid (zy msgZ);have HZ1:=hid (zZ msgZ);have HP:=hid (zy (zF m));have HP1:=hid (zZ (zF m));obtain⟨X,hXe⟩:∃ X:MsgC,(zI m).at (zU m ⟨⟨af1,af2,af3⟩,⟨ax1,ax2,ax3⟩,⟨ay1,ay2,ay3⟩,⟨ah1,ah2,ah3⟩,⟨ae1,ae2,ae3⟩,⟨an1,an2,an3⟩⟩)=X:=⟨_,rfl⟩
 have HDf:=hid (zc1 (zF m) X);have HT:=hid (zP X);have HTE:=hid (zad X);have HTs:=hid (zy X);have HT1:=hid (zZ X);have HTV:=hid (zbD X);have HTA:=hid (zbE X);have HXE:=hid hXe;rw[hXe];clear hXe;generalize hte:X.arr=t at HDf HT HTE HTs HT1 HTV HTA⊢;have Hte:=hid hte;clear hte;go_enter Tryz.func102,Tryz.ntmps102;go_wp2_with fail
 simp only[Tryz.sizeOf33,Result.andThen];rw[Oper.upon_value,zb7];generalize hp0:(zF m).arr=p at HP HP1 HDf⊢;have Hp0:=hid hp0;clear hp0;go_wp2_with fail
 rw[zaT];have HB3:=hid (Blk.new ((w.alloc (.cells ar 36)).alloc (.cells msgZ.arr 36)) 36 msgZ.arr);rw[World.size_alloc,World.size_alloc] at HB3;simp only[Tryz.sizeOf36,Result.andThen,↓reduceIte,zb HB3.out (by rw[HP.out];exact zz) (by rw[HP.out,HZ.out]) HP1.out,HP.out];rw[Oper.upon_skip];have hset:=World.setRow_alloc_new ((w.alloc (.cells ar 36)).alloc (.cells msgZ.arr 36)) msgZ.arr p 36;rw[World.size_alloc,World.size_alloc] at hset;rw[hset];clear hset HB3;have hX:=((Ext.alloc w (.cells ar 36)).alloc' (.cells msgZ.arr 36)).alloc' (.cells p 36);have hB1:=(HBa.out.alloc (.cells msgZ.arr 36)).alloc (.cells p 36)
 have hB2:=(Blk.new (w.alloc (.cells ar 36)) 36 msgZ.arr).alloc (.cells p 36);have hB3:=Blk.new ((w.alloc (.cells ar 36)).alloc (.cells msgZ.arr 36)) 36 p;rw[World.size_alloc] at hB2;rw[World.size_alloc,World.size_alloc] at hB3;generalize ((w.alloc (.cells ar 36)).alloc (.cells msgZ.arr 36)).alloc (.cells p 36)=w3 at hX hB1 hB2 hB3⊢;have HX3:=hid hX;have HB1:=hid hB1;have HB2:=hid hB2;have HB3:=hid hB3;clear hX hB1 hB2 hB3 HBa;obtain⟨q1,hq1⟩:∃ q,q=w.heap.size:=⟨_,rfl⟩
 rw[←hq1] at HB1 HB2 HB3⊢;have hqw:w.heap.size≤q1:=by omega
 have HW:=hid hqw;clear hq1 hqw;dsimp only[Act.put];have c0:=HB1.out.cell a0;have l1:=HB1.out.lt;have l3:=HB3.out.lt;have hn13:q1≠q1+1+1:=by omega
 have HBt:Hid (Blk w3 (q1+1+1) 36 t):=by
  refine setC.all (p:=p) (by rw[HP.out,HTs.out]) [] ⟨p,HB3.out,rfl,fun _=>.inl rfl⟩ (fun x hx=>by cases hx)
   (fun j=>by
   rcases HDf.out j with h | ⟨h1,h2⟩ | ⟨h1,h2,h3⟩ | ⟨h1,h2,h3⟩ | ⟨h1,h2⟩
   ·exact .inl h
   ·right
    rw[←HXE.out] at h2;rcases j with _ | _ | _ | _ | _ | _ | _ | _ | _ | _ | _ | _ | _ | _ | _ | j
    all_goals first
     | (exfalso;apply h2;simp[MsgC.head,MsgI.at,zI,zU,HEk.out,zF];done)
     | (simp only[List.mem_cons,List.not_mem_nil,or_false,exists_eq_or_imp,exists_eq_left];omega)
   ·rw[←HXE.out] at h3
    first
     | (exfalso;apply h3;simp[MsgI.at,zI,HEk.out,zF];done)
     | (right;simp only[List.mem_cons,List.not_mem_nil,or_false,exists_eq_or_imp,exists_eq_left];omega)
   ·rw[←HXE.out] at h3
    first
     | (exfalso;apply h3;simp[MsgI.at,zI,HEk.out,zF];done)
     | (right;simp only[List.mem_cons,List.not_mem_nil,or_false,exists_eq_or_imp,exists_eq_left];omega)
   ·rw[←HXE.out] at h2
    generalize hjj:j-145=i at h2;rcases i with _ | _ | i
    all_goals first
     | (exfalso;apply h2;simp[MsgI.at,zI,zU,HEk.out,zF];done)
     | (right;simp only[List.mem_cons,List.not_mem_nil,or_false,exists_eq_or_imp,exists_eq_left];omega))
 have HXt:=hid HX3.out;have HB2t:=hid HB2.out;have lt:=HBt.out.lt;go_wp2_with fail
 simp only[Tryz.isAgg36,Tryz.sizeOf36,Result.andThen,↓reduceIte,za HBt.out 147 HTs.out];rw[Oper.upon_value];go_wp2_with fail
 simp only[Tryz.sizeOf36,Result.andThen,↓reduceIte,zb HB2t.out (by rw[HTs.out];exact zz) (by rw[HTs.out,HZ.out]) HT1.out,HTs.out];rw[Oper.upon_skip];have hB5:=HB2t.out.setRow t;have hE5:=(Keep.setRow (S:=fun q=>q=q1+1) (Keep.refl _ _) (.inl rfl) t).toExt HXt.out (fun g hg=>by subst hg;have:=HW.out;omega);have HB5:=hid hB5;have HE5:=hid hE5;clear hB5 hE5;dsimp only[Act.put];go_wp2_with fail
 exact bodyPost_ret (results_cell_row rfl _ _ (q1+1) 36 _ (0,0) _ rfl HB5.out Tryz.underlying36 rfl (by rw[HTs.out];exact zz)) rfl ⟨rfl,HE5.out⟩
theorem only_c (w:World) (S:SlM) (m:MsgI):Calls Tryz.prog 102 #[.agg (m.at S).arr] w (Ret (.agg ((zI m).at (zU m S)).arr) w):=by
 by_cases h1:m.kind=1
 ·exact only1_c w S m h1
 by_cases h2:m.kind=2
 ·exact only2_c w S m h2
 by_cases h3:m.kind=3
 ·exact only3_c w S m h3
 by_cases h4:m.kind=4
 ·exact only4_c w S m h4
 exact only0_c w S m ⟨h1,h2,h3,h4⟩
end
end Go.Proofs.YtofjpdgojoppbaaGreatDoor
