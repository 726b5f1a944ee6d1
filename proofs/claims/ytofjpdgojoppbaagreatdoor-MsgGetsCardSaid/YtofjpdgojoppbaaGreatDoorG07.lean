/-
  Of the claim's proof: AwE.
-/
import Derived.Test.YtofjpdgojoppbaaGreatDoorG02
set_option maxRecDepth 100000
set_option maxHeartbeats 16000000
set_option linter.unusedVariables false
set_option linter.unusedSimpArgs false
namespace Go.Proofs.YtofjpdgojoppbaaGreatDoor
open Go.RowKit
section
variable (P:Program) (ops:Array Oper) (M:Rel) (F:World→Prop) (a0:Act)
def AWE (R:(Nat→Slot)→(World→Prop)→Prop):List Oper→(Nat→Slot)→(World→Prop)→Prop
 | [],g,E=>R g E
 | o::rest,g,E=>(∃ s:Slot,s.steady M∧OpOK P ops M F o g s∧AWE R rest (upd g o.dst s) E)∨(o.dst=none ∧ ∃ φ:World→Prop,zau M φ∧OpOK P ops M F o g (.any fun _=>φ)∧AWE R rest g (fun w=>E w∧φ w))
def zms (sl:Nat→Slot) (n:Nat) (w:World):Prop:=∀ j o,j<n→ops[j]? = some o→o.dst=none → ∃ v,(sl j).ok v w
end
section
variable {P:Program} {ops:Array Oper} {M:Rel} {F:World→Prop} {a0:Act}
theorem AWE.slots {R:(Nat→Slot)→(World→Prop)→Prop}:∀ (l:List Oper) (k:Nat) (g:Nat→Slot) (sl:Nat→Slot) (E:World→Prop),(∀ w,zms ops sl k w→E w)→(∀ j o,l[j]? = some o→ops[k+j]? = some o)→(∀ t,g t=slotOf ops a0 sl (fun _=>true) t k)→AWE P ops M F R l g E →
  ∃ (sl':Nat→Slot) (g':Nat→Slot) (E':World→Prop),(∀ w,zms ops sl' (k+l.length) w→E' w)∧(∀ j,j<k→sl' j=sl j)∧(∀ j,k+l.length≤j→sl' j=sl j)∧(∀ j o,k≤j→j<k+l.length→ops[j]? = some o→(sl' j).steady M∧OpOK P ops M F o (fun t=>slotOf ops a0 sl' (fun _=>true) t j) (sl' j)) ∧
   (∀ t,g' t=slotOf ops a0 sl' (fun _=>true) t (k+l.length))∧R g' E'
 | [],k,g,sl,E,hE,hl,he,h=>by
   refine⟨sl,g,E,hE,fun _ _=>rfl,fun _ _=>rfl,fun j o hj hj2 ho=>?_,by simpa using he,h⟩;simp at hj2;omega
 | o::l,k,g,sl,E,hE,hl,he,h=>by
  obtain⟨s,E1,hs,hop,hr,hE1⟩:∃ (s:Slot) (E1:World→Prop),s.steady M∧OpOK P ops M F o g s∧AWE P ops M F R l (upd g o.dst s) E1 ∧ ∀ w,E w→(o.dst=none → ∃ v,s.ok v w)→E1 w:=by
   rcases h with⟨s,h1,h2,h3⟩ | ⟨hd,φ,h1,h2,h3⟩
   ·exact⟨s,E,h1,h2,h3,fun w a _=>a⟩
   ·refine⟨.any fun _=>φ,fun w=>E w∧φ w,fun _=>h1,h2,by rw[hd];exact h3,fun w a b=>?_⟩
    obtain⟨v,hv⟩:=b hd;exact⟨a,hv⟩
  have h0:ops[k]? = some o:=by simpa using hl 0 o rfl
  have hd:dstOf ops k=o.dst:=by simp[dstOf,h0]
  let sl1:Nat→Slot:=fun j=>if j=k then s else sl j
  have hcong:∀ t,slotOf ops a0 sl1 (fun _=>true) t k=slotOf ops a0 sl (fun _=>true) t k:=by
   intro t;have:∀ n,n≤k→slotOf ops a0 sl1 (fun _=>true) t n=slotOf ops a0 sl (fun _=>true) t n:=by
    intro n
    induction n with
    | zero=>intro _;rfl
    | succ n ih=>
     intro hn;unfold slotOf;rw[ih (by omega)];have:sl1 n=sl n:=by simp only[sl1];rw[if_neg (by omega)]
     rw[this]
   exact this k (Nat.le_refl _)
  have hk1:∀ t,upd g o.dst s t=slotOf ops a0 sl1 (fun _=>true) t (k+1):=by
   intro t;unfold slotOf;rw[hd,hcong];have hs1:sl1 k=s:=by simp[sl1]
   rw[hs1];cases ho:o.dst with
   | none=>simp[he,upd]
   | some d=>
    by_cases hdt:d=t
    ·subst hdt;simp[upd]
    ·simp[upd,hdt,he]
  have hE2:∀ w,zms ops sl1 (k+1) w→E1 w:=fun w h=>by
   refine hE1 w (hE w fun j p hj hp hd=>?_) (fun hd=>?_)
   ·obtain⟨v,hv⟩:=h j p (by omega) hp hd
    refine⟨v,?_⟩;have e:sl1 j=sl j:=by simp only[sl1];rw[if_neg (by omega)]
    rw[e] at hv;exact hv
   ·obtain⟨v,hv⟩:=h k o (by omega) h0 hd
    refine⟨v,?_⟩;have e:sl1 k=s:=by simp[sl1]
    rw[e] at hv;exact hv
  obtain⟨sl',env',E',hE3,h1,h1b,h2,h3,h4⟩:=AWE.slots l (k+1) _ sl1 E1 hE2 (fun j p hj=>by have:=hl (j+1) p (by simpa using hj);simpa[Nat.add_assoc,Nat.add_comm 1 j] using this) hk1 hr;refine⟨sl',env',E',fun w h=>hE3 w (by rw[show k+1+l.length=k+(o::l).length by simp;omega];exact h),fun j hj=>?_,fun j hj=>?_,fun j p hj hj2 hp=>?_,fun t=>?_,h4⟩
  ·rw[h1 j (by omega)];simp only[sl1];rw[if_neg (by omega)]
  ·simp only[List.length_cons] at hj
   rw[h1b j (by omega)];simp only[sl1];rw[if_neg (by omega)]
  ·by_cases hjk:j=k
   ·subst hjk
    rw[h0] at hp;injection hp with hp;subst hp
    have e1:sl' j=s:=by rw[h1 j (by omega)];simp[sl1]
    have e2:(fun t=>slotOf ops a0 sl' (fun _=>true) t j)=g:=by
     funext t
     rw[he t,←hcong t];have:∀ n,n≤j→slotOf ops a0 sl' (fun _=>true) t n=slotOf ops a0 sl1 (fun _=>true) t n:=by
      intro n
      induction n with
      | zero=>intro _;rfl
      | succ n ih=>intro hn;unfold slotOf;rw[ih (by omega),h1 n (by omega)]
     exact this j (Nat.le_refl _)
    rw[e1,e2];exact⟨hs,hop⟩
   ·simp only[List.length_cons] at hj2
    exact h2 j p (by omega) (by omega) hp
  ·rw[h3 t];congr 1;simp;omega
structure MidE (ops:Array Oper) (F:World→Prop) (a0:Act) (sl:Nat→Slot) (L:Array Bool) (a:Act) (w:World):Prop where
 size:L.size=ops.size
 down:∀ i o,L.getD i false=true→ops[i]? = some o → ∀ e∈o.after,Region.binds .any e=true→L.getD e.on false=true
 frame:F w
 tmps:a.tmps.size=a0.tmps.size
 defers:a.defers=a0.defers
 slots:∀ t,t<a0.tmps.size→(slotOf ops a0 sl (fun j=>L.getD j false) t ops.size).ok (a.tmps.getD t undef) w
 effs:∀ j o,L.getD j false=true→ops[j]? = some o→o.dst=none → ∃ v,(sl j).ok v w
theorem MidE.mid {sl:Nat→Slot} {L:Array Bool} {a:Act} {w:World} (h:MidE ops F a0 sl L a w):Mid ops F a0 sl L a w:=⟨h.size,h.down,h.frame,h.tmps,h.defers,h.slots⟩
theorem MidE.start {w:World} {sl:Nat→Slot} (hw:F w):MidE ops F a0 sl (Array.replicate ops.size false) a0 w:=by
 have h:=Mid.start (ops:=ops) (a0:=a0) (sl:=sl) hw;exact⟨h.size,h.down,h.frame,h.tmps,h.defers,h.slots,fun j o hj=>by
  have hf:(Array.replicate ops.size false).getD j false=false:=by simp[Array.getElem?_replicate];split <;> rfl
  rw[hf] at hj;cases hj⟩
theorem MidE.step {sl:Nat→Slot} {L:Array Bool} {a:Act} {w:World} (hF:zau M F) (hg:za8 ops a0.tmps.size=true)
  (hst:∀ j o,ops[j]? = some o→(sl j).steady M) {i:Nat} (hsl:∀ o,ops[i]? = some o→OpOK P ops M F o (fun t=>slotOf ops a0 sl (fun _=>true) t i) (sl i))
  (hm:MidE ops F a0 sl L a w) (hi:i∈Region.ready .any ops L) (hlook:∀ o,ops[i]? = some o → ∀ t∈o.looksAt ops,t<a0.tmps.size) {Q:Exit→Act→World→Prop} :
  wpOp P ops Q i (fun a' w'=>MidE ops F a0 sl (L.setIfInBounds i true) a' w') a w:=by
 obtain⟨hun,o,ho,hall⟩:=mem_ready.1 hi;have hil:i<ops.size:=(Array.getElem?_eq_some_iff.1 ho).1;have hiL:i<L.size:=by rw[hm.size];exact hil
 have hunf:L.getD i false=false:=by simp[hiL] at hun⊢;exact hun
 obtain⟨g1,g2,g3,g4⟩:=zaM hg ho;have hop:=hsl o ho;have early:∀ j p,j<i→ops[j]? = some p→(L.getD j false=true∨p.apart ops o=true):=fun j p hj hp=>by
  rcases g4 j p hj hp with⟨e,he,hb,rfl⟩ | h
  ·exact .inl (hall e he hb)
  ·exact .inr h
 have late:∀ j p,i<j→ops[j]? = some p→(L.getD j false=false∨o.apart ops p=true):=fun j p hj hp=>by
  rcases(zaM hg hp).2.2.2 i o hj ho with⟨e,he,hb,rfl⟩ | h
  ·left
   cases hLj:L.getD j false with
   | false=>rfl
   | true=>have:=hm.down j p hLj hp e he hb;rw[hunf] at this;cases this
  ·exact .inr h
 have hlooks:∀ t∈o.looksAt ops,slotOf ops a0 sl (fun j=>L.getD j false) t ops.size=slotOf ops a0 sl (fun _=>true) t i:=fun t ht=>by
  rw[za5 ops a0 (i:=i) ops.size (Nat.le_of_lt hil) fun j h1 h2 h3=>?_]
  ·refine zaJ ops a0 i fun j hj hd=>?_
   have hp:ops[j]? = some ops[j]:=Array.getElem?_eq_getElem (by omega);have hd':ops[j].dst=some t:=by simpa[dstOf,hp] using hd
   rcases early j _ hj hp with h | h
   ·exact h
   ·exact absurd rfl (zfL ht hd' h)
  ·have hp:ops[j]? = some ops[j]:=Array.getElem?_eq_getElem h2
   have hd':ops[j].dst=some t:=by simpa[dstOf,hp] using h3
   by_cases hij:i=j
   ·subst hij;exact hunf
   ·rcases late j _ (by omega) hp with h | h
    ·exact h
    ·exact absurd rfl (zeY ht hd' h)
 have hag:=hop a w hm.frame fun t ht=>by
  have:=hm.slots t (hlook o ho t ht);rw[hlooks t ht] at this;exact this
 have after:∀ v w',(sl i).ok v w'→M.r w w'→MidE ops F a0 sl (L.setIfInBounds i true) (a.put o.dst v) w':=fun v w' hv he=>by
  have hsz:(a.put o.dst v).tmps.size=a0.tmps.size:=by cases o.dst <;> simp[Act.put,hm.tmps]
  refine⟨by simp[hm.size],fun j p hj hp e hep hb=>?_,hF _ _ he hm.frame,hsz,by cases o.dst <;> simp[Act.put,hm.defers],fun t htn=>?_,fun j p hj hp hd=>?_⟩
  ·by_cases hji:i=j
   ·subst hji
    rw[ho] at hp;injection hp with hp;subst hp
    exact getD_set_true (hall e hep hb)
   ·rw[getD_set_ne false hji] at hj
    exact getD_set_true (hm.down j p hj hp e hep hb)
  ·by_cases hdt:o.dst=some t
   ·have e1:slotOf ops a0 sl (fun j=>(L.setIfInBounds i true).getD j false) t ops.size=sl i:=by
     rw[za5 ops a0 (i:=i+1) ops.size hil fun j h1 h2 h3=>?_]
     ·unfold slotOf
      rw[if_pos ⟨by simp[hiL],by simp[dstOf,ho,hdt]⟩]
     ·have hp:ops[j]? = some ops[j]:=Array.getElem?_eq_getElem h2
      have hd':ops[j].dst=some t:=by simpa[dstOf,hp] using h3
      show(L.setIfInBounds i true).getD j false=false
      rw[getD_set_ne false (by omega)];rcases late j _ (by omega) hp with h | h
      ·exact h
      ·exact absurd hd' ((Oper.apart_spec h).2.1 t hdt)
    rw[e1];have:(a.put o.dst v).tmps.getD t undef=v:=by
     have:t<a.tmps.size:=by rw[hm.tmps];exact htn
     simp[Act.put,hdt,this]
    rw[this];exact hv
   ·have e1:slotOf ops a0 sl (fun j=>(L.setIfInBounds i true).getD j false) t ops.size=slotOf ops a0 sl (fun j=>L.getD j false) t ops.size:=by
     refine zaJ ops a0 _ fun j hj hd=>getD_set_ne false ?_;rintro rfl;exact hdt (by simpa[dstOf,ho] using hd)
    rw[e1];have e2:(a.put o.dst v).tmps.getD t undef=a.tmps.getD t undef:=by
     cases hd:o.dst with
     | none=>rfl
     | some d=>
      have hne:d≠t:=fun e=>hdt (by rw[hd,e]);simp[Act.put,Array.getElem?_setIfInBounds_ne hne]
    rw[e2];have hk:=hm.slots t htn;have hsteady:(slotOf ops a0 sl (fun j=>L.getD j false) t ops.size).steady M:=by
     have:∀ k,(slotOf ops a0 sl (fun j=>L.getD j false) t k).steady M:=by
      intro k
      induction k with
      | zero=>exact trivial
      | succ k ih=>
       unfold slotOf
       split
       ·rename_i hh
        cases hok:ops[k]? with
        | none=>simp[dstOf,hok] at hh
        | some p=>exact hst k p hok
       ·exact ih
     exact this _
    exact Slot.ok_ext hsteady he hk
  ·by_cases hji:i=j
   ·subst hji
    exact⟨v,hv⟩
   ·rw[getD_set_ne false hji] at hj
    obtain⟨u,hu⟩:=hm.effs j p hj hp hd;exact⟨u,Slot.ok_ext (hst j p hp) he hu⟩
 unfold wpOp;simp only[ho]
 split
 ·rename_i hw
  rw[if_pos hw] at hag;exact .inl (Gives.wp hag fun v w' ⟨h1,h2⟩=>after v w' h1 h2)
 ·rename_i hw
  rw[if_neg hw] at hag;exact after undef w hag (M.refl w)
theorem MidE.any {sl:Nat→Slot} {z:Nat} (hF:zau M F) (hg:za8 ops a0.tmps.size=true) (hlk:zbw ops a0.tmps.size=true) (hz:ops.size≤z+1) (hlast:zbk ops z=true)
  (hst:∀ j o,ops[j]? = some o→(sl j).steady M)
  (hsl:∀ j o,j<z→ops[j]? = some o→OpOK P ops M F o (fun t=>slotOf ops a0 sl (fun _=>true) t j) (sl j)) {Q:Exit→Act→World→Prop}
  (hQ:∀ L a w,(∀ i,i<ops.size→i<z→L.getD i false=true)→L.getD z false=false→MidE ops F a0 sl L a w→wpOp P ops Q z (fun a' w'=>Q .normal a' w') a w) :
  ∀ (fuel:Nat) (L:Array Bool) (a:Act) (w:World),L.getD z false=false→MidE ops F a0 sl L a w→((List.range ops.size).filter fun i=>!L.getD i false).length≤fuel→wpAny P .any ops Q fuel L a w:=by
 have none_ready:∀ L:Array Bool,L.size=ops.size→(∀ i,i<ops.size→L.getD i false=true)→Region.ready .any ops L=[]:=by
  intro L hs hall;rcases hr:Region.ready .any ops L with _ | ⟨i,r⟩
  ·rfl
  ·have hi:i∈Region.ready .any ops L:=by rw[hr];simp
   obtain⟨hun,o,ho,_⟩:=mem_ready.1 hi;have hil:i<ops.size:=(Array.getElem?_eq_some_iff.1 ho).1;have hiL:i<L.size:=by rw[hs];exact hil
   have:=hall i hil;simp[hiL] at hun this;rw[hun] at this;cases this
 have full:∀ L a w,MidE ops F a0 sl L a w→Region.ready .any ops L=[] → ∀ i,i<ops.size→L.getD i false=true:=by
  intro L a w hm hr i
  induction i using Nat.strongRecOn with
  | _ i ih=>
   intro hi;cases hL:L.getD i false with
   | true=>rfl
   | false=>
    have ho:ops[i]? = some ops[i]:=Array.getElem?_eq_getElem hi;have:i∈Region.ready .any ops L:=mem_ready.2 ⟨by
     have hiL:i<L.size:=by rw[hm.size];exact hi
     simp[hiL] at hL⊢;exact hL,_,ho,fun e he hb=>by
      have hlt:=(zaM hg ho).1 e he hb;exact ih e.on hlt (by omega)⟩
    rw[hr] at this;cases this
 intro fuel
 induction fuel with
 | zero=>
  intro L a w hz0 hm hc;have hall:∀ i,i<ops.size→L.getD i false=true:=fun i hi=>by
   cases hL:L.getD i false with
   | true=>rfl
   | false=>
    have hmem:i∈(List.range ops.size).filter fun i=>!L.getD i false:=List.mem_filter.2 ⟨List.mem_range.2 hi,by simp only[hL];rfl⟩;have:=List.length_pos_of_mem hmem;omega
  refine⟨none_ready L hm.size hall,?_⟩;have hzn:ops[z]? = none:=by
   rcases Nat.lt_or_ge z ops.size with h | h
   ·rw[hall z h] at hz0;cases hz0
   ·exact Array.getElem?_eq_none h
  have:=hQ L a w (fun i hi _=>hall i hi) hz0 hm;simpa[wpOp,hzn] using this
 | succ fuel ih=>
  intro L a w hz0 hm hc;refine⟨fun hr=>?_,fun i hi=>?_⟩
  ·have hall:=full L a w hm hr
   have hzn:ops[z]? = none:=by
    rcases Nat.lt_or_ge z ops.size with h | h
    ·rw[hall z h] at hz0;cases hz0
    ·exact Array.getElem?_eq_none h
   have:=hQ L a w (fun i hi _=>hall i hi) hz0 hm;simpa[wpOp,hzn] using this
  ·obtain⟨hun,o,ho,hready⟩:=mem_ready.1 hi
   have hil:i<ops.size:=(Array.getElem?_eq_some_iff.1 ho).1;have hiL:i<L.size:=by rw[hm.size];exact hil
   by_cases hiz:i=z
   ·subst hiz
    have hanc:=zcq (ops:=ops) (L:=fun j=>L.getD j false) hm.down i ((o.after.toList.filter (Region.binds .any)).map (·.on)) (fun j hj=>by
     obtain⟨e,he,rfl⟩:=List.mem_map.1 hj;obtain⟨h1,h2⟩:=List.mem_filter.1 he;exact hready e (Array.mem_toList_iff.1 h1) h2)
    have hall:∀ j,j<i→L.getD j false=true:=fun j hj=>by
     unfold zbk at hlast;simp only[ho] at hlast;exact hanc j (by simpa using List.all_eq_true.1 hlast j (List.mem_range.2 hj))
    refine wpOp_mono (fun a' w' h'=>?_) (hQ L a w (fun j _ hj=>hall j hj) hz0 hm);have hn:Region.ready .any ops (L.setIfInBounds i true)=[]:=none_ready _ (by simp[hm.size]) fun j hj=>by
     by_cases hji:i=j
     ·subst hji;simp[hiL]
     ·rw[getD_set_ne false hji];exact hall j (by omega)
    cases fuel with
    | zero=>exact⟨hn,h'⟩
    | succ fuel=>exact⟨fun _=>h',fun j hj=>by rw[hn] at hj;cases hj⟩
   ·refine wpOp_mono (fun a' w' hm'=>ih _ _ _ (by rw[getD_set_ne false hiz];exact hz0) hm' ?_) (hm.step hF hg hst (fun p hp=>hsl i p (by omega) hp) hi fun o ho=>zeb hlk ho)
    have hlt:((List.range ops.size).filter fun j=>!(L.setIfInBounds i true).getD j false).length<((List.range ops.size).filter fun j=>!L.getD j false).length:=by
     have hmem:i∈(List.range ops.size).filter fun j=>!L.getD j false:=List.mem_filter.2 ⟨List.mem_range.2 hil,by simp[hiL] at hun⊢;exact hun⟩;have hsub:((List.range ops.size).filter fun j=>!(L.setIfInBounds i true).getD j false)=((List.range ops.size).filter fun j=>!L.getD j false).filter fun j=>j != i:=by
      rw[List.filter_filter];refine List.filter_congr fun j _=>?_;by_cases hji:i=j
      ·subst hji;simp[hiL]
      ·have hb:(j != i)=true:=by simp;omega
       rw[getD_set_ne false hji,hb,Bool.true_and]
     rw[hsub];refine List.length_filter_lt_length_iff_exists.2 ⟨i,hmem,by simp⟩
    omega
def zd1 (P:Program) (ops:Array Oper) (F:World→Prop) (a0:Act) (Q:Exit→Act→World→Prop) (z:Oper) (g:Nat→Slot) (E:World→Prop):Prop:=
 ∀ a w,F w→a.tmps.size=a0.tmps.size→a.defers=a0.defers→(∀ t,t<a0.tmps.size→(g t).ok (a.tmps.getD t undef) w)→E w→wpList P ops Q [z] a w
theorem zdQ {id:Nat} {Q:Exit→Act→World→Prop} {w:World} (M:Rel) (F:World→Prop) (hF:zau M F) (hF0:F { w with drawn:=w.drawn+1 }) {l:List Oper} {z:Oper} (hm:P.follows .mixedOrders=true) (hg:za8 (l++[z]).toArray a0.tmps.size=true) (hlk:zbw (l++[z]).toArray a0.tmps.size=true)
  (hlast:zbk (l++[z]).toArray l.length=true)
  (h:AWE P (l++[z]).toArray M F (zd1 P (l++[z]).toArray F a0 Q z) l (fun t=>.val (a0.tmps.getD t undef)) (fun _=>True)):(Code.region id (l++[z]).toArray true).wp P Q a0 w:=by
 obtain⟨sl,env,E',hE,_,hfar,hsl,he,hR⟩:=AWE.slots (a0:=a0) (ops:=(l++[z]).toArray) l 0 _ (fun _=>.val undef) (fun _=>True) (fun _ _=>trivial) (fun j o hj=>by simpa[List.getElem?_append_left (List.getElem?_eq_some_iff.1 hj).1] using hj) (fun _=>rfl) h;simp only[Nat.zero_add] at he hsl hfar hE;have hsz:(l++[z]).toArray.size=l.length+1:=by simp
 have hzs:(l++[z]).toArray[l.length]? = some z:=by simp
 have hlt:∀ j o,(l++[z]).toArray[j]? = some o→j<l.length+1:=fun j o ho=>by have:=(Array.getElem?_eq_some_iff.1 ho).1;omega
 refine wp_region_any hm (MidE.any (z:=l.length) (M:=M) hF hg hlk (by omega) hlast (fun j o ho=>?_) (fun j o hj ho=>(hsl j o (Nat.zero_le _) hj ho).2) (fun L a w' hall hz0 hm=>?_) _ _ _ _ (zds _ _) (MidE.start hF0) ?_)
 ·rcases Nat.lt_or_ge j l.length with hj | hj
  ·exact(hsl j o (Nat.zero_le _) hj ho).1
  ·rw[hfar j hj];exact trivial
 ·have:=hR a w' hm.frame hm.tmps hm.defers (Mid.end_ (by omega) he hall hz0 hm.mid) (hE w' fun j o hj ho hd=>hm.effs j o (hall j (by omega) hj) ho hd)
  simpa[wpOp,hzs,wpList] using this
 ·exact Nat.le_trans (List.length_filter_le _ _) (by simp)
end
theorem zc3 {P:Program} {o:Oper} {a:Act} {w:World} {T:TypeId} {x:Operand} {p:Addr} {cs:Array Value} (hop:o.op=.load T x) (hx:a.eval x=.pointer (some p)) (hld:(loadVar T p).run P w=.ok (.agg cs) w):Gives P (fun u w'=>u=.agg cs∧w'=w) ((execOp a.eval o).run P w):=by
 simp only[execOp,hop,hx,Instr.loadAt,Instr.sureAddr,Sem.run_bind,Sem.run_pure,Result.andThen,hld];exact⟨rfl,rfl⟩
section
variable {P:Program} {ops:Array Oper} {M:Rel} {F:World→Prop} {R:(Nat→Slot)→(World→Prop)→Prop} {a0:Act} {E:World→Prop}
def AWe (P:Program) (ops:Array Oper) (M:Rel) (F:World→Prop) (R:(Nat→Slot)→(World→Prop)→Prop) (l:List Oper) (b:Act) (A:Anys) (E:World→Prop):Prop:=AWE P ops M F R l (zai b A) E
theorem AWe.val {o:Oper} {rest:List Oper} {b:Act} {A:Anys} {v:Value} (hap:zb9 A (o.looksAt ops)=true) (hd:dstB A b.tmps.size o.dst=true) (hsel:(match o.op with | .select ..=>false | _=>true)=true) (hw:Region.wanted o (yielded ops b.tmps)=true)
  (h:∀ w,F w→Gives P (fun u w'=>u=v∧w'=w) ((execOp b.eval o).run P w)) (hr:AWe P ops M F R rest (b.put o.dst v) A E):AWe P ops M F R (o::rest) b A E:=by
 refine .inl ⟨.val v,trivial,fun a w hF hl=>?_,by rw[←zbG hd];exact hr⟩;rw[zbE hap hl,if_pos hw,zcT hsel hap hl];exact(h w hF).mono fun u w' h3=>⟨h3.1,by rw[h3.2];exact M.refl _⟩
theorem AWe.valE {o:Oper} {rest:List Oper} {b:Act} {A:Anys} (hap:zb9 A (o.looksAt ops)=true) (hd:dstB A b.tmps.size o.dst=true) (hsel:(match o.op with | .select ..=>false | _=>true)=true) (hw:Region.wanted o (yielded ops b.tmps)=true)
  (h:∃ v,(∀ w,F w→Gives P (fun u w'=>u=v∧w'=w) ((execOp b.eval o).run P w))∧AWe P ops M F R rest (b.put o.dst v) A E):AWe P ops M F R (o::rest) b A E:=
 AWe.val hap hd hsel hw h.choose_spec.1 h.choose_spec.2
theorem AWe.call {o:Oper} {rest:List Oper} {b:Act} {A:Anys} {f:FuncId} {fn:Func} {xs:List Operand} {ats:Array TypeId} (ho:o.op=.call { callee:=.value (.func f),args:=xs.toArray,argTypes:=ats })
  (hf : P.funcs[f]? = some fn) (h1 : (fn.name == "runtime.NumGoroutine") = false) (h2 : fn.body.isNone = false)
  (hgn:o.guard=none) (hd:dstB A b.tmps.size o.dst=true)
  (h:∃ c,(∀ w,F w→zm b A w xs fun ys=>Calls P f ys.toArray w (Ret c w))∧AWe P ops M F R rest (b.put o.dst c) A E):AWe P ops M F R (o::rest) b A E:=by
 obtain⟨c,hc,hr⟩:=h;refine .inl ⟨.val c,trivial,fun a w hF hl=>?_,by rw[←zbG hd];exact hr⟩;have hops:∀ t,.tmp t∈xs→(zai b A t).ok (a.tmps.getD t undef) w:=fun t ht=>
  hl t (List.mem_append_left _ (List.mem_filterMap.2 ⟨.tmp t,by simp[ho,Op.operands,Call.operands,ht],rfl⟩))
 have hwa:Region.wanted o (yielded ops a.tmps)=true:=by unfold Region.wanted;rw[hgn]
 rw[if_pos hwa,zdA ho rfl,zbR hf h1 h2];exact(zmz (za9 xs _ hops (hc w hF))).mono fun _ _ ⟨v,e,h,k⟩=>⟨v,e,h,M.ofExt _ _ k⟩
theorem AWe.eff {o:Oper} {rest:List Oper} {b:Act} {A:Anys} (φ:World→Prop) (hφ:zau M φ) (hap:zb9 A (o.looksAt ops)=true) (hd:o.dst=none) (hsel:(match o.op with | .select ..=>false | _=>true)=true) (hw:Region.wanted o (yielded ops b.tmps)=true)
  (h:∀ w,F w→Gives P (fun _ w'=>φ w'∧M.r w w') ((execOp b.eval o).run P w)) (hr:AWe P ops M F R rest b A (fun w=>E w∧φ w)):AWe P ops M F R (o::rest) b A E:=by
 refine .inr ⟨hd,φ,hφ,fun a w hF hl=>?_,hr⟩;rw[zbE hap hl,if_pos hw,zcT hsel hap hl];exact h w hF
theorem AWe.last {Q:Exit→Act→World→Prop} {b:Act} {A:Anys} {z:Oper} (hs:b.tmps.size=a0.tmps.size) (hd:b.defers=a0.defers) (hk:zee b.tmps.size A=true)
  (h:∀ w,F w→E w→zo (wpList P ops Q [z]) w A b):AWe P ops M F (zd1 P ops F a0 Q z) [] b A E:=
 fun a w hF hsz hdf hsl hE=>zaN A b hk (by rw[hs,hsz]) (by rw[hd,hdf]) (fun t ht=>hsl t (by rw[←hs];exact ht)) (h w hF hE)
theorem zba {id:Nat} {L pre:List Oper} {z:Oper} {Q:Exit→Act→World→Prop} {w:World} (M:Rel) (F:World→Prop) (hpre:L.dropLast=pre) (hz:L.getLast? = some z) (hF:zau M F) (hF0:F w.drew) (hm:P.follows .mixedOrders=true) (hg:za8 L.toArray a0.tmps.size=true) (hlk:zbw L.toArray a0.tmps.size=true)
  (hlast:zbk L.toArray (L.length-1)=true)
  (h:AWe P L.toArray M F (zd1 P L.toArray F a0 Q z) pre a0 [] (fun _=>True)):(Code.region id L.toArray true).wp P Q a0 w:=by
 have hL:L=pre++[z]:=by
  subst hpre;have hne:L≠[]:=by rintro rfl;cases hz
  have hz':=List.getLast?_eq_some_getLast hne;rw[hz] at hz';injection hz' with hz'
  rw[hz',List.dropLast_concat_getLast hne]
 subst hL;exact zdQ M F hF hF0 hm hg hlk (by simpa using hlast) h
end
end Go.Proofs.YtofjpdgojoppbaaGreatDoor
