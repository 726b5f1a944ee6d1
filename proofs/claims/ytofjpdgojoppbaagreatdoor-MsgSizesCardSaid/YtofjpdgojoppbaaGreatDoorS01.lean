/-
  Of the claim's proof: Aw, Base, Row, AwK, GnA, Str, Cov, PcA, Res.
-/
import Derived.Orders
import Derived.Deep.Quiet
import Derived.Below
import Derived.Deep.Draws
import Derived.WalkKit
import Derived.WalkLawsBesides
import Derived.Deep.QuietTactic
import Derived.BigQuiet
import Derived.Deep.DeepCutAuto
import Derived.Deep.Upon
import Derived.Deep.AppendLies
import Derived.Deep.RegionHeld3
import Derived.Deep.MidRow
import Derived.Great.BuildSlice
import Derived.Sort.Walk0
import Derived.Test.YtofjpdgojoppbaaGreatDoorProg
set_option maxRecDepth 100000
set_option maxHeartbeats 16000000
set_option linter.unusedVariables false
set_option linter.unusedSimpArgs false
namespace Go.Proofs.YtofjpdgojoppbaaGreatDoor
theorem zq1.{u} {α : Type u} {xs : Array α} {i : Nat} {d : α} : xs.getD i d = xs[i]?.getD d := Array.getD_eq_getD_getElem?
theorem zq2.{u} {α : Type u} {xs : List α} {i : Nat} : xs.toArray[i]? = xs[i]? := List.getElem?_toArray
theorem zq3.{u} {α : Type u} {a : α} {i : Nat} {l : List α} : (a :: l)[i + 1]? = l[i]? := List.getElem?_cons_succ
theorem zq4.{u} {α : Type u} {a : α} {l : List α} : (a :: l)[0]? = some a := List.getElem?_cons_zero
theorem zq5.{u} {α : Type u} {a b : α} : (some a).getD b = a := Option.getD_some
theorem zq6.{u} {α : Type u} (l : List α) (i : Nat) (a : α) : l.toArray.setIfInBounds i a = (l.set i a).toArray := List.setIfInBounds_toArray l i a
theorem zq7.{u} {α : Type u} {x : α} {xs : List α} {i : Nat} {a : α} : (x :: xs).set (i + 1) a = x :: xs.set i a := List.set_cons_succ
theorem zq8.{u} {α : Type u} {x : α} {xs : List α} {a : α} : (x :: xs).set 0 a = a :: xs := List.set_cons_zero
section
open Go.RowKit
def Ext (w w':World):Prop:=Below w.heap.size w w'
theorem Ext.refl (w:World):Ext w w:=Below.refl _ _
theorem Ext.trans {a b c:World} (h:Ext a b) (k:Ext b c):Ext a c:=Below.trans h (Below.mono k h.size)
theorem Ext.cell {w w':World} (h:Ext w w') {p:Addr} {v:Value} (hc:w.cell? p=some v):w'.cell? p=some v:=
 (Below.cell h (World.block_lt_of_cell? w p hc)).trans hc
theorem Ext.drew (w:World):Ext w w.drew:=(Below.refl _ _).drew
theorem Ext.drewN (w:World) (n:Nat):Ext w (w.drewN n):=⟨rfl,rfl,rfl,Nat.le_refl _,fun _ _=>rfl⟩
theorem Ext.alloc (w:World) (o:Obj):Ext w (w.alloc o):=(Below.refl _ _).alloc (Nat.le_refl _) o
theorem Ext.heap {w w' : World} (h : Ext w w') {k : Nat} {o : Obj} (hk : w.heap[k]? = some o) : w'.heap[k]? = some o :=
  (h.block k (by rcases Nat.lt_or_ge k w.heap.size with h | h; · exact h
                 · rw [Array.getElem?_eq_none h] at hk; cases hk)).trans hk
structure Rel where
 r:World→World→Prop
 refl:∀ w,r w w
 trans:∀ a b c,r a b→r b c→r a c
 ofExt:∀ w w',Ext w w'→r w w'
abbrev Rel.ext:Rel:=⟨Ext,Ext.refl,fun _ _ _=>Ext.trans,fun _ _ h=>h⟩
def zae (M:Rel) (F:World→Prop):Prop:=∀ w w',M.r w w'→F w→F w'
def zhb (F:World→Prop):Prop:=∀ w w',Ext w w'→F w→F w'
inductive Slot where
 | val (v:Value)
 | any (φ:Value→World→Prop)
def Slot.ok:Slot→Value→World→Prop
 | .val c,v,_=>v=c
 | .any φ,v,w=>φ v w
def Slot.steady (M:Rel):Slot→Prop
 | .val _=>True
 | .any φ=>∀ v,zae M (φ v)
theorem Slot.ok_ext {M:Rel} {s:Slot} (h:s.steady M) {v:Value} {w w':World} (he:M.r w w') (hk:s.ok v w):s.ok v w':=by
 cases s with
 | val c=>exact hk
 | any φ=>exact h v w w' he hk
def RetP (ψ:Value→World→Prop):Ending→World→Prop:=fun e w'=>∃ v,e=.returned v∧ψ v w'
def Ret (c:Value) (w:World):Ending→World→Prop:=fun e w'=>e=.returned c∧Ext w w'
def RetQ (φ:Value→World→Prop) (w:World):Ending→World→Prop:=fun e w'=>∃ v,e=.returned v∧φ v w'∧Ext w w'
theorem zmp {P:Program} {f:FuncId} {args:Array Value} {w:World} {c:Value} (h:Calls P f args w (Ret c w)):Calls P f args w (RetP fun u w'=>u=c∧Ext w w'):=
 h.mono fun _ _ ⟨he,hx⟩=>⟨c,he,rfl,hx⟩
theorem zmq {P:Program} {f:FuncId} {args:Array Value} {w:World} {φ:Value→World→Prop} (h:Calls P f args w (RetQ φ w)):Calls P f args w (RetP fun u w'=>φ u w'∧Ext w w'):=
 h.mono fun _ _ ⟨v,he,hp,hx⟩=>⟨v,he,hp,hx⟩
def Gives (P:Program) (ψ:Value→World→Prop):Result Next→Prop
 | .ok (.value v) w=>ψ v w
 | .ok .skip w=>ψ undef w
 | .ok (.enter f args) w=>Calls P f args w (RetP ψ)
 | _=>False
theorem Ext.rule {w w':World} (h:Ext w w'):∀ b o s,b<w.heap.size→w'.cell? ⟨b,o,s⟩=w.cell? ⟨b,o,s⟩:=fun b o s hb=>Below.cell (p:=⟨b,o,s⟩) h hb
theorem Ext.ruleF {w w':World} (h:Ext w w'):∀ b o s,b<w.heap.size→w'.frozen? ⟨b,o,s⟩=w.frozen? ⟨b,o,s⟩:=fun b o s hb=>Below.frozen (p:=⟨b,o,s⟩) h hb
theorem Ext.steady (w:World):zhb (Ext w):=fun _ _ he h=>h.trans he
theorem Gives.mono {P:Program} {ψ ψ':Value→World→Prop} (h:∀ v w,ψ v w→ψ' v w) {r:Result Next} (hr:Gives P ψ r):Gives P ψ' r:=by
 cases r with
 | ok n w=>cases n <;> simp only[Gives] at hr⊢ <;> first | exact h _ _ hr | exact hr.mono fun _ _ ⟨v,e,hv⟩=>⟨v,e,h _ _ hv⟩
 | halt=>exact hr.elim
theorem Gives.wp {P:Program} {o:Oper} {a:Act} {w:World} {ψ:Value→World→Prop} {K:Act→World→Prop} {Q:Exit→Act→World→Prop}
  (h:Gives P ψ ((execOp a.eval o).run P w)) (hk:∀ v w',ψ v w'→K (a.put o.dst v) w'):o.wp P a w K Q:=by
 unfold Oper.wp;generalize (execOp a.eval o).run P w=r at h;cases r with
 | ok n w'=>
  cases n <;> simp only[Gives] at h <;> simp only[Oper.upon]
  case value v=>exact hk _ _ h
  case skip=>exact hk _ _ h
  case enter f args=>
   exact h.mono fun e w'' ⟨v,he,hv⟩=>by subst he;exact hk _ _ hv
 | halt x w'=>exact h.elim
section
variable (P:Program) (ops:Array Oper) (M:Rel) (F:World→Prop) (a0:Act)
def upd (g:Nat→Slot):Option Nat→Slot→Nat→Slot
 | some d,s=>fun t=>if d=t then s else g t
 | none,_=>g
def dstOf (k:Nat):Option Nat:=(ops[k]?).bind (·.dst)
def slotOf (sl:Nat→Slot) (m:Nat→Bool) (t:Nat):Nat→Slot
 | 0=>.val (a0.tmps.getD t undef)
 | k+1=>if m k=true∧dstOf ops k=some t then sl k else slotOf sl m t k
theorem zaw {sl:Nat→Slot} {m m':Nat→Bool} {t:Nat}:∀ k,(∀ j,j<k→dstOf ops j=some t→m j=m' j)→slotOf ops a0 sl m t k=slotOf ops a0 sl m' t k
 | 0,_=>rfl
 | k+1,h=>by
  unfold slotOf;rw[zaw k fun j hj=>h j (by omega)];by_cases hd:dstOf ops k=some t
  ·rw[h k (by omega) hd]
  ·simp[hd]
theorem zaU {sl:Nat→Slot} {m:Nat→Bool} {t i:Nat}:∀ k,i≤k→(∀ j,i≤j→j<k→dstOf ops j=some t→m j=false)→slotOf ops a0 sl m t k=slotOf ops a0 sl m t i
 | 0,hi,_=>by
  have:i=0:=by omega
  rw[this]
 | k+1,hi,h=>by
  by_cases hik:i=k+1
  ·rw[hik]
  ·conv=>lhs;unfold slotOf
   rw[if_neg (by rintro⟨h1,h2⟩;rw[h k (by omega) (by omega) h2] at h1;cases h1)];exact zaU k (by omega) fun j h1 h2=>h j h1 (by omega)
def OpOK (o:Oper) (g:Nat→Slot) (s:Slot):Prop:=
 ∀ (a:Act) (w:World),F w→(∀ t∈o.looksAt ops,(g t).ok (a.tmps.getD t undef) w) →
  if Region.wanted o (yielded ops a.tmps) then Gives P (fun v w'=>s.ok v w'∧M.r w w') ((execOp a.eval o).run P w) else s.ok undef w
def AW (R:(Nat→Slot)→Prop):List Oper→(Nat→Slot)→Prop
 | [],g=>R g
 | o::rest,g=>∃ s:Slot,s.steady M∧OpOK P ops M F o g s∧AW R rest (upd g o.dst s)
def zaV (n:Nat):Bool:=
 (List.range ops.size).all fun i=>
  match ops[i]? with
  | none=>true
  | some o=>
   (o.after.all fun e=>!Region.binds .any e||decide (e.on<i)) &&
   (match o.dst with | some d=>decide (d<n) | none=>true) &&
   (match o.op with | .select ..=>false | _=>true) &&
   (List.range i).all fun j=>
    match ops[j]? with
    | none=>true
    | some p=>(o.after.any fun e=>Region.binds .any e&&e.on==j)||p.apart ops o
end
section
variable {P:Program} {ops:Array Oper} {M:Rel} {F:World→Prop} {a0:Act}
theorem AW.slots {R:(Nat→Slot)→Prop}:∀ (l:List Oper) (k:Nat) (g:Nat→Slot) (sl:Nat→Slot),(∀ j o,l[j]? = some o→ops[k+j]? = some o)→(∀ t,g t=slotOf ops a0 sl (fun _=>true) t k)→AW P ops M F R l g →
  ∃ (sl':Nat→Slot) (g':Nat→Slot),(∀ j,j<k→sl' j=sl j)∧(∀ j,k+l.length≤j→sl' j=sl j)∧(∀ j o,k≤j→j<k+l.length→ops[j]? = some o→(sl' j).steady M∧OpOK P ops M F o (fun t=>slotOf ops a0 sl' (fun _=>true) t j) (sl' j)) ∧
   (∀ t,g' t=slotOf ops a0 sl' (fun _=>true) t (k+l.length))∧R g'
 | [],k,g,sl,hl,he,h=>by
   refine⟨sl,g,fun _ _=>rfl,fun _ _=>rfl,fun j o hj hj2 ho=>?_,by simpa using he,h⟩;simp at hj2;omega
 | o::l,k,g,sl,hl,he,h=>by
  obtain⟨s,hs,hop,hr⟩:=h;have h0:ops[k]? = some o:=by simpa using hl 0 o rfl
  have hd:dstOf ops k=o.dst:=by simp[dstOf,h0]
  let sl1:Nat→Slot:=fun j=>if j=k then s else sl j
  have hcong:∀ t,slotOf ops a0 sl1 (fun _=>true) t k=slotOf ops a0 sl (fun _=>true) t k:=by
   intro t;have:∀ n,n≤k→slotOf ops a0 sl1 (fun _=>true) t n=slotOf ops a0 sl (fun _=>true) t n:=by
    intro n
    induction n with
    | zero=>intro _;rfl
    | succ n ih=>
     intro hn;unfold slotOf;rw[ih (by omega)];have:sl1 n=sl n:=by simp only[sl1];rw[if_neg (by omega)]
     rw[this]
   exact this k (Nat.le_refl _)
  have hk1:∀ t,upd g o.dst s t=slotOf ops a0 sl1 (fun _=>true) t (k+1):=by
   intro t;unfold slotOf;rw[hd,hcong];have hs1:sl1 k=s:=by simp[sl1]
   rw[hs1];cases ho:o.dst with
   | none=>simp[he,upd]
   | some d=>
    by_cases hdt:d=t
    ·subst hdt;simp[upd]
    ·simp[upd,hdt,he]
  obtain⟨sl',env',h1,h1b,h2,h3,h4⟩:=AW.slots l (k+1) _ sl1 (fun j p hj=>by have:=hl (j+1) p (by simpa using hj);simpa[Nat.add_assoc,Nat.add_comm 1 j] using this) hk1 hr;refine⟨sl',env',fun j hj=>?_,fun j hj=>?_,fun j p hj hj2 hp=>?_,fun t=>?_,h4⟩
  ·rw[h1 j (by omega)];simp only[sl1];rw[if_neg (by omega)]
  ·simp only[List.length_cons] at hj
   rw[h1b j (by omega)];simp only[sl1];rw[if_neg (by omega)]
  ·by_cases hjk:j=k
   ·subst hjk
    rw[h0] at hp;injection hp with hp;subst hp
    have e1:sl' j=s:=by rw[h1 j (by omega)];simp[sl1]
    have e2:(fun t=>slotOf ops a0 sl' (fun _=>true) t j)=g:=by
     funext t
     rw[he t,←hcong t];have:∀ n,n≤j→slotOf ops a0 sl' (fun _=>true) t n=slotOf ops a0 sl1 (fun _=>true) t n:=by
      intro n
      induction n with
      | zero=>intro _;rfl
      | succ n ih=>intro hn;unfold slotOf;rw[ih (by omega),h1 n (by omega)]
     exact this j (Nat.le_refl _)
    rw[e1,e2];exact⟨hs,hop⟩
   ·simp only[List.length_cons] at hj2
    exact h2 j p (by omega) (by omega) hp
  ·rw[h3 t];congr 1;simp;omega
theorem zaB {n:Nat} (h:zaV ops n=true) {i:Nat} {o:Oper} (ho:ops[i]? = some o) :
  (∀ e∈o.after,Region.binds .any e=true→e.on<i)∧(∀ d,o.dst=some d→d<n)∧(∀ cs b,o.op≠.select cs b) ∧
  (∀ j p,j<i→ops[j]? = some p→(∃ e∈o.after,Region.binds .any e=true∧e.on=j)∨p.apart ops o=true):=by
 have hi:i<ops.size:=(Array.getElem?_eq_some_iff.1 ho).1;have h1:=List.all_eq_true.1 h i (List.mem_range.2 hi);simp only[ho,Bool.and_eq_true] at h1;obtain⟨⟨⟨ha,hb⟩,hc⟩,hd⟩:=h1;refine⟨fun e he hb=>?_,fun d hd'=>?_,fun cs b hs=>?_,fun j p hj hp=>?_⟩
 ·have:=Array.all_eq_true_iff_forall_mem.1 ha e he
  simpa[hb] using this
 ·simpa[hd'] using hb
 ·simp[hs] at hc
 ·have:=List.all_eq_true.1 hd j (List.mem_range.2 hj)
  simp only[hp,Bool.or_eq_true] at this;rcases this with h | h
  ·rw[←Array.any_toList] at h
   obtain⟨e,he,h2⟩:=List.any_eq_true.1 h;simp only[Bool.and_eq_true,beq_iff_eq] at h2;exact .inl ⟨e,Array.mem_toList_iff.1 he,h2⟩
  ·exact .inr h
structure Mid (ops:Array Oper) (F:World→Prop) (a0:Act) (sl:Nat→Slot) (L:Array Bool) (a:Act) (w:World):Prop where
 size:L.size=ops.size
 down:∀ i o,L.getD i false=true→ops[i]? = some o → ∀ e∈o.after,Region.binds .any e=true→L.getD e.on false=true
 frame:F w
 tmps:a.tmps.size=a0.tmps.size
 defers:a.defers=a0.defers
 slots:∀ t,t<a0.tmps.size→(slotOf ops a0 sl (fun j=>L.getD j false) t ops.size).ok (a.tmps.getD t undef) w
theorem zfp {o:Oper} {t d:Nat} (ht:t∈o.looksAt ops) {p:Oper} (hp:p.dst=some d) (hap:p.apart ops o=true):d≠t:=by
 rintro rfl;exact(Oper.apart_spec hap).1 d hp ht
theorem zeB {o:Oper} {t d:Nat} (ht:t∈o.looksAt ops) {p:Oper} (hp:p.dst=some d) (hap:o.apart ops p=true):d≠t:=by
 rintro rfl;exact(Oper.apart_spec hap).2.2 d hp ht
theorem Mid.step {sl:Nat→Slot} {L:Array Bool} {a:Act} {w:World} (hF:zae M F) (hg:zaV ops a0.tmps.size=true)
  (hst:∀ j o,ops[j]? = some o→(sl j).steady M) {i:Nat} (hsl:∀ o,ops[i]? = some o→OpOK P ops M F o (fun t=>slotOf ops a0 sl (fun _=>true) t i) (sl i))
  (hm:Mid ops F a0 sl L a w) (hi:i∈Region.ready .any ops L) (hlook:∀ o,ops[i]? = some o → ∀ t∈o.looksAt ops,t<a0.tmps.size) {Q:Exit→Act→World→Prop} :
  wpOp P ops Q i (fun a' w'=>Mid ops F a0 sl (L.setIfInBounds i true) a' w') a w:=by
 obtain⟨hun,o,ho,hall⟩:=mem_ready.1 hi;have hil:i<ops.size:=(Array.getElem?_eq_some_iff.1 ho).1;have hiL:i<L.size:=by rw[hm.size];exact hil
 have hunf:L.getD i false=false:=by simp[hiL] at hun⊢;exact hun
 obtain⟨g1,g2,g3,g4⟩:=zaB hg ho;have hop:=hsl o ho;have early:∀ j p,j<i→ops[j]? = some p→(L.getD j false=true∨p.apart ops o=true):=fun j p hj hp=>by
  rcases g4 j p hj hp with⟨e,he,hb,rfl⟩ | h
  ·exact .inl (hall e he hb)
  ·exact .inr h
 have late:∀ j p,i<j→ops[j]? = some p→(L.getD j false=false∨o.apart ops p=true):=fun j p hj hp=>by
  rcases(zaB hg hp).2.2.2 i o hj ho with⟨e,he,hb,rfl⟩ | h
  ·left
   cases hLj:L.getD j false with
   | false=>rfl
   | true=>have:=hm.down j p hLj hp e he hb;rw[hunf] at this;cases this
  ·exact .inr h
 have hlooks:∀ t∈o.looksAt ops,slotOf ops a0 sl (fun j=>L.getD j false) t ops.size=slotOf ops a0 sl (fun _=>true) t i:=fun t ht=>by
  rw[zaU ops a0 (i:=i) ops.size (Nat.le_of_lt hil) fun j h1 h2 h3=>?_]
  ·refine zaw ops a0 i fun j hj hd=>?_
   have hp:ops[j]? = some ops[j]:=Array.getElem?_eq_getElem (by omega);have hd':ops[j].dst=some t:=by simpa[dstOf,hp] using hd
   rcases early j _ hj hp with h | h
   ·exact h
   ·exact absurd rfl (zfp ht hd' h)
  ·have hp:ops[j]? = some ops[j]:=Array.getElem?_eq_getElem h2
   have hd':ops[j].dst=some t:=by simpa[dstOf,hp] using h3
   by_cases hij:i=j
   ·subst hij;exact hunf
   ·rcases late j _ (by omega) hp with h | h
    ·exact h
    ·exact absurd rfl (zeB ht hd' h)
 have hag:=hop a w hm.frame fun t ht=>by
  have:=hm.slots t (hlook o ho t ht);rw[hlooks t ht] at this;exact this
 have after:∀ v w',(sl i).ok v w'→M.r w w'→Mid ops F a0 sl (L.setIfInBounds i true) (a.put o.dst v) w':=fun v w' hv he=>by
  have hsz:(a.put o.dst v).tmps.size=a0.tmps.size:=by cases o.dst <;> simp[Act.put,hm.tmps]
  refine⟨by simp[hm.size],fun j p hj hp e hep hb=>?_,hF _ _ he hm.frame,hsz,by cases o.dst <;> simp[Act.put,hm.defers],fun t htn=>?_⟩
  ·by_cases hji:i=j
   ·subst hji
    rw[ho] at hp;injection hp with hp;subst hp
    exact getD_set_true (hall e hep hb)
   ·rw[getD_set_ne false hji] at hj
    exact getD_set_true (hm.down j p hj hp e hep hb)
  ·by_cases hdt:o.dst=some t
   ·have e1:slotOf ops a0 sl (fun j=>(L.setIfInBounds i true).getD j false) t ops.size=sl i:=by
     rw[zaU ops a0 (i:=i+1) ops.size hil fun j h1 h2 h3=>?_]
     ·unfold slotOf
      rw[if_pos ⟨by simp[hiL],by simp[dstOf,ho,hdt]⟩]
     ·have hp:ops[j]? = some ops[j]:=Array.getElem?_eq_getElem h2
      have hd':ops[j].dst=some t:=by simpa[dstOf,hp] using h3
      show(L.setIfInBounds i true).getD j false=false
      rw[getD_set_ne false (by omega)];rcases late j _ (by omega) hp with h | h
      ·exact h
      ·exact absurd hd' ((Oper.apart_spec h).2.1 t hdt)
    rw[e1];have:(a.put o.dst v).tmps.getD t undef=v:=by
     have:t<a.tmps.size:=by rw[hm.tmps];exact htn
     simp[Act.put,hdt,this]
    rw[this];exact hv
   ·have e1:slotOf ops a0 sl (fun j=>(L.setIfInBounds i true).getD j false) t ops.size=slotOf ops a0 sl (fun j=>L.getD j false) t ops.size:=by
     refine zaw ops a0 _ fun j hj hd=>getD_set_ne false ?_;rintro rfl;exact hdt (by simpa[dstOf,ho] using hd)
    rw[e1];have e2:(a.put o.dst v).tmps.getD t undef=a.tmps.getD t undef:=by
     cases hd:o.dst with
     | none=>rfl
     | some d=>
      have hne:d≠t:=fun e=>hdt (by rw[hd,e]);simp[Act.put,Array.getElem?_setIfInBounds_ne hne]
    rw[e2];have hk:=hm.slots t htn;have hsteady:(slotOf ops a0 sl (fun j=>L.getD j false) t ops.size).steady M:=by
     have:∀ k,(slotOf ops a0 sl (fun j=>L.getD j false) t k).steady M:=by
      intro k
      induction k with
      | zero=>exact trivial
      | succ k ih=>
       unfold slotOf
       split
       ·rename_i hh
        cases hok:ops[k]? with
        | none=>simp[dstOf,hok] at hh
        | some p=>exact hst k p hok
       ·exact ih
     exact this _
    exact Slot.ok_ext hsteady he hk
 unfold wpOp;simp only[ho]
 split
 ·rename_i hw
  rw[if_pos hw] at hag;exact .inl (Gives.wp hag fun v w' ⟨h1,h2⟩=>after v w' h1 h2)
 ·rename_i hw
  rw[if_neg hw] at hag;exact after undef w hag (M.refl w)
def zbi (ops:Array Oper) (n:Nat):Bool:=ops.all fun o=>(o.looksAt ops).all fun t=>decide (t<n)
theorem zdK {n:Nat} (h:zbi ops n=true) {i:Nat} {o:Oper} (ho:ops[i]? = some o):∀ t∈o.looksAt ops,t<n:=fun t ht=>by
 have:=Array.all_eq_true_iff_forall_mem.1 h o (Array.mem_of_getElem? ho);simpa using List.all_eq_true.1 this t ht
def ancs (ops:Array Oper):Nat→List Nat→List Nat
 | 0,S=>S
 | k+1,S=>ancs ops k (if S.contains k then(match ops[k]? with | some o=>(o.after.toList.filter (Region.binds .any)).map (·.on)++S | none=>S) else S)
theorem zca {L:Nat→Bool} (hd:∀ i o,L i=true→ops[i]? = some o → ∀ e∈o.after,Region.binds .any e=true→L e.on=true) :
  ∀ (k:Nat) (S:List Nat),(∀ j∈S,L j=true) → ∀ j∈ancs ops k S,L j=true
 | 0,_,h=>h
 | k+1,S,h=>by
  unfold ancs;refine zca hd k _ ?_
  split
  ·rename_i hc
   have hk:L k=true:=h k (by simpa using hc)
   split
   ·rename_i o ho
    intro j hj;rcases List.mem_append.1 hj with hj | hj
    ·obtain⟨e,he,rfl⟩:=List.mem_map.1 hj
     obtain⟨h1,h2⟩:=List.mem_filter.1 he;exact hd k o hk ho e (Array.mem_toList_iff.1 h1) h2
    ·exact h j hj
   ·exact h
  ·exact h
def za3 (ops:Array Oper) (z:Nat):Bool:=
 match ops[z]? with
 | some o=>(List.range z).all fun j=>(ancs ops z ((o.after.toList.filter (Region.binds .any)).map (·.on))).contains j
 | none=>true
theorem Mid.any {sl:Nat→Slot} {z:Nat} (hF:zae M F) (hg:zaV ops a0.tmps.size=true) (hlk:zbi ops a0.tmps.size=true) (hz:ops.size≤z+1) (hlast:za3 ops z=true)
  (hst:∀ j o,ops[j]? = some o→(sl j).steady M)
  (hsl:∀ j o,j<z→ops[j]? = some o→OpOK P ops M F o (fun t=>slotOf ops a0 sl (fun _=>true) t j) (sl j)) {Q:Exit→Act→World→Prop}
  (hQ:∀ L a w,(∀ i,i<ops.size→i<z→L.getD i false=true)→L.getD z false=false→Mid ops F a0 sl L a w→wpOp P ops Q z (fun a' w'=>Q .normal a' w') a w) :
  ∀ (fuel:Nat) (L:Array Bool) (a:Act) (w:World),L.getD z false=false→Mid ops F a0 sl L a w→((List.range ops.size).filter fun i=>!L.getD i false).length≤fuel→wpAny P .any ops Q fuel L a w:=by
 have none_ready:∀ L:Array Bool,L.size=ops.size→(∀ i,i<ops.size→L.getD i false=true)→Region.ready .any ops L=[]:=by
  intro L hs hall;rcases hr:Region.ready .any ops L with _ | ⟨i,r⟩
  ·rfl
  ·have hi:i∈Region.ready .any ops L:=by rw[hr];simp
   obtain⟨hun,o,ho,_⟩:=mem_ready.1 hi;have hil:i<ops.size:=(Array.getElem?_eq_some_iff.1 ho).1;have hiL:i<L.size:=by rw[hs];exact hil
   have:=hall i hil;simp[hiL] at hun this;rw[hun] at this;cases this
 have full:∀ L a w,Mid ops F a0 sl L a w→Region.ready .any ops L=[] → ∀ i,i<ops.size→L.getD i false=true:=by
  intro L a w hm hr i
  induction i using Nat.strongRecOn with
  | _ i ih=>
   intro hi;cases hL:L.getD i false with
   | true=>rfl
   | false=>
    have ho:ops[i]? = some ops[i]:=Array.getElem?_eq_getElem hi;have:i∈Region.ready .any ops L:=mem_ready.2 ⟨by
     have hiL:i<L.size:=by rw[hm.size];exact hi
     simp[hiL] at hL⊢;exact hL,_,ho,fun e he hb=>by
      have hlt:=(zaB hg ho).1 e he hb;exact ih e.on hlt (by omega)⟩
    rw[hr] at this;cases this
 intro fuel
 induction fuel with
 | zero=>
  intro L a w hz0 hm hc;have hall:∀ i,i<ops.size→L.getD i false=true:=fun i hi=>by
   cases hL:L.getD i false with
   | true=>rfl
   | false=>
    have hmem:i∈(List.range ops.size).filter fun i=>!L.getD i false:=List.mem_filter.2 ⟨List.mem_range.2 hi,by simp only[hL];rfl⟩;have:=List.length_pos_of_mem hmem;omega
  refine⟨none_ready L hm.size hall,?_⟩;have hzn:ops[z]? = none:=by
   rcases Nat.lt_or_ge z ops.size with h | h
   ·rw[hall z h] at hz0;cases hz0
   ·exact Array.getElem?_eq_none h
  have:=hQ L a w (fun i hi _=>hall i hi) hz0 hm;simpa[wpOp,hzn] using this
 | succ fuel ih=>
  intro L a w hz0 hm hc;refine⟨fun hr=>?_,fun i hi=>?_⟩
  ·have hall:=full L a w hm hr
   have hzn:ops[z]? = none:=by
    rcases Nat.lt_or_ge z ops.size with h | h
    ·rw[hall z h] at hz0;cases hz0
    ·exact Array.getElem?_eq_none h
   have:=hQ L a w (fun i hi _=>hall i hi) hz0 hm;simpa[wpOp,hzn] using this
  ·obtain⟨hun,o,ho,hready⟩:=mem_ready.1 hi
   have hil:i<ops.size:=(Array.getElem?_eq_some_iff.1 ho).1;have hiL:i<L.size:=by rw[hm.size];exact hil
   by_cases hiz:i=z
   ·subst hiz
    have hanc:=zca (ops:=ops) (L:=fun j=>L.getD j false) hm.down i ((o.after.toList.filter (Region.binds .any)).map (·.on)) (fun j hj=>by
     obtain⟨e,he,rfl⟩:=List.mem_map.1 hj;obtain⟨h1,h2⟩:=List.mem_filter.1 he;exact hready e (Array.mem_toList_iff.1 h1) h2)
    have hall:∀ j,j<i→L.getD j false=true:=fun j hj=>by
     unfold za3 at hlast;simp only[ho] at hlast;exact hanc j (by simpa using List.all_eq_true.1 hlast j (List.mem_range.2 hj))
    refine wpOp_mono (fun a' w' h'=>?_) (hQ L a w (fun j _ hj=>hall j hj) hz0 hm);have hn:Region.ready .any ops (L.setIfInBounds i true)=[]:=none_ready _ (by simp[hm.size]) fun j hj=>by
     by_cases hji:i=j
     ·subst hji;simp[hiL]
     ·rw[getD_set_ne false hji];exact hall j (by omega)
    cases fuel with
    | zero=>exact⟨hn,h'⟩
    | succ fuel=>exact⟨fun _=>h',fun j hj=>by rw[hn] at hj;cases hj⟩
   ·refine wpOp_mono (fun a' w' hm'=>ih _ _ _ (by rw[getD_set_ne false hiz];exact hz0) hm' ?_) (hm.step hF hg hst (fun p hp=>hsl i p (by omega) hp) hi fun o ho=>zdK hlk ho)
    have hlt:((List.range ops.size).filter fun j=>!(L.setIfInBounds i true).getD j false).length<((List.range ops.size).filter fun j=>!L.getD j false).length:=by
     have hmem:i∈(List.range ops.size).filter fun j=>!L.getD j false:=List.mem_filter.2 ⟨List.mem_range.2 hil,by simp[hiL] at hun⊢;exact hun⟩;have hsub:((List.range ops.size).filter fun j=>!(L.setIfInBounds i true).getD j false)=((List.range ops.size).filter fun j=>!L.getD j false).filter fun j=>j != i:=by
      rw[List.filter_filter];refine List.filter_congr fun j _=>?_;by_cases hji:i=j
      ·subst hji;simp[hiL]
      ·have hb:(j != i)=true:=by simp;omega
       rw[getD_set_ne false hji,hb,Bool.true_and]
     rw[hsub];refine List.length_filter_lt_length_iff_exists.2 ⟨i,hmem,by simp⟩
    omega
def zeQ (w0:World) (a0:Act) (Q:Exit→Act→World→Prop) (g:Nat→Slot):Prop:=
 ∀ a w,Ext w0 w→a.tmps.size=a0.tmps.size→a.defers=a0.defers→(∀ t,t<a0.tmps.size→(g t).ok (a.tmps.getD t undef) w)→Q .normal a w
theorem Mid.end_ {g:Nat→Slot} {sl:Nat→Slot} {z:Nat} (hz:ops.size≤z+1) (he:∀ t,g t=slotOf ops a0 sl (fun _=>true) t z) {L:Array Bool} {a:Act} {w:World} (hall:∀ i,i<ops.size→i<z→L.getD i false=true) (hz0:L.getD z false=false) (hm:Mid ops F a0 sl L a w) :
  ∀ t,t<a0.tmps.size→(g t).ok (a.tmps.getD t undef) w:=fun t ht=>by
 have:=hm.slots t ht;have e:slotOf ops a0 sl (fun j=>L.getD j false) t ops.size=slotOf ops a0 sl (fun _=>true) t z:=by
  rcases Nat.lt_or_ge z ops.size with h | h
  ·have h':ops.size=z+1:=by omega
   rw[zaU ops a0 (i:=z) ops.size (by omega) fun j h1 h2 _=>by
    have:j=z:=by omega
    subst this;exact hz0]
   exact zaw ops a0 z fun j hj _=>hall j (by omega) hj
  ·rw[zaw ops a0 (m':=fun _=>true) ops.size fun j hj _=>hall j hj (by omega)]
   have hz':∀ n,ops.size≤n→slotOf ops a0 sl (fun _=>true) t n=slotOf ops a0 sl (fun _=>true) t ops.size:=fun n hn=>by
    obtain⟨k,rfl⟩:=Nat.le.dest hn;clear hn
    induction k with
    | zero=>rfl
    | succ k ih=>
     rw[show ops.size+(k+1)=(ops.size+k)+1 from rfl]
     conv=>lhs;unfold slotOf
     rw[if_neg (by rintro⟨_,h⟩;simp[dstOf] at h),ih]
   exact(hz' z h).symm
 rw[e,←he t] at this;exact this
theorem Mid.start {w:World} {sl:Nat→Slot} (hw:F w):Mid ops F a0 sl (Array.replicate ops.size false) a0 w:=by
 have hf:∀ j,(Array.replicate ops.size false).getD j false=false:=fun j=>by simp[Array.getElem?_replicate];split <;> rfl
 refine⟨by simp,fun i o h=>(by rw[hf] at h;cases h),hw,rfl,rfl,fun t _=>?_⟩;have:slotOf ops a0 sl (fun j=>(Array.replicate ops.size false).getD j false) t ops.size=.val (a0.tmps.getD t undef):=by
  rw[zaU ops a0 (i:=0) ops.size (Nat.zero_le _) fun j _ _ _=>hf j];rfl
 rw[this];rfl
theorem zc4 (n z:Nat):(Array.replicate n false).getD z false=false:=by simp[Array.getElem?_replicate];split <;> rfl
theorem zk5 {Q:Exit→Act→World→Prop} {w0 w:World} (hg:zaV ops a0.tmps.size=true) (hlk:zbi ops a0.tmps.size=true)
  (h:AW P ops Rel.ext (Ext w0) (zeQ w0 a0 Q) ops.toList (fun t=>.val (a0.tmps.getD t undef))) (hw:Ext w0 w) (fuel:Nat) (hf:((List.range ops.size).filter fun i=>!(Array.replicate ops.size false).getD i false).length≤fuel):wpAny P .any ops Q fuel (Array.replicate ops.size false) a0 w:=by
 obtain⟨sl,env,_,_,hsl,he,hR⟩:=AW.slots (a0:=a0) (ops:=ops) ops.toList 0 _ (fun _=>.val undef) (by simp) (fun _=>rfl) h;simp only[Nat.zero_add,Array.length_toList] at he hsl;have hlt:∀ j o,ops[j]? = some o→j<ops.size:=fun j o ho=>(Array.getElem?_eq_some_iff.1 ho).1;have hzn:ops[ops.size]? = none:=Array.getElem?_eq_none (Nat.le_refl _);refine Mid.any (z:=ops.size) (M:=Rel.ext) (Ext.steady w0) hg hlk (by omega) (by unfold za3;rw[hzn]) (fun j o ho=>(hsl j o (Nat.zero_le _) (hlt j o ho) ho).1) (fun j o hj ho=>(hsl j o (Nat.zero_le _) hj ho).2) (fun L a w' hall hz0 hm=>?_) fuel _ _ _ (zc4 _ _) (Mid.start hw) hf;simp only[wpOp,hzn]
 exact hR a w' hm.frame hm.tmps hm.defers (Mid.end_ (by omega) he hall hz0 hm)
theorem zgG {id:Nat} {Q:Exit→Act→World→Prop} {w:World} (hm:P.follows .mixedOrders=true) (hg:zaV ops a0.tmps.size=true) (hlk:zbi ops a0.tmps.size=true)
  (h:AW P ops Rel.ext (Ext w) (zeQ w a0 Q) ops.toList (fun t=>.val (a0.tmps.getD t undef))):(Code.region id ops true).wp P Q a0 w:=
 wp_region_any hm (zk5 (w:={ w with drawn:=w.drawn+1 }) hg hlk h (Ext.drew w) _ (Nat.le_trans (List.length_filter_le _ _) (by simp)))
def zeu (P:Program) (ops:Array Oper) (F:World→Prop) (a0:Act) (Q:Exit→Act→World→Prop) (z:Oper) (g:Nat→Slot):Prop:=
 ∀ a w,F w→a.tmps.size=a0.tmps.size→a.defers=a0.defers→(∀ t,t<a0.tmps.size→(g t).ok (a.tmps.getD t undef) w)→wpList P ops Q [z] a w
theorem zdE {id:Nat} {Q:Exit→Act→World→Prop} {w:World} (M:Rel) (F:World→Prop) (hF:zae M F) (hF0:F { w with drawn:=w.drawn+1 }) {l:List Oper} {z:Oper} (hm:P.follows .mixedOrders=true) (hg:zaV (l++[z]).toArray a0.tmps.size=true) (hlk:zbi (l++[z]).toArray a0.tmps.size=true)
  (hlast:za3 (l++[z]).toArray l.length=true)
  (h:AW P (l++[z]).toArray M F (zeu P (l++[z]).toArray F a0 Q z) l (fun t=>.val (a0.tmps.getD t undef))):(Code.region id (l++[z]).toArray true).wp P Q a0 w:=by
 obtain⟨sl,env,_,hfar,hsl,he,hR⟩:=AW.slots (a0:=a0) (ops:=(l++[z]).toArray) l 0 _ (fun _=>.val undef) (fun j o hj=>by simpa[List.getElem?_append_left (List.getElem?_eq_some_iff.1 hj).1] using hj) (fun _=>rfl) h;simp only[Nat.zero_add] at he hsl hfar;have hsz:(l++[z]).toArray.size=l.length+1:=by simp
 have hzs:(l++[z]).toArray[l.length]? = some z:=by simp
 have hlt:∀ j o,(l++[z]).toArray[j]? = some o→j<l.length+1:=fun j o ho=>by have:=(Array.getElem?_eq_some_iff.1 ho).1;omega
 refine wp_region_any hm (Mid.any (z:=l.length) (M:=M) hF hg hlk (by omega) hlast (fun j o ho=>?_) (fun j o hj ho=>(hsl j o (Nat.zero_le _) hj ho).2) (fun L a w' hall hz0 hm=>?_) _ _ _ _ (zc4 _ _) (Mid.start hF0) ?_)
 ·rcases Nat.lt_or_ge j l.length with hj | hj
  ·exact(hsl j o (Nat.zero_le _) hj ho).1
  ·rw[hfar j hj];exact trivial
 ·have:=hR a w' hm.frame hm.tmps hm.defers (Mid.end_ (by omega) he hall hz0 hm)
  simpa[wpOp,hzs,wpList] using this
 ·exact Nat.le_trans (List.length_filter_le _ _) (by simp)
end
structure Tail where
 objs:Array Obj
 drawn:Nat
instance:Inhabited Tail:=⟨⟨#[],0⟩⟩
def wext (w:World) (E:Tail):World:={ w with heap:=w.heap++E.objs,drawn:=E.drawn }
theorem Ext.of_wext (w:World) (E:Tail):Ext w (wext w E):=
 ⟨rfl,rfl,rfl,by simp[wext],fun k hk=>by simp[wext,Array.getElem?_append,hk]⟩
theorem Ext.wext {w w':World} (h:Ext w w'):∃ E,w'=wext w E:=by
 refine⟨⟨w'.heap.extract w.heap.size,w'.drawn⟩,?_⟩;obtain⟨h1,h2,h3,h4,h5⟩:=h;obtain⟨hp,tp,dr,os,out⟩:=w;obtain⟨hp',tp',dr',os',out'⟩:=w';simp only at h1 h2 h3 h4 h5;subst h1 h2 h3;have hh:hp'=hp++hp'.extract hp.size:=by
  refine Array.ext (by simp;omega) fun i h6 h7=>?_;by_cases hi:i<hp.size
  ·have:=h5 i hi
   simp only[Array.getElem?_eq_getElem h6,Array.getElem?_eq_getElem hi,Option.some.injEq] at this;rw[this,Array.getElem_append,dif_pos hi]
  ·rw[Array.getElem_append,dif_neg hi]
   simp only[Array.getElem_extract]
   congr 1;omega
 simp only[Go.Proofs.YtofjpdgojoppbaaGreatDoor.wext,World.mk.injEq,and_true,true_and];exact hh
theorem zji (w:World) (E:Tail) (b o:Nat) (s:Option Nat) (h:b<w.heap.size):(wext w E).cell? ⟨b,o,s⟩=w.cell? ⟨b,o,s⟩:=(Ext.of_wext w E).rule b o s h
theorem zgY (w:World) (E:Tail) (b o:Nat) (s:Option Nat) (h:b<w.heap.size):(wext w E).frozen? ⟨b,o,s⟩=w.frozen? ⟨b,o,s⟩:=(Ext.of_wext w E).ruleF b o s h
theorem zkB (w:World) (E:Tail) (b:Nat) (h:b<w.heap.size):(wext w E).heap[b]? = w.heap[b]?:=(Ext.of_wext w E).block b h
attribute [go_sem] zji zgY zkB
abbrev Later (w:World):World→Prop:=fun w'=>∃ E,w'=wext w E
abbrev Anys:=List (Nat×(Value→World→Prop))
def zm:Anys→Nat→Option (Value→World→Prop)
 | [],_=>none
 | (s,φ)::r,t=>if s=t then some φ else zm r t
def zT (b:Act) (A:Anys) (t:Nat):Slot:=
 match zm A t with
 | some φ=>.any φ
 | none=>.val (b.tmps.getD t undef)
def zbX (A:Anys) (ts:List Nat):Bool:=ts.all fun t=>(zm A t).isNone
def dstB (A:Anys) (n:Nat) (d:Option Nat):Bool:=match d with | some d=>(zm A d).isNone&&decide (d<n) | none=>true
def zl (K:Act→World→Prop) (w:World):Anys→Act→Prop
 | [],b=>K b w
 | (t,φ)::r,b=>∀ x,φ x w→zl K w r (b.put (some t) x)
section
variable {P:Program} {ops:Array Oper} {M:Rel} {w0:World} {R:(Nat→Slot)→Prop} {a0:Act}
theorem zbt {b:Act} {A:Anys} {d:Option Nat} {v:Value} (h:dstB A b.tmps.size d=true):zT (b.put d v) A=upd (zT b A) d (.val v):=by
 funext t
 cases d with
 | none=>rfl
 | some d=>
  simp only[dstB,Bool.and_eq_true,decide_eq_true_eq] at h;by_cases hdt:d=t
  ·subst hdt
   have:zm A d=none:=by simpa using h.1
   simp[zT,upd,this,Act.put,h.2]
  ·simp only[zT,upd,if_neg hdt]
   cases zm A t with
   | some φ=>rfl
   | none=>simp[Act.put,Array.getElem?_setIfInBounds_ne hdt]
theorem zb2 {b:Act} {A:Anys} {d:Nat} {φ:Value→World→Prop}:zT b ((d,φ)::A)=upd (zT b A) (some d) (.any φ):=by
 funext t
 by_cases hdt:d=t
 ·subst hdt;simp[zT,zm,upd]
 ·simp[zT,zm,upd,hdt]
theorem zeX {b:Act} {A:Anys} {t:Nat} {v:Value} {w:World} (hap:(zm A t).isNone=true) (h:(zT b A t).ok v w):v=b.tmps.getD t undef:=by
 simp only[zT] at h;cases hg:zm A t with
 | none=>rw[hg] at h;exact h
 | some φ=>rw[hg] at hap;cases hap
theorem zcE {o:Oper} {a b:Act} {A:Anys} {w:World} (hsel:(match o.op with | .select ..=>false | _=>true)=true) (hap:zbX A (o.looksAt ops)=true)
  (hl:∀ t∈o.looksAt ops,(zT b A t).ok (a.tmps.getD t undef) w):execOp a.eval o=execOp b.eval o:=by
 refine execOp_congr o (fun cs b hs=>by rw[hs] at hsel;cases hsel) fun x hx=>?_;cases x with
 | tmp t=>
  have ht:t∈o.looksAt ops:=List.mem_append_left _ (List.mem_filterMap.2 ⟨.tmp t,by simpa using hx,rfl⟩);exact zeX (List.all_eq_true.1 hap t ht) (hl t ht)
 | _=>rfl
def zb4 (ops:Array Oper) (g:Nat→Value) (j:Nat):Option Bool:=
 match ((ops[j]?).bind (·.dst)).map g with
 | some (.bool b)=>some b
 | _=>none
theorem za5 (a:Act) (j:Nat):yielded ops a.tmps j=zb4 ops (fun t=>a.tmps.getD t undef) j:=by
 unfold yielded zb4;cases ht:(ops[j]?).bind (·.dst) with
 | none=>rfl
 | some t=>
  simp only[Option.bind_some,Option.map_some];by_cases hlt:t<a.tmps.size
  ·simp only[Array.getD_eq_getD_getElem?,Array.getElem?_eq_getElem hlt,Option.getD_some]
   rfl
  ·simp[Array.getElem?_eq_none (Nat.le_of_not_lt hlt),undef]
theorem zbr {o:Oper} {a b:Act} {A:Anys} {w:World} (hap:zbX A (o.looksAt ops)=true)
  (hl:∀ t∈o.looksAt ops,(zT b A t).ok (a.tmps.getD t undef) w):Region.wanted o (yielded ops a.tmps)=Region.wanted o (yielded ops b.tmps):=by
 unfold Region.wanted;cases hg:o.guard with
 | none=>rfl
 | some gw=>
  obtain⟨j,want⟩:=gw;have:yielded ops a.tmps j=yielded ops b.tmps j:=by
   rw[za5,za5];unfold zb4;cases ht:(ops[j]?).bind (·.dst) with
   | none=>rfl
   | some t=>
    have hm:t∈o.looksAt ops:=by simp[Oper.looksAt,hg,ht]
    simp only[Option.map_some];rw[zeX (List.all_eq_true.1 hap t hm) (hl t hm)]
  simp only[this]
def AWq (P:Program) (ops:Array Oper) (M:Rel) (w0:World) (R:(Nat→Slot)→Prop) (l:List Oper) (b:Act) (A:Anys):Prop:=AW P ops M (Ext w0) R l (zT b A)
def zdJ:Op→Bool
 | .move _ | .assign _ | .pick .. | .alloc _ | .box .. | .build .. | .buildSlice .. | .load .. | .binOp .. | .unOp .. | .convert .. | .makeInterface .. | .makeFunc .. | .makeMap .. | .makeSlice .. | .slice .. | .fieldAddr .. | .field ..
 | .indexAddr .. | .index .. | .lookup .. | .typeAssert .. | .extract .. | .nilCheck _=>true
 | .call { callee:=.builtin .len,.. } | .call { callee:=.builtin .cap,.. } | .call { callee:=.builtin .max,.. } | .call { callee:=.builtin .min,.. } | .call { callee:=.builtin .append,.. }=>true
 | _=>false
def NoEnter (s:Sem Next):Prop:=∀ P w f args w',s.run P w≠.ok (.enter f args) w'
theorem NoEnter.bind {α:Type} {s:Sem α} {k:α→Sem Next} (h:∀ x,NoEnter (k x)):NoEnter (s >>= k):=fun P w f args w'=>by
 rw[Sem.run_bind];cases s.run P w with
 | ok x w1=>exact h x P w1 f args w'
 | halt h w1=>intro e;cases e
theorem NoEnter.pureV {v:Value}:NoEnter (pure (.value v)):=fun P w f args w' e=>by
 rw[Sem.run_pure] at e;cases e
theorem NoEnter.v {s:Sem Value}:NoEnter (do pure (.value (←s))):=NoEnter.bind fun _=>NoEnter.pureV
theorem zb0 {v:Value}:NoEnter (goPanic v):=fun P w f args w' h=>by
 simp[goPanic,Sem.run] at h
theorem zdm {e:RuntimeError}:NoEnter (runtimePanic e):=by
 unfold runtimePanic;refine NoEnter.bind fun p=>?_;cases e <;> first | exact zb0 | exact NoEnter.bind fun _=>zb0 | exact NoEnter.bind fun _=>NoEnter.bind fun _=>zb0
theorem ziQ {ρ:Operand→Value} {o:Oper} (h:zdJ o.op=true):NoEnter (execOp ρ o):=by
 obtain⟨dst,op,type,pos,after,guard⟩:=o;cases op <;> simp only[zdJ] at h
 case call c=>
  obtain⟨callee,args,ats⟩:=c;cases callee with
  | value f=>simp at h
  | invoke r m=>simp at h
  | builtin b=>cases b <;> first | (simp at h;done) | exact NoEnter.v
 case nilCheck x=>
  simp only[execOp]
  split <;> first | exact NoEnter.pureV | exact zdm | skip
  split <;> first | exact NoEnter.pureV | exact zdm | skip
  refine NoEnter.bind fun _=>NoEnter.bind fun _=>?_
  split
  ·exact NoEnter.bind fun _=>NoEnter.pureV
  ·exact NoEnter.pureV
 all_goals first | (cases h;done) | exact NoEnter.v | exact NoEnter.pureV | exact NoEnter.bind fun _=>NoEnter.pureV
theorem AWq.val {o:Oper} {rest:List Oper} {b:Act} {A:Anys} (hap:zbX A (o.looksAt ops)=true) (hd:dstB A b.tmps.size o.dst=true) (hne:zdJ o.op=true) (hw:Region.wanted o (yielded ops b.tmps)=true)
  (h:∀ K:Act→Prop,(∀ a,AWq P ops M w0 R rest a A→K a)→o.quiet P b (Later w0) K):AWq P ops M w0 R (o::rest) b A:=by
 obtain⟨v,h1,h2⟩:=h (fun a=>AWq P ops M w0 R rest a A) (fun _ h=>h);have hsel:(match o.op with | .select ..=>false | _=>true)=true:=by cases ho:o.op <;> simp_all[zdJ]
 refine⟨.val v,trivial,fun a w hF hl=>?_,by rw[←zbt hd];exact h2⟩;rw[zbr hap hl,if_pos hw,zcE hsel hap hl];have h3:=h1 w hF.wext;unfold Oper.quietAt at h3;have hn:=ziQ (ρ:=b.eval) hne P w;generalize (execOp b.eval o).run P w=r at h3 hn;cases r with
 | ok n w'=>
  cases n <;> simp only[Oper.quietUpon] at h3 <;> simp only[Gives]
  case value u=>obtain⟨rfl,rfl⟩:=h3;exact⟨rfl,M.refl _⟩
  case skip=>obtain⟨rfl,rfl⟩:=h3;exact⟨rfl,M.refl _⟩
  case enter f args=>exact absurd rfl (hn f args w')
 | halt x w'=>exact h3.elim
theorem AWq.skip {o:Oper} {rest:List Oper} {b:Act} {A:Anys} (hap:zbX A (o.looksAt ops)=true) (hd:dstB A b.tmps.size o.dst=true) (hw:Region.wanted o (yielded ops b.tmps)=false)
  (h:AWq P ops M w0 R rest (b.put o.dst undef) A):AWq P ops M w0 R (o::rest) b A:=by
 refine⟨.val undef,trivial,fun a w hF hl=>?_,by rw[←zbt hd];exact h⟩;rw[zbr hap hl,if_neg (by rw[hw];exact Bool.false_ne_true)];exact rfl
theorem zbz {f : FuncId} {fn : Func} {args : Array Value} {w : World} (hf : P.funcs[f]? = some fn) (h1 : (fn.name == "runtime.NumGoroutine") = false) (h2 : fn.body.isNone = false) :
  (callFunc f args).run P w=.ok (.enter f args) w:=by
 have h1' : ¬ fn.name = "runtime.NumGoroutine" := by simpa using h1
 have h2':¬ fn.body=none:=fun h=>by rw[h] at h2;cases h2
 unfold callFunc;simp[Sem.run_bind,program,Sem.run,hf,h1',h2',Result.andThen]
def zh (b:Act) (A:Anys) (w:World):List Operand→(List Value→Prop)→Prop
 | [],K=>K []
 | .tmp t::xs,K=>
  match zm A t with
  | some φ=>∀ y,φ y w→zh b A w xs (fun ys=>K (y::ys))
  | none=>zh b A w xs (fun ys=>K (b.tmps.getD t undef::ys))
 | .const v::xs,K=>zh b A w xs (fun ys=>K (v::ys))
 | .global g::xs,K=>zh b A w xs (fun ys=>K (.pointer (some ⟨g,0,none⟩)::ys))
 | .func f::xs,K=>zh b A w xs (fun ys=>K (.func (.func f) #[] #[]::ys))
theorem zaX {a b:Act} {A:Anys} {w:World}:∀ (xs:List Operand) (K:List Value→Prop),(∀ t,.tmp t∈xs→(zT b A t).ok (a.tmps.getD t undef) w)→zh b A w xs K→K (xs.map a.eval)
 | [],_,_,h=>h
 | .tmp t::xs,K,hl,h=>by
  have h1:=hl t (by simp);simp only[zT] at h1;simp only[zh] at h;cases hg:zm A t with
  | some φ=>
   rw[hg] at h h1;exact zaX xs (fun ys=>K (_::ys)) (fun t ht=>hl t (by simp[ht])) (h _ h1)
  | none=>
   rw[hg] at h h1;have e:a.tmps.getD t undef=b.tmps.getD t undef:=h1;rw[←e] at h;exact zaX xs (fun ys=>K (_::ys)) (fun t ht=>hl t (by simp[ht])) h
 | .const v::xs,K,hl,h=>zaX xs (fun ys=>K (_::ys)) (fun t ht=>hl t (by simp[ht])) h
 | .global g::xs,K,hl,h=>zaX xs (fun ys=>K (_::ys)) (fun t ht=>hl t (by simp[ht])) h
 | .func f::xs,K,hl,h=>zaX xs (fun ys=>K (_::ys)) (fun t ht=>hl t (by simp[ht])) h
theorem zdc {ρ:Operand→Value} {o:Oper} {f:FuncId} {xs:List Operand} {ats:Array TypeId} (ho:o.op=.call { callee:=.value (.func f),args:=xs.toArray,argTypes:=ats }) (hρ:ρ (.func f)=.func (.func f) #[] #[]) :
  execOp ρ o=callFunc f (xs.map ρ).toArray:=by
 obtain⟨dst,op,type,pos,after,guard⟩:=o;simp only at ho;subst ho;simp only[execOp,resolve,hρ,Deferred.ofValue,List.map_toArray]
 show callFunc f (#[]++(xs.map ρ).toArray++#[])=_
 simp
theorem AWq.call {o:Oper} {rest:List Oper} {b:Act} {A:Anys} {f:FuncId} {fn:Func} {xs:List Operand} {ats:Array TypeId} (ho:o.op=.call { callee:=.value (.func f),args:=xs.toArray,argTypes:=ats })
  (hf : P.funcs[f]? = some fn) (h1 : (fn.name == "runtime.NumGoroutine") = false) (h2 : fn.body.isNone = false)
  (hg:(match o.guard with | some (j,_)=>zbX A (((ops[j]?).bind (·.dst)).toList) | none=>true)=true) (hd:dstB A b.tmps.size o.dst=true) (hw:Region.wanted o (yielded ops b.tmps)=true)
  (h:∃ v,(∀ w,Ext w0 w→zh b A w xs fun ys=>Calls P f ys.toArray w (Ret v w))∧AWq P ops M w0 R rest (b.put o.dst v) A):AWq P ops M w0 R (o::rest) b A:=by
 obtain⟨v,hc,hr⟩:=h;refine⟨.val v,trivial,fun a w hF hl=>?_,by rw[←zbt hd];exact hr⟩;have hops:∀ t,.tmp t∈xs→(zT b A t).ok (a.tmps.getD t undef) w:=fun t ht=>
  hl t (List.mem_append_left _ (List.mem_filterMap.2 ⟨.tmp t,by simp[ho,Op.operands,Call.operands,ht],rfl⟩))
 have hwa:Region.wanted o (yielded ops a.tmps)=true:=by
  rw[←hw];unfold Region.wanted;cases hgd:o.guard with
  | none=>rfl
  | some gw=>
   obtain⟨j,want⟩:=gw;have:yielded ops a.tmps j=yielded ops b.tmps j:=by
    rw[za5,za5];unfold zb4;cases ht:(ops[j]?).bind (·.dst) with
    | none=>rfl
    | some t=>
     have hm:t∈o.looksAt ops:=by simp[Oper.looksAt,hgd,ht]
     simp only[hgd] at hg;have:=List.all_eq_true.1 hg t (by simp[ht]);simp only[Option.map_some];rw[zeX this (hl t hm)]
   simp only[this]
 rw[if_pos hwa,zdc ho rfl,zbz hf h1 h2];exact(zmp (zaX xs _ hops (hc w hF))).mono fun _ _ ⟨v,e,h,k⟩=>⟨v,e,h,M.ofExt _ _ k⟩
theorem AWq.callQ {o:Oper} {rest:List Oper} {b:Act} {A:Anys} {f:FuncId} {fn:Func} {xs:List Operand} {ats:Array TypeId} {d:Nat} (φ:Value→World→Prop) (hφ:∀ v,zae M (φ v)) (ho:o.op=.call { callee:=.value (.func f),args:=xs.toArray,argTypes:=ats })
  (hf : P.funcs[f]? = some fn) (h1 : (fn.name == "runtime.NumGoroutine") = false) (h2 : fn.body.isNone = false)
  (hg:(match o.guard with | some (j,_)=>zbX A (((ops[j]?).bind (·.dst)).toList) | none=>true)=true) (hd:o.dst=some d) (hw:Region.wanted o (yielded ops b.tmps)=true)
  (hc:∀ w,Ext w0 w→zh b A w xs fun ys=>Calls P f ys.toArray w (RetQ φ w)) (hr:AWq P ops M w0 R rest b ((d,φ)::A)):AWq P ops M w0 R (o::rest) b A:=by
 refine⟨.any φ,hφ,fun a w hF hl=>?_,by rw[hd,←zb2];exact hr⟩;have hops:∀ t,.tmp t∈xs→(zT b A t).ok (a.tmps.getD t undef) w:=fun t ht=>
  hl t (List.mem_append_left _ (List.mem_filterMap.2 ⟨.tmp t,by simp[ho,Op.operands,Call.operands,ht],rfl⟩))
 have hwa:Region.wanted o (yielded ops a.tmps)=true:=by
  rw[←hw];unfold Region.wanted;cases hgd:o.guard with
  | none=>rfl
  | some gw=>
   obtain⟨j,want⟩:=gw;have:yielded ops a.tmps j=yielded ops b.tmps j:=by
    rw[za5,za5];unfold zb4;cases ht:(ops[j]?).bind (·.dst) with
    | none=>rfl
    | some t=>
     have hm:t∈o.looksAt ops:=by simp[Oper.looksAt,hgd,ht]
     simp only[hgd] at hg;have:=List.all_eq_true.1 hg t (by simp[ht]);simp only[Option.map_some];rw[zeX this (hl t hm)]
   simp only[this]
 rw[if_pos hwa,zdc ho rfl,zbz hf h1 h2];exact(zmq (zaX xs _ hops (hc w hF))).mono fun _ _ ⟨v,e,h,k⟩=>⟨v,e,h,M.ofExt _ _ k⟩
theorem AWq.opQ {o:Oper} {rest:List Oper} {b:Act} {A:Anys} {d:Nat} (φ:Value→World→Prop) (hφ:∀ v,zae M (φ v)) (hd:o.dst=some d)
  (h:∀ (a:Act) (w:World),Ext w0 w→(∀ t∈o.looksAt ops,(zT b A t).ok (a.tmps.getD t undef) w)→Region.wanted o (yielded ops a.tmps)=true∧Gives P (fun v w'=>φ v w'∧M.r w w') ((execOp a.eval o).run P w))
  (hr:AWq P ops M w0 R rest b ((d,φ)::A)):AWq P ops M w0 R (o::rest) b A:=by
 refine⟨.any φ,hφ,fun a w hF hl=>?_,by rw[hd,←zb2];exact hr⟩;obtain⟨hw,hg⟩:=h a w hF hl;rw[if_pos hw];exact hg
theorem AWq.opV {o:Oper} {rest:List Oper} {b:Act} {A:Anys} {d:Nat} (φ:Value→World→Prop) (hφ:∀ v,zae M (φ v)) (hd:o.dst=some d) (hap:zbX A (o.looksAt ops)=true)
  (hsel:(match o.op with | .select ..=>false | _=>true)=true) (hw:Region.wanted o (yielded ops b.tmps)=true)
  (h:∀ w,Ext w0 w→Gives P (fun v w'=>φ v w'∧M.r w w') ((execOp b.eval o).run P w)) (hr:AWq P ops M w0 R rest b ((d,φ)::A)):AWq P ops M w0 R (o::rest) b A:=
 AWq.opQ φ hφ hd (fun a w hF hl=>by rw[zbr hap hl,zcE hsel hap hl];exact⟨hw,h w hF⟩) hr
def gv (c want:Bool) (v:Value):Value:=if c=want then v else undef
theorem gv_same (c:Bool) (v:Value):gv c c v=v:=if_pos rfl
theorem gv_or (F e:Bool):(if F=true then Value.bool true else gv F false (.bool e))=.bool (F||e):=by cases F <;> rfl
theorem gv_and (F e:Bool):(if F=true then gv F true (.bool e) else Value.bool false)=.bool (F&&e):=by cases F <;> rfl
attribute [go_sem] gv_same gv_or gv_and
def zdO (n:Nat):Anys→Bool
 | []=>true
 | (t,_)::r=>decide (t<n)&&(r.all fun p=>p.1 != t)&&zdO n r
theorem zjm {A:Anys} {t:Nat} (h:∀ p∈A,p.1≠t):zm A t=none:=by
 induction A with
 | nil=>rfl
 | cons p r ih=>
  obtain⟨s,φ⟩:=p;have:s≠t:=h (s,φ) (by simp);simp only[zm,if_neg this];exact ih fun p hp=>h p (by simp[hp])
theorem zaD {K:Act→World→Prop} {w:World} {a:Act}:∀ (A:Anys) (b:Act),zdO b.tmps.size A=true→b.tmps.size=a.tmps.size→b.defers=a.defers →
  (∀ t,t<b.tmps.size→(zT b A t).ok (a.tmps.getD t undef) w)→zl K w A b→K a w
 | [],b,_,hs,hd,hb,h=>by
  have:a=b:=by
   obtain⟨at_,ad⟩:=a;obtain⟨bt,bd⟩:=b;simp only at hs hd hb;subst hd;have:bt=at_:=Array.ext hs fun i h1 h2=>by
    have:=hb i h1;simp only[zT,zm,Slot.ok] at this;simpa[h1,h2] using this.symm
   rw[this]
  rw[this];exact h
 | (t,φ)::r,b,hk,hs,hd,hb,h=>by
  simp only[zdO,Bool.and_eq_true,decide_eq_true_eq] at hk;obtain⟨⟨ht,hfar⟩,hk⟩:=hk;have hfar:∀ p∈r,p.1≠t:=fun p hp=>by simpa using List.all_eq_true.1 hfar p hp
  have h0:=hb t ht;simp only[zT,zm,if_true,Slot.ok] at h0;refine zaD r (b.put (some t) (a.tmps.getD t undef)) (by simpa[Act.put] using hk) (by simp[Act.put,hs]) (by simp[Act.put,hd]) (fun u hu=>?_) (h _ h0);simp only[Act.put,Array.size_setIfInBounds] at hu;by_cases hut:t=u
  ·subst hut
   simp only[zT,zjm hfar,Slot.ok];simp[Act.put,ht]
  ·have:=hb u hu
   simp only[zT,zm,if_neg hut] at this⊢;cases hg:zm r u with
   | some ψ=>rw[hg] at this;exact this
   | none=>
    rw[hg] at this;simp only[Slot.ok] at this⊢;rw[this];simp[Act.put,Array.getElem?_setIfInBounds_ne hut]
theorem AWq.done {Q:Exit→Act→World→Prop} {b:Act} {A:Anys} (hs:b.tmps.size=a0.tmps.size) (hd:b.defers=a0.defers) (hk:zdO b.tmps.size A=true)
  (h:∀ w,Ext w0 w→zl (Q .normal) w A b):AWq P ops Rel.ext w0 (zeQ w0 a0 Q) [] b A:=
 fun a w he hsz hdf hsl=>zaD A b hk (by rw[hs,hsz]) (by rw[hd,hdf]) (fun t ht=>hsl t (by rw[←hs];exact ht)) (h w he)
theorem AWq.last {Q:Exit→Act→World→Prop} {b:Act} {A:Anys} {z:Oper} (hs:b.tmps.size=a0.tmps.size) (hd:b.defers=a0.defers) (hk:zdO b.tmps.size A=true)
  (h:∀ w,Ext w0 w→zl (wpList P ops Q [z]) w A b):AWq P ops M w0 (zeu P ops (Ext w0) a0 Q z) [] b A:=
 fun a w he hsz hdf hsl=>zaD A b hk (by rw[hs,hsz]) (by rw[hd,hdf]) (fun t ht=>hsl t (by rw[←hs];exact ht)) (h w he)
theorem zcb {id:Nat} {L pre:List Oper} {z:Oper} {Q:Exit→Act→World→Prop} {w:World} (M:Rel) (hpre:L.dropLast=pre) (hz:L.getLast? = some z) (hF:zae M (Ext w)) (hm:P.follows .mixedOrders=true) (hg:zaV L.toArray a0.tmps.size=true) (hlk:zbi L.toArray a0.tmps.size=true)
  (hlast:za3 L.toArray (L.length-1)=true)
  (h:AWq P L.toArray M w (zeu P L.toArray (Ext w) a0 Q z) pre a0 []):(Code.region id L.toArray true).wp P Q a0 w:=by
 have hL:L=pre++[z]:=by
  subst hpre;have hne:L≠[]:=by rintro rfl;cases hz
  have hz':=List.getLast?_eq_some_getLast hne;rw[hz] at hz';injection hz' with hz'
  rw[hz',List.dropLast_concat_getLast hne]
 subst hL;exact zdE M (Ext w) hF (Ext.drew w) hm hg hlk (by simpa using hlast) h
theorem zc {id:Nat} {l:List Oper} {Q:Exit→Act→World→Prop} {w:World} (hm:P.follows .mixedOrders=true) (hg:zaV l.toArray a0.tmps.size=true) (hlk:zbi l.toArray a0.tmps.size=true)
  (h:AWq P l.toArray Rel.ext w (zeQ w a0 Q) l a0 []):(Code.region id l.toArray true).wp P Q a0 w:=zgG hm hg hlk h
end
end
section
open Go.RowKit
theorem hid {p:Prop} (h:p):Hid p:=h
theorem Ext.alloc' {w w':World} (h:Ext w w') (o:Obj):Ext w (w'.alloc o):=h.trans (Ext.alloc w' o)
theorem Ext.drew' {w w':World} (h:Ext w w'):Ext w w'.drew:=h.trans (Ext.drew w')
theorem Ext.setCell' {w w':World} (h:Ext w w') {p:Addr} (hp:w.heap.size≤p.block) (v:Value):Ext w (w'.setCell p v):=Below.setCell h hp v
theorem Ext.below {w w':World} (h:Ext w w') {B:Nat} (hB:B≤w.heap.size):Below B w w':=Below.mono h hB
theorem Ext.of_below {w w':World} (h:Below w.heap.size w w'):Ext w w':=h
theorem Ext.size {w w':World} (h:Ext w w'):w.heap.size≤w'.heap.size:=Below.size h
structure Keep (S:Nat→Prop) (w w':World):Prop where
 os:w'.os=w.os
 tape:w'.tape=w.tape
 output:w'.output=w.output
 size:w.heap.size≤w'.heap.size
 block:∀ k,k<w.heap.size→¬ S k→w'.heap[k]? = w.heap[k]?
theorem Keep.refl (S:Nat→Prop) (w:World):Keep S w w:=⟨rfl,rfl,rfl,Nat.le_refl _,fun _ _ _=>rfl⟩
theorem Keep.trans {S:Nat→Prop} {a b c:World} (h:Keep S a b) (k:Keep S b c):Keep S a c:=
 ⟨k.os.trans h.os,k.tape.trans h.tape,k.output.trans h.output,Nat.le_trans h.size k.size,fun i hi hs=>(k.block i (Nat.lt_of_lt_of_le hi h.size) hs).trans (h.block i hi hs)⟩
theorem Keep.of_ext {S:Nat→Prop} {w w':World} (h:Ext w w'):Keep S w w':=⟨h.os,h.tape,h.output,Below.size h,fun k hk _=>h.block k hk⟩
theorem Keep.ext {S:Nat→Prop} {a b c:World} (h:Keep S a b) (k:Ext b c):Keep S a c:=h.trans (Keep.of_ext k)
theorem Keep.drewN {S:Nat→Prop} {a b:World} (h:Keep S a b) (n:Nat):Keep S a (b.drewN n):=h.ext (Ext.drewN b n)
theorem Keep.setCell {S:Nat→Prop} {a b:World} (h:Keep S a b) {p:Addr} (hp:S p.block∨a.heap.size≤p.block) (v:Value):Keep S a (b.setCell p v):=
 ⟨h.os,h.tape,h.output,by have:=h.size;simpa[World.setCell] using this,fun k hk hs=>by
  rw[Below.heap_setCell b p v k (by rintro rfl;rcases hp with hp | hp;exact hs hp;omega)];exact h.block k hk hs⟩
theorem Keep.below {S:Nat→Prop} {w w':World} (h:Keep S w w') {B:Nat} (hB:B≤w.heap.size) (hS:∀ k,S k→B≤k):Below B w w':=
 ⟨h.os,h.tape,h.output,h.size,fun k hk=>h.block k (by omega) (fun hs=>by have:=hS k hs;omega)⟩
theorem Keep.mono {S S':Nat→Prop} {w w':World} (h:Keep S w w') (hs:∀ k,S k→S' k):Keep S' w w':=⟨h.os,h.tape,h.output,h.size,fun k hk hn=>h.block k hk fun h=>hn (hs k h)⟩
def Blk (w:World) (g:Nat) (t:TypeId) (cs:Array Value):Prop:=w.heap[g]? = some (.cells cs t (0,0))
section
variable {w w':World} {g:Nat} {t:TypeId} {cs:Array Value}
theorem Blk.lt (h:Blk w g t cs):g<w.heap.size:=by
 rcases Nat.lt_or_ge g w.heap.size with hlt | hge
 ·exact hlt
 ·unfold Blk at h;rw[Array.getElem?_eq_none hge] at h;cases h
theorem Blk.cell (h:Blk w g t cs) {i:Nat} {v:Value} (hi:cs[i]? = some v):w.cell? ⟨g,i,none⟩=some v:=(cell_of_row w g i cs t (0,0) h).trans hi
theorem Blk.frozen (h:Blk w g t cs) (i:Nat):w.frozen? ⟨g,i,none⟩=false:=by
 unfold Blk at h;simp[World.frozen?,h]
theorem Blk.new (w:World) (t:TypeId) (cs:Array Value):Blk (w.alloc (.cells cs t)) w.heap.size t cs:=heap_alloc_new w _
theorem Blk.ext (h:Blk w g t cs) (he:Ext w w'):Blk w' g t cs:=he.heap h
theorem Blk.keep {S:Nat→Prop} (h:Blk w g t cs) (he:Keep S w w') (hs:¬ S g):Blk w' g t cs:=(he.block g h.lt hs).trans h
theorem Blk.alloc (h:Blk w g t cs) (o:Obj):Blk (w.alloc o) g t cs:=h.ext (Ext.alloc w o)
theorem Blk.set (h:Blk w g t cs) (i:Nat) (u:Value):Blk (w.setCell ⟨g,i,none⟩ u) g t (cs.setIfInBounds i u):=by
 unfold Blk at h⊢;simp[World.setCell,Array.getElem?_modify,h]
theorem Blk.far (h:Blk w g t cs) {p:Addr} (hp:g≠p.block) (u:Value):Blk (w.setCell p u) g t cs:=(Below.heap_setCell w p u g hp).trans h
end
def Sl (w:World) (sz:Nat) (v:Value) (xs:List (List Value)):Prop:=
 ∃ A c,v=.slice A xs.length c∧xs.length≤c∧c≤maxLen∧(0<xs.length → ∃ b o,A=some ⟨b,o,none⟩∧b<w.heap.size ∧ ∀ k x j u,xs[k]? = some x→x[j]? = some u→w.cell? ⟨b,o+k*sz+j,none⟩=some u)
section
variable {w w':World} {sz:Nat} {v:Value} {xs:List (List Value)}
theorem Sl.ext (h:Sl w sz v xs) (he:Ext w w'):Sl w' sz v xs:=by
 obtain⟨A,c,h1,h2,h3,h4⟩:=h;refine⟨A,c,h1,h2,h3,fun hn=>?_⟩;obtain⟨b,o,h5,h6,h7⟩:=h4 hn;exact⟨b,o,h5,Nat.lt_of_lt_of_le h6 he.size,fun k x j u hx hu=>he.cell (h7 k x j u hx hu)⟩
theorem Sl.steady (sz:Nat) (xs:List (List Value)) (v:Value):zhb fun w=>Sl w sz v xs:=fun _ _ he h=>h.ext he
theorem Sl.of_blk {g:Nat} {t:TypeId} {cs:Array Value} {n c:Nat} (h:Blk w g t cs) (hn:xs.length=n) (hc:n≤c) (hm:c≤maxLen) (hx:∀ k x j u,xs[k]? = some x→x[j]? = some u→cs[k*sz+j]? = some u) :
  Sl w sz (.slice (some ⟨g,0,none⟩) n c) xs:=by
 subst hn;refine⟨_,c,rfl,hc,hm,fun _=>⟨g,0,rfl,h.lt,fun k x j u hk hj=>?_⟩⟩;rw[Nat.zero_add];exact h.cell (hx k x j u hk hj)
theorem Sl.nil (w:World) (sz:Nat):Sl w sz (.slice none 0 0) []:=⟨none,0,rfl,Nat.le_refl _,by unfold maxLen;omega,fun h=>absurd h (by simp)⟩
end
theorem zhm {P:Program} (w:World) (ats:Array TypeId) (ty:TypeId) (k:IntKind) (a b:Int):(Builtin.max_ ats ty #[.int k a,.int k b]).run P w=.ok (.int k (max a b)) w:=by
 simp[Builtin.max_,go_sem,Builtin.max2];omega
theorem zhl {P:Program} (w:World) (ats:Array TypeId) (ty:TypeId) (k:IntKind) (a b:Int):(Builtin.min_ ats ty #[.int k a,.int k b]).run P w=.ok (.int k (min a b)) w:=by
 simp[Builtin.min_,go_sem,Builtin.min2];omega
attribute [go_sem 2000] zhm zhl
theorem zdT {β:Type} (sz:Nat):∀ (l:List (List β)) (k j:Nat) (x:List β),(∀ y∈l,y.length=sz)→l[k]? = some x→j<sz→l.flatten[k*sz+j]? = x[j]?
 | [],_,_,_,_,h,_=>by simp at h
 | y::l,0,j,x,hl,h,hj=>by
  simp only[List.getElem?_cons_zero,Option.some.injEq] at h;subst h;rw[List.flatten_cons,Nat.zero_mul,Nat.zero_add,List.getElem?_append_left (by rw[hl y (by simp)];exact hj)]
 | y::l,k+1,j,x,hl,h,hj=>by
  have hy:=hl y (by simp);have e:(k+1)*sz+j-sz=k*sz+j:=by rw[Nat.add_mul];omega
  rw[List.flatten_cons,List.getElem?_append_right (by rw[hy,Nat.add_mul];omega),hy,e];exact zdT sz l k j x (fun z hz=>hl z (by simp[hz])) (by simpa using h) hj
theorem Sl.of_flat {w:World} {sz g:Nat} {t:TypeId} {xs:List (List Value)} {n c:Nat} {cs:Array Value} (h:Blk w g t cs) (hcs:∃ r,cs.toList=xs.flatten++r) (hl:∀ x∈xs,x.length=sz) (hn:xs.length=n) (hc:n≤c) (hm:c≤maxLen) :
  Sl w sz (.slice (some ⟨g,0,none⟩) n c) xs:=Sl.of_blk h hn hc hm fun k x j u hk hj=>by
 obtain⟨r,hr⟩:=hcs;have hjs:j<sz:=by
  have:=hl x (List.mem_of_getElem? hk);rcases Nat.lt_or_ge j x.length with h | h
  ·omega
  ·rw[List.getElem?_eq_none h] at hj;cases hj
 have hf:=zdT sz xs k j x hl hk hjs;rw[hj] at hf;have hlt:k*sz+j<xs.flatten.length:=(List.getElem?_eq_some_iff.1 hf).1;rw[←Array.getElem?_toList,hr,List.getElem?_append_left hlt];exact hf
end
section
open Go.RowKit
structure Coded {α:Type} (code:α→List Value) (sz:Nat):Prop where
 len:∀ a,(code a).length=sz
 one:∀ a,∀ u∈code a,u.oneCell'=true
section
variable {α:Type} {code:α→List Value} {sz:Nat}
theorem Coded.sizes (h:Coded code sz) (l:List α):∀ x∈l.map code,x.length=sz:=by
 intro x hx;obtain⟨y,_,rfl⟩:=List.mem_map.1 hx;exact h.len y
theorem Coded.flat_len (h:Coded code sz):∀ l:List α,((l.map code).flatten).length=l.length*sz
 | []=>by simp
 | x::l=>by
  rw[List.map_cons,List.flatten_cons,List.length_append,h.len,h.flat_len l,List.length_cons,Nat.add_mul];omega
theorem Coded.flat_one (h:Coded code sz) (l:List α):∀ u∈(l.map code).flatten,u.oneCell'=true:=by
 intro u hu;obtain⟨x,hx,hu⟩:=List.mem_flatten.1 hu;obtain⟨a,_,rfl⟩:=List.mem_map.1 hx;exact h.one a u hu
theorem Coded.flat_take (h:Coded code sz) (l:List α) (k:Nat):((l.take k).map code).flatten=((l.map code).flatten).take (k*sz):=by
 induction l generalizing k with
 | nil=>simp
 | cons x l ih=>
  cases k with
  | zero=>simp
  | succ k=>
   rw[List.take_succ_cons,List.map_cons,List.flatten_cons,ih,List.map_cons,List.flatten_cons,Nat.add_mul,Nat.one_mul,Nat.add_comm,←h.len x,List.take_length_add_append]
theorem Coded.flat_drop (h:Coded code sz) (l:List α) (k:Nat):((l.drop k).map code).flatten=((l.map code).flatten).drop (k*sz):=by
 induction l generalizing k with
 | nil=>simp
 | cons x l ih=>
  cases k with
  | zero=>simp
  | succ k=>
   rw[List.drop_succ_cons,ih,List.map_cons,List.flatten_cons,Nat.add_mul,Nat.one_mul,Nat.add_comm,←h.len x,List.drop_length_add_append]
theorem Coded.flat_at (h:Coded code sz) (l:List α) (k j:Nat) (hk:k<l.length) (hj:j<sz):((l.map code).flatten)[k*sz+j]? = (code l[k])[j]?:=
 zdT sz (l.map code) k j (code l[k]) (h.sizes l) (by simp[hk]) hj
theorem zw {w w':World} {base:Nat} {e:TypeId} {sz:Nat} {v:Value} {n:Nat} {xs:List Value} (h:w.ownsRow base e sz v n xs) (he:Ext w w'):w'.ownsRow base e sz v n xs:=
 ⟨h.1,h.2.imp id fun⟨g,cap,cur,hv,hb,hg,r⟩=>⟨g,cap,cur,hv,hb,he.heap hg,r⟩⟩
theorem zt {w:World} {B:Nat} {e:TypeId} {sz:Nat} {v:Value} {n:Nat} {xs:List Value} (h:w.ownsRow B e sz v n xs) (a:Nat) (ha:v.ownBlock=some a):B≤a∧a<w.heap.size:=by
 rcases h.2 with⟨rfl,_⟩ | ⟨g,cap,cur,rfl,hb,hg,_⟩
 ·simp[Value.ownBlock] at ha
 ·simp[Value.ownBlock] at ha
  subst ha;exact⟨hb,(show Blk w g e cur from hg).lt⟩
theorem zq {S:Nat→Prop} {w w':World} {base:Nat} {e:TypeId} {sz:Nat} {v:Value} {n:Nat} {xs:List Value} (h:w.ownsRow base e sz v n xs) (he:Keep S w w') (hs:∀ q,v.ownBlock=some q→¬ S q):w'.ownsRow base e sz v n xs:=
 ⟨h.1,h.2.imp id fun⟨g,cap,cur,hv,hb,hg,r⟩=>⟨g,cap,cur,hv,hb,(he.block g (show Blk w g e cur from hg).lt (hs g (by rw[hv];rfl))).trans hg,r⟩⟩
theorem zY {w:World} {base base':Nat} {e:TypeId} {sz:Nat} {v:Value} {n:Nat} {xs:List Value} (h:w.ownsRow base e sz v n xs) (hb:base'≤base):w.ownsRow base' e sz v n xs:=
 ⟨h.1,h.2.imp id fun⟨g,cap,cur,hv,hb',r⟩=>⟨g,cap,cur,hv,Nat.le_trans hb hb',r⟩⟩
theorem zp (w:World) (base:Nat) (e:TypeId) (sz:Nat):w.ownsRow base e sz (.slice none 0 0) 0 []:=⟨by simp,.inl ⟨rfl,rfl⟩⟩
theorem zam {w:World} {base:Nat} {e:TypeId} {v:Value} {xs:List (List Value)} (hsz:∀ x∈xs,x.length=sz) (h:w.ownsRow base e sz v xs.length xs.flatten):Sl w sz v xs:=by
 rcases h.2 with⟨rfl,h0⟩ | ⟨g,cap,cur,rfl,_,hg,h1,h2,h3,h4⟩
 ·have:xs=[]:=List.eq_nil_of_length_eq_zero h0
  subst this;exact Sl.nil w sz
 ·exact Sl.of_flat (show Blk w g e cur from hg) ⟨cur.toList.drop (xs.length*sz),by rw[←h4,List.take_append_drop]⟩ hsz rfl h1 h2
def RowAt (code:α→List Value) (sz:Nat) (l:List α) (v:Value) (w:World):Prop:=Sl w sz v (l.map code)∧(l.length=0→v=.slice none 0 0)
theorem RowAt.ext {l:List α} {v:Value} {w w':World} (h:RowAt code sz l v w) (he:Ext w w'):RowAt code sz l v w':=⟨h.1.ext he,h.2⟩
theorem RowAt.steady (code:α→List Value) (sz:Nat) (l:List α) (v:Value):zhb (RowAt code sz l v):=fun _ _ he h=>h.ext he
theorem RowAt.nil (w:World):RowAt code sz ([]:List α) (.slice none 0 0) w:=⟨Sl.nil w sz,fun _=>rfl⟩
theorem RowAt.of_row (hc:Coded code sz) {B:Nat} {l:List α} {v:Value} {w:World} {e:TypeId} (h:w.ownsRow B e sz v l.length (l.map code).flatten) (hz:l.length=0→v=.slice none 0 0):RowAt code sz l v w:=
 ⟨zam (e:=e) (base:=B) (hc.sizes l) (by rw[List.length_map];exact h),hz⟩
theorem zr {l:List α} {v:Value} {w:World} (h:Sl w sz v (l.map code)):∃ A c,v=.slice A l.length c∧l.length≤c∧c≤maxLen∧(0<l.length → ∃ b o,A=some ⟨b,o,none⟩∧b<w.heap.size ∧ ∀ k (_:k<l.length) j u,(code l[k])[j]? = some u→w.cell? ⟨b,o+k*sz+j,none⟩=some u):=by
 obtain⟨A,c,h1,h2,h3,h4⟩:=h;simp only[List.length_map] at h1 h2 h4;refine⟨A,c,h1,h2,h3,fun hn=>?_⟩;obtain⟨b,o,h5,h6,h7⟩:=h4 hn;exact⟨b,o,h5,h6,fun k hk j u hu=>h7 k _ j u (by simp[hk]) hu⟩
theorem zjx (hc:Coded code sz) {l:List α} {w:World} {b o:Nat} (hcell:∀ k (_:k<l.length) j u,(code l[k])[j]? = some u→w.cell? ⟨b,o+k*sz+j,none⟩=some u) (t:Nat) (u:Value) (hu:((l.map code).flatten)[t]? = some u):w.cell? ⟨b,o+t,none⟩=some u:=by
 have hlt:t<l.length*sz:=by
  have:=(List.getElem?_eq_some_iff.1 hu).1;rwa [hc.flat_len] at this
 have hsz:0<sz:=by
  rcases Nat.eq_zero_or_pos sz with h | h
  ·subst h;simp at hlt
  ·exact h
 have hq:t/sz<l.length:=Nat.div_lt_of_lt_mul (by rw[Nat.mul_comm];exact hlt);have hm:t%sz<sz:=Nat.mod_lt _ hsz;have e:t/sz*sz+t%sz=t:=by rw[Nat.mul_comm];exact Nat.div_add_mod t sz
 have:=hc.flat_at l (t/sz) (t%sz) hq hm;rw[e,hu] at this;have:=hcell (t/sz) hq (t%sz) u this.symm;rwa [Nat.add_assoc,e] at this
theorem zll {P:Program} {tx e':TypeId} (hk:P.underlying tx=some (.slice e')) (hc:Coded code sz) {l:List α} {w:World} {b o:Nat} (hcell:∀ k (_:k<l.length) j u,(code l[k])[j]? = some u→w.cell? ⟨b,o+k*sz+j,none⟩=some u) (k c:Nat) (hkl:k≤l.length) {W:World} (hW:Ext w W) :
  Src P sz tx (.slice (some ⟨b,o,none⟩) k c) k ((l.take k).map code).flatten W:=
 Src.ofSlice W hk _ _ _ _ (by rw[hc.flat_len,List.length_take];congr 1;omega) (fun j u hu=>by
  rw[Addr.add_lit];refine hW.cell (zjx hc hcell j u ?_);rw[hc.flat_take,List.getElem?_take] at hu
  split at hu
  ·exact hu
  ·cases hu) (hc.flat_one _)
theorem zcy {P:Program} {tx e':TypeId} (hk:P.underlying tx=some (.slice e')) (hc:Coded code sz) {l:List α} {w:World} {v:Value} (h:Sl w sz v (l.map code)) {W:World} (hW:Ext w W):Src P sz tx v l.length (l.map code).flatten W:=by
 obtain⟨A,c,rfl,h1,h2,h3⟩:=zr h;by_cases h0:l.length=0
 ·have:l=[]:=List.eq_nil_of_length_eq_zero h0
  subst this;cases A with
  | none=>exact Src.ofNil W hk c
  | some a=>exact Src.ofSlice W hk a 0 c [] (by simp) (fun j u hu=>by simp at hu) (by simp)
 ·obtain⟨b,o,rfl,_,hcell⟩:=h3 (by omega)
  have:=zll hk hc hcell l.length c (Nat.le_refl _) hW;rwa [List.take_length] at this
end
theorem zx {P:Program} {ops:Array Oper} {rest:List Oper} {o:Oper} {a:Act} {Q:Exit→Act→World→Prop} {w w':World} (hgd:o.guard=none) (s x:Operand) (t tx:TypeId)
  (ho:o.op=.call { callee:=.builtin .append,args:=#[s,x],argTypes:=#[t,tx] }) {v u v':Value} (hv:a.eval s=v) (hx:a.eval x=u)
  (hrun:(Builtin.append_ #[t,tx] o.type #[v,u]).run P w=.ok v' w') (hK:wpList P ops Q rest (a.put o.dst v') w'):wpList P ops Q (o::rest) a w:=by
 refine wpList_plain hgd fun K hK'=>?_;unfold Oper.wp;simp[execOp,ho,resolve,invoke,builtin,hv,hx,hrun,Result.andThen];exact hK' _ _ hK
theorem zc5 {B g:Nat} {e:TypeId} (hg:B≤g):∀ (vs:List Value) (k:Nat) (w1:World) (c1:Array Value),Blk w1 g e c1→k+vs.length≤c1.size → ∃ c2,Blk (w1.setCells g k vs) g e c2∧c2.size=c1.size∧c2.toList=c1.toList.take k++vs++c1.toList.drop (k+vs.length)∧Keep (fun q=>q=g) w1 (w1.setCells g k vs):=by
 intro vs
 induction vs with
 | nil=>intro k w1 c1 hb hk;exact⟨c1,hb,rfl,by simp,Keep.refl _ _⟩
 | cons u vs ih=>
  intro k w1 c1 hb hk;simp only[List.length_cons] at hk;obtain⟨c2,b2,s2,t2,e2⟩:=ih (k+1) (w1.setCell ⟨g,k,none⟩ u) _ (hb.set k u) (by simp;omega);refine⟨c2,b2,by simpa using s2,?_,Keep.trans (Keep.setCell (S:=fun q=>q=g) (Keep.refl _ _) (p:=⟨g,k,none⟩) (.inl rfl) u) e2⟩;rw[t2];have hk':k<c1.toList.length:=by simp;omega
  have hlk:(c1.toList.take k).length=k:=by rw[List.length_take];omega
  have hX:(c1.toList.take k++[u]).length=k+1:=by simp only[List.length_append,hlk,List.length_singleton]
  have e1:(c1.setIfInBounds k u).toList=(c1.toList.take k++[u])++c1.toList.drop (k+1):=by
   rw[Array.toList_setIfInBounds,List.set_eq_take_append_cons_drop,if_pos hk',List.append_assoc];rfl
  rw[e1,List.take_left' hX,List.drop_append,List.drop_of_length_le (by omega),List.nil_append,hX,show k+1+vs.length-(k+1)=vs.length by omega,List.drop_drop,List.append_assoc,List.length_cons,show k+1+vs.length=k+(vs.length+1) by omega];simp
structure Elem (P:Program) (t e:TypeId) (sz bytes:Nat):Prop where
 slice:P.underlying t=some (.slice e)
 info:∃ i z,P.info? e=some i∧i.zero=some z∧i.size=sz∧i.bytes=bytes∧z.cells.size=sz
theorem zeO {P:Program} {t tx ty e:TypeId} {sz bytes:Nat} (hE:Elem P t e sz bytes) {w:World} {B n m:Nat} {v x:Value} {xs news:List Value} (hown:w.ownsRow B e sz v n xs) (hB:B≤w.heap.size) (hs:Src P sz tx x m news w) (h63:n+m≤maxLen) (hbytes:(n+m)*bytes≤140737488355328) :
  ∃ v' w',(Builtin.append_ #[t,tx] ty #[v,x]).run P w=.ok v' w'∧w'.ownsRow B e sz v' (n+m) (xs++news)∧Keep (fun q=>v.ownBlock=some q) w w'∧(v'.ownBlock=v.ownBlock ∨ ∀ q,v'.ownBlock=some q→w.heap.size≤q)∧(n+m=0→v=.slice none 0 0→v'=.slice none 0 0):=by
 obtain⟨ht,i,z,hi,hz,rfl,rfl,hzs⟩:=hE;have hnl:=hs.newsLen;have grow:∀ (base:Option Addr) (c:Nat),v=.slice base n c→(∀ j u,xs[j]? = some u → ∀ b,base=some b→w.cell? (b.add j)=some u)→(base=none→n=0)→c<n+m →
   ∃ v' w',(Builtin.append_ #[t,tx] ty #[v,x]).run P w=.ok v' w'∧w'.ownsRow B e i.size v' (n+m) (xs++news)∧Keep (fun q=>v.ownBlock=some q) w w'∧(v'.ownBlock=v.ownBlock ∨ ∀ q,v'.ownBlock=some q→w.heap.size≤q)∧(n+m=0→v=.slice none 0 0→v'=.slice none 0 0):=by
  rintro base c rfl hold hnone hg;have hf:(Builtin.firstCells i.size n (.slice base n c)).run P w.drew=.ok xs.toArray w.drew:=by
   cases base with
   | none=>
    obtain rfl:=hnone rfl;obtain rfl:xs=[]:=List.eq_nil_of_length_eq_zero (by simpa using hown.1);exact run_firstCells_none w.drew i.size 0 0 c
   | some b=>exact run_firstCells_some (P:=P) w.drew i.size n b n c xs hown.1 (fun j u hu=>by simpa using hold j u hu b rfl)
  have hsmall:n+m≤9223372036854775807:=by simp only[maxLen] at h63;omega
  have hr:=run_append_grow_src (P:=P) w t tx ty e i z ht hi hz base n c xs hf x m news hs hg (by omega) (growslice_fits hg hbytes);have hge:=grownCap_ge w (n+m) c e;have hcm:grownCap w (n+m) c e≤maxLen:=grownCap_le_maxLen w (n+m) c e h63;have hlen:(xs++news).length=(n+m)*i.size:=by rw[List.length_append,hown.1,hnl,Nat.add_mul]
  refine⟨_,_,hr,⟨hlen,.inr ⟨w.heap.size,_,_,rfl,hB,(heap_alloc_new w.drew (.cells ((xs++news).toArray++Builtin.zeroCells z.cells (grownCap w (n+m) c e-(n+m))) e):_),hge,hcm,?_,?_⟩⟩,Keep.of_ext (((Ext.refl w).drew').alloc' _),.inr fun q hq=>?_,fun h0=>by omega⟩
  ·simp only[Array.size_append,List.size_toArray,size_zeroCells,hzs,hlen,←Nat.add_mul]
   congr 1
   omega
  ·simp only[Array.toList_append]
   rw[←hlen];exact List.take_left
  ·simp[Value.ownBlock] at hq
   omega
 rcases hown.2 with⟨rfl,rfl⟩ | ⟨g,cap,cs,rfl,hb,hgb,h1,h2,h3,h4⟩
 ·obtain rfl:xs=[]:=List.eq_nil_of_length_eq_zero (by simpa using hown.1)
  by_cases hm:m=0
  ·subst hm
   obtain rfl:news=[]:=List.eq_nil_of_length_eq_zero (by simpa using hnl);exact⟨_,_,run_append_nothing w t tx ty e i ht hi none 0 0 (Nat.le_refl _) x hs,hown,Keep.refl _ _,.inl rfl,fun _ h=>h⟩
  ·exact grow none 0 rfl (fun j u hu b hb=>by cases hb) (fun _=>rfl) (by omega)
 ·have hgb':Blk w g e cs:=hgb
  have hcells:∀ j u,xs[j]? = some u→w.cell? ⟨g,j,none⟩=some u:=fun j u hu=>by
   refine hgb'.cell ?_;rw[←h4,List.getElem?_take] at hu
   split at hu
   ·simpa using hu
   ·cases hu
  by_cases hg:cap<n+m
  ·exact grow (some ⟨g,0,none⟩) cap rfl (fun j u hu b hb=>by injection hb with hb;subst hb;rw[Addr.add_lit,Nat.zero_add];exact hcells j u hu) (fun h=>by cases h) hg
  ·have hm1:(n+m)*i.size≤cap*i.size:=Nat.mul_le_mul_right _ (by omega)
   have hr:=run_append_room_src (P:=P) w t tx ty e i ht hi g 0 n cap x m news hs (by omega) (fun j hj=>by
    have hlt:0+n*i.size+j<cs.size:=by rw[Nat.add_mul] at hm1;omega
    rw[hgb'.cell (v:=cs[0+n*i.size+j]) (by simp)];rfl) (fun j _=>hgb'.frozen _)
   obtain⟨c2,b2,s2,t2,e2⟩:=zc5 hb news (0+n*i.size) w cs hgb' (by rw[hnl,Nat.zero_add,←Nat.add_mul];omega);rw[Nat.zero_add] at hr b2 t2 e2;have htk:c2.toList.take (n*i.size+news.length)=xs++news:=by
    rw[t2,h4,←hown.1,←List.length_append];exact List.take_left
   exact⟨_,_,hr,⟨by rw[List.length_append,hown.1,hnl,Nat.add_mul],.inr ⟨g,cap,c2,rfl,hb,b2,by omega,h2,s2.trans h3,by rw[Nat.add_mul,←hnl];exact htk⟩⟩,e2.mono fun q hq=>by subst hq;rfl,.inl rfl,fun _ h=>by cases h⟩
theorem zaH {w:World} {B:Nat} (hB:B≤w.heap.size) (e:TypeId) (sz n:Nat) (cs:Array Value) (hn:n≤maxLen) (hcs:cs.size=n*sz):(w.alloc (.cells cs e)).ownsRow B e sz (.slice (some ⟨w.heap.size,0,none⟩) n n) n cs.toList:=
 ⟨by simpa using hcs,.inr ⟨w.heap.size,n,cs,rfl,hB,Blk.new w e cs,Nat.le_refl _,hn,hcs,by rw[List.take_of_length_le];simp[hcs]⟩⟩
theorem src_row {P:Program} {tx e' e:TypeId} (hk:P.underlying tx=some (.slice e')) {B sz n:Nat} {xs:List Value} {v:Value} {w:World} (h:w.ownsRow B e sz v n xs) (h1:∀ u∈xs,u.oneCell'=true):Src P sz tx v n xs w:=by
 rcases h.2 with⟨rfl,rfl⟩ | ⟨g,cap,cs,rfl,hb,hgb,_,h2,h3,h4⟩
 ·obtain rfl:xs=[]:=List.eq_nil_of_length_eq_zero (by simpa using h.1)
  exact Src.ofNil w hk 0
 ·have hgb':Blk w g e cs:=hgb
  refine Src.ofSlice w hk ⟨g,0,none⟩ n cap xs h.1 (fun j u hu=>?_) h1;rw[Addr.add_lit,Nat.zero_add];refine hgb'.cell ?_;rw[←h4,List.getElem?_take] at hu
  split at hu
  ·simpa using hu
  ·cases hu
theorem Keep.toExt {S:Nat→Prop} {a b c:World} (h:Ext a b) (k:Keep S b c) (hs:∀ q,S q→a.heap.size≤q):Ext a c:=
 Below.trans h (k.below h.size hs)
section
variable {α:Type} {code:α→List Value} {sz:Nat}
def RowB (code:α→List Value) (sz:Nat) (w:World) (g:Nat) (e:TypeId) (cap:Nat) (d:Array α):Prop:=∃ cs,Blk w g e cs∧cs.size=cap*sz∧cs.toList.take (d.size*sz)=(d.toList.map code).flatten
theorem RowB.ext {w w':World} {g:Nat} {e:TypeId} {cap:Nat} {d:Array α} (h:RowB code sz w g e cap d) (he:Ext w w'):RowB code sz w' g e cap d:=by
 obtain⟨cs,h1,h2⟩:=h;exact⟨cs,h1.ext he,h2⟩
theorem RowB.lt {w:World} {g:Nat} {e:TypeId} {cap:Nat} {d:Array α} (h:RowB code sz w g e cap d):g<w.heap.size:=by
 obtain⟨cs,h1,_⟩:=h;exact h1.lt
theorem RowB.frozen {w:World} {g:Nat} {e:TypeId} {cap:Nat} {d:Array α} (h:RowB code sz w g e cap d) (i:Nat):w.frozen? ⟨g,i,none⟩=false:=by
 obtain⟨cs,h1,_⟩:=h;exact h1.frozen i
theorem RowB.flat (hc:Coded code sz) {w:World} {g:Nat} {e:TypeId} {cap:Nat} {d:Array α} (h:RowB code sz w g e cap d) (t:Nat) (u:Value) (hu:((d.toList.map code).flatten)[t]? = some u):w.cell? ⟨g,t,none⟩=some u:=by
 obtain⟨cs,h1,h2,h3⟩:=h;refine h1.cell ?_;rw[←h3,List.getElem?_take] at hu
 split at hu
 ·simpa using hu
 ·cases hu
theorem RowB.cell [Inhabited α] (hc:Coded code sz) {w:World} {g:Nat} {e:TypeId} {cap:Nat} {d:Array α} (h:RowB code sz w g e cap d) (j t:Nat) (u:Value) (hj:j<d.size) (ht:t<sz) (hu:(code d[j]!)[t]? = some u):w.cell? ⟨g,j*sz+t,none⟩=some u:=by
 refine h.flat hc _ _ ?_;rw[hc.flat_at d.toList j t (by simpa using hj) ht];rw[getElem!_pos d j hj] at hu;simpa using hu
theorem zmc (hc:Coded code sz) (l:List α) (k:Nat) (x:α) (hk:k<l.length):((l.set k x).map code).flatten=((l.map code).flatten).take (k*sz)++code x++((l.map code).flatten).drop (k*sz+sz):=by
 rw[List.set_eq_take_append_cons_drop,if_pos hk,List.map_append,List.flatten_append,hc.flat_take,List.map_cons,List.flatten_cons,hc.flat_drop,Nat.add_mul,Nat.one_mul,List.append_assoc]
theorem RowB.store (hc:Coded code sz) {w:World} {g:Nat} {e:TypeId} {cap:Nat} {d:Array α} (h:RowB code sz w g e cap d) (hn:d.size≤cap) (k:Nat) (hk:k<d.size) (x:α) :
  RowB code sz (w.setCells g (k*sz) (code x)) g e cap (d.setIfInBounds k x)∧Keep (fun q=>q=g) w (w.setCells g (k*sz) (code x)):=by
 obtain⟨cs,h1,h2,h3⟩:=h;have hm:(k+1)*sz≤d.size*sz:=Nat.mul_le_mul_right _ hk;have hm2:d.size*sz≤cap*sz:=Nat.mul_le_mul_right _ hn;have hk1:(k+1)*sz=k*sz+sz:=by rw[Nat.add_mul,Nat.one_mul]
 obtain⟨c2,b2,s2,t2,k2⟩:=zc5 (Nat.le_refl g) (code x) (k*sz) w cs h1 (by rw[hc.len];omega);refine⟨⟨c2,b2,s2.trans h2,?_⟩,k2⟩;rw[Array.toList_setIfInBounds,zmc hc _ _ _ (by simpa using hk),←h3,t2,hc.len,Array.size_setIfInBounds];have hl1:(cs.toList.take (k*sz)).length=k*sz:=by rw[List.length_take,Array.length_toList];omega
 have hl2:(cs.toList.take (k*sz)++code x).length=k*sz+sz:=by rw[List.length_append,hl1,hc.len]
 rw[List.take_append,List.take_of_length_le (by rw[hl2];omega),hl2,List.take_take,Nat.min_eq_left (by omega),List.drop_take]
theorem zj6 {P:Program} {t e ty:TypeId} {bytes:Nat} (hE:Elem P t e sz bytes) {z:Value} (hv:∀ w,(zeroValue e).run P w=.ok z w) (hzs:z.cells.size=sz) (h1:∀ u∈z.cells,u.oneCell'=true) (hc:Coded code sz) {w:World} {g cap:Nat} {d:Array α} (h:RowB code sz w g e cap d) (hn:d.size≤cap) (k c:Nat) (hk:k<d.size) :
  ∃ w',(Builtin.clear_ #[t] ty #[.slice (some ⟨g,k*sz,none⟩) (d.size-k) c]).run P w=.ok (.tuple #[]) w'∧Keep (fun q=>q=g) w w'∧RowB code sz w' g e cap (d.extract 0 k):=by
 obtain⟨ht,_⟩:=hE;obtain⟨cs,b1,b2,b3⟩:=h;have hzl:(Builtin.zeroCells z.cells (d.size-k)).toList.length=(d.size-k)*sz:=by simp[Builtin.zeroCells,hzs]
 have hz1:∀ u∈(Builtin.zeroCells z.cells (d.size-k)).toList,u.oneCell'=true:=by
  intro u hu;obtain⟨j,hj,rfl⟩:=List.getElem_of_mem hu;rw[hzl] at hj;have hpos:0<z.cells.size:=by
   rcases Nat.eq_zero_or_pos z.cells.size with h | h
   ·rw[←hzs,h] at hj;simp at hj
   ·exact h
  have hm:j%z.cells.size<z.cells.size:=Nat.mod_lt _ hpos;have e2:(Builtin.zeroCells z.cells (d.size-k)).toList[j]'(by rw[hzl];exact hj)=z.cells[j%z.cells.size]'hm:=by simp[Builtin.zeroCells,getElem!_pos z.cells (j%z.cells.size) hm]
  rw[e2];exact h1 _ (Array.getElem_mem hm)
 have e0:k*sz+(d.size-k)*sz=d.size*sz:=by rw[←Nat.add_mul];congr 1;omega
 have hm2:d.size*sz≤cap*sz:=Nat.mul_le_mul_right _ hn;have hst:=run_storeCells_cells (P:=P) g (k*sz) (Builtin.zeroCells z.cells (d.size-k)).toList 0 w (fun j hj=>by
  have hlt:k*sz+0+j<cs.size:=by omega
  rw[b1.cell (v:=cs[k*sz+0+j]) (by simp)];rfl) (fun j hj=>b1.frozen _) hz1
 simp only[Nat.add_zero] at hst;obtain⟨c2,a2,s2,t2,k2⟩:=zc5 (Nat.le_refl g) (Builtin.zeroCells z.cells (d.size-k)).toList (k*sz) w cs b1 (by rw[hzl];omega);refine⟨_,?_,k2,c2,a2,s2.trans b2,?_⟩
 ·obtain⟨m,hm⟩:∃ m,d.size-k=m+1:=⟨d.size-k-1,by omega⟩
  rw[hm] at hst⊢;simp[Builtin.clear_,run_underlying ht,hv,hst]
 ·have hl1:(cs.toList.take (k*sz)).length=k*sz:=by rw[List.length_take,Array.length_toList];omega
  have hsz:(d.extract 0 k).size=k:=by simp;omega
  have hex:(d.extract 0 k).toList=d.toList.take k:=by rw[Array.toList_extract,List.extract_eq_take_drop];simp
  have e1:k*sz≤d.size*sz:=Nat.mul_le_mul_right _ (by omega);rw[hsz,hex,hc.flat_take,←b3,t2,List.append_assoc,List.take_take,Nat.min_eq_left e1];exact List.take_left' hl1
end
section
variable {α:Type} {code:α→List Value} {sz:Nat}
theorem zaJ {P:Program} {t e:TypeId} {bytes:Nat} (hE:Elem P t e sz bytes) (hc:Coded code sz) {w:World} {B:Nat} {v:Value} {acc:List α} (hown:w.ownsRow B e sz v acc.length (acc.map code).flatten) (hB:B≤w.heap.size) (x:α) (hl:acc.length≤1000000) (hb:bytes≤1000000) :
  ∃ v' w',(Builtin.append_ #[t,t] t #[v,.slice (some ⟨w.heap.size,0,none⟩) 1 1]).run P (w.alloc (.cells (code x).toArray e))=.ok v' w'∧w'.ownsRow B e sz v' (acc++[x]).length ((acc++[x]).map code).flatten∧Keep (fun q=>v.ownBlock=some q) w w'∧(v'.ownBlock=v.ownBlock ∨ ∀ q,v'.ownBlock=some q→w.heap.size≤q):=by
 have hbb:∀ q,q≤2000001→q*bytes≤140737488355328:=fun q hq=>Nat.le_trans (Nat.mul_le_mul hq hb) (by decide);have ho:=zw hown (Ext.alloc w (.cells (code x).toArray e));have sb:Src P sz t (.slice (some ⟨w.heap.size,0,none⟩) 1 1) 1 (code x) (w.alloc (.cells (code x).toArray e)):=src_row hE.slice (zaH (w:=w) (Nat.le_refl _) e sz 1 (code x).toArray (by unfold maxLen;omega) (by simpa using hc.len x)) (hc.one x);obtain⟨v',w',hr,ho',hk,hbl,_⟩:=zeO (ty:=t) hE ho (Nat.le_trans hB (Ext.alloc w (.cells (code x).toArray e)).size) sb (by unfold maxLen;omega) (hbb _ (by omega))
 exact⟨v',w',hr,by simpa using ho',(Keep.of_ext (Ext.alloc w _)).trans hk,hbl.imp id fun h q hq=>Nat.le_trans (Ext.alloc w (.cells (code x).toArray e)).size (h q hq)⟩
theorem app_full {P:Program} {t tx ty e:TypeId} {bytes:Nat} (hE:Elem P t e sz bytes) (hc:Coded code sz) {w:World} {l m:List α} {A:Option Addr} {c:Nat} (h:Sl w sz (.slice A l.length c) (l.map code)) {x:Value} (hs:Src P sz tx x m.length (m.map code).flatten w) (hl:l.length≤1000000) (hm:m.length≤1000000) (hb:bytes≤1000000) :
  ∃ v' w',(Builtin.append_ #[t,tx] ty #[.slice A l.length l.length,x]).run P w=.ok v' w'∧Sl w' sz v' ((l++m).map code)∧Ext w w':=by
 have hbb:∀ q,q≤2000001→q*bytes≤140737488355328:=fun q hq=>Nat.le_trans (Nat.mul_le_mul hq hb) (by decide);obtain⟨A',c',h1,h2,h3,h4⟩:=zr h;injection h1 with hA hn hcc
 subst hA;obtain⟨ht,i,z,hi,hz,rfl,rfl,hzs⟩:=hE;by_cases hm0:m.length=0
 ·obtain rfl:m=[]:=List.eq_nil_of_length_eq_zero hm0
  refine⟨_,_,run_append_nothing w t tx ty e i ht hi A l.length l.length (Nat.le_refl _) x hs,?_,Ext.refl w⟩;rw[List.append_nil];refine⟨A,l.length,by simp,by simp,by unfold maxLen;omega,fun hp=>?_⟩;rw[List.length_map] at hp;obtain⟨b,o,h5,h6,h7⟩:=h4 hp;refine⟨b,o,h5,h6,fun k y j u hk hj=>?_⟩;simp only[List.getElem?_map,Option.map_eq_some_iff] at hk;obtain⟨y',hy,rfl⟩:=hk;obtain⟨hkl,rfl⟩:=List.getElem?_eq_some_iff.1 hy;exact h7 k hkl j u hj
 ·have hf:(Builtin.firstCells i.size l.length (.slice A l.length l.length)).run P w.drew=.ok (l.map code).flatten.toArray w.drew:=by
   by_cases hl0:l.length=0
   ·obtain rfl:l=[]:=List.eq_nil_of_length_eq_zero hl0
    cases A with
    | none=>exact run_firstCells_none w.drew i.size 0 0 0
    | some a=>exact run_firstCells_some (P:=P) w.drew i.size 0 a 0 0 [] (by simp) (fun j u hu=>by simp at hu)
   ·obtain⟨b,o,rfl,h6,h7⟩:=h4 (by omega)
    exact run_firstCells_some (P:=P) w.drew i.size l.length ⟨b,o,none⟩ l.length l.length _ (hc.flat_len l) (fun j u hu=>by
     rw[Addr.add_lit];exact(Ext.drew w).cell (zjx hc h7 j u hu))
  have hsmall:l.length+m.length≤9223372036854775807:=by omega
  have hr:=run_append_grow_src (P:=P) w t tx ty e i z ht hi hz A l.length l.length _ hf x m.length _ hs (by omega) (by omega) (growslice_fits (by omega) (hbb _ (by omega)));have hge:=grownCap_ge w (l.length+m.length) l.length e;have hcm:grownCap w (l.length+m.length) l.length e≤maxLen:=grownCap_le_maxLen w (l.length+m.length) l.length e (by unfold maxLen;omega);refine⟨_,_,hr,?_,((Ext.refl w).drew').alloc' _⟩;have hblk:=Blk.new w.drew e (((l.map code).flatten++(m.map code).flatten).toArray++Builtin.zeroCells z.cells (grownCap w (l.length+m.length) l.length e-(l.length+m.length)))
  exact Sl.of_flat hblk ⟨(Builtin.zeroCells z.cells (grownCap w (l.length+m.length) l.length e-(l.length+m.length))).toList,by simp⟩ (hc.sizes _) (by simp) hge hcm
end
theorem zeg {P:Program} {o:Oper} {a:Act} {w w':World} {s x:Operand} {t tx:TypeId} (ho:o.op=.call { callee:=.builtin .append,args:=#[s,x],argTypes:=#[t,tx] }) {v u v':Value} (hs:a.eval s=v) (hx:a.eval x=u)
  (hr:(Builtin.append_ #[t,tx] o.type #[v,u]).run P w=.ok v' w') {ψ:Value→World→Prop} (h:ψ v' w'):Gives P ψ ((execOp a.eval o).run P w):=by
 unfold execOp;simp only[ho,resolve,invoke,builtin,Sem.run_bind,Sem.run_pure,Result.andThen_ok,List.map_toArray,List.map_cons,List.map_nil,hs,hx,hr];exact h
end
section
open Go.RowKit
section
variable {P:Program} {ops:Array Oper} {M:Rel} {F:World→Prop} {R:(Nat→Slot)→Prop} {a0:Act}
def AWk (P:Program) (ops:Array Oper) (M:Rel) (F:World→Prop) (R:(Nat→Slot)→Prop) (l:List Oper) (b:Act) (A:Anys):Prop:=AW P ops M F R l (zT b A)
theorem AWk.val {o:Oper} {rest:List Oper} {b:Act} {A:Anys} {v:Value} (hap:zbX A (o.looksAt ops)=true) (hd:dstB A b.tmps.size o.dst=true) (hsel:(match o.op with | .select ..=>false | _=>true)=true) (hw:Region.wanted o (yielded ops b.tmps)=true)
  (h:∀ w,F w→Gives P (fun u w'=>u=v∧w'=w) ((execOp b.eval o).run P w)) (hr:AWk P ops M F R rest (b.put o.dst v) A):AWk P ops M F R (o::rest) b A:=by
 refine⟨.val v,trivial,fun a w hF hl=>?_,by rw[←zbt hd];exact hr⟩;rw[zbr hap hl,if_pos hw,zcE hsel hap hl];have h3:=h w hF;generalize (execOp b.eval o).run P w=r at h3⊢;cases r with
 | ok n w'=>
  cases n <;> simp only[Gives] at h3⊢
  case value u=>obtain⟨rfl,rfl⟩:=h3;exact⟨rfl,M.refl _⟩
  case skip=>obtain⟨rfl,rfl⟩:=h3;exact⟨rfl,M.refl _⟩
  case enter f args=>
   first
    | exact h3.elim
    | exact h3.mono fun e w' ⟨u,e1,e2⟩=>⟨u,e1,e2.1,by rw[e2.2];exact M.refl _⟩
 | halt x w'=>exact h3.elim
theorem AWk.callQ {o:Oper} {rest:List Oper} {b:Act} {A:Anys} {f:FuncId} {fn:Func} {xs:List Operand} {ats:Array TypeId} {d:Nat} (φ:Value→World→Prop) (hφ:∀ v,zae M (φ v)) (ho:o.op=.call { callee:=.value (.func f),args:=xs.toArray,argTypes:=ats })
  (hf : P.funcs[f]? = some fn) (h1 : (fn.name == "runtime.NumGoroutine") = false) (h2 : fn.body.isNone = false)
  (hg:(match o.guard with | some (j,_)=>zbX A (((ops[j]?).bind (·.dst)).toList) | none=>true)=true) (hd:o.dst=some d) (hw:Region.wanted o (yielded ops b.tmps)=true)
  (hc:∀ w,F w→zh b A w xs fun ys=>Calls P f ys.toArray w (RetQ φ w)) (hr:AWk P ops M F R rest b ((d,φ)::A)):AWk P ops M F R (o::rest) b A:=by
 refine⟨.any φ,hφ,fun a w hF hl=>?_,by rw[hd,←zb2];exact hr⟩;have hops:∀ t,.tmp t∈xs→(zT b A t).ok (a.tmps.getD t undef) w:=fun t ht=>
  hl t (List.mem_append_left _ (List.mem_filterMap.2 ⟨.tmp t,by simp[ho,Op.operands,Call.operands,ht],rfl⟩))
 have hwa:Region.wanted o (yielded ops a.tmps)=true:=by
  rw[←hw];unfold Region.wanted;cases hgd:o.guard with
  | none=>rfl
  | some gw=>
   obtain⟨j,want⟩:=gw;have:yielded ops a.tmps j=yielded ops b.tmps j:=by
    rw[za5,za5];unfold zb4;cases ht:(ops[j]?).bind (·.dst) with
    | none=>rfl
    | some t=>
     have hm:t∈o.looksAt ops:=by simp[Oper.looksAt,hgd,ht]
     simp only[hgd] at hg;have:=List.all_eq_true.1 hg t (by simp[ht]);simp only[Option.map_some];rw[zeX this (hl t hm)]
   simp only[this]
 rw[if_pos hwa,zdc ho rfl,zbz hf h1 h2];exact(zmq (zaX xs _ hops (hc w hF))).mono fun _ _ ⟨v,e,h,k⟩=>⟨v,e,h,M.ofExt _ _ k⟩
theorem AWk.opQ {o:Oper} {rest:List Oper} {b:Act} {A:Anys} {d:Nat} (φ:Value→World→Prop) (hφ:∀ v,zae M (φ v)) (hd:o.dst=some d)
  (h:∀ (a:Act) (w:World),F w→(∀ t∈o.looksAt ops,(zT b A t).ok (a.tmps.getD t undef) w)→Region.wanted o (yielded ops a.tmps)=true∧Gives P (fun v w'=>φ v w'∧M.r w w') ((execOp a.eval o).run P w))
  (hr:AWk P ops M F R rest b ((d,φ)::A)):AWk P ops M F R (o::rest) b A:=by
 refine⟨.any φ,hφ,fun a w hF hl=>?_,by rw[hd,←zb2];exact hr⟩;obtain⟨hw,hg⟩:=h a w hF hl;rw[if_pos hw];exact hg
theorem AWk.valE {o:Oper} {rest:List Oper} {b:Act} {A:Anys} (hap:zbX A (o.looksAt ops)=true) (hd:dstB A b.tmps.size o.dst=true) (hsel:(match o.op with | .select ..=>false | _=>true)=true) (hw:Region.wanted o (yielded ops b.tmps)=true)
  (h:∃ v,(∀ w,F w→Gives P (fun u w'=>u=v∧w'=w) ((execOp b.eval o).run P w))∧AWk P ops M F R rest (b.put o.dst v) A):AWk P ops M F R (o::rest) b A:=by
 obtain⟨v,h1,h2⟩:=h;exact AWk.val hap hd hsel hw h1 h2
end
end
section
open Go.RowKit
structure SlV where
 a:Option Addr
 n:Nat
 c:Nat
def SlV.val (s:SlV):Value:=.slice s.a s.n s.c
theorem zo {P:Program} {w:World} {b off:Nat} {cs:Array Value} (h:∀ (j:Nat) v,cs[j]? = some v→w.cell? ⟨b,off+j,none⟩=some v) (n:Nat) (hn:cs.size=n):(loadCellsFrom ⟨b,off,none⟩ 0 n #[]).run P w=.ok cs w:=by
 subst hn;have:=run_loadCells_list (P:=P) w ⟨b,off,none⟩ cs.toList (fun j v hv=>by
  have hadd:(⟨b,off,none⟩:Addr).add j=⟨b,off+j,none⟩:=Addr.add_lit _ _ _;rw[hadd];exact h j v (by simpa using hv))
 simpa[loadCells] using this
def intsV (l:List Int):List Value:=l.map (Value.int .i64)
theorem zG (l:List Int):(intsV l).length=l.length:=by simp[intsV]
theorem intsV_one (l:List Int):∀ v∈intsV l,v.oneCell'=true:=by
 intro v hv;obtain⟨x,_,rfl⟩:=List.mem_map.1 hv;rfl
def nilS:SlV:=⟨none,0,0⟩
theorem zbA {P:Program} {t e:TypeId} {sz bytes:Nat} (hE:Elem P t e sz bytes) (w:World) (xs:List (Array Value)) (hx:∀ x∈xs,x.size=sz) (hs:0<sz) (hn:xs≠[]) (hsm:xs.length*sz≤16777216) (parts:Array (Nat×Value)) (hp:parts.toList=((xs.map Value.agg).zipIdx 0).map fun x=>(x.2,x.1)):(Instr.buildSlice t xs.length parts).run P w=.ok (.slice (some ⟨w.heap.size,0,none⟩) xs.length xs.length) (w.alloc (.cells (xs.flatMap Array.toList).toArray e)):=by
 obtain⟨ht,i,z,hi,hz,rfl,rfl,hzs⟩:=hE;have hpos:0<xs.length:=List.length_pos_iff.2 hn;have h0:0<xs.length*i.size:=Nat.mul_pos hpos hs;refine run_buildSlice w t e xs.length parts _ i z ht hi hz (by show ¬ xs.length*i.size>16777216;omega) (by omega) ?_;rw[hp];have:=Great.fill_whole hs (xs.map Value.agg) ((Array.range (xs.length*i.size)).map (z.cells[· % z.cells.size]!)) (fun v hv=>by
  obtain⟨x,hx',rfl⟩:=List.mem_map.1 hv;exact hx x hx') (by simp)
 rw[List.flatMap_map] at this;exact this
theorem Blk.setCells {g:Nat} {t:TypeId}:∀ (vs:List Value) {w:World} {cs:Array Value} (_:Blk w g t cs) (k:Nat) (_:k+vs.length≤cs.size),Blk (w.setCells g k vs) g t (cs.toList.take k++(vs++cs.toList.drop (k+vs.length))).toArray
 | [],w,cs,h,k,hk=>by
  have e:(cs.toList.take k++([]++cs.toList.drop (k+([]:List Value).length))).toArray=cs:=by simp
  rw[e];exact h
 | v::vs,w,cs,h,k,hk=>by
  rw[List.length_cons] at hk;have:=Blk.setCells vs (h.set k v) (k+1) (by simp;omega);have e:((cs.setIfInBounds k v).toList.take (k+1)++(vs++(cs.setIfInBounds k v).toList.drop (k+1+vs.length)))=cs.toList.take k++(v::vs++cs.toList.drop (k+(v::vs).length)):=by
   rw[Array.toList_setIfInBounds];have hkl:k<cs.toList.length:=by rw[Array.length_toList];omega
   rw[List.take_succ_eq_append_getElem (by rw[List.length_set];exact hkl),List.getElem_set_self,List.take_set_of_le (Nat.le_refl _),List.drop_set_of_lt (by omega),List.length_cons,List.append_assoc,show k+1+vs.length=k+(vs.length+1) by omega];rfl
  rw[e] at this;exact this
theorem Keep.setCells {S:Nat→Prop} {a:World} {g:Nat} (hg:S g∨a.heap.size≤g):∀ (vs:List Value) {b:World} (_:Keep S a b) (k:Nat),Keep S a (b.setCells g k vs)
 | [],_,h,_=>h
 | v::vs,b,h,k=>Keep.setCells hg vs (h.setCell (p:=⟨g,k,none⟩) hg v) (k+1)
theorem Blk.there {w:World} {g:Nat} {t:TypeId} {cs:Array Value} (h:Blk w g t cs) (o n:Nat) (hn:o+n≤cs.size):w.there g o n:=fun j hj=>⟨by rw[h.cell (v:=cs[o+j]'(by omega)) (by rw[Array.getElem?_eq_getElem (by omega)])];rfl,h.frozen _⟩
theorem zC {w:World} {B:Nat} {e t:TypeId} {sz:Nat} {v:Value} {n:Nat} {xs:List Value} (h:w.ownsRow B e sz v n xs) {g:Nat} {cs:Array Value} (hb:Blk w g t cs) (hne:e≠t):¬ v.ownBlock=some g:=fun ha=>by
 rcases h.2 with⟨rfl,_⟩ | ⟨g',cap,cur,rfl,_,hg,_⟩
 ·simp[Value.ownBlock] at ha
 ·simp[Value.ownBlock] at ha
  subst ha;have:=hg.symm.trans hb;injection this with this
  injection this with _ this
  exact hne this
theorem zd6 {w:World} {B:Nat} {e:TypeId} {sz:Nat} {v:Value} {n:Nat} {xs:List Value} (h:w.ownsRow B e sz v n xs):∃ s:SlV,v=s.val:=by
 rcases h.2 with⟨rfl,_⟩ | ⟨g',cap,cur,rfl,_⟩
 ·exact⟨nilS,rfl⟩
 ·exact⟨⟨_,_,_⟩,rfl⟩
theorem ze6 {w:World} {B B':Nat} {e e':TypeId} {sz sz':Nat} {v v':Value} {n n':Nat} {xs xs':List Value} (h:w.ownsRow B e sz v n xs) (h':w.ownsRow B' e' sz' v' n' xs') (hne:e≠e') (q:Nat) (hq:v.ownBlock=some q):¬ v'.ownBlock=some q:=fun hq'=>by
 rcases h'.2 with⟨rfl,_⟩ | ⟨g',cap,cur,rfl,_,hg,_⟩
 ·simp[Value.ownBlock] at hq'
 ·simp[Value.ownBlock] at hq'
  subst hq';exact zC h (show Blk w g' e' cur from hg) hne hq
theorem zhN {P:Program} {o:Oper} {a:Act} {w:World} {ψ:Value→World→Prop} (t:TypeId) (parts:Array (Nat×Operand)) (cells:Array Value) (ho:o.op=.build t parts) (hc:P.built t (parts.map fun(i,x)=>(i,a.eval x)).toList=some cells) (h:ψ (.agg cells) w):Gives P ψ ((execOp a.eval o).run P w):=by
 unfold execOp;simp only[ho,Sem.run_bind,run_build w t _ cells hc,Result.andThen_ok];exact h
theorem zj {P:Program} {o:Oper} {T:TypeId} {x:Operand} {p:Addr} {cs:Array Value} {a:Act} {C:World→Prop} {K:Act→Prop} (hop:o.op=.load T x) (hx:a.eval x=.pointer (some p)) (hld:∀ w,C w→(loadVar T p).run P w=.ok (.agg cs) w) (hK:K (a.put o.dst (.agg cs))):o.quiet P a C K:=by
 refine⟨.agg cs,fun w hw=>?_,hK⟩;have h1:=hld w hw;simp only[Oper.quietAt,execOp,hop,hx,Instr.loadAt,Instr.sureAddr,Sem.run_bind,Sem.run_pure,Result.andThen,h1];exact⟨rfl,rfl⟩
theorem zaa {P:Program} {w:World} {g o:Nat} {t:TypeId} {cs:Array Value} {vs:List Value} (h:Blk w g t cs) (hle:o+vs.length≤cs.size) (h1:∀ v∈vs,v.oneCell'=true):(storeCells ⟨g,o,none⟩ vs).run P w=.ok () (w.setCells g o vs):=by
 have:=run_storeCells_cells (P:=P) g o vs 0 w (fun j hj=>by simpa using(h.there o vs.length hle j hj).1) (fun j hj=>by simpa using(h.there o vs.length hle j hj).2) h1;simpa using this
end
section
theorem ze0 {a b:ByteArray} (h:a.toList=b.toList):a=b:=by
 rw[Lib.toList_data,Lib.toList_data] at h;obtain⟨⟨la⟩⟩:=a;obtain⟨⟨lb⟩⟩:=b;simp at h;rw[h]
theorem zag (a b:ByteArray):(a.toList==b.toList)=decide (a=b):=by
 by_cases h:a=b
 ·subst h;simp
 ·simp only[h,decide_false,beq_eq_false_iff_ne,ne_eq]
  exact fun e=>h (ze0 e)
end
section
open Go.RowKit
def hpre (t p:ByteArray):Bool:=decide (p.size≤t.size)&&((t.extract 0 p.size).toList==p.toList)
theorem zQ (t:ByteArray):t.toList.length=t.size:=by
 rw[Lib.toList_data,Array.length_toList];rfl
theorem zcO (s:ByteArray) (i:Nat) (h:i<s.size):s.toList[i]? = some s[i]:=by
 rw[Lib.toList_data,Array.getElem?_toList];exact Array.getElem?_eq_getElem h
end
end Go.Proofs.YtofjpdgojoppbaaGreatDoor
namespace Go.Proofs.YtofjpdgojoppbaaGreatDoor.Pa
open Go.RowKit
def Strs (l:List ByteArray):List (List Value):=l.map fun s=>[.string s]
theorem sl_str {w:World} {v:Value} {l:List ByteArray} (h:Sl w 1 v (Strs l)):∃ A c,v=.slice A l.length c∧l.length≤c∧c≤maxLen∧(0<l.length → ∃ b o,A=some ⟨b,o,none⟩∧b<w.heap.size ∧ ∀ k (h:k<l.length),w.cell? ⟨b,o+k,none⟩=some (.string l[k])):=by
 obtain⟨A,c,h1,h2,h3,h4⟩:=h;simp only[Strs,List.length_map] at h1 h2 h4;refine⟨A,c,h1,h2,h3,fun hn=>?_⟩;obtain⟨b,o,h5,h6,h7⟩:=h4 hn;refine⟨b,o,h5,h6,fun k hk=>?_⟩;have:=h7 k [.string l[k]] 0 _ (by simp[hk]) rfl;simpa using this
end Go.Proofs.YtofjpdgojoppbaaGreatDoor.Pa
namespace Go.Proofs.YtofjpdgojoppbaaGreatDoor
section
open Go.RowKit
theorem zi {P:Program} {fn:Func} {p u:Tmp} {ty:TypeId} (h:fn.results=#[.cell p ty,.tmp u]) (tmps:Array Value) (w:World) (g:Nat) (t:TypeId) (cs:Array Value) (fr:Nat×Nat) (d:TypeDesc)
  (hp:tmps.getD p undef=.pointer (some ⟨g,0,none⟩)) (hg:w.heap[g]? = some (.cells cs t fr))
  (hu:P.underlying ty=some d) (hd:(match d with | .struct _ | .array _ _=>true | _=>false)=true) (hi:(P.info? ty).map (·.size)=some cs.size) :
  (results fn tmps).run P w=.ok (.tuple #[.agg cs,tmps.getD u undef]) w:=by
 rw[results_cell_tmp h,hp];simp[asAddr,run_loadVar_row w g t ty cs fr d hg hu hd hi]
end
end Go.Proofs.YtofjpdgojoppbaaGreatDoor
