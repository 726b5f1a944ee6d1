/-
  Of the claim's proof: AwT, LbC, LbD, LbE, LbQ, LbF, LbG, LbH, LbI, LbJ, LbK, LbL, LbZ, LbT.
-/
import Derived.Test.YtofjpdgojoppbaaGreatDoorG02
import Derived.Test.YtofjpdgojoppbaaGreatDoorG03
import Derived.Test.YtofjpdgojoppbaaGreatDoorG04
set_option maxRecDepth 100000
set_option maxHeartbeats 16000000
set_option linter.unusedVariables false
set_option linter.unusedSimpArgs false
namespace Go.Proofs.YtofjpdgojoppbaaGreatDoor
section
open Go
section
variable {P:Program} {ops:Array Oper} {a0:Act} {M:Rel} {F:World→Prop}
theorem zdx {L:Array Bool} {i:Nat} (h:i<L.size) (b c:Bool):L.getD i b=L.getD i c:=by simp[h]
theorem Mid.any_two {sl:Nat→Slot} {z:Nat} (hF:zau M F) (hg:za8 ops a0.tmps.size=true) (hlk:zbw ops a0.tmps.size=true) (hz:ops.size=z+2) (hl1:zbk ops z=true) (hl2:zbk ops (z+1)=true)
  (hst:∀ j o,ops[j]? = some o→(sl j).steady M)
  (hsl:∀ j o,j<z→ops[j]? = some o→OpOK P ops M F o (fun t=>slotOf ops a0 sl (fun _=>true) t j) (sl j)) {Q:Exit→Act→World→Prop}
  (hQ:∀ L a w,(∀ i,i<z→L.getD i false=true)→L.getD z false=false→L.getD (z+1) false=false→Mid ops F a0 sl L a w→wpOp P ops Q z (wpOp P ops Q (z+1) (fun a' w'=>Q .normal a' w')) a w) :
  ∀ (fuel:Nat) (L:Array Bool) (a:Act) (w:World),L.getD z false=false→L.getD (z+1) false=false→Mid ops F a0 sl L a w→((List.range ops.size).filter fun i=>!L.getD i false).length≤fuel→wpAny P .any ops Q fuel L a w:=by
 have none_ready:∀ L:Array Bool,L.size=ops.size→(∀ i,i<ops.size→L.getD i false=true)→Region.ready .any ops L=[]:=by
  intro L hs hall;rcases hr:Region.ready .any ops L with _ | ⟨i,r⟩
  ·rfl
  ·have hi:i∈Region.ready .any ops L:=by rw[hr];simp
   obtain⟨hun,o,ho,_⟩:=mem_ready.1 hi;have hil:i<ops.size:=(Array.getElem?_eq_some_iff.1 ho).1;have hiL:i<L.size:=by rw[hs];exact hil
   have:=hall i hil;simp[hiL] at hun this;rw[hun] at this;cases this
 have full:∀ L a w,Mid ops F a0 sl L a w→Region.ready .any ops L=[] → ∀ i,i<ops.size→L.getD i false=true:=by
  intro L a w hm hr i
  induction i using Nat.strongRecOn with
  | _ i ih=>
   intro hi;cases hL:L.getD i false with
   | true=>rfl
   | false=>
    have ho:ops[i]? = some ops[i]:=Array.getElem?_eq_getElem hi;have:i∈Region.ready .any ops L:=mem_ready.2 ⟨by
     have hiL:i<L.size:=by rw[hm.size];exact hi
     simp[hiL] at hL⊢;exact hL,_,ho,fun e he hb=>by
      have hlt:=(zaM hg ho).1 e he hb;exact ih e.on hlt (by omega)⟩
    rw[hr] at this;cases this
 have two:∀ L:Array Bool,L.getD z false=false→L.getD (z+1) false=false→2≤((List.range ops.size).filter fun i=>!L.getD i false).length:=by
  intro L h1 h2;rw[hz,List.range_succ,List.range_succ,List.filter_append,List.filter_append];have e1:List.filter (fun i=>!L.getD i false) [z]=[z]:=by rw[List.filter_cons_of_pos (by rw[h1];rfl)];rfl
  have e2:List.filter (fun i=>!L.getD i false) [z+1]=[z+1]:=by rw[List.filter_cons_of_pos (by rw[h2];rfl)];rfl
  rw[e1,e2];simp
 intro fuel
 induction fuel with
 | zero=>
  intro L a w hz0 hz1 hm hc;have:=two L hz0 hz1;omega
 | succ fuel ih=>
  intro L a w hz0 hz1 hm hc;refine⟨fun hr=>?_,fun i hi=>?_⟩
  ·have hall:=full L a w hm hr z (by omega)
   rw[hz0] at hall;cases hall
  ·obtain⟨hun,o,ho,hready⟩:=mem_ready.1 hi
   have hil:i<ops.size:=(Array.getElem?_eq_some_iff.1 ho).1;have hiL:i<L.size:=by rw[hm.size];exact hil
   have hbefore:zbk ops i=true → ∀ j,j<i→L.getD j false=true:=fun hlast j hj=>by
    have hanc:=zcq (ops:=ops) (L:=fun j=>L.getD j false) hm.down i ((o.after.toList.filter (Region.binds .any)).map (·.on)) (fun j hj=>by
     obtain⟨e,he,rfl⟩:=List.mem_map.1 hj;obtain⟨h1,h2⟩:=List.mem_filter.1 he;exact hready e (Array.mem_toList_iff.1 h1) h2)
    unfold zbk at hlast;simp only[ho] at hlast;exact hanc j (by simpa using List.all_eq_true.1 hlast j (List.mem_range.2 hj))
   rcases Nat.lt_trichotomy i z with hiz | hiz | hiz
   ·refine wpOp_mono (fun a' w' hm'=>ih _ _ _ (by rw[getD_set_ne false (by omega)];exact hz0) (by rw[getD_set_ne false (by omega)];exact hz1) hm' ?_) (hm.step hF hg hst (fun p hp=>hsl i p (by omega) hp) hi fun o ho=>zeb hlk ho)
    have hlt:((List.range ops.size).filter fun j=>!(L.setIfInBounds i true).getD j false).length<((List.range ops.size).filter fun j=>!L.getD j false).length:=by
     have hmem:i∈(List.range ops.size).filter fun i=>!L.getD i false:=List.mem_filter.2 ⟨List.mem_range.2 hil,by simp[hiL] at hun⊢;exact hun⟩;have hsub:((List.range ops.size).filter fun j=>!(L.setIfInBounds i true).getD j false)=((List.range ops.size).filter fun j=>!L.getD j false).filter fun j=>j != i:=by
      rw[List.filter_filter];refine List.filter_congr fun j _=>?_;by_cases hji:i=j
      ·subst hji;simp[hiL]
      ·have hb:(j != i)=true:=by simp;omega
       rw[getD_set_ne false hji,hb,Bool.true_and]
     rw[hsub];refine List.length_filter_lt_length_iff_exists.2 ⟨i,hmem,by simp⟩
    omega
   ·subst hiz
    have hall:=hbefore hl1;have h2:=two L hz0 hz1;obtain⟨f,rfl⟩:∃ f,fuel=f+1:=⟨fuel-1,by omega⟩
    refine wpOp_mono (fun a' w' h'=>?_) (hQ L a w (fun j hj=>hall j hj) hz0 hz1 hm);have hall':∀ j,j<i+1→(L.setIfInBounds i true).getD j false=true:=fun j hj=>by
     by_cases hji:i=j
     ·subst hji;simp[hiL]
     ·rw[getD_set_ne false hji];exact hall j (by omega)
    have ho2:ops[i+1]? = some ops[i+1]:=Array.getElem?_eq_getElem (by omega);refine⟨fun hr=>?_,fun j hj=>?_⟩
    ·have:i+1∈Region.ready .any ops (L.setIfInBounds i true):=mem_ready.2 ⟨by
       have h3:(L.setIfInBounds i true).getD (i+1) false=false:=by rw[getD_set_ne false (by omega)];exact hz1
       have hs:i+1<(L.setIfInBounds i true).size:=by simp[hm.size];omega
       exact(zdx hs _ _).trans h3,_,ho2,fun e he hb=>hall' _ ((zaM hg ho2).1 e he hb)⟩
     rw[hr] at this;cases this
    ·obtain⟨hunj,oj,hoj,_⟩:=mem_ready.1 hj
     have hjl:j<ops.size:=(Array.getElem?_eq_some_iff.1 hoj).1;have hj1:j=i+1:=by
      rcases Nat.lt_or_ge j (i+1) with h | h
      ·have h3:=hall' j h
       have hs:j<(L.setIfInBounds i true).size:=by simp[hm.size];omega
       rw[zdx hs true false,h3] at hunj;cases hunj
      ·omega
     subst hj1;refine wpOp_mono (fun a2 w2 hq=>?_) h';have hn:Region.ready .any ops ((L.setIfInBounds i true).setIfInBounds (i+1) true)=[]:=none_ready _ (by simp[hm.size]) fun k hk=>by
      by_cases hki:i+1=k
      ·subst hki
       have hs:i+1<L.size:=by rw[hm.size];omega
       simp[hs]
      ·rw[getD_set_ne false hki];exact hall' k (by omega)
     cases f with
     | zero=>exact⟨hn,hq⟩
     | succ f=>exact⟨fun _=>hq,fun k hk=>by rw[hn] at hk;cases hk⟩
   ·have hi1:i=z+1:=by omega
    subst hi1;have:=hbefore hl2 z (by omega);rw[hz0] at this;cases this
def zdq (P:Program) (ops:Array Oper) (F:World→Prop) (a0:Act) (Q:Exit→Act→World→Prop) (z1 z2:Oper) (g:Nat→Slot):Prop:=
 ∀ a w,F w→a.tmps.size=a0.tmps.size→a.defers=a0.defers→(∀ t,t<a0.tmps.size→(g t).ok (a.tmps.getD t undef) w)→wpList P ops Q [z1,z2] a w
theorem zcJ {id:Nat} {Q:Exit→Act→World→Prop} {w:World} (M:Rel) (F:World→Prop) (hF:zau M F) (hF0:F { w with drawn:=w.drawn+1 }) {l:List Oper} {z1 z2:Oper} (hm:P.follows .mixedOrders=true) (hg:za8 (l++[z1,z2]).toArray a0.tmps.size=true) (hlk:zbw (l++[z1,z2]).toArray a0.tmps.size=true)
  (hl1:zbk (l++[z1,z2]).toArray l.length=true) (hl2:zbk (l++[z1,z2]).toArray (l.length+1)=true)
  (h:AW P (l++[z1,z2]).toArray M F (zdq P (l++[z1,z2]).toArray F a0 Q z1 z2) l (fun t=>.val (a0.tmps.getD t undef))):(Code.region id (l++[z1,z2]).toArray true).wp P Q a0 w:=by
 obtain⟨sl,env,_,hfar,hsl,he,hR⟩:=AW.slots (a0:=a0) (ops:=(l++[z1,z2]).toArray) l 0 _ (fun _=>.val undef) (fun j o hj=>by simpa[List.getElem?_append_left (List.getElem?_eq_some_iff.1 hj).1] using hj) (fun _=>rfl) h;simp only[Nat.zero_add] at he hsl hfar;have hsz:(l++[z1,z2]).toArray.size=l.length+2:=by simp
 have hzs:(l++[z1,z2]).toArray[l.length]? = some z1:=by simp
 have hzs2:(l++[z1,z2]).toArray[l.length+1]? = some z2:=by simp
 refine wp_region_any hm (Mid.any_two (z:=l.length) (M:=M) hF hg hlk hsz hl1 hl2 (fun j o ho=>?_) (fun j o hj ho=>(hsl j o (Nat.zero_le _) hj ho).2) (fun L a w' hall hz0 hz1 hm=>?_) _ _ _ _ (zds _ _) (zds _ _) (Mid.start hF0) ?_)
 ·rcases Nat.lt_or_ge j l.length with hj | hj
  ·exact(hsl j o (Nat.zero_le _) hj ho).1
  ·rw[hfar j hj];exact trivial
 ·have:=hR a w' hm.frame hm.tmps hm.defers (fun t ht=>by
   have hs:=hm.slots t ht;have e:slotOf (l++[z1,z2]).toArray a0 sl (fun j=>L.getD j false) t (l++[z1,z2]).toArray.size=slotOf (l++[z1,z2]).toArray a0 sl (fun _=>true) t l.length:=by
    rw[za5 _ a0 (i:=l.length) _ (by omega) fun j h1 h2 _=>by
     have:j=l.length∨j=l.length+1:=by omega
     rcases this with rfl | rfl
     ·exact hz0
     ·exact hz1]
    exact zaJ _ a0 l.length fun j hj _=>hall j hj
   rw[e,←he t] at hs;exact hs)
  have e2:(wpOp P (l++[z1,z2]).toArray Q (l.length+1) fun a' w'=>Q Exit.normal a' w')=fun a w=>wpList P (l++[z1,z2]).toArray Q [z2] a w:=by
   funext a w
   simp[wpOp,hzs2,wpList]
  rw[e2];simpa[wpOp,hzs,wpList] using this
 ·exact Nat.le_trans (List.length_filter_le _ _) (by simp)
theorem AWq.two {Q:Exit→Act→World→Prop} {w0:World} {b:Act} {A:Anys} {z1 z2:Oper} (hs:b.tmps.size=a0.tmps.size) (hd:b.defers=a0.defers) (hk:zee b.tmps.size A=true)
  (h:∀ w,Ext w0 w→zo (wpList P ops Q [z1,z2]) w A b):AWq P ops M w0 (zdq P ops (Ext w0) a0 Q z1 z2) [] b A:=
 fun a w he hsz hdf hsl=>zaN A b hk (by rw[hs,hsz]) (by rw[hd,hdf]) (fun t ht=>hsl t (by rw[←hs];exact ht)) (h w he)
theorem zby {id:Nat} {L pre:List Oper} {z1 z2:Oper} {Q:Exit→Act→World→Prop} {w:World} (hpre:L.dropLast.dropLast=pre) (hz1:L.dropLast.getLast? = some z1) (hz2:L.getLast? = some z2) (hm:P.follows .mixedOrders=true) (hg:za8 L.toArray a0.tmps.size=true) (hlk:zbw L.toArray a0.tmps.size=true)
  (hl1:zbk L.toArray (L.length-2)=true) (hl2:zbk L.toArray (L.length-1)=true)
  (h:AWq P L.toArray Rel.ext w (zdq P L.toArray (Ext w) a0 Q z1 z2) pre a0 []):(Code.region id L.toArray true).wp P Q a0 w:=by
 have tail:∀ {A:List Oper} {z:Oper},A.getLast? = some z→A=A.dropLast++[z]:=fun {A z} hz=>by
  have hne:A≠[]:=by rintro rfl;cases hz
  rw[List.getLast?_eq_some_getLast hne] at hz;injection hz with hz
  rw[←hz,List.dropLast_concat_getLast hne]
 have hL:L=pre++[z1,z2]:=by
  have h1:=tail hz1;rw[hpre] at h1;have h2:=tail hz2;rw[h1] at h2;simpa using h2
 subst hL;have e1:(pre++[z1,z2]).length-2=pre.length:=by simp
 have e2:(pre++[z1,z2]).length-1=pre.length+1:=by simp
 rw[e1] at hl1;rw[e2] at hl2;exact zcJ Rel.ext (Ext w) (Ext.steady w) (Ext.drew w) hm hg hlk hl1 hl2 h
theorem zjF {Q : Exit → Act → World → Prop} {z : Nat} (hg : za8 ops a0.tmps.size = true) (hl : ∀ j, z ≤ j → j < ops.size → zbk ops j = true) :
    ∀ (n k fuel : Nat) (L : Array Bool) (a : Act) (w : World), z ≤ k → k + n = ops.size → L.size = ops.size → (∀ j, L.getD j false = decide (j < k)) → n ≤ fuel → wpOps P ops Q (List.range' k n) a w → wpAny P .any ops Q fuel L a w := by
  have before : ∀ (L : Array Bool) (k i : Nat), L.size = ops.size → (∀ j, L.getD j false = decide (j < k)) → z ≤ k → i ∈ Region.ready .any ops L → i = k := by
    intro L k i hs hL hzk hi
    obtain ⟨hun, o, ho, hready⟩ := mem_ready.1 hi
    have hil : i < ops.size := (Array.getElem?_eq_some_iff.1 ho).1
    have hki : k ≤ i := by
      rcases Nat.lt_or_ge i k with h | h
      · rw [zdx (by omega) true false, hL] at hun
        simp [h] at hun
      · exact h
    have hanc := zcq (ops := ops) (L := fun j => L.getD j false) (fun i o h1 h2 e he _ => by
      have := (zaM hg h2).1 e he
      simp only [hL, decide_eq_true_eq] at h1 ⊢
      rename_i hb
      have := this hb
      omega) i ((o.after.toList.filter (Region.binds .any)).map (·.on)) (fun j hj => by
      obtain ⟨e, he, rfl⟩ := List.mem_map.1 hj
      obtain ⟨h1, h2⟩ := List.mem_filter.1 he
      exact hready e (Array.mem_toList_iff.1 h1) h2)
    have hlast := hl i (by omega) hil
    unfold zbk at hlast
    simp only [ho] at hlast
    rcases Nat.lt_or_ge k i with h | h
    · have := hanc k (by simpa using List.all_eq_true.1 hlast k (List.mem_range.2 h))
      simp only [hL, decide_eq_true_eq] at this
      omega
    · omega
  intro n
  induction n with
  | zero =>
    intro k fuel L a w hzk hkn hs hL hf h
    have hn : Region.ready .any ops L = [] := by
      rcases hr : Region.ready .any ops L with _ | ⟨i, r⟩
      · rfl
      · have hi : i ∈ Region.ready .any ops L := by rw [hr]; simp
        have e := before L k i hs hL hzk hi
        obtain ⟨_, o, ho, _⟩ := mem_ready.1 hi
        have := (Array.getElem?_eq_some_iff.1 ho).1
        omega
    have hq : Q .normal a w := by simpa [wpOps] using h
    cases fuel with
    | zero => exact ⟨hn, hq⟩
    | succ f => exact ⟨fun _ => hq, fun k hk => by rw [hn] at hk; cases hk⟩
  | succ n ih =>
    intro k fuel L a w hzk hkn hs hL hf h
    obtain ⟨f, rfl⟩ : ∃ f, fuel = f + 1 := ⟨fuel - 1, by omega⟩
    rw [List.range'_succ, wpOps_cons] at h
    have ho : ops[k]? = some ops[k] := Array.getElem?_eq_getElem (by omega)
    refine ⟨fun hr => ?_, fun i hi => ?_⟩
    · have : k ∈ Region.ready .any ops L := mem_ready.2 ⟨by rw [zdx (by omega) true false, hL]; simp, _, ho, fun e he hb => by
          have := (zaM hg ho).1 e he hb
          rw [hL]; simpa using this⟩
      rw [hr] at this; cases this
    · obtain rfl := before L k i hs hL hzk hi
      refine wpOp_mono (fun a' w' h' => ih (i + 1) f _ a' w' (by omega) (by omega) (by simp [hs]) (fun j => ?_) (by omega) h') h
      by_cases hji : i = j
      · subst hji
        have : i < L.size := by omega
        simp [this]
      · rw [getD_set_ne false hji, hL]
        simp
        omega
theorem Mid.any_tail {sl : Nat → Slot} {z : Nat} (hF : zau M F) (hg : za8 ops a0.tmps.size = true) (hlk : zbw ops a0.tmps.size = true) (hz : z < ops.size) (hl : ∀ j, z ≤ j → j < ops.size → zbk ops j = true)
    (hst : ∀ j o, ops[j]? = some o → (sl j).steady M)
    (hsl : ∀ j o, j < z → ops[j]? = some o → OpOK P ops M F o (fun t => slotOf ops a0 sl (fun _ => true) t j) (sl j)) {Q : Exit → Act → World → Prop}
    (hQ : ∀ L a w, (∀ i, i < z → L.getD i false = true) → (∀ i, z ≤ i → L.getD i false = false) → Mid ops F a0 sl L a w → wpOps P ops Q (List.range' z (ops.size - z)) a w) :
    ∀ (fuel : Nat) (L : Array Bool) (a : Act) (w : World), (∀ i, z ≤ i → L.getD i false = false) → Mid ops F a0 sl L a w → ((List.range ops.size).filter fun i => !L.getD i false).length ≤ fuel → wpAny P .any ops Q fuel L a w := by
  have full : ∀ L a w, Mid ops F a0 sl L a w → Region.ready .any ops L = [] → ∀ i, i < ops.size → L.getD i false = true := by
    intro L a w hm hr i
    induction i using Nat.strongRecOn with
    | _ i ih =>
      intro hi
      cases hL : L.getD i false with
      | true => rfl
      | false =>
        have ho : ops[i]? = some ops[i] := Array.getElem?_eq_getElem hi
        have : i ∈ Region.ready .any ops L := mem_ready.2 ⟨(zdx (by rw [hm.size]; exact hi) _ _).trans hL, _, ho, fun e he hb => by
            have hlt := (zaM hg ho).1 e he hb
            exact ih e.on hlt (by omega)⟩
        rw [hr] at this; cases this
  intro fuel
  induction fuel with
  | zero =>
    intro L a w hun hm hc
    have hmem : z ∈ (List.range ops.size).filter fun i => !L.getD i false := List.mem_filter.2 ⟨List.mem_range.2 hz, by rw [hun z (Nat.le_refl _)]; rfl⟩
    have := List.length_pos_of_mem hmem
    omega
  | succ fuel ih =>
    intro L a w hun hm hc
    by_cases hall : ∀ i, i < z → L.getD i false = true
    · refine zjF (a0 := a0) hg hl (ops.size - z) z _ L a w (Nat.le_refl _) (by omega) hm.size (fun j => ?_) ?_ (hQ L a w hall hun hm)
      · rcases Nat.lt_or_ge j z with h | h
        · rw [hall j h]; simp [h]
        · rw [hun j h]; simp; omega
      · have e : (List.range ops.size).filter (fun i => !L.getD i false) = (List.range ops.size).filter fun i => decide (z ≤ i) := List.filter_congr fun j _ => by
          rcases Nat.lt_or_ge j z with h | h
          · rw [hall j h]; simp; omega
          · rw [hun j h]; simp [h]
        rw [e] at hc
        have e2 : (List.range ops.size).filter (fun i => decide (z ≤ i)) = List.range' z (ops.size - z) := by
          obtain ⟨d, hd⟩ := Nat.le.dest (Nat.le_of_lt hz)
          rw [← hd, Nat.add_sub_cancel_left]
          clear hd e hc
          rw [List.range_add, List.filter_append, List.filter_eq_nil_iff.2 (by simp), List.nil_append, List.filter_eq_self.2 (by simp), List.range'_eq_map_range]
        rw [e2, List.length_range'] at hc
        exact hc
    · refine ⟨fun hr => ?_, fun i hi => ?_⟩
      · have := full L a w hm hr z hz
        rw [hun z (Nat.le_refl _)] at this; cases this
      · obtain ⟨hunl, o, ho, hready⟩ := mem_ready.1 hi
        have hil : i < ops.size := (Array.getElem?_eq_some_iff.1 ho).1
        have hiL : i < L.size := by rw [hm.size]; exact hil
        have hiz : i < z := by
          rcases Nat.lt_or_ge i z with h | h
          · exact h
          · exfalso
            have hanc := zcq (ops := ops) (L := fun j => L.getD j false) hm.down i ((o.after.toList.filter (Region.binds .any)).map (·.on)) (fun j hj => by
              obtain ⟨e, he, rfl⟩ := List.mem_map.1 hj
              obtain ⟨h1, h2⟩ := List.mem_filter.1 he
              exact hready e (Array.mem_toList_iff.1 h1) h2)
            have hlast := hl i h hil
            unfold zbk at hlast
            simp only [ho] at hlast
            exact hall fun j hj => hanc j (by simpa using List.all_eq_true.1 hlast j (List.mem_range.2 (by omega)))
        refine wpOp_mono (fun a' w' hm' => ih _ _ _ (fun j hj => by rw [getD_set_ne false (by omega)]; exact hun j hj) hm' ?_) (hm.step hF hg hst (fun p hp => hsl i p hiz hp) hi fun o ho => zeb hlk ho)
        have hlt : ((List.range ops.size).filter fun j => !(L.setIfInBounds i true).getD j false).length < ((List.range ops.size).filter fun j => !L.getD j false).length := by
          have hmem : i ∈ (List.range ops.size).filter fun i => !L.getD i false := List.mem_filter.2 ⟨List.mem_range.2 hil, by rw [zdx hiL true false] at hunl; rw [hunl]; rfl⟩
          have hsub : ((List.range ops.size).filter fun j => !(L.setIfInBounds i true).getD j false) = ((List.range ops.size).filter fun j => !L.getD j false).filter fun j => j != i := by
            rw [List.filter_filter]
            refine List.filter_congr fun j _ => ?_
            by_cases hji : i = j
            · subst hji; simp [hiL]
            · have hb : (j != i) = true := by simp; omega
              rw [getD_set_ne false hji, hb, Bool.true_and]
          rw [hsub]
          refine List.length_filter_lt_length_iff_exists.2 ⟨i, hmem, by simp⟩
        omega
theorem zeX {Q:Exit→Act→World→Prop}:∀ (tl l:List Oper) (a:Act) (w:World),ops=(l++tl).toArray→wpList P ops Q tl a w→wpOps P ops Q (List.range' l.length tl.length) a w
 | [],l,a,w,_,h=>by simpa[wpOps,wpList] using h
 | o::tl,l,a,w,he,h=>by
  have ho:ops[l.length]? = some o:=by rw[he];simp
  have ih:=fun a w=>zeX (Q:=Q) tl (l++[o]) a w (by rw[he];simp);simp only[List.length_append,List.length_singleton] at ih;rw[List.length_cons,List.range'_succ,wpOps_cons];have hm:wpOp P ops Q l.length (fun a w=>wpList P ops Q tl a w) a w:=by simpa[wpOp,ho,wpList] using h
  exact wpOp_mono ih hm
def zgW (P:Program) (ops:Array Oper) (F:World→Prop) (a0:Act) (Q:Exit→Act→World→Prop) (tl:List Oper) (g:Nat→Slot):Prop:=
 ∀ a w,F w→a.tmps.size=a0.tmps.size→a.defers=a0.defers→(∀ t,t<a0.tmps.size→(g t).ok (a.tmps.getD t undef) w)→wpList P ops Q tl a w
def tailB (ops:Array Oper) (k:Nat):Bool:=(List.range ops.size).all fun j=>decide (j<k)||zbk ops j
theorem AWq.tail {Q:Exit→Act→World→Prop} {w0:World} {b:Act} {A:Anys} {tl:List Oper} (hs:b.tmps.size=a0.tmps.size) (hd:b.defers=a0.defers) (hk:zee b.tmps.size A=true)
  (h:∀ w,Ext w0 w→zo (wpList P ops Q tl) w A b):AWq P ops M w0 (zgW P ops (Ext w0) a0 Q tl) [] b A:=
 fun a w he hsz hdf hsl=>zaN A b hk (by rw[hs,hsz]) (by rw[hd,hdf]) (fun t ht=>hsl t (by rw[←hs];exact ht)) (h w he)
theorem zbO {id:Nat} {L pre tl:List Oper} {Q:Exit→Act→World→Prop} {w:World} (k:Nat) (hpre:L.take k=pre) (htl:L.drop k=tl) (hk:k<L.length) (hm:P.follows .mixedOrders=true) (hg:za8 L.toArray a0.tmps.size=true) (hlk:zbw L.toArray a0.tmps.size=true)
  (hl:tailB L.toArray k=true)
  (h:AWq P L.toArray Rel.ext w (zgW P L.toArray (Ext w) a0 Q tl) pre a0 []):(Code.region id L.toArray true).wp P Q a0 w:=by
 have hL:L=pre++tl:=by rw[←hpre,←htl,List.take_append_drop]
 have hkl:pre.length=k:=by rw[←hpre,List.length_take];omega
 subst hL;obtain⟨sl,env,_,hfar,hsl,he,hR⟩:=AW.slots (a0:=a0) (ops:=(pre++tl).toArray) pre 0 _ (fun _=>.val undef) (fun j o hj=>by simpa[List.getElem?_append_left (List.getElem?_eq_some_iff.1 hj).1] using hj) (fun _=>rfl) h;simp only[Nat.zero_add] at he hsl hfar;have hsz:(pre++tl).toArray.size=pre.length+tl.length:=by simp
 refine wp_region_any hm (Mid.any_tail (z:=pre.length) (M:=Rel.ext) (F:=Ext w) (Ext.steady w) hg hlk (by rw[hkl];simpa using hk) (fun j h1 h2=>?_) (fun j o ho=>?_) (fun j o hj ho=>(hsl j o (Nat.zero_le _) hj ho).2) (fun L a w' hall hz0 hm=>?_) _ _ _ _ (fun i _=>zds _ _) (Mid.start (Ext.drew w)) ?_)
 ·unfold tailB at hl
  have:=List.all_eq_true.1 hl j (List.mem_range.2 h2);simp only[Bool.or_eq_true,decide_eq_true_eq] at this;rcases this with h | h
  ·omega
  ·exact h
 ·rcases Nat.lt_or_ge j pre.length with hj | hj
  ·exact(hsl j o (Nat.zero_le _) hj ho).1
  ·rw[hfar j hj];exact trivial
 ·have:=hR a w' hm.frame hm.tmps hm.defers (fun t ht=>by
   have hs:=hm.slots t ht;have e:slotOf (pre++tl).toArray a0 sl (fun j=>L.getD j false) t (pre++tl).toArray.size=slotOf (pre++tl).toArray a0 sl (fun _=>true) t pre.length:=by
    rw[za5 _ a0 (i:=pre.length) _ (by omega) fun j h1 h2 _=>hz0 j h1];exact zaJ _ a0 pre.length fun j hj _=>hall j hj
   rw[e,←he t] at hs;exact hs)
  have hn:(pre++tl).toArray.size-pre.length=tl.length:=by omega
  rw[hn];exact zeX tl pre a w' rfl this
 ·exact Nat.le_trans (List.length_filter_le _ _) (by simp)
end
end
section
open Go.RowKit
def lebB (n:Nat):ByteArray:=⟨(lebL n).toArray⟩
theorem zjf {n:Nat} (h:n≤127):lebB n=⟨#[UInt8.ofNat n]⟩:=by unfold lebB;rw[zaF h]
theorem zmc {n:Nat} (h:127<n):lebB n=⟨#[UInt8.ofNat (n%128+128)]⟩++lebB (n/128):=by
 unfold lebB;rw[zcS h];apply ByteArray.ext;simp
theorem zeH (n:Nat):(lebB n).size=(lebL n).length:=by simp[lebB,ByteArray.size]
theorem zdV {n:Nat} (h:n<9223372036854775808):(lebB n).size≤9:=by rw[zeH];exact zcg h
theorem zeO (w:World) (z:Int):(convert 48 9 (.slice (some ⟨w.heap.size,0,none⟩) 1 1)).run Tryz.prog (w.alloc (.cells #[.int .u8 z] 5))=.ok (.string ⟨#[UInt8.ofNat z.toNat]⟩) (w.alloc (.cells #[.int .u8 z] 5)):=by
 rw[run_convert_bytes_string _ _ _ 5 _ _ _ Tryz.underlying48 Tryz.underlying5 Tryz.underlying9];rw[run_bytesToString _ _ _ _ [z] (by simp[go_sem])];rfl
def numB (z:Int):ByteArray:=if z<0 then⟨#[UInt8.ofNat (z%256).toNat]⟩ else lebB z.toNat
theorem zlY (n:Nat):numB (n:Int)=lebB n:=by unfold numB;rw[if_neg (by omega)];rfl
theorem zah {z:Int} (h:z≤9223372036854775807):(numB z).size≤9:=by
 unfold numB;by_cases h0:z<0
 ·rw[if_pos h0];show(1:Nat)≤9;omega
 ·rw[if_neg h0];exact zdV (by omega)
theorem zck (w:World) (n:Nat) (hn:n<9223372036854775808):Calls Tryz.prog 46 #[.int .i64 n] w (Ret (.string (lebB n)) w):=by
 go_enter Tryz.func46,Tryz.ntmps46;go_wp2_with fail
 go_loopw [0,3] (fun s0 s3 wr=>∃ (m:Nat) (acc:ByteArray),m≤n∧s0=.int .i64 m∧s3=.string acc∧Hid (acc++lebB m=lebB n)∧Ext w wr) (fun s0 _ _=>(intOf s0).toNat)
 case atStart=>exact⟨n,⟨#[]⟩,Nat.le_refl _,rfl,rfl,by unfold Hid;apply ByteArray.ext;simp,Ext.refl _⟩
 case round=>
  obtain⟨m,acc,hm,rfl,rfl,hacc,hE⟩:=hrel;have HE:=hid hE;have hsz:acc.size≤9:=by
   have h1:=congrArg ByteArray.size hacc.out;rw[ByteArray.size_append] at h1;have:=zdV hn;omega
  clear hE;by_cases hb:127<m
  ·have d0:decide ((127:Int)<m)=true:=decide_eq_true (by omega)
   have d0':decide (127<m)=true:=decide_eq_true hb;have hc:=fun W=>zeO W ((m:Int)%128+128);rw[show((m:Int)%128+128).toNat=m%128+128 by omega] at hc;have HS:=hid hacc.out;rw[zmc hb] at HS;clear hacc;generalize UInt8.ofNat (m%128+128)=z at hc HS;go_wp2_with fail
   go_roundw
   case rel=>exact⟨m/128,acc++⟨#[z]⟩,by omega,by go_num,rfl,by unfold Hid;rw[←HS.out];apply ByteArray.ext;simp,HE.out.trans (Ext.alloc _ _)⟩
   case measure=>simp[intOf];omega
  ·have d0:decide ((127:Int)<m)=false:=decide_eq_false (by omega)
   have d0':decide (127<m)=false:=decide_eq_false hb;have hc:=fun W=>zeO W (m:Int);rw[show((m:Int)).toNat=m by omega] at hc;have HS:=hid hacc.out;rw[zjf (by omega)] at HS;clear hacc;generalize UInt8.ofNat m=z at hc HS;go_wp2_with fail
   go_ret;exact⟨by rw[←HS.out];rfl,HE.out.trans (Ext.alloc _ _)⟩
def zG (s:ByteArray):ByteArray:=lebB s.size++s
theorem zbj (w:World) (s:ByteArray) (hs:s.size≤100000):Calls Tryz.prog 47 #[.string s] w (Ret (.string (zG s)) w):=by
 have HN:=fun W=>hid (zck W s.size (by omega));have h9:=zdV (n:=s.size) (by omega);unfold zG;generalize lebB s.size=p at HN h9⊢;go_enter Tryz.func47,Tryz.ntmps47;go_wp2_with fail
 refine((HN _).out).mono ?_;rintro e w1 ⟨rfl,x1⟩;go_wp2_with fail
 go_ret;exact⟨rfl,x1⟩
theorem zhZ (w:World) (n:Nat) (hn:n<9223372036854775808):Calls Tryz.prog 90 #[.int .i64 n] w (RetQ (OwnB (lebL n) w.heap.size) w):=by
 go_enter Tryz.func90,Tryz.ntmps90;go_wp2_with fail
 go_loopw [0,3] (fun s0 s3 wr=>∃ (m:Nat) (acc:List UInt8) (ov:Value),m≤n∧s0=.int .i64 m∧ov=s3∧Hid (acc++lebL m=lebL n)∧OwnB acc w.heap.size ov wr∧Ext w wr) (fun s0 _ _=>(intOf s0).toNat)
 case atStart=>exact⟨n,[],_,Nat.le_refl _,rfl,rfl,rfl,OwnB.nil _ _,Ext.refl _⟩
 case round=>
  obtain⟨m,acc,v,hm,rfl,rfl,hacc,hO,hE⟩:=hrel;have HE:=hid hE;have HO:=hid hO;have hsz:acc.length≤9:=by
   have h1:=congrArg List.length hacc.out;rw[List.length_append] at h1;have:=zcg hn;omega
  by_cases hb:127<m
  ·have d0:decide ((128:Int)≤m)=true:=decide_eq_true (by omega)
   have d0':decide (128≤m)=true:=decide_eq_true (by omega);obtain⟨v',w2,hrun,hO2,hk2⟩:=hO.push hE.size (UInt8.ofNat (m%128+128)) (by omega);rw[show(((UInt8.ofNat (m%128+128)).toNat:Nat):Int)=(m:Int)%128+128 by
    rw[UInt8.toNat_ofNat'];omega] at hrun
   have HE2:Hid (Ext w w2):=hk2.toExt hE fun q hq=>(zC hO.2 q hq).1;have HO2:=hid hO2;have HS:=hid hacc.out;rw[zcS hb] at HS;clear hacc hO2 hk2 hO hE;generalize UInt8.ofNat (m%128+128)=z at HO2 HS;go_wp2_with (at_builtin;refine zD rfl (.tmp 6) (.tmp 11) _ _ rfl rfl rfl hrun ?_)
   go_roundw
   case rel=>exact⟨m/128,acc++[z],_,by omega,by go_num,rfl,by unfold Hid;rw[←HS.out];simp,HO2.out,HE2.out⟩
   case measure=>simp[intOf];omega
  ·have d0:decide ((128:Int)≤m)=false:=decide_eq_false (by omega)
   have d0':decide (128≤m)=false:=decide_eq_false (by omega);obtain⟨v',w2,hrun,hO2,hk2⟩:=hO.push hE.size (UInt8.ofNat m) (by omega);rw[show(((UInt8.ofNat m).toNat:Nat):Int)=(m:Int) by
    rw[UInt8.toNat_ofNat'];omega] at hrun
   have HE2:Hid (Ext w w2):=hk2.toExt hE fun q hq=>(zC hO.2 q hq).1;have HO2:=hid hO2;have HS:=hid hacc.out;rw[zaF (by omega)] at HS;clear hacc hO2 hk2 hO hE;generalize UInt8.ofNat m=z at HO2 HS;go_wp2_with (at_builtin;refine zD rfl (.tmp 15) (.tmp 18) _ _ rfl rfl rfl hrun ?_)
   go_ret;exact⟨_,rfl,by rw[←HS.out];exact HO2.out,HE2.out⟩
end
section
open Go.RowKit
def InAt (w:World) (q:Nat) (s:ByteArray) (e:Int):Prop:=Blk w q 122 #[.string s,.int .i64 e]
theorem InAt.ext {w w':World} {q:Nat} {s:ByteArray} {e:Int} (h:InAt w q s e) (he:Ext w w'):InAt w' q s e:=Blk.ext h he
theorem zgF (w:World) (q:Nat) (s:ByteArray) (e:Int) (h:InAt w q s e):Calls Tryz.prog 61 #[.pointer (some ⟨q,0,none⟩)] w (Ret (.int .i64 e) w):=by
 have h:Blk w q 122 #[.string s,.int .i64 e]:=h;have c1:=h.cell (i:=1) (v:=.int .i64 e) rfl;have l1:=h.lt;clear h;go_enter Tryz.func61,Tryz.ntmps61;go_wp2_with fail
 go_ret;exact⟨rfl,Ext.refl _⟩
def zdO (s:ByteArray) (e:Int):Int:=if e=0 then s.size else 0
theorem zfM (w:World) (q:Nat) (s:ByteArray) (e:Int) (h:InAt w q s e):Calls Tryz.prog 62 #[.pointer (some ⟨q,0,none⟩)] w (Ret (.int .i64 (zdO s e)) w):=by
 have HE:=hid (zgF w q s e h);have H:Hid (Blk w q 122 #[.string s,.int .i64 e]):=h;clear h;unfold zdO;by_cases h0:e=0
 ·subst h0
  rw[if_pos rfl];go_enter Tryz.func62,Tryz.ntmps62;go_wp2_with fail
  refine(HE.out).mono ?_;rintro e w1 ⟨rfl,x1⟩;have X1:=hid x1;have h:=H.out.ext x1;have c0:=h.cell (i:=0) (v:=.string s) rfl;have l0:=h.lt;clear h x1;go_wp2_with fail
  go_ret;exact⟨rfl,X1.out⟩
 ·rw[if_neg h0]
  have d0:(e != 0)=true:=by simp[h0]
  go_enter Tryz.func62,Tryz.ntmps62;go_wp2_with fail
  refine(HE.out).mono ?_;rintro e w1 ⟨rfl,x1⟩;have X1:=hid x1;clear x1;go_wp2_with fail
  go_ret;exact⟨rfl,X1.out⟩
def zgE (e k:Int):Int:=if e=0 then k else e
theorem zfV (w:World) (q:Nat) (s:ByteArray) (e k:Int) (h:InAt w q s e):Calls Tryz.prog 110 #[.pointer (some ⟨q,0,none⟩),.int .i64 k] w (fun en w'=>en=.returned (.tuple #[])∧Keep (fun g=>g=q) w w'∧InAt w' q s (zgE e k)):=by
 have H:Hid (Blk w q 122 #[.string s,.int .i64 e]):=h;have c1:=H.out.cell (i:=1) (v:=.int .i64 e) rfl;have z1:=H.out.frozen 1;have l1:=H.out.lt;clear h;unfold zgE;by_cases h0:e=0
 ·subst h0
  rw[if_pos rfl];go_enter Tryz.func110,Tryz.ntmps110;go_wp2_with fail
  go_end0
  exact⟨rfl,Keep.setCell (S:=fun g=>g=q) (Keep.refl _ _) (p:=⟨q,1,none⟩) (.inl rfl) _,H.out.set 1 _⟩
 ·rw[if_neg h0]
  have d0:(e==0)=false:=by simp[h0]
  go_enter Tryz.func110,Tryz.ntmps110;go_wp2_with fail
  go_end0
  exact⟨rfl,Keep.refl _ _,H.out⟩
def Took (s:ByteArray) (e:Int) (k:Nat) (t s':ByteArray) (e':Int):Prop:=
 (t=⟨#[]⟩∧s'=s∧e'≠0∧(e≠0∨s.size<k))∨(e=0∧k≤s.size∧t=s.extract 0 k∧s'=s.extract k s.size∧e'=0)
theorem zlp (w:World) (q:Nat) (s:ByteArray) (e:Int) (k:Nat) (h:InAt w q s e) (hs:s.size≤1000000) (hk:k≤9223372036854775807):Calls Tryz.prog 109 #[.pointer (some ⟨q,0,none⟩),.int .i64 k] w (fun en w'=>∃ t s' e',en=.returned (.string t)∧Keep (fun g=>g=q) w w'∧InAt w' q s' e'∧Took s e k t s' e'):=by
 have HLf:=fun W (s':ByteArray) (e':Int) (h':InAt W q s' e')=>hid (zfM W q s' e' h');have HEr:=fun W (s':ByteArray) (e':Int) (h':InAt W q s' e')=>hid (zgF W q s' e' h');have HFa:=fun W (s':ByteArray) (e' k':Int) (h':InAt W q s' e')=>hid (zfV W q s' e' k' h');have H:=hid h;clear h;by_cases h0:e=0
 ·subst h0
  by_cases hb:s.size<k
  ·have d0:decide ((s.size:Int)<k)=true:=decide_eq_true (by omega)
   have d0':decide (s.size<k)=true:=decide_eq_true hb;have HT:Hid (Took s 0 k ⟨#[]⟩ s 5):=.inl ⟨rfl,rfl,by decide,.inr hb⟩;clear hb;go_enter Tryz.func109,Tryz.ntmps109;go_wp2_with fail
   refine((HLf _ _ _ H.out).out).mono ?_;rintro e w1 ⟨rfl,x1⟩;have H1:=hid (H.out.ext x1);have K1:=hid (Keep.of_ext (S:=fun g=>g=q) x1);rw[show zdO s 0=(s.size:Int) from if_pos rfl];clear x1;go_wp2_with fail
   refine((HFa _ _ _ 5 H1.out).out).mono ?_;rintro e w2 ⟨rfl,k2,h2⟩;have H2:=hid h2;have K2:=hid (K1.out.trans k2);rw[show zgE 0 5=5 from rfl] at H2;clear k2 h2;go_wp2_with fail
   refine((HEr _ _ _ H2.out).out).mono ?_;rintro e w3 ⟨rfl,x3⟩;have H3:=hid (H2.out.ext x3);have K3:=hid (K2.out.ext x3);clear x3;go_wp2_with fail
   go_ret;exact⟨_,_,_,rfl,K3.out,H3.out,HT.out⟩
  ·have d0:decide ((s.size:Int)<k)=false:=decide_eq_false (by omega)
   have d0':decide (s.size<k)=false:=decide_eq_false hb;have hks:k≤s.size:=by omega
   have HT:Hid (Took s 0 k (s.extract 0 k) (s.extract k s.size) 0):=.inr ⟨rfl,hks,rfl,rfl,rfl⟩;clear hb;go_enter Tryz.func109,Tryz.ntmps109;go_wp2_with fail
   refine((HLf _ _ _ H.out).out).mono ?_;rintro e w1 ⟨rfl,x1⟩;have H1:=hid (H.out.ext x1);have K1:=hid (Keep.of_ext (S:=fun g=>g=q) x1);rw[show zdO s 0=(s.size:Int) from if_pos rfl];clear x1;go_wp2_with fail
   refine((HEr _ _ _ H1.out).out).mono ?_;rintro e w3 ⟨rfl,x3⟩;have H3:=hid (H1.out.ext x3);have K3:=hid (K1.out.ext x3);have hB:Blk w3 q 122 #[.string s,.int .i64 0]:=H3.out;have c0:=hB.cell (i:=0) (v:=.string s) rfl;have z0:=hB.frozen 0;have l0:=hB.lt;clear x3 hB;go_wp2_with fail
   go_ret;exact⟨_,_,_,rfl,K3.out.setCell (S:=fun g=>g=q) (p:=⟨q,0,none⟩) (.inl rfl) _,Blk.set H3.out 0 _,HT.out⟩
 ·have HT:Hid (Took s e k ⟨#[]⟩ s e):=.inl ⟨rfl,rfl,h0,.inl h0⟩
  have hd:(e != 0)=true:=by simp[h0]
  have hl:zdO s e=0:=if_neg h0;have hf:zgE e 5=e:=if_neg h0;have HL0:=fun W (h':InAt W q s e)=>HLf W s e h';have HF0:=fun W (h':InAt W q s e)=>HFa W s e 5 h';rw[hl] at HL0;rw[hf] at HF0;clear hl hf HLf HFa h0;rcases k with _ | k
  ·go_enter Tryz.func109,Tryz.ntmps109
   go_wp2_with fail
   refine((HL0 _ H.out).out).mono ?_;rintro e w1 ⟨rfl,x1⟩;have H1:=hid (H.out.ext x1);have K1:=hid (Keep.of_ext (S:=fun g=>g=q) x1);clear x1;go_wp2_with fail
   refine((HEr _ _ _ H1.out).out).mono ?_;rintro e w3 ⟨rfl,x3⟩;have H3:=hid (H1.out.ext x3);have K3:=hid (K1.out.ext x3);clear x3;go_wp2_with fail
   go_ret;exact⟨_,_,_,rfl,K3.out,H3.out,HT.out⟩
  ·have d0:decide ((0:Int)<(k:Int)+1)=true:=decide_eq_true (by omega)
   go_enter Tryz.func109,Tryz.ntmps109;go_wp2_with fail
   refine((HL0 _ H.out).out).mono ?_;rintro e w1 ⟨rfl,x1⟩;have H1:=hid (H.out.ext x1);have K1:=hid (Keep.of_ext (S:=fun g=>g=q) x1);clear x1;go_wp2_with fail
   refine((HF0 _ H1.out).out).mono ?_;rintro e w2 ⟨rfl,k2,h2⟩;have H2:=hid h2;have K2:=hid (K1.out.trans k2);clear k2 h2;go_wp2_with fail
   refine((HEr _ _ _ H2.out).out).mono ?_;rintro e w3 ⟨rfl,x3⟩;have H3:=hid (H2.out.ext x3);have K3:=hid (K2.out.ext x3);clear x3;go_wp2_with fail
   go_ret;exact⟨_,_,_,rfl,K3.out,H3.out,HT.out⟩
end
section
open Go.RowKit
theorem zj7 {s:ByteArray} (h:1≤s.size):∃ c r,s.data.toList=c::r∧s.extract 0 1=⟨#[c]⟩∧(s.extract 1 s.size).data.toList=r:=by
 cases hl:s.data.toList with
 | nil=>
  have:s.data.toList.length=s.size:=by rw[Array.length_toList];rfl
  rw[hl] at this;simp at this;omega
 | cons c r=>
  have hlen:s.data.toList.length=s.size:=by rw[Array.length_toList];rfl
  have hd:s.data=(c::r).toArray:=by rw[←hl]
  refine⟨c,r,rfl,?_,?_⟩
  ·apply ByteArray.ext
   rw[ByteArray.data_extract,hd];simp
  ·rw[ByteArray.data_extract,hd]
   rw[hl] at hlen;rw[←hlen];simp
def Far (s:ByteArray) (e:Int) (i acc:Nat) (s':ByteArray) (e':Int):Prop:=
 ∀ n rest,e=0→n<9223372036854775808→s.data.toList=lebL n++rest → ∃ m,s'.data.toList=lebL m++rest∧Reads n i acc m∧e'=0
def Read (s:ByteArray) (e:Int) (z:Nat) (s':ByteArray) (e':Int):Prop:=
 ∀ n rest,e=0→n<9223372036854775808→s.data.toList=lebL n++rest→z=n∧s'.data.toList=rest∧e'=0
theorem zeG {m:Nat} {c:UInt8} {r rest:List UInt8} (h:c::r=lebL m++rest):(127<m∧c=UInt8.ofNat (m%128+128)∧r=lebL (m/128)++rest)∨(m≤127∧c=UInt8.ofNat m∧r=rest):=by
 by_cases hm:127<m
 ·rw[zcS hm,List.cons_append] at h
  injection h with h1 h2
  exact .inl ⟨hm,h1,h2⟩
 ·rw[zaF (by omega),List.cons_append,List.nil_append] at h
  injection h with h1 h2
  exact .inr ⟨by omega,h1,h2⟩
theorem zeM {acc i:Nat} (h:acc<128^i) (c:Nat):acc+c%128*128^i<128^(i+1):=by
 have h2:c%128<128:=Nat.mod_lt _ (by omega);have h3:c%128*128^i≤127*128^i:=Nat.mul_le_mul_right _ (by omega);rw[Nat.pow_succ];omega
theorem zfU {z i:Nat} (h:z<128^(i+1)) (hi:i<9):z<9223372036854775808:=by
 have h1:(128:Nat)^(i+1)≤128^9:=Nat.pow_le_pow_right (by omega) (by omega);have:(128:Nat)^9=9223372036854775808:=by decide
 omega
theorem zjV {acc i:Nat} (h:acc<128^i) (hi:i<9) (c:Nat):bits .or .i64 (acc:Int) (wrap64 ((c:Int)%128*2^(7*i)))=((acc+c%128*128^i:Nat):Int):=by
 have e1:wrap64 ((c:Int)%128*2^(7*i))=((c%128*128^i:Nat):Int):=by
  have:=zki (m:=c%128) (i:=i) (Nat.mod_lt _ (by omega)) hi;rw[show(7*(i:Int)).toNat=7*i by omega] at this;rw[show((c:Int)%128)=((c%128:Nat):Int) by omega];rw[IntKind.wrap_i64] at this;unfold wrap64;rw[←this]
 rw[e1,ziB (by rw[zhW h];exact zfU (zeM h c) hi),zhW h]
theorem n_c (w:World) (q:Nat) (s:ByteArray) (e:Int) (h:InAt w q s e) (hs:s.size≤1000000):Calls Tryz.prog 64 #[.pointer (some ⟨q,0,none⟩)] w (fun en w'=>∃ (z:Nat) (s':ByteArray) (e':Int),en=.returned (.int .i64 z)∧z<9223372036854775808∧Keep (fun g=>g=q) w w'∧InAt w' q s' e'∧s'.size≤s.size∧Read s e z s' e'):=by
 have HTk:=fun W (s':ByteArray) (e':Int) (h':InAt W q s' e') (hs':s'.size≤1000000)=>hid (zlp W q s' e' 1 h' hs' (by omega));have HFa:=fun W (s':ByteArray) (e' k':Int) (h':InAt W q s' e')=>hid (zfV W q s' e' k' h');have H:=hid h;clear h;go_enter Tryz.func64,Tryz.ntmps64;go_wp2_with fail
 go_loopw [3,9] (fun s3 s9 wr=>∃ (i acc:Nat) (s':ByteArray) (e':Int),i≤9∧s9=.int .i64 i∧s3=.int .i64 acc∧acc<128^i∧Hid (Keep (fun g=>g=q) w wr)∧Hid (InAt wr q s' e')∧s'.size≤s.size∧Hid (Far s e i acc s' e')) (fun _ s9 _=>9-(intOf s9).toNat)
 case atStart=>exact⟨0,0,s,e,by omega,rfl,rfl,by omega,Keep.refl _ _,H.out,Nat.le_refl _,fun n rest h0 h1 h2=>⟨n,h2,Reads.start n,h0⟩⟩
 case round=>
  obtain⟨i,acc,s',e',hi,rfl,rfl,hacc,HK,HI,hs',HFar⟩:=hrel;clear H;by_cases h9:i<9
  ·have d9:decide ((i:Int)<9)=true:=decide_eq_true (by omega)
   have d9':decide (i<9)=true:=decide_eq_true h9;go_wp2_with fail
   refine((HTk _ _ _ HI.out (by omega)).out).mono ?_;rintro en w2 ⟨t,s2,e2,rfl,k2,h2,ht⟩;have HK2:=hid (HK.out.trans k2);have HI2:=hid h2;clear k2 h2 HTk;rcases ht with⟨rfl,rfl,he2,hw⟩ | ⟨rfl,h1,rfl,rfl,rfl⟩
   ·have HR:Hid (Read s e 0 s2 e2):=fun n rest a0 a1 a2=>by
     obtain⟨m,b1,_,b3⟩:=HFar.out n rest a0 a1 a2;have hl:s2.data.toList.length=s2.size:=by rw[Array.length_toList];rfl
     rw[b1,List.length_append] at hl;have:=zcw m;rcases hw with hw | hw
     ·exact absurd b3 hw
     ·omega
    clear hw;go_wp2_with fail
    go_ret;exact⟨0,_,_,rfl,by omega,HK2.out,HI2.out,hs',HR.out⟩
   ·obtain⟨c,r,c1,c2,c3⟩:=zj7 h1
    rw[c2];have hs2:(s'.extract 1 s'.size).size≤s.size:=by
     rw[ByteArray.size_extract];omega
    have hget:(⟨#[c]⟩:ByteArray)[0]'(by show(0:Nat)<1;omega)=c:=rfl;have hor:=zjV (acc:=acc) (i:=i) hacc h9 c.toNat;have HOr:=hid hor;have hnew:=zeM hacc c.toNat;have HNew:=hid hnew;clear hor hnew c2 h1;generalize s'.extract 1 s'.size=s2 at HI2 c3 hs2;by_cases hb:128≤c.toNat
    ·have HF2:Hid (Far s e (i+1) (acc+c.toNat%128*128^i) s2 0):=fun n rest a0 a1 a2=>by
      obtain⟨m,b1,b2,_⟩:=HFar.out n rest a0 a1 a2;rw[c1] at b1;rcases zeG b1 with⟨m1,m2,m3⟩ | ⟨m1,m2,m3⟩
      ·refine⟨m/128,by rw[c3,m3],?_,rfl⟩
       have e1:c.toNat%128=m%128:=by rw[m2,UInt8.toNat_ofNat'];omega
       rw[e1];exact b2.step m1
      ·exfalso
       rw[m2,UInt8.toNat_ofNat'] at hb;omega
     have db:decide ((128:Int)≤c.toNat)=true:=decide_eq_true (by omega);clear c1 c3 HFar HI;generalize hcn:c.toNat=cn at *;clear hb;go_wp2_with fail
     go_roundw
     case rel=>exact⟨i+1,_,s2,0,by omega,by go_num,by rw[HOr.out],HNew.out,HK2.out,HI2.out,hs2,HF2.out⟩
     case measure=>simp[intOf];omega
    ·have db:decide ((128:Int)≤c.toNat)=false:=decide_eq_false (by omega)
     by_cases hz:c.toNat=0∧0<i
     ·have HR:Hid (∀ z2 s3 e3,Read s e z2 s3 e3):=fun z2 s3 e3 n rest a0 a1 a2=>by
       obtain⟨m,b1,b2,_⟩:=HFar.out n rest a0 a1 a2;rw[c1] at b1
       exfalso
       rcases zeG b1 with⟨m1,m2,m3⟩ | ⟨m1,m2,m3⟩
       ·have h3:=hz.1
        rw[m2,UInt8.toNat_ofNat'] at h3;omega
       ·have h3:=hz.1
        rw[m2,UInt8.toNat_ofNat'] at h3;have:=b2.one hz.2;omega
      obtain⟨hz1,hz2⟩:=hz;have dz:((c.toNat:Int)==0)=true:=by simp[hz1]
      have di:decide ((0:Int)<i)=true:=decide_eq_true (by omega);have di':decide (0<i)=true:=decide_eq_true hz2;clear c1 c3 HFar HI hz1 hz2 HOr;generalize hcn:c.toNat=cn at *;clear hb;go_wp2_with fail
      refine((HFa _ _ _ 6 HI2.out).out).mono ?_;rintro en w3 ⟨rfl,k3,h3⟩;have HK3:=hid (HK2.out.trans k3);have HI3:=hid h3;clear k3 h3;go_wp2_with fail
      go_ret;exact⟨0,_,_,rfl,by omega,HK3.out,HI3.out,hs2,HR.out _ _ _⟩
     ·have HR:Hid (Read s e (acc+c.toNat%128*128^i) s2 0):=fun n rest a0 a1 a2=>by
       obtain⟨m,b1,b2,_⟩:=HFar.out n rest a0 a1 a2;rw[c1] at b1;rcases zeG b1 with⟨m1,m2,m3⟩ | ⟨m1,m2,m3⟩
       ·exfalso
        have h3:=hb;rw[m2,UInt8.toNat_ofNat'] at h3;omega
       ·have e1:c.toNat%128=m:=by rw[m2,UInt8.toNat_ofNat'];omega
        exact⟨by rw[e1];exact b2.stop,by rw[c3,m3],rfl⟩
      have h63:acc+c.toNat%128*128^i<9223372036854775808:=zfU HNew.out h9;have H63:=hid h63;clear h63 c1 c3 HFar HI;have dzi:((c.toNat:Int)==0)=false∨decide (0<i)=false:=by
       by_cases h3:c.toNat=0
       ·exact .inr (decide_eq_false fun h4=>hz ⟨h3,h4⟩)
       ·exact .inl (by simp;omega)
      clear hz;generalize hcn:c.toNat=cn at *;clear hb;cases dz:((cn:Int)==0) with
      | false=>
       go_wp2_with fail
       go_ret;exact⟨_,_,_,by rw[←HOr.out];rfl,H63.out,HK2.out,HI2.out,hs2,HR.out⟩
      | true=>
       have di:decide (0<i)=false:=by
        rcases dzi with h3 | h3
        ·rw[dz] at h3;cases h3
        ·exact h3
       have di':decide ((0:Int)<i)=false:=decide_eq_false (by have:=of_decide_eq_false di;omega);clear dzi;go_wp2_with fail
       go_ret;exact⟨_,_,_,by rw[←HOr.out];rfl,H63.out,HK2.out,HI2.out,hs2,HR.out⟩
  ·obtain rfl:i=9:=by omega
   have HR:Hid (∀ z2 s3 e3,Read s e z2 s3 e3):=fun z2 s3 e3 n rest a0 a1 a2=>by
    obtain⟨m,b1,b2,_⟩:=HFar.out n rest a0 a1 a2;have:=b2.lt a1 (by omega);omega
   clear HFar HTk;go_wp2_with fail
   refine((HFa _ _ _ 6 HI.out).out).mono ?_;rintro en w3 ⟨rfl,k3,h3⟩;have HK3:=hid (HK.out.trans k3);have HI3:=hid h3;clear k3 h3;go_wp2_with fail
   go_ret;exact⟨0,_,_,rfl,by omega,HK3.out,HI3.out,hs',HR.out _ _ _⟩
def zce (s:ByteArray) (e:Int) (t s':ByteArray) (e':Int):Prop:=
 ∀ (x:ByteArray) (rest:List UInt8),e=0→s.data.toList=lebL x.size++(x.data.toList++rest)→t=x∧s'.data.toList=rest∧e'=0
theorem zmu {s x:ByteArray} {rest:List UInt8} (h:s.data.toList=x.data.toList++rest):x.size≤s.size∧s.extract 0 x.size=x∧(s.extract x.size s.size).data.toList=rest:=by
 have hl:s.data.toList.length=s.size:=by rw[Array.length_toList];rfl
 have hx:x.data.toList.length=x.size:=by rw[Array.length_toList];rfl
 have hd:s.data=(x.data.toList++rest).toArray:=by rw[←h]
 rw[h,List.length_append,hx] at hl;refine⟨by omega,?_,?_⟩
 ·apply ByteArray.ext
  apply Array.ext';rw[ByteArray.data_extract,Array.toList_extract,h,List.extract_eq_take_drop,List.drop_zero,Nat.sub_zero,←hx,List.take_left'];rfl
 ·rw[ByteArray.data_extract,Array.toList_extract,h,List.extract_eq_take_drop,←hx,List.drop_left' rfl,hx,←hl]
  rw[List.take_of_length_le (by omega)]
theorem t_c (w:World) (q:Nat) (s:ByteArray) (e:Int) (h:InAt w q s e) (hs:s.size≤1000000):Calls Tryz.prog 60 #[.pointer (some ⟨q,0,none⟩)] w (fun en w'=>∃ (t s':ByteArray) (e':Int),en=.returned (.string t)∧t.size≤s.size∧Keep (fun g=>g=q) w w'∧InAt w' q s' e'∧s'.size≤s.size∧zce s e t s' e'):=by
 have HN:=hid (n_c w q s e h hs);have HTk:=fun W (s':ByteArray) (e':Int) (z:Nat) (h':InAt W q s' e') (hs':s'.size≤1000000) (hz:z≤9223372036854775807)=>hid (zlp W q s' e' z h' hs' hz);clear h;go_enter Tryz.func60,Tryz.ntmps60;go_wp2_with fail
 refine(HN.out).mono ?_;rintro en w1 ⟨z,s1,e1,rfl,hz,k1,h1,hs1,hr1⟩;have HK1:=hid k1;have HI1:=hid h1;have HR1:=hid hr1;clear k1 h1 hr1 HN;go_wp2_with fail
 refine((HTk _ _ _ z HI1.out (by omega) (by omega)).out).mono ?_;rintro en w2 ⟨t,s2,e2,rfl,k2,h2,ht⟩;have HK2:=hid (HK1.out.trans k2);have HI2:=hid h2;clear k2 h2 HTk;have ht1:t.size≤s.size∧s2.size≤s.size:=by
  rcases ht with⟨rfl,rfl,_,_⟩ | ⟨_,h1,rfl,rfl,_⟩
  ·exact⟨Nat.zero_le _,hs1⟩
  ·rw[ByteArray.size_extract,ByteArray.size_extract]
   omega
 have HR:Hid (zce s e t s2 e2):=fun x rest a0 a1=>by
  have hx:x.size≤s.size:=by
   have hl:s.data.toList.length=s.size:=by rw[Array.length_toList];rfl
   have hx:x.data.toList.length=x.size:=by rw[Array.length_toList];rfl
   rw[a1,List.length_append,List.length_append,hx] at hl;omega
  obtain⟨b1,b2,b3⟩:=HR1.out x.size _ a0 (by omega) a1;obtain⟨c1,c2,c3⟩:=zmu b2;subst b1;rcases ht with⟨_,_,_,h4⟩ | ⟨_,_,rfl,rfl,rfl⟩
  ·rcases h4 with h4 | h4
   ·exact absurd b3 h4
   ·omega
  ·exact⟨c2,c3,rfl⟩
 obtain⟨ht1,ht2⟩:=ht1;clear ht HR1;go_wp2_with fail
 go_ret;exact⟨_,_,_,rfl,ht1,HK2.out,HI2.out,ht2,HR.out⟩
end
section
open Go.RowKit
theorem zb3 (w:World) (s:ByteArray):Calls Tryz.prog 25 #[.string s] w (RetQ (fun v w'=>∃ q,v=.pointer (some ⟨q,0,none⟩)∧w.heap.size≤q∧InAt w' q s 0) w):=by
 have HB:=hid (Blk.new w 122 #[.string s,.int .i64 0]);have HE:=hid (Ext.alloc w (.cells #[.string s,.int .i64 0] 122));go_enter Tryz.func25,Tryz.ntmps25;go_wp2_with fail
 go_ret;exact⟨_,rfl,⟨_,rfl,Nat.le_refl _,HB.out⟩,HE.out⟩
end
section
open Go.RowKit
def MidB (B:Nat) (v:Value) (acc full:List UInt8) (a b:World):Prop:=
 Keep (fun g=>v.ownBlock=some g) a b∧(B≤a.heap.size→(∀ u,OwnB full B u a→OwnB full B u b)∧(OwnB acc B v a→OwnB acc B v b))
theorem MidB.ofExt (B:Nat) (v:Value) (acc full:List UInt8) (a b:World) (h:Ext a b):MidB B v acc full a b:=⟨Keep.of_ext h,fun _=>⟨fun _ hu=>hu.ext h,fun hv=>hv.ext h⟩⟩
abbrev Rel.mid (B:Nat) (v:Value) (acc full:List UInt8):Rel:=⟨MidB B v acc full,fun w=>MidB.ofExt _ _ _ _ w w (Ext.refl w),fun _ _ _ h k=>⟨h.1.trans k.1,fun hB=>⟨fun u hu=>(k.2 (Nat.le_trans hB h.1.size)).1 u ((h.2 hB).1 u hu),fun hv=>(k.2 (Nat.le_trans hB h.1.size)).2 ((h.2 hB).2 hv)⟩⟩,MidB.ofExt B v acc full⟩
theorem OwnB.app2 {l m:List UInt8} {B:Nat} {v u:Value} {w:World} {tx:TypeId} (h:OwnB l B v w) (hB:B≤w.heap.size) (hs:Src Tryz.prog 1 tx u m.length (m.map zbl).flatten w) (hl:l.length≤1000000) (hml:m.length≤1000000):∃ v' w',(Builtin.append_ #[48,tx] 48 #[v,u]).run Tryz.prog w=.ok v' w'∧OwnB (l++m) B v' w'∧MidB B v l (l++m) w w'∧(v'.ownBlock=v.ownBlock ∨ ∀ q,v'.ownBlock=some q→w.heap.size≤q):=by
 obtain⟨v',w',hr,ho,hk,hb9⟩:=h.app hB hs hl hml;refine⟨v',w',hr,ho,⟨hk,fun _=>?_⟩,hb9⟩;rcases h.2.2 with⟨rfl,h0⟩ | ⟨g,cap,cs,rfl,hb,hg,h3,h4,h5,h6⟩
 ·have hx:Ext w w':=hk.toExt (Ext.refl _) fun q hq=>by cases hq
  exact⟨fun _ hu=>hu.ext hx,fun hv=>hv.ext hx⟩
 ·obtain⟨i,z,hi,hz,h1,h2,hzs⟩:=zeQ.2
  have hown:Own B 5 1 l.length (l.map zbl).flatten (.slice (some ⟨g,0,none⟩) l.length cap) w:=⟨hB,h.2.1,g,cap,cs,rfl,hb,hg,h3,h4,h5,h6⟩
  obtain⟨v2,w2,hr2,_,hf⟩:=zjE (P:=Tryz.prog) (ty:=48) Tryz.underlying48 hi hz h1 h2 hzs hown rfl hs (by unfold maxLen;omega) (by omega);rw[hr] at hr2;injection hr2 with e1 e2
  subst e1 e2;obtain⟨_,hf⟩:=hf hB;have hfull:((l++m).map zbl).flatten=(l.map zbl).flatten++(m.map zbl).flatten:=by rw[List.map_append,List.flatten_append]
  have hfl:((l++m).map zbl).flatten.length=(l++m).length*1:=byte_coded.flat_len _
  constructor
  ·rintro u ⟨hu1,hu2,hu3⟩
   refine⟨hu1,hu2,?_⟩;rcases hu3 with hu3 | ⟨g',cap',cs',rfl,hb',hg',a3,a4,a5,a6⟩
   ·exact .inl hu3
   ·obtain⟨cs2,b1,b2,_,b4⟩:=hf g' _ cs' hb' hg'
    refine .inr ⟨g',cap',cs2,rfl,hb',b1,a3,a4,b2.trans a5,?_⟩;rw[←hfull,hfl] at b4;exact b4 a6
  ·rintro⟨hu1,hu2,_⟩
   obtain⟨cs2,b1,b2,b3,_⟩:=hf g _ cs hb hg;refine⟨hu1,hu2,.inr ⟨g,cap,cs2,rfl,hb,b1,h3,h4,b2.trans h5,?_⟩⟩;rw[b3];exact h6
theorem AWk.two {P:Program} {ops:Array Oper} {M:Rel} {F:World→Prop} {a0:Act} {Q:Exit→Act→World→Prop} {b:Act} {A:Anys} {z1 z2:Oper} (hs:b.tmps.size=a0.tmps.size) (hd:b.defers=a0.defers) (hk:zee b.tmps.size A=true)
  (h:∀ w,F w→zo (wpList P ops Q [z1,z2]) w A b):AWk P ops M F (zdq P ops F a0 Q z1 z2) [] b A:=
 fun a w he hsz hdf hsl=>zaN A b hk (by rw[hs,hsz]) (by rw[hd,hdf]) (fun t ht=>hsl t (by rw[←hs];exact ht)) (h w he)
theorem zfg {P:Program} {a0:Act} {id:Nat} {L pre:List Oper} {z1 z2:Oper} {Q:Exit→Act→World→Prop} {w:World} (M:Rel) (F:World→Prop) (hpre:L.dropLast.dropLast=pre) (hz1:L.dropLast.getLast? = some z1) (hz2:L.getLast? = some z2) (hF:zau M F) (hF0:F w.drew) (hm:P.follows .mixedOrders=true) (hg:za8 L.toArray a0.tmps.size=true) (hlk:zbw L.toArray a0.tmps.size=true)
  (hl1:zbk L.toArray (L.length-2)=true) (hl2:zbk L.toArray (L.length-1)=true)
  (h:AWk P L.toArray M F (zdq P L.toArray F a0 Q z1 z2) pre a0 []):(Code.region id L.toArray true).wp P Q a0 w:=by
 have tail:∀ {A:List Oper} {z:Oper},A.getLast? = some z→A=A.dropLast++[z]:=fun {A z} hz=>by
  have hne:A≠[]:=by rintro rfl;cases hz
  rw[List.getLast?_eq_some_getLast hne] at hz;injection hz with hz
  rw[←hz,List.dropLast_concat_getLast hne]
 have hL:L=pre++[z1,z2]:=by
  have h1:=tail hz1;rw[hpre] at h1;have h2:=tail hz2;rw[h1] at h2;simpa using h2
 subst hL;have e1:(pre++[z1,z2]).length-2=pre.length:=by simp
 have e2:(pre++[z1,z2]).length-1=pre.length+1:=by simp
 rw[e1] at hl1;rw[e2] at hl2;exact zcJ M F hF hF0 hm hg hlk hl1 hl2 h
end
section
open Go.RowKit
theorem zgi {w:World} {B B':Nat} {e:TypeId} {sz:Nat} {v:Value} {n:Nat} {xs:List Value} (h:w.ownsRow B e sz v n xs) (hB:B'≤B):w.ownsRow B' e sz v n xs:=zap h hB
theorem putT_c (w:World) (q B:Nat) (n:Int) (s:ByteArray) (acc:List UInt8) (A:Option Addr) (c:Nat) (hq:Blk w q 48 #[.slice A acc.length c]) (hO:OwnB acc B (.slice A acc.length c) w) (hB:B≤w.heap.size) (hqn:(Value.slice A acc.length c).ownBlock≠some q) (hl:acc.length≤65536) (hs:s.size≤65536):Calls Tryz.prog 89 #[.agg #[.int .i64 n,.string s,.bool true],.pointer (some ⟨q,0,none⟩)] w (fun en w'=>en=.returned (.tuple #[]) ∧ ∃ v',Blk w' q 48 #[v']∧OwnB (acc++(lebL s.size++s.data.toList)) B v' w'∧v'.ownBlock≠some q∧Keep (fun g=>g=q∨(Value.slice A acc.length c).ownBlock=some g) w w'):=by
 have HF1:=hid (Blk.new w 140 #[.int .i64 n,.string s,.bool true]);have HQ1:=hid (hq.alloc (.cells #[.int .i64 n,.string s,.bool true] 140));have HO1:=hid (hO.ext (Ext.alloc w (.cells #[.int .i64 n,.string s,.bool true] 140)));have X1:=hid (Ext.alloc w (.cells #[.int .i64 n,.string s,.bool true] 140));have HOw:Hid (∀ g,(Value.slice A acc.length c).ownBlock=some g→g<w.heap.size):=fun g hg=>(zC hO.2 g hg).2;have HQn:=hid hqn;have hcap:acc.length≤c∧c≤9223372036854775807:=by
  obtain⟨A',c',hv,h1,h2,_⟩:=zz (code:=zbl) hO.sl;injection hv with _ _ hc
  subst hc;unfold maxLen at h2;exact⟨h1,by omega⟩
 obtain⟨hc1,hc2⟩:=hcap;have d0:decide ((65536:Int)<acc.length)=false:=decide_eq_false (by omega);have d0':decide (65536<acc.length)=false:=decide_eq_false (by omega);have q0:=HQ1.out.cell (i:=0) (v:=.slice A acc.length c) rfl;have ql:=HQ1.out.lt;have hql:=hq.lt;have f2:=HF1.out.cell (i:=2) (v:=.bool true) rfl;have fl:=HF1.out.lt;have HW:=hid hB;clear hq hO hB hqn;go_enter Tryz.func89,Tryz.ntmps89;go_wp2_with fail
 clear q0 ql f2 fl;generalize hw1:w.alloc (.cells #[.int .i64 n,.string s,.bool true] 140)=w1 at HF1 HQ1 HO1 X1⊢;have hs1:w1.heap.size=w.heap.size+1:=by rw[←hw1,World.size_alloc]
 clear hw1;generalize hgf:w.heap.size=gf at HF1 HOw hql⊢;have hmn:min (s.size:Int) 65536=(s.size:Int):=by omega
 have HN:=fun W=>hid (zhZ W s.size (by omega));have hnl:=zcg (n:=s.size) (by omega);have HB1:Hid (B≤w1.heap.size):=by have:=HW.out;unfold Hid;omega
 have HC:Hid (∀ W,(Keep (fun g=>(Value.slice A acc.length c).ownBlock=some g) w1 W∧OwnB acc B (.slice A acc.length c) W)→Blk W gf 140 #[.int .i64 n,.string s,.bool true]∧Blk W q 48 #[.slice A acc.length c]∧w1.heap.size≤W.heap.size):=fun W hW=>
  ⟨HF1.out.keep hW.1 (fun h=>by have:=HOw.out _ h;omega),HQ1.out.keep hW.1 (fun h=>HQn.out h),hW.1.size⟩
 generalize hnum:lebL s.size=num at HN hnl;refine zfg (Rel.mid B (.slice A acc.length c) acc (acc++num)) (fun W=>Keep (fun g=>(Value.slice A acc.length c).ownBlock=some g) w1 W∧OwnB acc B (.slice A acc.length c) W) (pre:=?preK) (z1:=?z1K) (z2:=?z2K) ?hpreK ?hz1K ?hz2K ?hFK ?hF0K (by kernel_rfl) (by kernel_rfl) (by kernel_rfl) (by kernel_rfl) (by kernel_rfl) ?_
 case hpreK=>(simp only[List.dropLast_cons_cons,List.dropLast_singleton];first | done | exact rfl)
 case hz1K=>(simp only[List.dropLast_cons_cons,List.dropLast_singleton,List.getLast?_cons_cons,List.getLast?_singleton];first | done | exact rfl)
 case hz2K=>(simp only[List.getLast?_cons_cons,List.getLast?_singleton];first | done | exact rfl)
 case hFK=>exact fun a b h ⟨k,o⟩=>⟨k.trans h.1,(h.2 (by have:=HB1.out;have:=k.size;omega)).2 o⟩
 case hF0K=>exact⟨Keep.of_ext (Ext.drew w1),HO1.out.ext (Ext.drew _)⟩
 repeat (first
  | (refine AWk.valE rfl rfl rfl rfl ?_;apply Exists.intro;refine And.intro (fun wc hc=>?_) ?_;(· (obtain⟨bF,bQ,_⟩:=HC.out wc hc;have r0:=bF.cell (i:=1) (v:=.string s) rfl;have r1:=bF.lt;have r2:=bQ.cell (i:=0) (v:=.slice A acc.length c) rfl;have r3:=bQ.lt;clear bF bQ hc;go_simp;dsimp only[Gives];exact⟨rfl,rfl⟩));simp only[Act.put,zq6,zq7,zq8])
  | (refine AWk.callQ (fun u W=>OwnB num w1.heap.size u W) (fun u a b h hu=>⟨hu.1,zy hu.2 h.1 (fun g hg hS=>by have h1:=(zC hu.2 g hg).1;have h2:=HOw.out g hS;omega)⟩) rfl Tryz.func90 (by kernel_rfl) (by kernel_rfl) rfl rfl rfl (fun wc hc=>?_) ?_;(· (simp only[zm,zt,↓reduceIte,Nat.reduceEqDiff,zq1,zq2,zq3,zq4,zq5];exact((HN wc).out).mono fun e w' ⟨v,e1,e2,e3⟩=>⟨v,e1,⟨e2.1,zgi e2.2 hc.1.size⟩,e3⟩)))
  | (refine AWk.opQ (fun u W=>B≤W.heap.size∧OwnB (acc++num) B u W ∧ ∀ g,u.ownBlock=some g→(Value.slice A acc.length c).ownBlock=some g∨w1.heap.size≤g) (fun u a b h hu=>⟨Nat.le_trans hu.1 h.1.size,(h.2 hu.1).1 u hu.2.1,hu.2.2⟩) rfl (fun a wc hc hl'=>⟨rfl,?_⟩) ?_;(· (have e15:a.tmps.getD 15 undef=.slice A acc.length c:=hl' 15 (of_decide_eq_true (by kernel_rfl));have e19:OwnB num w1.heap.size (a.tmps.getD 19 undef) wc:=hl' 19 (of_decide_eq_true (by kernel_rfl));have hBc:B≤wc.heap.size:=by { have:=HB1.out;have:=hc.1.size;omega };obtain⟨v',w',hr',hO',hM',hb'⟩:=hc.2.app2 hBc (zcL Tryz.underlying48 byte_coded e19.sl (Ext.refl wc)) (by omega) (by omega);exact zeJ (a:=a) (s:=.tmp 15) (x:=.tmp 19) rfl e15 rfl hr' ⟨⟨Nat.le_trans hBc hM'.1.size,hO',fun g hg=>by { rcases hb' with hb' | hb';{ exact .inl (by rw[←hb'];exact hg) };{ have h1:=hb' g hg;have h2:=hc.1.size;exact .inr (by omega) } }⟩,hM'⟩))))
 refine AWk.two rfl rfl rfl (fun w2 h2=>?_);simp only[zo,Act.put,zq6,zq7,zq8];intro v20 h20 v19 h19;clear h19;obtain⟨g1,g2,g3⟩:=h20;have hql2:q<w2.heap.size:=(HC.out w2 h2).2.1.lt;have hw2:=(HC.out w2 h2).2.2;have bq2:=(HC.out w2 h2).2.1;have hex:s.extract 0 s.size=s:=by
  apply ByteArray.ext;rw[ByteArray.data_extract];exact Array.extract_size
 have hsl:s.data.toList.length=s.size:=by rw[Array.length_toList];rfl
 obtain⟨v3,w3,hrun,hO3,hk3,hb3⟩:=g2.app g1 (zfq w2 s) (by rw[List.length_append];omega) (by rw[hsl];omega);obtain⟨A3,c3,rfl,_⟩:=zz (code:=zbl) hO3.sl;generalize hN3:((acc++num)++s.data.toList).length=N3 at hrun hO3 hb3;clear hN3;have hq20:v20.ownBlock≠some q:=fun h=>by
  rcases g3 q h with h | h
  ·exact HQn.out h
  ·omega
 have bq3:Blk w3 q 48 #[.slice A acc.length c]:=bq2.keep hk3 hq20;have hq3:(Value.slice A3 N3 c3).ownBlock≠some q:=fun h=>by
  rcases hb3 with hb3 | hb3
  ·exact hq20 (by rw[←hb3];exact h)
  ·have:=hb3 q h
   omega
 have HEnd:Hid (Blk (w3.setCell ⟨q,0,none⟩ (.slice A3 N3 c3)) q 48 #[.slice A3 N3 c3]∧OwnB (acc++(num++s.data.toList)) B (.slice A3 N3 c3) (w3.setCell ⟨q,0,none⟩ (.slice A3 N3 c3))∧(Value.slice A3 N3 c3).ownBlock≠some q∧Keep (fun g=>g=q∨(Value.slice A acc.length c).ownBlock=some g) w (w3.setCell ⟨q,0,none⟩ (.slice A3 N3 c3))):=by
  have k4:Keep (fun g=>g=q) w3 (w3.setCell ⟨q,0,none⟩ (.slice A3 N3 c3)):=Keep.setCell (S:=fun g=>g=q) (Keep.refl _ _) (p:=⟨q,0,none⟩) (.inl rfl) _;refine⟨bq3.set 0 _,?_,hq3,?_⟩
  ·have h9:OwnB (acc++(num++s.data.toList)) B (.slice A3 N3 c3) w3:=by
    have e9:(acc++num)++s.data.toList=acc++(num++s.data.toList):=List.append_assoc _ _ _;rw[←e9];exact hO3
   exact⟨h9.1,zy h9.2 k4 fun g hg hS=>hq3 (by rw[hg,hS])⟩
  ·have k1:=Keep.of_ext (S:=fun g=>g=q∨(Value.slice A acc.length c).ownBlock=some g) X1.out
   have k2:Keep (fun g=>g=q∨(Value.slice A acc.length c).ownBlock=some g) w1 w2:=h2.1.mono fun g hg=>.inr hg;refine⟨k4.os.trans (hk3.os.trans (k1.trans k2).os),k4.tape.trans (hk3.tape.trans (k1.trans k2).tape),k4.output.trans (hk3.output.trans (k1.trans k2).output),Nat.le_trans (k1.trans k2).size (Nat.le_trans hk3.size k4.size),fun k hk hn=>?_⟩;have h12:=(k1.trans k2).block k hk hn;have hkw:k<w2.heap.size:=Nat.lt_of_lt_of_le hk (k1.trans k2).size;have h23:=hk3.block k hkw fun h=>by
    rcases g3 k h with h | h
    ·exact hn (.inr h)
    ·omega
   have h34:=k4.block k (Nat.lt_of_lt_of_le hkw hk3.size) fun h=>hn (.inl h);exact h34.trans (h23.trans h12)
 have b0:=bq3.cell (i:=0) (v:=.slice A acc.length c) rfl;have z0:=bq3.frozen 0;have l0:=bq3.lt;clear hex;clear bq2 bq3 hO3 hk3 hb3 g2 g3 h2 HC HF1 HQ1 HO1 HN
 at_builtin
 refine zD rfl (.tmp 20) (.tmp 27) _ _ rfl rfl rfl hrun ?_;go_wp2_with fail
 go_end0
 refine⟨rfl,.slice A3 N3 c3,?_⟩;rw[hnum];exact HEnd.out
end
section
open Go.RowKit
theorem putN_c (w:World) (q B:Nat) (n:Nat) (s:ByteArray) (acc:List UInt8) (A:Option Addr) (c:Nat) (hn:n<9223372036854775808) (hq:Blk w q 48 #[.slice A acc.length c]) (hO:OwnB acc B (.slice A acc.length c) w) (hB:B≤w.heap.size) (hqn:(Value.slice A acc.length c).ownBlock≠some q) (hl:acc.length≤65536):Calls Tryz.prog 89 #[.agg #[.int .i64 n,.string s,.bool false],.pointer (some ⟨q,0,none⟩)] w (fun en w'=>en=.returned (.tuple #[]) ∧ ∃ v',Blk w' q 48 #[v']∧OwnB (acc++lebL n) B v' w'∧v'.ownBlock≠some q∧Keep (fun g=>g=q∨(Value.slice A acc.length c).ownBlock=some g) w w'):=by
 have HF1:=hid (Blk.new w 140 #[.int .i64 n,.string s,.bool false]);have HQ1:=hid (hq.alloc (.cells #[.int .i64 n,.string s,.bool false] 140));have HO1:=hid (hO.ext (Ext.alloc w (.cells #[.int .i64 n,.string s,.bool false] 140)));have X1:=hid (Ext.alloc w (.cells #[.int .i64 n,.string s,.bool false] 140));have HOw:Hid (∀ g,(Value.slice A acc.length c).ownBlock=some g→g<w.heap.size):=fun g hg=>(zC hO.2 g hg).2;have HQn:=hid hqn;have hcap:acc.length≤c∧c≤9223372036854775807:=by
  obtain⟨A',c',hv,h1,h2,_⟩:=zz (code:=zbl) hO.sl;injection hv with _ _ hc
  subst hc;unfold maxLen at h2;exact⟨h1,by omega⟩
 obtain⟨hc1,hc2⟩:=hcap;have d0:decide ((65536:Int)<acc.length)=false:=decide_eq_false (by omega);have d0':decide (65536<acc.length)=false:=decide_eq_false (by omega);have hql:=hq.lt;have HW:=hid hB;have HN:=fun W=>hid (zhZ W n hn);have hnl:=zcg hn;generalize hnum:lebL n=num at HN hnl;have HNum:=hid hnum;clear hq hO hB hqn hnum;generalize hw1:w.alloc (.cells #[.int .i64 n,.string s,.bool false] 140)=w1 at HF1 HQ1 HO1 X1;have hs1:Hid (w1.heap.size=w.heap.size+1):=by unfold Hid;rw[←hw1,World.size_alloc]
 have HW1:=hid hw1;clear hw1;have q0:=HQ1.out.cell (i:=0) (v:=.slice A acc.length c) rfl;have ql:=HQ1.out.lt;have f0:=HF1.out.cell (i:=0) (v:=.int .i64 n) rfl;have f2:=HF1.out.cell (i:=2) (v:=.bool false) rfl;have fl:=HF1.out.lt;go_enter Tryz.func89,Tryz.ntmps89;rw[←HW1.out] at q0 ql f0 f2 fl;go_wp2_with fail
 rw[HW1.out] at q0 ql f0 f2 fl⊢;refine zby (pre:=?pre12) (z1:=?z112) (z2:=?z212) ?hpre12 ?hz112 ?hz212 (by kernel_rfl) (by kernel_rfl) (by kernel_rfl) (by kernel_rfl) (by kernel_rfl) ?_
 case hpre12=>(simp only[List.dropLast_cons_cons,List.dropLast_singleton];first | done | exact rfl)
 case hz112=>(simp only[List.dropLast_cons_cons,List.dropLast_singleton,List.getLast?_cons_cons,List.getLast?_singleton];first | done | exact rfl)
 case hz212=>(simp only[List.getLast?_cons_cons,List.getLast?_singleton];first | done | exact rfl)
 repeat (first
  | (refine AWq.val rfl rfl rfl rfl (fun K hK=>?_);go_big_quiet_op;refine hK _ ?_;clear hK K)
  | (refine AWq.skip rfl rfl rfl ?_;simp only[Act.put,zq6,zq7,zq8])
  | (refine AWq.callQ ((fun u W=>OwnB num w1.heap.size u W)) ((fun u _ _ he h=>h.ext he)) rfl Tryz.func90 (by kernel_rfl) (by kernel_rfl) rfl rfl rfl (fun wc hc=>?_) ?_;(· (simp only[zm,zt,↓reduceIte,Nat.reduceEqDiff,zq1,zq2,zq3,zq4,zq5];exact((HN wc).out).mono fun e w' ⟨v,e1,e2,e3⟩=>⟨v,e1,⟨e2.1,zgi e2.2 hc.size⟩,e3⟩))))
 refine AWq.two rfl rfl rfl (fun w2 x2=>?_);simp only[zo,Act.put,zq6,zq7,zq8];intro v6 h6;have hql2:q<w2.heap.size:=(HQ1.out.ext x2).lt;have bq2:=HQ1.out.ext x2;have hw12:=x2.size;obtain⟨v3,w3,hrun,hO3,hk3,hb3⟩:=(HO1.out.ext x2).app (by have:=HW.out;have:=hs1.out;omega) (zcL Tryz.underlying48 byte_coded h6.sl (Ext.refl w2)) (by omega) (by omega);obtain⟨A3,c3,rfl,_⟩:=zz (code:=zbl) hO3.sl;generalize hN3:(acc++num).length=N3 at hrun hO3 hb3;clear hN3;have bq3:Blk w3 q 48 #[.slice A acc.length c]:=bq2.keep hk3 (fun h=>HQn.out h);have hq3:(Value.slice A3 N3 c3).ownBlock≠some q:=fun h=>by
  rcases hb3 with hb3 | hb3
  ·exact HQn.out (by rw[←hb3];exact h)
  ·have:=hb3 q h
   omega
 have HEnd:Hid (Blk (w3.setCell ⟨q,0,none⟩ (.slice A3 N3 c3)) q 48 #[.slice A3 N3 c3]∧OwnB (acc++num) B (.slice A3 N3 c3) (w3.setCell ⟨q,0,none⟩ (.slice A3 N3 c3))∧(Value.slice A3 N3 c3).ownBlock≠some q∧Keep (fun g=>g=q∨(Value.slice A acc.length c).ownBlock=some g) w (w3.setCell ⟨q,0,none⟩ (.slice A3 N3 c3))):=by
  have k4:Keep (fun g=>g=q) w3 (w3.setCell ⟨q,0,none⟩ (.slice A3 N3 c3)):=Keep.setCell (S:=fun g=>g=q) (Keep.refl _ _) (p:=⟨q,0,none⟩) (.inl rfl) _;refine⟨bq3.set 0 _,⟨hO3.1,zy hO3.2 k4 fun g hg hS=>hq3 (by rw[hg,hS])⟩,hq3,?_⟩;have k1:=Keep.of_ext (S:=fun g=>g=q∨(Value.slice A acc.length c).ownBlock=some g) (X1.out.trans x2);exact(k1.trans (hk3.mono fun g hg=>.inr hg)).trans (k4.mono fun g hg=>.inl hg)
 have b0:=bq3.cell (i:=0) (v:=.slice A acc.length c) rfl;have z0:=bq3.frozen 0;have l0:=bq3.lt;clear bq2 bq3 hO3 hk3 hb3 h6 HF1 HQ1 HO1 HN q0 ql f0 f2 fl
 at_builtin
 refine zD rfl (.tmp 3) (.tmp 6) _ _ rfl rfl rfl hrun ?_;go_wp2_with fail
 go_end0
 refine⟨rfl,.slice A3 N3 c3,?_⟩;exact HEnd.out
end
section
open Go.RowKit
structure FldI where
 n:Int
 s:ByteArray
 t:Bool
def FldI.cells (f:FldI):List Value:=[.int .i64 f.n,.string f.s,.bool f.t]
theorem fld_coded:Coded FldI.cells 3:=⟨fun _=>rfl,fun a u hu=>by simp[FldI.cells] at hu;rcases hu with rfl | rfl | rfl <;> rfl⟩
def FldI.enc (f:FldI):List UInt8:=if f.t=true then lebL f.s.size++f.s.data.toList else lebL f.n.toNat
def FldI.ok (f:FldI):Prop:=f.s.size≤65536∧(f.t=false→0≤f.n)∧f.n≤9223372036854775807
def encL (l:List FldI):List UInt8:=(l.map FldI.enc).flatten
theorem zgG {l:List FldI} {k:Nat} (h:k<l.length):encL (l.take (k+1))=encL (l.take k)++l[k].enc:=by
 unfold encL;rw[List.take_succ_eq_append_getElem h,List.map_append,List.flatten_append];simp
theorem zj5 {l:List FldI} (k:Nat):(encL (l.take k)).length≤(encL l).length:=by
 have e:encL l=encL (l.take k)++encL (l.drop k):=by
  unfold encL;rw[←List.flatten_append,←List.map_append,List.take_append_drop]
 rw[e,List.length_append];omega
theorem zil {l:List FldI} (h:0<l.length):0<(encL l).length:=by
 cases l with
 | nil=>simp at h
 | cons f l=>
  unfold encL;rw[List.map_cons,List.flatten_cons,List.length_append];have:0<f.enc.length:=by
   unfold FldI.enc;by_cases ht:f.t=true
   ·rw[if_pos ht,List.length_append]
    have:=zcw f.s.size;omega
   ·rw[if_neg ht];exact zcw _
  omega
def PutTo (w:World) (q B:Nat) (v:Value) (acc:List UInt8) (en:Ending) (w':World):Prop:=
 en=.returned (.tuple #[]) ∧ ∃ v',Blk w' q 48 #[v']∧OwnB acc B v' w'∧v'.ownBlock≠some q∧Keep (fun g=>g=q∨v.ownBlock=some g) w w'
theorem put_c (w:World) (q B:Nat) (f:FldI) (acc:List UInt8) (v:Value) (hf:f.ok) (hq:Blk w q 48 #[v]) (hO:OwnB acc B v w) (hB:B≤w.heap.size) (hqn:v.ownBlock≠some q) (hl:acc.length≤65536):Calls Tryz.prog 89 #[.agg #[.int .i64 f.n,.string f.s,.bool f.t],.pointer (some ⟨q,0,none⟩)] w (PutTo w q B v (acc++f.enc)):=by
 obtain⟨A,c,rfl,_⟩:=zz (code:=zbl) hO.sl;obtain⟨n,s,t⟩:=f;obtain⟨h1,h2,h3⟩:=hf;dsimp only at h1 h2 h3⊢;cases t with
 | true=>exact putT_c w q B n s acc A c hq hO hB hqn hl h1
 | false=>
  obtain⟨k,rfl⟩:∃ k:Nat,n=(k:Int):=⟨n.toNat,by have:=h2 rfl;omega⟩
  exact putN_c w q B k s acc A c (by omega) hq hO hB hqn hl
theorem lay_c (w:World) (v:Value) (l:List FldI) (h:Sl w 3 v (l.map FldI.cells)) (hok:∀ f∈l,f.ok) (hpos:0<l.length) (htot:(encL l).length≤65536):Calls Tryz.prog 51 #[v] w (Ret (.tuple #[.string ⟨(encL l).toArray⟩,.int .i64 0]) w):=by
 obtain⟨A,c,rfl,h1,h2,h3⟩:=zz h;unfold maxLen at h2;obtain⟨b,o,rfl,lb,hcell⟩:=h3 hpos;have HQ0:=hid (Blk.new w 48 #[.slice none 0 0]);have HE0:=hid (Ext.alloc w (.cells #[.slice none 0 0] 48));have HOk:=hid (fun k (hk:k<l.length)=>hok _ (List.getElem_mem hk));have HC:=hid hcell;have hql:=Nat.le_refl w.heap.size;clear h h3 hcell hok;go_enter Tryz.func51,Tryz.ntmps51;go_wp2_with fail
 generalize w.alloc (.cells #[.slice none 0 0] 48)=w0 at HQ0 HE0⊢;generalize hq:w.heap.size=q at HQ0⊢;have hq':w.heap.size≤q:=by omega
 clear hq hql;go_loopw [13] (fun i wr=>∃ k:Nat,k≤l.length∧i=.int .i64 k∧Hid (Ext w0 wr)) (fun i _=>l.length-(intOf i).toNat)
 case atStart=>exact⟨0,by omega,rfl,Ext.refl _⟩
 case round=>
  obtain⟨k,hk,rfl,HE⟩:=hrel;by_cases hlt:k<l.length
  ·have hf:=HOk.out k hlt
   have c0:=(HE0.out.trans HE.out).cell (HC.out k hlt 0 _ rfl);have c1:=(HE0.out.trans HE.out).cell (HC.out k hlt 1 _ rfl);have c2:=(HE0.out.trans HE.out).cell (HC.out k hlt 2 _ rfl);rw[Nat.add_zero] at c0;have lbr:=Nat.lt_of_lt_of_le lb (HE0.out.trans HE.out).size;obtain⟨f1,f2,f3⟩:=hf;generalize l[k]=f at c0 c1 c2 f1 f2 f3;obtain⟨n,s,t⟩:=f;dsimp only at c0 c1 c2 f1 f2 f3;cases t with
   | true=>
    clear f1 f2 f3;go_wp2_with fail
    go_roundw
    case rel=>exact⟨k+1,by omega,by go_num,HE.out.trans (Ext.alloc _ _)⟩
    case measure=>simp[intOf];omega
   | false=>
    have dn:decide (n<0)=false:=decide_eq_false (by have:=f2 rfl;omega);clear f1 f2 f3;go_wp2_with fail
    go_roundw
    case rel=>exact⟨k+1,by omega,by go_num,HE.out.trans (Ext.alloc _ _)⟩
    case measure=>simp[intOf];omega
  ·obtain rfl:k=l.length:=by omega
   have HQ1:=hid (HQ0.out.ext HE.out);have HE1:=hid (HE0.out.trans HE.out);clear HQ0 HE0 HE;go_wp2_with fail
   go_loopw [28] (fun i W=>∃ (k:Nat) (bv:Value),k≤l.length∧i=.int .i64 k∧Hid (Ext w W)∧Hid (Blk W q 48 #[bv])∧Hid (OwnB (encL (l.take k)) w.heap.size bv W)∧Hid (bv.ownBlock≠some q)) (fun i _=>l.length-(intOf i).toNat)
   case atStart=>exact⟨0,_,by omega,rfl,HE1.out,HQ1.out,by rw[List.take_zero];exact OwnB.nil _ _,by unfold Hid;simp[Value.ownBlock]⟩
   case round=>
    obtain⟨k,bv,hk2,rfl,HE2,HQ2,HO2,HN2⟩:=hrel;by_cases hlt2:k<l.length
    ·have hf:=HOk.out k hlt2
     have c0:=HE2.out.cell (HC.out k hlt2 0 _ rfl);have c1:=HE2.out.cell (HC.out k hlt2 1 _ rfl);have c2:=HE2.out.cell (HC.out k hlt2 2 _ rfl);rw[Nat.add_zero] at c0;have lbr:=Nat.lt_of_lt_of_le lb HE2.out.size;have HT:=hid (zgG hlt2);have hle:=Nat.le_trans (zj5 (l:=l) k) htot;have HF:=hid hf;have HP:=fun W (hW:Ext wr W)=>hid (put_c W q w.heap.size l[k] (encL (l.take k)) bv hf (HQ2.out.ext hW) (HO2.out.ext hW) (Nat.le_trans HE2.out.size hW.size) HN2.out hle);clear hf;generalize l[k]=f at c0 c1 c2 HP HT HF;obtain⟨n,s,t⟩:=f;dsimp only at c0 c1 c2 HP;go_wp2_with fail
     refine((HP _ (Ext.alloc _ _)).out).mono ?_;rintro en w3 ⟨rfl,v',g1,g2,g3,g4⟩;have HQ3:=hid g1;have HO3:=hid g2;have HN3:=hid g3;have HE3:Hid (Ext w w3):=g4.toExt (HE2.out.trans (Ext.alloc _ _)) fun g hg=>by
      rcases hg with rfl | hg
      ·exact hq'
      ·exact(zC HO2.out.2 g hg).1
     clear g1 g2 g3 g4 HP;go_wp2_with fail
     go_roundw
     case rel=>exact⟨k+1,v',by omega,by go_num,HE3.out,HQ3.out,by rw[HT.out];exact HO3.out,HN3.out⟩
     case measure=>simp[intOf];omega
    ·obtain rfl:k=l.length:=by omega
     rw[List.take_length] at HO2;have hcv:=ziu HO2.out (zil hpos);obtain⟨A3,c3,rfl,_⟩:=zz (code:=zbl) HO2.out.sl;have b0:=HQ2.out.cell (i:=0) (v:=.slice A3 (encL l).length c3) rfl;have bl:=HQ2.out.lt;have dl:decide ((65536:Int)<(encL l).length)=false:=decide_eq_false (by omega);have dl':decide (65536<(encL l).length)=false:=decide_eq_false (by omega);clear HOk HC;go_wp2_with fail
     go_ret2;exact⟨rfl,HE2.out⟩
end
section
open Go.RowKit
theorem fN_c (w:World) (n:Int):Calls Tryz.prog 95 #[.int .i64 n] w (Ret (.agg #[.int .i64 n,.string ⟨#[]⟩,.bool false]) w):=by
 have HB:=hid (Blk.new w 140 #[.int .i64 n,.string ⟨#[]⟩,.bool false]);have HE:=hid (Ext.alloc w (.cells #[.int .i64 n,.string ⟨#[]⟩,.bool false] 140));go_enter Tryz.func95,Tryz.ntmps95;go_wp2_with fail
 exact bodyPost_ret (results_cell_row rfl _ _ w.heap.size 140 _ (0,0) _ rfl HB.out Tryz.underlying140 rfl (show(Tryz.prog.info? 140).map (·.size)=some 3 by kernel_rfl)) rfl ⟨rfl,HE.out⟩
theorem fT_c (w:World) (s:ByteArray):Calls Tryz.prog 97 #[.string s] w (Ret (.agg #[.int .i64 0,.string s,.bool true]) w):=by
 have HB:=hid (Blk.new w 140 #[.int .i64 0,.string s,.bool true]);have HE:=hid (Ext.alloc w (.cells #[.int .i64 0,.string s,.bool true] 140));go_enter Tryz.func97,Tryz.ntmps97;go_wp2_with fail
 exact bodyPost_ret (results_cell_row rfl _ _ w.heap.size 140 _ (0,0) _ rfl HB.out Tryz.underlying140 rfl (show(Tryz.prog.info? 140).map (·.size)=some 3 by kernel_rfl)) rfl ⟨rfl,HE.out⟩
theorem zdT (w:World) (v:Value) (l:List FldI) (h:Sl w 3 v (l.map FldI.cells)) (hok:∀ f∈l,f.ok) (hpos:0<l.length) (htot:(encL l).length≤65536):Calls Tryz.prog 138 #[v] w (Ret (.string ⟨(encL l).toArray⟩) w):=by
 have HL:=hid (lay_c w v l h hok hpos htot);obtain⟨A,c,rfl,_⟩:=zz h;clear h hok;go_enter Tryz.func138,Tryz.ntmps138;go_wp2_with fail
 refine(HL.out).mono ?_;rintro e w1 ⟨rfl,x1⟩;go_wp2_with fail
 go_ret;exact⟨rfl,x1⟩
theorem zmn (w:World) (b:Bool):Calls Tryz.prog 140 #[.bool b] w (Ret (.int .i64 (if b then 1 else 0)) w):=by
 cases b
 all_goals
  go_enter Tryz.func140,Tryz.ntmps140;go_wp2_with fail
  go_ret;exact⟨rfl,Ext.refl _⟩
def fN (n:Int):FldI:=⟨n,⟨#[]⟩,false⟩
def fT (s:ByteArray):FldI:=⟨0,s,true⟩
def OwnF (l:List FldI) (B:Nat) (v:Value) (w:World):Prop:=w.ownsRow B 140 3 v l.length (l.map FldI.cells).flatten
theorem OwnF.sl {l:List FldI} {B:Nat} {v:Value} {w:World} (h:OwnF l B v w):Sl w 3 v (l.map FldI.cells):=
 zaA (xs:=l.map FldI.cells) (fld_coded.sizes _) (by rw[List.length_map];exact h)
theorem OwnF.ext {l:List FldI} {B:Nat} {v:Value} {w w':World} (h:OwnF l B v w) (he:Ext w w'):OwnF l B v w':=zF h he
theorem OwnF.weak {l:List FldI} {B B':Nat} {v:Value} {w:World} (h:OwnF l B v w) (hB:B'≤B):OwnF l B' v w:=zap h hB
theorem zcB (w:World) {B:Nat} (hB:B≤w.heap.size) (a b:FldI):OwnF [a,b] B (.slice (some ⟨w.heap.size,0,none⟩) 2 2) (w.alloc (.cells #[.int .i64 a.n,.string a.s,.bool a.t,.int .i64 b.n,.string b.s,.bool b.t] 140)):=
 zaK hB 140 3 2 #[.int .i64 a.n,.string a.s,.bool a.t,.int .i64 b.n,.string b.s,.bool b.t] (by unfold maxLen;omega) rfl
theorem zmk:(Tryz.prog.info? 140).map (fun i=>(i.zero,i.size,i.bytes))=some (some (.agg #[.int .i64 0,.string ⟨#[]⟩,.bool false]),3,32):=by kernel_rfl
theorem zbV:Elem Tryz.prog 94 140 3 32:=by
 obtain⟨i0,h0,h1,h2,h3⟩:=info_parts zmk;exact⟨Tryz.underlying94,i0,_,h0,h1,h2,h3,rfl⟩
theorem OwnF.app {l m:List FldI} {B:Nat} {v u:Value} {w:World} (h:OwnF l B v w) (hB:B≤w.heap.size) (hm:Sl w 3 u (m.map FldI.cells)) (hl:l.length≤100000) (hml:m.length≤100000):∃ v' w',(Builtin.append_ #[94,94] 94 #[v,u]).run Tryz.prog w=.ok v' w'∧OwnF (l++m) B v' w'∧Keep (fun q=>v.ownBlock=some q) w w':=by
 obtain⟨v',w',hr,ho,hk,_,_⟩:=zda (ty:=94) zbV h hB (zcL Tryz.underlying94 fld_coded hm (Ext.refl w)) (by unfold maxLen;omega) (by omega);refine⟨v',w',hr,?_,hk⟩;unfold OwnF;rw[List.length_append,List.map_append,List.flatten_append];exact ho
theorem zg7 (w:World) (v:Ver):Calls Tryz.prog 168 #[v.val] w (RetQ (fun u W=>OwnF [fN v.by_,fN v.n] w.heap.size u W ∧ ∃ q,u=.slice (some ⟨q,0,none⟩) 2 2) w):=by
 have HN:=fun W n=>hid (fN_c W n);have HB:=hid (Blk.new w 51 #[.int .i64 v.by_,.int .i64 v.n]);have HE:=hid (Ext.alloc w (.cells #[.int .i64 v.by_,.int .i64 v.n] 51));unfold Ver.val;go_enter Tryz.func168,Tryz.ntmps168;go_wp2_with fail
 have hw:=HE.out.size;generalize w.alloc (.cells #[.int .i64 v.by_,.int .i64 v.n] 51)=w0 at HB HE hw⊢;have HWs:=hid hw;have b0:=HB.out.cell (i:=0) (v:=.int .i64 v.by_) rfl;have b1:=HB.out.cell (i:=1) (v:=.int .i64 v.n) rfl;have bl:=HB.out.lt;clear hw;refine zd (by kernel_rfl) (by kernel_rfl) (by kernel_rfl) ?_
 repeat (first
  | (refine AWq.val rfl rfl rfl rfl (fun K hK=>?_);go_big_quiet_op;refine hK _ ?_;clear hK K)
  | (refine AWq.skip rfl rfl rfl ?_;simp only[Act.put,zq6,zq7,zq8])
  | (refine AWq.call rfl Tryz.func95 (by kernel_rfl) (by kernel_rfl) rfl rfl rfl ?_;apply Exists.intro;refine And.intro (fun wc hc=>?_) ?_;(· (simp only[zm,zt,↓reduceIte,Nat.reduceEqDiff,zq1,zq2,zq3,zq4,zq5];with_reducible exact(HN _ _).out));simp only[Act.put,zq6,zq7,zq8])
  | (refine AWq.opV (fun u W=>OwnF [fN v.by_,fN v.n] w.heap.size u W ∧ ∃ q,u=.slice (some ⟨q,0,none⟩) 2 2) (fun u _ _ he h=>⟨OwnF.ext h.1 he,h.2⟩) rfl rfl rfl rfl (fun wc hc=>?_) ?_;(· (have hc2:=Nat.le_trans HWs.out hc.size;have hc':=hc.rule;clear hc;go_simp;dsimp only[Gives];exact⟨⟨zcB wc hc2 (fN v.by_) (fN v.n),_,rfl⟩,Ext.alloc _ _⟩)))
  | (refine AWq.opQ ((fun u W=>OwnF [fN v.by_,fN v.n] w.heap.size u W ∧ ∃ q,u=.slice (some ⟨q,0,none⟩) 2 2)) ((fun u _ _ he h=>⟨OwnF.ext h.1 he,h.2⟩)) rfl (fun a wc hc hl'=>⟨rfl,?_⟩) ?_;(· (have e:=hl' 9 (of_decide_eq_true (by kernel_rfl));exact⟨e,Ext.refl _⟩))))
 refine AWq.done rfl rfl rfl (fun w2 x2=>?_);simp only[zo,Act.put,zq6,zq7,zq8];intro u2 h2 _ _;go_wp2_with fail
 go_ret;exact⟨_,rfl,h2,HE.out.trans x2⟩
end
section
open Go.RowKit
theorem OwnF.app_full {l m:List FldI} {B:Nat} {A:Option Addr} {u:Value} {w:World} (h:OwnF l B (.slice A l.length l.length) w) (hB:B≤w.heap.size) (hm:Sl w 3 u (m.map FldI.cells)) (hl:l.length≤100000) (hml:m.length≤100000):∃ v' w',(Builtin.append_ #[94,94] 94 #[.slice A l.length l.length,u]).run Tryz.prog w=.ok v' w'∧OwnF (l++m) B v' w'∧Ext w w':=by
 obtain⟨v',w',hr,ho,_⟩:=h.app hB hm hl hml;obtain⟨v2,w2,hr2,_,he⟩:=Go.Proofs.YtofjpdgojoppbaaGreatDoor.app_full (P:=Tryz.prog) (tx:=94) (ty:=94) (m:=m) zbV fld_coded h.sl (zcL Tryz.underlying94 fld_coded hm (Ext.refl w)) (by omega) (by omega) (by omega);rw[hr] at hr2;injection hr2 with e1 e2
 subst e1 e2;exact⟨v',w',hr,ho,he⟩
theorem zhT (w:World) (i:Ver) (sb sn tm:Int) (p:ByteArray):Calls Tryz.prog 139 #[.agg #[.int .i64 i.by_,.int .i64 i.n],.agg #[.int .i64 sb,.int .i64 sn,.int .i64 tm],.string p] w (RetQ (OwnF [fN i.by_,fN i.n,fN sb,fN sn,fN tm,fT p] w.heap.size) w):=by
 have HN:=fun W n=>hid (fN_c W n);have HT:=fun W=>hid (fT_c W p);have HV1:∀ W:World,w.heap.size≤W.heap.size→Hid (Calls Tryz.prog 168 #[.agg #[.int .i64 i.by_,.int .i64 i.n]] W (RetQ (fun u W=>OwnF [fN i.by_,fN i.n] w.heap.size u W ∧ ∃ q,u=.slice (some ⟨q,0,none⟩) 2 2) W)):=fun W hW=>
  (zg7 W i).mono fun e w' ⟨v,e1,e2,e3⟩=>⟨v,e1,⟨e2.1.weak hW,e2.2⟩,e3⟩
 have HV2:∀ W:World,w.heap.size≤W.heap.size→Hid (Calls Tryz.prog 168 #[.agg #[.int .i64 sb,.int .i64 sn]] W (RetQ (fun u W=>OwnF [fN sb,fN sn] w.heap.size u W ∧ ∃ q,u=.slice (some ⟨q,0,none⟩) 2 2) W)):=fun W hW=>
  (zg7 W ⟨sb,sn⟩).mono fun e w' ⟨v,e1,e2,e3⟩=>⟨v,e1,⟨e2.1.weak hW,e2.2⟩,e3⟩
 have HB1:=hid ((Blk.new w 51 #[.int .i64 i.by_,.int .i64 i.n]).alloc (.cells #[.int .i64 sb,.int .i64 sn,.int .i64 tm] 53));have HB2:=hid (Blk.new (w.alloc (.cells #[.int .i64 i.by_,.int .i64 i.n] 51)) 53 #[.int .i64 sb,.int .i64 sn,.int .i64 tm]);rw[World.size_alloc] at HB2;have HE:=hid ((Ext.alloc w (.cells #[.int .i64 i.by_,.int .i64 i.n] 51)).alloc' (.cells #[.int .i64 sb,.int .i64 sn,.int .i64 tm] 53));go_enter Tryz.func139,Tryz.ntmps139;go_wp2_with fail
 have hw:=HE.out.size;generalize (w.alloc (.cells #[.int .i64 i.by_,.int .i64 i.n] 51)).alloc (.cells #[.int .i64 sb,.int .i64 sn,.int .i64 tm] 53)=w0 at HB1 HB2 HE hw⊢;have HWs:=hid hw;clear hw;have b0:=HB1.out.cell (i:=0) (v:=.int .i64 i.by_) rfl;have b1:=HB1.out.cell (i:=1) (v:=.int .i64 i.n) rfl;have bl:=HB1.out.lt;have c0:=HB2.out.cell (i:=0) (v:=.int .i64 sb) rfl;have c1:=HB2.out.cell (i:=1) (v:=.int .i64 sn) rfl;have c2:=HB2.out.cell (i:=2) (v:=.int .i64 tm) rfl;have cl:=HB2.out.lt
 refine zby (pre:=?pre10) (z1:=?z110) (z2:=?z210) ?hpre10 ?hz110 ?hz210 (by kernel_rfl) (by kernel_rfl) (by kernel_rfl) (by kernel_rfl) (by kernel_rfl) ?_
 case hpre10=>(simp only[List.dropLast_cons_cons,List.dropLast_singleton];first | done | exact rfl)
 case hz110=>(simp only[List.dropLast_cons_cons,List.dropLast_singleton,List.getLast?_cons_cons,List.getLast?_singleton];first | done | exact rfl)
 case hz210=>(simp only[List.getLast?_cons_cons,List.getLast?_singleton];first | done | exact rfl)
 repeat (first
  | (refine AWq.val rfl rfl rfl rfl (fun K hK=>?_);go_big_quiet_op;refine hK _ ?_;clear hK K)
  | (refine AWq.skip rfl rfl rfl ?_;simp only[Act.put,zq6,zq7,zq8])
  | (refine AWq.call rfl Tryz.func95 (by kernel_rfl) (by kernel_rfl) rfl rfl rfl ?_;apply Exists.intro;refine And.intro (fun wc hc=>?_) ?_;(· (simp only[zm,zt,↓reduceIte,Nat.reduceEqDiff,zq1,zq2,zq3,zq4,zq5];with_reducible exact(HN _ _).out));simp only[Act.put,zq6,zq7,zq8])
  | (refine AWq.call rfl Tryz.func97 (by kernel_rfl) (by kernel_rfl) rfl rfl rfl ?_;apply Exists.intro;refine And.intro (fun wc hc=>?_) ?_;(· (simp only[zm,zt,↓reduceIte,Nat.reduceEqDiff,zq1,zq2,zq3,zq4,zq5];with_reducible exact(HT _).out));simp only[Act.put,zq6,zq7,zq8])
  | (refine AWq.callQ ((fun u W=>OwnF [fN i.by_,fN i.n] w.heap.size u W ∧ ∃ q,u=.slice (some ⟨q,0,none⟩) 2 2)) ((fun u _ _ he h=>⟨OwnF.ext h.1 he,h.2⟩)) rfl Tryz.func168 (by kernel_rfl) (by kernel_rfl) rfl rfl rfl (fun wc hc=>?_) ?_;(· (simp only[zm,zt,↓reduceIte,Nat.reduceEqDiff,zq1,zq2,zq3,zq4,zq5];with_reducible exact(HV1 wc (Nat.le_trans HWs.out hc.size)).out)))
  | (refine AWq.callQ ((fun u W=>OwnF [fN sb,fN sn] w.heap.size u W ∧ ∃ q,u=.slice (some ⟨q,0,none⟩) 2 2)) ((fun u _ _ he h=>⟨OwnF.ext h.1 he,h.2⟩)) rfl Tryz.func168 (by kernel_rfl) (by kernel_rfl) rfl rfl rfl (fun wc hc=>?_) ?_;(· (simp only[zm,zt,↓reduceIte,Nat.reduceEqDiff,zq1,zq2,zq3,zq4,zq5];with_reducible exact(HV2 wc (Nat.le_trans HWs.out hc.size)).out)))
  | (refine AWq.opQ (fun u W=>OwnF [fN i.by_,fN i.n,fN sb,fN sn] w.heap.size u W) (fun u _ _ he h=>OwnF.ext h he) rfl (fun a wc hc hl'=>⟨rfl,?_⟩) ?_;(· (have e8:OwnF [fN i.by_,fN i.n] w.heap.size (a.tmps.getD 8 undef) wc ∧ ∃ q,a.tmps.getD 8 undef=.slice (some ⟨q,0,none⟩) 2 2:=hl' 8 (of_decide_eq_true (by kernel_rfl));have e11:OwnF [fN sb,fN sn] w.heap.size (a.tmps.getD 11 undef) wc ∧ ∃ q,a.tmps.getD 11 undef=.slice (some ⟨q,0,none⟩) 2 2:=hl' 11 (of_decide_eq_true (by kernel_rfl));obtain⟨o8,q8,e8⟩:=e8;rw[e8] at o8;obtain⟨v',w',hr',hO,hX⟩:=OwnF.app_full (l:=[fN i.by_,fN i.n]) o8 (Nat.le_trans HWs.out hc.size) e11.1.sl (by simp) (by simp);exact zeJ (a:=a) (s:=.tmp 8) (x:=.tmp 11) rfl e8 rfl hr' ⟨hO,hX⟩)))
  | (refine AWq.opV (fun u W=>OwnF [fN tm,fT p] w.heap.size u W) (fun u _ _ he h=>OwnF.ext h he) rfl rfl rfl rfl (fun wc hc=>?_) ?_;(· (have hc2:=Nat.le_trans HWs.out hc.size;have hc':=hc.rule;clear hc;go_simp;dsimp only[Gives];exact⟨zcB wc hc2 (fN tm) (fT p),Ext.alloc _ _⟩))))
 refine AWq.two rfl rfl rfl (fun w2 x2=>?_);simp only[zo,Act.put,zq6,zq7,zq8];intro v18 h18 v12 h12 v11 _ v8 _;obtain⟨v3,w3,hrun,hO3,hk3⟩:=h12.app (Nat.le_trans HWs.out x2.size) h18.sl (by simp) (by simp);have HEnd:Hid (Ext w w3):=hk3.toExt (HE.out.trans x2) fun q hq=>(zC h12 q hq).1;have HO:=hid hO3;clear hO3 hk3 h12 h18 b0 b1 bl c0 c1 c2 cl
 at_builtin
 refine zD rfl (.tmp 12) (.tmp 18) _ _ rfl rfl rfl hrun ?_;go_wp2_with fail
 go_ret;exact⟨_,rfl,HO.out,HEnd.out⟩
end
section
open Go.RowKit
theorem zS (w:World) (z:Int) (h1:-9223372036854775808≤z) (h2:z≤9223372036854775807):Calls Tryz.prog 46 #[.int .i64 z] w (Ret (.string (numB z)) w):=by
 by_cases h0:0≤z
 ·obtain⟨n,rfl⟩:∃ n:Nat,z=(n:Int):=⟨z.toNat,by omega⟩
  rw[zlY];exact zck w n (by omega)
 ·have d0:decide ((127:Int)<z)=false:=decide_eq_false (by omega)
  have hc:=fun W=>zeO W (z%256);have HR:Hid (numB z=⟨#[UInt8.ofNat (z%256).toNat]⟩):=by unfold Hid numB;rw[if_pos (by omega)]
  generalize UInt8.ofNat (z%256).toNat=c at hc HR;go_enter Tryz.func46,Tryz.ntmps46;go_wp2_with fail
  go_loopw [0,3] (fun s0 s3 wr=>s0=.int .i64 z∧s3=.string ⟨#[]⟩∧wr=w) (fun _ _ _=>0)
  case atStart=>exact⟨rfl,rfl,rfl⟩
  case round=>
   obtain⟨rfl,rfl,rfl⟩:=hrel;go_wp2_with fail
   go_ret;exact⟨by rw[HR.out];rfl,Ext.alloc _ _⟩
def verB (v:Ver):ByteArray:=numB v.by_++numB v.n
theorem zdh (w:World) (v:Ver) (h1:-9223372036854775808≤v.by_∧v.by_≤9223372036854775807) (h2:-9223372036854775808≤v.n∧v.n≤9223372036854775807):Calls Tryz.prog 87 #[v.val] w (Ret (.string (verB v)) w):=by
 have H1:=fun W=>hid (zS W v.by_ h1.1 h1.2);have H2:=fun W=>hid (zS W v.n h2.1 h2.2);have s1:=zah h1.2;have s2:=zah h2.2;have HE:=hid (Ext.alloc w (.cells #[.int .i64 v.by_,.int .i64 v.n] 51));have HB:=hid (Blk.new w 51 #[.int .i64 v.by_,.int .i64 v.n]);unfold Ver.val verB;generalize numB v.by_=a at H1 s1⊢;generalize numB v.n=b at H2 s2⊢;clear h1 h2;go_enter Tryz.func87,Tryz.ntmps87;go_wp2_with fail
 generalize w.alloc (.cells #[.int .i64 v.by_,.int .i64 v.n] 51)=w0 at HB HE⊢;have b0:=HB.out.cell (i:=0) (v:=.int .i64 v.by_) rfl;have b1:=HB.out.cell (i:=1) (v:=.int .i64 v.n) rfl;have bl:=HB.out.lt;refine zd (by kernel_rfl) (by kernel_rfl) (by kernel_rfl) ?_
 repeat (first
  | (refine AWq.val rfl rfl rfl rfl (fun K hK=>?_);go_big_quiet_op;refine hK _ ?_;clear hK K)
  | (refine AWq.skip rfl rfl rfl ?_;simp only[Act.put,zq6,zq7,zq8])
  | (refine AWq.call rfl Tryz.func46 (by kernel_rfl) (by kernel_rfl) rfl rfl rfl ?_;apply Exists.intro;refine And.intro (fun wc hc=>?_) ?_;(· (simp only[zm,zt,↓reduceIte,Nat.reduceEqDiff,zq1,zq2,zq3,zq4,zq5];with_reducible exact(H1 _).out));simp only[Act.put,zq6,zq7,zq8])
  | (refine AWq.call rfl Tryz.func46 (by kernel_rfl) (by kernel_rfl) rfl rfl rfl ?_;apply Exists.intro;refine And.intro (fun wc hc=>?_) ?_;(· (simp only[zm,zt,↓reduceIte,Nat.reduceEqDiff,zq1,zq2,zq3,zq4,zq5];with_reducible exact(H2 _).out));simp only[Act.put,zq6,zq7,zq8]))
 refine AWq.done rfl rfl rfl (fun w2 x2=>?_);simp only[zo,Act.put,zq6,zq7,zq8];go_wp2_with fail
 go_ret;exact⟨rfl,HE.out.trans x2⟩
theorem zlI (w:World) (b:Bool):Calls Tryz.prog 88 #[.bool b] w (Ret (.string (if b then⟨#[1]⟩ else⟨#[0]⟩)) w):=by
 cases b
 all_goals
  go_enter Tryz.func88,Tryz.ntmps88;go_wp2_with fail
  go_ret;exact⟨rfl,Ext.refl _⟩
end
section
open Go.RowKit
def in64 (z:Int):Prop:=-9223372036854775808≤z∧z≤9223372036854775807
theorem zaR {v:Ver} (h1:in64 v.by_) (h2:in64 v.n):(verB v).size≤18:=by
 unfold verB;rw[ByteArray.size_append];have:=zah h1.2;have:=zah h2.2;omega
theorem zax (s:ByteArray) (h:s.size≤100000):(zG s).size≤s.size+9:=by
 unfold zG;rw[ByteArray.size_append];have:=zdV (n:=s.size) (by omega);omega
theorem zB {z:Int} (h:0≤z):(numB z).data.toList=lebL z.toNat:=by
 unfold numB lebB;rw[if_neg (by omega)]
theorem zU (s:ByteArray):(zG s).data.toList=lebL s.size++s.data.toList:=by
 unfold zG lebB;rw[ByteArray.data_append,Array.toList_append]
def okZ (b:Bool):Int:=if b then 0 else 2
def putB (b:Bool) (s:ByteArray):ByteArray:=if b then s else⟨#[]⟩
theorem zct (t:ByteArray):t.toList.length=t.size:=by
 rw[Lib.toList_data,Array.length_toList];rfl
end
section
open Go.RowKit
def endK (s:ByteArray) (e:Int):Int:=if e=0 then(if s.size=0 then 0 else 6) else e
theorem ze1 (w:World) (q:Nat) (s:ByteArray) (e:Int) (h:InAt w q s e):Calls Tryz.prog 113 #[.pointer (some ⟨q,0,none⟩)] w (Ret (.int .i64 (endK s e)) w):=by
 have HE:=fun W (hW:Ext w W)=>hid (zgF W q s e (h.ext hW));have HL:=fun W (hW:Ext w W)=>hid (zfM W q s e (h.ext hW));clear h;unfold endK;by_cases h0:e=0
 ·subst h0
  rw[if_pos rfl];have hl:zdO s 0=(s.size:Int):=if_pos rfl;rw[hl] at HL;clear hl;by_cases hz:s.size=0
  ·rw[if_pos hz]
   rw[hz] at HL;clear hz;go_enter Tryz.func113,Tryz.ntmps113;go_wp2_with fail
   refine((HE _ (Ext.refl _)).out).mono ?_;rintro e w1 ⟨rfl,x1⟩;have X1:=hid x1;clear x1 HE;go_wp2_with fail
   refine((HL _ X1.out).out).mono ?_;rintro e w2 ⟨rfl,x2⟩;have X2:=hid (X1.out.trans x2);clear x2 HL;go_wp2_with fail
   go_ret;exact⟨rfl,X2.out⟩
  ·rw[if_neg hz]
   have dz:decide ((0:Int)<s.size)=true:=decide_eq_true (by omega);have dz':decide (0<s.size)=true:=decide_eq_true (by omega);clear hz;go_enter Tryz.func113,Tryz.ntmps113;go_wp2_with fail
   refine((HE _ (Ext.refl _)).out).mono ?_;rintro e w1 ⟨rfl,x1⟩;have X1:=hid x1;clear x1 HE;go_wp2_with fail
   refine((HL _ X1.out).out).mono ?_;rintro e w2 ⟨rfl,x2⟩;have X2:=hid (X1.out.trans x2);clear x2 HL;go_wp2_with fail
   go_ret;exact⟨rfl,X2.out⟩
 ·rw[if_neg h0]
  have d0:(e != 0)=true:=by simp[h0]
  clear h0 HL;go_enter Tryz.func113,Tryz.ntmps113;go_wp2_with fail
  refine((HE _ (Ext.refl _)).out).mono ?_;rintro e w1 ⟨rfl,x1⟩;have X1:=hid x1;clear x1 HE;go_wp2_with fail
  go_ret;exact⟨rfl,X1.out⟩
def ze3 (s:ByteArray) (e:Int) (z1 z2:Nat) (s':ByteArray) (e':Int):Prop:=
 ∀ n1 n2 rest,e=0→n1<9223372036854775808→n2<9223372036854775808→s.data.toList=lebL n1++(lebL n2++rest)→z1=n1∧z2=n2∧s'.data.toList=rest∧e'=0
theorem zef (w:World) (q:Nat) (s:ByteArray) (e:Int) (h:InAt w q s e) (hs:s.size≤1000000):Calls Tryz.prog 151 #[.pointer (some ⟨q,0,none⟩)] w (fun en w'=>∃ (z1 z2:Nat) (s':ByteArray) (e':Int),en=.returned (.agg #[.int .i64 z1,.int .i64 z2])∧z1<9223372036854775808∧z2<9223372036854775808∧Keep (fun g=>g=q) w w'∧InAt w' q s' e'∧s'.size≤s.size∧ze3 s e z1 z2 s' e'):=by
 have HN:=fun W (s':ByteArray) (e':Int) (h':InAt W q s' e') (hs':s'.size≤1000000)=>hid (n_c W q s' e' h' hs');have HB:=hid (Blk.new w 51 #[.int .i64 0,.int .i64 0]);have HK:=hid (Keep.of_ext (S:=fun g=>g=q) (Ext.alloc w (.cells #[.int .i64 0,.int .i64 0] 51)));have H:=hid (h.ext (Ext.alloc w (.cells #[.int .i64 0,.int .i64 0] 51)));have hq:¬ w.heap.size=q:=by have:=h.lt;omega
 have HQ:=hid hq;clear h hq;go_enter Tryz.func151,Tryz.ntmps151;go_wp2_with fail
 generalize w.alloc (.cells #[.int .i64 0,.int .i64 0] 51)=w0 at H HB HK⊢;have HG:Hid (∃ g,g=w.heap.size∧w.heap.size≤g):=⟨_,rfl,Nat.le_refl _⟩
 obtain⟨g,hg,hG⟩:=HG.out;have HG:=hid hG;clear hG;rw[←hg] at HB HQ⊢;clear hg;refine((HN _ _ _ H.out hs).out).mono ?_;rintro en w1 ⟨z1,s1,e1,rfl,hz1,k1,h1,hs1,r1⟩;have HK1:=hid (HK.out.trans k1);have HI1:=hid h1;have HB1:=hid (HB.out.keep k1 HQ.out);have R1:=hid r1;have Z1:=hid hz1;clear k1 h1 r1 HB H HK hz1;go_wp2_with fail
 refine((HN _ _ _ HI1.out (by omega)).out).mono ?_;rintro en w2 ⟨z2,s2,e2,rfl,hz2,k2,h2,hs2,r2⟩;have HK2:=hid (HK1.out.trans k2);have HI2:=hid h2;have HB2:=hid (HB1.out.keep k2 HQ.out);have RV:Hid (ze3 s e z1 z2 s2 e2):=fun n1 n2 rest a0 a1 a2 a3=>by
  obtain⟨b1,b2,b3⟩:=R1.out n1 _ a0 a1 a3;obtain⟨c1,c2,c3⟩:=r2 n2 _ b3 a2 b2;exact⟨b1,c1,c2,c3⟩
 have b0:=HB2.out.lt;have a0:=HB2.out.cell (i:=0) (v:=.int .i64 0) rfl;have a1:=HB2.out.cell (i:=1) (v:=.int .i64 0) rfl;have z0:=HB2.out.frozen 0;have z1':=HB2.out.frozen 1;have Z2:=hid hz2;have hsz:s2.size≤s.size:=by omega
 have HSz:=hid hsz;clear k2 h2 r2 R1 HB1 HI1 HK1 hz2 hs hs1 hs2 hsz HN;go_wp2_with fail
 have HBf:=hid ((HB2.out.set 0 (.int .i64 z1)).set 1 (.int .i64 z2));have HIf:=hid ((HI2.out.far (p:=⟨g,0,none⟩) (fun h=>HQ.out h.symm) (.int .i64 z1)).far (p:=⟨g,1,none⟩) (fun h=>HQ.out h.symm) (.int .i64 z2));have HKf:=hid ((HK2.out.setCell (S:=fun g=>g=q) (p:=⟨g,0,none⟩) (.inr HG.out) (.int .i64 z1)).setCell (S:=fun g=>g=q) (p:=⟨g,1,none⟩) (.inr HG.out) (.int .i64 z2));exact bodyPost_ret (results_cell_row rfl _ _ g 51 _ (0,0) _ rfl HBf.out Tryz.underlying51 rfl (show(Tryz.prog.info? 51).map (·.size)=some 2 by kernel_rfl)) rfl ⟨z1,z2,s2,e2,rfl,Z1.out,Z2.out,HKf.out,HIf.out,HSz.out,RV.out⟩
end
end Go.Proofs.YtofjpdgojoppbaaGreatDoor
