/-
  Of the claim's proof: AwT.
-/
import Derived.Test.YtofjpdgojoppbaaGreatDoorS01
set_option maxRecDepth 100000
set_option maxHeartbeats 16000000
set_option linter.unusedVariables false
set_option linter.unusedSimpArgs false
namespace Go.Proofs.YtofjpdgojoppbaaGreatDoor
open Go
section
variable {P:Program} {ops:Array Oper} {a0:Act} {M:Rel} {F:World→Prop}
theorem zc9 {L:Array Bool} {i:Nat} (h:i<L.size) (b c:Bool):L.getD i b=L.getD i c:=by simp[h]
theorem Mid.any_two {sl:Nat→Slot} {z:Nat} (hF:zae M F) (hg:zaV ops a0.tmps.size=true) (hlk:zbi ops a0.tmps.size=true) (hz:ops.size=z+2) (hl1:za3 ops z=true) (hl2:za3 ops (z+1)=true)
  (hst:∀ j o,ops[j]? = some o→(sl j).steady M)
  (hsl:∀ j o,j<z→ops[j]? = some o→OpOK P ops M F o (fun t=>slotOf ops a0 sl (fun _=>true) t j) (sl j)) {Q:Exit→Act→World→Prop}
  (hQ:∀ L a w,(∀ i,i<z→L.getD i false=true)→L.getD z false=false→L.getD (z+1) false=false→Mid ops F a0 sl L a w→wpOp P ops Q z (wpOp P ops Q (z+1) (fun a' w'=>Q .normal a' w')) a w) :
  ∀ (fuel:Nat) (L:Array Bool) (a:Act) (w:World),L.getD z false=false→L.getD (z+1) false=false→Mid ops F a0 sl L a w→((List.range ops.size).filter fun i=>!L.getD i false).length≤fuel→wpAny P .any ops Q fuel L a w:=by
 have none_ready:∀ L:Array Bool,L.size=ops.size→(∀ i,i<ops.size→L.getD i false=true)→Region.ready .any ops L=[]:=by
  intro L hs hall;rcases hr:Region.ready .any ops L with _ | ⟨i,r⟩
  ·rfl
  ·have hi:i∈Region.ready .any ops L:=by rw[hr];simp
   obtain⟨hun,o,ho,_⟩:=mem_ready.1 hi;have hil:i<ops.size:=(Array.getElem?_eq_some_iff.1 ho).1;have hiL:i<L.size:=by rw[hs];exact hil
   have:=hall i hil;simp[hiL] at hun this;rw[hun] at this;cases this
 have full:∀ L a w,Mid ops F a0 sl L a w→Region.ready .any ops L=[] → ∀ i,i<ops.size→L.getD i false=true:=by
  intro L a w hm hr i
  induction i using Nat.strongRecOn with
  | _ i ih=>
   intro hi;cases hL:L.getD i false with
   | true=>rfl
   | false=>
    have ho:ops[i]? = some ops[i]:=Array.getElem?_eq_getElem hi;have:i∈Region.ready .any ops L:=mem_ready.2 ⟨by
     have hiL:i<L.size:=by rw[hm.size];exact hi
     simp[hiL] at hL⊢;exact hL,_,ho,fun e he hb=>by
      have hlt:=(zaB hg ho).1 e he hb;exact ih e.on hlt (by omega)⟩
    rw[hr] at this;cases this
 have two:∀ L:Array Bool,L.getD z false=false→L.getD (z+1) false=false→2≤((List.range ops.size).filter fun i=>!L.getD i false).length:=by
  intro L h1 h2;rw[hz,List.range_succ,List.range_succ,List.filter_append,List.filter_append];have e1:List.filter (fun i=>!L.getD i false) [z]=[z]:=by rw[List.filter_cons_of_pos (by rw[h1];rfl)];rfl
  have e2:List.filter (fun i=>!L.getD i false) [z+1]=[z+1]:=by rw[List.filter_cons_of_pos (by rw[h2];rfl)];rfl
  rw[e1,e2];simp
 intro fuel
 induction fuel with
 | zero=>
  intro L a w hz0 hz1 hm hc;have:=two L hz0 hz1;omega
 | succ fuel ih=>
  intro L a w hz0 hz1 hm hc;refine⟨fun hr=>?_,fun i hi=>?_⟩
  ·have hall:=full L a w hm hr z (by omega)
   rw[hz0] at hall;cases hall
  ·obtain⟨hun,o,ho,hready⟩:=mem_ready.1 hi
   have hil:i<ops.size:=(Array.getElem?_eq_some_iff.1 ho).1;have hiL:i<L.size:=by rw[hm.size];exact hil
   have hbefore:za3 ops i=true → ∀ j,j<i→L.getD j false=true:=fun hlast j hj=>by
    have hanc:=zca (ops:=ops) (L:=fun j=>L.getD j false) hm.down i ((o.after.toList.filter (Region.binds .any)).map (·.on)) (fun j hj=>by
     obtain⟨e,he,rfl⟩:=List.mem_map.1 hj;obtain⟨h1,h2⟩:=List.mem_filter.1 he;exact hready e (Array.mem_toList_iff.1 h1) h2)
    unfold za3 at hlast;simp only[ho] at hlast;exact hanc j (by simpa using List.all_eq_true.1 hlast j (List.mem_range.2 hj))
   rcases Nat.lt_trichotomy i z with hiz | hiz | hiz
   ·refine wpOp_mono (fun a' w' hm'=>ih _ _ _ (by rw[getD_set_ne false (by omega)];exact hz0) (by rw[getD_set_ne false (by omega)];exact hz1) hm' ?_) (hm.step hF hg hst (fun p hp=>hsl i p (by omega) hp) hi fun o ho=>zdK hlk ho)
    have hlt:((List.range ops.size).filter fun j=>!(L.setIfInBounds i true).getD j false).length<((List.range ops.size).filter fun j=>!L.getD j false).length:=by
     have hmem:i∈(List.range ops.size).filter fun i=>!L.getD i false:=List.mem_filter.2 ⟨List.mem_range.2 hil,by simp[hiL] at hun⊢;exact hun⟩;have hsub:((List.range ops.size).filter fun j=>!(L.setIfInBounds i true).getD j false)=((List.range ops.size).filter fun j=>!L.getD j false).filter fun j=>j != i:=by
      rw[List.filter_filter];refine List.filter_congr fun j _=>?_;by_cases hji:i=j
      ·subst hji;simp[hiL]
      ·have hb:(j != i)=true:=by simp;omega
       rw[getD_set_ne false hji,hb,Bool.true_and]
     rw[hsub];refine List.length_filter_lt_length_iff_exists.2 ⟨i,hmem,by simp⟩
    omega
   ·subst hiz
    have hall:=hbefore hl1;have h2:=two L hz0 hz1;obtain⟨f,rfl⟩:∃ f,fuel=f+1:=⟨fuel-1,by omega⟩
    refine wpOp_mono (fun a' w' h'=>?_) (hQ L a w (fun j hj=>hall j hj) hz0 hz1 hm);have hall':∀ j,j<i+1→(L.setIfInBounds i true).getD j false=true:=fun j hj=>by
     by_cases hji:i=j
     ·subst hji;simp[hiL]
     ·rw[getD_set_ne false hji];exact hall j (by omega)
    have ho2:ops[i+1]? = some ops[i+1]:=Array.getElem?_eq_getElem (by omega);refine⟨fun hr=>?_,fun j hj=>?_⟩
    ·have:i+1∈Region.ready .any ops (L.setIfInBounds i true):=mem_ready.2 ⟨by
       have h3:(L.setIfInBounds i true).getD (i+1) false=false:=by rw[getD_set_ne false (by omega)];exact hz1
       have hs:i+1<(L.setIfInBounds i true).size:=by simp[hm.size];omega
       exact(zc9 hs _ _).trans h3,_,ho2,fun e he hb=>hall' _ ((zaB hg ho2).1 e he hb)⟩
     rw[hr] at this;cases this
    ·obtain⟨hunj,oj,hoj,_⟩:=mem_ready.1 hj
     have hjl:j<ops.size:=(Array.getElem?_eq_some_iff.1 hoj).1;have hj1:j=i+1:=by
      rcases Nat.lt_or_ge j (i+1) with h | h
      ·have h3:=hall' j h
       have hs:j<(L.setIfInBounds i true).size:=by simp[hm.size];omega
       rw[zc9 hs true false,h3] at hunj;cases hunj
      ·omega
     subst hj1;refine wpOp_mono (fun a2 w2 hq=>?_) h';have hn:Region.ready .any ops ((L.setIfInBounds i true).setIfInBounds (i+1) true)=[]:=none_ready _ (by simp[hm.size]) fun k hk=>by
      by_cases hki:i+1=k
      ·subst hki
       have hs:i+1<L.size:=by rw[hm.size];omega
       simp[hs]
      ·rw[getD_set_ne false hki];exact hall' k (by omega)
     cases f with
     | zero=>exact⟨hn,hq⟩
     | succ f=>exact⟨fun _=>hq,fun k hk=>by rw[hn] at hk;cases hk⟩
   ·have hi1:i=z+1:=by omega
    subst hi1;have:=hbefore hl2 z (by omega);rw[hz0] at this;cases this
def zc2 (P:Program) (ops:Array Oper) (F:World→Prop) (a0:Act) (Q:Exit→Act→World→Prop) (z1 z2:Oper) (g:Nat→Slot):Prop:=
 ∀ a w,F w→a.tmps.size=a0.tmps.size→a.defers=a0.defers→(∀ t,t<a0.tmps.size→(g t).ok (a.tmps.getD t undef) w)→wpList P ops Q [z1,z2] a w
theorem zcu {id:Nat} {Q:Exit→Act→World→Prop} {w:World} (M:Rel) (F:World→Prop) (hF:zae M F) (hF0:F { w with drawn:=w.drawn+1 }) {l:List Oper} {z1 z2:Oper} (hm:P.follows .mixedOrders=true) (hg:zaV (l++[z1,z2]).toArray a0.tmps.size=true) (hlk:zbi (l++[z1,z2]).toArray a0.tmps.size=true)
  (hl1:za3 (l++[z1,z2]).toArray l.length=true) (hl2:za3 (l++[z1,z2]).toArray (l.length+1)=true)
  (h:AW P (l++[z1,z2]).toArray M F (zc2 P (l++[z1,z2]).toArray F a0 Q z1 z2) l (fun t=>.val (a0.tmps.getD t undef))):(Code.region id (l++[z1,z2]).toArray true).wp P Q a0 w:=by
 obtain⟨sl,env,_,hfar,hsl,he,hR⟩:=AW.slots (a0:=a0) (ops:=(l++[z1,z2]).toArray) l 0 _ (fun _=>.val undef) (fun j o hj=>by simpa[List.getElem?_append_left (List.getElem?_eq_some_iff.1 hj).1] using hj) (fun _=>rfl) h;simp only[Nat.zero_add] at he hsl hfar;have hsz:(l++[z1,z2]).toArray.size=l.length+2:=by simp
 have hzs:(l++[z1,z2]).toArray[l.length]? = some z1:=by simp
 have hzs2:(l++[z1,z2]).toArray[l.length+1]? = some z2:=by simp
 refine wp_region_any hm (Mid.any_two (z:=l.length) (M:=M) hF hg hlk hsz hl1 hl2 (fun j o ho=>?_) (fun j o hj ho=>(hsl j o (Nat.zero_le _) hj ho).2) (fun L a w' hall hz0 hz1 hm=>?_) _ _ _ _ (zc4 _ _) (zc4 _ _) (Mid.start hF0) ?_)
 ·rcases Nat.lt_or_ge j l.length with hj | hj
  ·exact(hsl j o (Nat.zero_le _) hj ho).1
  ·rw[hfar j hj];exact trivial
 ·have:=hR a w' hm.frame hm.tmps hm.defers (fun t ht=>by
   have hs:=hm.slots t ht;have e:slotOf (l++[z1,z2]).toArray a0 sl (fun j=>L.getD j false) t (l++[z1,z2]).toArray.size=slotOf (l++[z1,z2]).toArray a0 sl (fun _=>true) t l.length:=by
    rw[zaU _ a0 (i:=l.length) _ (by omega) fun j h1 h2 _=>by
     have:j=l.length∨j=l.length+1:=by omega
     rcases this with rfl | rfl
     ·exact hz0
     ·exact hz1]
    exact zaw _ a0 l.length fun j hj _=>hall j hj
   rw[e,←he t] at hs;exact hs)
  have e2:(wpOp P (l++[z1,z2]).toArray Q (l.length+1) fun a' w'=>Q Exit.normal a' w')=fun a w=>wpList P (l++[z1,z2]).toArray Q [z2] a w:=by
   funext a w
   simp[wpOp,hzs2,wpList]
  rw[e2];simpa[wpOp,hzs,wpList] using this
 ·exact Nat.le_trans (List.length_filter_le _ _) (by simp)
theorem AWq.two {Q:Exit→Act→World→Prop} {w0:World} {b:Act} {A:Anys} {z1 z2:Oper} (hs:b.tmps.size=a0.tmps.size) (hd:b.defers=a0.defers) (hk:zdO b.tmps.size A=true)
  (h:∀ w,Ext w0 w→zl (wpList P ops Q [z1,z2]) w A b):AWq P ops M w0 (zc2 P ops (Ext w0) a0 Q z1 z2) [] b A:=
 fun a w he hsz hdf hsl=>zaD A b hk (by rw[hs,hsz]) (by rw[hd,hdf]) (fun t ht=>hsl t (by rw[←hs];exact ht)) (h w he)
theorem zbj {id:Nat} {L pre:List Oper} {z1 z2:Oper} {Q:Exit→Act→World→Prop} {w:World} (hpre:L.dropLast.dropLast=pre) (hz1:L.dropLast.getLast? = some z1) (hz2:L.getLast? = some z2) (hm:P.follows .mixedOrders=true) (hg:zaV L.toArray a0.tmps.size=true) (hlk:zbi L.toArray a0.tmps.size=true)
  (hl1:za3 L.toArray (L.length-2)=true) (hl2:za3 L.toArray (L.length-1)=true)
  (h:AWq P L.toArray Rel.ext w (zc2 P L.toArray (Ext w) a0 Q z1 z2) pre a0 []):(Code.region id L.toArray true).wp P Q a0 w:=by
 have tail:∀ {A:List Oper} {z:Oper},A.getLast? = some z→A=A.dropLast++[z]:=fun {A z} hz=>by
  have hne:A≠[]:=by rintro rfl;cases hz
  rw[List.getLast?_eq_some_getLast hne] at hz;injection hz with hz
  rw[←hz,List.dropLast_concat_getLast hne]
 have hL:L=pre++[z1,z2]:=by
  have h1:=tail hz1;rw[hpre] at h1;have h2:=tail hz2;rw[h1] at h2;simpa using h2
 subst hL;have e1:(pre++[z1,z2]).length-2=pre.length:=by simp
 have e2:(pre++[z1,z2]).length-1=pre.length+1:=by simp
 rw[e1] at hl1;rw[e2] at hl2;exact zcu Rel.ext (Ext w) (Ext.steady w) (Ext.drew w) hm hg hlk hl1 hl2 h
theorem zjl {Q : Exit → Act → World → Prop} {z : Nat} (hg : zaV ops a0.tmps.size = true) (hl : ∀ j, z ≤ j → j < ops.size → za3 ops j = true) :
    ∀ (n k fuel : Nat) (L : Array Bool) (a : Act) (w : World), z ≤ k → k + n = ops.size → L.size = ops.size → (∀ j, L.getD j false = decide (j < k)) → n ≤ fuel → wpOps P ops Q (List.range' k n) a w → wpAny P .any ops Q fuel L a w := by
  have before : ∀ (L : Array Bool) (k i : Nat), L.size = ops.size → (∀ j, L.getD j false = decide (j < k)) → z ≤ k → i ∈ Region.ready .any ops L → i = k := by
    intro L k i hs hL hzk hi
    obtain ⟨hun, o, ho, hready⟩ := mem_ready.1 hi
    have hil : i < ops.size := (Array.getElem?_eq_some_iff.1 ho).1
    have hki : k ≤ i := by
      rcases Nat.lt_or_ge i k with h | h
      · rw [zc9 (by omega) true false, hL] at hun
        simp [h] at hun
      · exact h
    have hanc := zca (ops := ops) (L := fun j => L.getD j false) (fun i o h1 h2 e he _ => by
      have := (zaB hg h2).1 e he
      simp only [hL, decide_eq_true_eq] at h1 ⊢
      rename_i hb
      have := this hb
      omega) i ((o.after.toList.filter (Region.binds .any)).map (·.on)) (fun j hj => by
      obtain ⟨e, he, rfl⟩ := List.mem_map.1 hj
      obtain ⟨h1, h2⟩ := List.mem_filter.1 he
      exact hready e (Array.mem_toList_iff.1 h1) h2)
    have hlast := hl i (by omega) hil
    unfold za3 at hlast
    simp only [ho] at hlast
    rcases Nat.lt_or_ge k i with h | h
    · have := hanc k (by simpa using List.all_eq_true.1 hlast k (List.mem_range.2 h))
      simp only [hL, decide_eq_true_eq] at this
      omega
    · omega
  intro n
  induction n with
  | zero =>
    intro k fuel L a w hzk hkn hs hL hf h
    have hn : Region.ready .any ops L = [] := by
      rcases hr : Region.ready .any ops L with _ | ⟨i, r⟩
      · rfl
      · have hi : i ∈ Region.ready .any ops L := by rw [hr]; simp
        have e := before L k i hs hL hzk hi
        obtain ⟨_, o, ho, _⟩ := mem_ready.1 hi
        have := (Array.getElem?_eq_some_iff.1 ho).1
        omega
    have hq : Q .normal a w := by simpa [wpOps] using h
    cases fuel with
    | zero => exact ⟨hn, hq⟩
    | succ f => exact ⟨fun _ => hq, fun k hk => by rw [hn] at hk; cases hk⟩
  | succ n ih =>
    intro k fuel L a w hzk hkn hs hL hf h
    obtain ⟨f, rfl⟩ : ∃ f, fuel = f + 1 := ⟨fuel - 1, by omega⟩
    rw [List.range'_succ, wpOps_cons] at h
    have ho : ops[k]? = some ops[k] := Array.getElem?_eq_getElem (by omega)
    refine ⟨fun hr => ?_, fun i hi => ?_⟩
    · have : k ∈ Region.ready .any ops L := mem_ready.2 ⟨by rw [zc9 (by omega) true false, hL]; simp, _, ho, fun e he hb => by
          have := (zaB hg ho).1 e he hb
          rw [hL]; simpa using this⟩
      rw [hr] at this; cases this
    · obtain rfl := before L k i hs hL hzk hi
      refine wpOp_mono (fun a' w' h' => ih (i + 1) f _ a' w' (by omega) (by omega) (by simp [hs]) (fun j => ?_) (by omega) h') h
      by_cases hji : i = j
      · subst hji
        have : i < L.size := by omega
        simp [this]
      · rw [getD_set_ne false hji, hL]
        simp
        omega
theorem Mid.any_tail {sl : Nat → Slot} {z : Nat} (hF : zae M F) (hg : zaV ops a0.tmps.size = true) (hlk : zbi ops a0.tmps.size = true) (hz : z < ops.size) (hl : ∀ j, z ≤ j → j < ops.size → za3 ops j = true)
    (hst : ∀ j o, ops[j]? = some o → (sl j).steady M)
    (hsl : ∀ j o, j < z → ops[j]? = some o → OpOK P ops M F o (fun t => slotOf ops a0 sl (fun _ => true) t j) (sl j)) {Q : Exit → Act → World → Prop}
    (hQ : ∀ L a w, (∀ i, i < z → L.getD i false = true) → (∀ i, z ≤ i → L.getD i false = false) → Mid ops F a0 sl L a w → wpOps P ops Q (List.range' z (ops.size - z)) a w) :
    ∀ (fuel : Nat) (L : Array Bool) (a : Act) (w : World), (∀ i, z ≤ i → L.getD i false = false) → Mid ops F a0 sl L a w → ((List.range ops.size).filter fun i => !L.getD i false).length ≤ fuel → wpAny P .any ops Q fuel L a w := by
  have full : ∀ L a w, Mid ops F a0 sl L a w → Region.ready .any ops L = [] → ∀ i, i < ops.size → L.getD i false = true := by
    intro L a w hm hr i
    induction i using Nat.strongRecOn with
    | _ i ih =>
      intro hi
      cases hL : L.getD i false with
      | true => rfl
      | false =>
        have ho : ops[i]? = some ops[i] := Array.getElem?_eq_getElem hi
        have : i ∈ Region.ready .any ops L := mem_ready.2 ⟨(zc9 (by rw [hm.size]; exact hi) _ _).trans hL, _, ho, fun e he hb => by
            have hlt := (zaB hg ho).1 e he hb
            exact ih e.on hlt (by omega)⟩
        rw [hr] at this; cases this
  intro fuel
  induction fuel with
  | zero =>
    intro L a w hun hm hc
    have hmem : z ∈ (List.range ops.size).filter fun i => !L.getD i false := List.mem_filter.2 ⟨List.mem_range.2 hz, by rw [hun z (Nat.le_refl _)]; rfl⟩
    have := List.length_pos_of_mem hmem
    omega
  | succ fuel ih =>
    intro L a w hun hm hc
    by_cases hall : ∀ i, i < z → L.getD i false = true
    · refine zjl (a0 := a0) hg hl (ops.size - z) z _ L a w (Nat.le_refl _) (by omega) hm.size (fun j => ?_) ?_ (hQ L a w hall hun hm)
      · rcases Nat.lt_or_ge j z with h | h
        · rw [hall j h]; simp [h]
        · rw [hun j h]; simp; omega
      · have e : (List.range ops.size).filter (fun i => !L.getD i false) = (List.range ops.size).filter fun i => decide (z ≤ i) := List.filter_congr fun j _ => by
          rcases Nat.lt_or_ge j z with h | h
          · rw [hall j h]; simp; omega
          · rw [hun j h]; simp [h]
        rw [e] at hc
        have e2 : (List.range ops.size).filter (fun i => decide (z ≤ i)) = List.range' z (ops.size - z) := by
          obtain ⟨d, hd⟩ := Nat.le.dest (Nat.le_of_lt hz)
          rw [← hd, Nat.add_sub_cancel_left]
          clear hd e hc
          rw [List.range_add, List.filter_append, List.filter_eq_nil_iff.2 (by simp), List.nil_append, List.filter_eq_self.2 (by simp), List.range'_eq_map_range]
        rw [e2, List.length_range'] at hc
        exact hc
    · refine ⟨fun hr => ?_, fun i hi => ?_⟩
      · have := full L a w hm hr z hz
        rw [hun z (Nat.le_refl _)] at this; cases this
      · obtain ⟨hunl, o, ho, hready⟩ := mem_ready.1 hi
        have hil : i < ops.size := (Array.getElem?_eq_some_iff.1 ho).1
        have hiL : i < L.size := by rw [hm.size]; exact hil
        have hiz : i < z := by
          rcases Nat.lt_or_ge i z with h | h
          · exact h
          · exfalso
            have hanc := zca (ops := ops) (L := fun j => L.getD j false) hm.down i ((o.after.toList.filter (Region.binds .any)).map (·.on)) (fun j hj => by
              obtain ⟨e, he, rfl⟩ := List.mem_map.1 hj
              obtain ⟨h1, h2⟩ := List.mem_filter.1 he
              exact hready e (Array.mem_toList_iff.1 h1) h2)
            have hlast := hl i h hil
            unfold za3 at hlast
            simp only [ho] at hlast
            exact hall fun j hj => hanc j (by simpa using List.all_eq_true.1 hlast j (List.mem_range.2 (by omega)))
        refine wpOp_mono (fun a' w' hm' => ih _ _ _ (fun j hj => by rw [getD_set_ne false (by omega)]; exact hun j hj) hm' ?_) (hm.step hF hg hst (fun p hp => hsl i p hiz hp) hi fun o ho => zdK hlk ho)
        have hlt : ((List.range ops.size).filter fun j => !(L.setIfInBounds i true).getD j false).length < ((List.range ops.size).filter fun j => !L.getD j false).length := by
          have hmem : i ∈ (List.range ops.size).filter fun i => !L.getD i false := List.mem_filter.2 ⟨List.mem_range.2 hil, by rw [zc9 hiL true false] at hunl; rw [hunl]; rfl⟩
          have hsub : ((List.range ops.size).filter fun j => !(L.setIfInBounds i true).getD j false) = ((List.range ops.size).filter fun j => !L.getD j false).filter fun j => j != i := by
            rw [List.filter_filter]
            refine List.filter_congr fun j _ => ?_
            by_cases hji : i = j
            · subst hji; simp [hiL]
            · have hb : (j != i) = true := by simp; omega
              rw [getD_set_ne false hji, hb, Bool.true_and]
          rw [hsub]
          refine List.length_filter_lt_length_iff_exists.2 ⟨i, hmem, by simp⟩
        omega
theorem zey {Q:Exit→Act→World→Prop}:∀ (tl l:List Oper) (a:Act) (w:World),ops=(l++tl).toArray→wpList P ops Q tl a w→wpOps P ops Q (List.range' l.length tl.length) a w
 | [],l,a,w,_,h=>by simpa[wpOps,wpList] using h
 | o::tl,l,a,w,he,h=>by
  have ho:ops[l.length]? = some o:=by rw[he];simp
  have ih:=fun a w=>zey (Q:=Q) tl (l++[o]) a w (by rw[he];simp);simp only[List.length_append,List.length_singleton] at ih;rw[List.length_cons,List.range'_succ,wpOps_cons];have hm:wpOp P ops Q l.length (fun a w=>wpList P ops Q tl a w) a w:=by simpa[wpOp,ho,wpList] using h
  exact wpOp_mono ih hm
def zgF (P:Program) (ops:Array Oper) (F:World→Prop) (a0:Act) (Q:Exit→Act→World→Prop) (tl:List Oper) (g:Nat→Slot):Prop:=
 ∀ a w,F w→a.tmps.size=a0.tmps.size→a.defers=a0.defers→(∀ t,t<a0.tmps.size→(g t).ok (a.tmps.getD t undef) w)→wpList P ops Q tl a w
def tailB (ops:Array Oper) (k:Nat):Bool:=(List.range ops.size).all fun j=>decide (j<k)||za3 ops j
theorem AWq.tail {Q:Exit→Act→World→Prop} {w0:World} {b:Act} {A:Anys} {tl:List Oper} (hs:b.tmps.size=a0.tmps.size) (hd:b.defers=a0.defers) (hk:zdO b.tmps.size A=true)
  (h:∀ w,Ext w0 w→zl (wpList P ops Q tl) w A b):AWq P ops M w0 (zgF P ops (Ext w0) a0 Q tl) [] b A:=
 fun a w he hsz hdf hsl=>zaD A b hk (by rw[hs,hsz]) (by rw[hd,hdf]) (fun t ht=>hsl t (by rw[←hs];exact ht)) (h w he)
theorem zbw {id:Nat} {L pre tl:List Oper} {Q:Exit→Act→World→Prop} {w:World} (k:Nat) (hpre:L.take k=pre) (htl:L.drop k=tl) (hk:k<L.length) (hm:P.follows .mixedOrders=true) (hg:zaV L.toArray a0.tmps.size=true) (hlk:zbi L.toArray a0.tmps.size=true)
  (hl:tailB L.toArray k=true)
  (h:AWq P L.toArray Rel.ext w (zgF P L.toArray (Ext w) a0 Q tl) pre a0 []):(Code.region id L.toArray true).wp P Q a0 w:=by
 have hL:L=pre++tl:=by rw[←hpre,←htl,List.take_append_drop]
 have hkl:pre.length=k:=by rw[←hpre,List.length_take];omega
 subst hL;obtain⟨sl,env,_,hfar,hsl,he,hR⟩:=AW.slots (a0:=a0) (ops:=(pre++tl).toArray) pre 0 _ (fun _=>.val undef) (fun j o hj=>by simpa[List.getElem?_append_left (List.getElem?_eq_some_iff.1 hj).1] using hj) (fun _=>rfl) h;simp only[Nat.zero_add] at he hsl hfar;have hsz:(pre++tl).toArray.size=pre.length+tl.length:=by simp
 refine wp_region_any hm (Mid.any_tail (z:=pre.length) (M:=Rel.ext) (F:=Ext w) (Ext.steady w) hg hlk (by rw[hkl];simpa using hk) (fun j h1 h2=>?_) (fun j o ho=>?_) (fun j o hj ho=>(hsl j o (Nat.zero_le _) hj ho).2) (fun L a w' hall hz0 hm=>?_) _ _ _ _ (fun i _=>zc4 _ _) (Mid.start (Ext.drew w)) ?_)
 ·unfold tailB at hl
  have:=List.all_eq_true.1 hl j (List.mem_range.2 h2);simp only[Bool.or_eq_true,decide_eq_true_eq] at this;rcases this with h | h
  ·omega
  ·exact h
 ·rcases Nat.lt_or_ge j pre.length with hj | hj
  ·exact(hsl j o (Nat.zero_le _) hj ho).1
  ·rw[hfar j hj];exact trivial
 ·have:=hR a w' hm.frame hm.tmps hm.defers (fun t ht=>by
   have hs:=hm.slots t ht;have e:slotOf (pre++tl).toArray a0 sl (fun j=>L.getD j false) t (pre++tl).toArray.size=slotOf (pre++tl).toArray a0 sl (fun _=>true) t pre.length:=by
    rw[zaU _ a0 (i:=pre.length) _ (by omega) fun j h1 h2 _=>hz0 j h1];exact zaw _ a0 pre.length fun j hj _=>hall j hj
   rw[e,←he t] at hs;exact hs)
  have hn:(pre++tl).toArray.size-pre.length=tl.length:=by omega
  rw[hn];exact zey tl pre a w' rfl this
 ·exact Nat.le_trans (List.length_filter_le _ _) (by simp)
end
end Go.Proofs.YtofjpdgojoppbaaGreatDoor
