/-
  Of the claim's proof: AwP.
-/
import Derived.Test.YtofjpdgojoppbaaGreatDoorT05
set_option maxRecDepth 100000
set_option maxHeartbeats 16000000
set_option linter.unusedVariables false
set_option linter.unusedSimpArgs false
namespace Go.Proofs.YtofjpdgojoppbaaGreatDoor
open Go.RowKit
section
variable {P:Program} {ops:Array Oper} {M:Rel} {F:World→Prop} {a0:Act}
theorem zkV {L:Array Bool} (hs:L.size=ops.size) {i:Nat} (hi:i∈Region.ready .any ops L):((List.range ops.size).filter fun j=>!(L.setIfInBounds i true).getD j false).length<((List.range ops.size).filter fun j=>!L.getD j false).length:=by
 obtain⟨hun,o,ho,hready⟩:=mem_ready.1 hi;have hil:i<ops.size:=(Array.getElem?_eq_some_iff.1 ho).1;have hiL:i<L.size:=by rw[hs];exact hil
 have hmem:i∈(List.range ops.size).filter fun i=>!L.getD i false:=List.mem_filter.2 ⟨List.mem_range.2 hil,by rw[zcr hiL true false] at hun;rw[hun];rfl⟩;have hsub:((List.range ops.size).filter fun j=>!(L.setIfInBounds i true).getD j false)=((List.range ops.size).filter fun j=>!L.getD j false).filter fun j=>j != i:=by
  rw[List.filter_filter];refine List.filter_congr fun j _=>?_;by_cases hji:i=j
  ·subst hji;simp[hiL]
  ·have hb:(j != i)=true:=by simp;omega
   rw[getD_set_ne false hji,hb,Bool.true_and]
 rw[hsub];exact List.length_filter_lt_length_iff_exists.2 ⟨i,hmem,by simp⟩
theorem Mid.any_three {sl : Nat → Slot} {z : Nat} (hF : zax M F) (hg : za4 ops a0.tmps.size = true) (hlk : zbk ops a0.tmps.size = true) (hz : ops.size = z + 3) (hl1 : zaU ops z = true) (hl2 : zaU ops (z + 2) = true)
    (hst : ∀ j o, ops[j]? = some o → (sl j).steady M)
    (hsl : ∀ j o, j < z ∨ j = z + 1 → ops[j]? = some o → OpOK P ops M F o (fun t => slotOf ops a0 sl (fun _ => true) t j) (sl j)) {Q : Exit → Act → World → Prop}
    (hQ1 : ∀ L a w, (∀ i, i < z → L.getD i false = true) → L.getD z false = false → L.getD (z + 1) false = true → L.getD (z + 2) false = false → Mid ops F a0 sl L a w → wpOp P ops Q z (fun a w => wpOps P ops Q [z + 2] a w) a w)
    (hQ2 : ∀ L a w, (∀ i, i < z → L.getD i false = true) → L.getD z false = false → L.getD (z + 1) false = false → L.getD (z + 2) false = false → Mid ops F a0 sl L a w → wpOp P ops Q z (fun a w => wpOp P ops Q (z + 1) (fun a w => wpOps P ops Q [z + 2] a w) a w) a w) :
    ∀ (fuel : Nat) (L : Array Bool) (a : Act) (w : World), L.getD z false = false → L.getD (z + 2) false = false → Mid ops F a0 sl L a w → ((List.range ops.size).filter fun i => !L.getD i false).length ≤ fuel → wpAny P .any ops Q fuel L a w := by
  have full : ∀ L a w, Mid ops F a0 sl L a w → Region.ready .any ops L = [] → ∀ i, i < ops.size → L.getD i false = true := by
    intro L a w hm hr i
    induction i using Nat.strongRecOn with
    | _ i ih =>
      intro hi
      cases hL : L.getD i false with
      | true => rfl
      | false =>
        have ho : ops[i]? = some ops[i] := Array.getElem?_eq_getElem hi
        have : i ∈ Region.ready .any ops L := mem_ready.2 ⟨(zcr (by rw [hm.size]; exact hi) _ _).trans hL, _, ho, fun e he hb => by
            have hlt := (zaG hg ho).1 e he hb
            exact ih e.on hlt (by omega)⟩
        rw [hr] at this; cases this
  have fin : ∀ (fuel : Nat) (L : Array Bool) (a : Act) (w : World), L.size = ops.size → (∀ j, j < z + 2 → L.getD j false = true) → L.getD (z + 2) false = false → 1 ≤ fuel → wpOps P ops Q [z + 2] a w → wpAny P .any ops Q fuel L a w := by
    intro fuel L a w hs hall hz2 hf h
    refine any_of_ops (a0 := a0) (z := z + 2) hg (fun j h1 h2 => by (obtain rfl : j = z + 2 := (by omega)); exact hl2) 1 (z + 2) fuel L a w (Nat.le_refl _) (by omega) hs (fun j => ?_) hf (by simpa using h)
    rcases Nat.lt_or_ge j (z + 2) with h | h
    · rw [hall j h]; simp [h]
    · rcases Nat.eq_or_lt_of_le h with h | h
      · rw [← h, hz2]; simp
      · have : L.getD j false = false := by simp [show ¬ j < L.size by omega]
        rw [this]; simp; omega
  have one : ∀ L : Array Bool, L.getD (z + 2) false = false → 1 ≤ ((List.range ops.size).filter fun i => !L.getD i false).length := fun L h => by
    have hmem : z + 2 ∈ (List.range ops.size).filter fun i => !L.getD i false := List.mem_filter.2 ⟨List.mem_range.2 (by omega), by rw [h]; rfl⟩
    exact List.length_pos_of_mem hmem
  intro fuel
  induction fuel with
  | zero =>
    intro L a w hz0 hz2 hm hc
    have := one L hz2
    omega
  | succ fuel ih =>
    intro L a w hz0 hz2 hm hc
    refine ⟨fun hr => ?_, fun i hi => ?_⟩
    · have hall := full L a w hm hr z (by omega)
      rw [hz0] at hall; cases hall
    · have hless := zkV hm.size hi
      obtain ⟨hun, o, ho, hready⟩ := mem_ready.1 hi
      have hil : i < ops.size := (Array.getElem?_eq_some_iff.1 ho).1
      have hiL : i < L.size := by rw [hm.size]; exact hil
      have hbefore : zaU ops i = true → ∀ j, j < i → L.getD j false = true := fun hlast j hj => by
        have hanc := zb5 (ops := ops) (L := fun j => L.getD j false) hm.down i ((o.after.toList.filter (Region.binds .any)).map (·.on)) (fun j hj => by
          obtain ⟨e, he, rfl⟩ := List.mem_map.1 hj
          obtain ⟨h1, h2⟩ := List.mem_filter.1 he
          exact hready e (Array.mem_toList_iff.1 h1) h2)
        unfold zaU at hlast
        simp only [ho] at hlast
        exact hanc j (by simpa using List.all_eq_true.1 hlast j (List.mem_range.2 hj))
      have stepping : (i < z ∨ i = z + 1) → wpOp P ops Q i (wpAny P .any ops Q fuel (L.setIfInBounds i true)) a w := fun hc2 => by
        refine wpOp_mono (fun a' w' hm' => ih _ _ _ (by rw [getD_set_ne false (by omega)]; exact hz0) (by rw [getD_set_ne false (by omega)]; exact hz2) hm' (by omega)) (hm.step hF hg hst (fun p hp => hsl i p hc2 hp) hi fun o ho => zdO hlk ho)
      by_cases h1 : i < z
      · exact stepping (.inl h1)
      by_cases h2 : i = z + 1
      · exact stepping (.inr h2)
      by_cases h3 : i = z + 2
      · subst h3
        have := hbefore hl2 z (by omega)
        rw [hz0] at this; cases this
      obtain rfl : i = z := by omega
      have hall := hbefore hl1
      have hset : ∀ j, j < i + 1 → (L.setIfInBounds i true).getD j false = true := fun j hj => by
        by_cases hji : i = j
        · subst hji; simp [hiL]
        · rw [getD_set_ne false hji]; exact hall j (by omega)
      have hz2' : (L.setIfInBounds i true).getD (i + 2) false = false := by rw [getD_set_ne false (by omega)]; exact hz2
      have hone := one _ hz2'
      cases hp : L.getD (i + 1) false with
      | true =>
        refine wpOp_mono (fun a' w' h' => fin _ _ _ _ (by simp [hm.size]) (fun j hj => ?_) hz2' (by omega) h') (hQ1 L a w hall hz0 hp hz2 hm)
        rcases Nat.lt_or_ge j (i + 1) with h | h
        · exact hset j h
        · obtain rfl : j = i + 1 := by omega
          rw [getD_set_ne false (by omega)]; exact hp
      | false =>
        have hz1' : (L.setIfInBounds i true).getD (i + 1) false = false := by rw [getD_set_ne false (by omega)]; exact hp
        have htwo : 2 ≤ ((List.range ops.size).filter fun j => !(L.setIfInBounds i true).getD j false).length := by
          rw [hz, List.range_succ, List.range_succ, List.filter_append, List.filter_append]
          have e1 : List.filter (fun j => !(L.setIfInBounds i true).getD j false) [i + 1] = [i + 1] := by rw [List.filter_cons_of_pos (by rw [hz1']; rfl)]; rfl
          have e2 : List.filter (fun j => !(L.setIfInBounds i true).getD j false) [i + 2] = [i + 2] := by rw [List.filter_cons_of_pos (by rw [hz2']; rfl)]; rfl
          rw [e1, e2]
          simp
        obtain ⟨f, rfl⟩ : ∃ f, fuel = f + 1 := ⟨fuel - 1, by omega⟩
        refine wpOp_mono (fun a' w' h' => ?_) (hQ2 L a w hall hz0 hp hz2 hm)
        have ho2 : ops[i + 1]? = some ops[i + 1] := Array.getElem?_eq_getElem (by omega)
        have hs1 : i + 1 < (L.setIfInBounds i true).size := by simp [hm.size]; omega
        have hr1 : i + 1 ∈ Region.ready .any ops (L.setIfInBounds i true) := mem_ready.2 ⟨(zcr hs1 _ _).trans hz1', _, ho2, fun e he hb => hset _ ((zaG hg ho2).1 e he hb)⟩
        refine ⟨fun hr => ?_, fun j hj => ?_⟩
        · rw [hr] at hr1; cases hr1
        · obtain ⟨hunj, oj, hoj, hrj⟩ := mem_ready.1 hj
          have hjl : j < ops.size := (Array.getElem?_eq_some_iff.1 hoj).1
          have hj1 : j = i + 1 := by
            rcases Nat.lt_or_ge j (i + 1) with h | h
            · have h3 := hset j h
              have hs : j < (L.setIfInBounds i true).size := by simp [hm.size]; omega
              rw [zcr hs true false, h3] at hunj; cases hunj
            · by_cases hj2 : j = i + 2
              · subst hj2
                exfalso
                have hdn : ∀ k o, (L.setIfInBounds i true).getD k false = true → ops[k]? = some o → ∀ e ∈ o.after, Region.binds .any e = true → (L.setIfInBounds i true).getD e.on false = true := fun k o hk hko e he hb => by
                  by_cases hki : i = k
                  · subst hki
                    exact hset _ (Nat.lt_succ_of_lt ((zaG hg hko).1 e he hb))
                  · rw [getD_set_ne false hki] at hk
                    have := hm.down k o hk hko e he hb
                    by_cases hie : i = e.on
                    · rw [← hie]; exact hset i (by omega)
                    · rw [getD_set_ne false hie]; exact this
                have hanc := zb5 (ops := ops) (L := fun j => (L.setIfInBounds i true).getD j false) hdn (i + 2) ((oj.after.toList.filter (Region.binds .any)).map (·.on)) (fun j hj => by
                  obtain ⟨e, he, rfl⟩ := List.mem_map.1 hj
                  obtain ⟨h1, h2⟩ := List.mem_filter.1 he
                  exact hrj e (Array.mem_toList_iff.1 h1) h2)
                have hlast := hl2
                unfold zaU at hlast
                simp only [hoj] at hlast
                have h9 := hanc (i + 1) (by simpa using List.all_eq_true.1 hlast (i + 1) (List.mem_range.2 (by omega)))
                rw [hz1'] at h9; cases h9
              · omega
          subst hj1
          refine wpOp_mono (fun a2 w2 hq => fin _ _ _ _ (by simp [hm.size]) (fun k hk => ?_) (by rw [getD_set_ne false (by omega)]; exact hz2') (by omega) hq) h'
          by_cases hki : i + 1 = k
          · subst hki
            have hs : i + 1 < L.size := by rw [hm.size]; omega
            simp [hs]
          · rw [getD_set_ne false hki]; exact hset k (by omega)
theorem zdV {sl sl':Nat→Slot} {m:Nat→Bool} {t:Nat}:∀ n,(∀ j,j<n→sl j=sl' j)→slotOf ops a0 sl m t n=slotOf ops a0 sl' m t n
 | 0,_=>rfl
 | n+1,h=>by
  unfold slotOf;rw[zdV n fun j hj=>h j (by omega),h n (by omega)]
def zeA (P:Program) (ops:Array Oper) (F:World→Prop) (a0:Act) (Q:Exit→Act→World→Prop) (z1 p z2:Oper) (d:Nat) (vp:Value) (g:Nat→Slot):Prop:=
 (∀ a w,F w→a.tmps.size=a0.tmps.size→a.defers=a0.defers→(∀ t,t<a0.tmps.size→(g t).ok (a.tmps.getD t undef) w)→wpList P ops Q [z1,p,z2] a w) ∧
 (∀ a w,F w→a.tmps.size=a0.tmps.size→a.defers=a0.defers→(∀ t,t<a0.tmps.size→(upd g (some d) (.val vp) t).ok (a.tmps.getD t undef) w)→wpList P ops Q [z1,z2] a w)
def zn8 (ops:Array Oper) (p:Oper) (n:Nat):Bool:=(p.looksAt ops).all fun t=>(List.range n).all fun j=>decide (dstOf ops j≠some t)
theorem zfv {sl:Nat→Slot} {m:Nat→Bool} {t:Nat}:∀ n,(∀ j,j<n→dstOf ops j≠some t)→slotOf ops a0 sl m t n=.val (a0.tmps.getD t undef)
 | 0,_=>rfl
 | n+1,h=>by
  unfold slotOf;rw[if_neg (fun hh=>h n (by omega) hh.2)];exact zfv n fun j hj=>h j (by omega)
theorem zel {id:Nat} {Q:Exit→Act→World→Prop} {w:World} {l:List Oper} {z1 p z2:Oper} {d:Nat} {vp:Value} (hm:P.follows .mixedOrders=true) (hg:za4 (l++[z1,p,z2]).toArray a0.tmps.size=true) (hlk:zbk (l++[z1,p,z2]).toArray a0.tmps.size=true)
  (hl1:zaU (l++[z1,p,z2]).toArray l.length=true) (hl2:zaU (l++[z1,p,z2]).toArray (l.length+2)=true)
  (hpd:p.dst=some d) (hpg:p.guard=none) (hpf:zn8 (l++[z1,p,z2]).toArray p (l.length+1)=true) (hps:(match p.op with | .select ..=>false | _=>true)=true) (hpx:∀ w,Gives P (fun u w'=>u=vp∧w'=w) ((execOp a0.eval p).run P w))
  (h:AW P (l++[z1,p,z2]).toArray Rel.ext (Ext w) (zeA P (l++[z1,p,z2]).toArray (Ext w) a0 Q z1 p z2 d vp) l (fun t=>.val (a0.tmps.getD t undef))):(Code.region id (l++[z1,p,z2]).toArray true).wp P Q a0 w:=by
 obtain⟨sl,env,_,hfar,hsl,he,hR⟩:=AW.slots (a0:=a0) (ops:=(l++[z1,p,z2]).toArray) l 0 _ (fun _=>.val undef) (fun j o hj=>by simpa[List.getElem?_append_left (List.getElem?_eq_some_iff.1 hj).1] using hj) (fun _=>rfl) h;simp only[Nat.zero_add] at he hsl hfar;generalize hops:(l++[z1,p,z2]).toArray=ops at *;have hsz:ops.size=l.length+3:=by rw[←hops];simp
 have hzs:ops[l.length]? = some z1:=by rw[←hops];simp
 have hzp:ops[l.length+1]? = some p:=by rw[←hops];simp
 have hzs2:ops[l.length+2]? = some z2:=by rw[←hops];simp
 have hdp:dstOf ops (l.length+1)=some d:=by simp[dstOf,hzp,hpd]
 let sl1:Nat→Slot:=fun j=>if j=l.length+1 then .val vp else sl j
 have hsl1:∀ j,j<l.length+1→sl1 j=sl j:=fun j hj=>by simp only[sl1];rw[if_neg (by omega)]
 have hslp:sl1 (l.length+1)=.val vp:=by simp[sl1]
 have e2:(fun(a:Act) (w:World)=>wpOps P ops Q [l.length+2] a w)=fun a w=>wpList P ops Q [z2] a w:=by
  funext a w
  simp[wpOps,wpOp,hzs2,wpList]
 refine wp_region_any hm (Mid.any_three (z:=l.length) (M:=Rel.ext) (F:=Ext w) (sl:=sl1) (Ext.steady w) hg hlk hsz hl1 hl2 (fun j o ho=>?_) (fun j o hj ho=>?_) (fun L a w' hall hz0 hz1 hz2 hm=>?_) (fun L a w' hall hz0 hz1 hz2 hm=>?_) _ _ _ _ (zc0 _ _) (zc0 _ _) (Mid.start (Ext.drew w)) ?_)
 ·by_cases hj:j=l.length+1
  ·subst hj;rw[hslp];exact trivial
  ·have e:sl1 j=sl j:=by simp only[sl1];rw[if_neg hj]
   rw[e];rcases Nat.lt_or_ge j l.length with hj | hj
   ·exact(hsl j o (Nat.zero_le _) hj ho).1
   ·rw[hfar j hj];exact trivial
 ·rcases hj with hj | rfl
  ·rw[hsl1 j (by omega)]
   have e:(fun t=>slotOf ops a0 sl1 (fun _=>true) t j)=fun t=>slotOf ops a0 sl (fun _=>true) t j:=by
    funext t
    exact zdV j fun k hk=>hsl1 k (by omega)
   rw[e];exact(hsl j o (Nat.zero_le _) hj ho).2
  ·rw[hzp] at ho
   injection ho with ho
   subst ho;rw[hslp];intro a wc hw hl;have hwt:Region.wanted p (yielded ops a.tmps)=true:=by unfold Region.wanted;rw[hpg]
   rw[if_pos hwt];have hev:execOp a.eval p=execOp a0.eval p:=by
    refine execOp_congr p (fun cs b hs=>by rw[hs] at hps;cases hps) fun x hx=>?_;cases x with
    | tmp t=>
     have ht:t∈p.looksAt ops:=List.mem_append_left _ (List.mem_filterMap.2 ⟨.tmp t,by simpa using hx,rfl⟩);have h1:(slotOf ops a0 sl1 (fun _=>true) t (l.length+1)).ok (a.tmps.getD t undef) wc:=hl t ht;have h2:=List.all_eq_true.1 (List.all_eq_true.1 hpf t ht);rw[zfv (l.length+1) fun j hj=>by simpa using h2 j (List.mem_range.2 hj)] at h1;exact h1
    | _=>rfl
   rw[hev];exact(hpx wc).mono fun u w2 h3=>⟨h3.1,by rw[h3.2];exact Ext.refl _⟩
 ·have:=hR.2 a w' hm.frame hm.tmps hm.defers (fun t ht=>by
   have hs:=hm.slots t ht;have e:slotOf ops a0 sl1 (fun j=>L.getD j false) t ops.size=upd env (some d) (.val vp) t:=by
    rw[za0 ops a0 (i:=l.length+2) _ (by omega) fun j h1 h2 _=>by
     obtain rfl:j=l.length+2:=by omega
     exact hz2]
    unfold slotOf;rw[hdp,hz1,hslp];unfold upd;by_cases hdt:d=t
    ·subst hdt;simp
    ·simp only[hdt,if_false,Option.some.injEq,and_false]
     unfold slotOf;rw[if_neg (fun hh=>by rw[hz0] at hh;exact absurd hh.1 Bool.false_ne_true),he t,zaF ops a0 (m':=fun _=>true) l.length fun j hj _=>hall j hj];exact zdV _ fun k hk=>hsl1 k (by omega)
   rw[e] at hs;exact hs)
  rw[e2];simpa[wpOp,hzs,wpList] using this
 ·have:=hR.1 a w' hm.frame hm.tmps hm.defers (fun t ht=>by
   have hs:=hm.slots t ht;have e:slotOf ops a0 sl1 (fun j=>L.getD j false) t ops.size=env t:=by
    rw[za0 ops a0 (i:=l.length) _ (by omega) fun j h1 h2 _=>by
     have:j=l.length∨j=l.length+1∨j=l.length+2:=by omega
     rcases this with rfl | rfl | rfl
     ·exact hz0
     ·exact hz1
     ·exact hz2]
    rw[he t,zaF ops a0 (m':=fun _=>true) l.length fun j hj _=>hall j hj];exact zdV _ fun k hk=>hsl1 k (by omega)
   rw[e] at hs;exact hs)
  have e3:(fun(a:Act) (w:World)=>wpOp P ops Q (l.length+1) (fun a w=>wpOps P ops Q [l.length+2] a w) a w)=fun a w=>wpList P ops Q [p,z2] a w:=by
   funext a w
   rw[e2];simp[wpOp,hzp,wpList]
  rw[e3];simpa[wpOp,hzs,wpList] using this
 ·exact Nat.le_trans (List.length_filter_le _ _) (by simp)
theorem AWq.three {Q:Exit→Act→World→Prop} {w0:World} {b:Act} {A:Anys} {z1 p z2:Oper} {d:Nat} {vp:Value} (hs:b.tmps.size=a0.tmps.size) (hd:b.defers=a0.defers) (hk:zdQ b.tmps.size A=true) (hdd:dstB A b.tmps.size (some d)=true) (hk2:zdQ (b.put (some d) vp).tmps.size A=true)
  (h:∀ w,Ext w0 w→zt (wpList P ops Q [z1,p,z2]) w A b∧zt (wpList P ops Q [z1,z2]) w A (b.put (some d) vp)):AWq P ops M w0 (zeA P ops (Ext w0) a0 Q z1 p z2 d vp) [] b A:=by
 refine⟨fun a w he hsz hdf hsl=>zaH A b hk (by rw[hs,hsz]) (by rw[hd,hdf]) (fun t ht=>hsl t (by rw[←hs];exact ht)) (h w he).1,fun a w he hsz hdf hsl=>?_⟩;have hb:(b.put (some d) vp).tmps.size=b.tmps.size:=by simp[Act.put]
 refine zaH A (b.put (some d) vp) hk2 (by rw[hb,hs,hsz]) (by show b.defers=_;rw[hd,hdf]) (fun t ht=>?_) (h w he).2;rw[zbB hdd];exact hsl t (by rw[←hs,←hb];exact ht)
theorem zfK {id:Nat} {L pre:List Oper} {z1 p z2:Oper} {Q:Exit→Act→World→Prop} {w:World} (d:Nat) (vp:Value) (k:Nat) (hpre:L.take k=pre) (htl:L.drop k=[z1,p,z2]) (hm:P.follows .mixedOrders=true) (hg:za4 L.toArray a0.tmps.size=true) (hlk:zbk L.toArray a0.tmps.size=true)
  (hl1:zaU L.toArray k=true) (hl2:zaU L.toArray (k+2)=true) (hpd:p.dst=some d) (hpg:p.guard=none) (hpf:zn8 L.toArray p (k+1)=true) (hps:(match p.op with | .select ..=>false | _=>true)=true) (hkl:decide (k<L.length)=true) (hpx:∀ w,Gives P (fun u w'=>u=vp∧w'=w) ((execOp a0.eval p).run P w))
  (h:AWq P L.toArray Rel.ext w (zeA P L.toArray (Ext w) a0 Q z1 p z2 d vp) pre a0 []):(Code.region id L.toArray true).wp P Q a0 w:=by
 have hL:L=pre++[z1,p,z2]:=by rw[←hpre,←htl,List.take_append_drop]
 have hkk:pre.length=k:=by rw[←hpre,List.length_take];have:=of_decide_eq_true hkl;omega
 subst hL;subst hkk;exact zel hm hg hlk hl1 hl2 hpd hpg hpf hps hpx h
end
end Go.Proofs.YtofjpdgojoppbaaGreatDoor
