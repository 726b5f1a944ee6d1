/-
  A region whose operations write as well, in whatever order they are carried out: of an operation that hands back nothing (a store) a fact is known that the others keep. Of no program.
  A region that draws its order and ends in an operation that waits for all (an append), one that may come at any time, and one that waits for all (a store). Of no program.
-/
import Derived.Test.YtmbgakjkhgdjnaaGreatDoorQdK
import Derived.Test.YtmbgakjkhgdjnaaGreatDoorAwT
namespace Go.Proofs.YtmbgakjkhgdjnaaGreatDoor
set_option linter.unusedSimpArgs false
set_option linter.unusedVariables false
open Go.RowKit

section
variable (P : Program) (ops : Array Oper) (M : Rel) (F : World → Prop) (a0 : Act)
/-- The walk, with the facts of the operations that hand back nothing. -/
def AWE (R : (Nat → Slot) → (World → Prop) → Prop) : List Oper → (Nat → Slot) → (World → Prop) → Prop
  | [], g, E => R g E
  | o :: rest, g, E => (∃ s : Slot, s.steady M ∧ OpOK P ops M F o g s ∧ AWE R rest (upd g o.dst s) E) ∨ (o.dst = none ∧ ∃ φ : World → Prop, SteadyR M φ ∧ OpOK P ops M F o g (.any fun _ => φ) ∧ AWE R rest g (fun w => E w ∧ φ w))
def effOf (sl : Nat → Slot) (n : Nat) (w : World) : Prop := ∀ j o, j < n → ops[j]? = some o → o.dst = none → ∃ v, (sl j).ok v w
end
section
variable {P : Program} {ops : Array Oper} {M : Rel} {F : World → Prop} {a0 : Act}

theorem AWE.slots {R : (Nat → Slot) → (World → Prop) → Prop} : ∀ (l : List Oper) (k : Nat) (g : Nat → Slot) (sl : Nat → Slot) (E : World → Prop), (∀ w, effOf ops sl k w → E w) → (∀ j o, l[j]? = some o → ops[k + j]? = some o) → (∀ t, g t = slotOf ops a0 sl (fun _ => true) t k) → AWE P ops M F R l g E →
    ∃ (sl' : Nat → Slot) (g' : Nat → Slot) (E' : World → Prop), (∀ w, effOf ops sl' (k + l.length) w → E' w) ∧ (∀ j, j < k → sl' j = sl j) ∧ (∀ j, k + l.length ≤ j → sl' j = sl j) ∧ (∀ j o, k ≤ j → j < k + l.length → ops[j]? = some o → (sl' j).steady M ∧ OpOK P ops M F o (fun t => slotOf ops a0 sl' (fun _ => true) t j) (sl' j)) ∧
      (∀ t, g' t = slotOf ops a0 sl' (fun _ => true) t (k + l.length)) ∧ R g' E'
  | [], k, g, sl, E, hE, hl, he, h => by
      refine ⟨sl, g, E, hE, fun _ _ => rfl, fun _ _ => rfl, fun j o hj hj2 ho => ?_, by simpa using he, h⟩
      simp at hj2; omega
  | o :: l, k, g, sl, E, hE, hl, he, h => by
    obtain ⟨s, E1, hs, hop, hr, hE1⟩ : ∃ (s : Slot) (E1 : World → Prop), s.steady M ∧ OpOK P ops M F o g s ∧ AWE P ops M F R l (upd g o.dst s) E1 ∧ ∀ w, E w → (o.dst = none → ∃ v, s.ok v w) → E1 w := by
      rcases h with ⟨s, h1, h2, h3⟩ | ⟨hd, φ, h1, h2, h3⟩
      · exact ⟨s, E, h1, h2, h3, fun w a _ => a⟩
      · refine ⟨.any fun _ => φ, fun w => E w ∧ φ w, fun _ => h1, h2, by rw [hd]; exact h3, fun w a b => ?_⟩
        obtain ⟨v, hv⟩ := b hd
        exact ⟨a, hv⟩
    have h0 : ops[k]? = some o := by simpa using hl 0 o rfl
    have hd : dstOf ops k = o.dst := by simp [dstOf, h0]
    let sl1 : Nat → Slot := fun j => if j = k then s else sl j
    have hcong : ∀ t, slotOf ops a0 sl1 (fun _ => true) t k = slotOf ops a0 sl (fun _ => true) t k := by
      intro t
      have : ∀ n, n ≤ k → slotOf ops a0 sl1 (fun _ => true) t n = slotOf ops a0 sl (fun _ => true) t n := by
        intro n
        induction n with
        | zero => intro _; rfl
        | succ n ih =>
          intro hn
          unfold slotOf
          rw [ih (by omega)]
          have : sl1 n = sl n := by simp only [sl1]; rw [if_neg (by omega)]
          rw [this]
      exact this k (Nat.le_refl _)
    have hk1 : ∀ t, upd g o.dst s t = slotOf ops a0 sl1 (fun _ => true) t (k + 1) := by
      intro t
      unfold slotOf
      rw [hd, hcong]
      have hs1 : sl1 k = s := by simp [sl1]
      rw [hs1]
      cases ho : o.dst with
      | none => simp [he, upd]
      | some d =>
        by_cases hdt : d = t
        · subst hdt; simp [upd]
        · simp [upd, hdt, he]
    have hE2 : ∀ w, effOf ops sl1 (k + 1) w → E1 w := fun w h => by
      refine hE1 w (hE w fun j p hj hp hd => ?_) (fun hd => ?_)
      · obtain ⟨v, hv⟩ := h j p (by omega) hp hd
        refine ⟨v, ?_⟩
        have e : sl1 j = sl j := by simp only [sl1]; rw [if_neg (by omega)]
        rw [e] at hv; exact hv
      · obtain ⟨v, hv⟩ := h k o (by omega) h0 hd
        refine ⟨v, ?_⟩
        have e : sl1 k = s := by simp [sl1]
        rw [e] at hv; exact hv
    obtain ⟨sl', env', E', hE3, h1, h1b, h2, h3, h4⟩ := AWE.slots l (k + 1) _ sl1 E1 hE2 (fun j p hj => by have := hl (j + 1) p (by simpa using hj); simpa [Nat.add_assoc, Nat.add_comm 1 j] using this) hk1 hr
    refine ⟨sl', env', E', fun w h => hE3 w (by rw [show k + 1 + l.length = k + (o :: l).length by simp; omega]; exact h), fun j hj => ?_, fun j hj => ?_, fun j p hj hj2 hp => ?_, fun t => ?_, h4⟩
    · rw [h1 j (by omega)]; simp only [sl1]; rw [if_neg (by omega)]
    · simp only [List.length_cons] at hj
      rw [h1b j (by omega)]; simp only [sl1]; rw [if_neg (by omega)]
    · by_cases hjk : j = k
      · subst hjk
        rw [h0] at hp; injection hp with hp; subst hp
        have e1 : sl' j = s := by rw [h1 j (by omega)]; simp [sl1]
        have e2 : (fun t => slotOf ops a0 sl' (fun _ => true) t j) = g := by
          funext t
          rw [he t, ← hcong t]
          have : ∀ n, n ≤ j → slotOf ops a0 sl' (fun _ => true) t n = slotOf ops a0 sl1 (fun _ => true) t n := by
            intro n
            induction n with
            | zero => intro _; rfl
            | succ n ih => intro hn; unfold slotOf; rw [ih (by omega), h1 n (by omega)]
          exact this j (Nat.le_refl _)
        rw [e1, e2]
        exact ⟨hs, hop⟩
      · simp only [List.length_cons] at hj2
        exact h2 j p (by omega) (by omega) hp
    · rw [h3 t]; congr 1; simp; omega

structure MidE (ops : Array Oper) (F : World → Prop) (a0 : Act) (sl : Nat → Slot) (L : Array Bool) (a : Act) (w : World) : Prop where
  size : L.size = ops.size
  down : ∀ i o, L.getD i false = true → ops[i]? = some o → ∀ e ∈ o.after, Region.binds .any e = true → L.getD e.on false = true
  frame : F w
  tmps : a.tmps.size = a0.tmps.size
  defers : a.defers = a0.defers
  slots : ∀ t, t < a0.tmps.size → (slotOf ops a0 sl (fun j => L.getD j false) t ops.size).ok (a.tmps.getD t undef) w
  effs : ∀ j o, L.getD j false = true → ops[j]? = some o → o.dst = none → ∃ v, (sl j).ok v w
theorem MidE.mid {sl : Nat → Slot} {L : Array Bool} {a : Act} {w : World} (h : MidE ops F a0 sl L a w) : Mid ops F a0 sl L a w := ⟨h.size, h.down, h.frame, h.tmps, h.defers, h.slots⟩
theorem MidE.start {w : World} {sl : Nat → Slot} (hw : F w) : MidE ops F a0 sl (Array.replicate ops.size false) a0 w := by
  have h := Mid.start (ops := ops) (a0 := a0) (sl := sl) hw
  exact ⟨h.size, h.down, h.frame, h.tmps, h.defers, h.slots, fun j o hj => by
    have hf : (Array.replicate ops.size false).getD j false = false := by simp [Array.getElem?_replicate]; split <;> rfl
    rw [hf] at hj; cases hj⟩

theorem MidE.step {sl : Nat → Slot} {L : Array Bool} {a : Act} {w : World} (hF : SteadyR M F) (hg : graphB ops a0.tmps.size = true)
    (hst : ∀ j o, ops[j]? = some o → (sl j).steady M) {i : Nat} (hsl : ∀ o, ops[i]? = some o → OpOK P ops M F o (fun t => slotOf ops a0 sl (fun _ => true) t i) (sl i))
    (hm : MidE ops F a0 sl L a w) (hi : i ∈ Region.ready .any ops L) (hlook : ∀ o, ops[i]? = some o → ∀ t ∈ o.looksAt ops, t < a0.tmps.size) {Q : Exit → Act → World → Prop} :
    wpOp P ops Q i (fun a' w' => MidE ops F a0 sl (L.setIfInBounds i true) a' w') a w := by
  obtain ⟨hun, o, ho, hall⟩ := mem_ready.1 hi
  have hil : i < ops.size := (Array.getElem?_eq_some_iff.1 ho).1
  have hiL : i < L.size := by rw [hm.size]; exact hil
  have hunf : L.getD i false = false := by simp [hiL] at hun ⊢; exact hun
  obtain ⟨g1, g2, g3, g4⟩ := graph_spec hg ho
  have hop := hsl o ho
  -- which of the others have been listed
  have early : ∀ j p, j < i → ops[j]? = some p → (L.getD j false = true ∨ p.apart ops o = true) := fun j p hj hp => by
    rcases g4 j p hj hp with ⟨e, he, hb, rfl⟩ | h
    · exact .inl (hall e he hb)
    · exact .inr h
  have late : ∀ j p, i < j → ops[j]? = some p → (L.getD j false = false ∨ o.apart ops p = true) := fun j p hj hp => by
    rcases (graph_spec hg hp).2.2.2 i o hj ho with ⟨e, he, hb, rfl⟩ | h
    · left
      cases hLj : L.getD j false with
      | false => rfl
      | true => have := hm.down j p hLj hp e he hb; rw [hunf] at this; cases this
    · exact .inr h
  have hlooks : ∀ t ∈ o.looksAt ops, slotOf ops a0 sl (fun j => L.getD j false) t ops.size = slotOf ops a0 sl (fun _ => true) t i := fun t ht => by
    rw [slotOf_cut ops a0 (i := i) ops.size (Nat.le_of_lt hil) fun j h1 h2 h3 => ?_]
    · refine slotOf_congr ops a0 i fun j hj hd => ?_
      have hp : ops[j]? = some ops[j] := Array.getElem?_eq_getElem (by omega)
      have hd' : ops[j].dst = some t := by simpa [dstOf, hp] using hd
      rcases early j _ hj hp with h | h
      · exact h
      · exact absurd rfl (looks_spec ht hd' h)
    · have hp : ops[j]? = some ops[j] := Array.getElem?_eq_getElem h2
      have hd' : ops[j].dst = some t := by simpa [dstOf, hp] using h3
      by_cases hij : i = j
      · subst hij; exact hunf
      · rcases late j _ (by omega) hp with h | h
        · exact h
        · exact absurd rfl (looks_spec' ht hd' h)
  have hag := hop a w hm.frame fun t ht => by
    have := hm.slots t (hlook o ho t ht)
    rw [hlooks t ht] at this
    exact this
  -- behind the operation
  have after : ∀ v w', (sl i).ok v w' → M.r w w' → MidE ops F a0 sl (L.setIfInBounds i true) (a.put o.dst v) w' := fun v w' hv he => by
    have hsz : (a.put o.dst v).tmps.size = a0.tmps.size := by cases o.dst <;> simp [Act.put, hm.tmps]
    refine ⟨by simp [hm.size], fun j p hj hp e hep hb => ?_, hF _ _ he hm.frame, hsz, by cases o.dst <;> simp [Act.put, hm.defers], fun t htn => ?_, fun j p hj hp hd => ?_⟩
    · by_cases hji : i = j
      · subst hji
        rw [ho] at hp; injection hp with hp; subst hp
        exact getD_set_true (hall e hep hb)
      · rw [getD_set_ne false hji] at hj
        exact getD_set_true (hm.down j p hj hp e hep hb)
    · by_cases hdt : o.dst = some t
      · have e1 : slotOf ops a0 sl (fun j => (L.setIfInBounds i true).getD j false) t ops.size = sl i := by
          rw [slotOf_cut ops a0 (i := i + 1) ops.size hil fun j h1 h2 h3 => ?_]
          · unfold slotOf
            rw [if_pos ⟨by simp [hiL], by simp [dstOf, ho, hdt]⟩]
          · have hp : ops[j]? = some ops[j] := Array.getElem?_eq_getElem h2
            have hd' : ops[j].dst = some t := by simpa [dstOf, hp] using h3
            show (L.setIfInBounds i true).getD j false = false
            rw [getD_set_ne false (by omega)]
            rcases late j _ (by omega) hp with h | h
            · exact h
            · exact absurd hd' ((Oper.apart_spec h).2.1 t hdt)
        rw [e1]
        have : (a.put o.dst v).tmps.getD t undef = v := by
          have : t < a.tmps.size := by rw [hm.tmps]; exact htn
          simp [Act.put, hdt, this]
        rw [this]
        exact hv
      · have e1 : slotOf ops a0 sl (fun j => (L.setIfInBounds i true).getD j false) t ops.size = slotOf ops a0 sl (fun j => L.getD j false) t ops.size := by
          refine slotOf_congr ops a0 _ fun j hj hd => getD_set_ne false ?_
          rintro rfl
          exact hdt (by simpa [dstOf, ho] using hd)
        rw [e1]
        have e2 : (a.put o.dst v).tmps.getD t undef = a.tmps.getD t undef := by
          cases hd : o.dst with
          | none => rfl
          | some d =>
            have hne : d ≠ t := fun e => hdt (by rw [hd, e])
            simp [Act.put, Array.getElem?_setIfInBounds_ne hne]
        rw [e2]
        have hk := hm.slots t htn
        have hsteady : (slotOf ops a0 sl (fun j => L.getD j false) t ops.size).steady M := by
          have : ∀ k, (slotOf ops a0 sl (fun j => L.getD j false) t k).steady M := by
            intro k
            induction k with
            | zero => exact trivial
            | succ k ih =>
              unfold slotOf
              split
              · rename_i hh
                cases hok : ops[k]? with
                | none => simp [dstOf, hok] at hh
                | some p => exact hst k p hok
              · exact ih
          exact this _
        exact Slot.ok_ext hsteady he hk
    · by_cases hji : i = j
      · subst hji
        exact ⟨v, hv⟩
      · rw [getD_set_ne false hji] at hj
        obtain ⟨u, hu⟩ := hm.effs j p hj hp hd
        exact ⟨u, Slot.ok_ext (hst j p hp) he hu⟩
  unfold wpOp
  simp only [ho]
  split
  · rename_i hw
    rw [if_pos hw] at hag
    exact .inl (Gives.wp hag fun v w' ⟨h1, h2⟩ => after v w' h1 h2)
  · rename_i hw
    rw [if_neg hw] at hag
    exact after undef w hag (M.refl w)
theorem MidE.any {sl : Nat → Slot} {z : Nat} (hF : SteadyR M F) (hg : graphB ops a0.tmps.size = true) (hlk : looksB ops a0.tmps.size = true) (hz : ops.size ≤ z + 1) (hlast : lastB ops z = true)
    (hst : ∀ j o, ops[j]? = some o → (sl j).steady M)
    (hsl : ∀ j o, j < z → ops[j]? = some o → OpOK P ops M F o (fun t => slotOf ops a0 sl (fun _ => true) t j) (sl j)) {Q : Exit → Act → World → Prop}
    (hQ : ∀ L a w, (∀ i, i < ops.size → i < z → L.getD i false = true) → L.getD z false = false → MidE ops F a0 sl L a w → wpOp P ops Q z (fun a' w' => Q .normal a' w') a w) :
    ∀ (fuel : Nat) (L : Array Bool) (a : Act) (w : World), L.getD z false = false → MidE ops F a0 sl L a w → ((List.range ops.size).filter fun i => !L.getD i false).length ≤ fuel → wpAny P .any ops Q fuel L a w := by
  have none_ready : ∀ L : Array Bool, L.size = ops.size → (∀ i, i < ops.size → L.getD i false = true) → Region.ready .any ops L = [] := by
    intro L hs hall
    rcases hr : Region.ready .any ops L with _ | ⟨i, r⟩
    · rfl
    · have hi : i ∈ Region.ready .any ops L := by rw [hr]; simp
      obtain ⟨hun, o, ho, _⟩ := mem_ready.1 hi
      have hil : i < ops.size := (Array.getElem?_eq_some_iff.1 ho).1
      have hiL : i < L.size := by rw [hs]; exact hil
      have := hall i hil
      simp [hiL] at hun this
      rw [hun] at this; cases this
  have full : ∀ L a w, MidE ops F a0 sl L a w → Region.ready .any ops L = [] → ∀ i, i < ops.size → L.getD i false = true := by
    intro L a w hm hr i
    induction i using Nat.strongRecOn with
    | _ i ih =>
      intro hi
      cases hL : L.getD i false with
      | true => rfl
      | false =>
        have ho : ops[i]? = some ops[i] := Array.getElem?_eq_getElem hi
        have : i ∈ Region.ready .any ops L := mem_ready.2 ⟨by
          have hiL : i < L.size := by rw [hm.size]; exact hi
          simp [hiL] at hL ⊢; exact hL, _, ho, fun e he hb => by
            have hlt := (graph_spec hg ho).1 e he hb
            exact ih e.on hlt (by omega)⟩
        rw [hr] at this; cases this
  intro fuel
  induction fuel with
  | zero =>
    intro L a w hz0 hm hc
    have hall : ∀ i, i < ops.size → L.getD i false = true := fun i hi => by
      cases hL : L.getD i false with
      | true => rfl
      | false =>
        have hmem : i ∈ (List.range ops.size).filter fun i => !L.getD i false := List.mem_filter.2 ⟨List.mem_range.2 hi, by simp only [hL]; rfl⟩
        have := List.length_pos_of_mem hmem
        omega
    refine ⟨none_ready L hm.size hall, ?_⟩
    have hzn : ops[z]? = none := by
      rcases Nat.lt_or_ge z ops.size with h | h
      · rw [hall z h] at hz0; cases hz0
      · exact Array.getElem?_eq_none h
    have := hQ L a w (fun i hi _ => hall i hi) hz0 hm
    simpa [wpOp, hzn] using this
  | succ fuel ih =>
    intro L a w hz0 hm hc
    refine ⟨fun hr => ?_, fun i hi => ?_⟩
    · have hall := full L a w hm hr
      have hzn : ops[z]? = none := by
        rcases Nat.lt_or_ge z ops.size with h | h
        · rw [hall z h] at hz0; cases hz0
        · exact Array.getElem?_eq_none h
      have := hQ L a w (fun i hi _ => hall i hi) hz0 hm
      simpa [wpOp, hzn] using this
    · obtain ⟨hun, o, ho, hready⟩ := mem_ready.1 hi
      have hil : i < ops.size := (Array.getElem?_eq_some_iff.1 ho).1
      have hiL : i < L.size := by rw [hm.size]; exact hil
      by_cases hiz : i = z
      · subst hiz
        have hanc := ancs_done (ops := ops) (L := fun j => L.getD j false) hm.down i ((o.after.toList.filter (Region.binds .any)).map (·.on)) (fun j hj => by
          obtain ⟨e, he, rfl⟩ := List.mem_map.1 hj
          obtain ⟨h1, h2⟩ := List.mem_filter.1 he
          exact hready e (Array.mem_toList_iff.1 h1) h2)
        have hall : ∀ j, j < i → L.getD j false = true := fun j hj => by
          unfold lastB at hlast
          simp only [ho] at hlast
          exact hanc j (by simpa using List.all_eq_true.1 hlast j (List.mem_range.2 hj))
        refine wpOp_mono (fun a' w' h' => ?_) (hQ L a w (fun j _ hj => hall j hj) hz0 hm)
        have hn : Region.ready .any ops (L.setIfInBounds i true) = [] := none_ready _ (by simp [hm.size]) fun j hj => by
          by_cases hji : i = j
          · subst hji; simp [hiL]
          · rw [getD_set_ne false hji]; exact hall j (by omega)
        cases fuel with
        | zero => exact ⟨hn, h'⟩
        | succ fuel => exact ⟨fun _ => h', fun j hj => by rw [hn] at hj; cases hj⟩
      · refine wpOp_mono (fun a' w' hm' => ih _ _ _ (by rw [getD_set_ne false hiz]; exact hz0) hm' ?_) (hm.step hF hg hst (fun p hp => hsl i p (by omega) hp) hi fun o ho => looks_of hlk ho)
        have hlt : ((List.range ops.size).filter fun j => !(L.setIfInBounds i true).getD j false).length < ((List.range ops.size).filter fun j => !L.getD j false).length := by
          have hmem : i ∈ (List.range ops.size).filter fun j => !L.getD j false := List.mem_filter.2 ⟨List.mem_range.2 hil, by simp [hiL] at hun ⊢; exact hun⟩
          have hsub : ((List.range ops.size).filter fun j => !(L.setIfInBounds i true).getD j false) = ((List.range ops.size).filter fun j => !L.getD j false).filter fun j => j != i := by
            rw [List.filter_filter]
            refine List.filter_congr fun j _ => ?_
            by_cases hji : i = j
            · subst hji; simp [hiL]
            · have hb : (j != i) = true := by simp; omega
              rw [getD_set_ne false hji, hb, Bool.true_and]
          rw [hsub]
          refine List.length_filter_lt_length_iff_exists.2 ⟨i, hmem, by simp⟩
        omega


/-- .. whose last operation is met when all is done. -/
def AfterLastE (P : Program) (ops : Array Oper) (F : World → Prop) (a0 : Act) (Q : Exit → Act → World → Prop) (z : Oper) (g : Nat → Slot) (E : World → Prop) : Prop :=
  ∀ a w, F w → a.tmps.size = a0.tmps.size → a.defers = a0.defers → (∀ t, t < a0.tmps.size → (g t).ok (a.tmps.getD t undef) w) → E w → wpList P ops Q [z] a w
theorem wp_region_awe_last {id : Nat} {Q : Exit → Act → World → Prop} {w : World} (M : Rel) (F : World → Prop) (hF : SteadyR M F) (hF0 : F { w with drawn := w.drawn + 1 }) {l : List Oper} {z : Oper} (hm : P.follows .mixedOrders = true) (hg : graphB (l ++ [z]).toArray a0.tmps.size = true) (hlk : looksB (l ++ [z]).toArray a0.tmps.size = true)
    (hlast : lastB (l ++ [z]).toArray l.length = true)
    (h : AWE P (l ++ [z]).toArray M F (AfterLastE P (l ++ [z]).toArray F a0 Q z) l (fun t => .val (a0.tmps.getD t undef)) (fun _ => True)) : (Code.region id (l ++ [z]).toArray true).wp P Q a0 w := by
  obtain ⟨sl, env, E', hE, _, hfar, hsl, he, hR⟩ := AWE.slots (a0 := a0) (ops := (l ++ [z]).toArray) l 0 _ (fun _ => .val undef) (fun _ => True) (fun _ _ => trivial) (fun j o hj => by simpa [List.getElem?_append_left (List.getElem?_eq_some_iff.1 hj).1] using hj) (fun _ => rfl) h
  simp only [Nat.zero_add] at he hsl hfar hE
  have hsz : (l ++ [z]).toArray.size = l.length + 1 := by simp
  have hzs : (l ++ [z]).toArray[l.length]? = some z := by simp
  have hlt : ∀ j o, (l ++ [z]).toArray[j]? = some o → j < l.length + 1 := fun j o ho => by have := (Array.getElem?_eq_some_iff.1 ho).1; omega
  refine wp_region_any hm (MidE.any (z := l.length) (M := M) hF hg hlk (by omega) hlast (fun j o ho => ?_) (fun j o hj ho => (hsl j o (Nat.zero_le _) hj ho).2) (fun L a w' hall hz0 hm => ?_) _ _ _ _ (start_z _ _) (MidE.start hF0) ?_)
  · rcases Nat.lt_or_ge j l.length with hj | hj
    · exact (hsl j o (Nat.zero_le _) hj ho).1
    · rw [hfar j hj]; exact trivial
  · have := hR a w' hm.frame hm.tmps hm.defers (Mid.end_ (by omega) he hall hz0 hm.mid) (hE w' fun j o hj ho hd => hm.effs j o (hall j (by omega) hj) ho hd)
    simpa [wpOp, hzs, wpList] using this
  · exact Nat.le_trans (List.length_filter_le _ _) (by simp)
end
/-- A load of a variable of many cells. -/
theorem gives_load {P : Program} {o : Oper} {a : Act} {w : World} {T : TypeId} {x : Operand} {p : Addr} {cs : Array Value} (hop : o.op = .load T x) (hx : a.eval x = .pointer (some p)) (hld : (loadVar T p).run P w = .ok (.agg cs) w) : Gives P (fun u w' => u = .agg cs ∧ w' = w) ((execOp a.eval o).run P w) := by
  simp only [execOp, hop, hx, Instr.loadAt, Instr.sureAddr, Sem.run_bind, Sem.run_pure, Result.andThen, hld]
  exact ⟨rfl, rfl⟩
section
variable {P : Program} {ops : Array Oper} {M : Rel} {F : World → Prop} {R : (Nat → Slot) → (World → Prop) → Prop} {a0 : Act} {E : World → Prop}
/-- The walk at a frame b that is written out. -/
def AWe (P : Program) (ops : Array Oper) (M : Rel) (F : World → Prop) (R : (Nat → Slot) → (World → Prop) → Prop) (l : List Oper) (b : Act) (A : Anys) (E : World → Prop) : Prop := AWE P ops M F R l (slotsOf b A) E
theorem AWe.val {o : Oper} {rest : List Oper} {b : Act} {A : Anys} {v : Value} (hap : apartB A (o.looksAt ops) = true) (hd : dstB A b.tmps.size o.dst = true) (hsel : (match o.op with | .select .. => false | _ => true) = true) (hw : Region.wanted o (yielded ops b.tmps) = true)
    (h : ∀ w, F w → Gives P (fun u w' => u = v ∧ w' = w) ((execOp b.eval o).run P w)) (hr : AWe P ops M F R rest (b.put o.dst v) A E) : AWe P ops M F R (o :: rest) b A E := by
  refine .inl ⟨.val v, trivial, fun a w hF hl => ?_, by rw [← slotsOf_put hd]; exact hr⟩
  rw [wanted_same hap hl, if_pos hw, exec_same hsel hap hl]
  exact (h w hF).mono fun u w' h3 => ⟨h3.1, by rw [h3.2]; exact M.refl _⟩
theorem AWe.valE {o : Oper} {rest : List Oper} {b : Act} {A : Anys} (hap : apartB A (o.looksAt ops) = true) (hd : dstB A b.tmps.size o.dst = true) (hsel : (match o.op with | .select .. => false | _ => true) = true) (hw : Region.wanted o (yielded ops b.tmps) = true)
    (h : ∃ v, (∀ w, F w → Gives P (fun u w' => u = v ∧ w' = w) ((execOp b.eval o).run P w)) ∧ AWe P ops M F R rest (b.put o.dst v) A E) : AWe P ops M F R (o :: rest) b A E :=
  AWe.val hap hd hsel hw h.choose_spec.1 h.choose_spec.2
/-- An operation of exact operands that hands back this value and makes new memory at the most (a call). -/
theorem AWe.made {o : Oper} {rest : List Oper} {b : Act} {A : Anys} (hap : apartB A (o.looksAt ops) = true) (hd : dstB A b.tmps.size o.dst = true) (hsel : (match o.op with | .select .. => false | _ => true) = true) (hw : Region.wanted o (yielded ops b.tmps) = true)
    (h : ∃ v, (∀ w, F w → Gives P (fun u w' => u = v ∧ Ext w w') ((execOp b.eval o).run P w)) ∧ AWe P ops M F R rest (b.put o.dst v) A E) : AWe P ops M F R (o :: rest) b A E := by
  obtain ⟨v, h, hr⟩ := h
  refine .inl ⟨.val v, trivial, fun a w hF hl => ?_, by rw [← slotsOf_put hd]; exact hr⟩
  rw [wanted_same hap hl, if_pos hw, exec_same hsel hap hl]
  exact (h w hF).mono fun u w' h3 => ⟨h3.1, M.ofExt _ _ h3.2⟩
theorem AWe.call {o : Oper} {rest : List Oper} {b : Act} {A : Anys} {f : FuncId} {fn : Func} {xs : List Operand} {ats : Array TypeId} (ho : o.op = .call { callee := .value (.func f), args := xs.toArray, argTypes := ats })
    (hf : P.funcs[f]? = some fn) (h1 : (fn.name == "runtime.NumGoroutine") = false) (h2 : fn.body.isNone = false)
    (hgn : o.guard = none) (hd : dstB A b.tmps.size o.dst = true)
    (h : ∃ c, (∀ w, F w → argsOf b A w xs fun ys => Calls P f ys.toArray w (Ret c w)) ∧ AWe P ops M F R rest (b.put o.dst c) A E) : AWe P ops M F R (o :: rest) b A E := by
  obtain ⟨c, hc, hr⟩ := h
  refine .inl ⟨.val c, trivial, fun a w hF hl => ?_, by rw [← slotsOf_put hd]; exact hr⟩
  have hops : ∀ t, .tmp t ∈ xs → (slotsOf b A t).ok (a.tmps.getD t undef) w := fun t ht =>
    hl t (List.mem_append_left _ (List.mem_filterMap.2 ⟨.tmp t, by simp [ho, Op.operands, Call.operands, ht], rfl⟩))
  have hwa : Region.wanted o (yielded ops a.tmps) = true := by unfold Region.wanted; rw [hgn]
  rw [if_pos hwa, exec_call ho rfl, run_callFunc hf h1 h2]
  exact (callsV (argsOf_get xs _ hops (hc w hF))).mono fun _ _ ⟨v, e, h, k⟩ => ⟨v, e, h, M.ofExt _ _ k⟩
/-- A store: what it brings about. -/
theorem AWe.eff {o : Oper} {rest : List Oper} {b : Act} {A : Anys} (φ : World → Prop) (hφ : SteadyR M φ) (hap : apartB A (o.looksAt ops) = true) (hd : o.dst = none) (hsel : (match o.op with | .select .. => false | _ => true) = true) (hw : Region.wanted o (yielded ops b.tmps) = true)
    (h : ∀ w, F w → Gives P (fun _ w' => φ w' ∧ M.r w w') ((execOp b.eval o).run P w)) (hr : AWe P ops M F R rest b A (fun w => E w ∧ φ w)) : AWe P ops M F R (o :: rest) b A E := by
  refine .inr ⟨hd, φ, hφ, fun a w hF hl => ?_, hr⟩
  rw [wanted_same hap hl, if_pos hw, exec_same hsel hap hl]
  exact h w hF
theorem AWe.last {Q : Exit → Act → World → Prop} {b : Act} {A : Anys} {z : Oper} (hs : b.tmps.size = a0.tmps.size) (hd : b.defers = a0.defers) (hk : keysB b.tmps.size A = true)
    (h : ∀ w, F w → E w → closeAny (wpList P ops Q [z]) w A b) : AWe P ops M F (AfterLastE P ops F a0 Q z) [] b A E :=
  fun a w hF hsz hdf hsl hE => closeAny_sound A b hk (by rw [hs, hsz]) (by rw [hd, hdf]) (fun t ht => hsl t (by rw [← hs]; exact ht)) (h w hF hE)
theorem wp_region_laste {id : Nat} {L pre : List Oper} {z : Oper} {Q : Exit → Act → World → Prop} {w : World} (M : Rel) (F : World → Prop) (hpre : L.dropLast = pre) (hz : L.getLast? = some z) (hF : SteadyR M F) (hF0 : F w.drew) (hm : P.follows .mixedOrders = true) (hg : graphB L.toArray a0.tmps.size = true) (hlk : looksB L.toArray a0.tmps.size = true)
    (hlast : lastB L.toArray (L.length - 1) = true)
    (h : AWe P L.toArray M F (AfterLastE P L.toArray F a0 Q z) pre a0 [] (fun _ => True)) : (Code.region id L.toArray true).wp P Q a0 w := by
  have hL : L = pre ++ [z] := by
    subst hpre
    have hne : L ≠ [] := by rintro rfl; cases hz
    have hz' := List.getLast?_eq_some_getLast hne
    rw [hz] at hz'
    injection hz' with hz'
    rw [hz', List.dropLast_concat_getLast hne]
  subst hL
  exact wp_region_awe_last M F hF hF0 hm hg hlk (by simpa using hlast) h
end
end Go.Proofs.YtmbgakjkhgdjnaaGreatDoor
namespace Go.Proofs.YtmbgakjkhgdjnaaGreatDoor
set_option linter.unusedSimpArgs false
set_option linter.unusedVariables false
open Go.RowKit

section
variable {P : Program} {ops : Array Oper} {M : Rel} {F : World → Prop} {a0 : Act}
theorem count_less {L : Array Bool} (hs : L.size = ops.size) {i : Nat} (hi : i ∈ Region.ready .any ops L) : ((List.range ops.size).filter fun j => !(L.setIfInBounds i true).getD j false).length < ((List.range ops.size).filter fun j => !L.getD j false).length := by
  obtain ⟨hun, o, ho, hready⟩ := mem_ready.1 hi
  have hil : i < ops.size := (Array.getElem?_eq_some_iff.1 ho).1
  have hiL : i < L.size := by rw [hs]; exact hil
  have hmem : i ∈ (List.range ops.size).filter fun i => !L.getD i false := List.mem_filter.2 ⟨List.mem_range.2 hil, by rw [getD_at hiL true false] at hun; rw [hun]; rfl⟩
  have hsub : ((List.range ops.size).filter fun j => !(L.setIfInBounds i true).getD j false) = ((List.range ops.size).filter fun j => !L.getD j false).filter fun j => j != i := by
    rw [List.filter_filter]
    refine List.filter_congr fun j _ => ?_
    by_cases hji : i = j
    · subst hji; simp [hiL]
    · have hb : (j != i) = true := by simp; omega
      rw [getD_set_ne false hji, hb, Bool.true_and]
  rw [hsub]
  exact List.length_filter_lt_length_iff_exists.2 ⟨i, hmem, by simp⟩
theorem Mid.any_three {sl : Nat → Slot} {z : Nat} (hF : SteadyR M F) (hg : graphB ops a0.tmps.size = true) (hlk : looksB ops a0.tmps.size = true) (hz : ops.size = z + 3) (hl1 : lastB ops z = true) (hl2 : lastB ops (z + 2) = true)
    (hst : ∀ j o, ops[j]? = some o → (sl j).steady M)
    (hsl : ∀ j o, j < z ∨ j = z + 1 → ops[j]? = some o → OpOK P ops M F o (fun t => slotOf ops a0 sl (fun _ => true) t j) (sl j)) {Q : Exit → Act → World → Prop}
    (hQ1 : ∀ L a w, (∀ i, i < z → L.getD i false = true) → L.getD z false = false → L.getD (z + 1) false = true → L.getD (z + 2) false = false → Mid ops F a0 sl L a w → wpOp P ops Q z (fun a w => wpOps P ops Q [z + 2] a w) a w)
    (hQ2 : ∀ L a w, (∀ i, i < z → L.getD i false = true) → L.getD z false = false → L.getD (z + 1) false = false → L.getD (z + 2) false = false → Mid ops F a0 sl L a w → wpOp P ops Q z (fun a w => wpOp P ops Q (z + 1) (fun a w => wpOps P ops Q [z + 2] a w) a w) a w) :
    ∀ (fuel : Nat) (L : Array Bool) (a : Act) (w : World), L.getD z false = false → L.getD (z + 2) false = false → Mid ops F a0 sl L a w → ((List.range ops.size).filter fun i => !L.getD i false).length ≤ fuel → wpAny P .any ops Q fuel L a w := by
  have full : ∀ L a w, Mid ops F a0 sl L a w → Region.ready .any ops L = [] → ∀ i, i < ops.size → L.getD i false = true := by
    intro L a w hm hr i
    induction i using Nat.strongRecOn with
    | _ i ih =>
      intro hi
      cases hL : L.getD i false with
      | true => rfl
      | false =>
        have ho : ops[i]? = some ops[i] := Array.getElem?_eq_getElem hi
        have : i ∈ Region.ready .any ops L := mem_ready.2 ⟨(getD_at (by rw [hm.size]; exact hi) _ _).trans hL, _, ho, fun e he hb => by
            have hlt := (graph_spec hg ho).1 e he hb
            exact ih e.on hlt (by omega)⟩
        rw [hr] at this; cases this
  have fin : ∀ (fuel : Nat) (L : Array Bool) (a : Act) (w : World), L.size = ops.size → (∀ j, j < z + 2 → L.getD j false = true) → L.getD (z + 2) false = false → 1 ≤ fuel → wpOps P ops Q [z + 2] a w → wpAny P .any ops Q fuel L a w := by
    intro fuel L a w hs hall hz2 hf h
    refine any_of_ops (a0 := a0) (z := z + 2) hg (fun j h1 h2 => by (obtain rfl : j = z + 2 := (by omega)); exact hl2) 1 (z + 2) fuel L a w (Nat.le_refl _) (by omega) hs (fun j => ?_) hf (by simpa using h)
    rcases Nat.lt_or_ge j (z + 2) with h | h
    · rw [hall j h]; simp [h]
    · rcases Nat.eq_or_lt_of_le h with h | h
      · rw [← h, hz2]; simp
      · have : L.getD j false = false := by simp [show ¬ j < L.size by omega]
        rw [this]; simp; omega
  have one : ∀ L : Array Bool, L.getD (z + 2) false = false → 1 ≤ ((List.range ops.size).filter fun i => !L.getD i false).length := fun L h => by
    have hmem : z + 2 ∈ (List.range ops.size).filter fun i => !L.getD i false := List.mem_filter.2 ⟨List.mem_range.2 (by omega), by rw [h]; rfl⟩
    exact List.length_pos_of_mem hmem
  intro fuel
  induction fuel with
  | zero =>
    intro L a w hz0 hz2 hm hc
    have := one L hz2
    omega
  | succ fuel ih =>
    intro L a w hz0 hz2 hm hc
    refine ⟨fun hr => ?_, fun i hi => ?_⟩
    · have hall := full L a w hm hr z (by omega)
      rw [hz0] at hall; cases hall
    · have hless := count_less hm.size hi
      obtain ⟨hun, o, ho, hready⟩ := mem_ready.1 hi
      have hil : i < ops.size := (Array.getElem?_eq_some_iff.1 ho).1
      have hiL : i < L.size := by rw [hm.size]; exact hil
      have hbefore : lastB ops i = true → ∀ j, j < i → L.getD j false = true := fun hlast j hj => by
        have hanc := ancs_done (ops := ops) (L := fun j => L.getD j false) hm.down i ((o.after.toList.filter (Region.binds .any)).map (·.on)) (fun j hj => by
          obtain ⟨e, he, rfl⟩ := List.mem_map.1 hj
          obtain ⟨h1, h2⟩ := List.mem_filter.1 he
          exact hready e (Array.mem_toList_iff.1 h1) h2)
        unfold lastB at hlast
        simp only [ho] at hlast
        exact hanc j (by simpa using List.all_eq_true.1 hlast j (List.mem_range.2 hj))
      have stepping : (i < z ∨ i = z + 1) → wpOp P ops Q i (wpAny P .any ops Q fuel (L.setIfInBounds i true)) a w := fun hc2 => by
        refine wpOp_mono (fun a' w' hm' => ih _ _ _ (by rw [getD_set_ne false (by omega)]; exact hz0) (by rw [getD_set_ne false (by omega)]; exact hz2) hm' (by omega)) (hm.step hF hg hst (fun p hp => hsl i p hc2 hp) hi fun o ho => looks_of hlk ho)
      by_cases h1 : i < z
      · exact stepping (.inl h1)
      by_cases h2 : i = z + 1
      · exact stepping (.inr h2)
      by_cases h3 : i = z + 2
      · subst h3
        have := hbefore hl2 z (by omega)
        rw [hz0] at this; cases this
      obtain rfl : i = z := by omega
      have hall := hbefore hl1
      have hset : ∀ j, j < i + 1 → (L.setIfInBounds i true).getD j false = true := fun j hj => by
        by_cases hji : i = j
        · subst hji; simp [hiL]
        · rw [getD_set_ne false hji]; exact hall j (by omega)
      have hz2' : (L.setIfInBounds i true).getD (i + 2) false = false := by rw [getD_set_ne false (by omega)]; exact hz2
      have hone := one _ hz2'
      cases hp : L.getD (i + 1) false with
      | true =>
        refine wpOp_mono (fun a' w' h' => fin _ _ _ _ (by simp [hm.size]) (fun j hj => ?_) hz2' (by omega) h') (hQ1 L a w hall hz0 hp hz2 hm)
        rcases Nat.lt_or_ge j (i + 1) with h | h
        · exact hset j h
        · obtain rfl : j = i + 1 := by omega
          rw [getD_set_ne false (by omega)]; exact hp
      | false =>
        have hz1' : (L.setIfInBounds i true).getD (i + 1) false = false := by rw [getD_set_ne false (by omega)]; exact hp
        have htwo : 2 ≤ ((List.range ops.size).filter fun j => !(L.setIfInBounds i true).getD j false).length := by
          rw [hz, List.range_succ, List.range_succ, List.filter_append, List.filter_append]
          have e1 : List.filter (fun j => !(L.setIfInBounds i true).getD j false) [i + 1] = [i + 1] := by rw [List.filter_cons_of_pos (by rw [hz1']; rfl)]; rfl
          have e2 : List.filter (fun j => !(L.setIfInBounds i true).getD j false) [i + 2] = [i + 2] := by rw [List.filter_cons_of_pos (by rw [hz2']; rfl)]; rfl
          rw [e1, e2]
          simp
        obtain ⟨f, rfl⟩ : ∃ f, fuel = f + 1 := ⟨fuel - 1, by omega⟩
        refine wpOp_mono (fun a' w' h' => ?_) (hQ2 L a w hall hz0 hp hz2 hm)
        have ho2 : ops[i + 1]? = some ops[i + 1] := Array.getElem?_eq_getElem (by omega)
        have hs1 : i + 1 < (L.setIfInBounds i true).size := by simp [hm.size]; omega
        have hr1 : i + 1 ∈ Region.ready .any ops (L.setIfInBounds i true) := mem_ready.2 ⟨(getD_at hs1 _ _).trans hz1', _, ho2, fun e he hb => hset _ ((graph_spec hg ho2).1 e he hb)⟩
        refine ⟨fun hr => ?_, fun j hj => ?_⟩
        · rw [hr] at hr1; cases hr1
        · obtain ⟨hunj, oj, hoj, hrj⟩ := mem_ready.1 hj
          have hjl : j < ops.size := (Array.getElem?_eq_some_iff.1 hoj).1
          have hj1 : j = i + 1 := by
            rcases Nat.lt_or_ge j (i + 1) with h | h
            · have h3 := hset j h
              have hs : j < (L.setIfInBounds i true).size := by simp [hm.size]; omega
              rw [getD_at hs true false, h3] at hunj; cases hunj
            · by_cases hj2 : j = i + 2
              · subst hj2
                exfalso
                have hdn : ∀ k o, (L.setIfInBounds i true).getD k false = true → ops[k]? = some o → ∀ e ∈ o.after, Region.binds .any e = true → (L.setIfInBounds i true).getD e.on false = true := fun k o hk hko e he hb => by
                  by_cases hki : i = k
                  · subst hki
                    exact hset _ (Nat.lt_succ_of_lt ((graph_spec hg hko).1 e he hb))
                  · rw [getD_set_ne false hki] at hk
                    have := hm.down k o hk hko e he hb
                    by_cases hie : i = e.on
                    · rw [← hie]; exact hset i (by omega)
                    · rw [getD_set_ne false hie]; exact this
                have hanc := ancs_done (ops := ops) (L := fun j => (L.setIfInBounds i true).getD j false) hdn (i + 2) ((oj.after.toList.filter (Region.binds .any)).map (·.on)) (fun j hj => by
                  obtain ⟨e, he, rfl⟩ := List.mem_map.1 hj
                  obtain ⟨h1, h2⟩ := List.mem_filter.1 he
                  exact hrj e (Array.mem_toList_iff.1 h1) h2)
                have hlast := hl2
                unfold lastB at hlast
                simp only [hoj] at hlast
                have h9 := hanc (i + 1) (by simpa using List.all_eq_true.1 hlast (i + 1) (List.mem_range.2 (by omega)))
                rw [hz1'] at h9; cases h9
              · omega
          subst hj1
          refine wpOp_mono (fun a2 w2 hq => fin _ _ _ _ (by simp [hm.size]) (fun k hk => ?_) (by rw [getD_set_ne false (by omega)]; exact hz2') (by omega) hq) h'
          by_cases hki : i + 1 = k
          · subst hki
            have hs : i + 1 < L.size := by rw [hm.size]; omega
            simp [hs]
          · rw [getD_set_ne false hki]; exact hset k (by omega)
theorem slotOf_sl {sl sl' : Nat → Slot} {m : Nat → Bool} {t : Nat} : ∀ n, (∀ j, j < n → sl j = sl' j) → slotOf ops a0 sl m t n = slotOf ops a0 sl' m t n
  | 0, _ => rfl
  | n + 1, h => by
    unfold slotOf
    rw [slotOf_sl n fun j hj => h j (by omega), h n (by omega)]
/-- What is asked behind the walk: with the operation that may come at any time still to come, and with it done. -/
def AfterThree (P : Program) (ops : Array Oper) (F : World → Prop) (a0 : Act) (Q : Exit → Act → World → Prop) (z1 p z2 : Oper) (d : Nat) (vp : Value) (g : Nat → Slot) : Prop :=
  (∀ a w, F w → a.tmps.size = a0.tmps.size → a.defers = a0.defers → (∀ t, t < a0.tmps.size → (g t).ok (a.tmps.getD t undef) w) → wpList P ops Q [z1, p, z2] a w) ∧
  (∀ a w, F w → a.tmps.size = a0.tmps.size → a.defers = a0.defers → (∀ t, t < a0.tmps.size → (upd g (some d) (.val vp) t).ok (a.tmps.getD t undef) w) → wpList P ops Q [z1, z2] a w)
/-- None of the first n operations writes a slot that this one looks at. -/
def freshB (ops : Array Oper) (p : Oper) (n : Nat) : Bool := (p.looksAt ops).all fun t => (List.range n).all fun j => decide (dstOf ops j ≠ some t)
theorem slotOf_none {sl : Nat → Slot} {m : Nat → Bool} {t : Nat} : ∀ n, (∀ j, j < n → dstOf ops j ≠ some t) → slotOf ops a0 sl m t n = .val (a0.tmps.getD t undef)
  | 0, _ => rfl
  | n + 1, h => by
    unfold slotOf
    rw [if_neg (fun hh => h n (by omega) hh.2)]
    exact slotOf_none n fun j hj => h j (by omega)
theorem wp_region_aw_three {id : Nat} {Q : Exit → Act → World → Prop} {w : World} {l : List Oper} {z1 p z2 : Oper} {d : Nat} {vp : Value} (hm : P.follows .mixedOrders = true) (hg : graphB (l ++ [z1, p, z2]).toArray a0.tmps.size = true) (hlk : looksB (l ++ [z1, p, z2]).toArray a0.tmps.size = true)
    (hl1 : lastB (l ++ [z1, p, z2]).toArray l.length = true) (hl2 : lastB (l ++ [z1, p, z2]).toArray (l.length + 2) = true)
    (hpd : p.dst = some d) (hpg : p.guard = none) (hpf : freshB (l ++ [z1, p, z2]).toArray p (l.length + 1) = true) (hps : (match p.op with | .select .. => false | _ => true) = true) (hpx : ∀ w, Gives P (fun u w' => u = vp ∧ w' = w) ((execOp a0.eval p).run P w))
    (h : AW P (l ++ [z1, p, z2]).toArray Rel.ext (Ext w) (AfterThree P (l ++ [z1, p, z2]).toArray (Ext w) a0 Q z1 p z2 d vp) l (fun t => .val (a0.tmps.getD t undef))) : (Code.region id (l ++ [z1, p, z2]).toArray true).wp P Q a0 w := by
  obtain ⟨sl, env, _, hfar, hsl, he, hR⟩ := AW.slots (a0 := a0) (ops := (l ++ [z1, p, z2]).toArray) l 0 _ (fun _ => .val undef) (fun j o hj => by simpa [List.getElem?_append_left (List.getElem?_eq_some_iff.1 hj).1] using hj) (fun _ => rfl) h
  simp only [Nat.zero_add] at he hsl hfar
  generalize hops : (l ++ [z1, p, z2]).toArray = ops at *
  have hsz : ops.size = l.length + 3 := by rw [← hops]; simp
  have hzs : ops[l.length]? = some z1 := by rw [← hops]; simp
  have hzp : ops[l.length + 1]? = some p := by rw [← hops]; simp
  have hzs2 : ops[l.length + 2]? = some z2 := by rw [← hops]; simp
  have hdp : dstOf ops (l.length + 1) = some d := by simp [dstOf, hzp, hpd]
  let sl1 : Nat → Slot := fun j => if j = l.length + 1 then .val vp else sl j
  have hsl1 : ∀ j, j < l.length + 1 → sl1 j = sl j := fun j hj => by simp only [sl1]; rw [if_neg (by omega)]
  have hslp : sl1 (l.length + 1) = .val vp := by simp [sl1]
  have e2 : (fun (a : Act) (w : World) => wpOps P ops Q [l.length + 2] a w) = fun a w => wpList P ops Q [z2] a w := by
    funext a w
    simp [wpOps, wpOp, hzs2, wpList]
  refine wp_region_any hm (Mid.any_three (z := l.length) (M := Rel.ext) (F := Ext w) (sl := sl1) (Ext.steady w) hg hlk hsz hl1 hl2 (fun j o ho => ?_) (fun j o hj ho => ?_) (fun L a w' hall hz0 hz1 hz2 hm => ?_) (fun L a w' hall hz0 hz1 hz2 hm => ?_) _ _ _ _ (start_z _ _) (start_z _ _) (Mid.start (Ext.drew w)) ?_)
  · by_cases hj : j = l.length + 1
    · subst hj; rw [hslp]; exact trivial
    · have e : sl1 j = sl j := by simp only [sl1]; rw [if_neg hj]
      rw [e]
      rcases Nat.lt_or_ge j l.length with hj | hj
      · exact (hsl j o (Nat.zero_le _) hj ho).1
      · rw [hfar j hj]; exact trivial
  · rcases hj with hj | rfl
    · rw [hsl1 j (by omega)]
      have e : (fun t => slotOf ops a0 sl1 (fun _ => true) t j) = fun t => slotOf ops a0 sl (fun _ => true) t j := by
        funext t
        exact slotOf_sl j fun k hk => hsl1 k (by omega)
      rw [e]
      exact (hsl j o (Nat.zero_le _) hj ho).2
    · rw [hzp] at ho
      injection ho with ho
      subst ho
      rw [hslp]
      intro a wc hw hl
      have hwt : Region.wanted p (yielded ops a.tmps) = true := by unfold Region.wanted; rw [hpg]
      rw [if_pos hwt]
      have hev : execOp a.eval p = execOp a0.eval p := by
        refine execOp_congr p (fun cs b hs => by rw [hs] at hps; cases hps) fun x hx => ?_
        cases x with
        | tmp t =>
          have ht : t ∈ p.looksAt ops := List.mem_append_left _ (List.mem_filterMap.2 ⟨.tmp t, by simpa using hx, rfl⟩)
          have h1 : (slotOf ops a0 sl1 (fun _ => true) t (l.length + 1)).ok (a.tmps.getD t undef) wc := hl t ht
          have h2 := List.all_eq_true.1 (List.all_eq_true.1 hpf t ht)
          rw [slotOf_none (l.length + 1) fun j hj => by simpa using h2 j (List.mem_range.2 hj)] at h1
          exact h1
        | _ => rfl
      rw [hev]
      exact (hpx wc).mono fun u w2 h3 => ⟨h3.1, by rw [h3.2]; exact Ext.refl _⟩
  · have := hR.2 a w' hm.frame hm.tmps hm.defers (fun t ht => by
      have hs := hm.slots t ht
      have e : slotOf ops a0 sl1 (fun j => L.getD j false) t ops.size = upd env (some d) (.val vp) t := by
        rw [slotOf_cut ops a0 (i := l.length + 2) _ (by omega) fun j h1 h2 _ => by
          obtain rfl : j = l.length + 2 := by omega
          exact hz2]
        unfold slotOf
        rw [hdp, hz1, hslp]
        unfold upd
        by_cases hdt : d = t
        · subst hdt; simp
        · simp only [hdt, if_false, Option.some.injEq, and_false]
          unfold slotOf
          rw [if_neg (fun hh => by rw [hz0] at hh; exact absurd hh.1 Bool.false_ne_true), he t, slotOf_congr ops a0 (m' := fun _ => true) l.length fun j hj _ => hall j hj]
          exact slotOf_sl _ fun k hk => hsl1 k (by omega)
      rw [e] at hs
      exact hs)
    rw [e2]
    simpa [wpOp, hzs, wpList] using this
  · have := hR.1 a w' hm.frame hm.tmps hm.defers (fun t ht => by
      have hs := hm.slots t ht
      have e : slotOf ops a0 sl1 (fun j => L.getD j false) t ops.size = env t := by
        rw [slotOf_cut ops a0 (i := l.length) _ (by omega) fun j h1 h2 _ => by
          have : j = l.length ∨ j = l.length + 1 ∨ j = l.length + 2 := by omega
          rcases this with rfl | rfl | rfl
          · exact hz0
          · exact hz1
          · exact hz2]
        rw [he t, slotOf_congr ops a0 (m' := fun _ => true) l.length fun j hj _ => hall j hj]
        exact slotOf_sl _ fun k hk => hsl1 k (by omega)
      rw [e] at hs
      exact hs)
    have e3 : (fun (a : Act) (w : World) => wpOp P ops Q (l.length + 1) (fun a w => wpOps P ops Q [l.length + 2] a w) a w) = fun a w => wpList P ops Q [p, z2] a w := by
      funext a w
      rw [e2]
      simp [wpOp, hzp, wpList]
    rw [e3]
    simpa [wpOp, hzs, wpList] using this
  · exact Nat.le_trans (List.length_filter_le _ _) (by simp)
theorem AWq.three {Q : Exit → Act → World → Prop} {w0 : World} {b : Act} {A : Anys} {z1 p z2 : Oper} {d : Nat} {vp : Value} (hs : b.tmps.size = a0.tmps.size) (hd : b.defers = a0.defers) (hk : keysB b.tmps.size A = true) (hdd : dstB A b.tmps.size (some d) = true) (hk2 : keysB (b.put (some d) vp).tmps.size A = true)
    (h : ∀ w, Ext w0 w → closeAny (wpList P ops Q [z1, p, z2]) w A b ∧ closeAny (wpList P ops Q [z1, z2]) w A (b.put (some d) vp)) : AWq P ops M w0 (AfterThree P ops (Ext w0) a0 Q z1 p z2 d vp) [] b A := by
  refine ⟨fun a w he hsz hdf hsl => closeAny_sound A b hk (by rw [hs, hsz]) (by rw [hd, hdf]) (fun t ht => hsl t (by rw [← hs]; exact ht)) (h w he).1, fun a w he hsz hdf hsl => ?_⟩
  have hb : (b.put (some d) vp).tmps.size = b.tmps.size := by simp [Act.put]
  refine closeAny_sound A (b.put (some d) vp) hk2 (by rw [hb, hs, hsz]) (by show b.defers = _; rw [hd, hdf]) (fun t ht => ?_) (h w he).2
  rw [slotsOf_put hdd]
  exact hsl t (by rw [← hs, ← hb]; exact ht)
theorem wp_region_three {id : Nat} {L pre : List Oper} {z1 p z2 : Oper} {Q : Exit → Act → World → Prop} {w : World} (d : Nat) (vp : Value) (k : Nat) (hpre : L.take k = pre) (htl : L.drop k = [z1, p, z2]) (hm : P.follows .mixedOrders = true) (hg : graphB L.toArray a0.tmps.size = true) (hlk : looksB L.toArray a0.tmps.size = true)
    (hl1 : lastB L.toArray k = true) (hl2 : lastB L.toArray (k + 2) = true) (hpd : p.dst = some d) (hpg : p.guard = none) (hpf : freshB L.toArray p (k + 1) = true) (hps : (match p.op with | .select .. => false | _ => true) = true) (hkl : decide (k < L.length) = true) (hpx : ∀ w, Gives P (fun u w' => u = vp ∧ w' = w) ((execOp a0.eval p).run P w))
    (h : AWq P L.toArray Rel.ext w (AfterThree P L.toArray (Ext w) a0 Q z1 p z2 d vp) pre a0 []) : (Code.region id L.toArray true).wp P Q a0 w := by
  have hL : L = pre ++ [z1, p, z2] := by rw [← hpre, ← htl, List.take_append_drop]
  have hkk : pre.length = k := by rw [← hpre, List.length_take]; have := of_decide_eq_true hkl; omega
  subst hL
  subst hkk
  exact wp_region_aw_three hm hg hlk hl1 hl2 hpd hpg hpf hps hpx h
end
end Go.Proofs.YtmbgakjkhgdjnaaGreatDoor
