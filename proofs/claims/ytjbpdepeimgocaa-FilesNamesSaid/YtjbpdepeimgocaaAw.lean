/-
  One rule for a region of operations, whatever order they are carried out in: each operation gets an assertion on the slot that it writes (an exact value, or a fact that new memory cannot spoil); the operations are met once, in the text's order. Of no program.
-/
import Derived.Orders
import Derived.Deep.Quiet
import Derived.Below
import Derived.Deep.Draws
namespace Go.Proofs.Ytjbpdepeimgocaa
set_option linter.unusedSimpArgs false
set_option linter.unusedVariables false
open Go.RowKit

/-- Nothing that there was has turned: new blocks and draws alone. -/
def Ext (w w' : World) : Prop := Below w.heap.size w w'
theorem Ext.refl (w : World) : Ext w w := Below.refl _ _
theorem Ext.trans {a b c : World} (h : Ext a b) (k : Ext b c) : Ext a c := Below.trans h (Below.mono k h.size)
theorem Ext.cell {w w' : World} (h : Ext w w') {p : Addr} {v : Value} (hc : w.cell? p = some v) : w'.cell? p = some v :=
  (Below.cell h (World.block_lt_of_cell? w p hc)).trans hc
theorem Ext.drew (w : World) : Ext w w.drew := (Below.refl _ _).drew
theorem Ext.drewN (w : World) (n : Nat) : Ext w (w.drewN n) := ⟨rfl, rfl, rfl, Nat.le_refl _, fun _ _ => rfl⟩
theorem Ext.alloc (w : World) (o : Obj) : Ext w (w.alloc o) := (Below.refl _ _).alloc (Nat.le_refl _) o
theorem Ext.heap {w w' : World} (h : Ext w w') {k : Nat} {o : Obj} (hk : w.heap[k]? = some o) : w'.heap[k]? = some o :=
  (h.block k (by rcases Nat.lt_or_ge k w.heap.size with h | h; · exact h
                 · rw [Array.getElem?_eq_none h] at hk; cases hk)).trans hk

/-- What a region's operations may turn. -/
structure Rel where
  r : World → World → Prop
  refl : ∀ w, r w w
  trans : ∀ a b c, r a b → r b c → r a c
  ofExt : ∀ w w', Ext w w' → r w w'
abbrev Rel.ext : Rel := ⟨Ext, Ext.refl, fun _ _ _ => Ext.trans, fun _ _ h => h⟩
def SteadyR (M : Rel) (F : World → Prop) : Prop := ∀ w w', M.r w w' → F w → F w'
def Steady (F : World → Prop) : Prop := ∀ w w', Ext w w' → F w → F w'

inductive Slot where
  | val (v : Value)
  | any (φ : Value → World → Prop)
def Slot.ok : Slot → Value → World → Prop
  | .val c, v, _ => v = c
  | .any φ, v, w => φ v w
def Slot.steady (M : Rel) : Slot → Prop
  | .val _ => True
  | .any φ => ∀ v, SteadyR M (φ v)
theorem Slot.ok_ext {M : Rel} {s : Slot} (h : s.steady M) {v : Value} {w w' : World} (he : M.r w w') (hk : s.ok v w) : s.ok v w' := by
  cases s with
  | val c => exact hk
  | any φ => exact h v w w' he hk

/-- A call that hands back something of which ψ holds. -/
def RetP (ψ : Value → World → Prop) : Ending → World → Prop := fun e w' => ∃ v, e = .returned v ∧ ψ v w'
/-- A call that hands back this very value, and makes new memory at the most. -/
def Ret (c : Value) (w : World) : Ending → World → Prop := fun e w' => e = .returned c ∧ Ext w w'
/-- A call that hands back a value of which φ holds, and makes new memory at the most. -/
def RetQ (φ : Value → World → Prop) (w : World) : Ending → World → Prop := fun e w' => ∃ v, e = .returned v ∧ φ v w' ∧ Ext w w'

theorem callsV {P : Program} {f : FuncId} {args : Array Value} {w : World} {c : Value} (h : Calls P f args w (Ret c w)) : Calls P f args w (RetP fun u w' => u = c ∧ Ext w w') :=
  h.mono fun _ _ ⟨he, hx⟩ => ⟨c, he, rfl, hx⟩
theorem callsQ {P : Program} {f : FuncId} {args : Array Value} {w : World} {φ : Value → World → Prop} (h : Calls P f args w (RetQ φ w)) : Calls P f args w (RetP fun u w' => φ u w' ∧ Ext w w') :=
  h.mono fun _ _ ⟨v, he, hp, hx⟩ => ⟨v, he, hp, hx⟩

/-- What an operation hands back. -/
def Gives (P : Program) (ψ : Value → World → Prop) : Result Next → Prop
  | .ok (.value v) w => ψ v w
  | .ok .skip w => ψ undef w
  | .ok (.enter f args) w => Calls P f args w (RetP ψ)
  | _ => False
theorem Ext.rule {w w' : World} (h : Ext w w') : ∀ b o s, b < w.heap.size → w'.cell? ⟨b, o, s⟩ = w.cell? ⟨b, o, s⟩ := fun b o s hb => Below.cell (p := ⟨b, o, s⟩) h hb
theorem Ext.ruleF {w w' : World} (h : Ext w w') : ∀ b o s, b < w.heap.size → w'.frozen? ⟨b, o, s⟩ = w.frozen? ⟨b, o, s⟩ := fun b o s hb => Below.frozen (p := ⟨b, o, s⟩) h hb
theorem Ext.steady (w : World) : Steady (Ext w) := fun _ _ he h => h.trans he

theorem Gives.mono {P : Program} {ψ ψ' : Value → World → Prop} (h : ∀ v w, ψ v w → ψ' v w) {r : Result Next} (hr : Gives P ψ r) : Gives P ψ' r := by
  cases r with
  | ok n w => cases n <;> simp only [Gives] at hr ⊢ <;> first | exact h _ _ hr | exact hr.mono fun _ _ ⟨v, e, hv⟩ => ⟨v, e, h _ _ hv⟩
  | halt => exact hr.elim

theorem Gives.wp {P : Program} {o : Oper} {a : Act} {w : World} {ψ : Value → World → Prop} {K : Act → World → Prop} {Q : Exit → Act → World → Prop}
    (h : Gives P ψ ((execOp a.eval o).run P w)) (hk : ∀ v w', ψ v w' → K (a.put o.dst v) w') : o.wp P a w K Q := by
  unfold Oper.wp
  generalize (execOp a.eval o).run P w = r at h
  cases r with
  | ok n w' =>
    cases n <;> simp only [Gives] at h <;> simp only [Oper.upon]
    case value v => exact hk _ _ h
    case skip => exact hk _ _ h
    case enter f args =>
      exact h.mono fun e w'' ⟨v, he, hv⟩ => by subst he; exact hk _ _ hv
  | halt x w' => exact h.elim

section
variable (P : Program) (ops : Array Oper) (M : Rel) (F : World → Prop) (a0 : Act)

def upd (g : Nat → Slot) : Option Nat → Slot → Nat → Slot
  | some d, s => fun t => if d = t then s else g t
  | none, _ => g

def dstOf (k : Nat) : Option Nat := (ops[k]?).bind (·.dst)

/-- The assertion on slot t, of those operations among the first k that m lists. -/
def slotOf (sl : Nat → Slot) (m : Nat → Bool) (t : Nat) : Nat → Slot
  | 0 => .val (a0.tmps.getD t undef)
  | k + 1 => if m k = true ∧ dstOf ops k = some t then sl k else slotOf sl m t k

theorem slotOf_congr {sl : Nat → Slot} {m m' : Nat → Bool} {t : Nat} : ∀ k, (∀ j, j < k → dstOf ops j = some t → m j = m' j) → slotOf ops a0 sl m t k = slotOf ops a0 sl m' t k
  | 0, _ => rfl
  | k + 1, h => by
    unfold slotOf
    rw [slotOf_congr k fun j hj => h j (by omega)]
    by_cases hd : dstOf ops k = some t
    · rw [h k (by omega) hd]
    · simp [hd]

theorem slotOf_cut {sl : Nat → Slot} {m : Nat → Bool} {t i : Nat} : ∀ k, i ≤ k → (∀ j, i ≤ j → j < k → dstOf ops j = some t → m j = false) → slotOf ops a0 sl m t k = slotOf ops a0 sl m t i
  | 0, hi, _ => by
    have : i = 0 := by omega
    rw [this]
  | k + 1, hi, h => by
    by_cases hik : i = k + 1
    · rw [hik]
    · conv => lhs; unfold slotOf
      rw [if_neg (by rintro ⟨h1, h2⟩; rw [h k (by omega) (by omega) h2] at h1; cases h1)]
      exact slotOf_cut k (by omega) fun j h1 h2 => h j h1 (by omega)

/-- One operation's duty: it looks at its slots alone. -/
def OpOK (o : Oper) (g : Nat → Slot) (s : Slot) : Prop :=
  ∀ (a : Act) (w : World), F w → (∀ t ∈ o.looksAt ops, (g t).ok (a.tmps.getD t undef) w) →
    if Region.wanted o (yielded ops a.tmps) then Gives P (fun v w' => s.ok v w' ∧ M.r w w') ((execOp a.eval o).run P w) else s.ok undef w

/-- THE WALK: the operations one by one, in the text's order. -/
def AW (R : (Nat → Slot) → Prop) : List Oper → (Nat → Slot) → Prop
  | [], g => R g
  | o :: rest, g => ∃ s : Slot, s.steady M ∧ OpOK P ops M F o g s ∧ AW R rest (upd g o.dst s)

/-- The graph: of two operations the later one waits for the earlier one, or they look at nothing of one another. -/
def graphB (n : Nat) : Bool :=
  (List.range ops.size).all fun i =>
    match ops[i]? with
    | none => true
    | some o =>
      (o.after.all fun e => !Region.binds .any e || decide (e.on < i)) &&
      (match o.dst with | some d => decide (d < n) | none => true) &&
      (match o.op with | .select .. => false | _ => true) &&
      (List.range i).all fun j =>
        match ops[j]? with
        | none => true
        | some p => (o.after.any fun e => Region.binds .any e && e.on == j) || p.apart ops o
end

section
variable {P : Program} {ops : Array Oper} {M : Rel} {F : World → Prop} {a0 : Act}

theorem AW.slots {R : (Nat → Slot) → Prop} : ∀ (l : List Oper) (k : Nat) (g : Nat → Slot) (sl : Nat → Slot), (∀ j o, l[j]? = some o → ops[k + j]? = some o) → (∀ t, g t = slotOf ops a0 sl (fun _ => true) t k) → AW P ops M F R l g →
    ∃ (sl' : Nat → Slot) (g' : Nat → Slot), (∀ j, j < k → sl' j = sl j) ∧ (∀ j, k + l.length ≤ j → sl' j = sl j) ∧ (∀ j o, k ≤ j → j < k + l.length → ops[j]? = some o → (sl' j).steady M ∧ OpOK P ops M F o (fun t => slotOf ops a0 sl' (fun _ => true) t j) (sl' j)) ∧
      (∀ t, g' t = slotOf ops a0 sl' (fun _ => true) t (k + l.length)) ∧ R g'
  | [], k, g, sl, hl, he, h => by
      refine ⟨sl, g, fun _ _ => rfl, fun _ _ => rfl, fun j o hj hj2 ho => ?_, by simpa using he, h⟩
      simp at hj2; omega
  | o :: l, k, g, sl, hl, he, h => by
    obtain ⟨s, hs, hop, hr⟩ := h
    have h0 : ops[k]? = some o := by simpa using hl 0 o rfl
    have hd : dstOf ops k = o.dst := by simp [dstOf, h0]
    let sl1 : Nat → Slot := fun j => if j = k then s else sl j
    have hcong : ∀ t, slotOf ops a0 sl1 (fun _ => true) t k = slotOf ops a0 sl (fun _ => true) t k := by
      intro t
      have : ∀ n, n ≤ k → slotOf ops a0 sl1 (fun _ => true) t n = slotOf ops a0 sl (fun _ => true) t n := by
        intro n
        induction n with
        | zero => intro _; rfl
        | succ n ih =>
          intro hn
          unfold slotOf
          rw [ih (by omega)]
          have : sl1 n = sl n := by simp only [sl1]; rw [if_neg (by omega)]
          rw [this]
      exact this k (Nat.le_refl _)
    have hk1 : ∀ t, upd g o.dst s t = slotOf ops a0 sl1 (fun _ => true) t (k + 1) := by
      intro t
      unfold slotOf
      rw [hd, hcong]
      have hs1 : sl1 k = s := by simp [sl1]
      rw [hs1]
      cases ho : o.dst with
      | none => simp [he, upd]
      | some d =>
        by_cases hdt : d = t
        · subst hdt; simp [upd]
        · simp [upd, hdt, he]
    obtain ⟨sl', env', h1, h1b, h2, h3, h4⟩ := AW.slots l (k + 1) _ sl1 (fun j p hj => by have := hl (j + 1) p (by simpa using hj); simpa [Nat.add_assoc, Nat.add_comm 1 j] using this) hk1 hr
    refine ⟨sl', env', fun j hj => ?_, fun j hj => ?_, fun j p hj hj2 hp => ?_, fun t => ?_, h4⟩
    · rw [h1 j (by omega)]; simp only [sl1]; rw [if_neg (by omega)]
    · simp only [List.length_cons] at hj
      rw [h1b j (by omega)]; simp only [sl1]; rw [if_neg (by omega)]
    · by_cases hjk : j = k
      · subst hjk
        rw [h0] at hp; injection hp with hp; subst hp
        have e1 : sl' j = s := by rw [h1 j (by omega)]; simp [sl1]
        have e2 : (fun t => slotOf ops a0 sl' (fun _ => true) t j) = g := by
          funext t
          rw [he t, ← hcong t]
          have : ∀ n, n ≤ j → slotOf ops a0 sl' (fun _ => true) t n = slotOf ops a0 sl1 (fun _ => true) t n := by
            intro n
            induction n with
            | zero => intro _; rfl
            | succ n ih => intro hn; unfold slotOf; rw [ih (by omega), h1 n (by omega)]
          exact this j (Nat.le_refl _)
        rw [e1, e2]
        exact ⟨hs, hop⟩
      · simp only [List.length_cons] at hj2
        exact h2 j p (by omega) (by omega) hp
    · rw [h3 t]; congr 1; simp; omega

theorem graph_spec {n : Nat} (h : graphB ops n = true) {i : Nat} {o : Oper} (ho : ops[i]? = some o) :
    (∀ e ∈ o.after, Region.binds .any e = true → e.on < i) ∧ (∀ d, o.dst = some d → d < n) ∧ (∀ cs b, o.op ≠ .select cs b) ∧
    (∀ j p, j < i → ops[j]? = some p → (∃ e ∈ o.after, Region.binds .any e = true ∧ e.on = j) ∨ p.apart ops o = true) := by
  have hi : i < ops.size := (Array.getElem?_eq_some_iff.1 ho).1
  have h1 := List.all_eq_true.1 h i (List.mem_range.2 hi)
  simp only [ho, Bool.and_eq_true] at h1
  obtain ⟨⟨⟨ha, hb⟩, hc⟩, hd⟩ := h1
  refine ⟨fun e he hb => ?_, fun d hd' => ?_, fun cs b hs => ?_, fun j p hj hp => ?_⟩
  · have := Array.all_eq_true_iff_forall_mem.1 ha e he
    simpa [hb] using this
  · simpa [hd'] using hb
  · simp [hs] at hc
  · have := List.all_eq_true.1 hd j (List.mem_range.2 hj)
    simp only [hp, Bool.or_eq_true] at this
    rcases this with h | h
    · rw [← Array.any_toList] at h
      obtain ⟨e, he, h2⟩ := List.any_eq_true.1 h
      simp only [Bool.and_eq_true, beq_iff_eq] at h2
      exact .inl ⟨e, Array.mem_toList_iff.1 he, h2⟩
    · exact .inr h

/-- The state of a run in which the operations of L are done. -/
structure Mid (ops : Array Oper) (F : World → Prop) (a0 : Act) (sl : Nat → Slot) (L : Array Bool) (a : Act) (w : World) : Prop where
  size : L.size = ops.size
  down : ∀ i o, L.getD i false = true → ops[i]? = some o → ∀ e ∈ o.after, Region.binds .any e = true → L.getD e.on false = true
  frame : F w
  tmps : a.tmps.size = a0.tmps.size
  defers : a.defers = a0.defers
  slots : ∀ t, t < a0.tmps.size → (slotOf ops a0 sl (fun j => L.getD j false) t ops.size).ok (a.tmps.getD t undef) w

theorem looks_spec {o : Oper} {t d : Nat} (ht : t ∈ o.looksAt ops) {p : Oper} (hp : p.dst = some d) (hap : p.apart ops o = true) : d ≠ t := by
  rintro rfl
  exact (Oper.apart_spec hap).1 d hp ht
theorem looks_spec' {o : Oper} {t d : Nat} (ht : t ∈ o.looksAt ops) {p : Oper} (hp : p.dst = some d) (hap : o.apart ops p = true) : d ≠ t := by
  rintro rfl
  exact (Oper.apart_spec hap).2.2 d hp ht

theorem Mid.step {sl : Nat → Slot} {L : Array Bool} {a : Act} {w : World} (hF : SteadyR M F) (hg : graphB ops a0.tmps.size = true)
    (hst : ∀ j o, ops[j]? = some o → (sl j).steady M) {i : Nat} (hsl : ∀ o, ops[i]? = some o → OpOK P ops M F o (fun t => slotOf ops a0 sl (fun _ => true) t i) (sl i))
    (hm : Mid ops F a0 sl L a w) (hi : i ∈ Region.ready .any ops L) (hlook : ∀ o, ops[i]? = some o → ∀ t ∈ o.looksAt ops, t < a0.tmps.size) {Q : Exit → Act → World → Prop} :
    wpOp P ops Q i (fun a' w' => Mid ops F a0 sl (L.setIfInBounds i true) a' w') a w := by
  obtain ⟨hun, o, ho, hall⟩ := mem_ready.1 hi
  have hil : i < ops.size := (Array.getElem?_eq_some_iff.1 ho).1
  have hiL : i < L.size := by rw [hm.size]; exact hil
  have hunf : L.getD i false = false := by simp [hiL] at hun ⊢; exact hun
  obtain ⟨g1, g2, g3, g4⟩ := graph_spec hg ho
  have hop := hsl o ho
  -- which of the others have been listed
  have early : ∀ j p, j < i → ops[j]? = some p → (L.getD j false = true ∨ p.apart ops o = true) := fun j p hj hp => by
    rcases g4 j p hj hp with ⟨e, he, hb, rfl⟩ | h
    · exact .inl (hall e he hb)
    · exact .inr h
  have late : ∀ j p, i < j → ops[j]? = some p → (L.getD j false = false ∨ o.apart ops p = true) := fun j p hj hp => by
    rcases (graph_spec hg hp).2.2.2 i o hj ho with ⟨e, he, hb, rfl⟩ | h
    · left
      cases hLj : L.getD j false with
      | false => rfl
      | true => have := hm.down j p hLj hp e he hb; rw [hunf] at this; cases this
    · exact .inr h
  have hlooks : ∀ t ∈ o.looksAt ops, slotOf ops a0 sl (fun j => L.getD j false) t ops.size = slotOf ops a0 sl (fun _ => true) t i := fun t ht => by
    rw [slotOf_cut ops a0 (i := i) ops.size (Nat.le_of_lt hil) fun j h1 h2 h3 => ?_]
    · refine slotOf_congr ops a0 i fun j hj hd => ?_
      have hp : ops[j]? = some ops[j] := Array.getElem?_eq_getElem (by omega)
      have hd' : ops[j].dst = some t := by simpa [dstOf, hp] using hd
      rcases early j _ hj hp with h | h
      · exact h
      · exact absurd rfl (looks_spec ht hd' h)
    · have hp : ops[j]? = some ops[j] := Array.getElem?_eq_getElem h2
      have hd' : ops[j].dst = some t := by simpa [dstOf, hp] using h3
      by_cases hij : i = j
      · subst hij; exact hunf
      · rcases late j _ (by omega) hp with h | h
        · exact h
        · exact absurd rfl (looks_spec' ht hd' h)
  have hag := hop a w hm.frame fun t ht => by
    have := hm.slots t (hlook o ho t ht)
    rw [hlooks t ht] at this
    exact this
  -- behind the operation
  have after : ∀ v w', (sl i).ok v w' → M.r w w' → Mid ops F a0 sl (L.setIfInBounds i true) (a.put o.dst v) w' := fun v w' hv he => by
    have hsz : (a.put o.dst v).tmps.size = a0.tmps.size := by cases o.dst <;> simp [Act.put, hm.tmps]
    refine ⟨by simp [hm.size], fun j p hj hp e hep hb => ?_, hF _ _ he hm.frame, hsz, by cases o.dst <;> simp [Act.put, hm.defers], fun t htn => ?_⟩
    · by_cases hji : i = j
      · subst hji
        rw [ho] at hp; injection hp with hp; subst hp
        exact getD_set_true (hall e hep hb)
      · rw [getD_set_ne false hji] at hj
        exact getD_set_true (hm.down j p hj hp e hep hb)
    · by_cases hdt : o.dst = some t
      · have e1 : slotOf ops a0 sl (fun j => (L.setIfInBounds i true).getD j false) t ops.size = sl i := by
          rw [slotOf_cut ops a0 (i := i + 1) ops.size hil fun j h1 h2 h3 => ?_]
          · unfold slotOf
            rw [if_pos ⟨by simp [hiL], by simp [dstOf, ho, hdt]⟩]
          · have hp : ops[j]? = some ops[j] := Array.getElem?_eq_getElem h2
            have hd' : ops[j].dst = some t := by simpa [dstOf, hp] using h3
            show (L.setIfInBounds i true).getD j false = false
            rw [getD_set_ne false (by omega)]
            rcases late j _ (by omega) hp with h | h
            · exact h
            · exact absurd hd' ((Oper.apart_spec h).2.1 t hdt)
        rw [e1]
        have : (a.put o.dst v).tmps.getD t undef = v := by
          have : t < a.tmps.size := by rw [hm.tmps]; exact htn
          simp [Act.put, hdt, this]
        rw [this]
        exact hv
      · have e1 : slotOf ops a0 sl (fun j => (L.setIfInBounds i true).getD j false) t ops.size = slotOf ops a0 sl (fun j => L.getD j false) t ops.size := by
          refine slotOf_congr ops a0 _ fun j hj hd => getD_set_ne false ?_
          rintro rfl
          exact hdt (by simpa [dstOf, ho] using hd)
        rw [e1]
        have e2 : (a.put o.dst v).tmps.getD t undef = a.tmps.getD t undef := by
          cases hd : o.dst with
          | none => rfl
          | some d =>
            have hne : d ≠ t := fun e => hdt (by rw [hd, e])
            simp [Act.put, Array.getElem?_setIfInBounds_ne hne]
        rw [e2]
        have hk := hm.slots t htn
        have hsteady : (slotOf ops a0 sl (fun j => L.getD j false) t ops.size).steady M := by
          have : ∀ k, (slotOf ops a0 sl (fun j => L.getD j false) t k).steady M := by
            intro k
            induction k with
            | zero => exact trivial
            | succ k ih =>
              unfold slotOf
              split
              · rename_i hh
                cases hok : ops[k]? with
                | none => simp [dstOf, hok] at hh
                | some p => exact hst k p hok
              · exact ih
          exact this _
        exact Slot.ok_ext hsteady he hk
  unfold wpOp
  simp only [ho]
  split
  · rename_i hw
    rw [if_pos hw] at hag
    exact .inl (Gives.wp hag fun v w' ⟨h1, h2⟩ => after v w' h1 h2)
  · rename_i hw
    rw [if_neg hw] at hag
    exact after undef w hag (M.refl w)

def looksB (ops : Array Oper) (n : Nat) : Bool := ops.all fun o => (o.looksAt ops).all fun t => decide (t < n)
theorem looks_of {n : Nat} (h : looksB ops n = true) {i : Nat} {o : Oper} (ho : ops[i]? = some o) : ∀ t ∈ o.looksAt ops, t < n := fun t ht => by
  have := Array.all_eq_true_iff_forall_mem.1 h o (Array.mem_of_getElem? ho)
  simpa using List.all_eq_true.1 this t ht

/-- All that an operation waits for, directly and through others. -/
def ancs (ops : Array Oper) : Nat → List Nat → List Nat
  | 0, S => S
  | k + 1, S => ancs ops k (if S.contains k then (match ops[k]? with | some o => (o.after.toList.filter (Region.binds .any)).map (·.on) ++ S | none => S) else S)
theorem ancs_done {L : Nat → Bool} (hd : ∀ i o, L i = true → ops[i]? = some o → ∀ e ∈ o.after, Region.binds .any e = true → L e.on = true) :
    ∀ (k : Nat) (S : List Nat), (∀ j ∈ S, L j = true) → ∀ j ∈ ancs ops k S, L j = true
  | 0, _, h => h
  | k + 1, S, h => by
    unfold ancs
    refine ancs_done hd k _ ?_
    split
    · rename_i hc
      have hk : L k = true := h k (by simpa using hc)
      split
      · rename_i o ho
        intro j hj
        rcases List.mem_append.1 hj with hj | hj
        · obtain ⟨e, he, rfl⟩ := List.mem_map.1 hj
          obtain ⟨h1, h2⟩ := List.mem_filter.1 he
          exact hd k o hk ho e (Array.mem_toList_iff.1 h1) h2
        · exact h j hj
      · exact h
    · exact h
/-- Operation z waits for all the others. -/
def lastB (ops : Array Oper) (z : Nat) : Bool :=
  match ops[z]? with
  | some o => (List.range z).all fun j => (ancs ops z ((o.after.toList.filter (Region.binds .any)).map (·.on))).contains j
  | none => true

theorem Mid.any {sl : Nat → Slot} {z : Nat} (hF : SteadyR M F) (hg : graphB ops a0.tmps.size = true) (hlk : looksB ops a0.tmps.size = true) (hz : ops.size ≤ z + 1) (hlast : lastB ops z = true)
    (hst : ∀ j o, ops[j]? = some o → (sl j).steady M)
    (hsl : ∀ j o, j < z → ops[j]? = some o → OpOK P ops M F o (fun t => slotOf ops a0 sl (fun _ => true) t j) (sl j)) {Q : Exit → Act → World → Prop}
    (hQ : ∀ L a w, (∀ i, i < ops.size → i < z → L.getD i false = true) → L.getD z false = false → Mid ops F a0 sl L a w → wpOp P ops Q z (fun a' w' => Q .normal a' w') a w) :
    ∀ (fuel : Nat) (L : Array Bool) (a : Act) (w : World), L.getD z false = false → Mid ops F a0 sl L a w → ((List.range ops.size).filter fun i => !L.getD i false).length ≤ fuel → wpAny P .any ops Q fuel L a w := by
  have none_ready : ∀ L : Array Bool, L.size = ops.size → (∀ i, i < ops.size → L.getD i false = true) → Region.ready .any ops L = [] := by
    intro L hs hall
    rcases hr : Region.ready .any ops L with _ | ⟨i, r⟩
    · rfl
    · have hi : i ∈ Region.ready .any ops L := by rw [hr]; simp
      obtain ⟨hun, o, ho, _⟩ := mem_ready.1 hi
      have hil : i < ops.size := (Array.getElem?_eq_some_iff.1 ho).1
      have hiL : i < L.size := by rw [hs]; exact hil
      have := hall i hil
      simp [hiL] at hun this
      rw [hun] at this; cases this
  have full : ∀ L a w, Mid ops F a0 sl L a w → Region.ready .any ops L = [] → ∀ i, i < ops.size → L.getD i false = true := by
    intro L a w hm hr i
    induction i using Nat.strongRecOn with
    | _ i ih =>
      intro hi
      cases hL : L.getD i false with
      | true => rfl
      | false =>
        have ho : ops[i]? = some ops[i] := Array.getElem?_eq_getElem hi
        have : i ∈ Region.ready .any ops L := mem_ready.2 ⟨by
          have hiL : i < L.size := by rw [hm.size]; exact hi
          simp [hiL] at hL ⊢; exact hL, _, ho, fun e he hb => by
            have hlt := (graph_spec hg ho).1 e he hb
            exact ih e.on hlt (by omega)⟩
        rw [hr] at this; cases this
  intro fuel
  induction fuel with
  | zero =>
    intro L a w hz0 hm hc
    have hall : ∀ i, i < ops.size → L.getD i false = true := fun i hi => by
      cases hL : L.getD i false with
      | true => rfl
      | false =>
        have hmem : i ∈ (List.range ops.size).filter fun i => !L.getD i false := List.mem_filter.2 ⟨List.mem_range.2 hi, by simp only [hL]; rfl⟩
        have := List.length_pos_of_mem hmem
        omega
    refine ⟨none_ready L hm.size hall, ?_⟩
    have hzn : ops[z]? = none := by
      rcases Nat.lt_or_ge z ops.size with h | h
      · rw [hall z h] at hz0; cases hz0
      · exact Array.getElem?_eq_none h
    have := hQ L a w (fun i hi _ => hall i hi) hz0 hm
    simpa [wpOp, hzn] using this
  | succ fuel ih =>
    intro L a w hz0 hm hc
    refine ⟨fun hr => ?_, fun i hi => ?_⟩
    · have hall := full L a w hm hr
      have hzn : ops[z]? = none := by
        rcases Nat.lt_or_ge z ops.size with h | h
        · rw [hall z h] at hz0; cases hz0
        · exact Array.getElem?_eq_none h
      have := hQ L a w (fun i hi _ => hall i hi) hz0 hm
      simpa [wpOp, hzn] using this
    · obtain ⟨hun, o, ho, hready⟩ := mem_ready.1 hi
      have hil : i < ops.size := (Array.getElem?_eq_some_iff.1 ho).1
      have hiL : i < L.size := by rw [hm.size]; exact hil
      by_cases hiz : i = z
      · subst hiz
        have hanc := ancs_done (ops := ops) (L := fun j => L.getD j false) hm.down i ((o.after.toList.filter (Region.binds .any)).map (·.on)) (fun j hj => by
          obtain ⟨e, he, rfl⟩ := List.mem_map.1 hj
          obtain ⟨h1, h2⟩ := List.mem_filter.1 he
          exact hready e (Array.mem_toList_iff.1 h1) h2)
        have hall : ∀ j, j < i → L.getD j false = true := fun j hj => by
          unfold lastB at hlast
          simp only [ho] at hlast
          exact hanc j (by simpa using List.all_eq_true.1 hlast j (List.mem_range.2 hj))
        refine wpOp_mono (fun a' w' h' => ?_) (hQ L a w (fun j _ hj => hall j hj) hz0 hm)
        have hn : Region.ready .any ops (L.setIfInBounds i true) = [] := none_ready _ (by simp [hm.size]) fun j hj => by
          by_cases hji : i = j
          · subst hji; simp [hiL]
          · rw [getD_set_ne false hji]; exact hall j (by omega)
        cases fuel with
        | zero => exact ⟨hn, h'⟩
        | succ fuel => exact ⟨fun _ => h', fun j hj => by rw [hn] at hj; cases hj⟩
      · refine wpOp_mono (fun a' w' hm' => ih _ _ _ (by rw [getD_set_ne false hiz]; exact hz0) hm' ?_) (hm.step hF hg hst (fun p hp => hsl i p (by omega) hp) hi fun o ho => looks_of hlk ho)
        have hlt : ((List.range ops.size).filter fun j => !(L.setIfInBounds i true).getD j false).length < ((List.range ops.size).filter fun j => !L.getD j false).length := by
          have hmem : i ∈ (List.range ops.size).filter fun j => !L.getD j false := List.mem_filter.2 ⟨List.mem_range.2 hil, by simp [hiL] at hun ⊢; exact hun⟩
          have hsub : ((List.range ops.size).filter fun j => !(L.setIfInBounds i true).getD j false) = ((List.range ops.size).filter fun j => !L.getD j false).filter fun j => j != i := by
            rw [List.filter_filter]
            refine List.filter_congr fun j _ => ?_
            by_cases hji : i = j
            · subst hji; simp [hiL]
            · have hb : (j != i) = true := by simp; omega
              rw [getD_set_ne false hji, hb, Bool.true_and]
          rw [hsub]
          refine List.length_filter_lt_length_iff_exists.2 ⟨i, hmem, by simp⟩
        omega

/-- What is asked behind the walk. -/
def AfterAW (w0 : World) (a0 : Act) (Q : Exit → Act → World → Prop) (g : Nat → Slot) : Prop :=
  ∀ a w, Ext w0 w → a.tmps.size = a0.tmps.size → a.defers = a0.defers → (∀ t, t < a0.tmps.size → (g t).ok (a.tmps.getD t undef) w) → Q .normal a w

theorem Mid.end_ {g : Nat → Slot} {sl : Nat → Slot} {z : Nat} (hz : ops.size ≤ z + 1) (he : ∀ t, g t = slotOf ops a0 sl (fun _ => true) t z) {L : Array Bool} {a : Act} {w : World} (hall : ∀ i, i < ops.size → i < z → L.getD i false = true) (hz0 : L.getD z false = false) (hm : Mid ops F a0 sl L a w) :
    ∀ t, t < a0.tmps.size → (g t).ok (a.tmps.getD t undef) w := fun t ht => by
  have := hm.slots t ht
  have e : slotOf ops a0 sl (fun j => L.getD j false) t ops.size = slotOf ops a0 sl (fun _ => true) t z := by
    rcases Nat.lt_or_ge z ops.size with h | h
    · have h' : ops.size = z + 1 := by omega
      rw [slotOf_cut ops a0 (i := z) ops.size (by omega) fun j h1 h2 _ => by
        have : j = z := by omega
        subst this; exact hz0]
      exact slotOf_congr ops a0 z fun j hj _ => hall j (by omega) hj
    · rw [slotOf_congr ops a0 (m' := fun _ => true) ops.size fun j hj _ => hall j hj (by omega)]
      have hz' : ∀ n, ops.size ≤ n → slotOf ops a0 sl (fun _ => true) t n = slotOf ops a0 sl (fun _ => true) t ops.size := fun n hn => by
        obtain ⟨k, rfl⟩ := Nat.le.dest hn
        clear hn
        induction k with
        | zero => rfl
        | succ k ih =>
          rw [show ops.size + (k + 1) = (ops.size + k) + 1 from rfl]
          conv => lhs; unfold slotOf
          rw [if_neg (by rintro ⟨_, h⟩; simp [dstOf] at h), ih]
      exact (hz' z h).symm
  rw [e, ← he t] at this
  exact this

theorem Mid.start {w : World} {sl : Nat → Slot} (hw : F w) : Mid ops F a0 sl (Array.replicate ops.size false) a0 w := by
  have hf : ∀ j, (Array.replicate ops.size false).getD j false = false := fun j => by simp [Array.getElem?_replicate]; split <;> rfl
  refine ⟨by simp, fun i o h => (by rw [hf] at h; cases h), hw, rfl, rfl, fun t _ => ?_⟩
  have : slotOf ops a0 sl (fun j => (Array.replicate ops.size false).getD j false) t ops.size = .val (a0.tmps.getD t undef) := by
    rw [slotOf_cut ops a0 (i := 0) ops.size (Nat.zero_le _) fun j _ _ _ => hf j]; rfl
  rw [this]; rfl
theorem start_z (n z : Nat) : (Array.replicate n false).getD z false = false := by simp [Array.getElem?_replicate]; split <;> rfl

theorem any_of_aw {Q : Exit → Act → World → Prop} {w0 w : World} (hg : graphB ops a0.tmps.size = true) (hlk : looksB ops a0.tmps.size = true)
    (h : AW P ops Rel.ext (Ext w0) (AfterAW w0 a0 Q) ops.toList (fun t => .val (a0.tmps.getD t undef))) (hw : Ext w0 w) (fuel : Nat) (hf : ((List.range ops.size).filter fun i => !(Array.replicate ops.size false).getD i false).length ≤ fuel) : wpAny P .any ops Q fuel (Array.replicate ops.size false) a0 w := by
  obtain ⟨sl, env, _, _, hsl, he, hR⟩ := AW.slots (a0 := a0) (ops := ops) ops.toList 0 _ (fun _ => .val undef) (by simp) (fun _ => rfl) h
  simp only [Nat.zero_add, Array.length_toList] at he hsl
  have hlt : ∀ j o, ops[j]? = some o → j < ops.size := fun j o ho => (Array.getElem?_eq_some_iff.1 ho).1
  have hzn : ops[ops.size]? = none := Array.getElem?_eq_none (Nat.le_refl _)
  refine Mid.any (z := ops.size) (M := Rel.ext) (Ext.steady w0) hg hlk (by omega) (by unfold lastB; rw [hzn]) (fun j o ho => (hsl j o (Nat.zero_le _) (hlt j o ho) ho).1) (fun j o hj ho => (hsl j o (Nat.zero_le _) hj ho).2) (fun L a w' hall hz0 hm => ?_) fuel _ _ _ (start_z _ _) (Mid.start hw) hf
  simp only [wpOp, hzn]
  exact hR a w' hm.frame hm.tmps hm.defers (Mid.end_ (by omega) he hall hz0 hm)

/-- A region that draws its order. -/
theorem wp_region_aw {id : Nat} {Q : Exit → Act → World → Prop} {w : World} (hm : P.follows .mixedOrders = true) (hg : graphB ops a0.tmps.size = true) (hlk : looksB ops a0.tmps.size = true)
    (h : AW P ops Rel.ext (Ext w) (AfterAW w a0 Q) ops.toList (fun t => .val (a0.tmps.getD t undef))) : (Code.region id ops true).wp P Q a0 w :=
  wp_region_any hm (any_of_aw (w := { w with drawn := w.drawn + 1 }) hg hlk h (Ext.drew w) _ (Nat.le_trans (List.length_filter_le _ _) (by simp)))

/-- .. whose last operation is met when all is done. -/
def AfterLast (P : Program) (ops : Array Oper) (F : World → Prop) (a0 : Act) (Q : Exit → Act → World → Prop) (z : Oper) (g : Nat → Slot) : Prop :=
  ∀ a w, F w → a.tmps.size = a0.tmps.size → a.defers = a0.defers → (∀ t, t < a0.tmps.size → (g t).ok (a.tmps.getD t undef) w) → wpList P ops Q [z] a w
theorem wp_region_aw_last {id : Nat} {Q : Exit → Act → World → Prop} {w : World} (M : Rel) (F : World → Prop) (hF : SteadyR M F) (hF0 : F { w with drawn := w.drawn + 1 }) {l : List Oper} {z : Oper} (hm : P.follows .mixedOrders = true) (hg : graphB (l ++ [z]).toArray a0.tmps.size = true) (hlk : looksB (l ++ [z]).toArray a0.tmps.size = true)
    (hlast : lastB (l ++ [z]).toArray l.length = true)
    (h : AW P (l ++ [z]).toArray M F (AfterLast P (l ++ [z]).toArray F a0 Q z) l (fun t => .val (a0.tmps.getD t undef))) : (Code.region id (l ++ [z]).toArray true).wp P Q a0 w := by
  obtain ⟨sl, env, _, hfar, hsl, he, hR⟩ := AW.slots (a0 := a0) (ops := (l ++ [z]).toArray) l 0 _ (fun _ => .val undef) (fun j o hj => by simpa [List.getElem?_append_left (List.getElem?_eq_some_iff.1 hj).1] using hj) (fun _ => rfl) h
  simp only [Nat.zero_add] at he hsl hfar
  have hsz : (l ++ [z]).toArray.size = l.length + 1 := by simp
  have hzs : (l ++ [z]).toArray[l.length]? = some z := by simp
  have hlt : ∀ j o, (l ++ [z]).toArray[j]? = some o → j < l.length + 1 := fun j o ho => by have := (Array.getElem?_eq_some_iff.1 ho).1; omega
  refine wp_region_any hm (Mid.any (z := l.length) (M := M) hF hg hlk (by omega) hlast (fun j o ho => ?_) (fun j o hj ho => (hsl j o (Nat.zero_le _) hj ho).2) (fun L a w' hall hz0 hm => ?_) _ _ _ _ (start_z _ _) (Mid.start hF0) ?_)
  · rcases Nat.lt_or_ge j l.length with hj | hj
    · exact (hsl j o (Nat.zero_le _) hj ho).1
    · rw [hfar j hj]; exact trivial
  · have := hR a w' hm.frame hm.tmps hm.defers (Mid.end_ (by omega) he hall hz0 hm)
    simpa [wpOp, hzs, wpList] using this
  · exact Nat.le_trans (List.length_filter_le _ _) (by simp)

theorem wpOps_of_any {Q : Exit → Act → World → Prop} (hg : ∀ i o, ops[i]? = some o → ∀ e ∈ o.after, Region.binds .any e = true → e.on < i) :
    ∀ (n k : Nat) (L : Array Bool) (a : Act) (w : World), k + n = ops.size → L.size = ops.size → (∀ j, L.getD j false = decide (j < k)) → wpAny P .any ops Q n L a w → wpOps P ops Q (List.range' k n) a w
  | 0, _, _, _, _, _, _, _, h => by simpa [wpOps] using h.2
  | n + 1, k, L, a, w, hk, hs, hL, h => by
    rw [List.range'_succ, wpOps_cons]
    have hkl : k < ops.size := by omega
    have ho : ops[k]? = some ops[k] := Array.getElem?_eq_getElem hkl
    have hready : k ∈ Region.ready .any ops L := mem_ready.2 ⟨by
        have := hL k
        have hkL : k < L.size := by omega
        simp [hkL] at this ⊢; exact this, _, ho, fun e he hb => by rw [hL]; simpa using hg k _ ho e he hb⟩
    refine wpOp_mono (fun a' w' h' => wpOps_of_any hg n (k + 1) _ a' w' (by omega) (by simpa using hs) (fun j => ?_) h') (h.2 k hready)
    by_cases hjk : k = j
    · subst hjk
      have hkL : k < L.size := by omega
      simp [hkL]
    · rw [getD_set_ne false hjk, hL]
      simp; omega

/-- A region in the text's order. -/
theorem wp_region_aw_seq {id : Nat} {Q : Exit → Act → World → Prop} {w : World} (hg : graphB ops a0.tmps.size = true) (hlk : looksB ops a0.tmps.size = true)
    (h : AW P ops Rel.ext (Ext w) (AfterAW w a0 Q) ops.toList (fun t => .val (a0.tmps.getD t undef))) : (Code.region id ops false).wp P Q a0 w := by
  refine wp_region ?_
  have hany := any_of_aw (w := w) (Q := Q) hg hlk h (Ext.refl w) _ (Nat.le_refl _)
  have hc : ((List.range ops.size).filter fun i => !(Array.replicate ops.size false).getD i false).length = ops.size := by
    rw [List.filter_eq_self.2 fun i _ => by simp [Array.getElem?_replicate]; split <;> rfl]
    simp
  rw [hc] at hany
  have := wpOps_of_any (P := P) (fun i o ho => (graph_spec hg ho).1) ops.size 0 _ _ _ (by omega) (by simp) (fun j => by simp [Array.getElem?_replicate]; split <;> rfl) hany
  simpa [List.range_eq_range'] using this
end

/-! THE WALK OVER A FRAME THAT IS WRITTEN OUT: slots whose value is exact stand in the frame; of the others ('anys') a fact is known. -/

/-- What came behind a world: new blocks, draws. -/
structure Tail where
  objs : Array Obj
  drawn : Nat
instance : Inhabited Tail := ⟨⟨#[], 0⟩⟩
/-- A later world, as a function of what came: so that simp sees through it. -/
def wext (w : World) (E : Tail) : World := { w with heap := w.heap ++ E.objs, drawn := E.drawn }
theorem Ext.of_wext (w : World) (E : Tail) : Ext w (wext w E) :=
  ⟨rfl, rfl, rfl, by simp [wext], fun k hk => by simp [wext, Array.getElem?_append, hk]⟩
theorem Ext.wext {w w' : World} (h : Ext w w') : ∃ E, w' = wext w E := by
  refine ⟨⟨w'.heap.extract w.heap.size, w'.drawn⟩, ?_⟩
  obtain ⟨h1, h2, h3, h4, h5⟩ := h
  obtain ⟨hp, tp, dr, os, out⟩ := w
  obtain ⟨hp', tp', dr', os', out'⟩ := w'
  simp only at h1 h2 h3 h4 h5
  subst h1 h2 h3
  have hh : hp' = hp ++ hp'.extract hp.size := by
    refine Array.ext (by simp; omega) fun i h6 h7 => ?_
    by_cases hi : i < hp.size
    · have := h5 i hi
      simp only [Array.getElem?_eq_getElem h6, Array.getElem?_eq_getElem hi, Option.some.injEq] at this
      rw [this, Array.getElem_append, dif_pos hi]
    · rw [Array.getElem_append, dif_neg hi]
      simp only [Array.getElem_extract]
      congr 1; omega
  simp only [Go.Proofs.Ytjbpdepeimgocaa.wext, World.mk.injEq, and_true, true_and]
  exact hh
theorem cell?_wext (w : World) (E : Tail) (b o : Nat) (s : Option Nat) (h : b < w.heap.size) : (wext w E).cell? ⟨b, o, s⟩ = w.cell? ⟨b, o, s⟩ := (Ext.of_wext w E).rule b o s h
theorem frozen?_wext (w : World) (E : Tail) (b o : Nat) (s : Option Nat) (h : b < w.heap.size) : (wext w E).frozen? ⟨b, o, s⟩ = w.frozen? ⟨b, o, s⟩ := (Ext.of_wext w E).ruleF b o s h
theorem heap_wext (w : World) (E : Tail) (b : Nat) (h : b < w.heap.size) : (wext w E).heap[b]? = w.heap[b]? := (Ext.of_wext w E).block b h
attribute [go_sem] cell?_wext frozen?_wext heap_wext
/-- The class of the worlds behind 'w' (its spelling is what simp opens). -/
abbrev Later (w : World) : World → Prop := fun w' => ∃ E, w' = wext w E

theorem callsL {P : Program} {f : FuncId} {args : Array Value} {w : World} {E : Tail} {c : Value} (h : Calls P f args (wext w E) (Ret c (wext w E))) :
    Calls P f args (wext w E) (fun e w'' => e = .returned c ∧ ∃ E', w'' = wext w E') :=
  h.mono fun _ _ ⟨he, hx⟩ => ⟨he, ((Ext.of_wext w E).trans hx).wext⟩

abbrev Anys := List (Nat × (Value → World → Prop))
def anyAt : Anys → Nat → Option (Value → World → Prop)
  | [], _ => none
  | (s, φ) :: r, t => if s = t then some φ else anyAt r t
def slotsOf (b : Act) (A : Anys) (t : Nat) : Slot :=
  match anyAt A t with
  | some φ => .any φ
  | none => .val (b.tmps.getD t undef)
def apartB (A : Anys) (ts : List Nat) : Bool := ts.all fun t => (anyAt A t).isNone
def dstB (A : Anys) (n : Nat) (d : Option Nat) : Bool := match d with | some d => (anyAt A d).isNone && decide (d < n) | none => true

/-- Behind the walk: each slot of 'anys' holds some value of which its fact is true. -/
def closeAny (K : Act → World → Prop) (w : World) : Anys → Act → Prop
  | [], b => K b w
  | (t, φ) :: r, b => ∀ x, φ x w → closeAny K w r (b.put (some t) x)

section
variable {P : Program} {ops : Array Oper} {M : Rel} {w0 : World} {R : (Nat → Slot) → Prop} {a0 : Act}

theorem slotsOf_put {b : Act} {A : Anys} {d : Option Nat} {v : Value} (h : dstB A b.tmps.size d = true) : slotsOf (b.put d v) A = upd (slotsOf b A) d (.val v) := by
  funext t
  cases d with
  | none => rfl
  | some d =>
    simp only [dstB, Bool.and_eq_true, decide_eq_true_eq] at h
    by_cases hdt : d = t
    · subst hdt
      have : anyAt A d = none := by simpa using h.1
      simp [slotsOf, upd, this, Act.put, h.2]
    · simp only [slotsOf, upd, if_neg hdt]
      cases anyAt A t with
      | some φ => rfl
      | none => simp [Act.put, Array.getElem?_setIfInBounds_ne hdt]
theorem slotsOf_cons {b : Act} {A : Anys} {d : Nat} {φ : Value → World → Prop} : slotsOf b ((d, φ) :: A) = upd (slotsOf b A) (some d) (.any φ) := by
  funext t
  by_cases hdt : d = t
  · subst hdt; simp [slotsOf, anyAt, upd]
  · simp [slotsOf, anyAt, upd, hdt]

theorem val_of {b : Act} {A : Anys} {t : Nat} {v : Value} {w : World} (hap : (anyAt A t).isNone = true) (h : (slotsOf b A t).ok v w) : v = b.tmps.getD t undef := by
  simp only [slotsOf] at h
  cases hg : anyAt A t with
  | none => rw [hg] at h; exact h
  | some φ => rw [hg] at hap; cases hap

theorem exec_same {o : Oper} {a b : Act} {A : Anys} {w : World} (hsel : (match o.op with | .select .. => false | _ => true) = true) (hap : apartB A (o.looksAt ops) = true)
    (hl : ∀ t ∈ o.looksAt ops, (slotsOf b A t).ok (a.tmps.getD t undef) w) : execOp a.eval o = execOp b.eval o := by
  refine execOp_congr o (fun cs b hs => by rw [hs] at hsel; cases hsel) fun x hx => ?_
  cases x with
  | tmp t =>
    have ht : t ∈ o.looksAt ops := List.mem_append_left _ (List.mem_filterMap.2 ⟨.tmp t, by simpa using hx, rfl⟩)
    exact val_of (List.all_eq_true.1 hap t ht) (hl t ht)
  | _ => rfl

/-- What a guard says, of slots alone. -/
def yieldedOf (ops : Array Oper) (g : Nat → Value) (j : Nat) : Option Bool :=
  match ((ops[j]?).bind (·.dst)).map g with
  | some (.bool b) => some b
  | _ => none
theorem yielded_eq (a : Act) (j : Nat) : yielded ops a.tmps j = yieldedOf ops (fun t => a.tmps.getD t undef) j := by
  unfold yielded yieldedOf
  cases ht : (ops[j]?).bind (·.dst) with
  | none => rfl
  | some t =>
    simp only [Option.bind_some, Option.map_some]
    by_cases hlt : t < a.tmps.size
    · simp only [Array.getD_eq_getD_getElem?, Array.getElem?_eq_getElem hlt, Option.getD_some]
      rfl
    · simp [Array.getElem?_eq_none (Nat.le_of_not_lt hlt), undef]

theorem wanted_same {o : Oper} {a b : Act} {A : Anys} {w : World} (hap : apartB A (o.looksAt ops) = true)
    (hl : ∀ t ∈ o.looksAt ops, (slotsOf b A t).ok (a.tmps.getD t undef) w) : Region.wanted o (yielded ops a.tmps) = Region.wanted o (yielded ops b.tmps) := by
  unfold Region.wanted
  cases hg : o.guard with
  | none => rfl
  | some gw =>
    obtain ⟨j, want⟩ := gw
    have : yielded ops a.tmps j = yielded ops b.tmps j := by
      rw [yielded_eq, yielded_eq]
      unfold yieldedOf
      cases ht : (ops[j]?).bind (·.dst) with
      | none => rfl
      | some t =>
        have hm : t ∈ o.looksAt ops := by simp [Oper.looksAt, hg, ht]
        simp only [Option.map_some]
        rw [val_of (List.all_eq_true.1 hap t hm) (hl t hm)]
    simp only [this]

/-- The walk at a frame b that is written out. -/
def AWq (P : Program) (ops : Array Oper) (M : Rel) (w0 : World) (R : (Nat → Slot) → Prop) (l : List Oper) (b : Act) (A : Anys) : Prop := AW P ops M (Ext w0) R l (slotsOf b A)

/-- An operation that is no call of a Go function. -/
def noEnterB : Op → Bool
  | .move _ | .assign _ | .pick .. | .alloc _ | .box .. | .build .. | .buildSlice .. | .load .. | .binOp .. | .unOp .. | .convert .. | .makeInterface .. | .makeFunc .. | .makeMap .. | .makeSlice .. | .slice .. | .fieldAddr .. | .field ..
  | .indexAddr .. | .index .. | .lookup .. | .typeAssert .. | .extract .. | .nilCheck _ => true
  | .call { callee := .builtin .len, .. } | .call { callee := .builtin .cap, .. } | .call { callee := .builtin .max, .. } | .call { callee := .builtin .min, .. } | .call { callee := .builtin .append, .. } => true
  | _ => false

def NoEnter (s : Sem Next) : Prop := ∀ P w f args w', s.run P w ≠ .ok (.enter f args) w'
theorem NoEnter.bind {α : Type} {s : Sem α} {k : α → Sem Next} (h : ∀ x, NoEnter (k x)) : NoEnter (s >>= k) := fun P w f args w' => by
  rw [Sem.run_bind]
  cases s.run P w with
  | ok x w1 => exact h x P w1 f args w'
  | halt h w1 => intro e; cases e
theorem NoEnter.pureV {v : Value} : NoEnter (pure (.value v)) := fun P w f args w' e => by
  rw [Sem.run_pure] at e; cases e
theorem NoEnter.v {s : Sem Value} : NoEnter (do pure (.value (← s))) := NoEnter.bind fun _ => NoEnter.pureV
theorem noEnter_goPanic {v : Value} : NoEnter (goPanic v) := fun P w f args w' h => by
  simp [goPanic, Sem.run] at h
theorem noEnter_panic {e : RuntimeError} : NoEnter (runtimePanic e) := by
  unfold runtimePanic
  refine NoEnter.bind fun p => ?_
  cases e <;> first | exact noEnter_goPanic | exact NoEnter.bind fun _ => noEnter_goPanic | exact NoEnter.bind fun _ => NoEnter.bind fun _ => noEnter_goPanic
theorem noEnter_of {ρ : Operand → Value} {o : Oper} (h : noEnterB o.op = true) : NoEnter (execOp ρ o) := by
  obtain ⟨dst, op, type, pos, after, guard⟩ := o
  cases op <;> simp only [noEnterB] at h
  case call c =>
    obtain ⟨callee, args, ats⟩ := c
    cases callee with
    | value f => simp at h
    | invoke r m => simp at h
    | builtin b => cases b <;> first | (simp at h; done) | exact NoEnter.v
  case nilCheck x =>
    simp only [execOp]
    split <;> first | exact NoEnter.pureV | exact noEnter_panic | skip
    split <;> first | exact NoEnter.pureV | exact noEnter_panic | skip
    refine NoEnter.bind fun _ => NoEnter.bind fun _ => ?_
    split
    · exact NoEnter.bind fun _ => NoEnter.pureV
    · exact NoEnter.pureV
  all_goals first | (cases h; done) | exact NoEnter.v | exact NoEnter.pureV | exact NoEnter.bind fun _ => NoEnter.pureV

/-- An operation of a value that is exact: run by the quiet walk's own tactics. -/
theorem AWq.val {o : Oper} {rest : List Oper} {b : Act} {A : Anys} (hap : apartB A (o.looksAt ops) = true) (hd : dstB A b.tmps.size o.dst = true) (hne : noEnterB o.op = true) (hw : Region.wanted o (yielded ops b.tmps) = true)
    (h : ∀ K : Act → Prop, (∀ a, AWq P ops M w0 R rest a A → K a) → o.quiet P b (Later w0) K) : AWq P ops M w0 R (o :: rest) b A := by
  obtain ⟨v, h1, h2⟩ := h (fun a => AWq P ops M w0 R rest a A) (fun _ h => h)
  have hsel : (match o.op with | .select .. => false | _ => true) = true := by cases ho : o.op <;> simp_all [noEnterB]
  refine ⟨.val v, trivial, fun a w hF hl => ?_, by rw [← slotsOf_put hd]; exact h2⟩
  rw [wanted_same hap hl, if_pos hw, exec_same hsel hap hl]
  have h3 := h1 w hF.wext
  unfold Oper.quietAt at h3
  have hn := noEnter_of (ρ := b.eval) hne P w
  generalize (execOp b.eval o).run P w = r at h3 hn
  cases r with
  | ok n w' =>
    cases n <;> simp only [Oper.quietUpon] at h3 <;> simp only [Gives]
    case value u => obtain ⟨rfl, rfl⟩ := h3; exact ⟨rfl, M.refl _⟩
    case skip => obtain ⟨rfl, rfl⟩ := h3; exact ⟨rfl, M.refl _⟩
    case enter f args => exact absurd rfl (hn f args w')
  | halt x w' => exact h3.elim

/-- Passed over: its guard says no. -/
theorem AWq.skip {o : Oper} {rest : List Oper} {b : Act} {A : Anys} (hap : apartB A (o.looksAt ops) = true) (hd : dstB A b.tmps.size o.dst = true) (hw : Region.wanted o (yielded ops b.tmps) = false)
    (h : AWq P ops M w0 R rest (b.put o.dst undef) A) : AWq P ops M w0 R (o :: rest) b A := by
  refine ⟨.val undef, trivial, fun a w hF hl => ?_, by rw [← slotsOf_put hd]; exact h⟩
  rw [wanted_same hap hl, if_neg (by rw [hw]; exact Bool.false_ne_true)]
  exact rfl

theorem run_callFunc {f : FuncId} {fn : Func} {args : Array Value} {w : World} (hf : P.funcs[f]? = some fn) (h1 : (fn.name == "runtime.NumGoroutine") = false) (h2 : fn.body.isNone = false) :
    (callFunc f args).run P w = .ok (.enter f args) w := by
  have h1' : ¬ fn.name = "runtime.NumGoroutine" := by simpa using h1
  have h2' : ¬ fn.body = none := fun h => by rw [h] at h2; cases h2
  unfold callFunc
  simp [Sem.run_bind, program, Sem.run, hf, h1', h2', Result.andThen]

/-- The arguments of a call: exact ones out of the frame, of the others any value of which its fact is true. -/
def argsOf (b : Act) (A : Anys) (w : World) : List Operand → (List Value → Prop) → Prop
  | [], K => K []
  | .tmp t :: xs, K =>
    match anyAt A t with
    | some φ => ∀ y, φ y w → argsOf b A w xs (fun ys => K (y :: ys))
    | none => argsOf b A w xs (fun ys => K (b.tmps.getD t undef :: ys))
  | .const v :: xs, K => argsOf b A w xs (fun ys => K (v :: ys))
  | .global g :: xs, K => argsOf b A w xs (fun ys => K (.pointer (some ⟨g, 0, none⟩) :: ys))
  | .func f :: xs, K => argsOf b A w xs (fun ys => K (.func (.func f) #[] #[] :: ys))

theorem argsOf_get {a b : Act} {A : Anys} {w : World} : ∀ (xs : List Operand) (K : List Value → Prop), (∀ t, .tmp t ∈ xs → (slotsOf b A t).ok (a.tmps.getD t undef) w) → argsOf b A w xs K → K (xs.map a.eval)
  | [], _, _, h => h
  | .tmp t :: xs, K, hl, h => by
    have h1 := hl t (by simp)
    simp only [slotsOf] at h1
    simp only [argsOf] at h
    cases hg : anyAt A t with
    | some φ =>
      rw [hg] at h h1
      exact argsOf_get xs (fun ys => K (_ :: ys)) (fun t ht => hl t (by simp [ht])) (h _ h1)
    | none =>
      rw [hg] at h h1
      have e : a.tmps.getD t undef = b.tmps.getD t undef := h1
      rw [← e] at h
      exact argsOf_get xs (fun ys => K (_ :: ys)) (fun t ht => hl t (by simp [ht])) h
  | .const v :: xs, K, hl, h => argsOf_get xs (fun ys => K (_ :: ys)) (fun t ht => hl t (by simp [ht])) h
  | .global g :: xs, K, hl, h => argsOf_get xs (fun ys => K (_ :: ys)) (fun t ht => hl t (by simp [ht])) h
  | .func f :: xs, K, hl, h => argsOf_get xs (fun ys => K (_ :: ys)) (fun t ht => hl t (by simp [ht])) h

theorem exec_call {ρ : Operand → Value} {o : Oper} {f : FuncId} {xs : List Operand} {ats : Array TypeId} (ho : o.op = .call { callee := .value (.func f), args := xs.toArray, argTypes := ats }) (hρ : ρ (.func f) = .func (.func f) #[] #[]) :
    execOp ρ o = callFunc f (xs.map ρ).toArray := by
  obtain ⟨dst, op, type, pos, after, guard⟩ := o
  simp only at ho
  subst ho
  simp only [execOp, resolve, hρ, Deferred.ofValue, List.map_toArray]
  show callFunc f (#[] ++ (xs.map ρ).toArray ++ #[]) = _
  simp

/-- A call of a function that the source names, whose value is exact. -/
theorem AWq.call {o : Oper} {rest : List Oper} {b : Act} {A : Anys} {f : FuncId} {fn : Func} {xs : List Operand} {ats : Array TypeId} (ho : o.op = .call { callee := .value (.func f), args := xs.toArray, argTypes := ats })
    (hf : P.funcs[f]? = some fn) (h1 : (fn.name == "runtime.NumGoroutine") = false) (h2 : fn.body.isNone = false)
    (hg : (match o.guard with | some (j, _) => apartB A (((ops[j]?).bind (·.dst)).toList) | none => true) = true) (hd : dstB A b.tmps.size o.dst = true) (hw : Region.wanted o (yielded ops b.tmps) = true)
    (h : ∃ v, (∀ w, Ext w0 w → argsOf b A w xs fun ys => Calls P f ys.toArray w (Ret v w)) ∧ AWq P ops M w0 R rest (b.put o.dst v) A) : AWq P ops M w0 R (o :: rest) b A := by
  obtain ⟨v, hc, hr⟩ := h
  refine ⟨.val v, trivial, fun a w hF hl => ?_, by rw [← slotsOf_put hd]; exact hr⟩
  have hops : ∀ t, .tmp t ∈ xs → (slotsOf b A t).ok (a.tmps.getD t undef) w := fun t ht =>
    hl t (List.mem_append_left _ (List.mem_filterMap.2 ⟨.tmp t, by simp [ho, Op.operands, Call.operands, ht], rfl⟩))
  have hwa : Region.wanted o (yielded ops a.tmps) = true := by
    rw [← hw]
    unfold Region.wanted
    cases hgd : o.guard with
    | none => rfl
    | some gw =>
      obtain ⟨j, want⟩ := gw
      have : yielded ops a.tmps j = yielded ops b.tmps j := by
        rw [yielded_eq, yielded_eq]
        unfold yieldedOf
        cases ht : (ops[j]?).bind (·.dst) with
        | none => rfl
        | some t =>
          have hm : t ∈ o.looksAt ops := by simp [Oper.looksAt, hgd, ht]
          simp only [hgd] at hg
          have := List.all_eq_true.1 hg t (by simp [ht])
          simp only [Option.map_some]
          rw [val_of this (hl t hm)]
      simp only [this]
  rw [if_pos hwa, exec_call ho rfl, run_callFunc hf h1 h2]
  exact (callsV (argsOf_get xs _ hops (hc w hF))).mono fun _ _ ⟨v, e, h, k⟩ => ⟨v, e, h, M.ofExt _ _ k⟩

/-- A call of which a fact is known. -/
theorem AWq.callQ {o : Oper} {rest : List Oper} {b : Act} {A : Anys} {f : FuncId} {fn : Func} {xs : List Operand} {ats : Array TypeId} {d : Nat} (φ : Value → World → Prop) (hφ : ∀ v, SteadyR M (φ v)) (ho : o.op = .call { callee := .value (.func f), args := xs.toArray, argTypes := ats })
    (hf : P.funcs[f]? = some fn) (h1 : (fn.name == "runtime.NumGoroutine") = false) (h2 : fn.body.isNone = false)
    (hg : (match o.guard with | some (j, _) => apartB A (((ops[j]?).bind (·.dst)).toList) | none => true) = true) (hd : o.dst = some d) (hw : Region.wanted o (yielded ops b.tmps) = true)
    (hc : ∀ w, Ext w0 w → argsOf b A w xs fun ys => Calls P f ys.toArray w (RetQ φ w)) (hr : AWq P ops M w0 R rest b ((d, φ) :: A)) : AWq P ops M w0 R (o :: rest) b A := by
  refine ⟨.any φ, hφ, fun a w hF hl => ?_, by rw [hd, ← slotsOf_cons]; exact hr⟩
  have hops : ∀ t, .tmp t ∈ xs → (slotsOf b A t).ok (a.tmps.getD t undef) w := fun t ht =>
    hl t (List.mem_append_left _ (List.mem_filterMap.2 ⟨.tmp t, by simp [ho, Op.operands, Call.operands, ht], rfl⟩))
  have hwa : Region.wanted o (yielded ops a.tmps) = true := by
    rw [← hw]
    unfold Region.wanted
    cases hgd : o.guard with
    | none => rfl
    | some gw =>
      obtain ⟨j, want⟩ := gw
      have : yielded ops a.tmps j = yielded ops b.tmps j := by
        rw [yielded_eq, yielded_eq]
        unfold yieldedOf
        cases ht : (ops[j]?).bind (·.dst) with
        | none => rfl
        | some t =>
          have hm : t ∈ o.looksAt ops := by simp [Oper.looksAt, hgd, ht]
          simp only [hgd] at hg
          have := List.all_eq_true.1 hg t (by simp [ht])
          simp only [Option.map_some]
          rw [val_of this (hl t hm)]
      simp only [this]
  rw [if_pos hwa, exec_call ho rfl, run_callFunc hf h1 h2]
  exact (callsQ (argsOf_get xs _ hops (hc w hF))).mono fun _ _ ⟨v, e, h, k⟩ => ⟨v, e, h, M.ofExt _ _ k⟩

/-- Any operation of which a fact is known. -/
theorem AWq.opQ {o : Oper} {rest : List Oper} {b : Act} {A : Anys} {d : Nat} (φ : Value → World → Prop) (hφ : ∀ v, SteadyR M (φ v)) (hd : o.dst = some d)
    (h : ∀ (a : Act) (w : World), Ext w0 w → (∀ t ∈ o.looksAt ops, (slotsOf b A t).ok (a.tmps.getD t undef) w) → Region.wanted o (yielded ops a.tmps) = true ∧ Gives P (fun v w' => φ v w' ∧ M.r w w') ((execOp a.eval o).run P w))
    (hr : AWq P ops M w0 R rest b ((d, φ) :: A)) : AWq P ops M w0 R (o :: rest) b A := by
  refine ⟨.any φ, hφ, fun a w hF hl => ?_, by rw [hd, ← slotsOf_cons]; exact hr⟩
  obtain ⟨hw, hg⟩ := h a w hF hl
  rw [if_pos hw]
  exact hg

/-- .. whose operands are exact. -/
theorem AWq.opV {o : Oper} {rest : List Oper} {b : Act} {A : Anys} {d : Nat} (φ : Value → World → Prop) (hφ : ∀ v, SteadyR M (φ v)) (hd : o.dst = some d) (hap : apartB A (o.looksAt ops) = true)
    (hsel : (match o.op with | .select .. => false | _ => true) = true) (hw : Region.wanted o (yielded ops b.tmps) = true)
    (h : ∀ w, Ext w0 w → Gives P (fun v w' => φ v w' ∧ M.r w w') ((execOp b.eval o).run P w)) (hr : AWq P ops M w0 R rest b ((d, φ) :: A)) : AWq P ops M w0 R (o :: rest) b A :=
  AWq.opQ φ hφ hd (fun a w hF hl => by rw [wanted_same hap hl, exec_same hsel hap hl]; exact ⟨hw, h w hF⟩) hr

/-- What a guarded operation holds, where its guard is not decided. -/
def gv (c want : Bool) (v : Value) : Value := if c = want then v else undef
theorem gv_same (c : Bool) (v : Value) : gv c c v = v := if_pos rfl
theorem gv_or (F e : Bool) : (if F = true then Value.bool true else gv F false (.bool e)) = .bool (F || e) := by cases F <;> rfl
theorem gv_and (F e : Bool) : (if F = true then gv F true (.bool e) else Value.bool false) = .bool (F && e) := by cases F <;> rfl
attribute [go_sem] gv_same gv_or gv_and
/-- A guard that is not decided: what is guarded holds its value where the guard says yes. -/
theorem AWq.gval {o : Oper} {rest : List Oper} {b : Act} {A : Anys} {j : Nat} {c want : Bool} {t d : Nat} (hap : apartB A (o.looksAt ops) = true) (hd : dstB A b.tmps.size o.dst = true) (hdd : o.dst = some d) (hne : noEnterB o.op = true)
    (hgd : o.guard = some (j, want)) (ht : (ops[j]?).bind (·.dst) = some t) (hc : b.tmps.getD t undef = .bool c)
    (h : ∃ v, (c = want → o.quiet P b (Later w0) (fun a => a.tmps.getD d undef = v)) ∧ AWq P ops M w0 R rest (b.put (some d) (gv c want v)) A) : AWq P ops M w0 R (o :: rest) b A := by
  obtain ⟨v, h1, h2⟩ := h
  have hsel : (match o.op with | .select .. => false | _ => true) = true := by cases ho : o.op <;> simp_all [noEnterB]
  rw [hdd] at hd
  refine ⟨.val (gv c want v), trivial, fun a w hF hl => ?_, by rw [hdd, ← slotsOf_put hd]; exact h2⟩
  have hwb : Region.wanted o (yielded ops b.tmps) = (c == want) := by
    simp only [Region.wanted, hgd, yielded_eq, yieldedOf, ht, Option.map_some, hc]
    cases c <;> cases want <;> rfl
  rw [wanted_same hap hl, hwb]
  by_cases hcw : c = want
  · have hb : (c == want) = true := by simp [hcw]
    rw [if_pos hb, show gv c want v = v from if_pos hcw, exec_same hsel hap hl]
    obtain ⟨u, h3, h4⟩ := h1 hcw
    have hu : u = v := by
      simp only [dstB, Bool.and_eq_true, decide_eq_true_eq] at hd
      rw [hdd] at h4
      simpa [Act.put, hd.2] using h4
    subst hu
    have h3 := h3 w hF.wext
    unfold Oper.quietAt at h3
    have hn := noEnter_of (ρ := b.eval) hne P w
    generalize (execOp b.eval o).run P w = r at h3 hn
    cases r with
    | ok n w' =>
      cases n <;> simp only [Oper.quietUpon] at h3 <;> simp only [Gives]
      case value u => obtain ⟨rfl, rfl⟩ := h3; exact ⟨rfl, M.refl _⟩
      case skip => obtain ⟨rfl, rfl⟩ := h3; exact ⟨rfl, M.refl _⟩
      case enter f args => exact absurd rfl (hn f args w')
    | halt x w' => exact h3.elim
  · have hb : (c == want) = false := by simp [hcw]
    rw [hb, if_neg Bool.false_ne_true, show gv c want v = undef from if_neg hcw]
    exact rfl

/-- .. a call. -/
theorem AWq.gcall {o : Oper} {rest : List Oper} {b : Act} {A : Anys} {f : FuncId} {fn : Func} {xs : List Operand} {ats : Array TypeId} {j : Nat} {c want : Bool} {t d : Nat} (ho : o.op = .call { callee := .value (.func f), args := xs.toArray, argTypes := ats })
    (hf : P.funcs[f]? = some fn) (h1 : (fn.name == "runtime.NumGoroutine") = false) (h2 : fn.body.isNone = false)
    (hd : dstB A b.tmps.size o.dst = true) (hdd : o.dst = some d) (hgd : o.guard = some (j, want)) (ht : (ops[j]?).bind (·.dst) = some t) (hna : (anyAt A t).isNone = true) (hcb : b.tmps.getD t undef = .bool c)
    (h : ∃ v, (c = want → ∀ w, Ext w0 w → argsOf b A w xs fun ys => Calls P f ys.toArray w (Ret v w)) ∧ AWq P ops M w0 R rest (b.put (some d) (gv c want v)) A) : AWq P ops M w0 R (o :: rest) b A := by
  obtain ⟨v, hc, hr⟩ := h
  rw [hdd] at hd
  refine ⟨.val (gv c want v), trivial, fun a w hF hl => ?_, by rw [hdd, ← slotsOf_put hd]; exact hr⟩
  have hops : ∀ t, .tmp t ∈ xs → (slotsOf b A t).ok (a.tmps.getD t undef) w := fun t ht =>
    hl t (List.mem_append_left _ (List.mem_filterMap.2 ⟨.tmp t, by simp [ho, Op.operands, Call.operands, ht], rfl⟩))
  have hwa : Region.wanted o (yielded ops a.tmps) = (c == want) := by
    have hm : t ∈ o.looksAt ops := by simp [Oper.looksAt, hgd, ht]
    have e := val_of hna (hl t hm)
    simp only [Region.wanted, hgd, yielded_eq, yieldedOf, ht, Option.map_some, e, hcb]
    cases c <;> cases want <;> rfl
  rw [hwa]
  by_cases hcw : c = want
  · have hb : (c == want) = true := by simp [hcw]
    rw [if_pos hb, show gv c want v = v from if_pos hcw, exec_call ho rfl, run_callFunc hf h1 h2]
    exact (callsV (argsOf_get xs _ hops (hc hcw w hF))).mono fun _ _ ⟨v, e, h, k⟩ => ⟨v, e, h, M.ofExt _ _ k⟩
  · have hb : (c == want) = false := by simp [hcw]
    rw [hb, if_neg Bool.false_ne_true, show gv c want v = undef from if_neg hcw]
    exact rfl

def keysB (n : Nat) : Anys → Bool
  | [] => true
  | (t, _) :: r => decide (t < n) && (r.all fun p => p.1 != t) && keysB n r

theorem anyAt_none {A : Anys} {t : Nat} (h : ∀ p ∈ A, p.1 ≠ t) : anyAt A t = none := by
  induction A with
  | nil => rfl
  | cons p r ih =>
    obtain ⟨s, φ⟩ := p
    have : s ≠ t := h (s, φ) (by simp)
    simp only [anyAt, if_neg this]
    exact ih fun p hp => h p (by simp [hp])

theorem closeAny_sound {K : Act → World → Prop} {w : World} {a : Act} : ∀ (A : Anys) (b : Act), keysB b.tmps.size A = true → b.tmps.size = a.tmps.size → b.defers = a.defers →
    (∀ t, t < b.tmps.size → (slotsOf b A t).ok (a.tmps.getD t undef) w) → closeAny K w A b → K a w
  | [], b, _, hs, hd, hb, h => by
    have : a = b := by
      obtain ⟨at_, ad⟩ := a
      obtain ⟨bt, bd⟩ := b
      simp only at hs hd hb
      subst hd
      have : bt = at_ := Array.ext hs fun i h1 h2 => by
        have := hb i h1
        simp only [slotsOf, anyAt, Slot.ok] at this
        simpa [h1, h2] using this.symm
      rw [this]
    rw [this]; exact h
  | (t, φ) :: r, b, hk, hs, hd, hb, h => by
    simp only [keysB, Bool.and_eq_true, decide_eq_true_eq] at hk
    obtain ⟨⟨ht, hfar⟩, hk⟩ := hk
    have hfar : ∀ p ∈ r, p.1 ≠ t := fun p hp => by simpa using List.all_eq_true.1 hfar p hp
    have h0 := hb t ht
    simp only [slotsOf, anyAt, if_true, Slot.ok] at h0
    refine closeAny_sound r (b.put (some t) (a.tmps.getD t undef)) (by simpa [Act.put] using hk) (by simp [Act.put, hs]) (by simp [Act.put, hd]) (fun u hu => ?_) (h _ h0)
    simp only [Act.put, Array.size_setIfInBounds] at hu
    by_cases hut : t = u
    · subst hut
      simp only [slotsOf, anyAt_none hfar, Slot.ok]
      simp [Act.put, ht]
    · have := hb u hu
      simp only [slotsOf, anyAt, if_neg hut] at this ⊢
      cases hg : anyAt r u with
      | some ψ => rw [hg] at this; exact this
      | none =>
        rw [hg] at this
        simp only [Slot.ok] at this ⊢
        rw [this]
        simp [Act.put, Array.getElem?_setIfInBounds_ne hut]

theorem AWq.done {Q : Exit → Act → World → Prop} {b : Act} {A : Anys} (hs : b.tmps.size = a0.tmps.size) (hd : b.defers = a0.defers) (hk : keysB b.tmps.size A = true)
    (h : ∀ w, Ext w0 w → closeAny (Q .normal) w A b) : AWq P ops Rel.ext w0 (AfterAW w0 a0 Q) [] b A :=
  fun a w he hsz hdf hsl => closeAny_sound A b hk (by rw [hs, hsz]) (by rw [hd, hdf]) (fun t ht => hsl t (by rw [← hs]; exact ht)) (h w he)

theorem AWq.last {Q : Exit → Act → World → Prop} {b : Act} {A : Anys} {z : Oper} (hs : b.tmps.size = a0.tmps.size) (hd : b.defers = a0.defers) (hk : keysB b.tmps.size A = true)
    (h : ∀ w, Ext w0 w → closeAny (wpList P ops Q [z]) w A b) : AWq P ops M w0 (AfterLast P ops (Ext w0) a0 Q z) [] b A :=
  fun a w he hsz hdf hsl => closeAny_sound A b hk (by rw [hs, hsz]) (by rw [hd, hdf]) (fun t ht => hsl t (by rw [← hs]; exact ht)) (h w he)
theorem wp_region_last {id : Nat} {L pre : List Oper} {z : Oper} {Q : Exit → Act → World → Prop} {w : World} (M : Rel) (hpre : L.dropLast = pre) (hz : L.getLast? = some z) (hF : SteadyR M (Ext w)) (hm : P.follows .mixedOrders = true) (hg : graphB L.toArray a0.tmps.size = true) (hlk : looksB L.toArray a0.tmps.size = true)
    (hlast : lastB L.toArray (L.length - 1) = true)
    (h : AWq P L.toArray M w (AfterLast P L.toArray (Ext w) a0 Q z) pre a0 []) : (Code.region id L.toArray true).wp P Q a0 w := by
  have hL : L = pre ++ [z] := by
    subst hpre
    have hne : L ≠ [] := by rintro rfl; cases hz
    have hz' := List.getLast?_eq_some_getLast hne
    rw [hz] at hz'
    injection hz' with hz'
    rw [hz', List.dropLast_concat_getLast hne]
  subst hL
  exact wp_region_aw_last M (Ext w) hF (Ext.drew w) hm hg hlk (by simpa using hlast) h
theorem wp_region_any_order {id : Nat} {l : List Oper} {Q : Exit → Act → World → Prop} {w : World} (hm : P.follows .mixedOrders = true) (hg : graphB l.toArray a0.tmps.size = true) (hlk : looksB l.toArray a0.tmps.size = true)
    (h : AWq P l.toArray Rel.ext w (AfterAW w a0 Q) l a0 []) : (Code.region id l.toArray true).wp P Q a0 w := wp_region_aw hm hg hlk h
theorem wp_region_text_order {id : Nat} {l : List Oper} {Q : Exit → Act → World → Prop} {w : World} (hg : graphB l.toArray a0.tmps.size = true) (hlk : looksB l.toArray a0.tmps.size = true)
    (h : AWq P l.toArray Rel.ext w (AfterAW w a0 Q) l a0 []) : (Code.region id l.toArray false).wp P Q a0 w := wp_region_aw_seq hg hlk h
end
end Go.Proofs.Ytjbpdepeimgocaa
