/-
  A region whose last operation waits for all others, where the others turn what a relation allows, and of the worlds between any fact is known that the relation keeps.
-/
import Derived.Test.YtanflgipdiogaaaDoorAw
namespace Go.Proofs.YtanflgipdiogaaaDoor
set_option linter.unusedSimpArgs false
set_option linter.unusedVariables false
open Go.RowKit

section
variable {P : Program} {ops : Array Oper} {M : Rel} {F : World → Prop} {R : (Nat → Slot) → Prop} {a0 : Act}
/-- The walk at a frame b that is written out. -/
def AWk (P : Program) (ops : Array Oper) (M : Rel) (F : World → Prop) (R : (Nat → Slot) → Prop) (l : List Oper) (b : Act) (A : Anys) : Prop := AW P ops M F R l (slotsOf b A)
/-- An operation that only reads, of exact operands. -/
theorem AWk.val {o : Oper} {rest : List Oper} {b : Act} {A : Anys} {v : Value} (hap : apartB A (o.looksAt ops) = true) (hd : dstB A b.tmps.size o.dst = true) (hsel : (match o.op with | .select .. => false | _ => true) = true) (hw : Region.wanted o (yielded ops b.tmps) = true)
    (h : ∀ w, F w → Gives P (fun u w' => u = v ∧ w' = w) ((execOp b.eval o).run P w)) (hr : AWk P ops M F R rest (b.put o.dst v) A) : AWk P ops M F R (o :: rest) b A := by
  refine ⟨.val v, trivial, fun a w hF hl => ?_, by rw [← slotsOf_put hd]; exact hr⟩
  rw [wanted_same hap hl, if_pos hw, exec_same hsel hap hl]
  have h3 := h w hF
  generalize (execOp b.eval o).run P w = r at h3 ⊢
  cases r with
  | ok n w' =>
    cases n <;> simp only [Gives] at h3 ⊢
    case value u => obtain ⟨rfl, rfl⟩ := h3; exact ⟨rfl, M.refl _⟩
    case skip => obtain ⟨rfl, rfl⟩ := h3; exact ⟨rfl, M.refl _⟩
    case enter f args =>
      first
        | exact h3.elim
        | exact h3.mono fun e w' ⟨u, e1, e2⟩ => ⟨u, e1, e2.1, by rw [e2.2]; exact M.refl _⟩
  | halt x w' => exact h3.elim
theorem AWk.callQ {o : Oper} {rest : List Oper} {b : Act} {A : Anys} {f : FuncId} {fn : Func} {xs : List Operand} {ats : Array TypeId} {d : Nat} (φ : Value → World → Prop) (hφ : ∀ v, SteadyR M (φ v)) (ho : o.op = .call { callee := .value (.func f), args := xs.toArray, argTypes := ats })
    (hf : P.funcs[f]? = some fn) (h1 : (fn.name == "runtime.NumGoroutine") = false) (h2 : fn.body.isNone = false)
    (hg : (match o.guard with | some (j, _) => apartB A (((ops[j]?).bind (·.dst)).toList) | none => true) = true) (hd : o.dst = some d) (hw : Region.wanted o (yielded ops b.tmps) = true)
    (hc : ∀ w, F w → argsOf b A w xs fun ys => Calls P f ys.toArray w (RetQ φ w)) (hr : AWk P ops M F R rest b ((d, φ) :: A)) : AWk P ops M F R (o :: rest) b A := by
  refine ⟨.any φ, hφ, fun a w hF hl => ?_, by rw [hd, ← slotsOf_cons]; exact hr⟩
  have hops : ∀ t, .tmp t ∈ xs → (slotsOf b A t).ok (a.tmps.getD t undef) w := fun t ht =>
    hl t (List.mem_append_left _ (List.mem_filterMap.2 ⟨.tmp t, by simp [ho, Op.operands, Call.operands, ht], rfl⟩))
  have hwa : Region.wanted o (yielded ops a.tmps) = true := by
    rw [← hw]
    unfold Region.wanted
    cases hgd : o.guard with
    | none => rfl
    | some gw =>
      obtain ⟨j, want⟩ := gw
      have : yielded ops a.tmps j = yielded ops b.tmps j := by
        rw [yielded_eq, yielded_eq]
        unfold yieldedOf
        cases ht : (ops[j]?).bind (·.dst) with
        | none => rfl
        | some t =>
          have hm : t ∈ o.looksAt ops := by simp [Oper.looksAt, hgd, ht]
          simp only [hgd] at hg
          have := List.all_eq_true.1 hg t (by simp [ht])
          simp only [Option.map_some]
          rw [val_of this (hl t hm)]
      simp only [this]
  rw [if_pos hwa, exec_call ho rfl, run_callFunc hf h1 h2]
  exact (callsQ (argsOf_get xs _ hops (hc w hF))).mono fun _ _ ⟨v, e, h, k⟩ => ⟨v, e, h, M.ofExt _ _ k⟩
theorem AWk.opQ {o : Oper} {rest : List Oper} {b : Act} {A : Anys} {d : Nat} (φ : Value → World → Prop) (hφ : ∀ v, SteadyR M (φ v)) (hd : o.dst = some d)
    (h : ∀ (a : Act) (w : World), F w → (∀ t ∈ o.looksAt ops, (slotsOf b A t).ok (a.tmps.getD t undef) w) → Region.wanted o (yielded ops a.tmps) = true ∧ Gives P (fun v w' => φ v w' ∧ M.r w w') ((execOp a.eval o).run P w))
    (hr : AWk P ops M F R rest b ((d, φ) :: A)) : AWk P ops M F R (o :: rest) b A := by
  refine ⟨.any φ, hφ, fun a w hF hl => ?_, by rw [hd, ← slotsOf_cons]; exact hr⟩
  obtain ⟨hw, hg⟩ := h a w hF hl
  rw [if_pos hw]
  exact hg
/-- .. the same, its value to be found. -/
theorem AWk.valE {o : Oper} {rest : List Oper} {b : Act} {A : Anys} (hap : apartB A (o.looksAt ops) = true) (hd : dstB A b.tmps.size o.dst = true) (hsel : (match o.op with | .select .. => false | _ => true) = true) (hw : Region.wanted o (yielded ops b.tmps) = true)
    (h : ∃ v, (∀ w, F w → Gives P (fun u w' => u = v ∧ w' = w) ((execOp b.eval o).run P w)) ∧ AWk P ops M F R rest (b.put o.dst v) A) : AWk P ops M F R (o :: rest) b A := by
  obtain ⟨v, h1, h2⟩ := h
  exact AWk.val hap hd hsel hw h1 h2
theorem AWk.last {Q : Exit → Act → World → Prop} {b : Act} {A : Anys} {z : Oper} (hs : b.tmps.size = a0.tmps.size) (hd : b.defers = a0.defers) (hk : keysB b.tmps.size A = true)
    (h : ∀ w, F w → closeAny (wpList P ops Q [z]) w A b) : AWk P ops M F (AfterLast P ops F a0 Q z) [] b A :=
  fun a w he hsz hdf hsl => closeAny_sound A b hk (by rw [hs, hsz]) (by rw [hd, hdf]) (fun t ht => hsl t (by rw [← hs]; exact ht)) (h w he)
theorem wp_region_lastk {id : Nat} {L pre : List Oper} {z : Oper} {Q : Exit → Act → World → Prop} {w : World} (M : Rel) (F : World → Prop) (hpre : L.dropLast = pre) (hz : L.getLast? = some z) (hF : SteadyR M F) (hF0 : F w.drew) (hm : P.follows .mixedOrders = true) (hg : graphB L.toArray a0.tmps.size = true) (hlk : looksB L.toArray a0.tmps.size = true)
    (hlast : lastB L.toArray (L.length - 1) = true)
    (h : AWk P L.toArray M F (AfterLast P L.toArray F a0 Q z) pre a0 []) : (Code.region id L.toArray true).wp P Q a0 w := by
  have hL : L = pre ++ [z] := by
    subst hpre
    have hne : L ≠ [] := by rintro rfl; cases hz
    have hz' := List.getLast?_eq_some_getLast hne
    rw [hz] at hz'
    injection hz' with hz'
    rw [hz', List.dropLast_concat_getLast hne]
  subst hL
  exact wp_region_aw_last M F hF hF0 hm hg hlk (by simpa using hlast) h
end
end Go.Proofs.YtanflgipdiogaaaDoor
