/-
  Updates: plain words; the best one of an item; those that are seen.
-/
import Derived.Test.YtjbpdepeimgocaaRow
import Derived.Test.YtjbpdepeimgocaaVerP
import Derived.Test.YtjbpdepeimgocaaVerR
import Derived.Test.YtjbpdepeimgocaaCpt
namespace Go.Proofs.Ytjbpdepeimgocaa
set_option linter.unusedSimpArgs false
set_option linter.unusedVariables false
open Go.RowKit

structure UpdI where
  item : Ver
  st : Stamp
  p : ByteArray
  d : ByteArray
  dead : Bool
def UpdI.cells (u : UpdI) : List Value := [.int .i64 u.item.by_, .int .i64 u.item.n, .int .i64 u.st.v.by_, .int .i64 u.st.v.n, .int .i64 u.st.time, .string u.p, .string u.d, .bool u.dead]
def UpdI.val (u : UpdI) : Value := .agg #[.int .i64 u.item.by_, .int .i64 u.item.n, .int .i64 u.st.v.by_, .int .i64 u.st.v.n, .int .i64 u.st.time, .string u.p, .string u.d, .bool u.dead]
theorem upd_coded : Coded UpdI.cells 8 := ⟨fun _ => rfl, fun a u hu => by simp [UpdI.cells] at hu; rcases hu with rfl | rfl | rfl | rfl | rfl | rfl | rfl | rfl <;> rfl⟩
def upd0 : UpdI := ⟨⟨0, 0⟩, ⟨⟨0, 0⟩, 0⟩, ⟨#[]⟩, ⟨#[]⟩, false⟩
instance : DecidableEq Stamp := fun a b => if h : a.v = b.v ∧ a.time = b.time then isTrue (by cases a; cases b; simp_all) else isFalse (by rintro rfl; exact h ⟨rfl, rfl⟩)
instance : DecidableEq UpdI := fun a b => if h : a.item = b.item ∧ a.st = b.st ∧ a.p = b.p ∧ a.d = b.d ∧ a.dead = b.dead then isTrue (by cases a; cases b; simp_all) else isFalse (by rintro rfl; exact h ⟨rfl, rfl, rfl, rfl, rfl⟩)
/-- is one stamp older than another one? -/
def older (a b : Stamp) : Bool := decide (a.time < b.time ∨ a.time = b.time ∧ (a.v.by_ < b.v.by_ ∨ a.v.by_ = b.v.by_ ∧ a.v.n < b.v.n))
theorem older_irrefl (a : Stamp) : older a a = false := by simp [older]
theorem older_trans {a b c : Stamp} (h : older a b = true) (k : older b c = true) : older a c = true := by simp only [older, decide_eq_true_eq] at *; omega
theorem older_asymm {a b : Stamp} (h : older a b = true) : older b a = false := by simp only [older, decide_eq_true_eq, decide_eq_false_iff_not] at *; omega
theorem older_total {a b : Stamp} (h : older a b = false) (k : older b a = false) : a = b := by
  obtain ⟨⟨a1, a2⟩, a3⟩ := a
  obtain ⟨⟨b1, b2⟩, b3⟩ := b
  simp only [older, decide_eq_false_iff_not] at *
  have h1 : a1 = b1 := by omega
  have h2 : a2 = b2 := by omega
  have h3 : a3 = b3 := by omega
  rw [h1, h2, h3]

def stepK (it : Ver) (acc : Option UpdI) (u : UpdI) : Option UpdI :=
  if u.item = it then (match acc with | none => some u | some x => if older x.st u.st then some u else some x) else acc
def bestK (l : List UpdI) (it : Ver) : Option UpdI := l.foldl (stepK it) none
theorem bestK_snoc (l : List UpdI) (x : UpdI) (it : Ver) : bestK (l ++ [x]) it = stepK it (bestK l it) x := by simp [bestK, List.foldl_append]
theorem bestK_take {l : List UpdI} {k : Nat} (h : k < l.length) (it : Ver) : bestK (l.take (k + 1)) it = stepK it (bestK (l.take k) it) l[k] := by
  rw [List.take_succ_eq_append_getElem h, bestK_snoc]
theorem stepK_some {it : Ver} {acc : Option UpdI} {u x : UpdI} (h : stepK it acc u = some x) : acc = some x ∨ x = u ∧ u.item = it := by
  unfold stepK at h
  split at h
  · rename_i e
    split at h
    · injection h with h; exact .inr ⟨h.symm, e⟩
    · split at h
      · injection h with h; exact .inr ⟨h.symm, e⟩
      · exact .inl h
  · exact .inl h
theorem bestK_mem : ∀ (l : List UpdI) (it : Ver) (x : UpdI), bestK l it = some x → x ∈ l ∧ x.item = it := by
  intro l it
  have : ∀ (l : List UpdI) (acc : Option UpdI) (x : UpdI), l.foldl (stepK it) acc = some x → acc = some x ∨ x ∈ l ∧ x.item = it := by
    intro l
    induction l with
    | nil => intro acc x h; exact .inl h
    | cons u l ih =>
      intro acc x h
      rw [List.foldl_cons] at h
      rcases ih _ _ h with h | ⟨h1, h2⟩
      · rcases stepK_some h with h | ⟨rfl, h⟩
        · exact .inl h
        · exact .inr ⟨List.mem_cons_self, h⟩
      · exact .inr ⟨List.mem_cons_of_mem _ h1, h2⟩
  intro x h
  rcases this l none x h with h | h
  · cases h
  · exact h
theorem bestK_some {l : List UpdI} {it : Ver} (h : ∃ u ∈ l, u.item = it) : ∃ x, bestK l it = some x := by
  have hst : ∀ (acc : Option UpdI) (u : UpdI), acc.isSome = true → (stepK it acc u).isSome = true := fun acc u ha => by
    unfold stepK
    split
    · split
      · rfl
      · split <;> rfl
    · exact ha
  have hk : ∀ (l : List UpdI) (acc : Option UpdI), acc.isSome = true ∨ (∃ u ∈ l, u.item = it) → (l.foldl (stepK it) acc).isSome = true := by
    intro l
    induction l with
    | nil =>
      rintro acc (h | ⟨u, hu, _⟩)
      · exact h
      · cases hu
    | cons u l ih =>
      intro acc h
      rw [List.foldl_cons]
      refine ih _ ?_
      rcases h with h | ⟨x, hx, e⟩
      · exact .inl (hst acc u h)
      · rcases List.mem_cons.1 hx with rfl | hx
        · refine .inl ?_
          unfold stepK
          rw [if_pos e]
          split
          · rfl
          · split <;> rfl
        · exact .inr ⟨x, hx, e⟩
  have := hk l none (.inr h)
  exact Option.isSome_iff_exists.1 this
/-- The items, in order, each once. -/
def itemsK (l : List UpdI) : List Ver := setL Ver.lt (l.map (·.item))
theorem mem_itemsK (l : List UpdI) (it : Ver) : it ∈ itemsK l ↔ ∃ u ∈ l, u.item = it := by
  unfold itemsK
  rw [mem_setL Ver.strict, List.mem_map]
theorem itemsK_len (l : List UpdI) : (itemsK l).length ≤ l.length := by
  have := setL_length Ver.strict (l.map (·.item))
  unfold itemsK
  rwa [List.length_map] at this
/-- The best ones for which p holds. -/
def seenK (p : UpdI → Bool) (l : List UpdI) (its : List Ver) : List UpdI := its.filterMap fun it => (bestK l it).filter p
def viewK (p : UpdI → Bool) (l : List UpdI) : List UpdI := seenK p l (itemsK l)
theorem seenK_snoc (p : UpdI → Bool) (l : List UpdI) (its : List Ver) (k : Nat) (h : k < its.length) : seenK p l (its.take (k + 1)) = seenK p l (its.take k) ++ ((bestK l its[k]).filter p).toList := by
  unfold seenK
  rw [List.take_succ_eq_append_getElem h, List.filterMap_append]
  cases h' : (bestK l its[k]).filter p <;> simp [h']
theorem seenK_yes {p : UpdI → Bool} {l : List UpdI} {its : List Ver} {k : Nat} (h : k < its.length) {u : UpdI} (hb : bestK l its[k] = some u) (hp : p u = true) : seenK p l (its.take (k + 1)) = seenK p l (its.take k) ++ [u] := by
  rw [seenK_snoc p l its k h, hb]; simp [Option.filter, hp]
theorem seenK_no {p : UpdI → Bool} {l : List UpdI} {its : List Ver} {k : Nat} (h : k < its.length) {u : UpdI} (hb : bestK l its[k] = some u) (hp : p u = false) : seenK p l (its.take (k + 1)) = seenK p l (its.take k) := by
  rw [seenK_snoc p l its k h, hb]; simp [Option.filter, hp]
theorem seenK_len (p : UpdI → Bool) (l : List UpdI) (its : List Ver) : (seenK p l its).length ≤ its.length := List.length_filterMap_le _ _
theorem seenK_mem {p : UpdI → Bool} {l : List UpdI} {its : List Ver} {u : UpdI} (h : u ∈ seenK p l its) : u ∈ l ∧ p u = true := by
  obtain ⟨it, _, h⟩ := List.mem_filterMap.1 h
  cases hb : bestK l it with
  | none => rw [hb] at h; cases h
  | some x =>
    rw [hb] at h
    by_cases hp : p x = true
    · simp [Option.filter, hp] at h
      subst h
      exact ⟨(bestK_mem l it x hb).1, hp⟩
    · simp [Option.filter, hp] at h
end Go.Proofs.Ytjbpdepeimgocaa
