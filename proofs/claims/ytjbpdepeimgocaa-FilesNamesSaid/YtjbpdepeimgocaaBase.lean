/-
  Words for memory that the walks share: blocks known whole, which blocks a call may have turned, slices that read as lists. Of no program.
-/
import Derived.Test.YtjbpdepeimgocaaAw
import Derived.WalkKit
import Derived.WalkLawsBesides
import Derived.Deep.QuietTactic
import Derived.BigQuiet
import Derived.Deep.DeepCutAuto
namespace Go.Proofs.Ytjbpdepeimgocaa
set_option linter.unusedSimpArgs false
set_option linter.unusedVariables false
open Go.RowKit

theorem hid {p : Prop} (h : p) : Hid p := h

theorem Ext.alloc' {w w' : World} (h : Ext w w') (o : Obj) : Ext w (w'.alloc o) := h.trans (Ext.alloc w' o)
theorem Ext.drew' {w w' : World} (h : Ext w w') : Ext w w'.drew := h.trans (Ext.drew w')
theorem Ext.drewN' {w w' : World} (h : Ext w w') (n : Nat) : Ext w (w'.drewN n) := h.trans (Ext.drewN w' n)
theorem Ext.setCell' {w w' : World} (h : Ext w w') {p : Addr} (hp : w.heap.size ≤ p.block) (v : Value) : Ext w (w'.setCell p v) := Below.setCell h hp v
theorem Ext.below {w w' : World} (h : Ext w w') {B : Nat} (hB : B ≤ w.heap.size) : Below B w w' := Below.mono h hB
theorem Ext.of_below {w w' : World} (h : Below w.heap.size w w') : Ext w w' := h
theorem Ext.size {w w' : World} (h : Ext w w') : w.heap.size ≤ w'.heap.size := Below.size h

/-- Of the blocks that there were only those of S may have turned. -/
structure Keep (S : Nat → Prop) (w w' : World) : Prop where
  os : w'.os = w.os
  tape : w'.tape = w.tape
  output : w'.output = w.output
  size : w.heap.size ≤ w'.heap.size
  block : ∀ k, k < w.heap.size → ¬ S k → w'.heap[k]? = w.heap[k]?
theorem Keep.refl (S : Nat → Prop) (w : World) : Keep S w w := ⟨rfl, rfl, rfl, Nat.le_refl _, fun _ _ _ => rfl⟩
theorem Keep.trans {S : Nat → Prop} {a b c : World} (h : Keep S a b) (k : Keep S b c) : Keep S a c :=
  ⟨k.os.trans h.os, k.tape.trans h.tape, k.output.trans h.output, Nat.le_trans h.size k.size, fun i hi hs => (k.block i (Nat.lt_of_lt_of_le hi h.size) hs).trans (h.block i hi hs)⟩
theorem Keep.of_ext {S : Nat → Prop} {w w' : World} (h : Ext w w') : Keep S w w' := ⟨h.os, h.tape, h.output, Below.size h, fun k hk _ => h.block k hk⟩
theorem Keep.ext {S : Nat → Prop} {a b c : World} (h : Keep S a b) (k : Ext b c) : Keep S a c := h.trans (Keep.of_ext k)
theorem Keep.alloc {S : Nat → Prop} {a b : World} (h : Keep S a b) (o : Obj) : Keep S a (b.alloc o) := h.ext (Ext.alloc b o)
theorem Keep.drew {S : Nat → Prop} {a b : World} (h : Keep S a b) : Keep S a b.drew := h.ext (Ext.drew b)
theorem Keep.drewN {S : Nat → Prop} {a b : World} (h : Keep S a b) (n : Nat) : Keep S a (b.drewN n) := h.ext (Ext.drewN b n)
theorem Keep.setCell {S : Nat → Prop} {a b : World} (h : Keep S a b) {p : Addr} (hp : S p.block ∨ a.heap.size ≤ p.block) (v : Value) : Keep S a (b.setCell p v) :=
  ⟨h.os, h.tape, h.output, by have := h.size; simpa [World.setCell] using this, fun k hk hs => by
    rw [Below.heap_setCell b p v k (by rintro rfl; rcases hp with hp | hp; exact hs hp; omega)]; exact h.block k hk hs⟩
theorem Keep.below {S : Nat → Prop} {w w' : World} (h : Keep S w w') {B : Nat} (hB : B ≤ w.heap.size) (hS : ∀ k, S k → B ≤ k) : Below B w w' :=
  ⟨h.os, h.tape, h.output, h.size, fun k hk => h.block k (by omega) (fun hs => by have := hS k hs; omega)⟩
theorem Keep.mono {S S' : Nat → Prop} {w w' : World} (h : Keep S w w') (hs : ∀ k, S k → S' k) : Keep S' w w' := ⟨h.os, h.tape, h.output, h.size, fun k hk hn => h.block k hk fun h => hn (hs k h)⟩

/-- Block g is just these cells, none of them frozen. -/
def Blk (w : World) (g : Nat) (t : TypeId) (cs : Array Value) : Prop := w.heap[g]? = some (.cells cs t (0, 0))
section
variable {w w' : World} {g : Nat} {t : TypeId} {cs : Array Value}
theorem Blk.lt (h : Blk w g t cs) : g < w.heap.size := by
  rcases Nat.lt_or_ge g w.heap.size with hlt | hge
  · exact hlt
  · unfold Blk at h; rw [Array.getElem?_eq_none hge] at h; cases h
theorem Blk.cell (h : Blk w g t cs) {i : Nat} {v : Value} (hi : cs[i]? = some v) : w.cell? ⟨g, i, none⟩ = some v := (cell_of_row w g i cs t (0, 0) h).trans hi
theorem Blk.frozen (h : Blk w g t cs) (i : Nat) : w.frozen? ⟨g, i, none⟩ = false := by
  unfold Blk at h
  simp [World.frozen?, h]
theorem Blk.new (w : World) (t : TypeId) (cs : Array Value) : Blk (w.alloc (.cells cs t)) w.heap.size t cs := heap_alloc_new w _
theorem Blk.ext (h : Blk w g t cs) (he : Ext w w') : Blk w' g t cs := he.heap h
theorem Blk.keep {S : Nat → Prop} (h : Blk w g t cs) (he : Keep S w w') (hs : ¬ S g) : Blk w' g t cs := (he.block g h.lt hs).trans h
theorem Blk.below {B : Nat} (h : Blk w g t cs) (hb : Below B w w') (hg : g < B) : Blk w' g t cs := (hb.block g hg).trans h
theorem Blk.alloc (h : Blk w g t cs) (o : Obj) : Blk (w.alloc o) g t cs := h.ext (Ext.alloc w o)
theorem Blk.drew (h : Blk w g t cs) : Blk w.drew g t cs := h
theorem Blk.drewN (h : Blk w g t cs) (n : Nat) : Blk (w.drewN n) g t cs := h
theorem Blk.set (h : Blk w g t cs) (i : Nat) (u : Value) : Blk (w.setCell ⟨g, i, none⟩ u) g t (cs.setIfInBounds i u) := by
  unfold Blk at h ⊢
  simp [World.setCell, Array.getElem?_modify, h]
theorem Blk.far (h : Blk w g t cs) {p : Addr} (hp : g ≠ p.block) (u : Value) : Blk (w.setCell p u) g t cs := (Below.heap_setCell w p u g hp).trans h
end

/-- v is a slice that reads as these rows of 'sz' cells each. -/
def Sl (w : World) (sz : Nat) (v : Value) (xs : List (List Value)) : Prop :=
  ∃ A c, v = .slice A xs.length c ∧ xs.length ≤ c ∧ c ≤ maxLen ∧ (0 < xs.length → ∃ b o, A = some ⟨b, o, none⟩ ∧ b < w.heap.size ∧ ∀ k x j u, xs[k]? = some x → x[j]? = some u → w.cell? ⟨b, o + k * sz + j, none⟩ = some u)
section
variable {w w' : World} {sz : Nat} {v : Value} {xs : List (List Value)}
theorem Sl.ext (h : Sl w sz v xs) (he : Ext w w') : Sl w' sz v xs := by
  obtain ⟨A, c, h1, h2, h3, h4⟩ := h
  refine ⟨A, c, h1, h2, h3, fun hn => ?_⟩
  obtain ⟨b, o, h5, h6, h7⟩ := h4 hn
  exact ⟨b, o, h5, Nat.lt_of_lt_of_le h6 he.size, fun k x j u hx hu => he.cell (h7 k x j u hx hu)⟩
theorem Sl.steady (sz : Nat) (xs : List (List Value)) (v : Value) : Steady fun w => Sl w sz v xs := fun _ _ he h => h.ext he
theorem Sl.below {B : Nat} (h : Sl w sz v xs) (hb : Below B w w') (hB : ∀ b o, (∃ n c, v = .slice (some ⟨b, o, none⟩) n c) → b < B) : Sl w' sz v xs := by
  obtain ⟨A, c, h1, h2, h3, h4⟩ := h
  refine ⟨A, c, h1, h2, h3, fun hn => ?_⟩
  obtain ⟨b, o, h5, h6, h7⟩ := h4 hn
  have hlt : b < B := hB b o ⟨_, _, by rw [h1, h5]⟩
  exact ⟨b, o, h5, Nat.lt_of_lt_of_le h6 hb.size, fun k x j u hx hu => (hb.cell (p := ⟨b, _, none⟩) hlt).trans (h7 k x j u hx hu)⟩
/-- A new block that is read as a slice. -/
theorem Sl.of_blk {g : Nat} {t : TypeId} {cs : Array Value} {n c : Nat} (h : Blk w g t cs) (hn : xs.length = n) (hc : n ≤ c) (hm : c ≤ maxLen) (hx : ∀ k x j u, xs[k]? = some x → x[j]? = some u → cs[k * sz + j]? = some u) :
    Sl w sz (.slice (some ⟨g, 0, none⟩) n c) xs := by
  subst hn
  refine ⟨_, c, rfl, hc, hm, fun _ => ⟨g, 0, rfl, h.lt, fun k x j u hk hj => ?_⟩⟩
  rw [Nat.zero_add]
  exact h.cell (hx k x j u hk hj)
theorem Sl.nil (w : World) (sz : Nat) : Sl w sz (.slice none 0 0) [] := ⟨none, 0, rfl, Nat.le_refl _, by unfold maxLen; omega, fun h => absurd h (by simp)⟩
end
/-- A slice that the call has just laid. -/
def NewSl (t : TypeId) (cs : Array Value) (n c : Nat) (v : Value) (w : World) : Prop := ∃ g, v = .slice (some ⟨g, 0, none⟩) n c ∧ Blk w g t cs
theorem NewSl.steady (t : TypeId) (cs : Array Value) (n c : Nat) (v : Value) : Steady (NewSl t cs n c v) := fun _ _ he ⟨g, h1, h2⟩ => ⟨g, h1, h2.ext he⟩

theorem run_max_int {P : Program} (w : World) (ats : Array TypeId) (ty : TypeId) (k : IntKind) (a b : Int) : (Builtin.max_ ats ty #[.int k a, .int k b]).run P w = .ok (.int k (max a b)) w := by
  simp [Builtin.max_, go_sem, Builtin.max2]
  omega
theorem run_min_int {P : Program} (w : World) (ats : Array TypeId) (ty : TypeId) (k : IntKind) (a b : Int) : (Builtin.min_ ats ty #[.int k a, .int k b]).run P w = .ok (.int k (min a b)) w := by
  simp [Builtin.min_, go_sem, Builtin.min2]
  omega
attribute [go_sem 2000] run_max_int run_min_int

theorem flat_get {β : Type} (sz : Nat) : ∀ (l : List (List β)) (k j : Nat) (x : List β), (∀ y ∈ l, y.length = sz) → l[k]? = some x → j < sz → l.flatten[k * sz + j]? = x[j]?
  | [], _, _, _, _, h, _ => by simp at h
  | y :: l, 0, j, x, hl, h, hj => by
    simp only [List.getElem?_cons_zero, Option.some.injEq] at h
    subst h
    rw [List.flatten_cons, Nat.zero_mul, Nat.zero_add, List.getElem?_append_left (by rw [hl y (by simp)]; exact hj)]
  | y :: l, k + 1, j, x, hl, h, hj => by
    have hy := hl y (by simp)
    have e : (k + 1) * sz + j - sz = k * sz + j := by rw [Nat.add_mul]; omega
    rw [List.flatten_cons, List.getElem?_append_right (by rw [hy, Nat.add_mul]; omega), hy, e]
    exact flat_get sz l k j x (fun z hz => hl z (by simp [hz])) (by simpa using h) hj
theorem Sl.of_flat {w : World} {sz g : Nat} {t : TypeId} {xs : List (List Value)} {n c : Nat} {cs : Array Value} (h : Blk w g t cs) (hcs : ∃ r, cs.toList = xs.flatten ++ r) (hl : ∀ x ∈ xs, x.length = sz) (hn : xs.length = n) (hc : n ≤ c) (hm : c ≤ maxLen) :
    Sl w sz (.slice (some ⟨g, 0, none⟩) n c) xs := Sl.of_blk h hn hc hm fun k x j u hk hj => by
  obtain ⟨r, hr⟩ := hcs
  have hjs : j < sz := by
    have := hl x (List.mem_of_getElem? hk)
    rcases Nat.lt_or_ge j x.length with h | h
    · omega
    · rw [List.getElem?_eq_none h] at hj; cases hj
  have hf := flat_get sz xs k j x hl hk hjs
  rw [hj] at hf
  have hlt : k * sz + j < xs.flatten.length := (List.getElem?_eq_some_iff.1 hf).1
  rw [← Array.getElem?_toList, hr, List.getElem?_append_left hlt]
  exact hf
theorem sl_take {w : World} {sz b o n c m : Nat} {xs : List (List Value)} (h : Sl w sz (.slice (some ⟨b, o, none⟩) n c) xs) (hm : m ≤ n) : Sl w sz (.slice (some ⟨b, o, none⟩) m c) (xs.take m) := by
  obtain ⟨A, c', h1, h2, h3, h4⟩ := h
  injection h1 with hA hn hc
  subst hA; subst hc
  have hlen : (xs.take m).length = m := by simp; omega
  refine ⟨_, c, by rw [hlen], by rw [hlen]; omega, h3, fun hp => ?_⟩
  obtain ⟨b', o', h5, h6, h7⟩ := h4 (by omega)
  exact ⟨b', o', h5, h6, fun k x j u hk hj => h7 k x j u (by rw [List.getElem?_take] at hk; split at hk; exact hk; cases hk) hj⟩
end Go.Proofs.Ytjbpdepeimgocaa
