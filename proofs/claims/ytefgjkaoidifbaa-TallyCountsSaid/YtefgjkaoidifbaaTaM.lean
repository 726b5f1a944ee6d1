/-
  The map of counts: what it reads as; tally.plus, the closure of gather.
-/
import Derived.Test.YtefgjkaoidifbaaProg
import Derived.Test.YtefgjkaoidifbaaRow
import Derived.Test.YtefgjkaoidifbaaTaP
import Derived.Maps.Own
import Derived.Maps.RangeWalk
namespace Go.Proofs.Ytefgjkaoidifbaa
set_option linter.unusedSimpArgs false
set_option linter.unusedVariables false
open Go.RowKit Go.Maps

theorem cnt_coded : Coded Cnt.cells 4 := ⟨fun _ => rfl, fun a u hu => by simp [Cnt.cells] at hu; rcases hu with rfl | rfl | rfl | rfl <;> rfl⟩
theorem cnt_info : (Try.prog.info? 58).map (fun i => (i.zero, i.size, i.bytes)) = some (some (.agg #[.int .i64 0, .int .i64 0, .int .i64 0, .int .i64 0]), 4, 32) := by kernel_rfl
theorem cnt_elem : Elem Try.prog 53 58 4 32 := by
  obtain ⟨i0, h0, h1, h2, h3⟩ := info_parts cnt_info
  exact ⟨Try.underlying53, i0, _, h0, h1, h2, h3, rfl⟩
theorem kLaw : Keyed Try.prog 3 := int_keyed Try.underlying3
theorem zeroCnt (w : World) : (zeroValue 58).run Try.prog w = .ok (Cnt.val ⟨0, 0, 0, 0⟩) w := by kernel_rfl

open Classical in
/-- How a count reads: as itself. -/
noncomputable def RC (v : Value) : Option (DataW Value × List MemPlace) := if ∃ c : Cnt, v = c.val then some (.held v, []) else none
theorem RC_val (c : Cnt) : RC c.val = some (.held c.val, []) := by unfold RC; rw [if_pos ⟨c, rfl⟩]
theorem RC_inv {v : Value} {y : DataW Value × List MemPlace} (h : RC v = some y) : ∃ c : Cnt, v = c.val ∧ y = (.held c.val, []) := by
  unfold RC at h
  split at h
  · rename_i hc
    obtain ⟨c, rfl⟩ := hc
    injection h with h
    exact ⟨c, rfl, h.symm⟩
  · cases h
theorem Cnt.val_inj {a b : Cnt} (h : a.val = b.val) : a = b := by
  unfold Cnt.val at h
  injection h with h
  have := congrArg Array.toList h
  simp at this
  exact Cnt.ext_ this.1 this.2.1 this.2.2.1 this.2.2.2
abbrev KI (k : Int) : Lit := .int .i64 k
def okK (k : Int) : Prop := (Lit.int .i64 k).wf = true
theorem okK_mk {k : Int} (h : okK k) : keyOf Try.prog 3 (.int .i64 k) = some (KI k) := keyOf_int_mk Try.underlying3 h
theorem isKey (k : Int) : WideAt.IsKeyLit (KI k) := by first | exact .int _ _ | (simp [WideAt.IsKeyLit]) | trivial
theorem KI_ne {a b : Int} (h : a ≠ b) : KI a ≠ KI b := fun e => h (by injection e)

/-- The map reads as the totals of l. -/
structure MapIs (D : DataW Value) (l : List Cnt) : Prop where
  map : IsMap D
  has : ∀ k, has D (KI k) = true ↔ pres l k
  key : ∀ kl, Maps.has D kl = true → ∃ k, kl = KI k ∧ okK k
  at_ : ∀ k, pres l k → ∀ zd, D.atKey (KI k) zd = .held (tot l k).val
theorem MapIs.nil : MapIs (.map []) [] := ⟨isMap_empty, fun k => by simp [Maps.has, pres], fun kl h => by simp [Maps.has] at h, fun k h => by simp [pres] at h⟩
theorem MapIs.put {D : DataW Value} {l : List Cnt} (h : MapIs D l) (x : Cnt) (hk : okK x.kind) : MapIs (D.put (KI x.kind) (.held (addC (tot l x.kind) x).val)) (l ++ [x]) where
  map := h.map.put _ _
  has := fun k => by
    rw [pres_snoc]
    by_cases e : k = x.kind
    · subst e
      rw [has_put_same h.map (isKey _)]
      simp
    · rw [has_put_other (KI_ne e), h.has]
      constructor
      · exact .inl
      · rintro (h | h)
        · exact h
        · exact absurd h.symm e
  key := fun kl hkl => by
    by_cases e : kl = KI x.kind
    · exact ⟨_, e, hk⟩
    · rw [has_put_other e] at hkl
      exact h.key kl hkl
  at_ := fun k hp zd => by
    by_cases e : k = x.kind
    · subst e
      rw [atKey_put_same h.map (isKey _), tot_snoc, if_pos rfl]
    · rw [atKey_put_other (KI_ne e), tot_snoc, if_neg (fun h => e h.symm)]
      rw [pres_snoc] at hp
      rcases hp with hp | hp
      · exact h.at_ k hp zd
      · exact absurd hp.symm e
theorem MapIs.got {D : DataW Value} {l : List Cnt} (h : MapIs D l) (k : Int) {v : Value} (hv : ∃ ps, RC v = some (D.atKey (KI k) (.held (Cnt.val ⟨0, 0, 0, 0⟩)), ps)) : ∃ c : Cnt, v = c.val ∧ c.acts = (tot l k).acts ∧ c.errs = (tot l k).errs ∧ c.made = (tot l k).made := by
  obtain ⟨ps, hv⟩ := hv
  obtain ⟨c, rfl, hy⟩ := RC_inv hv
  injection hy with hy _
  by_cases hp : pres l k
  · rw [h.at_ k hp] at hy
    injection hy with hy
    obtain rfl := Cnt.val_inj hy
    exact ⟨_, rfl, rfl, rfl, rfl⟩
  · have hn : Maps.has D (KI k) = false := by
      rw [Bool.eq_false_iff, Ne, h.has]
      exact hp
    rw [atKey_of_not_has hn] at hy
    injection hy with hy
    obtain rfl := Cnt.val_inj hy
    rw [tot_absent hp]
    exact ⟨_, rfl, rfl, rfl, rfl⟩
theorem ownsMap_ext {w w' : World} {P : Program} {k : TypeId} {R : Value → Option (DataW Value × List MemPlace)} {b n : Nat} {D : DataW Value} (h : w.ownsMap P k R b n D) (he : Ext w w') : w'.ownsMap P k R b n D := by
  obtain ⟨es, clock, hb, r⟩ := h
  exact ⟨es, clock, he.heap hb, r⟩
theorem Keep.of_grown {w w' : World} {b : Nat} (h : w.grownBy w' (some b)) : Keep (fun q => q = b) w w' := ⟨h.os, h.tape, h.output, h.size, fun k hk hn => h.block k hk (fun e => hn (by injection e))⟩

set_option maxHeartbeats 1000000 in
theorem plus_c (a b : Cnt) (w : World) (ha : Bd 1000000000000000000 a) (hb : Bd 1000000000000000000 b) : Calls Try.prog 73 #[a.val, b.val] w (Ret (addC a b).val w) := by
  unfold Bd at ha hb
  unfold Cnt.val addC
  go_enter Try.func73, Try.ntmps73
  go_wp2_with fail
  exact bodyPost_ret (v := .agg #[.int .i64 a.kind, .int .i64 (a.acts + b.acts), .int .i64 (a.errs + b.errs), .int .i64 (a.made + b.made)]) (by simp [results, Try.results73, go_sem]) rfl ⟨rfl, (((Ext.refl _).alloc' _).alloc' _).alloc' _⟩
end Go.Proofs.Ytefgjkaoidifbaa
