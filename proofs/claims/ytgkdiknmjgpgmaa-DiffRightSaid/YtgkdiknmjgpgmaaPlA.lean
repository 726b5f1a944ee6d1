/-
  diff.Play: a map of texts; its closures.
-/
import Derived.Test.YtgkdiknmjgpgmaaDfI
import Derived.Maps.Own
import Derived.Maps.OwnSet
import Derived.Maps.RangeWalk
import Derived.Maps.StringElems
import Derived.StringKeys
namespace Go.Proofs.Ytgkdiknmjgpgmaa
set_option linter.unusedSimpArgs false
set_option linter.unusedVariables false
open Go.RowKit Go.Maps Go.ChangeMaps

abbrev KS (s : ByteArray) : Lit := .string s.data.toList
noncomputable abbrev RS : Value → Option (DataW Value × List MemPlace) := plainElem Try.prog 9
theorem sLaw : Keyed Try.prog 9 := string_keyed Try.underlying9
theorem keyS {s : ByteArray} (h : s.size ≤ 1000) : keyOf Try.prog 9 (.string s) = some (KS s) := WideMaps.keyOf_string_mk Try.underlying9 (by unfold maxLen; omega)
theorem valS {s : ByteArray} (h : s.size ≤ 1000) : RS (.string s) = some (.lit (.string s.data.toList), []) := plainElem_string Try.underlying9 (by unfold maxLen; omega)
theorem isKeyS (s : ByteArray) : WideAt.IsKeyLit (KS s) := by first | exact .string _ | (simp [WideAt.IsKeyLit]) | trivial
theorem KS_inj {a b : ByteArray} (h : KS a = KS b) : a = b := by
  injection h with h
  exact ByteArray.ext (Array.toList_inj.1 h)
theorem KS_ne {a b : ByteArray} (h : a ≠ b) : KS a ≠ KS b := fun e => h (KS_inj e)
theorem zeroS (w : World) : (zeroValue 9).run Try.prog w = .ok (.string ⟨#[]⟩) w := by kernel_rfl
/-- The map reads as m, whose texts are short. -/
structure SIs (D : DataW Value) (m : SMap) : Prop where
  map : IsMap D
  has : ∀ k, Maps.has D (KS k) = (m k).isSome
  key : ∀ kl, Maps.has D kl = true → ∃ k, kl = KS k
  at_ : ∀ k v, m k = some v → ∀ zd, D.atKey (KS k) zd = .lit (KS v)
  sz : ∀ k v, m k = some v → k.size ≤ 1000 ∧ v.size ≤ 1000
theorem SIs.nil : SIs (.map []) (fun _ => none) := ⟨isMap_empty, fun k => by simp [Maps.has], fun kl h => by simp [Maps.has] at h, fun k v h => (by cases h), fun k v h => (by cases h)⟩
theorem SIs.put {D : DataW Value} {m : SMap} (h : SIs D m) {k v : ByteArray} (hk : k.size ≤ 1000) (hv : v.size ≤ 1000) : SIs (D.put (KS k) (.lit (KS v))) (putM m k v) where
  map := h.map.put _ _
  has := fun n => by
    unfold putM
    by_cases e : n = k
    · subst e; rw [has_put_same h.map (isKeyS _), if_pos rfl]; rfl
    · rw [has_put_other (KS_ne e), h.has, if_neg e]
  key := fun kl hkl => by
    by_cases e : kl = KS k
    · exact ⟨_, e⟩
    · rw [has_put_other e] at hkl
      exact h.key kl hkl
  at_ := fun n u hn zd => by
    unfold putM at hn
    by_cases e : n = k
    · subst e; rw [if_pos rfl] at hn; injection hn with hn; subst hn; rw [atKey_put_same h.map (isKeyS _)]
    · rw [if_neg e] at hn; rw [atKey_put_other (KS_ne e)]; exact h.at_ n u hn zd
  sz := fun n u hn => by
    unfold putM at hn
    by_cases e : n = k
    · subst e; rw [if_pos rfl] at hn; injection hn with hn; subst hn; exact ⟨hk, hv⟩
    · rw [if_neg e] at hn; exact h.sz n u hn
theorem SIs.del {D : DataW Value} {m : SMap} (h : SIs D m) (k : ByteArray) : SIs (D.del (KS k)) (delM m k) where
  map := h.map.del _
  has := fun n => by
    unfold delM
    by_cases e : n = k
    · subst e; rw [has_del_same, if_pos rfl]; rfl
    · rw [has_del_other (KS_ne e), h.has, if_neg e]
  key := fun kl hkl => by
    by_cases e : kl = KS k
    · exact ⟨_, e⟩
    · rw [has_del_other e] at hkl
      exact h.key kl hkl
  at_ := fun n u hn zd => by
    unfold delM at hn
    by_cases e : n = k
    · rw [if_pos e] at hn; cases hn
    · rw [if_neg e] at hn; rw [atKey_del_other (KS_ne e)]; exact h.at_ n u hn zd
  sz := fun n u hn => by
    unfold delM at hn
    by_cases e : n = k
    · rw [if_pos e] at hn; cases hn
    · rw [if_neg e] at hn; exact h.sz n u hn
theorem getM_size {D : DataW Value} {m : SMap} (h : SIs D m) (k : ByteArray) : (getM m k).size ≤ 1000 := by
  unfold getM
  cases e : m k with
  | none => exact Nat.zero_le _
  | some v => exact (h.sz k v e).2
set_option maxRecDepth 100000 in
/-- A look-up. -/
theorem SIs.look {w : World} {b n : Nat} {D : DataW Value} {m : SMap} (h : SIs D m) (ho : w.ownsMap Try.prog 9 RS b n D) {k : ByteArray} (hk : k.size ≤ 1000) : (Instr.lookup 72 (.map (some b)) (.string k) false).run Try.prog w = .ok (.string (getM m k)) w := by
  obtain ⟨v, ps, hrun, hv⟩ := ho.lookup sLaw Try.underlying72 (zeroS w) (zd := .lit (.string [])) (zp := []) (valS (s := ⟨#[]⟩) (Nat.zero_le _)) (keyS hk)
  obtain ⟨s, rfl, hs, _⟩ := plainElem_string_inv Try.underlying9 hv
  rw [hrun]
  have e : getM m k = s := by
    unfold getM
    injection hs with hs _
    cases e : m k with
    | none =>
      have := h.has k
      rw [e] at this
      rw [atKey_of_not_has this] at hs
      injection hs with hs
      injection hs with hs
      exact ByteArray.ext (Array.toList_inj.1 hs)
    | some v =>
      rw [h.at_ k v e] at hs
      injection hs with hs
      exact KS_inj hs
  rw [e]
theorem Keep.of_grownR {w w' : World} {b : Nat} (h : w.grownBy w' (some b)) : Keep (fun q => q = b) w w' := ⟨h.os, h.tape, h.output, h.size, fun k hk hn => h.block k hk (fun e => hn (by injection e))⟩
theorem Keep.of_turned {w w' : World} {b : Nat} (h : w.mapTurned w' b) : Keep (fun q => q = b) w w' := by
  obtain ⟨es, c, es', c', hb, rfl⟩ := h
  exact ⟨rfl, rfl, rfl, by simp [setBlock], fun k hk hn => heap_setBlock_other hb _ hn⟩
end Go.Proofs.Ytgkdiknmjgpgmaa
