/-
  Paths: Covers, the document's Covers (out of XPaA).
-/
import Derived.Test.YtggbkjmedoooaaaGreatDoorProg
import Derived.Test.YtggbkjmedoooaaaGreatDoorBase
import Derived.Test.YtggbkjmedoooaaaGreatDoorStr
namespace Go.Proofs.YtggbkjmedoooaaaGreatDoor
set_option linter.unusedSimpArgs false
set_option linter.unusedVariables false
open Go.RowKit

/-- the text begins so -/
def hpre (t p : ByteArray) : Bool := decide (p.size ≤ t.size) && ((t.extract 0 p.size).toList == p.toList)
set_option maxHeartbeats 1000000 in
theorem shas_c (t p : ByteArray) (w : World) (ht : t.size ≤ maxLen) (hp : p.size ≤ maxLen) : Calls Tryz.prog 100 #[.string t, .string p] w (fun e w' => e = .returned (.bool (hpre t p)) ∧ w = w') := by
  unfold hpre
  unfold maxLen at ht hp
  go_enter Tryz.func100, Tryz.ntmps100
  go_wp2
  all_goals go_ret
  all_goals simp_all
  all_goals (intros; omega)
set_option maxHeartbeats 1000000 in
theorem has_c (t p : ByteArray) (w : World) (ht : t.size ≤ maxLen) (hp : p.size ≤ maxLen) : Calls Tryz.prog 76 #[.string t, .string p] w (fun e w' => e = .returned (.bool (hpre t p)) ∧ w = w') := by
  go_enter Tryz.func76, Tryz.ntmps76
  go_wp2_with (go_at_call 100; refine (shas_c _ _ _ ht hp).mono ?_; rintro e w' ⟨rfl, rfl⟩)
  go_ret
  exact ⟨rfl, rfl⟩
/-- one path covers another one -/
def cov (p s : ByteArray) : Bool := p.toList.isEmpty || (s.toList == p.toList) || hpre s (p ++ ⟨#[47]⟩)
set_option maxHeartbeats 1000000 in
theorem pcovers_c (p s : ByteArray) (w : World) (hs : s.size ≤ maxLen) (hp : p.size + 1 ≤ maxLen) : Calls Tryz.prog 61 #[.string p, .string s] w (fun e w' => e = .returned (.bool (cov p s)) ∧ w = w') := by
  unfold cov
  have hq : (p ++ ⟨#[47]⟩ : ByteArray).size ≤ maxLen := by rw [ByteArray.size_append]; exact hp
  have hp' : p.size + 1 ≤ 9223372036854775807 := by unfold maxLen at hp; omega
  go_enter Tryz.func61, Tryz.ntmps61
  go_wp2_with (go_at_call 76; refine (has_c _ _ _ hs hq).mono ?_; rintro e w' ⟨rfl, rfl⟩)
  all_goals go_ret
  all_goals simp_all
theorem extract_toList (t : ByteArray) (n : Nat) : (t.extract 0 n).toList = t.toList.take n := by
  rw [Lib.toList_data, Lib.toList_data, ByteArray.data_extract, Array.toList_extract, List.extract_eq_take_drop, List.drop_zero, Nat.sub_zero]
theorem size_toList (t : ByteArray) : t.toList.length = t.size := by
  rw [Lib.toList_data, Array.length_toList]; rfl
theorem hpre_iff (t p : ByteArray) : hpre t p = true ↔ p.toList <+: t.toList := by
  unfold hpre
  rw [extract_toList, Bool.and_eq_true, decide_eq_true_eq, beq_iff_eq, ← size_toList p, ← size_toList t]
  constructor
  · rintro ⟨_, h⟩
    rw [← h]
    exact List.take_prefix _ _
  · intro h
    exact ⟨h.length_le, (List.prefix_iff_eq_take.1 h).symm⟩
theorem cov_iff (p s : ByteArray) : cov p s = true ↔ p.toList = [] ∨ s.toList = p.toList ∨ (p.toList ++ [47]) <+: s.toList := by
  have e : (p ++ ⟨#[47]⟩ : ByteArray).toList = p.toList ++ [47] := by
    rw [Lib.toList_data, Lib.toList_data, ByteArray.data_append, Array.toList_append]
  unfold cov
  rw [Bool.or_eq_true, Bool.or_eq_true, hpre_iff, e, List.isEmpty_iff, beq_iff_eq]
  constructor
  · rintro ((h | h) | h)
    · exact .inl h
    · exact .inr (.inl h)
    · exact .inr (.inr h)
  · rintro (h | h | h)
    · exact .inl (.inl h)
    · exact .inl (.inr h)
    · exact .inr h
theorem cov_trans {p q t : ByteArray} (h1 : cov p q = true) (h2 : cov q t = true) : cov p t = true := by
  rw [cov_iff] at *
  rcases h1 with h1 | h1 | h1
  · exact .inl h1
  · rw [h1] at h2; exact h2
  · rcases h2 with h2 | h2 | h2
    · rw [h2] at h1
      have := h1.length_le
      simp at this
    · rw [h2]; exact .inr (.inr h1)
    · exact .inr (.inr (h1.trans ((List.prefix_append _ _).trans h2)))
theorem snoc_pre {P S : List UInt8} {c : UInt8} : (P ++ [c]) <+: S ↔ S.take P.length = P ∧ S[P.length]? = some c := by
  constructor
  · rintro ⟨t, rfl⟩
    rw [List.append_assoc]
    exact ⟨List.take_left, by simp⟩
  · rintro ⟨h1, h2⟩
    obtain ⟨hlt, h3⟩ := List.getElem?_eq_some_iff.1 h2
    have h4 : S.take (P.length + 1) = P ++ [c] := by rw [List.take_succ_eq_append_getElem hlt, h1, h3]
    rw [← h4]
    exact List.take_prefix _ _
theorem get_toList (s : ByteArray) (i : Nat) (h : i < s.size) : s.toList[i]? = some s[i] := by
  rw [Lib.toList_data, Array.getElem?_toList]
  exact Array.getElem?_eq_getElem h
theorem cov_slash (p s : ByteArray) : hpre s (p ++ ⟨#[47]⟩) = true ↔ (s.extract 0 p.size).toList = p.toList ∧ s.toList[p.size]? = some 47 := by
  rw [hpre_iff, extract_toList]
  have e : (p ++ ⟨#[47]⟩ : ByteArray).toList = p.toList ++ [47] := by
    rw [Lib.toList_data, Lib.toList_data, ByteArray.data_append, Array.toList_append]
  rw [e, snoc_pre, size_toList]
theorem cov_of_empty {p s : ByteArray} (h : p.toList.isEmpty = true ∨ (p.toList == s.toList) = true) : cov p s = true := by
  unfold cov
  rcases h with h | h
  · rw [h]; rfl
  · rw [show (s.toList == p.toList) = true by simp at h ⊢; exact h.symm]; simp
theorem cov_no {p s : ByteArray} (h1 : p.toList.isEmpty = false) (h2 : (p.toList == s.toList) = false) : cov p s = hpre s (p ++ ⟨#[47]⟩) := by
  unfold cov
  rw [h1, show (s.toList == p.toList) = false by simp at h2 ⊢; exact fun h => h2 h.symm]
  rfl
theorem cov_at {p s : ByteArray} (h1 : p.toList.isEmpty = false) (h2 : (p.toList == s.toList) = false) (h3 : p.size < s.size) (h4 : (s.extract 0 p.size).toList = p.toList) : cov p s = ((s[p.size].toNat : Int) == 47) := by
  rw [cov_no h1 h2, Bool.eq_iff_iff, cov_slash, get_toList s _ h3]
  simp only [h4, true_and, Option.some.injEq, beq_iff_eq]
  constructor
  · intro h; rw [h]; rfl
  · intro h
    have h5 : s[p.size].toNat = 47 := by omega
    exact UInt8.toNat_inj.1 h5
theorem cov_off {p s : ByteArray} (h1 : p.toList.isEmpty = false) (h2 : (p.toList == s.toList) = false) (h3 : ¬ p.size < s.size ∨ ¬ (s.extract 0 p.size).toList = p.toList) : cov p s = false := by
  rw [cov_no h1 h2]
  cases hh : hpre s (p ++ ⟨#[47]⟩) with
  | false => rfl
  | true =>
    obtain ⟨a1, a2⟩ := (cov_slash p s).1 hh
    rcases h3 with h3 | h3
    · have := (List.getElem?_eq_some_iff.1 a2).1
      rw [size_toList] at this
      exact absurd this h3
    · exact absurd a1 h3
set_option maxRecDepth 100000 in
set_option maxHeartbeats 1000000 in
theorem rcovers_c (p s : ByteArray) (w : World) (hs : s.size ≤ maxLen) (hp : p.size ≤ maxLen) : Calls Tryz.prog 48 #[.string p, .string s] w (fun e w' => e = .returned (.bool (cov p s)) ∧ w = w') := by
  unfold maxLen at hs hp
  have K1 : Hid (p.toList.isEmpty = true ∨ (p.toList == s.toList) = true → cov p s = true) := cov_of_empty
  have K2 : Hid (∀ h3 : p.size < s.size, p.toList.isEmpty = false ∧ (p.toList == s.toList) = false → (s.extract 0 p.size).toList = p.toList → cov p s = ((s[p.size].toNat : Int) == 47)) := fun h3 h h4 => cov_at h.1 h.2 h3 h4
  have K3 : Hid (p.toList.isEmpty = false ∧ (p.toList == s.toList) = false → (¬ p.size < s.size ∨ ¬ (s.extract 0 p.size).toList = p.toList) → cov p s = false) := fun h h3 => cov_off h.1 h.2 h3
  generalize cov p s = z at K1 K2 K3
  go_enter Tryz.func48, Tryz.ntmps48
  go_wp2
  · obtain rfl := K1.out (.inl (by simp [*]))
    go_ret
    exact ⟨rfl, rfl⟩
  · obtain rfl := K1.out (by assumption)
    go_ret
    exact ⟨rfl, rfl⟩
  · have := K2.out (by assumption) (by assumption) (by assumption)
    go_ret
    subst this
    exact ⟨rfl, rfl⟩
  · obtain rfl := K3.out (by assumption) (.inr (by assumption))
    go_ret
    exact ⟨rfl, rfl⟩
  · obtain rfl := K3.out (by assumption) (.inl (by assumption))
    go_ret
    exact ⟨rfl, rfl⟩
end Go.Proofs.YtggbkjmedoooaaaGreatDoor
