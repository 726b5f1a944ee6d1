/-
  Which names begin so, which are covered: plain facts about names in order.
-/
import Derived.Test.YtfoafookodldfaaIdxH
namespace Go.Proofs.Ytfoafookodldfaa
set_option linter.unusedSimpArgs false
set_option linter.unusedVariables false
open Go.RowKit

theorem less_pre : ∀ (s t : List UInt8), s <+: t → Op.bytesLess t s = false
  | [], t, _ => by cases t <;> rfl
  | a :: s, [], h => by simp at h
  | a :: s, b :: t, h => by
    obtain ⟨e, h'⟩ := List.cons_prefix_cons.1 h
    subst e
    simp [Op.bytesLess, less_pre s t h']
theorem pre_mid : ∀ (s t u : List UInt8), Op.bytesLess t s = false → Op.bytesLess t u = true → s <+: u → s <+: t
  | [], t, u, _, _, _ => List.nil_prefix
  | a :: s, t, [], _, _, h => by simp at h
  | a :: s, [], b :: u, h, _, _ => by simp [Op.bytesLess] at h
  | a :: s, c :: t, b :: u, h1, h2, h3 => by
    obtain ⟨e, h4⟩ := List.cons_prefix_cons.1 h3
    subst e
    simp only [Op.bytesLess, Bool.or_eq_false_iff, Bool.and_eq_false_iff, decide_eq_false_iff_not, Bool.or_eq_true, Bool.and_eq_true, decide_eq_true_eq, beq_iff_eq, beq_eq_false_iff_ne] at h1 h2
    obtain ⟨h1a, h1b⟩ := h1
    rcases h2 with h2 | ⟨rfl, h2⟩
    · exact absurd h2 h1a
    · rcases h1b with h1b | h1b
      · exact absurd rfl h1b
      · exact List.cons_prefix_cons.2 ⟨rfl, pre_mid s t u h1b h2 h4⟩
theorem extract_toList (t : ByteArray) (n : Nat) : (t.extract 0 n).toList = t.toList.take n := by
  rw [Lib.toList_data, Lib.toList_data, ByteArray.data_extract, Array.toList_extract, List.extract_eq_take_drop, List.drop_zero, Nat.sub_zero]
theorem size_toList (t : ByteArray) : t.toList.length = t.size := by
  rw [Lib.toList_data, Array.length_toList]; rfl
theorem hpre_iff (t p : ByteArray) : hpre t p = true ↔ p.toList <+: t.toList := by
  unfold hpre
  rw [extract_toList, Bool.and_eq_true, decide_eq_true_eq, beq_iff_eq, ← size_toList p, ← size_toList t]
  constructor
  · rintro ⟨_, h⟩
    rw [← h]
    exact List.take_prefix _ _
  · intro h
    exact ⟨h.length_le, (List.prefix_iff_eq_take.1 h).symm⟩
theorem cov_hpre {s t : ByteArray} (h : cov s t = true) : hpre t s = true := by
  rw [hpre_iff]
  unfold cov at h
  simp only [Bool.or_eq_true, List.isEmpty_iff, beq_iff_eq] at h
  rcases h with (h | h) | h
  · rw [h]; exact List.nil_prefix
  · rw [h]; exact List.prefix_refl _
  · rw [hpre_iff] at h
    refine List.IsPrefix.trans ?_ h
    rw [Lib.toList_data, Lib.toList_data, ByteArray.data_append, Array.toList_append]
    exact List.prefix_append _ _
/-- all that have a thing begin so: those from a place on, as long as they begin so, are those of all -/
theorem rest_all {l : List PairI} (hs : Srt l) (s : ByteArray) (want : ByteArray → Bool) (hw : ∀ t, want t = true → hpre t s = true) : restK (fun t => hpre t s) want l (rk s l) = (l.filter fun p => want p.name).map (·.name) := by
  obtain ⟨a1, a2, a3⟩ := rk_split hs s
  have h0 : (l.filter fun p => want p.name) = ((l.drop (rk s l)).filter fun p => want p.name) := by
    conv => lhs; rw [← List.take_append_drop (rk s l) l]
    rw [List.filter_append]
    have : (l.take (rk s l)).filter (fun p => want p.name) = [] := by
      rw [List.filter_eq_nil_iff]
      intro p hp hwp
      obtain ⟨k, hk, rfl⟩ := List.getElem_of_mem hp
      rw [List.length_take] at hk
      rw [List.getElem_take] at hwp
      have h1 := a2 k (by omega) (by omega)
      have h2 := less_pre _ _ ((hpre_iff _ _).1 (hw _ hwp))
      unfold blt at h1
      rw [h1] at h2
      cases h2
    rw [this, List.nil_append]
  unfold restK
  rw [h0]
  congr 1
  have hsd : Srt (l.drop (rk s l)) := by unfold Srt at hs ⊢; exact hs.sublist (List.drop_sublist _ _)
  have hge : ∀ p ∈ l.drop (rk s l), blt p.name s = false := by
    intro p hp
    obtain ⟨k, hk, rfl⟩ := List.getElem_of_mem hp
    rw [List.length_drop] at hk
    rw [List.getElem_drop]
    exact a3 _ (by omega) (by omega)
  generalize l.drop (rk s l) = m at hsd hge
  clear h0 a1 a2 a3 hs
  induction m with
  | nil => rfl
  | cons x m ih =>
    have hc := List.pairwise_cons.1 hsd
    cases hx : hpre x.name s with
    | true =>
      rw [List.takeWhile_cons, if_pos hx, List.filter_cons, List.filter_cons, ih hc.2 fun p hp => hge p (by simp [hp])]
    | false =>
      rw [List.takeWhile_cons, if_neg (by simp [hx])]
      symm
      show List.filter _ (x :: m) = []
      rw [List.filter_eq_nil_iff]
      intro p hp hwp
      have h1 := (hpre_iff _ _).1 (hw _ hwp)
      rcases List.mem_cons.1 hp with rfl | hp
      · rw [hw _ hwp] at hx; cases hx
      · have h2 := hge x (by simp)
        have h3 := hc.1 p hp
        have := (hpre_iff _ _).2 (pre_mid _ _ _ h2 h3 h1)
        rw [hx] at this
        cases this
theorem underK_all {l : List PairI} (hs : Srt l) (s : ByteArray) : underK s l = (l.filter fun p => cov s p.name).map (·.name) := rest_all hs s _ fun _ h => cov_hpre h
theorem beginsK_all {l : List PairI} (hs : Srt l) (s : ByteArray) : beginsK s l = (l.filter fun p => hpre p.name s).map (·.name) := rest_all hs s _ fun _ h => h
end Go.Proofs.Ytfoafookodldfaa
