/-
  The document's pairs (Put, Drop, Find), and an index's: plain facts.
-/
import Derived.Test.YtfoafookodldfaaIdxE
namespace Go.Proofs.Ytfoafookodldfaa
set_option linter.unusedSimpArgs false
set_option linter.unusedVariables false
open Go.RowKit

theorem rk_eq {l : List PairI} (hs : Srt l) {s : ByteArray} {r : Nat} (hr : r ≤ l.length) (h1 : ∀ k (h : k < l.length), k < r → blt l[k].name s = true) (h2 : ∀ k (h : k < l.length), r ≤ k → blt l[k].name s = false) : rk s l = r := by
  obtain ⟨a1, a2, a3⟩ := rk_split hs s
  rcases Nat.lt_trichotomy (rk s l) r with h | h | h
  · have := h1 (rk s l) (by omega) h
    rw [a3 _ (by omega) (Nat.le_refl _)] at this
    cases this
  · exact h
  · have := h2 r (by omega) (Nat.le_refl _)
    rw [a2 _ (by omega) h] at this
    cases this
theorem ne_of_blt {a b : ByteArray} (h : blt a b = true) : a ≠ b := by
  rintro rfl
  rw [blt_irrefl] at h
  cases h
theorem srt_drop {l : List PairI} (hs : Srt l) (r : Nat) : Srt (l.take r ++ l.drop (r + 1)) := by
  unfold Srt at hs ⊢
  refine hs.sublist ?_
  have := (List.Sublist.refl (l.take r)).append (List.drop_sublist_drop_left l (Nat.le_succ r))
  rwa [List.take_append_drop] at this

def rdropK (s : ByteArray) (l : List PairI) : List PairI := l.filter fun p => !decide (p.name = s)
theorem hasK_false_ne {s : ByteArray} {l : List PairI} (hs : Srt l) (hn : hasK s l = false) : ∀ p ∈ l, p.name ≠ s := by
  intro p hp
  obtain ⟨k, hk, rfl⟩ := List.getElem_of_mem hp
  obtain ⟨_, a2, _⟩ := rk_split hs s
  rcases Nat.lt_or_ge k (rk s l) with h | h
  · exact ne_of_blt (a2 k hk h)
  · exact (ne_of_blt (rk_greater hs hn k hk h)).symm
theorem rdropK_no {s : ByteArray} {l : List PairI} (hs : Srt l) (hn : hasK s l = false) : rdropK s l = l := by
  unfold rdropK
  exact List.filter_eq_self.2 fun p hp => by simp [hasK_false_ne hs hn p hp]
theorem hasK_ne {s : ByteArray} {l : List PairI} (hs : Srt l) (hn : hasK s l = true) (k : Nat) (hk : k < l.length) (hkr : k ≠ rk s l) : l[k].name ≠ s := by
  obtain ⟨hr, hname⟩ := hasK_true hn
  rcases Nat.lt_or_gt_of_ne hkr with h | h
  · have := srt_get hs h hr
    rw [hname] at this
    exact ne_of_blt this
  · have := srt_get hs h hk
    rw [hname] at this
    exact (ne_of_blt this).symm
theorem rdropK_yes {s : ByteArray} {l : List PairI} (hs : Srt l) (hn : hasK s l = true) : rdropK s l = l.take (rk s l) ++ l.drop (rk s l + 1) := by
  obtain ⟨hr, hname⟩ := hasK_true hn
  have H := hasK_ne hs hn
  generalize rk s l = r at hr hname H ⊢
  have e : l = l.take r ++ l[r] :: l.drop (r + 1) := by rw [← List.drop_eq_getElem_cons hr, List.take_append_drop]
  unfold rdropK
  conv => lhs; rw [e]
  rw [List.filter_append, List.filter_cons_of_neg (by simp [hname])]
  congr 1
  · refine List.filter_eq_self.2 fun p hp => ?_
    obtain ⟨k, hk, rfl⟩ := List.getElem_of_mem hp
    rw [List.length_take] at hk
    rw [List.getElem_take]
    simp [H k (by omega) (by omega)]
  · refine List.filter_eq_self.2 fun p hp => ?_
    obtain ⟨k, hk, rfl⟩ := List.getElem_of_mem hp
    rw [List.length_drop] at hk
    rw [List.getElem_drop]
    simp [H (r + 1 + k) (by omega) (by omega)]
def dropK (s : ByteArray) (l : List PairI) : List PairI := if hasK s l then l.take (rk s l) ++ l.drop (rk s l + 1) else l
theorem rdropK_eq {s : ByteArray} {l : List PairI} (hs : Srt l) : rdropK s l = dropK s l := by
  unfold dropK
  cases hn : hasK s l with
  | true => rw [rdropK_yes hs hn]; rfl
  | false => rw [rdropK_no hs hn]; rfl
theorem dropK_srt (s : ByteArray) {l : List PairI} (hs : Srt l) : Srt (dropK s l) := by
  unfold dropK
  split
  · exact srt_drop hs _
  · exact hs
theorem dropK_length (s : ByteArray) (l : List PairI) : (dropK s l).length ≤ l.length := by
  unfold dropK
  split
  · simp; omega
  · exact Nat.le_refl _
theorem rdropK_length (s : ByteArray) (l : List PairI) : (rdropK s l).length ≤ l.length := List.length_filter_le _ _
theorem rk_drop {s : ByteArray} {l : List PairI} (hs : Srt l) (hn : hasK s l = true) : rk s (l.take (rk s l) ++ l.drop (rk s l + 1)) = rk s l := by
  obtain ⟨hr, hname⟩ := hasK_true hn
  obtain ⟨a1, a2, a3⟩ := rk_split hs s
  refine rk_eq (srt_drop hs _) (by simp; omega) (fun k h hk => ?_) (fun k h hk => ?_)
  · rw [List.getElem_append_left (by simp; omega), List.getElem_take]
    exact a2 k (by omega) hk
  · have hlt : (l.take (rk s l)).length = rk s l := by simp; omega
    simp only [List.length_append, hlt, List.length_drop] at h
    rw [List.getElem_append_right (by omega), List.getElem_drop]
    exact a3 _ (by omega) (by omega)
def rputK (s : ByteArray) (k : Int) (l : List PairI) : List PairI := (rdropK s l).take (rk s (rdropK s l)) ++ ⟨s, k⟩ :: (rdropK s l).drop (rk s (rdropK s l))
/-- The document's Put and an index's agree on pairs in order. -/
theorem rputK_eq (s : ByteArray) (k : Int) {l : List PairI} (hs : Srt l) : rputK s k l = putK s k l := by
  unfold rputK putK
  cases hn : hasK s l with
  | true =>
    obtain ⟨hr, hname⟩ := hasK_true hn
    rw [rdropK_yes hs hn, rk_drop hs hn, if_pos rfl, List.set_eq_take_append_cons_drop, if_pos hr]
    have hlt : (l.take (rk s l)).length = rk s l := by simp; omega
    rw [List.take_left' hlt, List.drop_left' hlt]
  | false => rw [rdropK_no hs hn]; rfl
/-- a name's place, from the document -/
def rfindK (s : ByteArray) (l : List PairI) : Int := if hasK s l then (rk s l : Int) else -1
theorem rputK_length (s : ByteArray) (k : Int) (l : List PairI) : (rputK s k l).length = (rdropK s l).length + 1 := by
  unfold rputK
  rw [List.length_append, List.length_cons, ← Nat.add_assoc, ← List.length_append, List.take_append_drop]
end Go.Proofs.Ytfoafookodldfaa
