/-
  TreeTells: plain facts; two rows of numbers that grow side by side; its loop.
-/
import Derived.Test.YtjnjamhohnnefaaGreatDoorPkI
import Derived.Test.YtjnjamhohnnefaaGreatDoorPkH
namespace Go.Proofs.YtjnjamhohnnefaaGreatDoor
set_option linter.unusedSimpArgs false
set_option linter.unusedVariables false
open Go.RowKit Go.Sort

theorem nums_up (up : List Int) : (nums up.length).map (upAt up) = up := by
  refine List.ext_getElem (by simp [nums]) fun i h1 h2 => ?_
  simp only [nums, List.getElem_map, List.getElem_range]
  exact upAt_at h2
theorem root_count {up : List Int} {nF : Nat} (h : shapeB up nF = true) : ((nums up.length).filter fun r => upAt up r == 0).length = 1 := by
  unfold shapeB at h
  rw [Bool.and_eq_true, Bool.and_eq_true] at h
  have h1 : up.count 0 = 1 := by have := h.2.1; simp at this; omega
  rw [← List.countP_eq_length_filter]
  have h2 : (nums up.length).countP (fun r => upAt up r == 0) = ((nums up.length).map (upAt up)).countP (fun z => z == 0) := by rw [List.countP_map]; rfl
  rw [h2, nums_up]
  exact h1
/-- The last one of those so far that have none above them. -/
def lastT (up : List Int) (k : Nat) : Int := (((nums up.length).take k).filter fun r => upAt up r == 0).getLastD 0
theorem lastT_step {up : List Int} {k : Nat} (h : k < up.length) : lastT up (k + 1) = if up[k] = 0 then (k : Int) + 1 else lastT up k := by
  unfold lastT
  rw [filter_take h, upAt_at h]
  by_cases h0 : up[k] = 0
  · rw [if_pos h0, if_pos (by simp [h0])]
    simp
  · rw [if_neg h0, if_neg (by simp [h0]), List.append_nil]
theorem lastT_root {up : List Int} {Fl : List (List ClauseI)} (h : checkT up Fl = 0) : lastT up up.length = rootT up Fl := by
  unfold lastT rootT someT
  rw [if_pos h, List.take_of_length_le (by rw [nums_len]; exact Nat.le_refl _)]
  have h1 := root_count (check_zero h).2.1
  match hl : (nums up.length).filter fun r => upAt up r == 0, h1 with
  | [x], _ => rfl
def deepK (up : List Int) (k : Nat) : Int := ((nums up.length).take k).foldl (fun d r => max d (stepsZ up r)) 0
theorem deepK_step {up : List Int} {k : Nat} (h : k < up.length) : deepK up (k + 1) = max (deepK up k) (stepsZ up ((k : Int) + 1)) := by
  unfold deepK
  rw [nums_take h, List.foldl_append]; rfl
theorem deepK_all {up : List Int} {Fl : List (List ClauseI)} (h : checkT up Fl = 0) : deepK up up.length = deepT up Fl := by
  unfold deepK deepT someT
  rw [if_pos h, List.take_of_length_le (by rw [nums_len]; exact Nat.le_refl _), List.filter_eq_self.2 fun _ _ => rfl]
def rowK (up : List Int) (P : Int → Bool) (k : Nat) : List Int := ((nums up.length).take k).filter P
theorem rowK_step {up : List Int} {P : Int → Bool} {k : Nat} (h : k < up.length) : rowK up P (k + 1) = rowK up P k ++ (if P ((k : Int) + 1) then [(k : Int) + 1] else []) := filter_take h
theorem rowK_all {up : List Int} {Fl : List (List ClauseI)} (P : Int → Bool) (h : checkT up Fl = 0) : rowK up P up.length = someT up Fl P := by
  unfold rowK someT
  rw [if_pos h, List.take_of_length_le (by rw [nums_len]; exact Nat.le_refl _)]
theorem rowK_len (up : List Int) (P : Int → Bool) (k : Nat) : (rowK up P k).length ≤ k := by
  have h2 := List.length_filter_le P ((nums up.length).take k)
  rw [List.length_take] at h2
  unfold rowK
  omega
/-- Two rows of numbers that grow side by side. -/
structure TwoZ (W w : World) (v1 v2 : Value) (l1 l2 : List Int) : Prop where
  later : Ext W w
  fst : w.ownsRow W.heap.size 3 1 v1 l1.length (l1.map intC).flatten
  snd : w.ownsRow W.heap.size 3 1 v2 l2.length (l2.map intC).flatten
  apart : ∀ a, v1.ownBlock = some a → v2.ownBlock ≠ some a
theorem TwoZ.symm {W w : World} {v1 v2 : Value} {l1 l2 : List Int} (h : TwoZ W w v1 v2 l1 l2) : TwoZ W w v2 v1 l2 l1 := ⟨h.later, h.snd, h.fst, fun a h1 h2 => h.apart a h2 h1⟩
theorem TwoZ.ext {W w w' : World} {v1 v2 : Value} {l1 l2 : List Int} (h : TwoZ W w v1 v2 l1 l2) (he : Ext w w') : TwoZ W w' v1 v2 l1 l2 := ⟨h.later.trans he, ownsRow_ext h.fst he, ownsRow_ext h.snd he, h.apart⟩
theorem TwoZ.nil (W : World) : TwoZ W W (.slice none 0 0) (.slice none 0 0) [] [] := ⟨Ext.refl _, ownsRow_nil _ _ _ _, ownsRow_nil _ _ _ _, fun a h => by cases h⟩
theorem TwoZ.push {W w : World} {v1 v2 : Value} {l1 l2 : List Int} (h : TwoZ W w v1 v2 l1 l2) (x : Int) (hl : l1.length ≤ 1000) : ∃ v' w', (Builtin.append_ #[22, 22] 22 #[v1, .slice (some ⟨w.heap.size, 0, none⟩) 1 1]).run Tryz.prog (w.alloc (.cells #[.int .i64 x] 3)) = .ok v' w' ∧ TwoZ W w' v' v2 (l1 ++ [x]) l2 := by
  obtain ⟨v', w', hrun, ho, hk, hbl⟩ := app_one (P := Tryz.prog) int_elem int_coded h.fst h.later.size x (by omega) (by omega)
  refine ⟨v', w', hrun, hk.toExt h.later (fun q hq => (row_block h.fst q hq).1), ho, ownsRow_keep h.snd hk (fun q hq hq' => h.apart q hq' hq), fun a ha h2 => ?_⟩
  rcases hbl with hb | hb
  · exact h.apart a (by rw [← hb]; exact ha) h2
  · have := (row_block h.snd a h2).2
    have := hb a ha
    omega
theorem TwoZ.sl {W w : World} {v1 v2 : Value} {l1 l2 : List Int} (h : TwoZ W w v1 v2 l1 l2) : Sl w 1 v1 (Ints l1) ∧ Sl w 1 v2 (Ints l2) := by
  have h1 := sl_of_row (xs := l1.map intC) (int_coded.sizes _) (by rw [List.length_map]; exact h.fst)
  have h2 := sl_of_row (xs := l2.map intC) (int_coded.sizes _) (by rw [List.length_map]; exact h.snd)
  exact ⟨h1, h2⟩
end Go.Proofs.YtjnjamhohnnefaaGreatDoor
