/-
  slices.Sort of texts, in the words of these texts.
-/
import Derived.Test.YtggbkjmedoooaaaGreatDoorStC
import Derived.Test.YtggbkjmedoooaaaGreatDoorSoT
namespace Go.Proofs.YtggbkjmedoooaaaGreatDoor
set_option linter.unusedSimpArgs false
set_option linter.unusedVariables false
open Go.RowKit Go.Sort

def mkB (l : List UInt8) : ByteArray := ⟨l.toArray⟩
theorem mkB_toList (s : ByteArray) : mkB s.data.toList = s := by unfold mkB; rfl
theorem toList_mkB (l : List UInt8) : (mkB l).data.toList = l := by unfold mkB; simp
theorem flatS (l : List ByteArray) : (l.map strC).flatten = l.map .string := by
  induction l with
  | nil => rfl
  | cons x l ih => rw [List.map_cons, List.flatten_cons, ih]; rfl
theorem sortS_c {w : World} {B : Nat} {v : Value} {l : List ByteArray} (h : w.ownsRow B 9 1 v l.length (l.map strC).flatten) (hl : l.length ≤ 1000000) :
    Calls Tryz.prog 57 #[v] w fun en w' => en = .returned (.tuple #[]) ∧ Keep (fun q => v.ownBlock = some q) w w' ∧ ∃ l' : List ByteArray, l'.Perm l ∧ l'.Pairwise (fun x y => blt y x = false) ∧ w'.ownsRow B 9 1 v l'.length (l'.map strC).flatten := by
  rcases h.2 with ⟨rfl, h0⟩ | ⟨g, cap, cs, rfl, hb, hg, h2, h3, h4, h5⟩
  · have : l = [] := List.eq_nil_of_length_eq_zero h0
    subst this
    exact (Tryz.slices_Sort_string_none none 0 w).mono fun en w' ⟨he, hw⟩ => ⟨he, hw ▸ Keep.refl _ _, [], List.Perm.refl _, List.Pairwise.nil, hw ▸ h⟩
  · have hB : Blk w g 9 cs := hg
    rw [flatS, Nat.mul_one] at h5
    rw [Nat.mul_one] at h4
    obtain ⟨ss, hss⟩ : ∃ ss, ss = l.map (fun s => s.data.toList) := ⟨_, rfl⟩
    have hsl : ss.length = l.length := by rw [hss, List.length_map]
    have hH : Holds encStr w g 0 ss.toArray := fun j hj => by
      have hj' : j < l.length := by rw [← hsl]; simpa using hj
      refine ⟨?_, hB.frozen _⟩
      rw [Nat.zero_add]
      refine hB.cell ?_
      have e1 : (cs.toList.take l.length)[j]? = (l.map Value.string)[j]? := by rw [h5]
      rw [List.getElem?_take, if_pos hj', Array.getElem?_toList] at e1
      rw [e1, getElem!_pos _ j hj, List.getElem?_map, List.getElem?_eq_getElem hj']
      simp only [Option.map_some, hss, List.getElem_toArray, List.getElem_map]
    have hcon := Tryz.slices_Sort_string g 0 cap ss w hH hB.lt (by omega)
    rw [hsl] at hcon
    refine hcon.mono fun en w' ⟨he, n, os, hw⟩ => ?_
    subst hw
    obtain ⟨d, hd⟩ : ∃ d, d = ss.mergeSort fun x y => decide (x ≤ y) := ⟨_, rfl⟩
    have hp : d.Perm ss := by rw [hd]; exact List.mergeSort_perm _ _
    have hdl : d.length = l.length := by rw [hp.length_eq, hsl]
    have hsrt : d.Pairwise fun a b => decide (a ≤ b) = true := by
      rw [hd]
      exact List.pairwise_mergeSort (fun a b c h1 h2 => by simp only [decide_eq_true_eq] at *; exact List.le_trans h1 h2) (fun a b => by
        rcases List.le_total a b with h | h
        · simp [h]
        · simp [h]) ss
    rw [← hd]
    have hlt := hB.lt
    refine ⟨he, ⟨rfl, rfl, rfl, ?_, fun q hq hn => ?_⟩, d.map mkB, ?_, ?_, ?_⟩
    · simp [grow, putRow, mapBlock, Sort.ahead]
    · have hne : ¬ g = q := fun h => hn (by rw [h]; rfl)
      show ((w.heap.modify g (onCells (putCells encStr 0 d.toArray))) ++ os)[q]? = w.heap[q]?
      rw [Array.getElem?_append_left (by simpa using hq), Array.getElem?_modify, if_neg hne]
    · have := hp.map mkB
      rw [hss, List.map_map] at this
      have e : (mkB ∘ fun s : ByteArray => s.data.toList) = id := by funext s; exact mkB_toList s
      rw [e, List.map_id] at this
      exact this
    · rw [List.pairwise_map]
      refine hsrt.imp fun {a b} hab => ?_
      simp only [decide_eq_true_eq] at hab
      cases hc : blt (mkB b) (mkB a) with
      | false => rfl
      | true =>
        rw [blt_iff, Lib.toList_data, Lib.toList_data, toList_mkB, toList_mkB] at hc
        exact absurd hc (List.not_lt.2 hab)
    · refine ⟨by rw [flatS]; simp, .inr ⟨g, cap, putCells encStr 0 d.toArray cs, ?_, hb, ?_, ?_, h3, ?_, ?_⟩⟩
      · rw [List.length_map, hdl]
      · show ((w.heap.modify g (onCells (putCells encStr 0 d.toArray))) ++ os)[g]? = _
        unfold Blk at hB
        rw [Array.getElem?_append_left (by simpa using hlt), Array.getElem?_modify, if_pos rfl, hB]
        rfl
      · rw [List.length_map, hdl]; exact h2
      · rw [Nat.mul_one]; simp [putCells, h4]
      · rw [flatS, Nat.mul_one, List.length_map]
        refine List.ext_getElem? fun t => ?_
        rw [List.getElem?_take]
        by_cases ht : t < d.length
        · have h2c : t < cs.size := by omega
          rw [if_pos ht, Array.getElem?_toList]
          unfold putCells
          rw [Array.getElem?_mapIdx, Array.getElem?_eq_getElem h2c]
          have h1 : t < d.toArray.size := by simpa using ht
          simp only [Option.map_some, Nat.zero_le, Nat.zero_add, true_and, h1, if_true, Nat.sub_zero]
          rw [getElem!_pos _ t h1, List.map_map, List.getElem?_map, List.getElem?_eq_getElem ht]
          simp [mkB]
        · rw [if_neg ht, List.getElem?_eq_none (by simp; omega)]
end Go.Proofs.YtggbkjmedoooaaaGreatDoor
