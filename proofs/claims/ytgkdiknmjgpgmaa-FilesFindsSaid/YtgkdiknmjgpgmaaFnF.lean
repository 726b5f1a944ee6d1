/-
  slices.SortStableFunc at leaves: fewer than 20.
-/
import Derived.Test.YtgkdiknmjgpgmaaFnE
namespace Go.Proofs.Ytgkdiknmjgpgmaa
set_option linter.unusedSimpArgs false
set_option linter.unusedVariables false
open Go.RowKit Go.Sort

/-- Ordered by names between two places. -/
def NameUp (a b : Nat) (l : List LeafI) : Prop := ∀ i j (hi : i < l.length) (hj : j < l.length), a ≤ i → i < j → j < b → blt l[j].name l[i].name = false
def Swaps (w : World) (B : Nat) (v : Value) (l : List LeafI) (Q : List LeafI → Prop) : Ending → World → Prop := fun en w' => en = .returned (.tuple #[]) ∧ Keep (fun q => v.ownBlock = some q) w w' ∧ ∃ l' : List LeafI, l'.Perm l ∧ Q l' ∧ w'.ownsRow B 35 5 v l'.length (l'.map LeafI.cells).flatten
theorem ins_c {w : World} {B : Nat} {v : Value} {l : List LeafI} (h : w.ownsRow B 35 5 v l.length (l.map LeafI.cells).flatten) (hl : l.length ≤ 1000000) (a b : Nat) (hab : a ≤ b) (hb : b ≤ l.length) :
    Calls Try.prog 77 #[v, .int .i64 a, .int .i64 b, .func (.func 42) #[] #[]] w (Swaps w B v l (NameUp a b)) := by
  rcases h.2 with ⟨rfl, h0⟩ | ⟨g, cap, cs, rfl, hb', hg, h2, h3, h4, h5⟩
  · have : l = [] := List.eq_nil_of_length_eq_zero h0
    subst this
    obtain rfl : b = 0 := by simpa using hb
    obtain rfl : a = 0 := by omega
    exact (AnyF.insertionSortCmpFunc_none Try.insLeaf none 0 _ w).mono fun en w' ⟨he, hw⟩ => ⟨he, hw ▸ Keep.refl _ _, [], List.Perm.refl _, fun i j hi => absurd hi (by simp), hw ▸ h⟩
  · have hB : Blk w g 35 cs := hg
    have ht : cs.toList.take (l.toArray.size * 5) = (l.toArray.toList.map LeafI.cells).flatten := by simpa using h5
    have hH := holdsK_of leaf_coded.len hB ht
    have hsz : l.toArray.size * 5 ≤ cs.size := by
      rw [h4]
      exact Nat.mul_le_mul_right _ (by simpa using h2)
    have hcon := AnyQ.insertionSortCmpFunc Try.insLeaf 5 Try.isAgg35 Try.sizeOf35 LeafI.cells leaf_coded.len leaf_coded.one D.cmpL 42 #[] g 0 cap a b l.toArray w (fun _ _ => run_callFunc Try.func42 (by kernel_rfl) (by kernel_rfl)) (fun m os dk _ x y => D.leaf2_g x y _) hH hB.lt hab (by simpa using hb) (by simp; omega)
    refine hcon.mono fun en w' ⟨he, n, os, hw⟩ => ?_
    subst hw
    have hin := insertionSort_holds (lt := ltOf D.cmpL) swo_leaf l.toArray a b hab (by simpa using hb)
    obtain ⟨d', hd'⟩ : ∃ d', d' = Go.Sort.insertionSort (ltOf D.cmpL) l.toArray a b := ⟨_, rfl⟩
    rw [← hd'] at hin ⊢
    obtain ⟨hp, hs⟩ := hin
    have hp0 := permIn_mono l.toArray d' a b 0 l.toArray.size (Nat.zero_le _) (by simpa using hb) (Nat.le_refl _) hp
    have hsize : d'.size = l.length := by simpa using hp.1
    obtain ⟨cs', hB', hz', ht'⟩ := sortWorld_blk (enc := LeafI.cells) leaf_coded.len hB n d' os (by rw [hp.1]; exact hsz)
    refine ⟨he, (sortWorld_keep w g n d' os hB.lt).mono fun q hq => by subst hq; rfl, d'.toList, ?_, ?_, ?_⟩
    · have := hp0.2.2
      rw [Array.toList_extract, Array.toList_extract, List.extract_eq_take_drop, List.extract_eq_take_drop] at this
      rw [List.drop_zero, List.drop_zero, List.take_of_length_le (by simp; omega), List.take_of_length_le (by simp)] at this
      exact this
    · intro i j hi hj hai hij hjb
      have hi' : i < d'.size := by simpa using hi
      have hj' : j < d'.size := by simpa using hj
      have := hs i j hai hij hjb
      rw [getElem!_pos d' j hj', getElem!_pos d' i hi', cmpL_lt] at this
      simpa using this
    · refine ⟨enc_len leaf_coded.len _, .inr ⟨g, cap, cs', ?_, hb', hB', ?_, h3, by rw [hz', h4], ?_⟩⟩
      · rw [show d'.toList.length = l.length by simpa using hsize]
      · rw [show d'.toList.length = l.length by simpa using hsize]; exact h2
      · rw [show d'.toList.length = d'.size from Array.length_toList]; exact ht'
set_option maxRecDepth 100000 in
set_option maxHeartbeats 1000000 in
theorem stable_c {w : World} {B : Nat} {v : Value} {l : List LeafI} (h : w.ownsRow B 35 5 v l.length (l.map LeafI.cells).flatten) (hl : l.length < 20) :
    Calls Try.prog 41 #[v, .func (.func 42) #[] #[]] w (Swaps w B v l (NameUp 0 l.length)) := by
  have HI := hid (ins_c h (by omega) 0 l.length (Nat.zero_le _) (Nat.le_refl _))
  have HC : Hid (Calls Try.prog 66 #[v, .int .i64 l.length, .func (.func 42) #[] #[]] w (Swaps w B v l (NameUp 0 l.length))) := by
    have d0 : decide (20 ≤ (l.length : Int)) = false := by simp; omega
    have d1 : decide (20 < (l.length : Int)) = false := by simp; omega
    clear h hl
    generalize l.length = n at *
    go_enter Try.func66, Try.ntmps66
    go_wp2_with fail
    refine wp_loop_rounds 1 ?_
    rw [rounds_succ]
    go_wp2_with (go_at_call 77; refine (HI.out).mono ?_; rintro e w' ⟨rfl, hx⟩; have HX := hid hx; clear hx)
    refine wp_loop_rounds 1 ?_
    rw [rounds_succ]
    go_wp2_with fail
    go_end0
    exact ⟨rfl, HX.out⟩
  obtain ⟨A, c, rfl, _⟩ := sl_get (sl_of_row (e := 35) (base := B) (leaf_coded.sizes l) (by rw [List.length_map]; exact h))
  clear h HI
  go_enter Try.func41, Try.ntmps41
  go_wp2_with (go_at_call 66; refine (HC.out).mono ?_; rintro e w' ⟨rfl, hx⟩)
  go_end0
  exact ⟨rfl, hx⟩
end Go.Proofs.Ytgkdiknmjgpgmaa
