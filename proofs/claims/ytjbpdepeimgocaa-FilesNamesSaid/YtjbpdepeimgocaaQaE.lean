/-
  How two leaves stand; the library's insertion sort at leaves.
  slices.SortStableFunc at leaves: fewer than 20.
-/
import Derived.Test.YtjbpdepeimgocaaFnDk
import Derived.Test.YtjbpdepeimgocaaSoG
import Derived.Test.YtjbpdepeimgocaaSoI
namespace Go.Proofs.Ytjbpdepeimgocaa.D
open Go.RowKit
def cmpS (a b : ByteArray) : Int := if blt a b then -1 else if blt b a then 1 else 0
def cmpL (a b : LeafI) : Int := cmpS a.name b.name
set_option maxHeartbeats 400000 in
theorem isNaNS_c (a : ByteArray) (w : World) : Calls Try.prog 29 #[.string a] w (Ret (.bool false) w) := by
  have h : (a.toList == a.toList) = true := by simp
  go_enter Try.func29, Try.ntmps29
  go_wp2_with fail
  go_ret
  exact ⟨rfl, Ext.refl _⟩
set_option maxHeartbeats 1000000 in
theorem compareS_c (a b : ByteArray) (w : World) : Calls Try.prog 19 #[.string a, .string b] w (Ret (.int .i64 (cmpS a b)) w) := by
  have H := fun s W => hid (isNaNS_c s W)
  have hg := gt_blt a b
  unfold cmpS
  cases h1 : blt a b with
  | true =>
    rw [if_pos rfl]
    have d1 : Op.bytesLess a.toList b.toList = true := h1
    clear h1 hg
    go_enter Try.func19, Try.ntmps19
    go_wp2_with (go_at_call 29; refine (H _ _).out.mono ?_; rintro e w' ⟨rfl, hx⟩)
    go_ret
    exact ⟨rfl, Ext.trans (by assumption) (by assumption)⟩
  | false =>
    rw [if_neg Bool.false_ne_true]
    have d1 : Op.bytesLess a.toList b.toList = false := h1
    rw [d1] at hg
    clear h1
    cases h2 : blt b a with
    | true =>
      rw [if_pos rfl]
      rw [h2] at hg
      have d2 : (a.toList == b.toList) = false := by simpa using hg
      clear h2 hg
      go_enter Try.func19, Try.ntmps19
      go_wp2_with (go_at_call 29; refine (H _ _).out.mono ?_; rintro e w' ⟨rfl, hx⟩)
      go_ret
      exact ⟨rfl, Ext.trans (by assumption) (by assumption)⟩
    | false =>
      rw [if_neg Bool.false_ne_true]
      rw [h2] at hg
      have d2 : (a.toList == b.toList) = true := by simpa using hg
      clear h2 hg
      go_enter Try.func19, Try.ntmps19
      go_wp2_with (go_at_call 29; refine (H _ _).out.mono ?_; rintro e w' ⟨rfl, hx⟩)
      go_ret
      exact ⟨rfl, Ext.trans (by assumption) (by assumption)⟩
set_option maxRecDepth 100000 in
set_option maxHeartbeats 400000 in
theorem leaf2_c (a b : LeafI) (w : World) : Calls Try.prog 18 #[a.val, b.val] w (Ret (.int .i64 (cmpL a b)) w) := by
  have H := fun W => hid (compareS_c a.name b.name W)
  unfold cmpL LeafI.val
  generalize cmpS a.name b.name = z at H ⊢
  go_enter Try.func18, Try.ntmps18
  go_wp2_with (go_at_call 19; refine (H _).out.mono ?_; rintro e w' ⟨rfl, hx⟩)
  go_ret
  exact ⟨rfl, (((Ext.refl _).alloc' _).alloc' _).trans hx⟩
theorem leaf2_g (a b : LeafI) (W : World) : Calls Try.prog 18 #[a.val, b.val] W fun e w' => e = .returned (.int .i64 (cmpL a b)) ∧ ∃ q os', w' = Go.Sort.grow (W.drewN q) os' :=
  (leaf2_c a b W).mono fun e w' ⟨he, hx⟩ => by
    obtain ⟨E, hE⟩ := hx.wext
    exact ⟨he, E.drawn, E.objs, hE⟩
end Go.Proofs.Ytjbpdepeimgocaa.D
namespace Go.Proofs.Ytjbpdepeimgocaa
set_option linter.unusedSimpArgs false
set_option linter.unusedVariables false
open Go.RowKit Go.Sort
theorem cmpL_lt (a b : LeafI) : ltOf D.cmpL a b = blt a.name b.name := by
  unfold ltOf D.cmpL D.cmpS
  cases h1 : blt a.name b.name <;> cases h2 : blt b.name a.name <;> simp
theorem swo_leaf : SWO (ltOf D.cmpL) := by
  refine ⟨fun a => by rw [cmpL_lt]; exact blt_irrefl _, fun a b c h1 h2 => ?_, fun a b c h1 h2 => ?_⟩
  · rw [cmpL_lt] at *; exact blt_trans h1 h2
  · rw [cmpL_lt] at *
    cases h : blt a.name c.name with
    | false => rfl
    | true =>
      by_cases e : a.name = b.name
      · rw [e] at h; rw [h] at h2; cases h2
      · have h3 := blt_total h1 e
        have := blt_trans h3 h
        rw [this] at h2; cases h2
end Go.Proofs.Ytjbpdepeimgocaa
namespace Go.Proofs.Ytjbpdepeimgocaa
set_option linter.unusedSimpArgs false
set_option linter.unusedVariables false
open Go.RowKit Go.Sort

/-- Ordered by names between two places. -/
def NameUp (a b : Nat) (l : List LeafI) : Prop := ∀ i j (hi : i < l.length) (hj : j < l.length), a ≤ i → i < j → j < b → blt l[j].name l[i].name = false
def Swaps (w : World) (B : Nat) (v : Value) (l : List LeafI) (Q : List LeafI → Prop) : Ending → World → Prop := fun en w' => en = .returned (.tuple #[]) ∧ Keep (fun q => v.ownBlock = some q) w w' ∧ ∃ l' : List LeafI, l'.Perm l ∧ Q l' ∧ w'.ownsRow B 35 5 v l'.length (l'.map LeafI.cells).flatten
theorem ins_c {w : World} {B : Nat} {v : Value} {l : List LeafI} (h : w.ownsRow B 35 5 v l.length (l.map LeafI.cells).flatten) (hl : l.length ≤ 1000000) (a b : Nat) (hab : a ≤ b) (hb : b ≤ l.length) :
    Calls Try.prog 35 #[v, .int .i64 a, .int .i64 b, .func (.func 18) #[] #[]] w (Swaps w B v l (NameUp a b)) := by
  rcases h.2 with ⟨rfl, h0⟩ | ⟨g, cap, cs, rfl, hb', hg, h2, h3, h4, h5⟩
  · have : l = [] := List.eq_nil_of_length_eq_zero h0
    subst this
    obtain rfl : b = 0 := by simpa using hb
    obtain rfl : a = 0 := by omega
    exact (AnyF.insertionSortCmpFunc_none Try.insLeaf none 0 _ w).mono fun en w' ⟨he, hw⟩ => ⟨he, hw ▸ Keep.refl _ _, [], List.Perm.refl _, fun i j hi => absurd hi (by simp), hw ▸ h⟩
  · have hB : Blk w g 35 cs := hg
    have ht : cs.toList.take (l.toArray.size * 5) = (l.toArray.toList.map LeafI.cells).flatten := by simpa using h5
    have hH := holdsK_of leaf_coded.len hB ht
    have hsz : l.toArray.size * 5 ≤ cs.size := by
      rw [h4]
      exact Nat.mul_le_mul_right _ (by simpa using h2)
    have hcon := AnyQ.insertionSortCmpFunc Try.insLeaf 5 Try.isAgg35 Try.sizeOf35 LeafI.cells leaf_coded.len leaf_coded.one D.cmpL 18 #[] g 0 cap a b l.toArray w (fun _ _ => run_callFunc Try.func18 (by kernel_rfl) (by kernel_rfl)) (fun m os dk _ x y => D.leaf2_g x y _) hH hB.lt hab (by simpa using hb) (by simp; omega)
    refine hcon.mono fun en w' ⟨he, n, os, hw⟩ => ?_
    subst hw
    have hin := insertionSort_holds (lt := ltOf D.cmpL) swo_leaf l.toArray a b hab (by simpa using hb)
    obtain ⟨d', hd'⟩ : ∃ d', d' = Go.Sort.insertionSort (ltOf D.cmpL) l.toArray a b := ⟨_, rfl⟩
    rw [← hd'] at hin ⊢
    obtain ⟨hp, hs⟩ := hin
    have hp0 := permIn_mono l.toArray d' a b 0 l.toArray.size (Nat.zero_le _) (by simpa using hb) (Nat.le_refl _) hp
    have hsize : d'.size = l.length := by simpa using hp.1
    obtain ⟨cs', hB', hz', ht'⟩ := sortWorld_blk (enc := LeafI.cells) leaf_coded.len hB n d' os (by rw [hp.1]; exact hsz)
    refine ⟨he, (sortWorld_keep w g n d' os hB.lt).mono fun q hq => by subst hq; rfl, d'.toList, ?_, ?_, ?_⟩
    · have := hp0.2.2
      rw [Array.toList_extract, Array.toList_extract, List.extract_eq_take_drop, List.extract_eq_take_drop] at this
      rw [List.drop_zero, List.drop_zero, List.take_of_length_le (by simp; omega), List.take_of_length_le (by simp)] at this
      exact this
    · intro i j hi hj hai hij hjb
      have hi' : i < d'.size := by simpa using hi
      have hj' : j < d'.size := by simpa using hj
      have := hs i j hai hij hjb
      rw [getElem!_pos d' j hj', getElem!_pos d' i hi', cmpL_lt] at this
      simpa using this
    · refine ⟨enc_len leaf_coded.len _, .inr ⟨g, cap, cs', ?_, hb', hB', ?_, h3, by rw [hz', h4], ?_⟩⟩
      · rw [show d'.toList.length = l.length by simpa using hsize]
      · rw [show d'.toList.length = l.length by simpa using hsize]; exact h2
      · rw [show d'.toList.length = d'.size from Array.length_toList]; exact ht'
set_option maxRecDepth 100000 in
set_option maxHeartbeats 1000000 in
theorem stable_c {w : World} {B : Nat} {v : Value} {l : List LeafI} (h : w.ownsRow B 35 5 v l.length (l.map LeafI.cells).flatten) (hl : l.length < 20) :
    Calls Try.prog 17 #[v, .func (.func 18) #[] #[]] w (Swaps w B v l (NameUp 0 l.length)) := by
  have HI := hid (ins_c h (by omega) 0 l.length (Nat.zero_le _) (Nat.le_refl _))
  have HC : Hid (Calls Try.prog 28 #[v, .int .i64 l.length, .func (.func 18) #[] #[]] w (Swaps w B v l (NameUp 0 l.length))) := by
    have d0 : decide (20 ≤ (l.length : Int)) = false := by simp; omega
    have d1 : decide (20 < (l.length : Int)) = false := by simp; omega
    clear h hl
    generalize l.length = n at *
    go_enter Try.func28, Try.ntmps28
    go_wp2_with fail
    refine wp_loop_rounds 1 ?_
    rw [rounds_succ]
    go_wp2_with (go_at_call 35; refine (HI.out).mono ?_; rintro e w' ⟨rfl, hx⟩; have HX := hid hx; clear hx)
    refine wp_loop_rounds 1 ?_
    rw [rounds_succ]
    go_wp2_with fail
    go_end0
    exact ⟨rfl, HX.out⟩
  obtain ⟨A, c, rfl, _⟩ := sl_get (sl_of_row (e := 35) (base := B) (leaf_coded.sizes l) (by rw [List.length_map]; exact h))
  clear h HI
  go_enter Try.func17, Try.ntmps17
  go_wp2_with (go_at_call 28; refine (HC.out).mono ?_; rintro e w' ⟨rfl, hx⟩)
  go_end0
  exact ⟨rfl, hx⟩
end Go.Proofs.Ytjbpdepeimgocaa
