/-
  The document's Name of an item behind another one; put; View of nothing.
-/
import Derived.Test.YtgkdiknmjgpgmaaFlD
namespace Go.Proofs.Ytgkdiknmjgpgmaa
set_option linter.unusedSimpArgs false
set_option linter.unusedVariables false
open Go.RowKit Go.Sort

set_option maxHeartbeats 400000 in
theorem high_c (a b : Int) (w : World) : Calls Try.prog 47 #[.int .i64 a, .int .i64 b] w (Ret (.int .i64 (max a b)) w) := by
  go_enter Try.func47, Try.ntmps47
  go_wp2_with fail
  all_goals go_ret
  all_goals refine ⟨?_, Ext.refl _⟩
  all_goals congr 2
  all_goals simp_all
  all_goals omega
def okV (v : Ver) : Prop := v.by_ ≤ 9223372036854775807 ∧ v.n ≤ 9223372036854775807
def nameK (p : ByteArray) (it : Ver) : ByteArray := (((p ++ ⟨#[126]⟩) ++ digK it.by_.toNat) ++ ⟨#[46]⟩) ++ digK it.n.toNat
theorem nameK_size (p : ByteArray) (it : Ver) (h : okV it) : (nameK p it).size ≤ p.size + 42 := by
  have h1 := digK_20 it.by_.toNat (by unfold okV at h; omega)
  have h2 := digK_20 it.n.toNat (by unfold okV at h; omega)
  unfold nameK
  rw [ByteArray.size_append, ByteArray.size_append, ByteArray.size_append, ByteArray.size_append]
  have e1 : (⟨#[126]⟩ : ByteArray).size = 1 := rfl
  have e2 : (⟨#[46]⟩ : ByteArray).size = 1 := rfl
  omega
set_option maxRecDepth 100000 in
set_option maxHeartbeats 1000000 in
theorem rname20_c (p : ByteArray) (it : Ver) (w : World) (hp : p.size ≤ 1000) (h : okV it) : Calls Try.prog 17 #[.string p, it.val] w (Ret (.string (nameK p it)) w) := by
  have H1 := fun W => hid (high_c it.by_ 0 W)
  have H2 := fun W => hid (high_c it.n 0 W)
  have D1 := fun W => hid (rdigits_c it.by_.toNat W (by unfold okV at h; omega))
  have D2 := fun W => hid (rdigits_c it.n.toNat W (by unfold okV at h; omega))
  have s1 := digK_20 it.by_.toNat (by unfold okV at h; omega)
  have s2 := digK_20 it.n.toNat (by unfold okV at h; omega)
  rw [show ((it.by_.toNat : Nat) : Int) = max it.by_ 0 by omega] at D1
  rw [show ((it.n.toNat : Nat) : Int) = max it.n 0 by omega] at D2
  unfold nameK
  generalize digK it.by_.toNat = t1 at D1 s1 ⊢
  generalize digK it.n.toNat = t2 at D2 s2 ⊢
  generalize max it.by_ 0 = z1 at H1 D1
  generalize max it.n 0 = z2 at H2 D2
  unfold Ver.val
  clear h
  go_enter Try.func17, Try.ntmps17
  go_wp2_with fail
  have q1 : ((p ++ (⟨#[126]⟩ : ByteArray)).size ≤ 1001) := by rw [ByteArray.size_append]; show p.size + 1 ≤ _; omega
  have q2 : (((p ++ (⟨#[126]⟩ : ByteArray)) ++ t1).size ≤ 1021) := by rw [ByteArray.size_append]; omega
  have q3 : ((((p ++ (⟨#[126]⟩ : ByteArray)) ++ t1) ++ ⟨#[46]⟩).size ≤ 1022) := by rw [ByteArray.size_append]; have : (⟨#[46]⟩ : ByteArray).size = 1 := rfl; omega
  refine wp_region_any_order (by kernel_rfl) (by kernel_rfl) (by kernel_rfl) ?_
  repeat (first
    | (refine AWq.val rfl rfl rfl rfl (fun K hK => ?_); go_big_quiet_op; refine hK _ ?_; clear hK K)
    | (refine AWq.skip rfl rfl rfl ?_; simp only [Act.put, List.setIfInBounds_toArray, List.set_cons_succ, List.set_cons_zero])
    | (refine AWq.call rfl Try.func47 (by kernel_rfl) (by kernel_rfl) rfl rfl rfl ?_; apply Exists.intro; refine And.intro (fun wc hc => ?_) ?_; (· (simp only [argsOf, anyAt, ↓reduceIte, Nat.reduceEqDiff, Array.getD_eq_getD_getElem?, List.getElem?_toArray, List.getElem?_cons_succ, List.getElem?_cons_zero, Option.getD_some]; with_reducible exact (H1 _).out)); simp only [Act.put, List.setIfInBounds_toArray, List.set_cons_succ, List.set_cons_zero])
    | (refine AWq.call rfl Try.func47 (by kernel_rfl) (by kernel_rfl) rfl rfl rfl ?_; apply Exists.intro; refine And.intro (fun wc hc => ?_) ?_; (· (simp only [argsOf, anyAt, ↓reduceIte, Nat.reduceEqDiff, Array.getD_eq_getD_getElem?, List.getElem?_toArray, List.getElem?_cons_succ, List.getElem?_cons_zero, Option.getD_some]; with_reducible exact (H2 _).out)); simp only [Act.put, List.setIfInBounds_toArray, List.set_cons_succ, List.set_cons_zero])
    | (refine AWq.call rfl Try.func46 (by kernel_rfl) (by kernel_rfl) rfl rfl rfl ?_; apply Exists.intro; refine And.intro (fun wc hc => ?_) ?_; (· (simp only [argsOf, anyAt, ↓reduceIte, Nat.reduceEqDiff, Array.getD_eq_getD_getElem?, List.getElem?_toArray, List.getElem?_cons_succ, List.getElem?_cons_zero, Option.getD_some]; with_reducible exact (D1 _).out)); simp only [Act.put, List.setIfInBounds_toArray, List.set_cons_succ, List.set_cons_zero])
    | (refine AWq.call rfl Try.func46 (by kernel_rfl) (by kernel_rfl) rfl rfl rfl ?_; apply Exists.intro; refine And.intro (fun wc hc => ?_) ?_; (· (simp only [argsOf, anyAt, ↓reduceIte, Nat.reduceEqDiff, Array.getD_eq_getD_getElem?, List.getElem?_toArray, List.getElem?_cons_succ, List.getElem?_cons_zero, Option.getD_some]; with_reducible exact (D2 _).out)); simp only [Act.put, List.setIfInBounds_toArray, List.set_cons_succ, List.set_cons_zero]))
  refine AWq.done rfl rfl rfl (fun w2 x2 => ?_)
  simp only [closeAny, Act.put, List.setIfInBounds_toArray, List.set_cons_succ, List.set_cons_zero]
  go_wp2_with fail
  go_ret
  exact ⟨rfl, (Ext.alloc _ _).trans x2⟩

set_option maxRecDepth 100000 in
set_option maxHeartbeats 4000000 in
theorem put20_e (w : World) (v : Value) (l : List LeafI) (x : LeafI) (h : RowAt LeafI.cells 5 l v w) (hl : l.length ≤ 100000) : Calls Try.prog 49 #[v, x.val] w (RetQ (fun v' w' => ∃ k, k ≤ l.length ∧ RowAt LeafI.cells 5 (l.take k ++ [x] ++ l.drop k) v' w') w) := by
  have HN := hid h.2
  obtain ⟨A, c, rfl, h1, h2, h3⟩ := sl_get h.1
  unfold maxLen at h2
  unfold LeafI.val
  clear h
  go_enter Try.func49, Try.ntmps49
  go_wp2_with fail
  have hE0 := Ext.alloc w (.cells #[.string x.name, .string x.path, .int .i64 x.item.by_, .int .i64 x.item.n, .string x.d] 35)
  have hB0 := Blk.new w 35 #[.string x.name, .string x.path, .int .i64 x.item.by_, .int .i64 x.item.n, .string x.d]
  generalize w.alloc (.cells #[.string x.name, .string x.path, .int .i64 x.item.by_, .int .i64 x.item.n, .string x.d] 35) = w0 at hE0 hB0 ⊢
  generalize w.heap.size = g0 at hB0 ⊢
  have x0 := hB0.cell (i := 0) (v := .string x.name) rfl
  have x1 := hB0.cell (i := 1) (v := .string x.path) rfl
  have x2 := hB0.cell (i := 2) (v := .int .i64 x.item.by_) rfl
  have x3 := hB0.cell (i := 3) (v := .int .i64 x.item.n) rfl
  have x4 := hB0.cell (i := 4) (v := .string x.d) rfl
  have lg0 := hB0.lt
  clear hB0
  go_loopw [5] (fun i wr => ∃ k : Nat, k ≤ l.length ∧ i = .int .i64 k ∧ Ext w0 wr) (fun i _ => l.length - (intOf i).toNat)
  case atStart => exact ⟨0, by omega, rfl, Ext.refl _⟩
  case round =>
    obtain ⟨k, hk, rfl, hE⟩ := hrel
    have y0 := hE.cell x0
    have y1 := hE.cell x1
    have y2 := hE.cell x2
    have y3 := hE.cell x3
    have y4 := hE.cell x4
    have lg := Nat.lt_of_lt_of_le lg0 hE.size
    have HE := hid (hE0.trans hE)
    have HEr := hid hE
    clear x0 x1 x2 x3 x4 lg0
    have HLen : Hid ((l.take k ++ [x] ++ l.drop k).length = k + 1 + (l.length - k)) := by unfold Hid; simp; omega
    have HFl : Hid (((l.take k ++ [x] ++ l.drop k).map LeafI.cells).flatten = ((l.take k).map LeafI.cells).flatten ++ x.cells ++ ((l.drop k).map LeafI.cells).flatten) := by unfold Hid; simp
    by_cases hlt : k < l.length
    · obtain ⟨b, o, rfl, lb, hcell⟩ := h3 (by omega)
      have c0 := HE.out.cell (hcell k hlt 0 _ rfl)
      rw [Nat.add_zero] at c0
      have lbw := Nat.lt_of_lt_of_le lb HE.out.size
      have HL := hid hcell
      clear hcell h3 hE hE0
      generalize l[k] = z at c0
      cases hb : (Op.bytesLess z.name.toList x.name.toList || z.name.toList == x.name.toList) with
      | true =>
        go_wp2_with fail
        refine wp_region_any_order (by kernel_rfl) (by kernel_rfl) (by kernel_rfl) ?_
        repeat (first
          | (refine AWq.val rfl rfl rfl rfl (fun K hK => ?_); go_big_quiet_op; refine hK _ ?_; clear hK K)
          | (refine AWq.skip rfl rfl rfl ?_; simp only [Act.put, List.setIfInBounds_toArray, List.set_cons_succ, List.set_cons_zero]))
        refine AWq.done rfl rfl rfl (fun w2 z2 => ?_)
        simp only [closeAny, Act.put, List.setIfInBounds_toArray, List.set_cons_succ, List.set_cons_zero]
        go_wp2_with fail
        go_roundw
        case rel => exact ⟨k + 1, by omega, by go_num, HEr.out.trans z2⟩
        case measure => simp [intOf]; omega
      | false =>
        go_wp2_with fail
        refine wp_region_any_order (by kernel_rfl) (by kernel_rfl) (by kernel_rfl) ?_
        repeat (first
          | (refine AWq.val rfl rfl rfl rfl (fun K hK => ?_); go_big_quiet_op; refine hK _ ?_; clear hK K)
          | (refine AWq.skip rfl rfl rfl ?_; simp only [Act.put, List.setIfInBounds_toArray, List.set_cons_succ, List.set_cons_zero]))
        refine AWq.done rfl rfl rfl (fun w3 z3 => ?_)
        simp only [closeAny, Act.put, List.setIfInBounds_toArray, List.set_cons_succ, List.set_cons_zero]
        have HE3 := hid (HE.out.trans z3)
        have e0 := z3.cell y0
        have e1 := z3.cell y1
        have e2 := z3.cell y2
        have e3 := z3.cell y3
        have e4 := z3.cell y4
        have lg3 := Nat.lt_of_lt_of_le lg z3.size
        clear z3 y0 y1 y2 y3 y4 lg
        have hck : ¬ c = k := by omega
        obtain ⟨va, wa, vb, wb, vc, wc, ra, rb, rc, o2, ex, ea⟩ := app_three (P := Try.prog) leaf_elem (wr := w3) k (l.length - k) ((l.take k).map LeafI.cells).flatten ((l.drop k).map LeafI.cells).flatten x.cells (.slice (some ⟨b, o, none⟩) k c) (.slice (if c = k then some ⟨b, o, none⟩ else some ⟨b, o + k * 5, none⟩) (l.length - k) (c - k)) (by omega) (by omega) (by omega) rfl (leaf_coded.one x)
          (fun W hW => src_take Try.underlying31 leaf_coded HL.out k c (by omega) (HE3.out.trans hW)) (fun W hW => src_drop Try.underlying31 leaf_coded HL.out k c (by omega) h1 (HE3.out.trans hW))
        rw [if_neg hck] at rc
        have HO := hid o2
        have HX := hid ex
        have f0 := ea.cell e0
        have f1 := ea.cell e1
        have f2 := ea.cell e2
        have f3 := ea.cell e3
        have f4 := ea.cell e4
        have lga := Nat.lt_of_lt_of_le lg3 ea.size
        unfold LeafI.cells at rb
        clear o2 ex ea
        go_wp2_with (first
            | (at_builtin; refine wpList_app rfl (.tmp 23) (.tmp 26) _ _ rfl rfl rfl ra ?_; clear ra)
            | (at_builtin; refine wpList_app rfl (.tmp 28) (.tmp 30) _ _ rfl rfl rfl rb ?_; clear rb)
            | (at_builtin; refine wpList_app rfl (.tmp 32) (.tmp 35) _ _ rfl rfl rfl rc ?_))
        all_goals go_ret
        all_goals exact ⟨_, rfl, ⟨k, by omega, RowAt.of_row (e := 35) leaf_coded (by rw [HLen.out, HFl.out]; exact HO.out) (fun h0 => by rw [HLen.out] at h0; omega)⟩, HE3.out.trans HX.out⟩
    · by_cases h0 : l.length = 0
      · obtain rfl : k = l.length := by omega
        have hnil := HN.out h0
        injection hnil with hA hn hc0
        subst hA hc0
        have hl0 : l = [] := List.eq_nil_of_length_eq_zero h0
        subst hl0
        clear h3 hE hE0 HN
        go_wp2_with fail
        refine wp_region_any_order (by kernel_rfl) (by kernel_rfl) (by kernel_rfl) ?_
        repeat (first
          | (refine AWq.val rfl rfl rfl rfl (fun K hK => ?_); go_big_quiet_op; refine hK _ ?_; clear hK K)
          | (refine AWq.skip rfl rfl rfl ?_; simp only [Act.put, List.setIfInBounds_toArray, List.set_cons_succ, List.set_cons_zero]))
        refine AWq.done rfl rfl rfl (fun w3 z3 => ?_)
        simp only [closeAny, Act.put, List.setIfInBounds_toArray, List.set_cons_succ, List.set_cons_zero]
        have HE3 := hid (HE.out.trans z3)
        have e0 := z3.cell y0
        have e1 := z3.cell y1
        have e2 := z3.cell y2
        have e3 := z3.cell y3
        have e4 := z3.cell y4
        have lg3 := Nat.lt_of_lt_of_le lg z3.size
        clear z3 y0 y1 y2 y3 y4 lg
        obtain ⟨va, wa, vb, wb, vc, wc, ra, rb, rc, o2, ex, ea⟩ := app_three (P := Try.prog) leaf_elem (wr := w3) 0 0 [] [] x.cells (.slice none 0 0) (.slice none 0 0) (by omega) (by omega) (by omega) rfl (leaf_coded.one x)
            (fun W hW => Src.ofNil W Try.underlying31 0) (fun W hW => Src.ofNil W Try.underlying31 0)
        have HO := hid o2
        have HX := hid ex
        have f0 := ea.cell e0
        have f1 := ea.cell e1
        have f2 := ea.cell e2
        have f3 := ea.cell e3
        have f4 := ea.cell e4
        have lga := Nat.lt_of_lt_of_le lg3 ea.size
        unfold LeafI.cells at rb
        clear o2 ex ea
        have k : Nat := 0
        go_wp2_with (first
            | (at_builtin; refine wpList_app rfl (.tmp 23) (.tmp 26) _ _ rfl rfl rfl ra ?_; clear ra)
            | (at_builtin; refine wpList_app rfl (.tmp 28) (.tmp 30) _ _ rfl rfl rfl rb ?_; clear rb)
            | (at_builtin; refine wpList_app rfl (.tmp 32) (.tmp 35) _ _ rfl rfl rfl rc ?_))
        all_goals go_ret
        all_goals exact ⟨_, rfl, ⟨0, by omega, RowAt.of_row (e := 35) leaf_coded (by simpa using HO.out) (fun h0 => by simp at h0)⟩, HE3.out.trans HX.out⟩
      · obtain ⟨b, o, rfl, lb, hcell⟩ := h3 (by omega)
        have HL := hid hcell
        have lbw := Nat.lt_of_lt_of_le lb HE.out.size
        obtain rfl : k = l.length := by omega
        by_cases hcl : c = l.length
        · subst hcl
          clear hcell h3 hE hE0
          go_wp2_with fail
          refine wp_region_any_order (by kernel_rfl) (by kernel_rfl) (by kernel_rfl) ?_
          repeat (first
            | (refine AWq.val rfl rfl rfl rfl (fun K hK => ?_); go_big_quiet_op; refine hK _ ?_; clear hK K)
            | (refine AWq.skip rfl rfl rfl ?_; simp only [Act.put, List.setIfInBounds_toArray, List.set_cons_succ, List.set_cons_zero]))
          refine AWq.done rfl rfl rfl (fun w3 z3 => ?_)
          simp only [closeAny, Act.put, List.setIfInBounds_toArray, List.set_cons_succ, List.set_cons_zero]
          have HE3 := hid (HE.out.trans z3)
          have e0 := z3.cell y0
          have e1 := z3.cell y1
          have e2 := z3.cell y2
          have e3 := z3.cell y3
          have e4 := z3.cell y4
          have lg3 := Nat.lt_of_lt_of_le lg z3.size
          clear z3 y0 y1 y2 y3 y4 lg
          obtain ⟨va, wa, vb, wb, vc, wc, ra, rb, rc, o2, ex, ea⟩ := app_three (P := Try.prog) leaf_elem (wr := w3) l.length (l.length - l.length) ((l.take l.length).map LeafI.cells).flatten ((l.drop l.length).map LeafI.cells).flatten x.cells (.slice (some ⟨b, o, none⟩) l.length l.length) (.slice (if l.length = l.length then some ⟨b, o, none⟩ else some ⟨b, o + l.length * 5, none⟩) (l.length - l.length) (l.length - l.length)) (by omega) (by omega) (by omega) rfl (leaf_coded.one x)
            (fun W hW => src_take Try.underlying31 leaf_coded HL.out l.length l.length (by omega) (HE3.out.trans hW)) (fun W hW => src_drop Try.underlying31 leaf_coded HL.out l.length l.length (by omega) h1 (HE3.out.trans hW))
          rw [if_pos rfl, Nat.sub_self] at rc
          have HO := hid o2
          have HX := hid ex
          have f0 := ea.cell e0
          have f1 := ea.cell e1
          have f2 := ea.cell e2
          have f3 := ea.cell e3
          have f4 := ea.cell e4
          have lga := Nat.lt_of_lt_of_le lg3 ea.size
          unfold LeafI.cells at rb
          clear o2 ex ea
          go_wp2_with (first
              | (at_builtin; refine wpList_app rfl (.tmp 23) (.tmp 26) _ _ rfl rfl rfl ra ?_; clear ra)
              | (at_builtin; refine wpList_app rfl (.tmp 28) (.tmp 30) _ _ rfl rfl rfl rb ?_; clear rb)
              | (at_builtin; refine wpList_app rfl (.tmp 32) (.tmp 35) _ _ rfl rfl rfl rc ?_))
          all_goals go_ret
          all_goals exact ⟨_, rfl, ⟨l.length, by omega, RowAt.of_row (e := 35) leaf_coded (by rw [HLen.out, HFl.out]; exact HO.out) (fun h0 => by rw [HLen.out] at h0; omega)⟩, HE3.out.trans HX.out⟩
        · clear hcell h3 hE hE0
          go_wp2_with fail
          refine wp_region_any_order (by kernel_rfl) (by kernel_rfl) (by kernel_rfl) ?_
          repeat (first
            | (refine AWq.val rfl rfl rfl rfl (fun K hK => ?_); go_big_quiet_op; refine hK _ ?_; clear hK K)
            | (refine AWq.skip rfl rfl rfl ?_; simp only [Act.put, List.setIfInBounds_toArray, List.set_cons_succ, List.set_cons_zero]))
          refine AWq.done rfl rfl rfl (fun w3 z3 => ?_)
          simp only [closeAny, Act.put, List.setIfInBounds_toArray, List.set_cons_succ, List.set_cons_zero]
          have HE3 := hid (HE.out.trans z3)
          have e0 := z3.cell y0
          have e1 := z3.cell y1
          have e2 := z3.cell y2
          have e3 := z3.cell y3
          have e4 := z3.cell y4
          have lg3 := Nat.lt_of_lt_of_le lg z3.size
          clear z3 y0 y1 y2 y3 y4 lg
          obtain ⟨va, wa, vb, wb, vc, wc, ra, rb, rc, o2, ex, ea⟩ := app_three (P := Try.prog) leaf_elem (wr := w3) l.length (l.length - l.length) ((l.take l.length).map LeafI.cells).flatten ((l.drop l.length).map LeafI.cells).flatten x.cells (.slice (some ⟨b, o, none⟩) l.length c) (.slice (if c = l.length then some ⟨b, o, none⟩ else some ⟨b, o + l.length * 5, none⟩) (l.length - l.length) (c - l.length)) (by omega) (by omega) (by omega) rfl (leaf_coded.one x)
            (fun W hW => src_take Try.underlying31 leaf_coded HL.out l.length c (by omega) (HE3.out.trans hW)) (fun W hW => src_drop Try.underlying31 leaf_coded HL.out l.length c (by omega) h1 (HE3.out.trans hW))
          rw [if_neg hcl, Nat.sub_self] at rc
          have HO := hid o2
          have HX := hid ex
          have f0 := ea.cell e0
          have f1 := ea.cell e1
          have f2 := ea.cell e2
          have f3 := ea.cell e3
          have f4 := ea.cell e4
          have lga := Nat.lt_of_lt_of_le lg3 ea.size
          unfold LeafI.cells at rb
          clear o2 ex ea
          go_wp2_with (first
              | (at_builtin; refine wpList_app rfl (.tmp 23) (.tmp 26) _ _ rfl rfl rfl ra ?_; clear ra)
              | (at_builtin; refine wpList_app rfl (.tmp 28) (.tmp 30) _ _ rfl rfl rfl rb ?_; clear rb)
              | (at_builtin; refine wpList_app rfl (.tmp 32) (.tmp 35) _ _ rfl rfl rfl rc ?_))
          all_goals go_ret
          all_goals exact ⟨_, rfl, ⟨l.length, by omega, RowAt.of_row (e := 35) leaf_coded (by rw [HLen.out, HFl.out]; exact HO.out) (fun h0 => by rw [HLen.out] at h0; omega)⟩, HE3.out.trans HX.out⟩
end Go.Proofs.Ytgkdiknmjgpgmaa
