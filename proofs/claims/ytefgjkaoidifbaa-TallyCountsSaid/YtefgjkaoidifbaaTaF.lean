/-
  The document's Put.
-/
import Derived.Test.YtefgjkaoidifbaaTaE
namespace Go.Proofs.Ytefgjkaoidifbaa
set_option linter.unusedSimpArgs false
set_option linter.unusedVariables false
open Go.RowKit Go.Sort Go.Maps

theorem putC_eq (x : Cnt) (l : List Cnt) (h : rankC x.kind l < l.length) (e : l[rankC x.kind l].kind = x.kind) : putC x l = l.take (rankC x.kind l) ++ [addC x l[rankC x.kind l]] ++ l.drop (rankC x.kind l + 1) := by
  unfold putC
  rw [List.getElem?_eq_getElem h]
  simp only
  rw [if_pos e]
theorem putC_ne (x : Cnt) (l : List Cnt) (h : rankC x.kind l < l.length) (e : ¬ l[rankC x.kind l].kind = x.kind) : putC x l = l.take (rankC x.kind l) ++ [x] ++ l.drop (rankC x.kind l) := by
  unfold putC
  rw [List.getElem?_eq_getElem h]
  simp only
  rw [if_neg e]
theorem putC_end (x : Cnt) (l : List Cnt) (h : ¬ rankC x.kind l < l.length) : putC x l = l.take (rankC x.kind l) ++ [x] ++ l.drop (rankC x.kind l) := by
  unfold putC
  rw [List.getElem?_eq_none (by omega)]

/-- append([]T, xs1..), and later: append(append(., y), xs2..). -/
theorem app_parts {P : Program} {t e : TypeId} {sz bytes : Nat} (hE : Elem P t e sz bytes) {wr : World} (k m : Nat) (xs1 xs2 : List Value) (u1 u2 : Value) (hk : k ≤ 1000000) (hm : m ≤ 1000000) (hb : bytes ≤ 1000000)
    (hs1 : ∀ W, Ext wr W → Src P sz t u1 k xs1 W) (hs2 : ∀ W, Ext wr W → Src P sz t u2 m xs2 W) :
    ∃ va wa, (Builtin.append_ #[t, t] t #[.slice (some ⟨wr.heap.size, 0, none⟩) 0 0, u1]).run P (wr.alloc (.cells #[] e)) = .ok va wa ∧ Ext wr wa ∧
      ∀ W, Ext wa W → ∀ ys : List Value, ys.length = sz → (∀ u ∈ ys, u.oneCell' = true) → ∃ vb wb vc wc, (Builtin.append_ #[t, t] t #[va, .slice (some ⟨W.heap.size, 0, none⟩) 1 1]).run P (W.alloc (.cells ys.toArray e)) = .ok vb wb ∧
      (Builtin.append_ #[t, t] t #[vb, u2]).run P wb = .ok vc wc ∧
      wc.ownsRow wr.heap.size e sz vc (k + 1 + m) (xs1 ++ ys ++ xs2) ∧ Ext wr wc := by
  have hbb : ∀ q, q ≤ 2000001 → q * bytes ≤ 140737488355328 := fun q hq => Nat.le_trans (Nat.mul_le_mul hq hb) (by decide)
  have e0 : Ext wr (wr.alloc (.cells #[] e)) := Ext.alloc _ _
  have o0 := own_lit (w := wr) (Nat.le_refl _) e sz 0 #[] (by unfold maxLen; omega) (by simp)
  obtain ⟨va, wa, ra, oa, ka, _, _⟩ := app_row (ty := t) hE o0 e0.size (hs1 _ e0) (by unfold maxLen; omega) (hbb _ (by omega))
  have ea : Ext wr wa := ka.toExt e0 fun q hq => (row_block o0 q hq).1
  refine ⟨va, wa, ra, ea, fun W hW ys hys hone => ?_⟩
  have eb : Ext wr (W.alloc (.cells ys.toArray e)) := (ea.trans hW).alloc' _
  have ob := ownsRow_ext (ownsRow_ext oa hW) (Ext.alloc W (.cells ys.toArray e))
  have sb : Src P sz t (.slice (some ⟨W.heap.size, 0, none⟩) 1 1) 1 ys (W.alloc (.cells ys.toArray e)) := src_row hE.slice (own_lit (w := W) (Nat.le_refl _) e sz 1 ys.toArray (by unfold maxLen; omega) (by simpa using hys)) hone
  obtain ⟨vb, wb, rb, ob', kb, _, _⟩ := app_row (ty := t) hE ob eb.size sb (by unfold maxLen; omega) (hbb _ (by omega))
  have ec : Ext wr wb := kb.toExt eb fun q hq => (row_block ob q hq).1
  obtain ⟨vc, wc, rc, oc, kc, _, _⟩ := app_row (ty := t) hE ob' ec.size (hs2 _ ec) (by unfold maxLen; omega) (hbb _ (by omega))
  exact ⟨vb, wb, vc, wc, rb, rc, by simpa using oc, kc.toExt ec fun q hq => (row_block ob' q hq).1⟩

set_option maxRecDepth 100000 in
set_option maxHeartbeats 2000000 in
theorem cput_c (w : World) (v : Value) (l : List Cnt) (x : Cnt) (h : RowAt Cnt.cells 4 l v w) (hl : l.length ≤ 900000) (hx : Bd 1000000000000000 x) (hy : ∀ y ∈ l, Bd 1000000000000000 y) : Calls Try.prog 49 #[v, x.val] w (fun e w' => ∃ v', e = .returned v' ∧ RowAt Cnt.cells 4 (putC x l) v' w' ∧ w'.ownsRow w.heap.size 58 4 v' (putC x l).length ((putC x l).map Cnt.cells).flatten ∧ Ext w w') := by
  have hnil := h.2
  obtain ⟨A, c, rfl, h1, h2, h3⟩ := sl_get h.1
  unfold maxLen at h2
  have hr := rankC_le x.kind l
  have hlow := rankC_lt x.kind l
  have hat := rankC_at x.kind l
  have p1 := putC_eq x l
  have p2 := putC_ne x l
  have p3 := putC_end x l
  have HN := hid hnil
  have HY := hid hy
  clear h hnil hy
  unfold Cnt.val
  generalize rankC x.kind l = r at hr hlow hat p1 p2 p3
  generalize putC x l = out at p1 p2 p3 ⊢
  go_enter Try.func49, Try.ntmps49
  go_wp2_with fail
  have hE0 := Ext.alloc w (.cells #[.int .i64 x.kind, .int .i64 x.acts, .int .i64 x.errs, .int .i64 x.made] 58)
  have hB0 := Blk.new w 58 #[.int .i64 x.kind, .int .i64 x.acts, .int .i64 x.errs, .int .i64 x.made]
  generalize w.alloc (.cells #[.int .i64 x.kind, .int .i64 x.acts, .int .i64 x.errs, .int .i64 x.made] 58) = w0 at hE0 hB0 ⊢
  generalize w.heap.size = g0 at hB0 ⊢
  have x0 := hB0.cell (i := 0) (v := .int .i64 x.kind) rfl
  have x1 := hB0.cell (i := 1) (v := .int .i64 x.acts) rfl
  have x2 := hB0.cell (i := 2) (v := .int .i64 x.errs) rfl
  have x3 := hB0.cell (i := 3) (v := .int .i64 x.made) rfl
  have lg0 := hB0.lt
  clear hB0
  go_loopw [5] (fun i wr => ∃ k : Nat, k ≤ r ∧ i = .int .i64 k ∧ Ext w0 wr) (fun i _ => r - (intOf i).toNat)
  case atStart => exact ⟨0, by omega, rfl, Ext.refl _⟩
  case round =>
    obtain ⟨k, hk, rfl, hE⟩ := hrel
    have y0 := hE.cell x0
    have y1 := hE.cell x1
    have y2 := hE.cell x2
    have y3 := hE.cell x3
    have lg := Nat.lt_of_lt_of_le lg0 hE.size
    clear x0 x1 x2 x3 lg0
    by_cases hlt : k < r
    · have hkl : k < l.length := by omega
      obtain ⟨b, o, rfl, lb, hcell⟩ := h3 (by omega)
      have c0 := (hE0.trans hE).cell (hcell k hkl 0 _ rfl)
      rw [Nat.add_zero] at c0
      have lbw := Nat.lt_of_lt_of_le lb (hE0.trans hE).size
      have hz := hlow k hkl hlt
      have HE := hid hE
      clear hcell h3 hE hlow hat p1 p2 p3
      generalize l[k] = z at c0 hz
      go_wp2_with fail
      refine wp_region_any_order (by kernel_rfl) (by kernel_rfl) (by kernel_rfl) ?_
      repeat (first
        | (refine AWq.val rfl rfl rfl rfl (fun K hK => ?_); go_big_quiet_op; refine hK _ ?_; clear hK K)
        | (refine AWq.skip rfl rfl rfl ?_; simp only [Act.put, List.setIfInBounds_toArray, List.set_cons_succ, List.set_cons_zero]))
      refine AWq.done rfl rfl rfl (fun w2 z2 => ?_)
      simp only [closeAny, Act.put, List.setIfInBounds_toArray, List.set_cons_succ, List.set_cons_zero]
      go_wp2_with fail
      go_roundw
      case rel => exact ⟨k + 1, by omega, by go_num, HE.out.trans z2⟩
      case measure => simp [intOf]; omega
    · obtain rfl : k = r := by omega
      have HE := hid (hE0.trans hE)
      by_cases hkl : k < l.length
      · obtain ⟨b, o, rfl, lb, hcell⟩ := h3 (by omega)
        have c0 := HE.out.cell (hcell k hkl 0 _ rfl)
        have c1 := HE.out.cell (hcell k hkl 1 _ rfl)
        have c2 := HE.out.cell (hcell k hkl 2 _ rfl)
        have c3 := HE.out.cell (hcell k hkl 3 _ rfl)
        rw [Nat.add_zero] at c0
        have HL := hid hcell
        have hz := hat hkl
        have hzb := HY.out _ (List.getElem_mem hkl)
        have q1 := p1 hkl
        have q2 := p2 hkl
        have lb0 := Nat.lt_of_lt_of_le lb HE.out.size
        clear hcell h3 hE hlow hat hlt p1 p2 p3 HY HN
        generalize l[k] = z at c0 c1 c2 c3 hz hzb q1 q2
        go_wp2_with fail
        refine wp_region_any_order (by kernel_rfl) (by kernel_rfl) (by kernel_rfl) ?_
        repeat (first
          | (refine AWq.val rfl rfl rfl rfl (fun K hK => ?_); go_big_quiet_op; refine hK _ ?_; clear hK K)
          | (refine AWq.skip rfl rfl rfl ?_; simp only [Act.put, List.setIfInBounds_toArray, List.set_cons_succ, List.set_cons_zero]))
        refine AWq.done rfl rfl rfl (fun w2 z2 => ?_)
        simp only [closeAny, Act.put, List.setIfInBounds_toArray, List.set_cons_succ, List.set_cons_zero]
        have HE2 := hid (HE.out.trans z2)
        have e0 := z2.cell y0
        have e1 := z2.cell y1
        have e2 := z2.cell y2
        have e3 := z2.cell y3
        have lg2 := Nat.lt_of_lt_of_le lg z2.size
        clear y0 y1 y2 y3 lg
        have lb2 := Nat.lt_of_lt_of_le lb0 z2.size
        have d0 := z2.cell c0
        have d1 := z2.cell c1
        have d2 := z2.cell c2
        have d3 := z2.cell c3
        clear z2 c0 c1 c2 c3 lb0
        by_cases he : z.kind = x.kind
        · obtain ⟨va, wa, ra, ea, hh⟩ := app_parts (P := Try.prog) cnt_elem (wr := w2) k (l.length - (k + 1)) ((l.take k).map Cnt.cells).flatten ((l.drop (k + 1)).map Cnt.cells).flatten (.slice (some ⟨b, o, none⟩) k c) (.slice (if c = k + 1 then some ⟨b, o, none⟩ else some ⟨b, o + (k + 1) * 4, none⟩) (l.length - (k + 1)) (c - (k + 1))) (by omega) (by omega) (by omega)
            (fun W hW => src_take Try.underlying53 cnt_coded HL.out k c (by omega) (HE2.out.trans hW)) (fun W hW => src_drop Try.underlying53 cnt_coded HL.out (k + 1) c (by omega) h1 (HE2.out.trans hW))
          have HEA := hid ea
          have HH := hid hh
          have f0 := ea.cell e0
          have f1 := ea.cell e1
          have f2 := ea.cell e2
          have f3 := ea.cell e3
          have lg3 := Nat.lt_of_lt_of_le lg2 ea.size
          clear e0 e1 e2 e3 lg2
          have h0_ := ea.cell d0
          have h1_ := ea.cell d1
          have h2_ := ea.cell d2
          have h3_ := ea.cell d3
          have lb3 := Nat.lt_of_lt_of_le lb2 ea.size
          have hout := q1 he
          have HLen : Hid (out.length = k + 1 + (l.length - (k + 1))) := by unfold Hid; rw [hout]; simp; omega
          have HFl : Hid ((out.map Cnt.cells).flatten = ((l.take k).map Cnt.cells).flatten ++ (addC x z).cells ++ ((l.drop (k + 1)).map Cnt.cells).flatten) := by unfold Hid; rw [hout]; simp
          clear d0 d1 d2 d3 lb2 ea hh q1 q2 hout HL
          unfold Bd at hzb hx
          go_wp2_with (at_builtin; refine wpList_app rfl (.tmp 24) (.tmp 27) _ _ rfl rfl rfl ra ?_)
          refine wp_region_any_order (by kernel_rfl) (by kernel_rfl) (by kernel_rfl) ?_
          repeat (first
            | (refine AWq.val rfl rfl rfl rfl (fun K hK => ?_); go_big_quiet_op; refine hK _ ?_; clear hK K)
            | (refine AWq.skip rfl rfl rfl ?_; simp only [Act.put, List.setIfInBounds_toArray, List.set_cons_succ, List.set_cons_zero]))
          refine AWq.done rfl rfl rfl (fun w5 z5 => ?_)
          simp only [closeAny, Act.put, List.setIfInBounds_toArray, List.set_cons_succ, List.set_cons_zero]
          have g0_ := z5.cell f0
          have g1_ := z5.cell f1
          have g2_ := z5.cell f2
          have g3_ := z5.cell f3
          have lg5 := Nat.lt_of_lt_of_le lg3 z5.size
          clear f0 f1 f2 f3 lg3 ra
          have j0 := z5.cell h0_
          have j1 := z5.cell h1_
          have j2 := z5.cell h2_
          have j3 := z5.cell h3_
          have lb5 := Nat.lt_of_lt_of_le lb3 z5.size
          clear h0_ h1_ h2_ h3_ lb3
          have e5 := Ext.alloc w5 (.cells #[.int .i64 x.kind, .int .i64 z.acts, .int .i64 z.errs, .int .i64 z.made] 58)
          obtain ⟨vb, wb, vc, wc, rb, rc, o2, ex⟩ := HH.out _ (z5.trans e5) (addC x z).cells rfl (cnt_coded.one (addC x z))
          have HO := hid o2
          have HX := hid ex
          simp only [Cnt.cells, addC] at rb
          rw [show (w5.alloc (.cells #[.int .i64 x.kind, .int .i64 z.acts, .int .i64 z.errs, .int .i64 z.made] 58)).heap.size = w5.heap.size + 1 by simp] at rb
          clear o2 ex z5 e5
          go_wp2_with (first
              | (at_builtin; refine wpList_app rfl (.tmp 47) (.tmp 66) _ _ rfl rfl rfl rb ?_)
              | (at_builtin; refine wpList_app rfl (.tmp 68) (.tmp 72) _ _ rfl rfl rfl rc ?_))
          all_goals go_ret
          all_goals refine ⟨_, rfl, RowAt.of_row (e := 58) cnt_coded (by rw [HLen.out, HFl.out]; exact HO.out) (fun h0 => by rw [HLen.out] at h0; omega), by rw [HLen.out, HFl.out]; exact ownsRow_mono HO.out HE2.out.size, HE2.out.trans HX.out⟩
        · obtain ⟨va, wa, ra, ea, hh⟩ := app_parts (P := Try.prog) cnt_elem (wr := w2) k (l.length - k) ((l.take k).map Cnt.cells).flatten ((l.drop k).map Cnt.cells).flatten (.slice (some ⟨b, o, none⟩) k c) (.slice (if c = k then some ⟨b, o, none⟩ else some ⟨b, o + k * 4, none⟩) (l.length - k) (c - k)) (by omega) (by omega) (by omega)
            (fun W hW => src_take Try.underlying53 cnt_coded HL.out k c (by omega) (HE2.out.trans hW)) (fun W hW => src_drop Try.underlying53 cnt_coded HL.out k c (by omega) h1 (HE2.out.trans hW))
          have HEA := hid ea
          have HH := hid hh
          have f0 := ea.cell e0
          have f1 := ea.cell e1
          have f2 := ea.cell e2
          have f3 := ea.cell e3
          have lg3 := Nat.lt_of_lt_of_le lg2 ea.size
          clear e0 e1 e2 e3 lg2
          have h0_ := ea.cell d0
          have lb3 := Nat.lt_of_lt_of_le lb2 ea.size
          have hck : ¬ c = k := by omega
          rw [if_neg hck] at HH
          have hout := q2 he
          have HLen : Hid (out.length = k + 1 + (l.length - k)) := by unfold Hid; rw [hout]; simp; omega
          have HFl : Hid ((out.map Cnt.cells).flatten = ((l.take k).map Cnt.cells).flatten ++ x.cells ++ ((l.drop k).map Cnt.cells).flatten) := by unfold Hid; rw [hout]; simp
          clear d0 d1 d2 d3 lb2 ea hh q1 q2 hout HL
          go_wp2_with (at_builtin; refine wpList_app rfl (.tmp 24) (.tmp 27) _ _ rfl rfl rfl ra ?_)
          refine wp_region_any_order (by kernel_rfl) (by kernel_rfl) (by kernel_rfl) ?_
          repeat (first
            | (refine AWq.val rfl rfl rfl rfl (fun K hK => ?_); go_big_quiet_op; refine hK _ ?_; clear hK K)
            | (refine AWq.skip rfl rfl rfl ?_; simp only [Act.put, List.setIfInBounds_toArray, List.set_cons_succ, List.set_cons_zero]))
          refine AWq.done rfl rfl rfl (fun w5 z5 => ?_)
          simp only [closeAny, Act.put, List.setIfInBounds_toArray, List.set_cons_succ, List.set_cons_zero]
          have g0_ := z5.cell f0
          have g1_ := z5.cell f1
          have g2_ := z5.cell f2
          have g3_ := z5.cell f3
          have lg5 := Nat.lt_of_lt_of_le lg3 z5.size
          clear f0 f1 f2 f3 lg3 ra
          clear h0_ lb3
          obtain ⟨vb, wb, vc, wc, rb, rc, o2, ex⟩ := HH.out w5 z5 x.cells rfl (cnt_coded.one x)
          have HO := hid o2
          have HX := hid ex
          simp only [Cnt.cells] at rb
          clear o2 ex z5
          go_wp2_with (first
              | (at_builtin; refine wpList_app rfl (.tmp 74) (.tmp 76) _ _ rfl rfl rfl rb ?_)
              | (at_builtin; refine wpList_app rfl (.tmp 78) (.tmp 81) _ _ rfl rfl rfl rc ?_))
          all_goals go_ret
          all_goals refine ⟨_, rfl, RowAt.of_row (e := 58) cnt_coded (by rw [HLen.out, HFl.out]; exact HO.out) (fun h0 => by rw [HLen.out] at h0; omega), by rw [HLen.out, HFl.out]; exact ownsRow_mono HO.out HE2.out.size, HE2.out.trans HX.out⟩
      · have q3 := p3 hkl
        clear p3
        by_cases h0 : l.length = 0
        · have hnil := HN.out h0
          injection hnil with hA hn hc0
          subst hA hc0
          have hl0 : l = [] := List.eq_nil_of_length_eq_zero h0
          subst hl0
          have hk0 : k = 0 := by omega
          subst hk0
          have hout : out = [x] := by rw [q3]; simp
          have HLen : Hid (out.length = 0 + 1 + 0) := by unfold Hid; rw [hout]; rfl
          have HFl : Hid ((out.map Cnt.cells).flatten = [] ++ x.cells ++ []) := by unfold Hid; rw [hout]; simp
          clear hout h3 hE hlow hat hlt HN p1 p2 q3 HY
          go_wp2_with fail
          refine wp_region_any_order (by kernel_rfl) (by kernel_rfl) (by kernel_rfl) ?_
          repeat (first
            | (refine AWq.val rfl rfl rfl rfl (fun K hK => ?_); go_big_quiet_op; refine hK _ ?_; clear hK K)
            | (refine AWq.skip rfl rfl rfl ?_; simp only [Act.put, List.setIfInBounds_toArray, List.set_cons_succ, List.set_cons_zero]))
          refine AWq.done rfl rfl rfl (fun w2 z2 => ?_)
          simp only [closeAny, Act.put, List.setIfInBounds_toArray, List.set_cons_succ, List.set_cons_zero]
          have HE2 := hid (HE.out.trans z2)
          have e0 := z2.cell y0
          have e1 := z2.cell y1
          have e2 := z2.cell y2
          have e3 := z2.cell y3
          have lg2 := Nat.lt_of_lt_of_le lg z2.size
          clear y0 y1 y2 y3 lg
          clear z2
          obtain ⟨va, wa, ra, ea, hh⟩ := app_parts (P := Try.prog) cnt_elem (wr := w2) 0 0 [] [] (.slice none 0 0) (.slice none 0 0) (by omega) (by omega) (by omega)
            (fun W hW => Src.ofNil W Try.underlying53 0) (fun W hW => Src.ofNil W Try.underlying53 0)
          have HEA := hid ea
          have HH := hid hh
          have f0 := ea.cell e0
          have f1 := ea.cell e1
          have f2 := ea.cell e2
          have f3 := ea.cell e3
          have lg3 := Nat.lt_of_lt_of_le lg2 ea.size
          clear e0 e1 e2 e3 lg2
          clear ea hh
          go_wp2_with (at_builtin; refine wpList_app rfl (.tmp 24) (.tmp 27) _ _ rfl rfl rfl ra ?_)
          refine wp_region_any_order (by kernel_rfl) (by kernel_rfl) (by kernel_rfl) ?_
          repeat (first
            | (refine AWq.val rfl rfl rfl rfl (fun K hK => ?_); go_big_quiet_op; refine hK _ ?_; clear hK K)
            | (refine AWq.skip rfl rfl rfl ?_; simp only [Act.put, List.setIfInBounds_toArray, List.set_cons_succ, List.set_cons_zero]))
          refine AWq.done rfl rfl rfl (fun w5 z5 => ?_)
          simp only [closeAny, Act.put, List.setIfInBounds_toArray, List.set_cons_succ, List.set_cons_zero]
          have g0_ := z5.cell f0
          have g1_ := z5.cell f1
          have g2_ := z5.cell f2
          have g3_ := z5.cell f3
          have lg5 := Nat.lt_of_lt_of_le lg3 z5.size
          clear f0 f1 f2 f3 lg3 ra
          obtain ⟨vb, wb, vc, wc, rb, rc, o2, ex⟩ := HH.out w5 z5 x.cells rfl (cnt_coded.one x)
          have HO := hid o2
          have HX := hid ex
          simp only [Cnt.cells] at rb
          clear o2 ex z5
          go_wp2_with (first
              | (at_builtin; refine wpList_app rfl (.tmp 74) (.tmp 76) _ _ rfl rfl rfl rb ?_)
              | (at_builtin; refine wpList_app rfl (.tmp 78) (.tmp 81) _ _ rfl rfl rfl rc ?_))
          all_goals go_ret
          all_goals refine ⟨_, rfl, RowAt.of_row (e := 58) cnt_coded (by rw [HLen.out, HFl.out]; exact HO.out) (fun h0 => by rw [HLen.out] at h0; omega), by rw [HLen.out, HFl.out]; exact ownsRow_mono HO.out HE2.out.size, HE2.out.trans HX.out⟩
        · obtain ⟨b, o, rfl, lb, hcell⟩ := h3 (by omega)
          have HL := hid hcell
          have hout : out = l.take k ++ x :: l.drop k := by rw [q3]; simp
          have HLen : Hid (out.length = k + 1 + (l.length - k)) := by unfold Hid; rw [hout]; simp; omega
          have HFl : Hid ((out.map Cnt.cells).flatten = ((l.take k).map Cnt.cells).flatten ++ x.cells ++ ((l.drop k).map Cnt.cells).flatten) := by unfold Hid; rw [hout]; simp
          clear hcell h3 hE hlow hat hlt p1 p2 q3 hout HY
          go_wp2_with fail
          refine wp_region_any_order (by kernel_rfl) (by kernel_rfl) (by kernel_rfl) ?_
          repeat (first
            | (refine AWq.val rfl rfl rfl rfl (fun K hK => ?_); go_big_quiet_op; refine hK _ ?_; clear hK K)
            | (refine AWq.skip rfl rfl rfl ?_; simp only [Act.put, List.setIfInBounds_toArray, List.set_cons_succ, List.set_cons_zero]))
          refine AWq.done rfl rfl rfl (fun w2 z2 => ?_)
          simp only [closeAny, Act.put, List.setIfInBounds_toArray, List.set_cons_succ, List.set_cons_zero]
          have HE2 := hid (HE.out.trans z2)
          have e0 := z2.cell y0
          have e1 := z2.cell y1
          have e2 := z2.cell y2
          have e3 := z2.cell y3
          have lg2 := Nat.lt_of_lt_of_le lg z2.size
          clear y0 y1 y2 y3 lg
          clear z2
          obtain ⟨va, wa, ra, ea, hh⟩ := app_parts (P := Try.prog) cnt_elem (wr := w2) k (l.length - k) ((l.take k).map Cnt.cells).flatten ((l.drop k).map Cnt.cells).flatten (.slice (some ⟨b, o, none⟩) k c) (.slice (if c = k then some ⟨b, o, none⟩ else some ⟨b, o + k * 4, none⟩) (l.length - k) (c - k)) (by omega) (by omega) (by omega)
            (fun W hW => src_take Try.underlying53 cnt_coded HL.out k c (by omega) (HE2.out.trans hW)) (fun W hW => src_drop Try.underlying53 cnt_coded HL.out k c (by omega) h1 (HE2.out.trans hW))
          have HEA := hid ea
          have HH := hid hh
          have f0 := ea.cell e0
          have f1 := ea.cell e1
          have f2 := ea.cell e2
          have f3 := ea.cell e3
          have lg3 := Nat.lt_of_lt_of_le lg2 ea.size
          clear e0 e1 e2 e3 lg2
          clear ea hh
          go_wp2_with (at_builtin; refine wpList_app rfl (.tmp 24) (.tmp 27) _ _ rfl rfl rfl ra ?_)
          refine wp_region_any_order (by kernel_rfl) (by kernel_rfl) (by kernel_rfl) ?_
          repeat (first
            | (refine AWq.val rfl rfl rfl rfl (fun K hK => ?_); go_big_quiet_op; refine hK _ ?_; clear hK K)
            | (refine AWq.skip rfl rfl rfl ?_; simp only [Act.put, List.setIfInBounds_toArray, List.set_cons_succ, List.set_cons_zero]))
          refine AWq.done rfl rfl rfl (fun w5 z5 => ?_)
          simp only [closeAny, Act.put, List.setIfInBounds_toArray, List.set_cons_succ, List.set_cons_zero]
          have g0_ := z5.cell f0
          have g1_ := z5.cell f1
          have g2_ := z5.cell f2
          have g3_ := z5.cell f3
          have lg5 := Nat.lt_of_lt_of_le lg3 z5.size
          clear f0 f1 f2 f3 lg3 ra
          obtain ⟨vb, wb, vc, wc, rb, rc, o2, ex⟩ := HH.out w5 z5 x.cells rfl (cnt_coded.one x)
          have HO := hid o2
          have HX := hid ex
          simp only [Cnt.cells] at rb
          clear o2 ex z5
          go_wp2_with (first
              | (at_builtin; refine wpList_app rfl (.tmp 74) (.tmp 76) _ _ rfl rfl rfl rb ?_)
              | (at_builtin; refine wpList_app rfl (.tmp 78) (.tmp 81) _ _ rfl rfl rfl rc ?_))
          all_goals go_ret
          all_goals refine ⟨_, rfl, RowAt.of_row (e := 58) cnt_coded (by rw [HLen.out, HFl.out]; exact HO.out) (fun h0 => by rw [HLen.out] at h0; omega), by rw [HLen.out, HFl.out]; exact ownsRow_mono HO.out HE2.out.size, HE2.out.trans HX.out⟩
end Go.Proofs.Ytefgjkaoidifbaa
