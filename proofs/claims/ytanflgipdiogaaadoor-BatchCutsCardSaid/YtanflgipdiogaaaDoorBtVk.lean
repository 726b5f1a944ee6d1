/-
  The law BatchCuts: its walk.
-/
import Derived.Test.YtanflgipdiogaaaDoorBtUk
namespace Go.Proofs.YtanflgipdiogaaaDoor
set_option linter.unusedSimpArgs false
set_option linter.unusedVariables false
open Go.RowKit

attribute [-simp] Tryd.isAgg44 Tryd.sizeOf44
set_option maxRecDepth 100000 in
set_option maxHeartbeats 8000000 in
theorem cuts_dark (w : World) (v : Value) (l : List EntI) (lim : Int) (m : Int) (hm : w.cell? ⟨0, 0, none⟩ = some (.int .i64 m)) (h : Sl w 21 v (l.map EntI.cells)) (hl : (l.all lightE && decide (l.length ≤ 60)) = false) : Calls Tryd.prog 3 #[v, .int .i64 lim] w (Ret (.bool true) w) := by
  have HLi := fun W (hW : Ext w W) => hid (light19_c W v l (h.ext hW))
  have HAw := fun W (hW : Ext w W) => hid (awake19_c W m (hW.cell hm))
  rw [hl] at HLi
  clear hl h hm
  go_enter Tryd.func3, Tryd.ntmps3
  go_wp2_with fail
  refine ((HLi _ (Ext.refl w)).out).mono ?_
  rintro en w1 ⟨rfl, x1⟩
  have HX := hid x1
  clear x1
  go_wp2_with fail
  refine ((HAw _ HX.out).out).mono ?_
  rintro en w2 ⟨rfl, x2⟩
  have HX2 := hid (HX.out.trans x2)
  clear x2
  go_wp2_with fail
  go_ret
  exact ⟨rfl, HX2.out⟩
set_option maxRecDepth 100000 in
set_option maxHeartbeats 8000000 in
theorem cuts_far (w : World) (v : Value) (l : List EntI) (lim : Int) (m : Int) (hm : w.cell? ⟨0, 0, none⟩ = some (.int .i64 m)) (h : Sl w 21 v (l.map EntI.cells)) (hl : (l.all lightE && decide (l.length ≤ 60)) = true) (hb : lim < 1 ∨ 4096 < lim) : Calls Tryd.prog 3 #[v, .int .i64 lim] w (Ret (.bool true) w) := by
  have HLi := fun W (hW : Ext w W) => hid (light19_c W v l (h.ext hW))
  have HAw := fun W (hW : Ext w W) => hid (awake19_c W m (hW.cell hm))
  have HCu := fun W (hW : Ext w W) => hid (cut_bad W v l (h.ext hW) lim hb)
  rw [hl] at HLi
  clear hl h hm
  go_enter Tryd.func3, Tryd.ntmps3
  go_wp2_with fail
  refine ((HLi _ (Ext.refl w)).out).mono ?_
  rintro en w1 ⟨rfl, x1⟩
  have HX := hid x1
  clear x1
  go_wp2_with fail
  refine ((HCu _ HX.out).out).mono ?_
  rintro en w2 ⟨rfl, x2⟩
  have HX2 := hid (HX.out.trans x2)
  clear x2
  by_cases h1 : lim < 1
  · have d1 : decide (lim < 1) = true := decide_eq_true h1
    clear h1 hb
    go_wp2_with fail
    refine ((HAw _ HX2.out).out).mono ?_
    rintro en w3 ⟨rfl, x3⟩
    have HX3 := hid (HX2.out.trans x3)
    clear x3
    go_wp2_with fail
    go_ret
    exact ⟨rfl, HX3.out⟩
  · have d1 : decide (lim < 1) = false := decide_eq_false h1
    have d2 : decide (4096 < lim) = true := decide_eq_true (by omega)
    clear h1 hb
    go_wp2_with fail
    refine ((HAw _ HX2.out).out).mono ?_
    rintro en w3 ⟨rfl, x3⟩
    have HX3 := hid (HX2.out.trans x3)
    clear x3
    go_wp2_with fail
    go_ret
    exact ⟨rfl, HX3.out⟩
set_option maxRecDepth 100000 in
set_option maxHeartbeats 8000000 in
theorem cuts_wrong (w : World) (v : Value) (l : List EntI) (lim : Int) (m : Int) (hm : w.cell? ⟨0, 0, none⟩ = some (.int .i64 m)) (h : Sl w 21 v (l.map EntI.cells)) (hok : ∀ e ∈ l, EntOk e) (hl : (l.all lightE && decide (l.length ≤ 60)) = true) (h60 : l.length ≤ 60) (hr : l.all hasB = false) (hlim : 1 ≤ lim ∧ lim ≤ 4096) : Calls Tryd.prog 3 #[v, .int .i64 lim] w (Ret (.bool true) w) := by
  have HLi := fun W (hW : Ext w W) => hid (light19_c W v l (h.ext hW))
  have HRi := fun W (hW : Ext w W) => hid (right19_c W v l (h.ext hW) hok)
  have HAw := fun W (hW : Ext w W) => hid (awake19_c W m (hW.cell hm))
  have HCu := fun W (hW : Ext w W) => hid (cut_c W v l lim m (hW.cell hm) (h.ext hW) (by omega) hok hlim)
  rw [hl] at HLi
  rw [hr] at HRi HCu
  have d1 : decide (lim < 1) = false := decide_eq_false (by omega)
  have d2 : decide (4096 < lim) = false := decide_eq_false (by omega)
  clear hl h hm hr hok
  go_enter Tryd.func3, Tryd.ntmps3
  go_wp2_with fail
  refine ((HLi _ (Ext.refl w)).out).mono ?_
  rintro en w1 ⟨rfl, x1⟩
  have HX := hid x1
  clear x1
  go_wp2_with fail
  refine ((HCu _ HX.out).out).mono ?_
  rintro en w2 (⟨_, rfl, x2⟩ | ⟨hno, _⟩)
  · have HX1 := hid (HX.out.trans x2)
    clear x2
    go_wp2_with fail
    refine ((HRi _ HX1.out).out).mono ?_
    rintro en w7 ⟨rfl, x7⟩
    have HX2 := hid (HX1.out.trans x7)
    clear x7
    go_wp2_with fail
    refine ((HAw _ HX2.out).out).mono ?_
    rintro en w3 ⟨rfl, x3⟩
    have HX3 := hid (HX2.out.trans x3)
    clear x3
    go_wp2_with fail
    go_ret
    exact ⟨rfl, HX3.out⟩
  · cases hno
set_option maxRecDepth 100000 in
set_option maxHeartbeats 8000000 in
theorem cuts_main (w : World) (v : Value) (l : List EntI) (lim : Int) (m : Int) (hm : w.cell? ⟨0, 0, none⟩ = some (.int .i64 m)) (h : Sl w 21 v (l.map EntI.cells)) (hok : ∀ e ∈ l, EntOk e) (hl : (l.all lightE && decide (l.length ≤ 60)) = true) (h60 : l.length ≤ 60) (hr : l.all hasB = true) (hlim : 1 ≤ lim ∧ lim ≤ 4096) : Calls Tryd.prog 3 #[v, .int .i64 lim] w (Ret (.bool true) w) := by
  have HLi := fun W (hW : Ext w W) => hid (light19_c W v l (h.ext hW))
  have HRi := fun W (hW : Ext w W) => hid (right19_c W v l (h.ext hW) hok)
  have HAw := fun W (hW : Ext w W) => hid (awake19_c W m (hW.cell hm))
  have HCu := fun W (hW : Ext w W) => hid (cut_c W v l lim m (hW.cell hm) (h.ext hW) (by omega) hok hlim)
  have HRc := fun W (hW : Ext w W) => hid (rcut_c W v l lim (h.ext hW) (by omega) hok hlim)
  rw [hl] at HLi
  rw [hr] at HRi HCu
  have d1 : decide (lim < 1) = false := decide_eq_false (by omega)
  have d2 : decide (4096 < lim) = false := decide_eq_false (by omega)
  clear hl h hm hr hok
  go_enter Tryd.func3, Tryd.ntmps3
  go_wp2_with fail
  refine ((HLi _ (Ext.refl w)).out).mono ?_
  rintro en w1 ⟨rfl, x1⟩
  have HX := hid x1
  clear x1
  go_wp2_with fail
  refine ((HCu _ HX.out).out).mono ?_
  rintro en w2 (⟨hno, _⟩ | ⟨_, u, vs, rfl, hu, hS, x2⟩)
  · cases hno
  have HX1 := hid (HX.out.trans x2)
  have HU1 := hid hu
  have HS1 := hid hS
  clear x2 hu hS HCu HLi
  obtain ⟨A, c, rfl, u1, u2, _⟩ := sl_get HU1.out
  go_wp2_with fail
  refine ((HRi _ HX1.out).out).mono ?_
  rintro en w3 ⟨rfl, x3⟩
  have HX2 := hid (HX1.out.trans x3)
  have HX3 := hid x3
  clear x3 HRi
  go_wp2_with fail
  refine ((HRc _ HX2.out).out).mono ?_
  rintro en w4 ⟨y, rfl, ⟨ws, hy, hT⟩, x4⟩
  have HX4 := hid (HX2.out.trans x4)
  have HU := hid (HU1.out.ext (HX3.out.trans x4))
  have HS := hid (HS1.out.ext (HX3.out.trans x4))
  have HY := hid hy
  have HT := hid hT
  have hlen : ws.length = vs.length := by rw [hT.1, HS1.out.1]
  have hnum := cutL_num lim l
  have hvl := HS1.out.1
  have HFlat := hid (cutL_flat lim l)
  have HOk := hid (fun s hs => flat_mem (cutL lim l) s hs)
  generalize cutL lim l = segs at HS HT hnum hvl HFlat HOk
  have hv100 : vs.length ≤ 100 := by omega
  have HVl := hid hvl
  obtain ⟨A2, c2, rfl, y1, y2, y3⟩ := sl_get hy
  obtain ⟨A9, c9, e9, _, _, u3⟩ := sl_get HU.out
  obtain ⟨rfl, rfl⟩ : A9 = A ∧ c9 = c := by injection e9 with q1 q2 q3; exact ⟨q1.symm, q3.symm⟩
  rw [hlen]
  have HU3 := hid u3
  have HY3 := hid y3
  have HLn := hid hlen
  clear HX HX1 HX2 HX3 HU HU1 HS1 HRc hy hT x4 hnum hvl e9 u3 y3 hlen d1 d2 HY
  unfold maxLen at u2 y2
  go_wp2_with fail
  go_loopw [8] (fun s8 wr => ∃ i : Nat, i ≤ vs.length ∧ s8 = .int .i64 i ∧ Hid (Ext w4 wr)) (fun s8 _ => vs.length - (intOf s8).toNat)
  case atStart => exact ⟨0, by omega, rfl, Ext.refl _⟩
  case round =>
    obtain ⟨i, hi, rfl, hE⟩ := hrel
    by_cases hlt : i < vs.length
    · have e1 : decide ((i : Int) < vs.length) = true := decide_eq_true (by omega)
      have e1' : decide (i < vs.length) = true := decide_eq_true hlt
      obtain ⟨b, o, rfl, lb, hcell⟩ := HU3.out (by omega)
      have hlt2 : i < ws.length := by have := HLn.out; omega
      obtain ⟨b2, o2, rfl, lb2, hcell2⟩ := HY3.out (by omega)
      have his : i < segs.length := by have := HVl.out; omega
      have c0 : w4.cell? ⟨b, o + i, none⟩ = some (.slice vs[i].a vs[i].n vs[i].c) := by
        have := hcell i hlt 0 (.slice vs[i].a vs[i].n vs[i].c) rfl
        simpa using this
      have c2 : w4.cell? ⟨b2, o2 + i, none⟩ = some (.slice ws[i].a ws[i].n ws[i].c) := by
        have := hcell2 i hlt2 0 (.slice ws[i].a ws[i].n ws[i].c) rfl
        simpa using this
      have HSk := hid (HS.out.2 i vs[i] segs[i] (by simp [hlt]) (by simp [his]))
      have HTk := hid (HT.out.2 i ws[i] segs[i] (by simp [hlt2]) (by simp [his]))
      have hsl : segs[i].length ≤ 60 := by
        have := HOk.out segs[i] (List.getElem_mem his)
        rw [HFlat.out] at this; omega
      generalize vs[i] = sv at c0 HSk
      generalize ws[i] = tv at c2 HTk
      generalize segs[i] = seg at HSk HTk hsl
      obtain ⟨sa, sn, sc⟩ := sv
      obtain ⟨ta, tn, tc⟩ := tv
      obtain ⟨A7, c7, hv7, s1, s2, s3⟩ := sl_get HSk.out
      obtain ⟨A8, c8, hv8, t1, t2, t3⟩ := sl_get HTk.out
      obtain ⟨rfl, rfl, rfl⟩ : sn = seg.length ∧ sa = A7 ∧ sc = c7 := by
        unfold SlV.val at hv7
        injection hv7 with q1 q2 q3
        exact ⟨q2, q1, q3⟩
      obtain ⟨rfl, rfl, rfl⟩ : tn = seg.length ∧ ta = A8 ∧ tc = c8 := by
        unfold SlV.val at hv8
        injection hv8 with q1 q2 q3
        exact ⟨q2, q1, q3⟩
      have HC0 := hid c0
      have HC2 := hid c2
      have HLb := hid lb
      have HLb2 := hid lb2
      have HS3 := hid s3
      have HT3 := hid t3
      clear hv7 hv8 s3 t3 lb lb2 hcell hcell2 HU3 HY3 his HSk HTk c0 c2
      have c3 := hE.out.cell HC0.out
      have c4 := hE.out.cell HC2.out
      have l3 := Nat.lt_of_lt_of_le HLb.out hE.out.size
      have l4 := Nat.lt_of_lt_of_le HLb2.out hE.out.size
      unfold maxLen at s2 t2
      go_wp2_with fail
      refine wp_region_any_order (by kernel_rfl) (by kernel_rfl) (by kernel_rfl) ?_
      repeat (first
        | (refine AWq.val rfl rfl rfl rfl (fun K hK => ?_); go_big_quiet_op; refine hK _ ?_; clear hK K)
        | (refine AWq.skip rfl rfl rfl ?_; simp only [Act.put, List.setIfInBounds_toArray, List.set_cons_succ, List.set_cons_zero]))
      refine AWq.done rfl rfl rfl (fun w5 x5 => ?_)
      simp only [closeAny, Act.put, List.setIfInBounds_toArray, List.set_cons_succ, List.set_cons_zero]
      go_wp2_with fail
      go_loopw [9] (fun s9 WQ => ∃ j : Nat, j ≤ seg.length ∧ s9 = .int .i64 j ∧ Hid (Ext w4 WQ)) (fun s9 _ => seg.length - (intOf s9).toNat)
      case atStart => exact ⟨0, by omega, rfl, hE.out.trans x5⟩
      case round =>
        obtain ⟨j, hj, rfl, hE5⟩ := hrel
        have c5 := hE5.out.cell HC0.out
        have c6 := hE5.out.cell HC2.out
        have l5 := Nat.lt_of_lt_of_le HLb.out hE5.out.size
        have l6 := Nat.lt_of_lt_of_le HLb2.out hE5.out.size
        by_cases hjl : j < seg.length
        · have f1 : decide ((j : Int) < seg.length) = true := decide_eq_true (by omega)
          have f1' : decide (j < seg.length) = true := decide_eq_true hjl
          obtain ⟨b3, o3, rfl, lb3, hc3⟩ := HS3.out (by omega)
          obtain ⟨b4, o4, rfl, lb4, hc4⟩ := HT3.out (by omega)
          have HR3 := hid (fun (q : Nat) u (hu : seg[j].arr[q]? = some u) => hE5.out.cell (hc3 j hjl q u (by rw [← arr_list, Array.getElem?_toList]; exact hu)))
          have HR4 := hid (fun (q : Nat) u (hu : seg[j].arr[q]? = some u) => hE5.out.cell (hc4 j hjl q u (by rw [← arr_list, Array.getElem?_toList]; exact hu)))
          have HEq := fun W => run_eq_ent seg[j] seg[j] W
          rw [decide_eq_true (rfl : seg[j] = seg[j])] at HEq
          have hz := hid (arr_size seg[j])
          generalize seg[j].arr = arr at HR3 HR4 HEq hz
          clear hc3 hc4 lb3 lb4
          go_wp2_with fail
          refine wp_region_any_order (by kernel_rfl) (by kernel_rfl) (by kernel_rfl) ?_
          repeat (first
            | (refine AWq.val rfl rfl rfl rfl (fun K hK => ?_); go_big_quiet_op; refine hK _ ?_; clear hK K)
            | (refine AWq.skip rfl rfl rfl ?_; simp only [Act.put, List.setIfInBounds_toArray, List.set_cons_succ, List.set_cons_zero])
            | (refine AWq.val rfl rfl rfl rfl (fun K hK => ?_); refine quiet_index_ent (k := j) rfl rfl rfl rfl hjl (hK _ ?_); clear hK K; simp only [Act.put, List.setIfInBounds_toArray, List.set_cons_succ, List.set_cons_zero])
            | (refine AWq.val rfl rfl rfl rfl (fun K hK => ?_); refine quiet_load_at rfl rfl (fun wc hwc => by obtain ⟨E, rfl⟩ := hwc; exact ent_loadVar hz.out (fun j v hv => (Ext.of_wext _ _).cell (HR3.out j v hv))) (hK _ ?_); clear hK K; simp only [Act.put, List.setIfInBounds_toArray, List.set_cons_succ, List.set_cons_zero])
            | (refine AWq.val rfl rfl rfl rfl (fun K hK => ?_); refine quiet_load_at rfl rfl (fun wc hwc => by obtain ⟨E, rfl⟩ := hwc; exact ent_loadVar hz.out (fun j v hv => (Ext.of_wext _ _).cell (HR4.out j v hv))) (hK _ ?_); clear hK K; simp only [Act.put, List.setIfInBounds_toArray, List.set_cons_succ, List.set_cons_zero]))
          refine AWq.done rfl rfl rfl (fun w6 x6 => ?_)
          simp only [closeAny, Act.put, List.setIfInBounds_toArray, List.set_cons_succ, List.set_cons_zero]
          go_wp2_with fail
          go_roundw
          case rel => exact ⟨j + 1, by omega, by go_num, hE5.out.trans x6⟩
          case measure => simp [intOf]; omega
        · obtain rfl : j = seg.length := by omega
          have f1 : decide ((seg.length : Int) < seg.length) = false := decide_eq_false (by omega)
          have f1' : decide (seg.length < seg.length) = false := decide_eq_false (by omega)
          clear hjl hj
          go_wp2_with fail
          exact ⟨⟨i + 1, by omega, by go_num, hE5.out⟩, by simp [intOf]; omega⟩
    · obtain rfl : i = vs.length := by omega
      have e1 : decide ((vs.length : Int) < vs.length) = false := decide_eq_false (by omega)
      have e1' : decide (vs.length < vs.length) = false := decide_eq_false (by omega)
      clear HU3 HY3 HS HT HOk HFlat HVl
      have HEw := hid (HX4.out.trans hE.out)
      go_wp2_with fail
      refine ((HAw _ HEw.out).out).mono ?_
      rintro en w9 ⟨rfl, x9⟩
      have HE9 := hid (HEw.out.trans x9)
      clear x9
      go_wp2_with fail
      go_ret
      exact ⟨rfl, HE9.out⟩
end Go.Proofs.YtanflgipdiogaaaDoor
