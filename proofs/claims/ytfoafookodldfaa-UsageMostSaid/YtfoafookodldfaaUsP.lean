/-
  lighteragelaw43.UsageMost: its walk.
-/
import Derived.Test.YtfoafookodldfaaUsO
namespace Go.Proofs.Ytfoafookodldfaa
set_option linter.unusedSimpArgs false
set_option linter.unusedVariables false
open Go.RowKit

/-- the leaf that the law finds, from the end on -/
def BackIs (l : List LeafI) (k : Nat) (y : LeafI) : Prop := (k = l.length ∧ y = leaf0) ∨ ∃ m, l[m]? = some y ∧ IsBest l k l.length m
theorem back_most {l : List LeafI} {y y' : LeafI} (h : MostIs l l.length y) (h' : BackIs l 0 y') : y = y' := by
  rcases h with ⟨h1, h2⟩ | ⟨m, h1, h2⟩
  · rcases h' with ⟨_, k2⟩ | ⟨m', k1, k2⟩
    · rw [h2, k2]
    · obtain ⟨_, a, b, _⟩ := k2; omega
  · rcases h' with ⟨k1, _⟩ | ⟨m', k1, k2⟩
    · obtain ⟨_, a, b, _⟩ := h2; omega
    · have := h2.unique k2
      subst this
      rw [h1] at k1
      injection k1


set_option maxRecDepth 100000 in
set_option maxHeartbeats 4000000 in
theorem usageMost_walk (w : World) (v : Value) (l : List LeafI) (h : Sl w 5 v (Leaves l)) (B : Option Addr) (d : Nat) (us : List UseI) (hus : Sl w 3 (.slice B us.length d) (Uses us)) (hul : us.length ≤ 50) (hud : us.length ≤ d) (hdm : d ≤ maxLen) (hu : 0 < us.length → ∃ b o, B = some ⟨b, o, none⟩ ∧ b < w.heap.size ∧ ∀ k (h : k < us.length), w.cell? ⟨b, o + k * 3, none⟩ = some (.string us[k].pre) ∧ w.cell? ⟨b, o + k * 3 + 1, none⟩ = some (.int .i64 us[k].files) ∧ w.cell? ⟨b, o + k * 3 + 2, none⟩ = some (.int .i64 us[k].bytes)) :
    Calls Try.prog 9 #[v, .slice B us.length d] w (Ret (.bool true) w) := by
  have HF := hid (few_c w v l h)
  have hf := few100_few l
  generalize fewK l = m at HF hf
  have hm100 := hf.1
  have HMo : Hid (∀ W v, Sl W 5 v (Leaves m) → Calls Try.prog 35 #[v] W (fun e w' => (∃ y, MostIs m m.length y ∧ e = .returned (.tuple #[.agg #[.string y.name, .string y.path, .int .i64 y.by_, .int .i64 y.n, .string y.data], .bool (decide (0 < m.length))])) ∧ Ext W w')) := fun W v h => most_c W v m h hf.slim
  clear h
  unfold maxLen at hdm
  go_enter Try.func9, Try.ntmps9
  go_wp2_with (first
    | (go_at_call 28; refine (HF.out).mono ?_; rintro e w1 ⟨v1, rfl, hv, hx⟩; obtain ⟨A, c, rfl, k1, k2, k3⟩ := sl_leaf hv; have HV := hid hv; have HX := hid hx; clear hv hx)
    | (go_at_call 35; refine (HMo.out _ _ HV.out).mono ?_; rintro e w2 ⟨⟨y, hM, rfl⟩, hx⟩; have HMy := hid hM; have HX2 := hid hx; clear hx hM))
  clear HMo HF
  unfold maxLen at k2
  have B5 : Blk ((w2.alloc (.cells #[.string y.name, .string y.path, .int .i64 y.by_, .int .i64 y.n, .string y.data] 66)).alloc (.cells #[.string ⟨#[]⟩, .string ⟨#[]⟩, .int .i64 0, .int .i64 0, .string ⟨#[]⟩] 66)) w2.heap.size 66 y.code := (Blk.new w2 _ _).alloc _
  have B7 : Blk ((w2.alloc (.cells #[.string y.name, .string y.path, .int .i64 y.by_, .int .i64 y.n, .string y.data] 66)).alloc (.cells #[.string ⟨#[]⟩, .string ⟨#[]⟩, .int .i64 0, .int .i64 0, .string ⟨#[]⟩] 66)) (w2.heap.size + 1) 66 leaf0.code := by
    have := Blk.new (w2.alloc (.cells #[.string y.name, .string y.path, .int .i64 y.by_, .int .i64 y.n, .string y.data] 66)) 66 leaf0.code
    simp only [World.size_alloc] at this
    exact this
  have E5 : Ext w1 ((w2.alloc (.cells #[.string y.name, .string y.path, .int .i64 y.by_, .int .i64 y.n, .string y.data] 66)).alloc (.cells #[.string ⟨#[]⟩, .string ⟨#[]⟩, .int .i64 0, .int .i64 0, .string ⟨#[]⟩] 66)) := (HX2.out.alloc' _).alloc' _
  generalize (w2.alloc (.cells #[.string y.name, .string y.path, .int .i64 y.by_, .int .i64 y.n, .string y.data] 66)).alloc (.cells #[.string ⟨#[]⟩, .string ⟨#[]⟩, .int .i64 0, .int .i64 0, .string ⟨#[]⟩] 66) = W5 at B5 B7 E5 ⊢
  obtain ⟨a5, ha5⟩ : ∃ a, a = w2.heap.size := ⟨_, rfl⟩
  obtain ⟨a7, ha7⟩ : ∃ a, a = w2.heap.size + 1 := ⟨_, rfl⟩
  rw [← ha7, ← ha5]
  rw [← ha5] at B5
  rw [← ha7] at B7
  have n57 : a5 ≠ a7 := by omega
  have n7 : w1.heap.size ≤ a7 := by have := HX2.out.size; omega
  clear ha5 ha7 HX2 HV
  go_loopw [8] (fun i wr => ∃ (k : Nat) (z : Int), k ≤ m.length ∧ i = .int .i64 z ∧ z = (k : Int) - 1 ∧ Ext w1 wr ∧ Blk wr a5 66 y.code ∧ ∃ y2 : LeafI, Blk wr a7 66 y2.code ∧ BackIs m k y2) (fun i _ => (intOf i + 1).toNat)
  case atStart => exact ⟨m.length, (m.length : Int) - 1, Nat.le_refl _, by go_num, rfl, E5, B5, leaf0, B7, .inl ⟨rfl, rfl⟩⟩
  case round =>
    obtain ⟨k, z, hk, rfl, hz, hE, h5, y2, h7, hM⟩ := hrel
    have g0 := h7.cell (i := 0) (v := .string y2.name) rfl
    have g1 := h7.cell (i := 1) (v := .string y2.path) rfl
    have g2 := h7.cell (i := 2) (v := .int .i64 y2.by_) rfl
    have g3 := h7.cell (i := 3) (v := .int .i64 y2.n) rfl
    have g4 := h7.cell (i := 4) (v := .string y2.data) rfl
    cases k with
    | succ j =>
      obtain rfl : z = (j : Int) := by omega
      clear hz
      obtain ⟨b, o, rfl, lb, hcell⟩ := k3 (by omega)
      obtain ⟨c0, c1, c2, c3, c4⟩ := hcell j (by omega)
      have e0 := hE.cell c0
      have e1 := hE.cell c1
      have e2 := hE.cell c2
      have e3 := hE.cell c3
      have e4 := hE.cell c4
      have lb1 := Nat.lt_of_lt_of_le lb hE.size
      have HXj : Hid (m[j]? = some (m[j]'(by omega))) := List.getElem?_eq_getElem (by omega)
      have z0 := h7.frozen 0
      have z1 := h7.frozen 1
      have z2 := h7.frozen 2
      have z3 := h7.frozen 3
      have z4 := h7.frozen 4
      have lg := h7.lt
      have HE := hid hE
      have H5 := hid h5
      have H7 := hid h7
      clear hcell k3 hE h5 h7 E5 B5 B7 c0 c1 c2 c3 c4
      by_cases hj : j + 1 = m.length
      · have HF : Hid (IsBest m j m.length j) := by unfold Hid; rw [← hj]; exact IsBest.first (by omega)
        have d0 : ((j : Int) == (m.length : Int) - 1) = true := by simp; omega
        generalize m[j]'(by omega) = x at *
        clear hM hj
        go_wp2_with fail
        go_quiet (fail)
        go_wp2_with fail
        exact ⟨⟨j, (j : Int) - 1, by omega, rfl, rfl, (((((HE.out.drewN' _).setCell' (p := ⟨a7, 0, none⟩) n7 _).setCell' (p := ⟨a7, 1, none⟩) n7 _).setCell' (p := ⟨a7, 2, none⟩) n7 _).setCell' (p := ⟨a7, 3, none⟩) n7 _).setCell' (p := ⟨a7, 4, none⟩) n7 _, (((((H5.out.drewN _).far (p := ⟨a7, 0, none⟩) n57 _).far (p := ⟨a7, 1, none⟩) n57 _).far (p := ⟨a7, 2, none⟩) n57 _).far (p := ⟨a7, 3, none⟩) n57 _).far (p := ⟨a7, 4, none⟩) n57 _, x, (((((H7.out.drewN _).set 0 _).set 1 _).set 2 _).set 3 _).set 4 _, .inr ⟨j, HXj.out, HF.out⟩⟩, by simp [intOf]⟩
      · have d0 : ((j : Int) == (m.length : Int) - 1) = false := by simp; omega
        have HM : Hid (∃ mm, m[mm]? = some y2 ∧ IsBest m (j + 1) m.length mm) := by
          rcases hM with ⟨h, _⟩ | h
          · exact absurd h hj
          · exact h
        generalize m[j]'(by omega) = x at *
        clear hM hj
        by_cases hsz : y2.data.size ≤ x.data.size
        · have d1 : decide (y2.data.size ≤ x.data.size) = true := decide_eq_true hsz
          have HF : Hid (IsBest m j m.length j) := by
            obtain ⟨mm, hm1, hm2⟩ := HM.out
            exact hm2.takeL HXj.out hm1 hsz
          clear hsz
          go_wp2_with fail
          go_quiet (fail)
          go_wp2_with fail
          exact ⟨⟨j, (j : Int) - 1, by omega, rfl, rfl, (((((HE.out.drewN' _).setCell' (p := ⟨a7, 0, none⟩) n7 _).setCell' (p := ⟨a7, 1, none⟩) n7 _).setCell' (p := ⟨a7, 2, none⟩) n7 _).setCell' (p := ⟨a7, 3, none⟩) n7 _).setCell' (p := ⟨a7, 4, none⟩) n7 _, (((((H5.out.drewN _).far (p := ⟨a7, 0, none⟩) n57 _).far (p := ⟨a7, 1, none⟩) n57 _).far (p := ⟨a7, 2, none⟩) n57 _).far (p := ⟨a7, 3, none⟩) n57 _).far (p := ⟨a7, 4, none⟩) n57 _, x, (((((H7.out.drewN _).set 0 _).set 1 _).set 2 _).set 3 _).set 4 _, .inr ⟨j, HXj.out, HF.out⟩⟩, by simp [intOf]⟩
        · have d1 : decide (y2.data.size ≤ x.data.size) = false := decide_eq_false hsz
          have HF : Hid (BackIs m j y2) := by
            obtain ⟨mm, hm1, hm2⟩ := HM.out
            exact .inr ⟨mm, hm1, hm2.keepL HXj.out hm1 (by omega)⟩
          clear hsz
          go_wp2_with fail
          go_quiet (fail)
          go_wp2_with fail
          exact ⟨⟨j, (j : Int) - 1, by omega, rfl, rfl, HE.out.drewN' _, H5.out.drewN _, y2, H7.out.drewN _, HF.out⟩, by simp [intOf]⟩
    | zero =>
      have hz0 : decide ((0 : Int) ≤ z) = false := by simp; omega
      obtain rfl := back_most HMy.out hM
      clear hz hM HMy k3 g0 g1 g2 g3 g4
      have hl5 := h5.lt
      have hl7 := h7.lt
      have HE := hid (HX.out.trans hE)
      have H5 := hid h5
      have H7 := hid h7
      clear hE h5 h7 E5 B5 B7 HX
      go_wp2_with fail
      skip
      have B9 := Blk.new wr 55 #[.string ⟨#[]⟩, .int .i64 0, .int .i64 0]
      have E9 := hid (HE.out.alloc' (.cells #[.string ⟨#[]⟩, .int .i64 0, .int .i64 0] 55))
      have G5 := hid (H5.out.alloc (.cells #[.string ⟨#[]⟩, .int .i64 0, .int .i64 0] 55))
      have G7 := hid (H7.out.alloc (.cells #[.string ⟨#[]⟩, .int .i64 0, .int .i64 0] 55))
      generalize wr.alloc (.cells #[.string ⟨#[]⟩, .int .i64 0, .int .i64 0] 55) = W9 at B9 E9 G5 G7 ⊢
      have n95 : a5 ≠ wr.heap.size := by omega
      have n97 : a7 ≠ wr.heap.size := by omega
      have n9 : w.heap.size ≤ wr.heap.size := HE.out.size
      generalize wr.heap.size = a9 at B9 n95 n97 n9 ⊢
      clear hl5 hl7 H5 H7 HE
      go_loopw [10] (fun i wr => ∃ k : Nat, k ≤ us.length ∧ i = .int .i64 k ∧ Ext w wr ∧ Blk wr a5 66 y.code ∧ Blk wr a7 66 y.code ∧ Blk wr a9 55 #[.string ⟨#[]⟩, .int .i64 (sumF (us.take k)), .int .i64 (sumB (us.take k))] ∧ Mild (us.take k)) (fun i _ => us.length - (intOf i).toNat)
      case atStart => exact ⟨0, by omega, rfl, E9.out, G5.out, G7.out, B9, by simp, by simp⟩
      case round =>
        obtain ⟨k, hk, rfl, hE, h5, h7, h9, hMi⟩ := hrel
        clear B9 E9 G5 G7
        by_cases hlt : k < us.length
        · obtain ⟨b, o, hB, lb, hcell⟩ := hu (by omega)
          cases hB
          obtain ⟨c0, c1, c2⟩ := hcell k hlt
          have e0 := hE.cell c0
          have e1 := hE.cell c1
          have e2 := hE.cell c2
          have lb1 := Nat.lt_of_lt_of_le lb hE.size
          have S1 := hid (sumF_succ us k hlt)
          have S2 := hid (sumB_succ us k hlt)
          obtain ⟨m3, m4⟩ := mild_sum hMi k
          rw [List.take_take, Nat.min_self] at m3 m4
          have HMi : Hid ((-1099511627776 ≤ us[k].files ∧ us[k].files ≤ 1099511627776) ∧ (-1099511627776 ≤ us[k].bytes ∧ us[k].bytes ≤ 1099511627776) → Mild (us.take (k + 1))) := fun hr => by
            refine ⟨by rw [List.length_take]; omega, fun u hu => ?_⟩
            rw [List.take_succ_eq_append_getElem hlt] at hu
            rcases List.mem_append.1 hu with hu | hu
            · exact hMi.2 u hu
            · rw [List.mem_singleton.1 hu]; exact hr
          have g0 := h9.cell (i := 0) (v := .string ⟨#[]⟩) rfl
          have g1 := h9.cell (i := 1) (v := .int .i64 (sumF (us.take k))) rfl
          have g2 := h9.cell (i := 2) (v := .int .i64 (sumB (us.take k))) rfl
          have z0 := h9.frozen 0
          have z1 := h9.frozen 1
          have z2 := h9.frozen 2
          have lg := h9.lt
          have HE := hid hE
          have H5 := hid h5
          have H7 := hid h7
          have H9 := hid h9
          clear hcell hu hE h5 h7 h9 c0 c1 c2 hMi hus
          generalize us[k].files = xf at *
          generalize us[k].bytes = xb at *
          generalize us[k].pre = xp at *
          generalize sumF (us.take k) = f0 at *
          generalize sumB (us.take k) = b0 at *
          by_cases p1 : 1099511627776 < xf
          · have q1 : decide (1099511627776 < xf) = true := decide_eq_true p1
            go_wp2_with (go_at_call 27; refine (awake43_c _).mono ?_; rintro e w7 ⟨rfl, hx⟩)
            go_ret
            exact ⟨rfl, (HE.out.alloc' _).trans hx⟩
          · have q1 : decide (1099511627776 < xf) = false := decide_eq_false p1
            by_cases p2 : xf < -1099511627776
            · have q2 : decide (xf < -1099511627776) = true := decide_eq_true p2
              go_wp2_with (go_at_call 27; refine (awake43_c _).mono ?_; rintro e w7 ⟨rfl, hx⟩)
              go_ret
              exact ⟨rfl, (HE.out.alloc' _).trans hx⟩
            · have q2 : decide (xf < -1099511627776) = false := decide_eq_false p2
              by_cases p3 : 1099511627776 < xb
              · have q3 : decide (1099511627776 < xb) = true := decide_eq_true p3
                go_wp2_with (go_at_call 27; refine (awake43_c _).mono ?_; rintro e w7 ⟨rfl, hx⟩)
                go_ret
                exact ⟨rfl, (HE.out.alloc' _).trans hx⟩
              · have q3 : decide (1099511627776 < xb) = false := decide_eq_false p3
                by_cases p4 : xb < -1099511627776
                · have q4 : decide (xb < -1099511627776) = true := decide_eq_true p4
                  go_wp2_with (go_at_call 27; refine (awake43_c _).mono ?_; rintro e w7 ⟨rfl, hx⟩)
                  go_ret
                  exact ⟨rfl, (HE.out.alloc' _).trans hx⟩
                · have q4 : decide (xb < -1099511627776) = false := decide_eq_false p4
                  have HMk := hid (HMi.out ⟨⟨by omega, by omega⟩, by omega, by omega⟩)
                  have r1 : -1099511627776 ≤ xf := by omega
                  have r2 : xf ≤ 1099511627776 := by omega
                  have r3 : -1099511627776 ≤ xb := by omega
                  have r4 : xb ≤ 1099511627776 := by omega
                  clear p1 p2 p3 p4
                  go_wp2_with fail
                  exact ⟨⟨k + 1, by omega, by go_num, (((HE.out.setCell' (p := ⟨a9, 0, none⟩) n9 _).setCell' (p := ⟨a9, 1, none⟩) n9 _).setCell' (p := ⟨a9, 2, none⟩) n9 _).alloc' _, (((H5.out.far (p := ⟨a9, 0, none⟩) n95 _).far (p := ⟨a9, 1, none⟩) n95 _).far (p := ⟨a9, 2, none⟩) n95 _).alloc _, (((H7.out.far (p := ⟨a9, 0, none⟩) n97 _).far (p := ⟨a9, 1, none⟩) n97 _).far (p := ⟨a9, 2, none⟩) n97 _).alloc _, by rw [S1.out, S2.out]; exact (((H9.out.set 0 _).set 1 _).set 2 _).alloc _, HMk.out⟩, by simp [intOf]; omega⟩
        · obtain rfl : k = us.length := by omega
          rw [List.take_length] at h9 hMi
          have HSum : Hid (∀ W, Ext w W → Calls Try.prog 34 #[.slice B us.length d] W (Ret (.agg #[.string ⟨#[]⟩, .int .i64 (sumF us), .int .i64 (sumB us)]) W)) := fun W he => usum_c W _ us (hus.ext he) hMi
          have s50 := h5.cell (i := 0) (v := .string y.name) rfl
          have s51 := h5.cell (i := 1) (v := .string y.path) rfl
          have s52 := h5.cell (i := 2) (v := .int .i64 y.by_) rfl
          have s53 := h5.cell (i := 3) (v := .int .i64 y.n) rfl
          have s54 := h5.cell (i := 4) (v := .string y.data) rfl
          have s70 := h7.cell (i := 0) (v := .string y.name) rfl
          have s71 := h7.cell (i := 1) (v := .string y.path) rfl
          have s72 := h7.cell (i := 2) (v := .int .i64 y.by_) rfl
          have s73 := h7.cell (i := 3) (v := .int .i64 y.n) rfl
          have s74 := h7.cell (i := 4) (v := .string y.data) rfl
          have s90 := h9.cell (i := 0) (v := .string ⟨#[]⟩) rfl
          have s91 := h9.cell (i := 1) (v := .int .i64 (sumF us)) rfl
          have s92 := h9.cell (i := 2) (v := .int .i64 (sumB us)) rfl
          have l5 := h5.lt
          have l7 := h7.lt
          have l9 := h9.lt
          have HE := hid hE
          clear hE h5 h7 h9 hMi hu hus
          generalize sumF us = sf at *
          generalize sumB us = sb at *
          go_wp2_with fail
          refine wp_region_any_order (by kernel_rfl) (by kernel_rfl) (by kernel_rfl) ?_
          repeat (first
            | (refine AWq.val rfl rfl rfl rfl (fun K hK => ?_); go_big_quiet_op; refine hK _ ?_; clear hK K)
            | (refine AWq.skip rfl rfl rfl ?_; simp only [Act.put, List.setIfInBounds_toArray, List.set_cons_succ, List.set_cons_zero])
            | (refine AWq.call rfl Try.func27 (by kernel_rfl) (by kernel_rfl) rfl rfl rfl ?_; apply Exists.intro; refine And.intro (fun wc hc => ?_) ?_; (· (simp only [argsOf, anyAt, ↓reduceIte, Nat.reduceEqDiff, Array.getD_eq_getD_getElem?, List.getElem?_toArray, List.getElem?_cons_succ, List.getElem?_cons_zero, Option.getD_some]; with_reducible exact awake43_c _)); simp only [Act.put, List.setIfInBounds_toArray, List.set_cons_succ, List.set_cons_zero])
            | (refine AWq.call rfl Try.func34 (by kernel_rfl) (by kernel_rfl) rfl rfl rfl ?_; apply Exists.intro; refine And.intro (fun wc hc => ?_) ?_; (· (simp only [argsOf, anyAt, ↓reduceIte, Nat.reduceEqDiff, Array.getD_eq_getD_getElem?, List.getElem?_toArray, List.getElem?_cons_succ, List.getElem?_cons_zero, Option.getD_some]; with_reducible exact HSum.out _ (HE.out.trans hc))); simp only [Act.put, List.setIfInBounds_toArray, List.set_cons_succ, List.set_cons_zero]))
          refine AWq.done rfl rfl rfl (fun w10 h10 => ?_)
          simp only [closeAny, Act.put, List.setIfInBounds_toArray, List.set_cons_succ, List.set_cons_zero]
          go_wp2_with fail
          go_ret
          exact ⟨rfl, HE.out.trans h10⟩
set_option maxRecDepth 100000 in
set_option maxHeartbeats 4000000 in
theorem usageMost_walk_long (w : World) (v : Value) (l : List LeafI) (h : Sl w 5 v (Leaves l)) (b0 o0 N : Nat) (B : Option Addr) (hBd : B = some ⟨b0, o0, none⟩) (d : Nat) (us : List UseI) (hus : Sl w 3 (.slice B us.length d) (Uses us)) (hN : 50 < N) (hNd : N ≤ d) (hL : us.length = 50) (hdm : d ≤ maxLen) (hu : 0 < us.length → ∃ b o, B = some ⟨b, o, none⟩ ∧ b < w.heap.size ∧ ∀ k (h : k < us.length), w.cell? ⟨b, o + k * 3, none⟩ = some (.string us[k].pre) ∧ w.cell? ⟨b, o + k * 3 + 1, none⟩ = some (.int .i64 us[k].files) ∧ w.cell? ⟨b, o + k * 3 + 2, none⟩ = some (.int .i64 us[k].bytes)) :
    Calls Try.prog 9 #[v, .slice (some ⟨b0, o0, none⟩) N d] w (Ret (.bool true) w) := by
  have HF := hid (few_c w v l h)
  have hf := few100_few l
  generalize fewK l = m at HF hf
  have hm100 := hf.1
  have HMo : Hid (∀ W v, Sl W 5 v (Leaves m) → Calls Try.prog 35 #[v] W (fun e w' => (∃ y, MostIs m m.length y ∧ e = .returned (.tuple #[.agg #[.string y.name, .string y.path, .int .i64 y.by_, .int .i64 y.n, .string y.data], .bool (decide (0 < m.length))])) ∧ Ext W w')) := fun W v h => most_c W v m h hf.slim
  clear h
  have d0 : decide ((50 : Int) < (N : Int)) = true := by simp; omega
  have hud : us.length ≤ d := by omega
  have hul : us.length ≤ 50 := by omega
  have hv : Value.slice (some ⟨b0, o0, none⟩) 50 d = Value.slice B us.length d := by rw [hBd, hL]
  have HVV := hid hv
  clear hv hBd hL
  unfold maxLen at hdm
  go_enter Try.func9, Try.ntmps9
  go_wp2_with (first
    | (go_at_call 28; refine (HF.out).mono ?_; rintro e w1 ⟨v1, rfl, hv, hx⟩; obtain ⟨A, c, rfl, k1, k2, k3⟩ := sl_leaf hv; have HV := hid hv; have HX := hid hx; clear hv hx)
    | (go_at_call 35; refine (HMo.out _ _ HV.out).mono ?_; rintro e w2 ⟨⟨y, hM, rfl⟩, hx⟩; have HMy := hid hM; have HX2 := hid hx; clear hx hM))
  clear HMo HF
  unfold maxLen at k2
  have B5 : Blk ((w2.alloc (.cells #[.string y.name, .string y.path, .int .i64 y.by_, .int .i64 y.n, .string y.data] 66)).alloc (.cells #[.string ⟨#[]⟩, .string ⟨#[]⟩, .int .i64 0, .int .i64 0, .string ⟨#[]⟩] 66)) w2.heap.size 66 y.code := (Blk.new w2 _ _).alloc _
  have B7 : Blk ((w2.alloc (.cells #[.string y.name, .string y.path, .int .i64 y.by_, .int .i64 y.n, .string y.data] 66)).alloc (.cells #[.string ⟨#[]⟩, .string ⟨#[]⟩, .int .i64 0, .int .i64 0, .string ⟨#[]⟩] 66)) (w2.heap.size + 1) 66 leaf0.code := by
    have := Blk.new (w2.alloc (.cells #[.string y.name, .string y.path, .int .i64 y.by_, .int .i64 y.n, .string y.data] 66)) 66 leaf0.code
    simp only [World.size_alloc] at this
    exact this
  have E5 : Ext w1 ((w2.alloc (.cells #[.string y.name, .string y.path, .int .i64 y.by_, .int .i64 y.n, .string y.data] 66)).alloc (.cells #[.string ⟨#[]⟩, .string ⟨#[]⟩, .int .i64 0, .int .i64 0, .string ⟨#[]⟩] 66)) := (HX2.out.alloc' _).alloc' _
  generalize (w2.alloc (.cells #[.string y.name, .string y.path, .int .i64 y.by_, .int .i64 y.n, .string y.data] 66)).alloc (.cells #[.string ⟨#[]⟩, .string ⟨#[]⟩, .int .i64 0, .int .i64 0, .string ⟨#[]⟩] 66) = W5 at B5 B7 E5 ⊢
  obtain ⟨a5, ha5⟩ : ∃ a, a = w2.heap.size := ⟨_, rfl⟩
  obtain ⟨a7, ha7⟩ : ∃ a, a = w2.heap.size + 1 := ⟨_, rfl⟩
  rw [← ha7, ← ha5]
  rw [← ha5] at B5
  rw [← ha7] at B7
  have n57 : a5 ≠ a7 := by omega
  have n7 : w1.heap.size ≤ a7 := by have := HX2.out.size; omega
  clear ha5 ha7 HX2 HV
  go_loopw [8] (fun i wr => ∃ (k : Nat) (z : Int), k ≤ m.length ∧ i = .int .i64 z ∧ z = (k : Int) - 1 ∧ Ext w1 wr ∧ Blk wr a5 66 y.code ∧ ∃ y2 : LeafI, Blk wr a7 66 y2.code ∧ BackIs m k y2) (fun i _ => (intOf i + 1).toNat)
  case atStart => exact ⟨m.length, (m.length : Int) - 1, Nat.le_refl _, by go_num, rfl, E5, B5, leaf0, B7, .inl ⟨rfl, rfl⟩⟩
  case round =>
    obtain ⟨k, z, hk, rfl, hz, hE, h5, y2, h7, hM⟩ := hrel
    have g0 := h7.cell (i := 0) (v := .string y2.name) rfl
    have g1 := h7.cell (i := 1) (v := .string y2.path) rfl
    have g2 := h7.cell (i := 2) (v := .int .i64 y2.by_) rfl
    have g3 := h7.cell (i := 3) (v := .int .i64 y2.n) rfl
    have g4 := h7.cell (i := 4) (v := .string y2.data) rfl
    cases k with
    | succ j =>
      obtain rfl : z = (j : Int) := by omega
      clear hz
      obtain ⟨b, o, rfl, lb, hcell⟩ := k3 (by omega)
      obtain ⟨c0, c1, c2, c3, c4⟩ := hcell j (by omega)
      have e0 := hE.cell c0
      have e1 := hE.cell c1
      have e2 := hE.cell c2
      have e3 := hE.cell c3
      have e4 := hE.cell c4
      have lb1 := Nat.lt_of_lt_of_le lb hE.size
      have HXj : Hid (m[j]? = some (m[j]'(by omega))) := List.getElem?_eq_getElem (by omega)
      have z0 := h7.frozen 0
      have z1 := h7.frozen 1
      have z2 := h7.frozen 2
      have z3 := h7.frozen 3
      have z4 := h7.frozen 4
      have lg := h7.lt
      have HE := hid hE
      have H5 := hid h5
      have H7 := hid h7
      clear hcell k3 hE h5 h7 E5 B5 B7 c0 c1 c2 c3 c4
      by_cases hj : j + 1 = m.length
      · have HF : Hid (IsBest m j m.length j) := by unfold Hid; rw [← hj]; exact IsBest.first (by omega)
        have d0 : ((j : Int) == (m.length : Int) - 1) = true := by simp; omega
        generalize m[j]'(by omega) = x at *
        clear hM hj
        go_wp2_with fail
        go_quiet (fail)
        go_wp2_with fail
        exact ⟨⟨j, (j : Int) - 1, by omega, rfl, rfl, (((((HE.out.drewN' _).setCell' (p := ⟨a7, 0, none⟩) n7 _).setCell' (p := ⟨a7, 1, none⟩) n7 _).setCell' (p := ⟨a7, 2, none⟩) n7 _).setCell' (p := ⟨a7, 3, none⟩) n7 _).setCell' (p := ⟨a7, 4, none⟩) n7 _, (((((H5.out.drewN _).far (p := ⟨a7, 0, none⟩) n57 _).far (p := ⟨a7, 1, none⟩) n57 _).far (p := ⟨a7, 2, none⟩) n57 _).far (p := ⟨a7, 3, none⟩) n57 _).far (p := ⟨a7, 4, none⟩) n57 _, x, (((((H7.out.drewN _).set 0 _).set 1 _).set 2 _).set 3 _).set 4 _, .inr ⟨j, HXj.out, HF.out⟩⟩, by simp [intOf]⟩
      · have d0 : ((j : Int) == (m.length : Int) - 1) = false := by simp; omega
        have HM : Hid (∃ mm, m[mm]? = some y2 ∧ IsBest m (j + 1) m.length mm) := by
          rcases hM with ⟨h, _⟩ | h
          · exact absurd h hj
          · exact h
        generalize m[j]'(by omega) = x at *
        clear hM hj
        by_cases hsz : y2.data.size ≤ x.data.size
        · have d1 : decide (y2.data.size ≤ x.data.size) = true := decide_eq_true hsz
          have HF : Hid (IsBest m j m.length j) := by
            obtain ⟨mm, hm1, hm2⟩ := HM.out
            exact hm2.takeL HXj.out hm1 hsz
          clear hsz
          go_wp2_with fail
          go_quiet (fail)
          go_wp2_with fail
          exact ⟨⟨j, (j : Int) - 1, by omega, rfl, rfl, (((((HE.out.drewN' _).setCell' (p := ⟨a7, 0, none⟩) n7 _).setCell' (p := ⟨a7, 1, none⟩) n7 _).setCell' (p := ⟨a7, 2, none⟩) n7 _).setCell' (p := ⟨a7, 3, none⟩) n7 _).setCell' (p := ⟨a7, 4, none⟩) n7 _, (((((H5.out.drewN _).far (p := ⟨a7, 0, none⟩) n57 _).far (p := ⟨a7, 1, none⟩) n57 _).far (p := ⟨a7, 2, none⟩) n57 _).far (p := ⟨a7, 3, none⟩) n57 _).far (p := ⟨a7, 4, none⟩) n57 _, x, (((((H7.out.drewN _).set 0 _).set 1 _).set 2 _).set 3 _).set 4 _, .inr ⟨j, HXj.out, HF.out⟩⟩, by simp [intOf]⟩
        · have d1 : decide (y2.data.size ≤ x.data.size) = false := decide_eq_false hsz
          have HF : Hid (BackIs m j y2) := by
            obtain ⟨mm, hm1, hm2⟩ := HM.out
            exact .inr ⟨mm, hm1, hm2.keepL HXj.out hm1 (by omega)⟩
          clear hsz
          go_wp2_with fail
          go_quiet (fail)
          go_wp2_with fail
          exact ⟨⟨j, (j : Int) - 1, by omega, rfl, rfl, HE.out.drewN' _, H5.out.drewN _, y2, H7.out.drewN _, HF.out⟩, by simp [intOf]⟩
    | zero =>
      have hz0 : decide ((0 : Int) ≤ z) = false := by simp; omega
      obtain rfl := back_most HMy.out hM
      clear hz hM HMy k3 g0 g1 g2 g3 g4
      have hl5 := h5.lt
      have hl7 := h7.lt
      have HE := hid (HX.out.trans hE)
      have H5 := hid h5
      have H7 := hid h7
      clear hE h5 h7 E5 B5 B7 HX
      go_wp2_with fail
      (rw [HVV.out]; clear d0 hN)
      have B9 := Blk.new wr 55 #[.string ⟨#[]⟩, .int .i64 0, .int .i64 0]
      have E9 := hid (HE.out.alloc' (.cells #[.string ⟨#[]⟩, .int .i64 0, .int .i64 0] 55))
      have G5 := hid (H5.out.alloc (.cells #[.string ⟨#[]⟩, .int .i64 0, .int .i64 0] 55))
      have G7 := hid (H7.out.alloc (.cells #[.string ⟨#[]⟩, .int .i64 0, .int .i64 0] 55))
      generalize wr.alloc (.cells #[.string ⟨#[]⟩, .int .i64 0, .int .i64 0] 55) = W9 at B9 E9 G5 G7 ⊢
      have n95 : a5 ≠ wr.heap.size := by omega
      have n97 : a7 ≠ wr.heap.size := by omega
      have n9 : w.heap.size ≤ wr.heap.size := HE.out.size
      generalize wr.heap.size = a9 at B9 n95 n97 n9 ⊢
      clear hl5 hl7 H5 H7 HE
      go_loopw [10] (fun i wr => ∃ k : Nat, k ≤ us.length ∧ i = .int .i64 k ∧ Ext w wr ∧ Blk wr a5 66 y.code ∧ Blk wr a7 66 y.code ∧ Blk wr a9 55 #[.string ⟨#[]⟩, .int .i64 (sumF (us.take k)), .int .i64 (sumB (us.take k))] ∧ Mild (us.take k)) (fun i _ => us.length - (intOf i).toNat)
      case atStart => exact ⟨0, by omega, rfl, E9.out, G5.out, G7.out, B9, by simp, by simp⟩
      case round =>
        obtain ⟨k, hk, rfl, hE, h5, h7, h9, hMi⟩ := hrel
        clear B9 E9 G5 G7
        by_cases hlt : k < us.length
        · obtain ⟨b, o, hB, lb, hcell⟩ := hu (by omega)
          cases hB
          obtain ⟨c0, c1, c2⟩ := hcell k hlt
          have e0 := hE.cell c0
          have e1 := hE.cell c1
          have e2 := hE.cell c2
          have lb1 := Nat.lt_of_lt_of_le lb hE.size
          have S1 := hid (sumF_succ us k hlt)
          have S2 := hid (sumB_succ us k hlt)
          obtain ⟨m3, m4⟩ := mild_sum hMi k
          rw [List.take_take, Nat.min_self] at m3 m4
          have HMi : Hid ((-1099511627776 ≤ us[k].files ∧ us[k].files ≤ 1099511627776) ∧ (-1099511627776 ≤ us[k].bytes ∧ us[k].bytes ≤ 1099511627776) → Mild (us.take (k + 1))) := fun hr => by
            refine ⟨by rw [List.length_take]; omega, fun u hu => ?_⟩
            rw [List.take_succ_eq_append_getElem hlt] at hu
            rcases List.mem_append.1 hu with hu | hu
            · exact hMi.2 u hu
            · rw [List.mem_singleton.1 hu]; exact hr
          have g0 := h9.cell (i := 0) (v := .string ⟨#[]⟩) rfl
          have g1 := h9.cell (i := 1) (v := .int .i64 (sumF (us.take k))) rfl
          have g2 := h9.cell (i := 2) (v := .int .i64 (sumB (us.take k))) rfl
          have z0 := h9.frozen 0
          have z1 := h9.frozen 1
          have z2 := h9.frozen 2
          have lg := h9.lt
          have HE := hid hE
          have H5 := hid h5
          have H7 := hid h7
          have H9 := hid h9
          clear hcell hu hE h5 h7 h9 c0 c1 c2 hMi hus
          generalize us[k].files = xf at *
          generalize us[k].bytes = xb at *
          generalize us[k].pre = xp at *
          generalize sumF (us.take k) = f0 at *
          generalize sumB (us.take k) = b0 at *
          by_cases p1 : 1099511627776 < xf
          · have q1 : decide (1099511627776 < xf) = true := decide_eq_true p1
            go_wp2_with (go_at_call 27; refine (awake43_c _).mono ?_; rintro e w7 ⟨rfl, hx⟩)
            go_ret
            exact ⟨rfl, (HE.out.alloc' _).trans hx⟩
          · have q1 : decide (1099511627776 < xf) = false := decide_eq_false p1
            by_cases p2 : xf < -1099511627776
            · have q2 : decide (xf < -1099511627776) = true := decide_eq_true p2
              go_wp2_with (go_at_call 27; refine (awake43_c _).mono ?_; rintro e w7 ⟨rfl, hx⟩)
              go_ret
              exact ⟨rfl, (HE.out.alloc' _).trans hx⟩
            · have q2 : decide (xf < -1099511627776) = false := decide_eq_false p2
              by_cases p3 : 1099511627776 < xb
              · have q3 : decide (1099511627776 < xb) = true := decide_eq_true p3
                go_wp2_with (go_at_call 27; refine (awake43_c _).mono ?_; rintro e w7 ⟨rfl, hx⟩)
                go_ret
                exact ⟨rfl, (HE.out.alloc' _).trans hx⟩
              · have q3 : decide (1099511627776 < xb) = false := decide_eq_false p3
                by_cases p4 : xb < -1099511627776
                · have q4 : decide (xb < -1099511627776) = true := decide_eq_true p4
                  go_wp2_with (go_at_call 27; refine (awake43_c _).mono ?_; rintro e w7 ⟨rfl, hx⟩)
                  go_ret
                  exact ⟨rfl, (HE.out.alloc' _).trans hx⟩
                · have q4 : decide (xb < -1099511627776) = false := decide_eq_false p4
                  have HMk := hid (HMi.out ⟨⟨by omega, by omega⟩, by omega, by omega⟩)
                  have r1 : -1099511627776 ≤ xf := by omega
                  have r2 : xf ≤ 1099511627776 := by omega
                  have r3 : -1099511627776 ≤ xb := by omega
                  have r4 : xb ≤ 1099511627776 := by omega
                  clear p1 p2 p3 p4
                  go_wp2_with fail
                  exact ⟨⟨k + 1, by omega, by go_num, (((HE.out.setCell' (p := ⟨a9, 0, none⟩) n9 _).setCell' (p := ⟨a9, 1, none⟩) n9 _).setCell' (p := ⟨a9, 2, none⟩) n9 _).alloc' _, (((H5.out.far (p := ⟨a9, 0, none⟩) n95 _).far (p := ⟨a9, 1, none⟩) n95 _).far (p := ⟨a9, 2, none⟩) n95 _).alloc _, (((H7.out.far (p := ⟨a9, 0, none⟩) n97 _).far (p := ⟨a9, 1, none⟩) n97 _).far (p := ⟨a9, 2, none⟩) n97 _).alloc _, by rw [S1.out, S2.out]; exact (((H9.out.set 0 _).set 1 _).set 2 _).alloc _, HMk.out⟩, by simp [intOf]; omega⟩
        · obtain rfl : k = us.length := by omega
          rw [List.take_length] at h9 hMi
          have HSum : Hid (∀ W, Ext w W → Calls Try.prog 34 #[.slice B us.length d] W (Ret (.agg #[.string ⟨#[]⟩, .int .i64 (sumF us), .int .i64 (sumB us)]) W)) := fun W he => usum_c W _ us (hus.ext he) hMi
          have s50 := h5.cell (i := 0) (v := .string y.name) rfl
          have s51 := h5.cell (i := 1) (v := .string y.path) rfl
          have s52 := h5.cell (i := 2) (v := .int .i64 y.by_) rfl
          have s53 := h5.cell (i := 3) (v := .int .i64 y.n) rfl
          have s54 := h5.cell (i := 4) (v := .string y.data) rfl
          have s70 := h7.cell (i := 0) (v := .string y.name) rfl
          have s71 := h7.cell (i := 1) (v := .string y.path) rfl
          have s72 := h7.cell (i := 2) (v := .int .i64 y.by_) rfl
          have s73 := h7.cell (i := 3) (v := .int .i64 y.n) rfl
          have s74 := h7.cell (i := 4) (v := .string y.data) rfl
          have s90 := h9.cell (i := 0) (v := .string ⟨#[]⟩) rfl
          have s91 := h9.cell (i := 1) (v := .int .i64 (sumF us)) rfl
          have s92 := h9.cell (i := 2) (v := .int .i64 (sumB us)) rfl
          have l5 := h5.lt
          have l7 := h7.lt
          have l9 := h9.lt
          have HE := hid hE
          clear hE h5 h7 h9 hMi hu hus
          generalize sumF us = sf at *
          generalize sumB us = sb at *
          go_wp2_with fail
          refine wp_region_any_order (by kernel_rfl) (by kernel_rfl) (by kernel_rfl) ?_
          repeat (first
            | (refine AWq.val rfl rfl rfl rfl (fun K hK => ?_); go_big_quiet_op; refine hK _ ?_; clear hK K)
            | (refine AWq.skip rfl rfl rfl ?_; simp only [Act.put, List.setIfInBounds_toArray, List.set_cons_succ, List.set_cons_zero])
            | (refine AWq.call rfl Try.func27 (by kernel_rfl) (by kernel_rfl) rfl rfl rfl ?_; apply Exists.intro; refine And.intro (fun wc hc => ?_) ?_; (· (simp only [argsOf, anyAt, ↓reduceIte, Nat.reduceEqDiff, Array.getD_eq_getD_getElem?, List.getElem?_toArray, List.getElem?_cons_succ, List.getElem?_cons_zero, Option.getD_some]; with_reducible exact awake43_c _)); simp only [Act.put, List.setIfInBounds_toArray, List.set_cons_succ, List.set_cons_zero])
            | (refine AWq.call rfl Try.func34 (by kernel_rfl) (by kernel_rfl) rfl rfl rfl ?_; apply Exists.intro; refine And.intro (fun wc hc => ?_) ?_; (· (simp only [argsOf, anyAt, ↓reduceIte, Nat.reduceEqDiff, Array.getD_eq_getD_getElem?, List.getElem?_toArray, List.getElem?_cons_succ, List.getElem?_cons_zero, Option.getD_some]; with_reducible exact HSum.out _ (HE.out.trans hc))); simp only [Act.put, List.setIfInBounds_toArray, List.set_cons_succ, List.set_cons_zero]))
          refine AWq.done rfl rfl rfl (fun w10 h10 => ?_)
          simp only [closeAny, Act.put, List.setIfInBounds_toArray, List.set_cons_succ, List.set_cons_zero]
          go_wp2_with fail
          go_ret
          exact ⟨rfl, HE.out.trans h10⟩
end Go.Proofs.Ytfoafookodldfaa
