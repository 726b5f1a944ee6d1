/-
  The law RouteEdges.
-/
import Derived.Test.YtjnjamhohnnefaaGreatDoorPkM
import Derived.Test.YtjnjamhohnnefaaGreatDoorPkH
namespace Go.Proofs.YtjnjamhohnnefaaGreatDoor
set_option linter.unusedSimpArgs false
set_option linter.unusedVariables false
open Go.RowKit Go.Sort

theorem eqE_no {a1 a2 b1 b2 : Int} (h : eqE a1 a2 b1 b2 = false) : ¬ (a1 = b1 ∧ a2 = b2) := fun ⟨h1, h2⟩ => by
  subst h1 h2
  rw [eqE_self] at h
  cases h
/-- The next pair stands at its place. -/
theorem edge_at {up : List Int} {k : Nat} (h : k < up.length) (h0 : up[k] ≠ 0) : (edgeK up k).length < (edgeK up up.length).length ∧ (edgeK up up.length)[(edgeK up k).length]? = some (up[k], (k : Int) + 1) := by
  have hp : ∀ j, k + 1 ≤ j → j ≤ up.length → ∃ r, edgeK up j = edgeK up (k + 1) ++ r := fun j => by
    induction j with
    | zero => intro h; omega
    | succ j ih =>
      intro h1 h2
      by_cases hj : j = k
      · subst hj; exact ⟨[], by simp⟩
      · obtain ⟨r, hr⟩ := ih (by omega) (by omega)
        rw [edgeK_step (by omega), hr, List.append_assoc]
        exact ⟨_, rfl⟩
  obtain ⟨r, hr⟩ := hp up.length (by omega) (Nat.le_refl _)
  rw [edgeK_step h, if_neg h0, List.append_assoc] at hr
  rw [hr]
  refine ⟨by first | (simp; done) | (simp; omega), ?_⟩
  rw [List.getElem?_append_right (Nat.le_refl _), Nat.sub_self]; rfl
set_option maxRecDepth 100000 in
set_option maxHeartbeats 16000000 in
theorem edges_dark (w : World) (m : Int) (hm : w.cell? ⟨0, 0, none⟩ = some (.int .i64 m)) (up : List Int) (Fl : List (List ClauseI)) (A AF : Option Addr) (c cF : Nat) (hu : Sl w 1 (.slice A up.length c) (Ints up)) (hF : FsAt w AF cF Fl) (hlt : lightT up Fl = false) : Calls Tryz.prog 7 #[.agg #[.slice A up.length c, .slice AF Fl.length cF]] w (Ret (.bool true) w) := by
  have HE0 := hid (Ext.alloc w (.cells #[.slice A up.length c, .slice AF Fl.length cF] 25))
  have HB0 := hid (Blk.new w 25 #[.slice A up.length c, .slice AF Fl.length cF])
  have HAw := fun W (hW : Ext w W) => hid (awake39_c W m (hW.cell hm))
  have HLt := fun W (hW : Ext w W) => hid (light28_c W up Fl A AF c cF (hu.ext hW) (hF.ext hW))
  rw [hlt] at HLt
  clear hm hu hF hlt
  go_enter Tryz.func7, Tryz.ntmps7
  go_wp2_with fail
  generalize w.alloc (.cells #[.slice A up.length c, .slice AF Fl.length cF] 25) = w0 at HE0 HB0 ⊢
  generalize w.heap.size = g at HB0 ⊢
  have a0 := HB0.out.cell (i := 0) (v := .slice A up.length c) rfl
  have b0 := HB0.out.cell (i := 1) (v := .slice AF Fl.length cF) rfl
  have l0 := HB0.out.lt
  have X0 := hid HE0.out
  refine ((HLt _ X0.out).out).mono ?_
  rintro e w1 ⟨rfl, x1⟩
  have X1 := hid (X0.out.trans x1)
  have HB1 := hid (HB0.out.ext x1)
  have a1 := HB1.out.cell (i := 0) (v := .slice A up.length c) rfl
  have b1 := HB1.out.cell (i := 1) (v := .slice AF Fl.length cF) rfl
  have l1 := HB1.out.lt
  clear x1 HB0 a0 b0 l0
  clear HLt
  go_wp2_with fail
  refine ((HAw _ X1.out).out).mono ?_
  rintro e w2 ⟨rfl, x2⟩
  have X2 := hid (X1.out.trans x2)
  clear x2
  go_wp2_with fail
  go_ret
  exact ⟨rfl, X2.out⟩
set_option maxRecDepth 100000 in
set_option maxHeartbeats 16000000 in
theorem edges_none (w : World) (m : Int) (hm : w.cell? ⟨0, 0, none⟩ = some (.int .i64 m)) (up : List Int) (Fl : List (List ClauseI)) (A AF : Option Addr) (c cF : Nat) (hu : Sl w 1 (.slice A up.length c) (Ints up)) (hF : FsAt w AF cF Fl) (hlt : lightT up Fl = true) (e0 : checkT up Fl ≠ 0) : Calls Tryz.prog 7 #[.agg #[.slice A up.length c, .slice AF Fl.length cF]] w (Ret (.bool true) w) := by
  have HE0 := hid (Ext.alloc w (.cells #[.slice A up.length c, .slice AF Fl.length cF] 25))
  have HB0 := hid (Blk.new w 25 #[.slice A up.length c, .slice AF Fl.length cF])
  have HAw := fun W (hW : Ext w W) => hid (awake39_c W m (hW.cell hm))
  have HLt := fun W (hW : Ext w W) => hid (light28_c W up Fl A AF c cF (hu.ext hW) (hF.ext hW))
  have ht : TreeAt w up Fl A AF c cF := lightT_tree hlt m hm hu hF
  rw [hlt] at HLt
  have HEd := fun W (hW : Ext w W) => hid (edges39_c W up Fl A AF c cF (ht.ext hW))
  have HCk := fun W (hW : Ext w W) => hid (rcheck28_c W up Fl A AF c cF (ht.u.ext hW) ht.l (ht.f.ext hW) ht.L)
  obtain ⟨h1, h2⟩ := ht.cap
  have hl := ht.l
  unfold maxLen at h2
  have ee : edgeT up Fl = [] := if_neg e0
  rw [ee] at HEd
  have d0 : (checkT up Fl == 0) = false := by simp [e0]
  clear hm hu hF hlt ht ee e0
  generalize checkT up Fl = ck at HCk d0
  go_enter Tryz.func7, Tryz.ntmps7
  go_wp2_with fail
  generalize w.alloc (.cells #[.slice A up.length c, .slice AF Fl.length cF] 25) = w0 at HE0 HB0 ⊢
  generalize w.heap.size = g at HB0 ⊢
  have a0 := HB0.out.cell (i := 0) (v := .slice A up.length c) rfl
  have b0 := HB0.out.cell (i := 1) (v := .slice AF Fl.length cF) rfl
  have l0 := HB0.out.lt
  have X0 := hid HE0.out
  refine ((HLt _ X0.out).out).mono ?_
  rintro e w1 ⟨rfl, x1⟩
  have X1 := hid (X0.out.trans x1)
  have HB1 := hid (HB0.out.ext x1)
  have a1 := HB1.out.cell (i := 0) (v := .slice A up.length c) rfl
  have b1 := HB1.out.cell (i := 1) (v := .slice AF Fl.length cF) rfl
  have l1 := HB1.out.lt
  clear x1 HB0 a0 b0 l0
  clear HLt
  go_wp2_with fail
  refine ((HEd _ X1.out).out).mono ?_
  rintro e w2 ⟨v2, rfl, hv2, x2⟩
  obtain ⟨A2, c2, rfl, _⟩ := hv2
  have X2 := hid (X1.out.trans x2)
  have HB2 := hid (HB1.out.ext x2)
  have a2 := HB2.out.cell (i := 0) (v := .slice A up.length c) rfl
  have b2 := HB2.out.cell (i := 1) (v := .slice AF Fl.length cF) rfl
  have l2 := HB2.out.lt
  clear x2 HB1 a1 b1 l1
  clear HEd
  simp only [List.map_nil, List.length_nil]
  go_wp2_with fail
  go_loopw [4, 5] (fun s4 s5 wr => s4 = .int .i64 0 ∧ s5 = .int .i64 0 ∧ wr = w2) (fun _ _ _ => 0)
  case atStart => exact ⟨rfl, rfl, rfl⟩
  case round =>
    obtain ⟨rfl, rfl, rfl⟩ := hrel
    cases dn : decide (0 < up.length) with
    | false =>
      have dn' : decide ((0 : Int) < up.length) = false := by simp at dn ⊢; omega
      clear HCk
      go_wp2_with fail
      refine ((HAw _ X2.out).out).mono ?_
      rintro e w3 ⟨rfl, x3⟩
      have X3 := hid (X2.out.trans x3)
      clear x3
      go_wp2_with fail
      go_ret
      exact ⟨rfl, X3.out⟩
    | true =>
      have dn' : decide ((0 : Int) < up.length) = true := by simp at dn ⊢; omega
      go_wp2_with fail
      refine ((HCk _ X2.out).out).mono ?_
      rintro e w3 ⟨rfl, x3⟩
      have X3 := hid (X2.out.trans x3)
      have HB3 := hid (HB2.out.ext x3)
      have a3 := HB3.out.cell (i := 0) (v := .slice A up.length c) rfl
      have b3 := HB3.out.cell (i := 1) (v := .slice AF Fl.length cF) rfl
      have l3 := HB3.out.lt
      clear x3 HB2 a2 b2 l2
      clear HCk
      go_wp2_with fail
      refine ((HAw _ X3.out).out).mono ?_
      rintro e w4 ⟨rfl, x4⟩
      have X4 := hid (X3.out.trans x4)
      clear x4
      go_wp2_with fail
      go_ret
      exact ⟨rfl, X4.out⟩
set_option maxRecDepth 100000 in
set_option maxHeartbeats 16000000 in
theorem edges_tree (w : World) (m : Int) (hm : w.cell? ⟨0, 0, none⟩ = some (.int .i64 m)) (up : List Int) (Fl : List (List ClauseI)) (A AF : Option Addr) (c cF : Nat) (hu : Sl w 1 (.slice A up.length c) (Ints up)) (hF : FsAt w AF cF Fl) (hlt : lightT up Fl = true) (e0 : checkT up Fl = 0) : Calls Tryz.prog 7 #[.agg #[.slice A up.length c, .slice AF Fl.length cF]] w (Ret (.bool true) w) := by
  have HE0 := hid (Ext.alloc w (.cells #[.slice A up.length c, .slice AF Fl.length cF] 25))
  have HB0 := hid (Blk.new w 25 #[.slice A up.length c, .slice AF Fl.length cF])
  have HAw := fun W (hW : Ext w W) => hid (awake39_c W m (hW.cell hm))
  have HLt := fun W (hW : Ext w W) => hid (light28_c W up Fl A AF c cF (hu.ext hW) (hF.ext hW))
  have ht : TreeAt w up Fl A AF c cF := lightT_tree hlt m hm hu hF
  rw [hlt] at HLt
  have HEd := fun W (hW : Ext w W) => hid (edges39_c W up Fl A AF c cF (ht.ext hW))
  have HCk := fun W (hW : Ext w W) => hid (rcheck28_c W up Fl A AF c cF (ht.u.ext hW) ht.l (ht.f.ext hW) ht.L)
  have HU := hid hu
  obtain ⟨h1, h2⟩ := ht.cap
  have hl := ht.l
  unfold maxLen at h2
  have ee : edgeT up Fl = edgeK up up.length := if_pos e0
  rw [ee] at HEd
  rw [e0] at HCk
  have HAt := hid (fun k (h : k < up.length) h0 => edge_at (up := up) h h0)
  have HSt := hid (fun k (h : k < up.length) => edgeK_step (up := up) h)
  have hEl := edgeK_len up up.length
  have hz := edgeK_zero up
  clear hm hu hF hlt ht ee e0
  generalize hEK : edgeK up = EK at HEd HAt HSt hEl hz
  have HKl : Hid (∀ k, k ≤ up.length → (EK k).length ≤ k) := fun k _ => by rw [← hEK]; exact edgeK_len up k
  clear hEK
  generalize hL : EK up.length = L at HEd HAt hEl
  have HL := hid hL
  clear hL
  go_enter Tryz.func7, Tryz.ntmps7
  go_wp2_with fail
  generalize w.alloc (.cells #[.slice A up.length c, .slice AF Fl.length cF] 25) = w0 at HE0 HB0 ⊢
  generalize w.heap.size = g at HB0 ⊢
  have a0 := HB0.out.cell (i := 0) (v := .slice A up.length c) rfl
  have b0 := HB0.out.cell (i := 1) (v := .slice AF Fl.length cF) rfl
  have l0 := HB0.out.lt
  have X0 := hid HE0.out
  refine ((HLt _ X0.out).out).mono ?_
  rintro e w1 ⟨rfl, x1⟩
  have X1 := hid (X0.out.trans x1)
  have HB1 := hid (HB0.out.ext x1)
  have a1 := HB1.out.cell (i := 0) (v := .slice A up.length c) rfl
  have b1 := HB1.out.cell (i := 1) (v := .slice AF Fl.length cF) rfl
  have l1 := HB1.out.lt
  clear x1 HB0 a0 b0 l0
  clear HLt
  go_wp2_with fail
  refine ((HEd _ X1.out).out).mono ?_
  rintro e w2 ⟨v2, rfl, hv2, x2⟩
  obtain ⟨A2, c2, rfl, p1, p2, hc2⟩ := sl_get hv2
  unfold maxLen at p2
  have X2 := hid (X1.out.trans x2)
  have HB2 := hid (HB1.out.ext x2)
  have a2 := HB2.out.cell (i := 0) (v := .slice A up.length c) rfl
  have b2 := HB2.out.cell (i := 1) (v := .slice AF Fl.length cF) rfl
  have l2 := HB2.out.lt
  clear x2 HB1 a1 b1 l1
  clear HEd hv2
  go_wp2_with fail
  go_loopw [4, 5] (fun s4 s5 wr => ∃ k : Nat, k ≤ up.length ∧ s5 = .int .i64 k ∧ s4 = .int .i64 (EK k).length ∧ Ext w2 wr) (fun _ s5 _ => up.length - (intOf s5).toNat)
  case atStart => exact ⟨0, by omega, rfl, by rw [hz]; rfl, Ext.refl _⟩
  case round =>
    obtain ⟨k, hk, rfl, rfl, hE⟩ := hrel
    have HE := hid hE
    have XR := hid (X2.out.trans hE)
    have HBR := hid (HB2.out.ext hE)
    have aR := HBR.out.cell (i := 0) (v := .slice A up.length c) rfl
    have bR := HBR.out.cell (i := 1) (v := .slice AF Fl.length cF) rfl
    have lR := HBR.out.lt
    clear a2 b2 l2
    by_cases hlt : k < up.length
    · have dk : decide (k < up.length) = true := decide_eq_true hlt
      have HS := hid (HSt.out k hlt)
      have HA := hid (HAt.out k hlt)
      obtain ⟨A', c', hv, q1, q2, q3⟩ := HU.out
      injection hv with hA hn hc
      subst hA hc
      simp only [Ints, List.length_map] at q1 q3
      obtain ⟨b, o, rfl, lb, hcell⟩ := q3 (by omega)
      have HCell := hid (hcell k [.int .i64 up[k]] 0 (.int .i64 up[k]) (by simp [hlt]) rfl)
      clear hcell q3 q1 q2 hn hE HU HAt HSt hz HAw
      generalize up[k] = z at HS HA HCell
      go_wp2_with fail
      refine ((HCk _ XR.out).out).mono ?_
      rintro e w3 ⟨rfl, x3⟩
      have c0 := (XR.out.trans x3).cell HCell.out
      simp only [Nat.mul_one, Nat.add_zero] at c0
      have lbr := Nat.lt_of_lt_of_le lb (XR.out.trans x3).size
      have HE3 := hid (HE.out.trans x3)
      have HB3 := hid (HBR.out.ext x3)
      have a3 := HB3.out.cell (i := 0) (v := .slice (some ⟨b, o, none⟩) up.length c) rfl
      have b3 := HB3.out.cell (i := 1) (v := .slice AF Fl.length cF) rfl
      have l3 := HB3.out.lt
      clear x3 HCk HBR aR bR lR HE
      by_cases h0 : z = 0
      · subst h0
        clear HA
        go_wp2_with fail
        go_roundw
        case rel => exact ⟨k + 1, by omega, by go_num, by rw [HS.out, if_pos trivial, List.append_nil], HE3.out⟩
        case measure => simp [intOf]; omega
      · have d0 : (z == 0) = false := by simp [h0]
        obtain ⟨hlen, hat⟩ := HA.out h0
        obtain ⟨hi, he⟩ := List.getElem?_eq_some_iff.1 hat
        obtain ⟨b8, o8, rfl, l8, hcell8⟩ := hc2 (by omega)
        have k0 := HE3.out.cell (hcell8 _ hi 0 (.int .i64 z) (by rw [he]; rfl))
        have k1 := HE3.out.cell (hcell8 _ hi 1 (.int .i64 ((k : Int) + 1)) (by rw [he]; rfl))
        have kl := Nat.lt_of_lt_of_le l8 HE3.out.size
        simp only [Nat.add_zero] at k0
        have hq : eqE z ((k : Int) + 1) z ((k : Int) + 1) = true := eqE_self _ _
        have HS := hid (show (EK (k + 1)).length = (EK k).length + 1 by rw [HS.out, if_neg h0, List.length_append]; rfl)
        clear HA h0 hat he hcell8 hc2
        generalize (EK k).length = n at *
        have dn : decide (L.length ≤ n) = false := decide_eq_false (by omega)
        have dn' : decide ((L.length : Int) ≤ n) = false := decide_eq_false (by omega)
        go_wp2_with fail
        refine wp_region_any_order (by kernel_rfl) (by kernel_rfl) (by kernel_rfl) ?_
        repeat (first
          | (refine AWq.val rfl rfl rfl rfl (fun K hK => ?_); go_big_quiet_op; refine hK _ ?_; clear hK K)
          | (refine AWq.skip rfl rfl rfl ?_; simp only [Act.put, List.setIfInBounds_toArray, List.set_cons_succ, List.set_cons_zero]))
        refine AWq.done rfl rfl rfl (fun w4 x4 => ?_)
        simp only [closeAny, Act.put, List.setIfInBounds_toArray, List.set_cons_succ, List.set_cons_zero]
        go_wp2_with fail
        go_roundw
        case rel => exact ⟨k + 1, by omega, by go_num, by rw [HS.out]; go_num, HE3.out.trans x4⟩
        case measure => simp [intOf]; omega
    · obtain rfl : k = up.length := by omega
      have dk : decide (up.length < up.length) = false := decide_eq_false (by omega)
      rw [HL.out]
      have dq : ((L.length : Int) == L.length) = true := by simp
      clear HSt HAt HU hc2 HCk hE
      go_wp2_with fail
      refine ((HAw _ XR.out).out).mono ?_
      rintro e w5 ⟨rfl, x5⟩
      have X5 := hid (XR.out.trans x5)
      clear x5
      go_wp2_with fail
      go_ret
      exact ⟨rfl, X5.out⟩
end Go.Proofs.YtjnjamhohnnefaaGreatDoor
