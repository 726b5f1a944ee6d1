/-
  The law TreeTells: its walk (written by gen_tells.py).
-/
import Derived.Test.YtjnjamhohnnefaaGreatDoorTrUk
namespace Go.Proofs.YtjnjamhohnnefaaGreatDoor
set_option linter.unusedSimpArgs false
set_option linter.unusedVariables false
open Go.RowKit Go.Sort

set_option maxRecDepth 100000 in
set_option maxHeartbeats 16000000 in
theorem tells_dark (w : World) (m : Int) (hm : w.cell? ⟨0, 0, none⟩ = some (.int .i64 m)) (up : List Int) (Fl : List (List ClauseI)) (A AF : Option Addr) (c cF : Nat) (r s : Int) (hu : Sl w 1 (.slice A up.length c) (Ints up)) (hF : FsAt w AF cF Fl) (hlt : lightT up Fl = false) : Calls Tryz.prog 5 #[.agg #[.slice A up.length c, .slice AF Fl.length cF], .int .i64 r, .int .i64 s] w (Ret (.bool true) w) := by
  have HE0 := hid (Ext.alloc w (.cells #[.slice A up.length c, .slice AF Fl.length cF] 25))
  have HB0 := hid (Blk.new w 25 #[.slice A up.length c, .slice AF Fl.length cF])
  have HAw := fun W (hW : Ext w W) => hid (awake28_c W m (hW.cell hm))
  have HLt := fun W (hW : Ext w W) => hid (light28_c W up Fl A AF c cF (hu.ext hW) (hF.ext hW))
  rw [hlt] at HLt
  clear hm hu hF hlt
  go_enter Tryz.func5, Tryz.ntmps5
  go_wp2_with fail
  generalize w.alloc (.cells #[.slice A up.length c, .slice AF Fl.length cF] 25) = w0 at HE0 HB0 ⊢
  refine ((HLt _ HE0.out).out).mono ?_
  rintro e w1 ⟨rfl, x1⟩
  have X1 := hid (HE0.out.trans x1)
  clear x1 HLt
  go_wp2_with fail
  refine ((HAw _ X1.out).out).mono ?_
  rintro e w2 ⟨rfl, x2⟩
  have X2 := hid (X1.out.trans x2)
  clear x2 HAw
  go_wp2_with fail
  go_ret
  exact ⟨rfl, X2.out⟩
set_option maxRecDepth 100000 in
set_option maxHeartbeats 16000000 in
theorem tells_none (w : World) (m : Int) (hm : w.cell? ⟨0, 0, none⟩ = some (.int .i64 m)) (up : List Int) (Fl : List (List ClauseI)) (A AF : Option Addr) (c cF : Nat) (r s : Int) (hu : Sl w 1 (.slice A up.length c) (Ints up)) (hF : FsAt w AF cF Fl) (hlt : lightT up Fl = true) (e0 : checkT up Fl ≠ 0) : Calls Tryz.prog 5 #[.agg #[.slice A up.length c, .slice AF Fl.length cF], .int .i64 r, .int .i64 s] w (Ret (.bool true) w) := by
  have HE0 := hid (Ext.alloc w (.cells #[.slice A up.length c, .slice AF Fl.length cF] 25))
  have HB0 := hid (Blk.new w 25 #[.slice A up.length c, .slice AF Fl.length cF])
  have HAw := fun W (hW : Ext w W) => hid (awake28_c W m (hW.cell hm))
  have HLt := fun W (hW : Ext w W) => hid (light28_c W up Fl A AF c cF (hu.ext hW) (hF.ext hW))
  have ht : TreeAt w up Fl A AF c cF := lightT_tree hlt m hm hu hF
  rw [hlt] at HLt
  have HCk := fun W (hW : Ext w W) => hid (rcheck28_c W up Fl A AF c cF (ht.u.ext hW) ht.l (ht.f.ext hW) ht.L)
  have HRo := fun W (hW : Ext w W) => hid (root_c W up Fl A AF c cF (ht.ext hW))
  have HDe := fun W (hW : Ext w W) => hid (deepest_c W up Fl A AF c cF (ht.ext hW))
  have HDp := fun W (hW : Ext w W) => hid (depth_c W up Fl A AF c cF r (ht.ext hW))
  have HBe := fun W (hW : Ext w W) => hid (below_c W up Fl A AF c cF r (ht.ext hW))
  have HUn := fun W (hW : Ext w W) => hid (underOf_c W up Fl A AF c cF r (ht.ext hW))
  have HLi := fun W (hW : Ext w W) => hid (linked_c W up Fl A AF c cF r s (ht.ext hW))
  have hl := ht.l
  have HbeL : (belowT up Fl r).length ≤ 1000 := Nat.le_trans (some_len _ _ _) hl
  have HunL : (underT up Fl r).length ≤ 1000 := Nat.le_trans (some_len _ _ _) hl
  obtain ⟨h1, h2⟩ := ht.cap
  unfold maxLen at h2
  have hs := fun P : Int → Bool => (show someT up Fl P = [] by unfold someT; rw [if_neg e0])
  have e1 : rootT up Fl = 0 := by unfold rootT; rw [hs]; rfl
  have e2 : deepT up Fl = 0 := by unfold deepT; rw [hs]; rfl
  have e3 : depthT up Fl r = 0 := by unfold depthT; rw [if_neg (fun h => e0 h.1)]
  have e4 : linkT up Fl r s = false := by unfold linkT; rw [show (checkT up Fl == 0) = false by simp [e0], Bool.false_and]
  have e5 : belowT up Fl r = [] := by unfold belowT; rw [hs]
  have e6 : underT up Fl r = [] := by unfold underT; rw [hs]
  rw [e1] at HRo
  rw [e2] at HDe
  rw [e3] at HDp
  rw [e4] at HLi
  rw [e5] at HBe HbeL
  rw [e6] at HUn HunL
  clear hm hu hF hlt ht hs e1 e2 e3 e4 e5 e6
  generalize checkT up Fl = ck at HCk e0
  have d0 : (ck == 0) = false := by simp [e0]
  generalize hbe : ([] : List Int) = be at HBe HbeL
  generalize hun : ([] : List Int) = un at HUn HunL
  have H1 := hid hbe
  have H2 := hid hun
  clear e0 hbe hun
  go_enter Tryz.func5, Tryz.ntmps5
  go_wp2_with fail
  generalize w.alloc (.cells #[.slice A up.length c, .slice AF Fl.length cF] 25) = w0 at HE0 HB0 ⊢
  generalize w.heap.size = g at HB0 ⊢
  refine ((HLt _ HE0.out).out).mono ?_
  rintro e w1 ⟨rfl, x1⟩
  have X1 := hid (HE0.out.trans x1)
  have HB1 := hid (HB0.out.ext x1)
  have a1 := HB1.out.cell (i := 0) (v := .slice A up.length c) rfl
  have b1 := HB1.out.cell (i := 1) (v := .slice AF Fl.length cF) rfl
  have l1 := HB1.out.lt
  clear x1 HLt HB0 HE0
  go_wp2_with fail
  refine ((HCk _ X1.out).out).mono ?_
  rintro e w2 ⟨rfl, x2⟩
  have X2 := hid (X1.out.trans x2)
  have HB2 := hid (HB1.out.ext x2)
  have a2 := HB2.out.cell (i := 0) (v := .slice A up.length c) rfl
  have b2 := HB2.out.cell (i := 1) (v := .slice AF Fl.length cF) rfl
  have l2 := HB2.out.lt
  clear x2 HCk HB1 a1 b1 l1
  go_wp2_with fail
  go_loopw [8, 9, 10, 11, 12] (fun s8 s9 s10 s11 s12 wr => s8 = .int .i64 0 ∧ s9 = .int .i64 0 ∧ s10 = .slice none 0 0 ∧ s11 = .slice none 0 0 ∧ s12 = .int .i64 0 ∧ wr = w2) (fun _ _ _ _ _ _ => 0)
  case atStart => exact ⟨rfl, rfl, rfl, rfl, rfl, rfl⟩
  case round =>
    obtain ⟨rfl, rfl, rfl, rfl, rfl, rfl⟩ := hrel
    have H10 : Hid (Sl wr 1 (.slice none 0 0) (Ints be)) := by rw [← H1.out]; exact Sl.nil _ _
    have H11 : Hid (Sl wr 1 (.slice none 0 0) (Ints un)) := by rw [← H2.out]; exact Sl.nil _ _
    clear H1 H2
    cases dn : decide (0 < up.length) with
    | false =>
      have dn' : decide ((0 : Int) < up.length) = false := by simp at dn ⊢; omega
      go_wp2_with fail
      refine ((HAw _ X2.out).out).mono ?_
      rintro e wt0 ⟨rfl, xt0⟩
      have Xt0 := hid (X2.out.trans xt0)
      have HBt0 := hid (HB2.out.ext xt0)
      have at0 := HBt0.out.cell (i := 0) (v := .slice A up.length c) rfl
      have bt0 := HBt0.out.cell (i := 1) (v := .slice AF Fl.length cF) rfl
      have lt0 := HBt0.out.lt
      have H10 := hid (H10.out.ext xt0)
      have H11 := hid (H11.out.ext xt0)
      clear xt0
      go_wp2_with fail
      refine ((HRo _ Xt0.out).out).mono ?_
      rintro e wt1 ⟨rfl, xt1⟩
      have Xt1 := hid (Xt0.out.trans xt1)
      have HBt1 := hid (HBt0.out.ext xt1)
      have at1 := HBt1.out.cell (i := 0) (v := .slice A up.length c) rfl
      have bt1 := HBt1.out.cell (i := 1) (v := .slice AF Fl.length cF) rfl
      have lt1 := HBt1.out.lt
      have H10 := hid (H10.out.ext xt1)
      have H11 := hid (H11.out.ext xt1)
      clear xt1
      clear at0 bt0 lt0 HBt0
      go_wp2_with fail
      refine ((HDe _ Xt1.out).out).mono ?_
      rintro e wt2 ⟨rfl, xt2⟩
      have Xt2 := hid (Xt1.out.trans xt2)
      have HBt2 := hid (HBt1.out.ext xt2)
      have at2 := HBt2.out.cell (i := 0) (v := .slice A up.length c) rfl
      have bt2 := HBt2.out.cell (i := 1) (v := .slice AF Fl.length cF) rfl
      have lt2 := HBt2.out.lt
      have H10 := hid (H10.out.ext xt2)
      have H11 := hid (H11.out.ext xt2)
      clear xt2
      clear at1 bt1 lt1 HBt1
      go_wp2_with fail
      refine ((HDp _ Xt2.out).out).mono ?_
      rintro e wt3 ⟨rfl, xt3⟩
      have Xt3 := hid (Xt2.out.trans xt3)
      have HBt3 := hid (HBt2.out.ext xt3)
      have at3 := HBt3.out.cell (i := 0) (v := .slice A up.length c) rfl
      have bt3 := HBt3.out.cell (i := 1) (v := .slice AF Fl.length cF) rfl
      have lt3 := HBt3.out.lt
      have H10 := hid (H10.out.ext xt3)
      have H11 := hid (H11.out.ext xt3)
      clear xt3
      clear at2 bt2 lt2 HBt2
      go_wp2_with fail
      refine ((HBe _ Xt3.out).out).mono ?_
      rintro e wt4 ⟨vt4, rfl, hvt4, xt4⟩
      have Xt4 := hid (Xt3.out.trans xt4)
      have HV := hid hvt4
      have HBt4 := hid (HBt3.out.ext xt4)
      have at4 := HBt4.out.cell (i := 0) (v := .slice A up.length c) rfl
      have bt4 := HBt4.out.cell (i := 1) (v := .slice AF Fl.length cF) rfl
      have lt4 := HBt4.out.lt
      have H10 := hid (H10.out.ext xt4)
      have H11 := hid (H11.out.ext xt4)
      clear xt4 hvt4
      clear at3 bt3 lt3 HBt3
      go_wp2_with fail
      refine (rints_c _ _ _ be HV.out H10.out HbeL).mono ?_
      rintro e wt5 ⟨rfl, xt5⟩
      have Xt5 := hid (Xt4.out.trans xt5)
      have HBt5 := hid (HBt4.out.ext xt5)
      have at5 := HBt5.out.cell (i := 0) (v := .slice A up.length c) rfl
      have bt5 := HBt5.out.cell (i := 1) (v := .slice AF Fl.length cF) rfl
      have lt5 := HBt5.out.lt
      have H11 := hid (H11.out.ext xt5)
      clear xt5
      clear at4 bt4 lt4 HBt4
      clear HV
      go_wp2_with fail
      refine ((HUn _ Xt5.out).out).mono ?_
      rintro e wt6 ⟨vt6, rfl, hvt6, xt6⟩
      have Xt6 := hid (Xt5.out.trans xt6)
      have HV := hid hvt6
      have HBt6 := hid (HBt5.out.ext xt6)
      have at6 := HBt6.out.cell (i := 0) (v := .slice A up.length c) rfl
      have bt6 := HBt6.out.cell (i := 1) (v := .slice AF Fl.length cF) rfl
      have lt6 := HBt6.out.lt
      have H11 := hid (H11.out.ext xt6)
      clear xt6 hvt6
      clear at5 bt5 lt5 HBt5
      go_wp2_with fail
      refine (rints_c _ _ _ un HV.out H11.out HunL).mono ?_
      rintro e wt7 ⟨rfl, xt7⟩
      have Xt7 := hid (Xt6.out.trans xt7)
      have HBt7 := hid (HBt6.out.ext xt7)
      have at7 := HBt7.out.cell (i := 0) (v := .slice A up.length c) rfl
      have bt7 := HBt7.out.cell (i := 1) (v := .slice AF Fl.length cF) rfl
      have lt7 := HBt7.out.lt
      clear xt7
      clear at6 bt6 lt6 HBt6
      clear HV
      go_wp2_with fail
      refine ((HLi _ Xt7.out).out).mono ?_
      rintro e wt8 ⟨rfl, xt8⟩
      have Xt8 := hid (Xt7.out.trans xt8)
      have HBt8 := hid (HBt7.out.ext xt8)
      have at8 := HBt8.out.cell (i := 0) (v := .slice A up.length c) rfl
      have bt8 := HBt8.out.cell (i := 1) (v := .slice AF Fl.length cF) rfl
      have lt8 := HBt8.out.lt
      clear xt8
      clear at7 bt7 lt7 HBt7
      go_wp2_with fail
      go_ret
      exact ⟨by simp, Xt8.out⟩
    | true =>
      have dn' : decide ((0 : Int) < up.length) = true := by simp at dn ⊢; omega
      go_wp2_with fail
      refine ((HAw _ X2.out).out).mono ?_
      rintro e wt0 ⟨rfl, xt0⟩
      have Xt0 := hid (X2.out.trans xt0)
      have HBt0 := hid (HB2.out.ext xt0)
      have at0 := HBt0.out.cell (i := 0) (v := .slice A up.length c) rfl
      have bt0 := HBt0.out.cell (i := 1) (v := .slice AF Fl.length cF) rfl
      have lt0 := HBt0.out.lt
      have H10 := hid (H10.out.ext xt0)
      have H11 := hid (H11.out.ext xt0)
      clear xt0
      go_wp2_with fail
      refine ((HRo _ Xt0.out).out).mono ?_
      rintro e wt1 ⟨rfl, xt1⟩
      have Xt1 := hid (Xt0.out.trans xt1)
      have HBt1 := hid (HBt0.out.ext xt1)
      have at1 := HBt1.out.cell (i := 0) (v := .slice A up.length c) rfl
      have bt1 := HBt1.out.cell (i := 1) (v := .slice AF Fl.length cF) rfl
      have lt1 := HBt1.out.lt
      have H10 := hid (H10.out.ext xt1)
      have H11 := hid (H11.out.ext xt1)
      clear xt1
      clear at0 bt0 lt0 HBt0
      go_wp2_with fail
      refine ((HDe _ Xt1.out).out).mono ?_
      rintro e wt2 ⟨rfl, xt2⟩
      have Xt2 := hid (Xt1.out.trans xt2)
      have HBt2 := hid (HBt1.out.ext xt2)
      have at2 := HBt2.out.cell (i := 0) (v := .slice A up.length c) rfl
      have bt2 := HBt2.out.cell (i := 1) (v := .slice AF Fl.length cF) rfl
      have lt2 := HBt2.out.lt
      have H10 := hid (H10.out.ext xt2)
      have H11 := hid (H11.out.ext xt2)
      clear xt2
      clear at1 bt1 lt1 HBt1
      go_wp2_with fail
      refine ((HDp _ Xt2.out).out).mono ?_
      rintro e wt3 ⟨rfl, xt3⟩
      have Xt3 := hid (Xt2.out.trans xt3)
      have HBt3 := hid (HBt2.out.ext xt3)
      have at3 := HBt3.out.cell (i := 0) (v := .slice A up.length c) rfl
      have bt3 := HBt3.out.cell (i := 1) (v := .slice AF Fl.length cF) rfl
      have lt3 := HBt3.out.lt
      have H10 := hid (H10.out.ext xt3)
      have H11 := hid (H11.out.ext xt3)
      clear xt3
      clear at2 bt2 lt2 HBt2
      go_wp2_with fail
      refine ((HBe _ Xt3.out).out).mono ?_
      rintro e wt4 ⟨vt4, rfl, hvt4, xt4⟩
      have Xt4 := hid (Xt3.out.trans xt4)
      have HV := hid hvt4
      have HBt4 := hid (HBt3.out.ext xt4)
      have at4 := HBt4.out.cell (i := 0) (v := .slice A up.length c) rfl
      have bt4 := HBt4.out.cell (i := 1) (v := .slice AF Fl.length cF) rfl
      have lt4 := HBt4.out.lt
      have H10 := hid (H10.out.ext xt4)
      have H11 := hid (H11.out.ext xt4)
      clear xt4 hvt4
      clear at3 bt3 lt3 HBt3
      go_wp2_with fail
      refine (rints_c _ _ _ be HV.out H10.out HbeL).mono ?_
      rintro e wt5 ⟨rfl, xt5⟩
      have Xt5 := hid (Xt4.out.trans xt5)
      have HBt5 := hid (HBt4.out.ext xt5)
      have at5 := HBt5.out.cell (i := 0) (v := .slice A up.length c) rfl
      have bt5 := HBt5.out.cell (i := 1) (v := .slice AF Fl.length cF) rfl
      have lt5 := HBt5.out.lt
      have H11 := hid (H11.out.ext xt5)
      clear xt5
      clear at4 bt4 lt4 HBt4
      clear HV
      go_wp2_with fail
      refine ((HUn _ Xt5.out).out).mono ?_
      rintro e wt6 ⟨vt6, rfl, hvt6, xt6⟩
      have Xt6 := hid (Xt5.out.trans xt6)
      have HV := hid hvt6
      have HBt6 := hid (HBt5.out.ext xt6)
      have at6 := HBt6.out.cell (i := 0) (v := .slice A up.length c) rfl
      have bt6 := HBt6.out.cell (i := 1) (v := .slice AF Fl.length cF) rfl
      have lt6 := HBt6.out.lt
      have H11 := hid (H11.out.ext xt6)
      clear xt6 hvt6
      clear at5 bt5 lt5 HBt5
      go_wp2_with fail
      refine (rints_c _ _ _ un HV.out H11.out HunL).mono ?_
      rintro e wt7 ⟨rfl, xt7⟩
      have Xt7 := hid (Xt6.out.trans xt7)
      have HBt7 := hid (HBt6.out.ext xt7)
      have at7 := HBt7.out.cell (i := 0) (v := .slice A up.length c) rfl
      have bt7 := HBt7.out.cell (i := 1) (v := .slice AF Fl.length cF) rfl
      have lt7 := HBt7.out.lt
      clear xt7
      clear at6 bt6 lt6 HBt6
      clear HV
      go_wp2_with fail
      refine ((HLi _ Xt7.out).out).mono ?_
      rintro e wt8 ⟨rfl, xt8⟩
      have Xt8 := hid (Xt7.out.trans xt8)
      have HBt8 := hid (HBt7.out.ext xt8)
      have at8 := HBt8.out.cell (i := 0) (v := .slice A up.length c) rfl
      have bt8 := HBt8.out.cell (i := 1) (v := .slice AF Fl.length cF) rfl
      have lt8 := HBt8.out.lt
      clear xt8
      clear at7 bt7 lt7 HBt7
      go_wp2_with fail
      go_ret
      exact ⟨by simp, Xt8.out⟩
end Go.Proofs.YtjnjamhohnnefaaGreatDoor
