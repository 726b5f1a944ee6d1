/-
  The laws FlangPrints and FlangParses: their walks.
-/
import Derived.Test.YtggbkjmedoooaaaGreatDoorFgRk
import Derived.Test.YtggbkjmedoooaaaGreatDoorFpG
namespace Go.Proofs.YtggbkjmedoooaaaGreatDoor
set_option linter.unusedSimpArgs false
set_option linter.unusedVariables false
open Go.RowKit Go.Sort

set_option maxRecDepth 100000 in
set_option maxHeartbeats 8000000 in
theorem prints_dark (w : World) (v : Value) (f : List ClauseI) (m : Int) (hm : w.cell? ⟨0, 0, none⟩ = some (.int .i64 m)) (h : Sl w 3 v (f.map ClauseI.cells)) (hl : lightF f = false) : Calls Tryz.prog 3 #[v] w (Ret (.bool true) w) := by
  have HLi := fun W (hW : Ext w W) => hid (lightF_c W v f (h.ext hW))
  have HAw := fun W (hW : Ext w W) => hid (awake11_c W m (hW.cell hm))
  rw [hl] at HLi
  clear hl h hm
  go_enter Tryz.func3, Tryz.ntmps3
  go_wp2_with fail
  refine ((HLi _ (Ext.refl w)).out).mono ?_
  rintro en w1 ⟨rfl, x1⟩
  have HX := hid x1
  clear x1
  go_wp2_with fail
  refine ((HAw _ HX.out).out).mono ?_
  rintro en w9 ⟨rfl, x9⟩
  have HX9 := hid (HX.out.trans x9)
  clear x9
  go_wp2_with fail
  go_ret
  exact ⟨rfl, HX9.out⟩
set_option maxRecDepth 100000 in
set_option maxHeartbeats 8000000 in
theorem prints_no (w : World) (v : Value) (f : List ClauseI) (m : Int) (hm : w.cell? ⟨0, 0, none⟩ = some (.int .i64 m)) (h : Sl w 3 v (f.map ClauseI.cells)) (hl : lightF f = true) (hc : checkF f ≠ 0) : Calls Tryz.prog 3 #[v] w (Ret (.bool true) w) := by
  have hlt := (lightF_iff.1 hl).1
  have HLi := fun W (hW : Ext w W) => hid (lightF_c W v f (h.ext hW))
  have HAw := fun W (hW : Ext w W) => hid (awake11_c W m (hW.cell hm))
  have HPr := fun W (hW : Ext w W) => hid (print_no W v f m (hW.cell hm) (h.ext hW) (fun c hc => by have := hlt c hc; omega) hc)
  have HCk := fun W (hW : Ext w W) => hid (fcheckM_c W v f m (hW.cell hm) (h.ext hW) (fun c hc => by have := hlt c hc; omega))
  have d3 : (checkF f != 0) = true := by simp only [bne_iff_ne, ne_eq]; exact hc
  have d4 : (checkF f == 0) = false := by simp only [beq_eq_false_iff_ne, ne_eq]; exact hc
  rw [hl] at HLi
  generalize checkF f = e at HPr HCk d3 d4
  clear hl h hm hlt hc
  go_enter Tryz.func3, Tryz.ntmps3
  go_wp2_with fail
  refine ((HLi _ (Ext.refl w)).out).mono ?_
  rintro en w1 ⟨rfl, x1⟩
  have HX1 := hid x1
  clear x1
  go_wp2_with fail
  refine ((HPr _ HX1.out).out).mono ?_
  rintro en w2 ⟨rfl, x2⟩
  have HX2 := hid (HX1.out.trans x2)
  clear x2
  go_wp2_with fail
  refine ((HCk _ HX2.out).out).mono ?_
  rintro en w3 ⟨rfl, x3⟩
  have HX3 := hid (HX2.out.trans x3)
  clear x3
  go_wp2_with fail
  refine ((HAw _ HX3.out).out).mono ?_
  rintro en w9 ⟨rfl, x9⟩
  have HX9 := hid (HX3.out.trans x9)
  clear x9
  go_wp2_with fail
  go_ret
  exact ⟨rfl, HX9.out⟩
set_option maxRecDepth 100000 in
set_option maxHeartbeats 8000000 in
theorem prints_yes (w : World) (v : Value) (f : List ClauseI) (m : Int) (hm : w.cell? ⟨0, 0, none⟩ = some (.int .i64 m)) (h : Sl w 3 v (f.map ClauseI.cells)) (hl : lightF f = true) (hc : checkF f = 0) : Calls Tryz.prog 3 #[v] w (Ret (.bool true) w) := by
  have hlt := (lightF_iff.1 hl).1
  obtain ⟨hrt, h8⟩ := checkF_right.1 hc
  have HLi := fun W (hW : Ext w W) => hid (lightF_c W v f (h.ext hW))
  have HAw := fun W (hW : Ext w W) => hid (awake11_c W m (hW.cell hm))
  have HPr := fun W (hW : Ext w W) => hid (print_ok W v f m (hW.cell hm) (h.ext hW) hc)
  have HCk := fun W (hW : Ext w W) => hid (fcheckM_c W v f m (hW.cell hm) (h.ext hW) (fun c hc => by have := hlt c hc; omega))
  have HTx := fun W (hW : Ext w W) => hid (rtext_c W v f (h.ext hW) h8 (okf_right hrt))
  have hpar := parR_text hrt h8
  rw [hc] at HCk
  rw [hl] at HLi
  have HV := hid h
  by_cases hbig : 512 < (textF f).size
  · have HPa := fun W (hW : Ext w W) => hid (parse_big W (textF f) hbig)
    have d1 : decide ((512 : Int) < (textF f).size) = true := decide_eq_true (by omega)
    have d1' : decide (512 < (textF f).size) = true := decide_eq_true hbig
    generalize textF f = tx at HPr HPa HTx d1 d1'
    clear hl h hm hlt hc hrt h8 hpar hbig
    go_enter Tryz.func3, Tryz.ntmps3
    go_wp2_with fail
    refine ((HLi _ (Ext.refl w)).out).mono ?_
    rintro en w1 ⟨rfl, x1⟩
    have HX1 := hid x1
    clear x1
    go_wp2_with fail
    refine ((HPr _ HX1.out).out).mono ?_
    rintro en w2 ⟨rfl, x2⟩
    have HX2 := hid (HX1.out.trans x2)
    clear x2
    go_wp2_with fail
    refine ((HCk _ HX2.out).out).mono ?_
    rintro en w3 ⟨rfl, x3⟩
    have HX3 := hid (HX2.out.trans x3)
    clear x3
    go_wp2_with fail
    refine ((HPa _ HX3.out).out).mono ?_
    rintro en w4 ⟨rfl, x4⟩
    have HX4 := hid (HX3.out.trans x4)
    clear x4
    go_wp2_with fail
    refine ((HAw _ HX4.out).out).mono ?_
    rintro en w9 ⟨rfl, x9⟩
    have HX9 := hid (HX4.out.trans x9)
    clear x9
    go_wp2_with fail
    refine ((HTx _ HX9.out).out).mono ?_
    rintro en w5 ⟨rfl, x5⟩
    have HX5 := hid (HX9.out.trans x5)
    clear x5
    go_wp2_with fail
    go_ret
    exact ⟨rfl, HX5.out⟩
  · have HPa := fun W (hW : Ext w W) => hid (parse_c W (textF f) m (hW.cell hm) (by omega))
    have d1 : decide ((512 : Int) < (textF f).size) = false := decide_eq_false (by omega)
    have d1' : decide (512 < (textF f).size) = false := decide_eq_false hbig
    rw [hpar] at HPa
    generalize textF f = tx at HPr HPa HTx d1 d1'
    have HEq := fun W u (hW : Ext w W) (hu : Sl W 3 u (f.map ClauseI.cells)) => hid (requal_c W u v f f hu (h.ext hW))
    simp only [decide_true] at HEq
    clear hl h hm hlt hc hrt h8 hpar hbig
    go_enter Tryz.func3, Tryz.ntmps3
    go_wp2_with fail
    refine ((HLi _ (Ext.refl w)).out).mono ?_
    rintro en w1 ⟨rfl, x1⟩
    have HX1 := hid x1
    clear x1
    go_wp2_with fail
    refine ((HPr _ HX1.out).out).mono ?_
    rintro en w2 ⟨rfl, x2⟩
    have HX2 := hid (HX1.out.trans x2)
    clear x2
    go_wp2_with fail
    refine ((HCk _ HX2.out).out).mono ?_
    rintro en w3 ⟨rfl, x3⟩
    have HX3 := hid (HX2.out.trans x3)
    clear x3
    go_wp2_with fail
    refine ((HPa _ HX3.out).out).mono ?_
    rintro en w4 ⟨x4, (⟨hr, _⟩ | ⟨f', v4, hr, rfl, hv4⟩)⟩
    · cases hr
    · obtain rfl := Option.some.inj hr
      have HX4 := hid (HX3.out.trans x4)
      have HV4 := hid hv4
      clear x4 hr hv4
      go_wp2_with fail
      refine ((HAw _ HX4.out).out).mono ?_
      rintro en w9 ⟨rfl, x9⟩
      have HX9 := hid (HX4.out.trans x9)
      have HV9 := hid (HV4.out.ext x9)
      clear x9
      go_wp2_with fail
      refine ((HTx _ HX9.out).out).mono ?_
      rintro en w5 ⟨rfl, x5⟩
      have HX5 := hid (HX9.out.trans x5)
      have HV5 := hid (HV9.out.ext x5)
      clear x5
      go_wp2_with fail
      refine ((HEq _ _ HX5.out HV5.out).out).mono ?_
      rintro en w6 ⟨rfl, x6⟩
      have HX6 := hid (HX5.out.trans x6)
      clear x6
      go_wp2_with fail
      go_ret
      exact ⟨rfl, HX6.out⟩
theorem prints_walk (w : World) (v : Value) (f : List ClauseI) (m : Int) (hm : w.cell? ⟨0, 0, none⟩ = some (.int .i64 m)) (h : Sl w 3 v (f.map ClauseI.cells)) : Calls Tryz.prog 3 #[v] w (Ret (.bool true) w) := by
  cases hl : lightF f with
  | false => exact prints_dark w v f m hm h hl
  | true =>
    by_cases hc : checkF f = 0
    · exact prints_yes w v f m hm h hl hc
    · exact prints_no w v f m hm h hl hc
set_option maxRecDepth 100000 in
set_option maxHeartbeats 8000000 in
theorem parses_big (w : World) (s : ByteArray) (m : Int) (hm : w.cell? ⟨0, 0, none⟩ = some (.int .i64 m)) (hs : 512 < s.size) : Calls Tryz.prog 4 #[.string s] w (Ret (.bool true) w) := by
  have HPa := fun W => hid (parse_big W s hs)
  have HAw := fun W (hW : Ext w W) => hid (awake11_c W m (hW.cell hm))
  have d1 : decide ((512 : Int) < s.size) = true := decide_eq_true (by omega)
  have d1' : decide (512 < s.size) = true := decide_eq_true hs
  clear hm hs
  go_enter Tryz.func4, Tryz.ntmps4
  go_wp2_with fail
  refine ((HPa _).out).mono ?_
  rintro en w1 ⟨rfl, x1⟩
  have HX1 := hid x1
  clear x1
  go_wp2_with fail
  refine ((HAw _ HX1.out).out).mono ?_
  rintro en w9 ⟨rfl, x9⟩
  have HX9 := hid (HX1.out.trans x9)
  clear x9
  go_wp2_with fail
  go_ret
  exact ⟨rfl, HX9.out⟩
set_option maxRecDepth 100000 in
set_option maxHeartbeats 8000000 in
theorem parses_main (w : World) (s : ByteArray) (m : Int) (hm : w.cell? ⟨0, 0, none⟩ = some (.int .i64 m)) (hs : s.size ≤ 512) : Calls Tryz.prog 4 #[.string s] w (Ret (.bool true) w) := by
  have HPa := hid (parse_c w s m hm hs)
  have HRp := fun W => hid (rparse_c W s (by omega))
  have HAw := fun W (hW : Ext w W) => hid (awake11_c W m (hW.cell hm))
  have d1 : decide ((512 : Int) < s.size) = false := decide_eq_false (by omega)
  have d1' : decide (512 < s.size) = false := decide_eq_false (by omega)
  have HEq := fun W u v (f : List ClauseI) (hu : Sl W 3 u (f.map ClauseI.cells)) (hv : Sl W 3 v (f.map ClauseI.cells)) => hid (requal_c W u v f f hu hv)
  simp only [decide_true] at HEq
  generalize parR s = r at HPa HRp
  clear hm hs
  go_enter Tryz.func4, Tryz.ntmps4
  go_wp2_with fail
  refine (HPa.out).mono ?_
  rintro en w1 ⟨x1, (⟨rfl, rfl⟩ | ⟨f, v, rfl, rfl, hv⟩)⟩
  · have HX1 := hid x1
    clear x1 HPa HEq
    go_wp2_with fail
    refine ((HRp _).out).mono ?_
    rintro en w2 ⟨x2, (⟨_, v2, rfl⟩ | ⟨f, v2, hr, _⟩)⟩
    · have HX2 := hid (HX1.out.trans x2)
      clear x2 HRp
      go_wp2_with fail
      refine ((HAw _ HX2.out).out).mono ?_
      rintro en w9 ⟨rfl, x9⟩
      have HX9 := hid (HX2.out.trans x9)
      clear x9
      go_wp2_with fail
      go_ret
      exact ⟨rfl, HX9.out⟩
    · cases hr
  · have HX1 := hid x1
    have HV1 := hid hv
    obtain ⟨A, c, rfl, a1, a2, _⟩ := sl_get hv
    unfold maxLen at a2
    clear x1 HPa hv
    go_wp2_with fail
    refine ((HRp _).out).mono ?_
    rintro en w2 ⟨x2, (⟨hr, _⟩ | ⟨f', v2, hr, rfl, hv2⟩)⟩
    · cases hr
    · obtain rfl := Option.some.inj hr
      have HX2 := hid (HX1.out.trans x2)
      have HV2 := hid (HV1.out.ext x2)
      have HU2 := hid hv2
      clear x2 HRp hr hv2 HX1 HV1
      go_wp2_with fail
      refine ((HAw _ HX2.out).out).mono ?_
      rintro en w9 ⟨rfl, x9⟩
      have HX9 := hid (HX2.out.trans x9)
      have HV9 := hid (HV2.out.ext x9)
      have HU9 := hid (HU2.out.ext x9)
      clear x9
      go_wp2_with fail
      refine ((HEq _ _ _ _ HV9.out HU9.out).out).mono ?_
      rintro en w6 ⟨rfl, x6⟩
      have HX6 := hid (HX9.out.trans x6)
      clear x6
      go_wp2_with fail
      go_ret
      exact ⟨rfl, HX6.out⟩
theorem parses_walk (w : World) (s : ByteArray) (m : Int) (hm : w.cell? ⟨0, 0, none⟩ = some (.int .i64 m)) : Calls Tryz.prog 4 #[.string s] w (Ret (.bool true) w) := by
  by_cases hs : 512 < s.size
  · exact parses_big w s m hm hs
  · exact parses_main w s m hm (by omega)
end Go.Proofs.YtggbkjmedoooaaaGreatDoor
