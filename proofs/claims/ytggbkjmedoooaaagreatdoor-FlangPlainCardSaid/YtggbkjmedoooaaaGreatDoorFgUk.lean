/-
  The law FlangPlain: its walk.
-/
import Derived.Test.YtggbkjmedoooaaaGreatDoorFgTk
import Derived.Test.YtggbkjmedoooaaaGreatDoorFqGk
import Derived.Test.YtggbkjmedoooaaaGreatDoorFqEk
namespace Go.Proofs.YtggbkjmedoooaaaGreatDoor
set_option linter.unusedSimpArgs false
set_option linter.unusedVariables false
open Go.RowKit Go.Sort

set_option maxRecDepth 100000 in
set_option maxHeartbeats 8000000 in
theorem plain_far (w : World) (s : ByteArray) (v : Value) (f : List ClauseI) (m : Int) (hm : w.cell? ⟨0, 0, none⟩ = some (.int .i64 m)) (hs : 600 < s.size) : Calls Tryz.prog 5 #[.string s, v] w (Ret (.bool true) w) := by
  have HAw := fun W (hW : Ext w W) => hid (awake11_c W m (hW.cell hm))
  have d1 : decide ((600 : Int) < s.size) = true := decide_eq_true (by omega)
  have d1' : decide (600 < s.size) = true := decide_eq_true hs
  have HX := hid (Ext.refl w)
  clear hm hs
  go_enter Tryz.func5, Tryz.ntmps5
  go_wp2_with fail
  refine ((HAw _ HX.out).out).mono ?_
  rintro en w9 ⟨rfl, x9⟩
  have HX9 := hid (HX.out.trans x9)
  clear x9
  go_wp2_with fail
  go_ret
  exact ⟨rfl, HX9.out⟩
set_option maxRecDepth 100000 in
set_option maxHeartbeats 8000000 in
theorem plain_dark (w : World) (s : ByteArray) (v : Value) (f : List ClauseI) (m : Int) (hm : w.cell? ⟨0, 0, none⟩ = some (.int .i64 m)) (hs : s.size ≤ 600) (h : Sl w 3 v (f.map ClauseI.cells)) (hl : lightF f = false) : Calls Tryz.prog 5 #[.string s, v] w (Ret (.bool true) w) := by
  have HLi := fun W (hW : Ext w W) => hid (lightF_c W v f (h.ext hW))
  have HAw := fun W (hW : Ext w W) => hid (awake11_c W m (hW.cell hm))
  have d1 : decide ((600 : Int) < s.size) = false := decide_eq_false (by omega)
  have d1' : decide (600 < s.size) = false := decide_eq_false (by omega)
  rw [hl] at HLi
  clear hl h hm hs
  go_enter Tryz.func5, Tryz.ntmps5
  go_wp2_with fail
  refine ((HLi _ (Ext.refl w)).out).mono ?_
  rintro en w1 ⟨rfl, x1⟩
  have HX := hid x1
  clear x1
  go_wp2_with fail
  refine ((HAw _ HX.out).out).mono ?_
  rintro en w9 ⟨rfl, x9⟩
  have HX9 := hid (HX.out.trans x9)
  clear x9
  go_wp2_with fail
  go_ret
  exact ⟨rfl, HX9.out⟩
set_option maxRecDepth 100000 in
set_option maxHeartbeats 8000000 in
theorem plain_long (w : World) (s : ByteArray) (v : Value) (f : List ClauseI) (m : Int) (hm : w.cell? ⟨0, 0, none⟩ = some (.int .i64 m)) (hs : s.size ≤ 600) (hb : 512 < s.size) (h : Sl w 3 v (f.map ClauseI.cells)) (hl : lightF f = true) : Calls Tryz.prog 5 #[.string s, v] w (Ret (.bool true) w) := by
  have HLi := fun W (hW : Ext w W) => hid (lightF_c W v f (h.ext hW))
  have HAw := fun W (hW : Ext w W) => hid (awake11_c W m (hW.cell hm))
  have HPl := fun W (hW : Ext w W) => hid (plain_big W s hb)
  have HRp := fun W => hid (rparse_c W s (by omega))
  have d1 : decide ((600 : Int) < s.size) = false := decide_eq_false (by omega)
  have d1' : decide (600 < s.size) = false := decide_eq_false (by omega)
  have d2 : decide ((512 : Int) < s.size) = true := decide_eq_true (by omega)
  have d2' : decide (512 < s.size) = true := decide_eq_true hb
  rw [hl] at HLi
  clear hl h hm hs hb
  go_enter Tryz.func5, Tryz.ntmps5
  go_wp2_with fail
  refine ((HLi _ (Ext.refl w)).out).mono ?_
  rintro en w1 ⟨rfl, x1⟩
  have HX1 := hid x1
  clear x1 HLi
  go_wp2_with fail
  refine ((HPl _ HX1.out).out).mono ?_
  rintro en w2 ⟨rfl, x2⟩
  have HX2 := hid (HX1.out.trans x2)
  clear x2 HPl
  go_wp2_with fail
  refine ((HRp _).out).mono ?_
  rintro en w3 ⟨x3, (⟨_, v3, rfl⟩ | ⟨g, v3, _, rfl, _⟩)⟩
  · have HX3 := hid (HX2.out.trans x3)
    clear x3 HRp
    go_wp2_with fail
    refine ((HAw _ HX3.out).out).mono ?_
    rintro en w9 ⟨rfl, x9⟩
    have HX9 := hid (HX3.out.trans x9)
    clear x9
    go_wp2_with fail
    go_ret
    exact ⟨rfl, HX9.out⟩
  · have HX3 := hid (HX2.out.trans x3)
    clear x3 HRp
    go_wp2_with fail
    refine ((HAw _ HX3.out).out).mono ?_
    rintro en w9 ⟨rfl, x9⟩
    have HX9 := hid (HX3.out.trans x9)
    clear x9
    go_wp2_with fail
    go_ret
    exact ⟨rfl, HX9.out⟩
set_option maxRecDepth 100000 in
set_option maxHeartbeats 8000000 in
theorem plain_none (w : World) (s : ByteArray) (v : Value) (f : List ClauseI) (m : Int) (hm : w.cell? ⟨0, 0, none⟩ = some (.int .i64 m)) (hs : s.size ≤ 512) (h : Sl w 3 v (f.map ClauseI.cells)) (hl : lightF f = true) (hr : parR s = none) : Calls Tryz.prog 5 #[.string s, v] w (Ret (.bool true) w) := by
  have HLi := fun W (hW : Ext w W) => hid (lightF_c W v f (h.ext hW))
  have HAw := fun W (hW : Ext w W) => hid (awake11_c W m (hW.cell hm))
  have HPl := fun W (hW : Ext w W) => hid (plain_c W s m (hW.cell hm) hs)
  have HRp := fun W => hid (rparse_c W s (by omega))
  have d1 : decide ((600 : Int) < s.size) = false := decide_eq_false (by omega)
  have d1' : decide (600 < s.size) = false := decide_eq_false (by omega)
  have d2 : decide ((512 : Int) < s.size) = false := decide_eq_false (by omega)
  have d2' : decide (512 < s.size) = false := decide_eq_false (by omega)
  rw [hl] at HLi
  rw [hr] at HPl HRp
  clear hl h hm hs hr
  go_enter Tryz.func5, Tryz.ntmps5
  go_wp2_with fail
  refine ((HLi _ (Ext.refl w)).out).mono ?_
  rintro en w1 ⟨rfl, x1⟩
  have HX1 := hid x1
  clear x1 HLi
  go_wp2_with fail
  refine ((HPl _ HX1.out).out).mono ?_
  rintro en w2 ⟨x2, (⟨_, rfl⟩ | ⟨g, hno, _⟩)⟩
  · have HX2 := hid (HX1.out.trans x2)
    clear x2 HPl
    go_wp2_with fail
    refine ((HRp _).out).mono ?_
    rintro en w3 ⟨x3, (⟨_, v3, rfl⟩ | ⟨g, v3, hno, _⟩)⟩
    · have HX3 := hid (HX2.out.trans x3)
      clear x3 HRp
      go_wp2_with fail
      refine ((HAw _ HX3.out).out).mono ?_
      rintro en w9 ⟨rfl, x9⟩
      have HX9 := hid (HX3.out.trans x9)
      clear x9
      go_wp2_with fail
      go_ret
      exact ⟨rfl, HX9.out⟩
    · cases hno
  · cases hno
set_option maxRecDepth 100000 in
set_option maxHeartbeats 8000000 in
theorem plain_much (w : World) (s : ByteArray) (v : Value) (f g : List ClauseI) (m : Int) (hm : w.cell? ⟨0, 0, none⟩ = some (.int .i64 m)) (hs : s.size ≤ 512) (h : Sl w 3 v (f.map ClauseI.cells)) (hl : lightF f = true) (hr : parR s = some g) (h8 : 8 < (normF g).length) : Calls Tryz.prog 5 #[.string s, v] w (Ret (.bool true) w) := by
  obtain ⟨hgr, hgl⟩ := parR_right hr
  have hglt : LightF g := fun c hc => by have := right_light hgr c hc; omega
  have HLi := fun W (hW : Ext w W) => hid (lightF_c W v f (h.ext hW))
  have HAw := fun W (hW : Ext w W) => hid (awake11_c W m (hW.cell hm))
  have HPl := fun W (hW : Ext w W) => hid (plain_c W s m (hW.cell hm) hs)
  have HRp := fun W => hid (rparse_c W s (by omega))
  have HRn := fun W u (hu : Sl W 3 u (g.map ClauseI.cells)) => hid (rnorm_c W u g hu (by omega) hglt)
  have HTx := fun W u (hu : Sl W 3 u (g.map ClauseI.cells)) => hid (rtext_c W u g hu hgl (okf_right hgr))
  have HPx : Hid (plainF g = textF g) := by unfold Hid plainF; rw [if_neg (by omega)]
  have d1 : decide ((600 : Int) < s.size) = false := decide_eq_false (by omega)
  have d1' : decide (600 < s.size) = false := decide_eq_false (by omega)
  have d2 : decide ((512 : Int) < s.size) = false := decide_eq_false (by omega)
  have d2' : decide (512 < s.size) = false := decide_eq_false (by omega)
  have d3 : decide ((8 : Int) < (normF g).length) = true := decide_eq_true (by omega)
  have d3' : decide (8 < (normF g).length) = true := decide_eq_true h8
  rw [hl] at HLi
  rw [hr] at HPl HRp
  generalize textF g = tx at HTx HPx
  clear hl h hm hs hr h8 hgr hgl hglt
  go_enter Tryz.func5, Tryz.ntmps5
  go_wp2_with fail
  refine ((HLi _ (Ext.refl w)).out).mono ?_
  rintro en w1 ⟨rfl, x1⟩
  have HX1 := hid x1
  clear x1 HLi
  go_wp2_with fail
  refine ((HPl _ HX1.out).out).mono ?_
  rintro en w2 ⟨x2, (⟨hno, _⟩ | ⟨g', hg, rfl⟩)⟩
  · cases hno
  obtain rfl := Option.some.inj hg
  have HX2 := hid (HX1.out.trans x2)
  clear x2 HPl hg HX1
  rw [HPx.out]
  go_wp2_with fail
  refine ((HRp _).out).mono ?_
  rintro en w3 ⟨x3, (⟨hno, _⟩ | ⟨g', v3, hg, rfl, hv3⟩)⟩
  · cases hno
  obtain rfl := Option.some.inj hg
  have HX3 := hid (HX2.out.trans x3)
  have HV3 := hid hv3
  clear x3 HRp hg hv3 HX2
  go_wp2_with fail
  refine ((HRn _ _ HV3.out).out).mono ?_
  rintro en w4 ⟨v4, rfl, hv4, x4⟩
  have HX4 := hid (HX3.out.trans x4)
  have HV4 := hid (HV3.out.ext x4)
  have HN4 := hid hv4.1
  obtain ⟨A4, c4, rfl, b1, b2, _⟩ := sl_get hv4.1
  unfold maxLen at b2
  clear x4 HRn hv4 HX3 HV3
  go_wp2_with fail
  refine ((HAw _ HX4.out).out).mono ?_
  rintro en w9 ⟨rfl, x9⟩
  have HX9 := hid (HX4.out.trans x9)
  have HV9 := hid (HV4.out.ext x9)
  clear x9
  go_wp2_with fail
  refine ((HTx _ _ HV9.out).out).mono ?_
  rintro en w10 ⟨rfl, x10⟩
  have HX10 := hid (HX9.out.trans x10)
  clear x10
  go_wp2_with fail
  go_ret
  exact ⟨rfl, HX10.out⟩
set_option maxRecDepth 100000 in
set_option maxHeartbeats 8000000 in
theorem plain_wrong (w : World) (s : ByteArray) (v : Value) (f g : List ClauseI) (m : Int) (hm : w.cell? ⟨0, 0, none⟩ = some (.int .i64 m)) (hs : s.size ≤ 512) (h : Sl w 3 v (f.map ClauseI.cells)) (hl : lightF f = true) (hr : parR s = some g) (h8 : (normF g).length ≤ 8) (hc : checkF f ≠ 0) : Calls Tryz.prog 5 #[.string s, v] w (Ret (.bool true) w) := by
  obtain ⟨hgr, hgl⟩ := parR_right hr
  have hglt : LightF g := fun c hc => by have := right_light hgr c hc; omega
  have hflt := (lightF_iff.1 hl).1
  have hfl := (lightF_iff.1 hl).2
  have HLi := fun W (hW : Ext w W) => hid (lightF_c W v f (h.ext hW))
  have HAw := fun W (hW : Ext w W) => hid (awake11_c W m (hW.cell hm))
  have HPl := fun W (hW : Ext w W) => hid (plain_c W s m (hW.cell hm) hs)
  have HRp := fun W => hid (rparse_c W s (by omega))
  have HRn := fun W u (hu : Sl W 3 u (g.map ClauseI.cells)) => hid (rnorm_c W u g hu (by omega) hglt)
  have HTn := fun W u (hu : Sl W 3 u ((normF g).map ClauseI.cells)) => hid (rtext_c W u (normF g) hu h8 (okf_right (norm_right hgr)))
  have HPx : Hid (plainF g = textF (normF g)) := by unfold Hid plainF; rw [if_pos h8]
  have d1 : decide ((600 : Int) < s.size) = false := decide_eq_false (by omega)
  have d1' : decide (600 < s.size) = false := decide_eq_false (by omega)
  have d2 : decide ((512 : Int) < s.size) = false := decide_eq_false (by omega)
  have d2' : decide (512 < s.size) = false := decide_eq_false (by omega)
  have d3 : decide ((8 : Int) < (normF g).length) = false := decide_eq_false (by omega)
  have d3' : decide (8 < (normF g).length) = false := decide_eq_false (by omega)
  rw [hl] at HLi
  rw [hr] at HPl HRp
  have HPr := fun W (hW : Ext w W) => hid (print_no W v f m (hW.cell hm) (h.ext hW) (fun c hc => by have := hflt c hc; omega) hc)
  have d5 : (checkF f != 0) = true := by simp only [bne_iff_ne, ne_eq]; exact hc
  have d6 : (checkF f == 0) = false := by simp only [beq_eq_false_iff_ne, ne_eq]; exact hc
  generalize checkF f = e at HPr d5 d6
  generalize textF (normF g) = tx at HTn HPx
  clear hl h hm hs hr h8 hgr hgl hglt hc hflt hfl
  go_enter Tryz.func5, Tryz.ntmps5
  go_wp2_with fail
  refine ((HLi _ (Ext.refl w)).out).mono ?_
  rintro en w1 ⟨rfl, x1⟩
  have HX1 := hid x1
  clear x1 HLi
  go_wp2_with fail
  refine ((HPl _ HX1.out).out).mono ?_
  rintro en w2 ⟨x2, (⟨hno, _⟩ | ⟨g', hg, rfl⟩)⟩
  · cases hno
  obtain rfl := Option.some.inj hg
  have HX2 := hid (HX1.out.trans x2)
  clear x2 HPl hg HX1
  rw [HPx.out]
  go_wp2_with fail
  refine ((HRp _).out).mono ?_
  rintro en w3 ⟨x3, (⟨hno, _⟩ | ⟨g', v3, hg, rfl, hv3⟩)⟩
  · cases hno
  obtain rfl := Option.some.inj hg
  have HX3 := hid (HX2.out.trans x3)
  have HV3 := hid hv3
  clear x3 HRp hg hv3 HX2
  go_wp2_with fail
  refine ((HRn _ _ HV3.out).out).mono ?_
  rintro en w4 ⟨v4, rfl, hv4, x4⟩
  have HX4 := hid (HX3.out.trans x4)
  have HV4 := hid (HV3.out.ext x4)
  have HN4 := hid hv4.1
  obtain ⟨A4, c4, rfl, b1, b2, _⟩ := sl_get hv4.1
  unfold maxLen at b2
  clear x4 HRn hv4 HX3 HV3
  go_wp2_with fail
  refine ((HTn _ _ HN4.out).out).mono ?_
  rintro en w5 ⟨rfl, x5⟩
  have HX5 := hid (HX4.out.trans x5)
  have HV5 := hid (HV4.out.ext x5)
  clear x5 HX4 HV4 HN4 HTn
  go_wp2_with fail
  refine ((HPr _ HX5.out).out).mono ?_
  rintro en w6 ⟨rfl, x6⟩
  have HX6 := hid (HX5.out.trans x6)
  have HV6 := hid (HV5.out.ext x6)
  clear x6 HX5 HV5 HPr
  go_wp2_with fail
  refine ((HAw _ HX6.out).out).mono ?_
  rintro en w9 ⟨rfl, x9⟩
  have HX9 := hid (HX6.out.trans x9)
  clear x9
  go_wp2_with fail
  go_ret
  exact ⟨rfl, HX9.out⟩
set_option maxRecDepth 100000 in
set_option maxHeartbeats 8000000 in
theorem plain_wide (w : World) (s : ByteArray) (v : Value) (f g : List ClauseI) (m : Int) (hm : w.cell? ⟨0, 0, none⟩ = some (.int .i64 m)) (hs : s.size ≤ 512) (h : Sl w 3 v (f.map ClauseI.cells)) (hl : lightF f = true) (hr : parR s = some g) (h8 : (normF g).length ≤ 8) (hc : checkF f = 0) (hb : 512 < (textF f).size) : Calls Tryz.prog 5 #[.string s, v] w (Ret (.bool true) w) := by
  obtain ⟨hgr, hgl⟩ := parR_right hr
  have hglt : LightF g := fun c hc => by have := right_light hgr c hc; omega
  have hflt := (lightF_iff.1 hl).1
  have hfl := (lightF_iff.1 hl).2
  have HLi := fun W (hW : Ext w W) => hid (lightF_c W v f (h.ext hW))
  have HAw := fun W (hW : Ext w W) => hid (awake11_c W m (hW.cell hm))
  have HPl := fun W (hW : Ext w W) => hid (plain_c W s m (hW.cell hm) hs)
  have HRp := fun W => hid (rparse_c W s (by omega))
  have HRn := fun W u (hu : Sl W 3 u (g.map ClauseI.cells)) => hid (rnorm_c W u g hu (by omega) hglt)
  have HTn := fun W u (hu : Sl W 3 u ((normF g).map ClauseI.cells)) => hid (rtext_c W u (normF g) hu h8 (okf_right (norm_right hgr)))
  have HPx : Hid (plainF g = textF (normF g)) := by unfold Hid plainF; rw [if_pos h8]
  have d1 : decide ((600 : Int) < s.size) = false := decide_eq_false (by omega)
  have d1' : decide (600 < s.size) = false := decide_eq_false (by omega)
  have d2 : decide ((512 : Int) < s.size) = false := decide_eq_false (by omega)
  have d2' : decide (512 < s.size) = false := decide_eq_false (by omega)
  have d3 : decide ((8 : Int) < (normF g).length) = false := decide_eq_false (by omega)
  have d3' : decide (8 < (normF g).length) = false := decide_eq_false (by omega)
  rw [hl] at HLi
  rw [hr] at HPl HRp
  have HPr := fun W (hW : Ext w W) => hid (print_ok W v f m (hW.cell hm) (h.ext hW) hc)
  have d5 : decide ((512 : Int) < (textF f).size) = true := decide_eq_true (by omega)
  have d5' : decide (512 < (textF f).size) = true := decide_eq_true hb
  generalize textF f = tf at HPr d5 d5'
  generalize textF (normF g) = tx at HTn HPx
  clear hl h hm hs hr h8 hgr hgl hglt hc hflt hfl hb
  go_enter Tryz.func5, Tryz.ntmps5
  go_wp2_with fail
  refine ((HLi _ (Ext.refl w)).out).mono ?_
  rintro en w1 ⟨rfl, x1⟩
  have HX1 := hid x1
  clear x1 HLi
  go_wp2_with fail
  refine ((HPl _ HX1.out).out).mono ?_
  rintro en w2 ⟨x2, (⟨hno, _⟩ | ⟨g', hg, rfl⟩)⟩
  · cases hno
  obtain rfl := Option.some.inj hg
  have HX2 := hid (HX1.out.trans x2)
  clear x2 HPl hg HX1
  rw [HPx.out]
  go_wp2_with fail
  refine ((HRp _).out).mono ?_
  rintro en w3 ⟨x3, (⟨hno, _⟩ | ⟨g', v3, hg, rfl, hv3⟩)⟩
  · cases hno
  obtain rfl := Option.some.inj hg
  have HX3 := hid (HX2.out.trans x3)
  have HV3 := hid hv3
  clear x3 HRp hg hv3 HX2
  go_wp2_with fail
  refine ((HRn _ _ HV3.out).out).mono ?_
  rintro en w4 ⟨v4, rfl, hv4, x4⟩
  have HX4 := hid (HX3.out.trans x4)
  have HV4 := hid (HV3.out.ext x4)
  have HN4 := hid hv4.1
  obtain ⟨A4, c4, rfl, b1, b2, _⟩ := sl_get hv4.1
  unfold maxLen at b2
  clear x4 HRn hv4 HX3 HV3
  go_wp2_with fail
  refine ((HTn _ _ HN4.out).out).mono ?_
  rintro en w5 ⟨rfl, x5⟩
  have HX5 := hid (HX4.out.trans x5)
  have HV5 := hid (HV4.out.ext x5)
  clear x5 HX4 HV4 HN4 HTn
  go_wp2_with fail
  refine ((HPr _ HX5.out).out).mono ?_
  rintro en w6 ⟨rfl, x6⟩
  have HX6 := hid (HX5.out.trans x6)
  have HV6 := hid (HV5.out.ext x6)
  clear x6 HX5 HV5 HPr
  go_wp2_with fail
  refine ((HAw _ HX6.out).out).mono ?_
  rintro en w9 ⟨rfl, x9⟩
  have HX9 := hid (HX6.out.trans x9)
  clear x9
  go_wp2_with fail
  go_ret
  exact ⟨rfl, HX9.out⟩
set_option maxRecDepth 100000 in
set_option maxHeartbeats 8000000 in
theorem plain_long2 (w : World) (s : ByteArray) (v : Value) (f g : List ClauseI) (m : Int) (hm : w.cell? ⟨0, 0, none⟩ = some (.int .i64 m)) (hs : s.size ≤ 512) (h : Sl w 3 v (f.map ClauseI.cells)) (hl : lightF f = true) (hr : parR s = some g) (h8 : (normF g).length ≤ 8) (hc : checkF f = 0) (hb : (textF f).size ≤ 512) (hn : 8 < (normF f).length) : Calls Tryz.prog 5 #[.string s, v] w (Ret (.bool true) w) := by
  obtain ⟨hgr, hgl⟩ := parR_right hr
  have hglt : LightF g := fun c hc => by have := right_light hgr c hc; omega
  have hflt := (lightF_iff.1 hl).1
  have hfl := (lightF_iff.1 hl).2
  have HLi := fun W (hW : Ext w W) => hid (lightF_c W v f (h.ext hW))
  have HAw := fun W (hW : Ext w W) => hid (awake11_c W m (hW.cell hm))
  have HPl := fun W (hW : Ext w W) => hid (plain_c W s m (hW.cell hm) hs)
  have HRp := fun W => hid (rparse_c W s (by omega))
  have HRn := fun W u (hu : Sl W 3 u (g.map ClauseI.cells)) => hid (rnorm_c W u g hu (by omega) hglt)
  have HTn := fun W u (hu : Sl W 3 u ((normF g).map ClauseI.cells)) => hid (rtext_c W u (normF g) hu h8 (okf_right (norm_right hgr)))
  have HPx : Hid (plainF g = textF (normF g)) := by unfold Hid plainF; rw [if_pos h8]
  have d1 : decide ((600 : Int) < s.size) = false := decide_eq_false (by omega)
  have d1' : decide (600 < s.size) = false := decide_eq_false (by omega)
  have d2 : decide ((512 : Int) < s.size) = false := decide_eq_false (by omega)
  have d2' : decide (512 < s.size) = false := decide_eq_false (by omega)
  have d3 : decide ((8 : Int) < (normF g).length) = false := decide_eq_false (by omega)
  have d3' : decide (8 < (normF g).length) = false := decide_eq_false (by omega)
  rw [hl] at HLi
  rw [hr] at HPl HRp
  have HPr := fun W (hW : Ext w W) => hid (print_ok W v f m (hW.cell hm) (h.ext hW) hc)
  have HRf := fun W (hW : Ext w W) => hid (rnorm_c W v f (h.ext hW) (by omega) hflt)
  have d5 : decide ((512 : Int) < (textF f).size) = false := decide_eq_false (by omega)
  have d5' : decide (512 < (textF f).size) = false := decide_eq_false (by omega)
  have d7 : decide ((8 : Int) < (normF f).length) = true := decide_eq_true (by omega)
  have d7' : decide (8 < (normF f).length) = true := decide_eq_true hn
  generalize textF f = tf at HPr d5 d5'
  generalize textF (normF g) = tx at HTn HPx
  clear hl h hm hs hr h8 hgr hgl hglt hc hflt hfl hb hn
  go_enter Tryz.func5, Tryz.ntmps5
  go_wp2_with fail
  refine ((HLi _ (Ext.refl w)).out).mono ?_
  rintro en w1 ⟨rfl, x1⟩
  have HX1 := hid x1
  clear x1 HLi
  go_wp2_with fail
  refine ((HPl _ HX1.out).out).mono ?_
  rintro en w2 ⟨x2, (⟨hno, _⟩ | ⟨g', hg, rfl⟩)⟩
  · cases hno
  obtain rfl := Option.some.inj hg
  have HX2 := hid (HX1.out.trans x2)
  clear x2 HPl hg HX1
  rw [HPx.out]
  go_wp2_with fail
  refine ((HRp _).out).mono ?_
  rintro en w3 ⟨x3, (⟨hno, _⟩ | ⟨g', v3, hg, rfl, hv3⟩)⟩
  · cases hno
  obtain rfl := Option.some.inj hg
  have HX3 := hid (HX2.out.trans x3)
  have HV3 := hid hv3
  clear x3 HRp hg hv3 HX2
  go_wp2_with fail
  refine ((HRn _ _ HV3.out).out).mono ?_
  rintro en w4 ⟨v4, rfl, hv4, x4⟩
  have HX4 := hid (HX3.out.trans x4)
  have HV4 := hid (HV3.out.ext x4)
  have HN4 := hid hv4.1
  obtain ⟨A4, c4, rfl, b1, b2, _⟩ := sl_get hv4.1
  unfold maxLen at b2
  clear x4 HRn hv4 HX3 HV3
  go_wp2_with fail
  refine ((HTn _ _ HN4.out).out).mono ?_
  rintro en w5 ⟨rfl, x5⟩
  have HX5 := hid (HX4.out.trans x5)
  have HV5 := hid (HV4.out.ext x5)
  clear x5 HX4 HV4 HN4 HTn
  go_wp2_with fail
  refine ((HPr _ HX5.out).out).mono ?_
  rintro en w6 ⟨rfl, x6⟩
  have HX6 := hid (HX5.out.trans x6)
  have HV6 := hid (HV5.out.ext x6)
  clear x6 HX5 HV5 HPr
  go_wp2_with fail
  refine ((HRf _ HX6.out).out).mono ?_
  rintro en w7 ⟨v7, rfl, hv7, x7⟩
  have HX7 := hid (HX6.out.trans x7)
  obtain ⟨A7, c7, rfl, e1, e2, _⟩ := sl_get hv7.1
  unfold maxLen at e2
  clear x7 hv7
  go_wp2_with fail
  refine ((HAw _ HX7.out).out).mono ?_
  rintro en w9 ⟨rfl, x9⟩
  have HX9 := hid (HX7.out.trans x9)
  clear x9
  go_wp2_with fail
  go_ret
  exact ⟨rfl, HX9.out⟩
set_option maxRecDepth 100000 in
set_option maxHeartbeats 8000000 in
theorem plain_main (w : World) (s : ByteArray) (v : Value) (f g : List ClauseI) (m : Int) (hm : w.cell? ⟨0, 0, none⟩ = some (.int .i64 m)) (hs : s.size ≤ 512) (h : Sl w 3 v (f.map ClauseI.cells)) (hl : lightF f = true) (hr : parR s = some g) (h8 : (normF g).length ≤ 8) (hc : checkF f = 0) (hb : (textF f).size ≤ 512) (hn : (normF f).length ≤ 8) : Calls Tryz.prog 5 #[.string s, v] w (Ret (.bool true) w) := by
  obtain ⟨hgr, hgl⟩ := parR_right hr
  have hglt : LightF g := fun c hc => by have := right_light hgr c hc; omega
  have hflt := (lightF_iff.1 hl).1
  have hfl := (lightF_iff.1 hl).2
  have HLi := fun W (hW : Ext w W) => hid (lightF_c W v f (h.ext hW))
  have HAw := fun W (hW : Ext w W) => hid (awake11_c W m (hW.cell hm))
  have HPl := fun W (hW : Ext w W) => hid (plain_c W s m (hW.cell hm) hs)
  have HRp := fun W => hid (rparse_c W s (by omega))
  have HRn := fun W u (hu : Sl W 3 u (g.map ClauseI.cells)) => hid (rnorm_c W u g hu (by omega) hglt)
  have HTn := fun W u (hu : Sl W 3 u ((normF g).map ClauseI.cells)) => hid (rtext_c W u (normF g) hu h8 (okf_right (norm_right hgr)))
  have HPx : Hid (plainF g = textF (normF g)) := by unfold Hid plainF; rw [if_pos h8]
  have d1 : decide ((600 : Int) < s.size) = false := decide_eq_false (by omega)
  have d1' : decide (600 < s.size) = false := decide_eq_false (by omega)
  have d2 : decide ((512 : Int) < s.size) = false := decide_eq_false (by omega)
  have d2' : decide (512 < s.size) = false := decide_eq_false (by omega)
  have d3 : decide ((8 : Int) < (normF g).length) = false := decide_eq_false (by omega)
  have d3' : decide (8 < (normF g).length) = false := decide_eq_false (by omega)
  rw [hl] at HLi
  rw [hr] at HPl HRp
  obtain ⟨hfr, hfl8⟩ := checkF_right.1 hc
  have hpar := parR_text hfr hfl8
  have HPr := fun W (hW : Ext w W) => hid (print_ok W v f m (hW.cell hm) (h.ext hW) hc)
  have HRf := fun W (hW : Ext w W) => hid (rnorm_c W v f (h.ext hW) (by omega) hflt)
  have HPl2 := fun W (hW : Ext w W) => hid (plain_c W (textF f) m (hW.cell hm) hb)
  rw [hpar] at HPl2
  have HPy : Hid (plainF f = textF (normF f)) := by unfold Hid plainF; rw [if_pos hn]
  have HAl := fun W u (hW : Ext w W) (hu : Sl W 3 u (g.map ClauseI.cells)) => hid (ralike_c W v u f g (h.ext hW) hu (by omega) (by omega) hflt hglt)
  have d5 : decide ((512 : Int) < (textF f).size) = false := decide_eq_false (by omega)
  have d5' : decide (512 < (textF f).size) = false := decide_eq_false (by omega)
  have d7 : decide ((8 : Int) < (normF f).length) = false := decide_eq_false (by omega)
  have d7' : decide (8 < (normF f).length) = false := decide_eq_false (by omega)
  have hinj : decide (textF (normF f) = textF (normF g)) = decide (normF f = normF g) := by
    rw [decide_eq_decide]
    exact ⟨fun e => textF_inj (norm_right hfr) (norm_right hgr) hn h8 e, fun e => by rw [e]⟩
  generalize decide (normF f = normF g) = bb at HAl hinj
  generalize textF f = tf at HPr HPl2 d5 d5'
  have hq : ((textF (normF f)).toList == (textF (normF g)).toList) = bb := by rw [beq_toList]; exact hinj
  generalize textF (normF g) = tx at HTn HPx hq
  generalize textF (normF f) = ty at HPy hq
  clear hl h hm hs hr h8 hgr hgl hglt hc hflt hfl hb hn hfr hfl8 hpar hinj
  go_enter Tryz.func5, Tryz.ntmps5
  go_wp2_with fail
  refine ((HLi _ (Ext.refl w)).out).mono ?_
  rintro en w1 ⟨rfl, x1⟩
  have HX1 := hid x1
  clear x1 HLi
  go_wp2_with fail
  refine ((HPl _ HX1.out).out).mono ?_
  rintro en w2 ⟨x2, (⟨hno, _⟩ | ⟨g', hg, rfl⟩)⟩
  · cases hno
  obtain rfl := Option.some.inj hg
  have HX2 := hid (HX1.out.trans x2)
  clear x2 HPl hg HX1
  rw [HPx.out]
  go_wp2_with fail
  refine ((HRp _).out).mono ?_
  rintro en w3 ⟨x3, (⟨hno, _⟩ | ⟨g', v3, hg, rfl, hv3⟩)⟩
  · cases hno
  obtain rfl := Option.some.inj hg
  have HX3 := hid (HX2.out.trans x3)
  have HV3 := hid hv3
  clear x3 HRp hg hv3 HX2
  go_wp2_with fail
  refine ((HRn _ _ HV3.out).out).mono ?_
  rintro en w4 ⟨v4, rfl, hv4, x4⟩
  have HX4 := hid (HX3.out.trans x4)
  have HV4 := hid (HV3.out.ext x4)
  have HN4 := hid hv4.1
  obtain ⟨A4, c4, rfl, b1, b2, _⟩ := sl_get hv4.1
  unfold maxLen at b2
  clear x4 HRn hv4 HX3 HV3
  go_wp2_with fail
  refine ((HTn _ _ HN4.out).out).mono ?_
  rintro en w5 ⟨rfl, x5⟩
  have HX5 := hid (HX4.out.trans x5)
  have HV5 := hid (HV4.out.ext x5)
  clear x5 HX4 HV4 HN4 HTn
  go_wp2_with fail
  refine ((HPr _ HX5.out).out).mono ?_
  rintro en w6 ⟨rfl, x6⟩
  have HX6 := hid (HX5.out.trans x6)
  have HV6 := hid (HV5.out.ext x6)
  clear x6 HX5 HV5 HPr
  go_wp2_with fail
  refine ((HRf _ HX6.out).out).mono ?_
  rintro en w7 ⟨v7, rfl, hv7, x7⟩
  have HX7 := hid (HX6.out.trans x7)
  have HV7 := hid (HV6.out.ext x7)
  obtain ⟨A7, c7, rfl, e1, e2, _⟩ := sl_get hv7.1
  unfold maxLen at e2
  clear x7 hv7 HX6 HV6 HRf
  go_wp2_with fail
  refine ((HPl2 _ HX7.out).out).mono ?_
  rintro en w8 ⟨x8, (⟨hno, _⟩ | ⟨f', hf', rfl⟩)⟩
  · cases hno
  obtain rfl := Option.some.inj hf'
  have HX8 := hid (HX7.out.trans x8)
  have HV8 := hid (HV7.out.ext x8)
  clear x8 hf' HPl2 HX7 HV7
  rw [HPy.out]
  go_wp2_with fail
  refine ((HAw _ HX8.out).out).mono ?_
  rintro en w9 ⟨rfl, x9⟩
  have HX9 := hid (HX8.out.trans x9)
  have HV9 := hid (HV8.out.ext x9)
  clear x9
  go_wp2_with fail
  refine ((HAl _ _ HX9.out HV9.out).out).mono ?_
  rintro en w10 ⟨rfl, x10⟩
  have HX10 := hid (HX9.out.trans x10)
  clear x10
  cases bb
  all_goals
    go_wp2_with fail
    go_ret
    exact ⟨rfl, HX10.out⟩
theorem plain_walk (w : World) (s : ByteArray) (v : Value) (f : List ClauseI) (m : Int) (hm : w.cell? ⟨0, 0, none⟩ = some (.int .i64 m)) (h : Sl w 3 v (f.map ClauseI.cells)) : Calls Tryz.prog 5 #[.string s, v] w (Ret (.bool true) w) := by
  by_cases hs : 600 < s.size
  · exact plain_far w s v f m hm hs
  cases hl : lightF f with
  | false => exact plain_dark w s v f m hm (by omega) h hl
  | true =>
    by_cases hb : 512 < s.size
    · exact plain_long w s v f m hm (by omega) hb h hl
    cases hr : parR s with
    | none => exact plain_none w s v f m hm (by omega) h hl hr
    | some g =>
      by_cases h8 : (normF g).length ≤ 8
      · by_cases hc : checkF f = 0
        · by_cases ht : (textF f).size ≤ 512
          · by_cases hn : (normF f).length ≤ 8
            · exact plain_main w s v f g m hm (by omega) h hl hr h8 hc ht hn
            · exact plain_long2 w s v f g m hm (by omega) h hl hr h8 hc ht (by omega)
          · exact plain_wide w s v f g m hm (by omega) h hl hr h8 hc (by omega)
        · exact plain_wrong w s v f g m hm (by omega) h hl hr h8 hc
      · exact plain_much w s v f g m hm (by omega) h hl hr (by omega)
end Go.Proofs.YtggbkjmedoooaaaGreatDoor
