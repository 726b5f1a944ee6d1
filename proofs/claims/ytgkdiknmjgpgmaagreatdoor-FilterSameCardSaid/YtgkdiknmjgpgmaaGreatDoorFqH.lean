/-
  The law FilterSame: its walk.
-/
import Derived.Test.YtgkdiknmjgpgmaaGreatDoorFqG
import Derived.Test.YtgkdiknmjgpgmaaGreatDoorFqB
import Derived.Test.YtgkdiknmjgpgmaaGreatDoorFpF
import Derived.Test.YtgkdiknmjgpgmaaGreatDoorFpG
namespace Go.Proofs.YtgkdiknmjgpgmaaGreatDoor
set_option linter.unusedSimpArgs false
set_option linter.unusedVariables false
open Go.RowKit Go.Sort

theorem sane_light {f : List ClauseI} (h : LightF f) : LightF (saneF f) := fun c hc => h c (List.mem_filter.1 hc).1
theorem sane_right {f : List ClauseI} : ∀ c ∈ saneF f, rightC c = true := fun c hc => (List.mem_filter.1 hc).2
theorem sane_short {f : List ClauseI} {N : Nat} (h : f.length ≤ N) : (saneF f).length ≤ N := by
  have := saneF_len f f.length
  rw [List.take_length] at this
  omega
def allF : List ClauseI := [⟨⟨#[]⟩, 0, 200⟩]
theorem allF_light : LightF allF := fun c hc => by
  rw [List.mem_singleton.1 hc]; decide
set_option maxHeartbeats 1000000 in
theorem all_c (w : World) : Calls Tryz.prog 16 #[] w (RetQ (fun v w' => Sl w' 3 v (allF.map ClauseI.cells)) w) := by
  have hl := hid (lit_row (w := w) (n := 1) clause_coded 34 allF #[.string ⟨#[]⟩, .int .i64 0, .int .i64 200] rfl rfl (by unfold maxLen; omega))
  go_enter Tryz.func16, Tryz.ntmps16
  go_wp2_with fail
  go_ret
  exact ⟨_, rfl, hl.out, Ext.alloc _ _⟩
theorem match_all : allF.any (hitB ⟨⟨#[120]⟩, 200, false⟩) = true := by
  have h : cov (⟨#[]⟩ : ByteArray) ⟨#[120]⟩ = true := by rw [cov_dec]; decide
  unfold allF hitB
  simp only [List.any_cons, h]
  decide
theorem match_all_c (W : World) (v : Value) (hv : Sl W 3 v (allF.map ClauseI.cells)) : Calls Tryz.prog 11 #[v, .agg #[.string ⟨#[120]⟩, .int .i64 200, .bool false]] W (Ret (.bool true) W) := by
  have := fmatch_c W v allF ⟨⟨#[120]⟩, 200, false⟩ hv (by decide) allF_light
  rw [match_all] at this
  exact this
set_option maxRecDepth 100000 in
set_option maxHeartbeats 8000000 in
theorem filterSame_walk (w : World) (m : Int) (hm : w.cell? ⟨0, 0, none⟩ = some (.int .i64 m)) (vf vg : Value) (f g : List ClauseI) (hf : Sl w 3 vf (f.map ClauseI.cells)) (hg : Sl w 3 vg (g.map ClauseI.cells)) : Calls Tryz.prog 4 #[vf, vg] w (Ret (.bool true) w) := by
  have HA := fun W (hW : Ext w W) => hid (awake09_c W m (hW.cell hm))
  have L1 := fun W (hW : Ext w W) => hid (lightF_c W vf f (hf.ext hW))
  have L2 := fun W (hW : Ext w W) => hid (lightF_c W vg g (hg.ext hW))
  have S1 := fun (h1 : LightF f) (h3 : f.length ≤ 5000) W (hW : Ext w W) => hid (sane_c W vf f (hf.ext hW) h3 h1)
  have S2 := fun (h1 : LightF g) (h3 : g.length ≤ 5000) W (hW : Ext w W) => hid (sane_c W vg g (hg.ext hW) h3 h1)
  obtain ⟨A, c, rfl, _⟩ := sl_get hf
  obtain ⟨B, d, rfl, _⟩ := sl_get hg
  clear hm hf hg
  go_enter Tryz.func4, Tryz.ntmps4
  go_wp2_with fail
  cases l1 : lightF f with
  | false =>
    rw [l1] at L1
    clear l1 S1 S2 L2
    refine ((L1 _ (Ext.refl _)).out).mono ?_
    rintro e w1 ⟨rfl, x1⟩
    have X1 := hid x1
    clear x1
    go_wp2_with fail
    refine ((HA _ X1.out).out).mono ?_
    rintro e w9 ⟨rfl, x9⟩
    have HE9 := hid (Ext.trans (X1.out) x9)
    clear x9
    go_wp2_with fail
    go_ret
    exact ⟨rfl, HE9.out⟩
  | true =>
    rw [l1] at L1
    refine ((L1 _ (Ext.refl _)).out).mono ?_
    rintro e w1 ⟨rfl, x1⟩
    have X1 := hid x1
    clear x1
    go_wp2_with fail
    cases l2 : lightF g with
    | false =>
      rw [l2] at L2
      clear l1 l2 S1 S2
      refine ((L2 _ X1.out).out).mono ?_
      rintro e w2 ⟨rfl, x2⟩
      have X2 := hid (X1.out.trans x2)
      clear x2
      go_wp2_with fail
      refine ((HA _ X2.out).out).mono ?_
      rintro e w9 ⟨rfl, x9⟩
      have HE9 := hid (Ext.trans (X2.out) x9)
      clear x9
      go_wp2_with fail
      go_ret
      exact ⟨rfl, HE9.out⟩
    | true =>
      rw [l2] at L2
      have hf1 := (lightF_iff.1 l1).1
      have hf2 := (lightF_iff.1 l1).2
      have hg1 := (lightF_iff.1 l2).1
      have hg2 := (lightF_iff.1 l2).2
      have S1 := S1 hf1 (by omega)
      have S2 := S2 hg1 (by omega)
      have fl := sane_light hf1
      have fs := sane_short hf2
      have gl := sane_light hg1
      have gs := sane_short hg2
      refine ((L2 _ X1.out).out).mono ?_
      rintro e w2 ⟨rfl, x2⟩
      have X2 := hid (X1.out.trans x2)
      clear x2 l1 l2 hf1 hf2 hg1 hg2 L1 L2
      go_wp2_with fail
      refine ((S1 _ X2.out).out).mono ?_
      rintro e w3 ⟨v3, rfl, hv3, x3⟩
      have X3 := hid (X2.out.trans x3)
      have R3 := hid hv3.1
      obtain ⟨A3, c3, rfl, _⟩ := sl_get hv3.1
      clear x3 hv3 S1
      go_wp2_with fail
      refine ((S2 _ X3.out).out).mono ?_
      rintro e w4 ⟨v4, rfl, hv4, x4⟩
      have X4 := hid (X3.out.trans x4)
      have hF := R3.out.ext x4
      have hG := hv4.1
      obtain ⟨A4, c4, rfl, _⟩ := sl_get hv4.1
      clear x4 hv4 S2 R3 X1 X2 X3
      generalize saneF f = sf at *
      generalize saneF g = sg at *
      have HAl := hid (ralike_c w4 _ _ sf sg hF hG (by omega) (by omega) fl gl)
      have HA4 := fun W (hW : Ext w4 W) => HA W (X4.out.trans hW)
      have HSm := fun W (hW : Ext w4 W) => hid (fsame_c W _ _ sf sg (hF.ext hW) (hG.ext hW) (by omega) (by omega) fl gl)
      have HNf := fun W (hW : Ext w4 W) => hid (fnorm_c W _ sf (hF.ext hW) (by omega) fl)
      have HNg := fun W (hW : Ext w4 W) => hid (fnorm_c W _ sg (hG.ext hW) (by omega) gl)
      have HEn := fun W x y hx hy => hid (requal_c W x y (normF sf) (normF sg) hx hy)
      have HFe := fun W (hW : Ext w4 W) => hid (fequal_c W _ _ sf sg (hF.ext hW) (hG.ext hW))
      have HRe := fun W (hW : Ext w4 W) => hid (requal_c W _ _ sf sg (hF.ext hW) (hG.ext hW))
      have HFf := fun W (hW : Ext w4 W) => hid (fequal_c W _ _ sf sf (hF.ext hW) (hF.ext hW))
      rw [decide_eq_true rfl] at HFf
      generalize decide (normF sf = normF sg) = r at HAl HSm HEn
      generalize decide (sf = sg) = q at HFe HRe
      generalize normF sf = nf at HNf HEn
      generalize normF sg = ng at HNg HEn
      have X0 : Hid (Ext w4 w4) := Ext.refl _
      clear hF hG fl fs gl gs HA
      go_wp2_with fail
      refine ((HAl).out).mono ?_
      rintro e w5 ⟨rfl, hx⟩
      have X5 := hid hx
      clear hx HAl
      go_wp2_with fail
      refine ((HA4 _ X5.out).out).mono ?_
      rintro e w6 ⟨rfl, hx⟩
      have X6 := hid (X5.out.trans hx)
      clear hx
      go_wp2_with fail
      refine ((HSm _ X6.out).out).mono ?_
      rintro e w7 ⟨rfl, hx⟩
      have X7 := hid (X6.out.trans hx)
      clear hx
      go_wp2_with fail
      refine ((HNf _ X7.out).out).mono ?_
      rintro e w8 ⟨v8, rfl, hv8, hx⟩
      have X8 := hid (X7.out.trans hx)
      have R8 := hid hv8.1
      clear hx hv8
      go_wp2_with fail
      refine ((HNg _ X8.out).out).mono ?_
      rintro e w9 ⟨v9, rfl, hv9, hx⟩
      have X9 := hid (X8.out.trans hx)
      have R9 := hid hv9.1
      have R8' := hid (R8.out.ext hx)
      clear hx hv9 R8
      go_wp2_with fail
      refine ((HEn _ _ _ R8'.out R9.out).out).mono ?_
      rintro e w10 ⟨rfl, hx⟩
      have X10 := hid (X9.out.trans hx)
      clear hx
      go_wp2_with fail
      refine ((HFe _ X10.out).out).mono ?_
      rintro e w11 ⟨rfl, hx⟩
      have X11 := hid (X10.out.trans hx)
      clear hx
      go_wp2_with fail
      refine ((HRe _ X11.out).out).mono ?_
      rintro e w12 ⟨rfl, hx⟩
      have X12 := hid (X11.out.trans hx)
      clear hx
      go_wp2_with fail
      refine ((HFf _ X12.out).out).mono ?_
      rintro e w13 ⟨rfl, hx⟩
      have X13 := hid (X12.out.trans hx)
      clear hx
      go_wp2_with fail
      refine (all_c _).mono ?_
      rintro e w14 ⟨v14, rfl, hv14, hx⟩
      have X14 := hid (X13.out.trans hx)
      have R14 := hid hv14
      clear hx hv14
      go_wp2_with fail
      refine (match_all_c _ _ R14.out).mono ?_
      rintro e w15 ⟨rfl, hx⟩
      have X15 := hid (X14.out.trans hx)
      clear hx
      go_wp2_with fail
      go_ret
      exact ⟨rfl, X4.out.trans X15.out⟩
end Go.Proofs.YtgkdiknmjgpgmaaGreatDoor
