/-
  The law UpdateMatches: its walk.
-/
import Derived.Test.YtgkdiknmjgpgmaaDoorUpK
namespace Go.Proofs.YtgkdiknmjgpgmaaDoor
set_option linter.unusedSimpArgs false
set_option linter.unusedVariables false
open Go.RowKit Go.Sort

set_option maxRecDepth 100000 in
set_option maxHeartbeats 4000000 in
theorem updateMatches_walk (w : World) (m : Int) (hm : w.cell? ⟨0, 0, none⟩ = some (.int .i64 m)) (vf : Value) (f : List ClauseI) (hf : Sl w 3 vf (f.map ClauseI.cells)) (u : UpdI) : Calls Tryd.prog 3 #[vf, u.val] w (Ret (.bool true) w) := by
  have HA := fun W (hW : Ext w W) => hid (awake16_c W m (hW.cell hm))
  have L1 := fun W (hW : Ext w W) => hid (lightF_c W vf f (hf.ext hW))
  have L2 := fun W => hid (light_c u W)
  have M1 := fun (h1 : LightF f) (h2 : u.p.size ≤ 1000) W (hW : Ext w W) => hid (rmatch16_c W vf f u (hf.ext hW) h2 h1)
  have M2 := fun (h1 : LightF f) (h2 : u.p.size ≤ 1000) W (hW : Ext w W) => hid (umatch_c W vf f u (hf.ext hW) h2 h1)
  have M3 := fun (h1 : LightF f) (h2 : u.p.size ≤ 1000) W (hW : Ext w W) => hid (matchm_c W vf f (metaOf u) (hf.ext hW) h2 h1)
  have M4 := fun W => hid (meta_c u W)
  have hfm : f.any (hitB (metaOf u).file) = matchB f u := rfl
  rw [hfm] at M3
  obtain ⟨A, c, rfl, _⟩ := sl_get hf
  unfold MetaI.val metaOf at M3 M4
  unfold UpdI.val at L2 M1 M2 M4 ⊢
  clear hm hf hfm
  go_enter Tryd.func3, Tryd.ntmps3
  go_wp2_with fail
  have e0 := Ext.alloc w (.cells #[.int .i64 u.item.by_, .int .i64 u.item.n, .int .i64 u.st.v.by_, .int .i64 u.st.v.n, .int .i64 u.st.time, .string u.p, .string u.d, .bool u.dead] 28)
  have hbu := Blk.new w 28 #[.int .i64 u.item.by_, .int .i64 u.item.n, .int .i64 u.st.v.by_, .int .i64 u.st.v.n, .int .i64 u.st.time, .string u.p, .string u.d, .bool u.dead]
  generalize w.alloc (.cells #[.int .i64 u.item.by_, .int .i64 u.item.n, .int .i64 u.st.v.by_, .int .i64 u.st.v.n, .int .i64 u.st.time, .string u.p, .string u.d, .bool u.dead] 28) = w0 at e0 hbu ⊢
  generalize w.heap.size = g1 at hbu ⊢
  have HE0 := hid e0
  have HBu := hid hbu
  have ux0 := hbu.cell (i := 0) (v := .int .i64 u.item.by_) rfl
  have ux1 := hbu.cell (i := 1) (v := .int .i64 u.item.n) rfl
  have ux2 := hbu.cell (i := 2) (v := .int .i64 u.st.v.by_) rfl
  have ux3 := hbu.cell (i := 3) (v := .int .i64 u.st.v.n) rfl
  have ux4 := hbu.cell (i := 4) (v := .int .i64 u.st.time) rfl
  have ux5 := hbu.cell (i := 5) (v := .string u.p) rfl
  have ux6 := hbu.cell (i := 6) (v := .string u.d) rfl
  have ux7 := hbu.cell (i := 7) (v := .bool u.dead) rfl
  have uxl := hbu.lt
  clear hbu e0
  cases l1 : lightF f with
  | false =>
    rw [l1] at L1
    clear l1 L2 M1 M2 M3 M4
    refine ((L1 _ HE0.out).out).mono ?_
    rintro e w1 ⟨rfl, x1⟩
    have hbu := HBu.out.ext x1
    clear ux0 ux1 ux2 ux3 ux4 ux5 ux6 ux7 uxl HBu
    have HBu := hid hbu
    have ux0 := hbu.cell (i := 0) (v := .int .i64 u.item.by_) rfl
    have ux1 := hbu.cell (i := 1) (v := .int .i64 u.item.n) rfl
    have ux2 := hbu.cell (i := 2) (v := .int .i64 u.st.v.by_) rfl
    have ux3 := hbu.cell (i := 3) (v := .int .i64 u.st.v.n) rfl
    have ux4 := hbu.cell (i := 4) (v := .int .i64 u.st.time) rfl
    have ux5 := hbu.cell (i := 5) (v := .string u.p) rfl
    have ux6 := hbu.cell (i := 6) (v := .string u.d) rfl
    have ux7 := hbu.cell (i := 7) (v := .bool u.dead) rfl
    have uxl := hbu.lt
    clear hbu
    have HE := hid (HE0.out.trans x1)
    clear HE0 x1
    have HE0 := HE
    clear HE
    go_wp2_with fail
    refine ((HA _ HE0.out).out).mono ?_
    rintro e wl ⟨rfl, hx⟩
    have HX := hid (HE0.out.trans hx)
    clear hx HE0
    go_wp2_with fail
    go_ret
    exact ⟨rfl, HX.out⟩
  | true =>
    rw [l1] at L1
    refine ((L1 _ HE0.out).out).mono ?_
    rintro e w1 ⟨rfl, x1⟩
    have hbu := HBu.out.ext x1
    clear ux0 ux1 ux2 ux3 ux4 ux5 ux6 ux7 uxl HBu
    have HBu := hid hbu
    have ux0 := hbu.cell (i := 0) (v := .int .i64 u.item.by_) rfl
    have ux1 := hbu.cell (i := 1) (v := .int .i64 u.item.n) rfl
    have ux2 := hbu.cell (i := 2) (v := .int .i64 u.st.v.by_) rfl
    have ux3 := hbu.cell (i := 3) (v := .int .i64 u.st.v.n) rfl
    have ux4 := hbu.cell (i := 4) (v := .int .i64 u.st.time) rfl
    have ux5 := hbu.cell (i := 5) (v := .string u.p) rfl
    have ux6 := hbu.cell (i := 6) (v := .string u.d) rfl
    have ux7 := hbu.cell (i := 7) (v := .bool u.dead) rfl
    have uxl := hbu.lt
    clear hbu
    have HE := hid (HE0.out.trans x1)
    clear HE0 x1
    have HE0 := HE
    clear HE
    go_wp2_with fail
    cases l2 : lightU u with
    | false =>
      rw [l2] at L2
      clear l1 l2 M1 M2 M3 M4
      refine ((L2 _).out).mono ?_
      rintro e w2 ⟨rfl, x2⟩
      have hbu := HBu.out.ext x2
      clear ux0 ux1 ux2 ux3 ux4 ux5 ux6 ux7 uxl HBu
      have HBu := hid hbu
      have ux0 := hbu.cell (i := 0) (v := .int .i64 u.item.by_) rfl
      have ux1 := hbu.cell (i := 1) (v := .int .i64 u.item.n) rfl
      have ux2 := hbu.cell (i := 2) (v := .int .i64 u.st.v.by_) rfl
      have ux3 := hbu.cell (i := 3) (v := .int .i64 u.st.v.n) rfl
      have ux4 := hbu.cell (i := 4) (v := .int .i64 u.st.time) rfl
      have ux5 := hbu.cell (i := 5) (v := .string u.p) rfl
      have ux6 := hbu.cell (i := 6) (v := .string u.d) rfl
      have ux7 := hbu.cell (i := 7) (v := .bool u.dead) rfl
      have uxl := hbu.lt
      clear hbu
      have HE := hid (HE0.out.trans x2)
      clear HE0 x2
      have HE0 := HE
      clear HE
      go_wp2_with fail
      refine ((HA _ HE0.out).out).mono ?_
      rintro e wl ⟨rfl, hx⟩
      have HX := hid (HE0.out.trans hx)
      clear hx HE0
      go_wp2_with fail
      go_ret
      exact ⟨rfl, HX.out⟩
    | true =>
      rw [l2] at L2
      have hp : u.p.size ≤ 1000 := by unfold lightU at l2; simp at l2; omega
      have M1 := M1 (lightF_iff.1 l1).1 hp
      have M2 := M2 (lightF_iff.1 l1).1 hp
      have M3 := M3 (lightF_iff.1 l1).1 hp
      clear l1 l2 hp
      refine ((L2 _).out).mono ?_
      rintro e w2 ⟨rfl, x2⟩
      have hbu := HBu.out.ext x2
      clear ux0 ux1 ux2 ux3 ux4 ux5 ux6 ux7 uxl HBu
      have HBu := hid hbu
      have ux0 := hbu.cell (i := 0) (v := .int .i64 u.item.by_) rfl
      have ux1 := hbu.cell (i := 1) (v := .int .i64 u.item.n) rfl
      have ux2 := hbu.cell (i := 2) (v := .int .i64 u.st.v.by_) rfl
      have ux3 := hbu.cell (i := 3) (v := .int .i64 u.st.v.n) rfl
      have ux4 := hbu.cell (i := 4) (v := .int .i64 u.st.time) rfl
      have ux5 := hbu.cell (i := 5) (v := .string u.p) rfl
      have ux6 := hbu.cell (i := 6) (v := .string u.d) rfl
      have ux7 := hbu.cell (i := 7) (v := .bool u.dead) rfl
      have uxl := hbu.lt
      clear hbu
      have HE := hid (HE0.out.trans x2)
      clear HE0 x2
      have HE0 := HE
      clear HE
      go_wp2_with fail
      cases hr : matchB f u with
      | false =>
        rw [hr] at M1 M2 M3
        clear hr
        refine ((M1 _ HE0.out).out).mono ?_
        rintro e w3 ⟨rfl, x3⟩
        have hbu := HBu.out.ext x3
        clear ux0 ux1 ux2 ux3 ux4 ux5 ux6 ux7 uxl HBu
        have HBu := hid hbu
        have ux0 := hbu.cell (i := 0) (v := .int .i64 u.item.by_) rfl
        have ux1 := hbu.cell (i := 1) (v := .int .i64 u.item.n) rfl
        have ux2 := hbu.cell (i := 2) (v := .int .i64 u.st.v.by_) rfl
        have ux3 := hbu.cell (i := 3) (v := .int .i64 u.st.v.n) rfl
        have ux4 := hbu.cell (i := 4) (v := .int .i64 u.st.time) rfl
        have ux5 := hbu.cell (i := 5) (v := .string u.p) rfl
        have ux6 := hbu.cell (i := 6) (v := .string u.d) rfl
        have ux7 := hbu.cell (i := 7) (v := .bool u.dead) rfl
        have uxl := hbu.lt
        clear hbu
        have HE := hid (HE0.out.trans x3)
        clear HE0 x3
        have HE0 := HE
        clear HE
        go_wp2_with fail
        refine ((HA _ HE0.out).out).mono ?_
        rintro e w4 ⟨rfl, x4⟩
        have hbu := HBu.out.ext x4
        clear ux0 ux1 ux2 ux3 ux4 ux5 ux6 ux7 uxl HBu
        have HBu := hid hbu
        have ux0 := hbu.cell (i := 0) (v := .int .i64 u.item.by_) rfl
        have ux1 := hbu.cell (i := 1) (v := .int .i64 u.item.n) rfl
        have ux2 := hbu.cell (i := 2) (v := .int .i64 u.st.v.by_) rfl
        have ux3 := hbu.cell (i := 3) (v := .int .i64 u.st.v.n) rfl
        have ux4 := hbu.cell (i := 4) (v := .int .i64 u.st.time) rfl
        have ux5 := hbu.cell (i := 5) (v := .string u.p) rfl
        have ux6 := hbu.cell (i := 6) (v := .string u.d) rfl
        have ux7 := hbu.cell (i := 7) (v := .bool u.dead) rfl
        have uxl := hbu.lt
        clear hbu
        have HE := hid (HE0.out.trans x4)
        clear HE0 x4
        have HE0 := HE
        clear HE
        go_wp2_with fail
        refine ((M2 _ HE0.out).out).mono ?_
        rintro e w5 ⟨rfl, x5⟩
        have hbu := HBu.out.ext x5
        clear ux0 ux1 ux2 ux3 ux4 ux5 ux6 ux7 uxl HBu
        have HBu := hid hbu
        have ux0 := hbu.cell (i := 0) (v := .int .i64 u.item.by_) rfl
        have ux1 := hbu.cell (i := 1) (v := .int .i64 u.item.n) rfl
        have ux2 := hbu.cell (i := 2) (v := .int .i64 u.st.v.by_) rfl
        have ux3 := hbu.cell (i := 3) (v := .int .i64 u.st.v.n) rfl
        have ux4 := hbu.cell (i := 4) (v := .int .i64 u.st.time) rfl
        have ux5 := hbu.cell (i := 5) (v := .string u.p) rfl
        have ux6 := hbu.cell (i := 6) (v := .string u.d) rfl
        have ux7 := hbu.cell (i := 7) (v := .bool u.dead) rfl
        have uxl := hbu.lt
        clear hbu
        have HE := hid (HE0.out.trans x5)
        clear HE0 x5
        have HE0 := HE
        clear HE
        go_wp2_with fail
        refine ((M4 _).out).mono ?_
        rintro e w6 ⟨rfl, x6⟩
        have hbu := HBu.out.ext x6
        clear ux0 ux1 ux2 ux3 ux4 ux5 ux6 ux7 uxl HBu
        have HBu := hid hbu
        have ux0 := hbu.cell (i := 0) (v := .int .i64 u.item.by_) rfl
        have ux1 := hbu.cell (i := 1) (v := .int .i64 u.item.n) rfl
        have ux2 := hbu.cell (i := 2) (v := .int .i64 u.st.v.by_) rfl
        have ux3 := hbu.cell (i := 3) (v := .int .i64 u.st.v.n) rfl
        have ux4 := hbu.cell (i := 4) (v := .int .i64 u.st.time) rfl
        have ux5 := hbu.cell (i := 5) (v := .string u.p) rfl
        have ux6 := hbu.cell (i := 6) (v := .string u.d) rfl
        have ux7 := hbu.cell (i := 7) (v := .bool u.dead) rfl
        have uxl := hbu.lt
        clear hbu
        have HE := hid (HE0.out.trans x6)
        clear HE0 x6
        have HE0 := HE
        clear HE
        go_wp2_with fail
        refine ((M3 _ HE0.out).out).mono ?_
        rintro e wl ⟨rfl, hx⟩
        have HX := hid (HE0.out.trans hx)
        clear hx HE0
        go_wp2_with fail
        go_ret
        exact ⟨rfl, HX.out⟩
      | true =>
        rw [hr] at M1 M2 M3
        clear hr
        refine ((M1 _ HE0.out).out).mono ?_
        rintro e w3 ⟨rfl, x3⟩
        have hbu := HBu.out.ext x3
        clear ux0 ux1 ux2 ux3 ux4 ux5 ux6 ux7 uxl HBu
        have HBu := hid hbu
        have ux0 := hbu.cell (i := 0) (v := .int .i64 u.item.by_) rfl
        have ux1 := hbu.cell (i := 1) (v := .int .i64 u.item.n) rfl
        have ux2 := hbu.cell (i := 2) (v := .int .i64 u.st.v.by_) rfl
        have ux3 := hbu.cell (i := 3) (v := .int .i64 u.st.v.n) rfl
        have ux4 := hbu.cell (i := 4) (v := .int .i64 u.st.time) rfl
        have ux5 := hbu.cell (i := 5) (v := .string u.p) rfl
        have ux6 := hbu.cell (i := 6) (v := .string u.d) rfl
        have ux7 := hbu.cell (i := 7) (v := .bool u.dead) rfl
        have uxl := hbu.lt
        clear hbu
        have HE := hid (HE0.out.trans x3)
        clear HE0 x3
        have HE0 := HE
        clear HE
        go_wp2_with fail
        refine ((HA _ HE0.out).out).mono ?_
        rintro e w4 ⟨rfl, x4⟩
        have hbu := HBu.out.ext x4
        clear ux0 ux1 ux2 ux3 ux4 ux5 ux6 ux7 uxl HBu
        have HBu := hid hbu
        have ux0 := hbu.cell (i := 0) (v := .int .i64 u.item.by_) rfl
        have ux1 := hbu.cell (i := 1) (v := .int .i64 u.item.n) rfl
        have ux2 := hbu.cell (i := 2) (v := .int .i64 u.st.v.by_) rfl
        have ux3 := hbu.cell (i := 3) (v := .int .i64 u.st.v.n) rfl
        have ux4 := hbu.cell (i := 4) (v := .int .i64 u.st.time) rfl
        have ux5 := hbu.cell (i := 5) (v := .string u.p) rfl
        have ux6 := hbu.cell (i := 6) (v := .string u.d) rfl
        have ux7 := hbu.cell (i := 7) (v := .bool u.dead) rfl
        have uxl := hbu.lt
        clear hbu
        have HE := hid (HE0.out.trans x4)
        clear HE0 x4
        have HE0 := HE
        clear HE
        go_wp2_with fail
        refine ((M2 _ HE0.out).out).mono ?_
        rintro e w5 ⟨rfl, x5⟩
        have hbu := HBu.out.ext x5
        clear ux0 ux1 ux2 ux3 ux4 ux5 ux6 ux7 uxl HBu
        have HBu := hid hbu
        have ux0 := hbu.cell (i := 0) (v := .int .i64 u.item.by_) rfl
        have ux1 := hbu.cell (i := 1) (v := .int .i64 u.item.n) rfl
        have ux2 := hbu.cell (i := 2) (v := .int .i64 u.st.v.by_) rfl
        have ux3 := hbu.cell (i := 3) (v := .int .i64 u.st.v.n) rfl
        have ux4 := hbu.cell (i := 4) (v := .int .i64 u.st.time) rfl
        have ux5 := hbu.cell (i := 5) (v := .string u.p) rfl
        have ux6 := hbu.cell (i := 6) (v := .string u.d) rfl
        have ux7 := hbu.cell (i := 7) (v := .bool u.dead) rfl
        have uxl := hbu.lt
        clear hbu
        have HE := hid (HE0.out.trans x5)
        clear HE0 x5
        have HE0 := HE
        clear HE
        go_wp2_with fail
        refine ((M4 _).out).mono ?_
        rintro e w6 ⟨rfl, x6⟩
        have hbu := HBu.out.ext x6
        clear ux0 ux1 ux2 ux3 ux4 ux5 ux6 ux7 uxl HBu
        have HBu := hid hbu
        have ux0 := hbu.cell (i := 0) (v := .int .i64 u.item.by_) rfl
        have ux1 := hbu.cell (i := 1) (v := .int .i64 u.item.n) rfl
        have ux2 := hbu.cell (i := 2) (v := .int .i64 u.st.v.by_) rfl
        have ux3 := hbu.cell (i := 3) (v := .int .i64 u.st.v.n) rfl
        have ux4 := hbu.cell (i := 4) (v := .int .i64 u.st.time) rfl
        have ux5 := hbu.cell (i := 5) (v := .string u.p) rfl
        have ux6 := hbu.cell (i := 6) (v := .string u.d) rfl
        have ux7 := hbu.cell (i := 7) (v := .bool u.dead) rfl
        have uxl := hbu.lt
        clear hbu
        have HE := hid (HE0.out.trans x6)
        clear HE0 x6
        have HE0 := HE
        clear HE
        go_wp2_with fail
        refine ((M3 _ HE0.out).out).mono ?_
        rintro e wl ⟨rfl, hx⟩
        have HX := hid (HE0.out.trans hx)
        clear hx HE0
        go_wp2_with fail
        go_ret
        exact ⟨rfl, HX.out⟩
end Go.Proofs.YtgkdiknmjgpgmaaDoor
