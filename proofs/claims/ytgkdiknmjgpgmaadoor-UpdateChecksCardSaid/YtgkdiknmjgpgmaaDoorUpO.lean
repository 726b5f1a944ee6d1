/-
  The law UpdateChecks: its walk.
-/
import Derived.Test.YtgkdiknmjgpgmaaDoorUpK
namespace Go.Proofs.YtgkdiknmjgpgmaaDoor
set_option linter.unusedSimpArgs false
set_option linter.unusedVariables false
open Go.RowKit Go.Sort

theorem run_eqs_file (p : ByteArray) (n : Int) (d : Bool) (w : World) : (Op.equalIn 10000 49 (.agg #[.string p, .int .i64 n, .bool d]) (.agg #[.string p, .int .i64 n, .bool d])).run Tryd.prog w = .ok true w := by
  simp [go_sem]
attribute [go_sem 2000] run_eqs_file
set_option maxRecDepth 100000 in
set_option maxHeartbeats 4000000 in
theorem updateChecks_walk (w : World) (m : Int) (hm : w.cell? ⟨0, 0, none⟩ = some (.int .i64 m)) (u : UpdI) (n : MetaI) (hn : n.p.size ≤ maxLen) : Calls Tryd.prog 6 #[u.val, n.val] w (Ret (.bool true) w) := by
  have HA := fun W (hW : Ext w W) => hid (awake16_c W m (hW.cell hm))
  have L2 := fun W => hid (light_c u W)
  have M1 := fun W => hid (meta_c u W)
  have M2 := fun W => hid (ufile_c u W)
  have K1 := fun (h : u.p.size ≤ 1000) W (hW : Ext w W) => hid (ucheck_c W u m (hW.cell hm) h)
  have K2 := fun (h : u.p.size ≤ 1000) W => hid (rcheck_c W u h)
  have K3 := fun (h : n.p.size ≤ 1000) W (hW : Ext w W) => hid (ucheckm_c W n m (hW.cell hm) h)
  have K4 := fun (h : n.p.size ≤ 1000) W => hid (rcheckm_c W n h)
  have K5 := fun (h : u.p.size ≤ 1000) W (hW : Ext w W) => hid (ucheckm_c W (metaOf u) m (hW.cell hm) h)
  have hfm : (metaOf u).chk = u.chk := rfl
  rw [hfm] at K5
  have q2 : eq2 u.item.by_ u.item.n u.item.by_ u.item.n = true := eq2_self _ _
  have q3 : eq3 u.st.v.by_ u.st.v.n u.st.time u.st.v.by_ u.st.v.n u.st.time = true := by rw [eq3_st]; simp
  unfold MetaI.val metaOf at M1 K5
  unfold MetaI.val at K3 K4 ⊢
  unfold FileI.val fileOf at M2
  unfold UpdI.val at L2 M1 M2 K1 K2 ⊢
  generalize u.chk = z1 at K1 K2 K5
  generalize n.chk = z2 at K3 K4
  unfold maxLen at hn
  clear hm hfm
  go_enter Tryd.func6, Tryd.ntmps6
  go_wp2_with fail
  have e0 := (Ext.alloc w (.cells #[.int .i64 u.item.by_, .int .i64 u.item.n, .int .i64 u.st.v.by_, .int .i64 u.st.v.n, .int .i64 u.st.time, .string u.p, .string u.d, .bool u.dead] 28)).alloc' (.cells #[.int .i64 n.item.by_, .int .i64 n.item.n, .int .i64 n.st.v.by_, .int .i64 n.st.v.n, .int .i64 n.st.time, .string n.p, .int .i64 n.size, .bool n.dead] 35)
  have hbu := (Blk.new w 28 #[.int .i64 u.item.by_, .int .i64 u.item.n, .int .i64 u.st.v.by_, .int .i64 u.st.v.n, .int .i64 u.st.time, .string u.p, .string u.d, .bool u.dead]).alloc (.cells #[.int .i64 n.item.by_, .int .i64 n.item.n, .int .i64 n.st.v.by_, .int .i64 n.st.v.n, .int .i64 n.st.time, .string n.p, .int .i64 n.size, .bool n.dead] 35)
  have hbn := Blk.new (w.alloc (.cells #[.int .i64 u.item.by_, .int .i64 u.item.n, .int .i64 u.st.v.by_, .int .i64 u.st.v.n, .int .i64 u.st.time, .string u.p, .string u.d, .bool u.dead] 28)) 35 #[.int .i64 n.item.by_, .int .i64 n.item.n, .int .i64 n.st.v.by_, .int .i64 n.st.v.n, .int .i64 n.st.time, .string n.p, .int .i64 n.size, .bool n.dead]
  rw [World.size_alloc] at hbn
  generalize (w.alloc (.cells #[.int .i64 u.item.by_, .int .i64 u.item.n, .int .i64 u.st.v.by_, .int .i64 u.st.v.n, .int .i64 u.st.time, .string u.p, .string u.d, .bool u.dead] 28)).alloc (.cells #[.int .i64 n.item.by_, .int .i64 n.item.n, .int .i64 n.st.v.by_, .int .i64 n.st.v.n, .int .i64 n.st.time, .string n.p, .int .i64 n.size, .bool n.dead] 35) = w0 at e0 hbu hbn ⊢
  generalize w.heap.size + 1 = g2 at hbn ⊢
  generalize w.heap.size = g1 at hbu ⊢
  have HE0 := hid e0
  have HBu := hid hbu
  have HBn := hid hbn
  have ux0 := hbu.cell (i := 0) (v := .int .i64 u.item.by_) rfl
  have ux1 := hbu.cell (i := 1) (v := .int .i64 u.item.n) rfl
  have ux2 := hbu.cell (i := 2) (v := .int .i64 u.st.v.by_) rfl
  have ux3 := hbu.cell (i := 3) (v := .int .i64 u.st.v.n) rfl
  have ux4 := hbu.cell (i := 4) (v := .int .i64 u.st.time) rfl
  have ux5 := hbu.cell (i := 5) (v := .string u.p) rfl
  have ux6 := hbu.cell (i := 6) (v := .string u.d) rfl
  have ux7 := hbu.cell (i := 7) (v := .bool u.dead) rfl
  have uxl := hbu.lt
  have nx0 := hbn.cell (i := 0) (v := .int .i64 n.item.by_) rfl
  have nx1 := hbn.cell (i := 1) (v := .int .i64 n.item.n) rfl
  have nx2 := hbn.cell (i := 2) (v := .int .i64 n.st.v.by_) rfl
  have nx3 := hbn.cell (i := 3) (v := .int .i64 n.st.v.n) rfl
  have nx4 := hbn.cell (i := 4) (v := .int .i64 n.st.time) rfl
  have nx5 := hbn.cell (i := 5) (v := .string n.p) rfl
  have nx6 := hbn.cell (i := 6) (v := .int .i64 n.size) rfl
  have nx7 := hbn.cell (i := 7) (v := .bool n.dead) rfl
  have nxl := hbn.lt
  clear hbu hbn e0
  cases l2 : lightU u with
  | false =>
    rw [l2] at L2
    clear l2 M1 M2 K1 K2 K3 K4 K5 hn
    refine ((L2 _).out).mono ?_
    rintro e w1 ⟨rfl, x1⟩
    have hbu := HBu.out.ext x1
    have hbn := HBn.out.ext x1
    clear ux0 ux1 ux2 ux3 ux4 ux5 ux6 ux7 uxl HBu nx0 nx1 nx2 nx3 nx4 nx5 nx6 nx7 nxl HBn
    have HBu := hid hbu
    have ux0 := hbu.cell (i := 0) (v := .int .i64 u.item.by_) rfl
    have ux1 := hbu.cell (i := 1) (v := .int .i64 u.item.n) rfl
    have ux2 := hbu.cell (i := 2) (v := .int .i64 u.st.v.by_) rfl
    have ux3 := hbu.cell (i := 3) (v := .int .i64 u.st.v.n) rfl
    have ux4 := hbu.cell (i := 4) (v := .int .i64 u.st.time) rfl
    have ux5 := hbu.cell (i := 5) (v := .string u.p) rfl
    have ux6 := hbu.cell (i := 6) (v := .string u.d) rfl
    have ux7 := hbu.cell (i := 7) (v := .bool u.dead) rfl
    have uxl := hbu.lt
    clear hbu
    have HBn := hid hbn
    have nx0 := hbn.cell (i := 0) (v := .int .i64 n.item.by_) rfl
    have nx1 := hbn.cell (i := 1) (v := .int .i64 n.item.n) rfl
    have nx2 := hbn.cell (i := 2) (v := .int .i64 n.st.v.by_) rfl
    have nx3 := hbn.cell (i := 3) (v := .int .i64 n.st.v.n) rfl
    have nx4 := hbn.cell (i := 4) (v := .int .i64 n.st.time) rfl
    have nx5 := hbn.cell (i := 5) (v := .string n.p) rfl
    have nx6 := hbn.cell (i := 6) (v := .int .i64 n.size) rfl
    have nx7 := hbn.cell (i := 7) (v := .bool n.dead) rfl
    have nxl := hbn.lt
    clear hbn
    have HE := hid (HE0.out.trans x1)
    clear HE0 x1
    have HE0 := HE
    clear HE
    go_wp2_with fail
    refine ((HA _ HE0.out).out).mono ?_
    rintro e wl ⟨rfl, hx⟩
    have HX := hid (HE0.out.trans hx)
    clear hx HE0
    go_wp2_with fail
    go_ret
    exact ⟨rfl, HX.out⟩
  | true =>
    rw [l2] at L2
    have hp : u.p.size ≤ 1000 := by unfold lightU at l2; simp at l2; omega
    have K1 := K1 hp
    have K2 := K2 hp
    have K5 := K5 hp
    clear l2 hp
    refine ((L2 _).out).mono ?_
    rintro e w1 ⟨rfl, x1⟩
    have hbu := HBu.out.ext x1
    have hbn := HBn.out.ext x1
    clear ux0 ux1 ux2 ux3 ux4 ux5 ux6 ux7 uxl HBu nx0 nx1 nx2 nx3 nx4 nx5 nx6 nx7 nxl HBn
    have HBu := hid hbu
    have ux0 := hbu.cell (i := 0) (v := .int .i64 u.item.by_) rfl
    have ux1 := hbu.cell (i := 1) (v := .int .i64 u.item.n) rfl
    have ux2 := hbu.cell (i := 2) (v := .int .i64 u.st.v.by_) rfl
    have ux3 := hbu.cell (i := 3) (v := .int .i64 u.st.v.n) rfl
    have ux4 := hbu.cell (i := 4) (v := .int .i64 u.st.time) rfl
    have ux5 := hbu.cell (i := 5) (v := .string u.p) rfl
    have ux6 := hbu.cell (i := 6) (v := .string u.d) rfl
    have ux7 := hbu.cell (i := 7) (v := .bool u.dead) rfl
    have uxl := hbu.lt
    clear hbu
    have HBn := hid hbn
    have nx0 := hbn.cell (i := 0) (v := .int .i64 n.item.by_) rfl
    have nx1 := hbn.cell (i := 1) (v := .int .i64 n.item.n) rfl
    have nx2 := hbn.cell (i := 2) (v := .int .i64 n.st.v.by_) rfl
    have nx3 := hbn.cell (i := 3) (v := .int .i64 n.st.v.n) rfl
    have nx4 := hbn.cell (i := 4) (v := .int .i64 n.st.time) rfl
    have nx5 := hbn.cell (i := 5) (v := .string n.p) rfl
    have nx6 := hbn.cell (i := 6) (v := .int .i64 n.size) rfl
    have nx7 := hbn.cell (i := 7) (v := .bool n.dead) rfl
    have nxl := hbn.lt
    clear hbn
    have HE := hid (HE0.out.trans x1)
    clear HE0 x1
    have HE0 := HE
    clear HE
    cases d0 : decide ((200 : Int) < n.p.size) with
    | true =>
      clear M1 M2 K1 K2 K3 K4 K5
      go_wp2_with fail
      refine ((HA _ HE0.out).out).mono ?_
      rintro e wl ⟨rfl, hx⟩
      have HX := hid (HE0.out.trans hx)
      clear hx HE0
      go_wp2_with fail
      go_ret
      exact ⟨rfl, HX.out⟩
    | false =>
      have hp : n.p.size ≤ 1000 := by simp at d0; omega
      have K3 := K3 hp
      have K4 := K4 hp
      clear hp
      go_wp2_with fail
      refine ((M1 _).out).mono ?_
      rintro e w2 ⟨rfl, x2⟩
      have hbu := HBu.out.ext x2
      have hbn := HBn.out.ext x2
      clear ux0 ux1 ux2 ux3 ux4 ux5 ux6 ux7 uxl HBu nx0 nx1 nx2 nx3 nx4 nx5 nx6 nx7 nxl HBn
      have HBu := hid hbu
      have ux0 := hbu.cell (i := 0) (v := .int .i64 u.item.by_) rfl
      have ux1 := hbu.cell (i := 1) (v := .int .i64 u.item.n) rfl
      have ux2 := hbu.cell (i := 2) (v := .int .i64 u.st.v.by_) rfl
      have ux3 := hbu.cell (i := 3) (v := .int .i64 u.st.v.n) rfl
      have ux4 := hbu.cell (i := 4) (v := .int .i64 u.st.time) rfl
      have ux5 := hbu.cell (i := 5) (v := .string u.p) rfl
      have ux6 := hbu.cell (i := 6) (v := .string u.d) rfl
      have ux7 := hbu.cell (i := 7) (v := .bool u.dead) rfl
      have uxl := hbu.lt
      clear hbu
      have HBn := hid hbn
      have nx0 := hbn.cell (i := 0) (v := .int .i64 n.item.by_) rfl
      have nx1 := hbn.cell (i := 1) (v := .int .i64 n.item.n) rfl
      have nx2 := hbn.cell (i := 2) (v := .int .i64 n.st.v.by_) rfl
      have nx3 := hbn.cell (i := 3) (v := .int .i64 n.st.v.n) rfl
      have nx4 := hbn.cell (i := 4) (v := .int .i64 n.st.time) rfl
      have nx5 := hbn.cell (i := 5) (v := .string n.p) rfl
      have nx6 := hbn.cell (i := 6) (v := .int .i64 n.size) rfl
      have nx7 := hbn.cell (i := 7) (v := .bool n.dead) rfl
      have nxl := hbn.lt
      clear hbn
      have HE := hid (HE0.out.trans x2)
      clear HE0 x2
      have HE0 := HE
      clear HE
      go_wp2_with fail

      have e3 := Ext.alloc w2 (.cells #[.int .i64 u.item.by_, .int .i64 u.item.n, .int .i64 u.st.v.by_, .int .i64 u.st.v.n, .int .i64 u.st.time, .string u.p, .int .i64 u.d.size, .bool u.dead] 35)
      have hbu := HBu.out.ext e3
      have hbn := HBn.out.ext e3
      have hbx := Blk.new w2 35 #[.int .i64 u.item.by_, .int .i64 u.item.n, .int .i64 u.st.v.by_, .int .i64 u.st.v.n, .int .i64 u.st.time, .string u.p, .int .i64 u.d.size, .bool u.dead]
      clear ux0 ux1 ux2 ux3 ux4 ux5 ux6 ux7 uxl HBu nx0 nx1 nx2 nx3 nx4 nx5 nx6 nx7 nxl HBn
      have HE3 := hid (HE0.out.trans e3)
      generalize w2.alloc (.cells #[.int .i64 u.item.by_, .int .i64 u.item.n, .int .i64 u.st.v.by_, .int .i64 u.st.v.n, .int .i64 u.st.time, .string u.p, .int .i64 u.d.size, .bool u.dead] 35) = w3 at hbu hbn hbx HE3 ⊢
      generalize w2.heap.size = g3 at hbx ⊢
      clear HE0 e3
      have HE0 := HE3
      clear HE3
      have HBu := hid hbu
      have HBn := hid hbn
      have HBx := hid hbx
      have ux0 := hbu.cell (i := 0) (v := .int .i64 u.item.by_) rfl
      have ux1 := hbu.cell (i := 1) (v := .int .i64 u.item.n) rfl
      have ux2 := hbu.cell (i := 2) (v := .int .i64 u.st.v.by_) rfl
      have ux3 := hbu.cell (i := 3) (v := .int .i64 u.st.v.n) rfl
      have ux4 := hbu.cell (i := 4) (v := .int .i64 u.st.time) rfl
      have ux5 := hbu.cell (i := 5) (v := .string u.p) rfl
      have ux6 := hbu.cell (i := 6) (v := .string u.d) rfl
      have ux7 := hbu.cell (i := 7) (v := .bool u.dead) rfl
      have uxl := hbu.lt
      have nx0 := hbn.cell (i := 0) (v := .int .i64 n.item.by_) rfl
      have nx1 := hbn.cell (i := 1) (v := .int .i64 n.item.n) rfl
      have nx2 := hbn.cell (i := 2) (v := .int .i64 n.st.v.by_) rfl
      have nx3 := hbn.cell (i := 3) (v := .int .i64 n.st.v.n) rfl
      have nx4 := hbn.cell (i := 4) (v := .int .i64 n.st.time) rfl
      have nx5 := hbn.cell (i := 5) (v := .string n.p) rfl
      have nx6 := hbn.cell (i := 6) (v := .int .i64 n.size) rfl
      have nx7 := hbn.cell (i := 7) (v := .bool n.dead) rfl
      have nxl := hbn.lt
      have xx0 := hbx.cell (i := 0) (v := .int .i64 u.item.by_) rfl
      have xx1 := hbx.cell (i := 1) (v := .int .i64 u.item.n) rfl
      have xx2 := hbx.cell (i := 2) (v := .int .i64 u.st.v.by_) rfl
      have xx3 := hbx.cell (i := 3) (v := .int .i64 u.st.v.n) rfl
      have xx4 := hbx.cell (i := 4) (v := .int .i64 u.st.time) rfl
      have xx5 := hbx.cell (i := 5) (v := .string u.p) rfl
      have xx6 := hbx.cell (i := 6) (v := .int .i64 u.d.size) rfl
      have xx7 := hbx.cell (i := 7) (v := .bool u.dead) rfl
      have xxl := hbx.lt
      clear hbu hbn hbx
      refine ((M2 _).out).mono ?_
      rintro e w4 ⟨rfl, x4⟩
      have hbu := HBu.out.ext x4
      have hbn := HBn.out.ext x4
      have hbx := HBx.out.ext x4
      clear ux0 ux1 ux2 ux3 ux4 ux5 ux6 ux7 uxl HBu nx0 nx1 nx2 nx3 nx4 nx5 nx6 nx7 nxl HBn xx0 xx1 xx2 xx3 xx4 xx5 xx6 xx7 xxl HBx
      have HBu := hid hbu
      have ux0 := hbu.cell (i := 0) (v := .int .i64 u.item.by_) rfl
      have ux1 := hbu.cell (i := 1) (v := .int .i64 u.item.n) rfl
      have ux2 := hbu.cell (i := 2) (v := .int .i64 u.st.v.by_) rfl
      have ux3 := hbu.cell (i := 3) (v := .int .i64 u.st.v.n) rfl
      have ux4 := hbu.cell (i := 4) (v := .int .i64 u.st.time) rfl
      have ux5 := hbu.cell (i := 5) (v := .string u.p) rfl
      have ux6 := hbu.cell (i := 6) (v := .string u.d) rfl
      have ux7 := hbu.cell (i := 7) (v := .bool u.dead) rfl
      have uxl := hbu.lt
      clear hbu
      have HBn := hid hbn
      have nx0 := hbn.cell (i := 0) (v := .int .i64 n.item.by_) rfl
      have nx1 := hbn.cell (i := 1) (v := .int .i64 n.item.n) rfl
      have nx2 := hbn.cell (i := 2) (v := .int .i64 n.st.v.by_) rfl
      have nx3 := hbn.cell (i := 3) (v := .int .i64 n.st.v.n) rfl
      have nx4 := hbn.cell (i := 4) (v := .int .i64 n.st.time) rfl
      have nx5 := hbn.cell (i := 5) (v := .string n.p) rfl
      have nx6 := hbn.cell (i := 6) (v := .int .i64 n.size) rfl
      have nx7 := hbn.cell (i := 7) (v := .bool n.dead) rfl
      have nxl := hbn.lt
      clear hbn
      have HBx := hid hbx
      have xx0 := hbx.cell (i := 0) (v := .int .i64 u.item.by_) rfl
      have xx1 := hbx.cell (i := 1) (v := .int .i64 u.item.n) rfl
      have xx2 := hbx.cell (i := 2) (v := .int .i64 u.st.v.by_) rfl
      have xx3 := hbx.cell (i := 3) (v := .int .i64 u.st.v.n) rfl
      have xx4 := hbx.cell (i := 4) (v := .int .i64 u.st.time) rfl
      have xx5 := hbx.cell (i := 5) (v := .string u.p) rfl
      have xx6 := hbx.cell (i := 6) (v := .int .i64 u.d.size) rfl
      have xx7 := hbx.cell (i := 7) (v := .bool u.dead) rfl
      have xxl := hbx.lt
      clear hbx
      have HE := hid (HE0.out.trans x4)
      clear HE0 x4
      have HE0 := HE
      clear HE
      cases hd : u.dead with
      | false =>
        rw [hd] at HBu HBx ux7 xx7 K1 K2 K5
        clear hd
        go_wp2_with fail
        have e5 := Ext.alloc w4 (.cells #[.string u.p, .int .i64 u.d.size, .bool false] 49)
        have hbu := HBu.out.ext e5
        have hbn := HBn.out.ext e5
        have hbx := HBx.out.ext e5
        have HE5 := hid (HE0.out.trans e5)
        clear ux0 ux1 ux2 ux3 ux4 ux5 ux6 ux7 uxl HBu nx0 nx1 nx2 nx3 nx4 nx5 nx6 nx7 nxl HBn xx0 xx1 xx2 xx3 xx4 xx5 xx6 xx7 xxl HBx
        generalize w4.alloc (.cells #[.string u.p, .int .i64 u.d.size, .bool false] 49) = w5 at hbu hbn hbx HE5 ⊢
        clear HE0 e5
        have ux0 := hbu.cell (i := 0) (v := .int .i64 u.item.by_) rfl
        have ux1 := hbu.cell (i := 1) (v := .int .i64 u.item.n) rfl
        have ux2 := hbu.cell (i := 2) (v := .int .i64 u.st.v.by_) rfl
        have ux3 := hbu.cell (i := 3) (v := .int .i64 u.st.v.n) rfl
        have ux4 := hbu.cell (i := 4) (v := .int .i64 u.st.time) rfl
        have ux5 := hbu.cell (i := 5) (v := .string u.p) rfl
        have ux6 := hbu.cell (i := 6) (v := .string u.d) rfl
        have ux7 := hbu.cell (i := 7) (v := .bool false) rfl
        have uxl := hbu.lt
        have nx0 := hbn.cell (i := 0) (v := .int .i64 n.item.by_) rfl
        have nx1 := hbn.cell (i := 1) (v := .int .i64 n.item.n) rfl
        have nx2 := hbn.cell (i := 2) (v := .int .i64 n.st.v.by_) rfl
        have nx3 := hbn.cell (i := 3) (v := .int .i64 n.st.v.n) rfl
        have nx4 := hbn.cell (i := 4) (v := .int .i64 n.st.time) rfl
        have nx5 := hbn.cell (i := 5) (v := .string n.p) rfl
        have nx6 := hbn.cell (i := 6) (v := .int .i64 n.size) rfl
        have nx7 := hbn.cell (i := 7) (v := .bool n.dead) rfl
        have nxl := hbn.lt
        have xx0 := hbx.cell (i := 0) (v := .int .i64 u.item.by_) rfl
        have xx1 := hbx.cell (i := 1) (v := .int .i64 u.item.n) rfl
        have xx2 := hbx.cell (i := 2) (v := .int .i64 u.st.v.by_) rfl
        have xx3 := hbx.cell (i := 3) (v := .int .i64 u.st.v.n) rfl
        have xx4 := hbx.cell (i := 4) (v := .int .i64 u.st.time) rfl
        have xx5 := hbx.cell (i := 5) (v := .string u.p) rfl
        have xx6 := hbx.cell (i := 6) (v := .int .i64 u.d.size) rfl
        have xx7 := hbx.cell (i := 7) (v := .bool false) rfl
        have xxl := hbx.lt
        clear hbu hbn hbx
        have HA5 := fun W (hW : Ext w5 W) => HA W (HE5.out.trans hW)
        have K15 := fun W (hW : Ext w5 W) => K1 W (HE5.out.trans hW)
        have K35 := fun W (hW : Ext w5 W) => K3 W (HE5.out.trans hW)
        have K55 := fun W (hW : Ext w5 W) => K5 W (HE5.out.trans hW)
        clear HA K1 K3 K5
        refine wp_region_any_order (by kernel_rfl) (by kernel_rfl) (by kernel_rfl) ?_
        repeat (first
          | (refine AWq.val rfl rfl rfl rfl (fun K hK => ?_); go_big_quiet_op; refine hK _ ?_; clear hK K)
          | (refine AWq.skip rfl rfl rfl ?_; simp only [Act.put, List.setIfInBounds_toArray, List.set_cons_succ, List.set_cons_zero])
          | (refine AWq.call rfl Tryd.func11 (by kernel_rfl) (by kernel_rfl) rfl rfl rfl ?_; apply Exists.intro; refine And.intro (fun wc hc => ?_) ?_; (· (simp only [argsOf, anyAt, ↓reduceIte, Nat.reduceEqDiff, Array.getD_eq_getD_getElem?, List.getElem?_toArray, List.getElem?_cons_succ, List.getElem?_cons_zero, Option.getD_some]; with_reducible exact (HA5 _ hc).out)); simp only [Act.put, List.setIfInBounds_toArray, List.set_cons_succ, List.set_cons_zero])
          | (refine AWq.call rfl Tryd.func25 (by kernel_rfl) (by kernel_rfl) rfl rfl rfl ?_; apply Exists.intro; refine And.intro (fun wc hc => ?_) ?_; (· (simp only [argsOf, anyAt, ↓reduceIte, Nat.reduceEqDiff, Array.getD_eq_getD_getElem?, List.getElem?_toArray, List.getElem?_cons_succ, List.getElem?_cons_zero, Option.getD_some]; with_reducible exact (K15 _ hc).out)); simp only [Act.put, List.setIfInBounds_toArray, List.set_cons_succ, List.set_cons_zero])
          | (refine AWq.call rfl Tryd.func26 (by kernel_rfl) (by kernel_rfl) rfl rfl rfl ?_; apply Exists.intro; refine And.intro (fun wc hc => ?_) ?_; (· (simp only [argsOf, anyAt, ↓reduceIte, Nat.reduceEqDiff, Array.getD_eq_getD_getElem?, List.getElem?_toArray, List.getElem?_cons_succ, List.getElem?_cons_zero, Option.getD_some]; with_reducible exact (K2 _).out)); simp only [Act.put, List.setIfInBounds_toArray, List.set_cons_succ, List.set_cons_zero])
          | (refine AWq.call rfl Tryd.func27 (by kernel_rfl) (by kernel_rfl) rfl rfl rfl ?_; apply Exists.intro; refine And.intro (fun wc hc => ?_) ?_; (· (simp only [argsOf, anyAt, ↓reduceIte, Nat.reduceEqDiff, Array.getD_eq_getD_getElem?, List.getElem?_toArray, List.getElem?_cons_succ, List.getElem?_cons_zero, Option.getD_some]; with_reducible exact (K35 _ hc).out)); simp only [Act.put, List.setIfInBounds_toArray, List.set_cons_succ, List.set_cons_zero])
          | (refine AWq.call rfl Tryd.func28 (by kernel_rfl) (by kernel_rfl) rfl rfl rfl ?_; apply Exists.intro; refine And.intro (fun wc hc => ?_) ?_; (· (simp only [argsOf, anyAt, ↓reduceIte, Nat.reduceEqDiff, Array.getD_eq_getD_getElem?, List.getElem?_toArray, List.getElem?_cons_succ, List.getElem?_cons_zero, Option.getD_some]; with_reducible exact (K4 _).out)); simp only [Act.put, List.setIfInBounds_toArray, List.set_cons_succ, List.set_cons_zero])
          | (refine AWq.call rfl Tryd.func27 (by kernel_rfl) (by kernel_rfl) rfl rfl rfl ?_; apply Exists.intro; refine And.intro (fun wc hc => ?_) ?_; (· (simp only [argsOf, anyAt, ↓reduceIte, Nat.reduceEqDiff, Array.getD_eq_getD_getElem?, List.getElem?_toArray, List.getElem?_cons_succ, List.getElem?_cons_zero, Option.getD_some]; with_reducible exact (K55 _ hc).out)); simp only [Act.put, List.setIfInBounds_toArray, List.set_cons_succ, List.set_cons_zero]))
        refine AWq.done rfl rfl rfl (fun w6 x6 => ?_)
        simp only [closeAny, Act.put, List.setIfInBounds_toArray, List.set_cons_succ, List.set_cons_zero]
        go_wp2_with fail
        go_ret
        exact ⟨rfl, HE5.out.trans x6⟩
      | true =>
        rw [hd] at HBu HBx ux7 xx7 K1 K2 K5
        clear hd
        go_wp2_with fail
        have e5 := Ext.alloc w4 (.cells #[.string u.p, .int .i64 u.d.size, .bool true] 49)
        have hbu := HBu.out.ext e5
        have hbn := HBn.out.ext e5
        have hbx := HBx.out.ext e5
        have HE5 := hid (HE0.out.trans e5)
        clear ux0 ux1 ux2 ux3 ux4 ux5 ux6 ux7 uxl HBu nx0 nx1 nx2 nx3 nx4 nx5 nx6 nx7 nxl HBn xx0 xx1 xx2 xx3 xx4 xx5 xx6 xx7 xxl HBx
        generalize w4.alloc (.cells #[.string u.p, .int .i64 u.d.size, .bool true] 49) = w5 at hbu hbn hbx HE5 ⊢
        clear HE0 e5
        have ux0 := hbu.cell (i := 0) (v := .int .i64 u.item.by_) rfl
        have ux1 := hbu.cell (i := 1) (v := .int .i64 u.item.n) rfl
        have ux2 := hbu.cell (i := 2) (v := .int .i64 u.st.v.by_) rfl
        have ux3 := hbu.cell (i := 3) (v := .int .i64 u.st.v.n) rfl
        have ux4 := hbu.cell (i := 4) (v := .int .i64 u.st.time) rfl
        have ux5 := hbu.cell (i := 5) (v := .string u.p) rfl
        have ux6 := hbu.cell (i := 6) (v := .string u.d) rfl
        have ux7 := hbu.cell (i := 7) (v := .bool true) rfl
        have uxl := hbu.lt
        have nx0 := hbn.cell (i := 0) (v := .int .i64 n.item.by_) rfl
        have nx1 := hbn.cell (i := 1) (v := .int .i64 n.item.n) rfl
        have nx2 := hbn.cell (i := 2) (v := .int .i64 n.st.v.by_) rfl
        have nx3 := hbn.cell (i := 3) (v := .int .i64 n.st.v.n) rfl
        have nx4 := hbn.cell (i := 4) (v := .int .i64 n.st.time) rfl
        have nx5 := hbn.cell (i := 5) (v := .string n.p) rfl
        have nx6 := hbn.cell (i := 6) (v := .int .i64 n.size) rfl
        have nx7 := hbn.cell (i := 7) (v := .bool n.dead) rfl
        have nxl := hbn.lt
        have xx0 := hbx.cell (i := 0) (v := .int .i64 u.item.by_) rfl
        have xx1 := hbx.cell (i := 1) (v := .int .i64 u.item.n) rfl
        have xx2 := hbx.cell (i := 2) (v := .int .i64 u.st.v.by_) rfl
        have xx3 := hbx.cell (i := 3) (v := .int .i64 u.st.v.n) rfl
        have xx4 := hbx.cell (i := 4) (v := .int .i64 u.st.time) rfl
        have xx5 := hbx.cell (i := 5) (v := .string u.p) rfl
        have xx6 := hbx.cell (i := 6) (v := .int .i64 u.d.size) rfl
        have xx7 := hbx.cell (i := 7) (v := .bool true) rfl
        have xxl := hbx.lt
        clear hbu hbn hbx
        have HA5 := fun W (hW : Ext w5 W) => HA W (HE5.out.trans hW)
        have K15 := fun W (hW : Ext w5 W) => K1 W (HE5.out.trans hW)
        have K35 := fun W (hW : Ext w5 W) => K3 W (HE5.out.trans hW)
        have K55 := fun W (hW : Ext w5 W) => K5 W (HE5.out.trans hW)
        clear HA K1 K3 K5
        refine wp_region_any_order (by kernel_rfl) (by kernel_rfl) (by kernel_rfl) ?_
        repeat (first
          | (refine AWq.val rfl rfl rfl rfl (fun K hK => ?_); go_big_quiet_op; refine hK _ ?_; clear hK K)
          | (refine AWq.skip rfl rfl rfl ?_; simp only [Act.put, List.setIfInBounds_toArray, List.set_cons_succ, List.set_cons_zero])
          | (refine AWq.call rfl Tryd.func11 (by kernel_rfl) (by kernel_rfl) rfl rfl rfl ?_; apply Exists.intro; refine And.intro (fun wc hc => ?_) ?_; (· (simp only [argsOf, anyAt, ↓reduceIte, Nat.reduceEqDiff, Array.getD_eq_getD_getElem?, List.getElem?_toArray, List.getElem?_cons_succ, List.getElem?_cons_zero, Option.getD_some]; with_reducible exact (HA5 _ hc).out)); simp only [Act.put, List.setIfInBounds_toArray, List.set_cons_succ, List.set_cons_zero])
          | (refine AWq.call rfl Tryd.func25 (by kernel_rfl) (by kernel_rfl) rfl rfl rfl ?_; apply Exists.intro; refine And.intro (fun wc hc => ?_) ?_; (· (simp only [argsOf, anyAt, ↓reduceIte, Nat.reduceEqDiff, Array.getD_eq_getD_getElem?, List.getElem?_toArray, List.getElem?_cons_succ, List.getElem?_cons_zero, Option.getD_some]; with_reducible exact (K15 _ hc).out)); simp only [Act.put, List.setIfInBounds_toArray, List.set_cons_succ, List.set_cons_zero])
          | (refine AWq.call rfl Tryd.func26 (by kernel_rfl) (by kernel_rfl) rfl rfl rfl ?_; apply Exists.intro; refine And.intro (fun wc hc => ?_) ?_; (· (simp only [argsOf, anyAt, ↓reduceIte, Nat.reduceEqDiff, Array.getD_eq_getD_getElem?, List.getElem?_toArray, List.getElem?_cons_succ, List.getElem?_cons_zero, Option.getD_some]; with_reducible exact (K2 _).out)); simp only [Act.put, List.setIfInBounds_toArray, List.set_cons_succ, List.set_cons_zero])
          | (refine AWq.call rfl Tryd.func27 (by kernel_rfl) (by kernel_rfl) rfl rfl rfl ?_; apply Exists.intro; refine And.intro (fun wc hc => ?_) ?_; (· (simp only [argsOf, anyAt, ↓reduceIte, Nat.reduceEqDiff, Array.getD_eq_getD_getElem?, List.getElem?_toArray, List.getElem?_cons_succ, List.getElem?_cons_zero, Option.getD_some]; with_reducible exact (K35 _ hc).out)); simp only [Act.put, List.setIfInBounds_toArray, List.set_cons_succ, List.set_cons_zero])
          | (refine AWq.call rfl Tryd.func28 (by kernel_rfl) (by kernel_rfl) rfl rfl rfl ?_; apply Exists.intro; refine And.intro (fun wc hc => ?_) ?_; (· (simp only [argsOf, anyAt, ↓reduceIte, Nat.reduceEqDiff, Array.getD_eq_getD_getElem?, List.getElem?_toArray, List.getElem?_cons_succ, List.getElem?_cons_zero, Option.getD_some]; with_reducible exact (K4 _).out)); simp only [Act.put, List.setIfInBounds_toArray, List.set_cons_succ, List.set_cons_zero])
          | (refine AWq.call rfl Tryd.func27 (by kernel_rfl) (by kernel_rfl) rfl rfl rfl ?_; apply Exists.intro; refine And.intro (fun wc hc => ?_) ?_; (· (simp only [argsOf, anyAt, ↓reduceIte, Nat.reduceEqDiff, Array.getD_eq_getD_getElem?, List.getElem?_toArray, List.getElem?_cons_succ, List.getElem?_cons_zero, Option.getD_some]; with_reducible exact (K55 _ hc).out)); simp only [Act.put, List.setIfInBounds_toArray, List.set_cons_succ, List.set_cons_zero]))
        refine AWq.done rfl rfl rfl (fun w6 x6 => ?_)
        simp only [closeAny, Act.put, List.setIfInBounds_toArray, List.set_cons_succ, List.set_cons_zero]
        go_wp2_with fail
        go_ret
        exact ⟨rfl, HE5.out.trans x6⟩
end Go.Proofs.YtgkdiknmjgpgmaaDoor
