/-
  The law UpdateWins: its walk.
-/
import Derived.Test.YtgkdiknmjgpgmaaDoorUpK
namespace Go.Proofs.YtgkdiknmjgpgmaaDoor
set_option linter.unusedSimpArgs false
set_option linter.unusedVariables false
open Go.RowKit Go.Sort

set_option maxRecDepth 100000 in
set_option maxHeartbeats 4000000 in
theorem updateWins_walk (w : World) (m : Int) (hm : w.cell? ⟨0, 0, none⟩ = some (.int .i64 m)) (a b c : UpdI) : Calls Tryd.prog 5 #[a.val, b.val, c.val] w (Ret (.bool true) w) := by
  have HA := fun W (hW : Ext w W) => hid (awake16_c W m (hW.cell hm))
  have L1 := fun W => hid (light_c a W)
  have L2 := fun W => hid (light_c b W)
  have L3 := fun W => hid (light_c c W)
  have W1 := fun W => hid (wins_c a b W)
  have W2 := fun W => hid (wins_c b a W)
  have W3 := fun W => hid (wins_c b c W)
  have W4 := fun W => hid (wins_c a c W)
  have O1 := fun W => hid (older_c b.st a.st W)
  have h3 := eq3_st a.st b.st
  unfold UpdI.val at L1 L2 L3 W1 W2 W3 W4 ⊢
  unfold Stamp.val at O1
  clear hm
  go_enter Tryd.func5, Tryd.ntmps5
  go_wp2_with fail
  have e0 := ((Ext.alloc w (.cells #[.int .i64 a.item.by_, .int .i64 a.item.n, .int .i64 a.st.v.by_, .int .i64 a.st.v.n, .int .i64 a.st.time, .string a.p, .string a.d, .bool a.dead] 28)).alloc' (.cells #[.int .i64 b.item.by_, .int .i64 b.item.n, .int .i64 b.st.v.by_, .int .i64 b.st.v.n, .int .i64 b.st.time, .string b.p, .string b.d, .bool b.dead] 28)).alloc' (.cells #[.int .i64 c.item.by_, .int .i64 c.item.n, .int .i64 c.st.v.by_, .int .i64 c.st.v.n, .int .i64 c.st.time, .string c.p, .string c.d, .bool c.dead] 28)
  have hba := ((Blk.new w 28 #[.int .i64 a.item.by_, .int .i64 a.item.n, .int .i64 a.st.v.by_, .int .i64 a.st.v.n, .int .i64 a.st.time, .string a.p, .string a.d, .bool a.dead]).alloc (.cells #[.int .i64 b.item.by_, .int .i64 b.item.n, .int .i64 b.st.v.by_, .int .i64 b.st.v.n, .int .i64 b.st.time, .string b.p, .string b.d, .bool b.dead] 28)).alloc (.cells #[.int .i64 c.item.by_, .int .i64 c.item.n, .int .i64 c.st.v.by_, .int .i64 c.st.v.n, .int .i64 c.st.time, .string c.p, .string c.d, .bool c.dead] 28)
  have hbb := (Blk.new (w.alloc (.cells #[.int .i64 a.item.by_, .int .i64 a.item.n, .int .i64 a.st.v.by_, .int .i64 a.st.v.n, .int .i64 a.st.time, .string a.p, .string a.d, .bool a.dead] 28)) 28 #[.int .i64 b.item.by_, .int .i64 b.item.n, .int .i64 b.st.v.by_, .int .i64 b.st.v.n, .int .i64 b.st.time, .string b.p, .string b.d, .bool b.dead]).alloc (.cells #[.int .i64 c.item.by_, .int .i64 c.item.n, .int .i64 c.st.v.by_, .int .i64 c.st.v.n, .int .i64 c.st.time, .string c.p, .string c.d, .bool c.dead] 28)
  have hbc := Blk.new ((w.alloc (.cells #[.int .i64 a.item.by_, .int .i64 a.item.n, .int .i64 a.st.v.by_, .int .i64 a.st.v.n, .int .i64 a.st.time, .string a.p, .string a.d, .bool a.dead] 28)).alloc (.cells #[.int .i64 b.item.by_, .int .i64 b.item.n, .int .i64 b.st.v.by_, .int .i64 b.st.v.n, .int .i64 b.st.time, .string b.p, .string b.d, .bool b.dead] 28)) 28 #[.int .i64 c.item.by_, .int .i64 c.item.n, .int .i64 c.st.v.by_, .int .i64 c.st.v.n, .int .i64 c.st.time, .string c.p, .string c.d, .bool c.dead]
  simp only [World.size_alloc] at hbb hbc
  generalize ((w.alloc (.cells #[.int .i64 a.item.by_, .int .i64 a.item.n, .int .i64 a.st.v.by_, .int .i64 a.st.v.n, .int .i64 a.st.time, .string a.p, .string a.d, .bool a.dead] 28)).alloc (.cells #[.int .i64 b.item.by_, .int .i64 b.item.n, .int .i64 b.st.v.by_, .int .i64 b.st.v.n, .int .i64 b.st.time, .string b.p, .string b.d, .bool b.dead] 28)).alloc (.cells #[.int .i64 c.item.by_, .int .i64 c.item.n, .int .i64 c.st.v.by_, .int .i64 c.st.v.n, .int .i64 c.st.time, .string c.p, .string c.d, .bool c.dead] 28) = w0 at e0 hba hbb hbc ⊢
  generalize w.heap.size + 1 + 1 = g3 at hbc ⊢
  generalize w.heap.size + 1 = g2 at hbb ⊢
  generalize w.heap.size = g1 at hba ⊢
  have HE0 := hid e0
  have HBa := hid hba
  have HBb := hid hbb
  have HBc := hid hbc
  have ax0 := hba.cell (i := 0) (v := .int .i64 a.item.by_) rfl
  have ax1 := hba.cell (i := 1) (v := .int .i64 a.item.n) rfl
  have ax2 := hba.cell (i := 2) (v := .int .i64 a.st.v.by_) rfl
  have ax3 := hba.cell (i := 3) (v := .int .i64 a.st.v.n) rfl
  have ax4 := hba.cell (i := 4) (v := .int .i64 a.st.time) rfl
  have ax5 := hba.cell (i := 5) (v := .string a.p) rfl
  have ax6 := hba.cell (i := 6) (v := .string a.d) rfl
  have ax7 := hba.cell (i := 7) (v := .bool a.dead) rfl
  have axl := hba.lt
  have bx0 := hbb.cell (i := 0) (v := .int .i64 b.item.by_) rfl
  have bx1 := hbb.cell (i := 1) (v := .int .i64 b.item.n) rfl
  have bx2 := hbb.cell (i := 2) (v := .int .i64 b.st.v.by_) rfl
  have bx3 := hbb.cell (i := 3) (v := .int .i64 b.st.v.n) rfl
  have bx4 := hbb.cell (i := 4) (v := .int .i64 b.st.time) rfl
  have bx5 := hbb.cell (i := 5) (v := .string b.p) rfl
  have bx6 := hbb.cell (i := 6) (v := .string b.d) rfl
  have bx7 := hbb.cell (i := 7) (v := .bool b.dead) rfl
  have bxl := hbb.lt
  have cx0 := hbc.cell (i := 0) (v := .int .i64 c.item.by_) rfl
  have cx1 := hbc.cell (i := 1) (v := .int .i64 c.item.n) rfl
  have cx2 := hbc.cell (i := 2) (v := .int .i64 c.st.v.by_) rfl
  have cx3 := hbc.cell (i := 3) (v := .int .i64 c.st.v.n) rfl
  have cx4 := hbc.cell (i := 4) (v := .int .i64 c.st.time) rfl
  have cx5 := hbc.cell (i := 5) (v := .string c.p) rfl
  have cx6 := hbc.cell (i := 6) (v := .string c.d) rfl
  have cx7 := hbc.cell (i := 7) (v := .bool c.dead) rfl
  have cxl := hbc.lt
  clear hba hbb hbc e0
  cases l1 : lightU a with
  | false =>
    rw [l1] at L1
    clear l1 L2 L3 W1 W2 W3 W4 O1 h3
    refine ((L1 _).out).mono ?_
    rintro e w1 ⟨rfl, x1⟩
    have hba := HBa.out.ext x1
    have hbb := HBb.out.ext x1
    have hbc := HBc.out.ext x1
    clear ax0 ax1 ax2 ax3 ax4 ax5 ax6 ax7 axl HBa bx0 bx1 bx2 bx3 bx4 bx5 bx6 bx7 bxl HBb cx0 cx1 cx2 cx3 cx4 cx5 cx6 cx7 cxl HBc
    have HBa := hid hba
    have ax0 := hba.cell (i := 0) (v := .int .i64 a.item.by_) rfl
    have ax1 := hba.cell (i := 1) (v := .int .i64 a.item.n) rfl
    have ax2 := hba.cell (i := 2) (v := .int .i64 a.st.v.by_) rfl
    have ax3 := hba.cell (i := 3) (v := .int .i64 a.st.v.n) rfl
    have ax4 := hba.cell (i := 4) (v := .int .i64 a.st.time) rfl
    have ax5 := hba.cell (i := 5) (v := .string a.p) rfl
    have ax6 := hba.cell (i := 6) (v := .string a.d) rfl
    have ax7 := hba.cell (i := 7) (v := .bool a.dead) rfl
    have axl := hba.lt
    clear hba
    have HBb := hid hbb
    have bx0 := hbb.cell (i := 0) (v := .int .i64 b.item.by_) rfl
    have bx1 := hbb.cell (i := 1) (v := .int .i64 b.item.n) rfl
    have bx2 := hbb.cell (i := 2) (v := .int .i64 b.st.v.by_) rfl
    have bx3 := hbb.cell (i := 3) (v := .int .i64 b.st.v.n) rfl
    have bx4 := hbb.cell (i := 4) (v := .int .i64 b.st.time) rfl
    have bx5 := hbb.cell (i := 5) (v := .string b.p) rfl
    have bx6 := hbb.cell (i := 6) (v := .string b.d) rfl
    have bx7 := hbb.cell (i := 7) (v := .bool b.dead) rfl
    have bxl := hbb.lt
    clear hbb
    have HBc := hid hbc
    have cx0 := hbc.cell (i := 0) (v := .int .i64 c.item.by_) rfl
    have cx1 := hbc.cell (i := 1) (v := .int .i64 c.item.n) rfl
    have cx2 := hbc.cell (i := 2) (v := .int .i64 c.st.v.by_) rfl
    have cx3 := hbc.cell (i := 3) (v := .int .i64 c.st.v.n) rfl
    have cx4 := hbc.cell (i := 4) (v := .int .i64 c.st.time) rfl
    have cx5 := hbc.cell (i := 5) (v := .string c.p) rfl
    have cx6 := hbc.cell (i := 6) (v := .string c.d) rfl
    have cx7 := hbc.cell (i := 7) (v := .bool c.dead) rfl
    have cxl := hbc.lt
    clear hbc
    have HE := hid (HE0.out.trans x1)
    clear HE0 x1
    have HE0 := HE
    clear HE
    go_wp2_with fail
    refine ((HA _ HE0.out).out).mono ?_
    rintro e w2 ⟨rfl, hx⟩
    have HX := hid (HE0.out.trans hx)
    clear hx HE0
    go_wp2_with fail
    go_ret
    exact ⟨rfl, HX.out⟩
  | true =>
    rw [l1] at L1
    clear l1
    refine ((L1 _).out).mono ?_
    rintro e w1 ⟨rfl, x1⟩
    have hba := HBa.out.ext x1
    have hbb := HBb.out.ext x1
    have hbc := HBc.out.ext x1
    clear ax0 ax1 ax2 ax3 ax4 ax5 ax6 ax7 axl HBa bx0 bx1 bx2 bx3 bx4 bx5 bx6 bx7 bxl HBb cx0 cx1 cx2 cx3 cx4 cx5 cx6 cx7 cxl HBc
    have HBa := hid hba
    have ax0 := hba.cell (i := 0) (v := .int .i64 a.item.by_) rfl
    have ax1 := hba.cell (i := 1) (v := .int .i64 a.item.n) rfl
    have ax2 := hba.cell (i := 2) (v := .int .i64 a.st.v.by_) rfl
    have ax3 := hba.cell (i := 3) (v := .int .i64 a.st.v.n) rfl
    have ax4 := hba.cell (i := 4) (v := .int .i64 a.st.time) rfl
    have ax5 := hba.cell (i := 5) (v := .string a.p) rfl
    have ax6 := hba.cell (i := 6) (v := .string a.d) rfl
    have ax7 := hba.cell (i := 7) (v := .bool a.dead) rfl
    have axl := hba.lt
    clear hba
    have HBb := hid hbb
    have bx0 := hbb.cell (i := 0) (v := .int .i64 b.item.by_) rfl
    have bx1 := hbb.cell (i := 1) (v := .int .i64 b.item.n) rfl
    have bx2 := hbb.cell (i := 2) (v := .int .i64 b.st.v.by_) rfl
    have bx3 := hbb.cell (i := 3) (v := .int .i64 b.st.v.n) rfl
    have bx4 := hbb.cell (i := 4) (v := .int .i64 b.st.time) rfl
    have bx5 := hbb.cell (i := 5) (v := .string b.p) rfl
    have bx6 := hbb.cell (i := 6) (v := .string b.d) rfl
    have bx7 := hbb.cell (i := 7) (v := .bool b.dead) rfl
    have bxl := hbb.lt
    clear hbb
    have HBc := hid hbc
    have cx0 := hbc.cell (i := 0) (v := .int .i64 c.item.by_) rfl
    have cx1 := hbc.cell (i := 1) (v := .int .i64 c.item.n) rfl
    have cx2 := hbc.cell (i := 2) (v := .int .i64 c.st.v.by_) rfl
    have cx3 := hbc.cell (i := 3) (v := .int .i64 c.st.v.n) rfl
    have cx4 := hbc.cell (i := 4) (v := .int .i64 c.st.time) rfl
    have cx5 := hbc.cell (i := 5) (v := .string c.p) rfl
    have cx6 := hbc.cell (i := 6) (v := .string c.d) rfl
    have cx7 := hbc.cell (i := 7) (v := .bool c.dead) rfl
    have cxl := hbc.lt
    clear hbc
    have HE := hid (HE0.out.trans x1)
    clear HE0 x1
    have HE0 := HE
    clear HE
    clear L1
    go_wp2_with fail
    cases l2 : lightU b with
    | false =>
      rw [l2] at L2
      clear l2 L3 W1 W2 W3 W4 O1 h3
      refine ((L2 _).out).mono ?_
      rintro e w2 ⟨rfl, x2⟩
      have hba := HBa.out.ext x2
      have hbb := HBb.out.ext x2
      have hbc := HBc.out.ext x2
      clear ax0 ax1 ax2 ax3 ax4 ax5 ax6 ax7 axl HBa bx0 bx1 bx2 bx3 bx4 bx5 bx6 bx7 bxl HBb cx0 cx1 cx2 cx3 cx4 cx5 cx6 cx7 cxl HBc
      have HBa := hid hba
      have ax0 := hba.cell (i := 0) (v := .int .i64 a.item.by_) rfl
      have ax1 := hba.cell (i := 1) (v := .int .i64 a.item.n) rfl
      have ax2 := hba.cell (i := 2) (v := .int .i64 a.st.v.by_) rfl
      have ax3 := hba.cell (i := 3) (v := .int .i64 a.st.v.n) rfl
      have ax4 := hba.cell (i := 4) (v := .int .i64 a.st.time) rfl
      have ax5 := hba.cell (i := 5) (v := .string a.p) rfl
      have ax6 := hba.cell (i := 6) (v := .string a.d) rfl
      have ax7 := hba.cell (i := 7) (v := .bool a.dead) rfl
      have axl := hba.lt
      clear hba
      have HBb := hid hbb
      have bx0 := hbb.cell (i := 0) (v := .int .i64 b.item.by_) rfl
      have bx1 := hbb.cell (i := 1) (v := .int .i64 b.item.n) rfl
      have bx2 := hbb.cell (i := 2) (v := .int .i64 b.st.v.by_) rfl
      have bx3 := hbb.cell (i := 3) (v := .int .i64 b.st.v.n) rfl
      have bx4 := hbb.cell (i := 4) (v := .int .i64 b.st.time) rfl
      have bx5 := hbb.cell (i := 5) (v := .string b.p) rfl
      have bx6 := hbb.cell (i := 6) (v := .string b.d) rfl
      have bx7 := hbb.cell (i := 7) (v := .bool b.dead) rfl
      have bxl := hbb.lt
      clear hbb
      have HBc := hid hbc
      have cx0 := hbc.cell (i := 0) (v := .int .i64 c.item.by_) rfl
      have cx1 := hbc.cell (i := 1) (v := .int .i64 c.item.n) rfl
      have cx2 := hbc.cell (i := 2) (v := .int .i64 c.st.v.by_) rfl
      have cx3 := hbc.cell (i := 3) (v := .int .i64 c.st.v.n) rfl
      have cx4 := hbc.cell (i := 4) (v := .int .i64 c.st.time) rfl
      have cx5 := hbc.cell (i := 5) (v := .string c.p) rfl
      have cx6 := hbc.cell (i := 6) (v := .string c.d) rfl
      have cx7 := hbc.cell (i := 7) (v := .bool c.dead) rfl
      have cxl := hbc.lt
      clear hbc
      have HE := hid (HE0.out.trans x2)
      clear HE0 x2
      have HE0 := HE
      clear HE
      go_wp2_with fail
      refine ((HA _ HE0.out).out).mono ?_
      rintro e w3 ⟨rfl, hx⟩
      have HX := hid (HE0.out.trans hx)
      clear hx HE0
      go_wp2_with fail
      go_ret
      exact ⟨rfl, HX.out⟩
    | true =>
      rw [l2] at L2
      clear l2
      refine ((L2 _).out).mono ?_
      rintro e w2 ⟨rfl, x2⟩
      have hba := HBa.out.ext x2
      have hbb := HBb.out.ext x2
      have hbc := HBc.out.ext x2
      clear ax0 ax1 ax2 ax3 ax4 ax5 ax6 ax7 axl HBa bx0 bx1 bx2 bx3 bx4 bx5 bx6 bx7 bxl HBb cx0 cx1 cx2 cx3 cx4 cx5 cx6 cx7 cxl HBc
      have HBa := hid hba
      have ax0 := hba.cell (i := 0) (v := .int .i64 a.item.by_) rfl
      have ax1 := hba.cell (i := 1) (v := .int .i64 a.item.n) rfl
      have ax2 := hba.cell (i := 2) (v := .int .i64 a.st.v.by_) rfl
      have ax3 := hba.cell (i := 3) (v := .int .i64 a.st.v.n) rfl
      have ax4 := hba.cell (i := 4) (v := .int .i64 a.st.time) rfl
      have ax5 := hba.cell (i := 5) (v := .string a.p) rfl
      have ax6 := hba.cell (i := 6) (v := .string a.d) rfl
      have ax7 := hba.cell (i := 7) (v := .bool a.dead) rfl
      have axl := hba.lt
      clear hba
      have HBb := hid hbb
      have bx0 := hbb.cell (i := 0) (v := .int .i64 b.item.by_) rfl
      have bx1 := hbb.cell (i := 1) (v := .int .i64 b.item.n) rfl
      have bx2 := hbb.cell (i := 2) (v := .int .i64 b.st.v.by_) rfl
      have bx3 := hbb.cell (i := 3) (v := .int .i64 b.st.v.n) rfl
      have bx4 := hbb.cell (i := 4) (v := .int .i64 b.st.time) rfl
      have bx5 := hbb.cell (i := 5) (v := .string b.p) rfl
      have bx6 := hbb.cell (i := 6) (v := .string b.d) rfl
      have bx7 := hbb.cell (i := 7) (v := .bool b.dead) rfl
      have bxl := hbb.lt
      clear hbb
      have HBc := hid hbc
      have cx0 := hbc.cell (i := 0) (v := .int .i64 c.item.by_) rfl
      have cx1 := hbc.cell (i := 1) (v := .int .i64 c.item.n) rfl
      have cx2 := hbc.cell (i := 2) (v := .int .i64 c.st.v.by_) rfl
      have cx3 := hbc.cell (i := 3) (v := .int .i64 c.st.v.n) rfl
      have cx4 := hbc.cell (i := 4) (v := .int .i64 c.st.time) rfl
      have cx5 := hbc.cell (i := 5) (v := .string c.p) rfl
      have cx6 := hbc.cell (i := 6) (v := .string c.d) rfl
      have cx7 := hbc.cell (i := 7) (v := .bool c.dead) rfl
      have cxl := hbc.lt
      clear hbc
      have HE := hid (HE0.out.trans x2)
      clear HE0 x2
      have HE0 := HE
      clear HE
      clear L2
      go_wp2_with fail
      cases l3 : lightU c with
      | false =>
        rw [l3] at L3
        clear l3 W1 W2 W3 W4 O1 h3
        refine ((L3 _).out).mono ?_
        rintro e w3 ⟨rfl, x3⟩
        have hba := HBa.out.ext x3
        have hbb := HBb.out.ext x3
        have hbc := HBc.out.ext x3
        clear ax0 ax1 ax2 ax3 ax4 ax5 ax6 ax7 axl HBa bx0 bx1 bx2 bx3 bx4 bx5 bx6 bx7 bxl HBb cx0 cx1 cx2 cx3 cx4 cx5 cx6 cx7 cxl HBc
        have HBa := hid hba
        have ax0 := hba.cell (i := 0) (v := .int .i64 a.item.by_) rfl
        have ax1 := hba.cell (i := 1) (v := .int .i64 a.item.n) rfl
        have ax2 := hba.cell (i := 2) (v := .int .i64 a.st.v.by_) rfl
        have ax3 := hba.cell (i := 3) (v := .int .i64 a.st.v.n) rfl
        have ax4 := hba.cell (i := 4) (v := .int .i64 a.st.time) rfl
        have ax5 := hba.cell (i := 5) (v := .string a.p) rfl
        have ax6 := hba.cell (i := 6) (v := .string a.d) rfl
        have ax7 := hba.cell (i := 7) (v := .bool a.dead) rfl
        have axl := hba.lt
        clear hba
        have HBb := hid hbb
        have bx0 := hbb.cell (i := 0) (v := .int .i64 b.item.by_) rfl
        have bx1 := hbb.cell (i := 1) (v := .int .i64 b.item.n) rfl
        have bx2 := hbb.cell (i := 2) (v := .int .i64 b.st.v.by_) rfl
        have bx3 := hbb.cell (i := 3) (v := .int .i64 b.st.v.n) rfl
        have bx4 := hbb.cell (i := 4) (v := .int .i64 b.st.time) rfl
        have bx5 := hbb.cell (i := 5) (v := .string b.p) rfl
        have bx6 := hbb.cell (i := 6) (v := .string b.d) rfl
        have bx7 := hbb.cell (i := 7) (v := .bool b.dead) rfl
        have bxl := hbb.lt
        clear hbb
        have HBc := hid hbc
        have cx0 := hbc.cell (i := 0) (v := .int .i64 c.item.by_) rfl
        have cx1 := hbc.cell (i := 1) (v := .int .i64 c.item.n) rfl
        have cx2 := hbc.cell (i := 2) (v := .int .i64 c.st.v.by_) rfl
        have cx3 := hbc.cell (i := 3) (v := .int .i64 c.st.v.n) rfl
        have cx4 := hbc.cell (i := 4) (v := .int .i64 c.st.time) rfl
        have cx5 := hbc.cell (i := 5) (v := .string c.p) rfl
        have cx6 := hbc.cell (i := 6) (v := .string c.d) rfl
        have cx7 := hbc.cell (i := 7) (v := .bool c.dead) rfl
        have cxl := hbc.lt
        clear hbc
        have HE := hid (HE0.out.trans x3)
        clear HE0 x3
        have HE0 := HE
        clear HE
        go_wp2_with fail
        refine ((HA _ HE0.out).out).mono ?_
        rintro e w4 ⟨rfl, hx⟩
        have HX := hid (HE0.out.trans hx)
        clear hx HE0
        go_wp2_with fail
        go_ret
        exact ⟨rfl, HX.out⟩
      | true =>
        rw [l3] at L3
        clear l3
        refine ((L3 _).out).mono ?_
        rintro e w3 ⟨rfl, x3⟩
        have hba := HBa.out.ext x3
        have hbb := HBb.out.ext x3
        have hbc := HBc.out.ext x3
        clear ax0 ax1 ax2 ax3 ax4 ax5 ax6 ax7 axl HBa bx0 bx1 bx2 bx3 bx4 bx5 bx6 bx7 bxl HBb cx0 cx1 cx2 cx3 cx4 cx5 cx6 cx7 cxl HBc
        have HBa := hid hba
        have ax0 := hba.cell (i := 0) (v := .int .i64 a.item.by_) rfl
        have ax1 := hba.cell (i := 1) (v := .int .i64 a.item.n) rfl
        have ax2 := hba.cell (i := 2) (v := .int .i64 a.st.v.by_) rfl
        have ax3 := hba.cell (i := 3) (v := .int .i64 a.st.v.n) rfl
        have ax4 := hba.cell (i := 4) (v := .int .i64 a.st.time) rfl
        have ax5 := hba.cell (i := 5) (v := .string a.p) rfl
        have ax6 := hba.cell (i := 6) (v := .string a.d) rfl
        have ax7 := hba.cell (i := 7) (v := .bool a.dead) rfl
        have axl := hba.lt
        clear hba
        have HBb := hid hbb
        have bx0 := hbb.cell (i := 0) (v := .int .i64 b.item.by_) rfl
        have bx1 := hbb.cell (i := 1) (v := .int .i64 b.item.n) rfl
        have bx2 := hbb.cell (i := 2) (v := .int .i64 b.st.v.by_) rfl
        have bx3 := hbb.cell (i := 3) (v := .int .i64 b.st.v.n) rfl
        have bx4 := hbb.cell (i := 4) (v := .int .i64 b.st.time) rfl
        have bx5 := hbb.cell (i := 5) (v := .string b.p) rfl
        have bx6 := hbb.cell (i := 6) (v := .string b.d) rfl
        have bx7 := hbb.cell (i := 7) (v := .bool b.dead) rfl
        have bxl := hbb.lt
        clear hbb
        have HBc := hid hbc
        have cx0 := hbc.cell (i := 0) (v := .int .i64 c.item.by_) rfl
        have cx1 := hbc.cell (i := 1) (v := .int .i64 c.item.n) rfl
        have cx2 := hbc.cell (i := 2) (v := .int .i64 c.st.v.by_) rfl
        have cx3 := hbc.cell (i := 3) (v := .int .i64 c.st.v.n) rfl
        have cx4 := hbc.cell (i := 4) (v := .int .i64 c.st.time) rfl
        have cx5 := hbc.cell (i := 5) (v := .string c.p) rfl
        have cx6 := hbc.cell (i := 6) (v := .string c.d) rfl
        have cx7 := hbc.cell (i := 7) (v := .bool c.dead) rfl
        have cxl := hbc.lt
        clear hbc
        have HE := hid (HE0.out.trans x3)
        clear HE0 x3
        have HE0 := HE
        clear HE
        clear L3
        go_wp2_with fail
        cases hab : older b.st a.st with
        | true =>
          have hba := older_asymm hab
          have heq : ¬ a.st = b.st := fun e => by rw [e, older_irrefl] at hab; cases hab
          have hde : decide (a.st = b.st) = false := decide_eq_false heq
          have HT : Hid (older c.st b.st = true → older c.st a.st = true) := fun h => older_trans h hab
          clear heq
          rw [hab] at W1 O1
          rw [hba] at W2
          rw [hde] at h3
          refine wp_region_any_order (by kernel_rfl) (by kernel_rfl) (by kernel_rfl) ?_
          repeat (first
            | (refine AWq.val rfl rfl rfl rfl (fun K hK => ?_); go_big_quiet_op; refine hK _ ?_; clear hK K)
            | (refine AWq.skip rfl rfl rfl ?_; simp only [Act.put, List.setIfInBounds_toArray, List.set_cons_succ, List.set_cons_zero])
            | (refine AWq.call rfl Tryd.func22 (by kernel_rfl) (by kernel_rfl) rfl rfl rfl ?_; apply Exists.intro; refine And.intro (fun wc hc => ?_) ?_; (· (simp only [argsOf, anyAt, ↓reduceIte, Nat.reduceEqDiff, Array.getD_eq_getD_getElem?, List.getElem?_toArray, List.getElem?_cons_succ, List.getElem?_cons_zero, Option.getD_some]; with_reducible exact (W1 _).out)); simp only [Act.put, List.setIfInBounds_toArray, List.set_cons_succ, List.set_cons_zero])
            | (refine AWq.call rfl Tryd.func22 (by kernel_rfl) (by kernel_rfl) rfl rfl rfl ?_; apply Exists.intro; refine And.intro (fun wc hc => ?_) ?_; (· (simp only [argsOf, anyAt, ↓reduceIte, Nat.reduceEqDiff, Array.getD_eq_getD_getElem?, List.getElem?_toArray, List.getElem?_cons_succ, List.getElem?_cons_zero, Option.getD_some]; with_reducible exact (W2 _).out)); simp only [Act.put, List.setIfInBounds_toArray, List.set_cons_succ, List.set_cons_zero]))
          refine AWq.done rfl rfl rfl (fun w5 x5 => ?_)
          simp only [closeAny, Act.put, List.setIfInBounds_toArray, List.set_cons_succ, List.set_cons_zero]
          have hba := HBa.out.ext x5
          have hbb := HBb.out.ext x5
          have hbc := HBc.out.ext x5
          clear ax0 ax1 ax2 ax3 ax4 ax5 ax6 ax7 axl HBa bx0 bx1 bx2 bx3 bx4 bx5 bx6 bx7 bxl HBb cx0 cx1 cx2 cx3 cx4 cx5 cx6 cx7 cxl HBc
          have HBa := hid hba
          have ax0 := hba.cell (i := 0) (v := .int .i64 a.item.by_) rfl
          have ax1 := hba.cell (i := 1) (v := .int .i64 a.item.n) rfl
          have ax2 := hba.cell (i := 2) (v := .int .i64 a.st.v.by_) rfl
          have ax3 := hba.cell (i := 3) (v := .int .i64 a.st.v.n) rfl
          have ax4 := hba.cell (i := 4) (v := .int .i64 a.st.time) rfl
          have ax5 := hba.cell (i := 5) (v := .string a.p) rfl
          have ax6 := hba.cell (i := 6) (v := .string a.d) rfl
          have ax7 := hba.cell (i := 7) (v := .bool a.dead) rfl
          have axl := hba.lt
          clear hba
          have HBb := hid hbb
          have bx0 := hbb.cell (i := 0) (v := .int .i64 b.item.by_) rfl
          have bx1 := hbb.cell (i := 1) (v := .int .i64 b.item.n) rfl
          have bx2 := hbb.cell (i := 2) (v := .int .i64 b.st.v.by_) rfl
          have bx3 := hbb.cell (i := 3) (v := .int .i64 b.st.v.n) rfl
          have bx4 := hbb.cell (i := 4) (v := .int .i64 b.st.time) rfl
          have bx5 := hbb.cell (i := 5) (v := .string b.p) rfl
          have bx6 := hbb.cell (i := 6) (v := .string b.d) rfl
          have bx7 := hbb.cell (i := 7) (v := .bool b.dead) rfl
          have bxl := hbb.lt
          clear hbb
          have HBc := hid hbc
          have cx0 := hbc.cell (i := 0) (v := .int .i64 c.item.by_) rfl
          have cx1 := hbc.cell (i := 1) (v := .int .i64 c.item.n) rfl
          have cx2 := hbc.cell (i := 2) (v := .int .i64 c.st.v.by_) rfl
          have cx3 := hbc.cell (i := 3) (v := .int .i64 c.st.v.n) rfl
          have cx4 := hbc.cell (i := 4) (v := .int .i64 c.st.time) rfl
          have cx5 := hbc.cell (i := 5) (v := .string c.p) rfl
          have cx6 := hbc.cell (i := 6) (v := .string c.d) rfl
          have cx7 := hbc.cell (i := 7) (v := .bool c.dead) rfl
          have cxl := hbc.lt
          clear hbc
          have HE := hid (HE0.out.trans x5)
          clear HE0 x5
          have HE0 := HE
          clear HE
          go_wp2_with fail
          refine ((O1 _).out).mono ?_
          rintro e w6 ⟨rfl, x6⟩
          have hba := HBa.out.ext x6
          have hbb := HBb.out.ext x6
          have hbc := HBc.out.ext x6
          clear ax0 ax1 ax2 ax3 ax4 ax5 ax6 ax7 axl HBa bx0 bx1 bx2 bx3 bx4 bx5 bx6 bx7 bxl HBb cx0 cx1 cx2 cx3 cx4 cx5 cx6 cx7 cxl HBc
          have HBa := hid hba
          have ax0 := hba.cell (i := 0) (v := .int .i64 a.item.by_) rfl
          have ax1 := hba.cell (i := 1) (v := .int .i64 a.item.n) rfl
          have ax2 := hba.cell (i := 2) (v := .int .i64 a.st.v.by_) rfl
          have ax3 := hba.cell (i := 3) (v := .int .i64 a.st.v.n) rfl
          have ax4 := hba.cell (i := 4) (v := .int .i64 a.st.time) rfl
          have ax5 := hba.cell (i := 5) (v := .string a.p) rfl
          have ax6 := hba.cell (i := 6) (v := .string a.d) rfl
          have ax7 := hba.cell (i := 7) (v := .bool a.dead) rfl
          have axl := hba.lt
          clear hba
          have HBb := hid hbb
          have bx0 := hbb.cell (i := 0) (v := .int .i64 b.item.by_) rfl
          have bx1 := hbb.cell (i := 1) (v := .int .i64 b.item.n) rfl
          have bx2 := hbb.cell (i := 2) (v := .int .i64 b.st.v.by_) rfl
          have bx3 := hbb.cell (i := 3) (v := .int .i64 b.st.v.n) rfl
          have bx4 := hbb.cell (i := 4) (v := .int .i64 b.st.time) rfl
          have bx5 := hbb.cell (i := 5) (v := .string b.p) rfl
          have bx6 := hbb.cell (i := 6) (v := .string b.d) rfl
          have bx7 := hbb.cell (i := 7) (v := .bool b.dead) rfl
          have bxl := hbb.lt
          clear hbb
          have HBc := hid hbc
          have cx0 := hbc.cell (i := 0) (v := .int .i64 c.item.by_) rfl
          have cx1 := hbc.cell (i := 1) (v := .int .i64 c.item.n) rfl
          have cx2 := hbc.cell (i := 2) (v := .int .i64 c.st.v.by_) rfl
          have cx3 := hbc.cell (i := 3) (v := .int .i64 c.st.v.n) rfl
          have cx4 := hbc.cell (i := 4) (v := .int .i64 c.st.time) rfl
          have cx5 := hbc.cell (i := 5) (v := .string c.p) rfl
          have cx6 := hbc.cell (i := 6) (v := .string c.d) rfl
          have cx7 := hbc.cell (i := 7) (v := .bool c.dead) rfl
          have cxl := hbc.lt
          clear hbc
          have HE := hid (HE0.out.trans x6)
          clear HE0 x6
          have HE0 := HE
          clear HE
          clear W1 W2 O1 hab hba hde
          go_wp2_with fail
          refine ((HA _ HE0.out).out).mono ?_
          rintro e w7 ⟨rfl, x7⟩
          have hba := HBa.out.ext x7
          have hbb := HBb.out.ext x7
          have hbc := HBc.out.ext x7
          clear ax0 ax1 ax2 ax3 ax4 ax5 ax6 ax7 axl HBa bx0 bx1 bx2 bx3 bx4 bx5 bx6 bx7 bxl HBb cx0 cx1 cx2 cx3 cx4 cx5 cx6 cx7 cxl HBc
          have HBa := hid hba
          have ax0 := hba.cell (i := 0) (v := .int .i64 a.item.by_) rfl
          have ax1 := hba.cell (i := 1) (v := .int .i64 a.item.n) rfl
          have ax2 := hba.cell (i := 2) (v := .int .i64 a.st.v.by_) rfl
          have ax3 := hba.cell (i := 3) (v := .int .i64 a.st.v.n) rfl
          have ax4 := hba.cell (i := 4) (v := .int .i64 a.st.time) rfl
          have ax5 := hba.cell (i := 5) (v := .string a.p) rfl
          have ax6 := hba.cell (i := 6) (v := .string a.d) rfl
          have ax7 := hba.cell (i := 7) (v := .bool a.dead) rfl
          have axl := hba.lt
          clear hba
          have HBb := hid hbb
          have bx0 := hbb.cell (i := 0) (v := .int .i64 b.item.by_) rfl
          have bx1 := hbb.cell (i := 1) (v := .int .i64 b.item.n) rfl
          have bx2 := hbb.cell (i := 2) (v := .int .i64 b.st.v.by_) rfl
          have bx3 := hbb.cell (i := 3) (v := .int .i64 b.st.v.n) rfl
          have bx4 := hbb.cell (i := 4) (v := .int .i64 b.st.time) rfl
          have bx5 := hbb.cell (i := 5) (v := .string b.p) rfl
          have bx6 := hbb.cell (i := 6) (v := .string b.d) rfl
          have bx7 := hbb.cell (i := 7) (v := .bool b.dead) rfl
          have bxl := hbb.lt
          clear hbb
          have HBc := hid hbc
          have cx0 := hbc.cell (i := 0) (v := .int .i64 c.item.by_) rfl
          have cx1 := hbc.cell (i := 1) (v := .int .i64 c.item.n) rfl
          have cx2 := hbc.cell (i := 2) (v := .int .i64 c.st.v.by_) rfl
          have cx3 := hbc.cell (i := 3) (v := .int .i64 c.st.v.n) rfl
          have cx4 := hbc.cell (i := 4) (v := .int .i64 c.st.time) rfl
          have cx5 := hbc.cell (i := 5) (v := .string c.p) rfl
          have cx6 := hbc.cell (i := 6) (v := .string c.d) rfl
          have cx7 := hbc.cell (i := 7) (v := .bool c.dead) rfl
          have cxl := hbc.lt
          clear hbc
          have HE := hid (HE0.out.trans x7)
          clear HE0 x7
          have HE0 := HE
          clear HE
          go_wp2_with fail
          cases hbc : older c.st b.st with
          | false =>
            rw [hbc] at W3
            clear hbc HT W4
            refine ((W3 _).out).mono ?_
            rintro e w8 ⟨rfl, hx⟩
            have HX := hid (HE0.out.trans hx)
            clear hx
            go_wp2_with fail
            go_ret
            exact ⟨rfl, HX.out⟩
          | true =>
            rw [hbc] at W3
            rw [HT.out hbc] at W4
            clear hbc HT
            refine ((W3 _).out).mono ?_
            rintro e w8 ⟨rfl, x8⟩
            have hba := HBa.out.ext x8
            have hbb := HBb.out.ext x8
            have hbc := HBc.out.ext x8
            clear ax0 ax1 ax2 ax3 ax4 ax5 ax6 ax7 axl HBa bx0 bx1 bx2 bx3 bx4 bx5 bx6 bx7 bxl HBb cx0 cx1 cx2 cx3 cx4 cx5 cx6 cx7 cxl HBc
            have HBa := hid hba
            have ax0 := hba.cell (i := 0) (v := .int .i64 a.item.by_) rfl
            have ax1 := hba.cell (i := 1) (v := .int .i64 a.item.n) rfl
            have ax2 := hba.cell (i := 2) (v := .int .i64 a.st.v.by_) rfl
            have ax3 := hba.cell (i := 3) (v := .int .i64 a.st.v.n) rfl
            have ax4 := hba.cell (i := 4) (v := .int .i64 a.st.time) rfl
            have ax5 := hba.cell (i := 5) (v := .string a.p) rfl
            have ax6 := hba.cell (i := 6) (v := .string a.d) rfl
            have ax7 := hba.cell (i := 7) (v := .bool a.dead) rfl
            have axl := hba.lt
            clear hba
            have HBb := hid hbb
            have bx0 := hbb.cell (i := 0) (v := .int .i64 b.item.by_) rfl
            have bx1 := hbb.cell (i := 1) (v := .int .i64 b.item.n) rfl
            have bx2 := hbb.cell (i := 2) (v := .int .i64 b.st.v.by_) rfl
            have bx3 := hbb.cell (i := 3) (v := .int .i64 b.st.v.n) rfl
            have bx4 := hbb.cell (i := 4) (v := .int .i64 b.st.time) rfl
            have bx5 := hbb.cell (i := 5) (v := .string b.p) rfl
            have bx6 := hbb.cell (i := 6) (v := .string b.d) rfl
            have bx7 := hbb.cell (i := 7) (v := .bool b.dead) rfl
            have bxl := hbb.lt
            clear hbb
            have HBc := hid hbc
            have cx0 := hbc.cell (i := 0) (v := .int .i64 c.item.by_) rfl
            have cx1 := hbc.cell (i := 1) (v := .int .i64 c.item.n) rfl
            have cx2 := hbc.cell (i := 2) (v := .int .i64 c.st.v.by_) rfl
            have cx3 := hbc.cell (i := 3) (v := .int .i64 c.st.v.n) rfl
            have cx4 := hbc.cell (i := 4) (v := .int .i64 c.st.time) rfl
            have cx5 := hbc.cell (i := 5) (v := .string c.p) rfl
            have cx6 := hbc.cell (i := 6) (v := .string c.d) rfl
            have cx7 := hbc.cell (i := 7) (v := .bool c.dead) rfl
            have cxl := hbc.lt
            clear hbc
            have HE := hid (HE0.out.trans x8)
            clear HE0 x8
            have HE0 := HE
            clear HE
            go_wp2_with fail
            refine ((W4 _).out).mono ?_
            rintro e w9 ⟨rfl, hx⟩
            have HX := hid (HE0.out.trans hx)
            clear hx
            go_wp2_with fail
            go_ret
            exact ⟨rfl, HX.out⟩
        | false =>
          cases hba : older a.st b.st with
          | true =>
            have hde : decide (a.st = b.st) = false := decide_eq_false fun e => by rw [e, older_irrefl] at hba; cases hba
            rw [hab] at W1 O1
            rw [hba] at W2
            rw [hde] at h3
            refine wp_region_any_order (by kernel_rfl) (by kernel_rfl) (by kernel_rfl) ?_
            repeat (first
              | (refine AWq.val rfl rfl rfl rfl (fun K hK => ?_); go_big_quiet_op; refine hK _ ?_; clear hK K)
              | (refine AWq.skip rfl rfl rfl ?_; simp only [Act.put, List.setIfInBounds_toArray, List.set_cons_succ, List.set_cons_zero])
              | (refine AWq.call rfl Tryd.func22 (by kernel_rfl) (by kernel_rfl) rfl rfl rfl ?_; apply Exists.intro; refine And.intro (fun wc hc => ?_) ?_; (· (simp only [argsOf, anyAt, ↓reduceIte, Nat.reduceEqDiff, Array.getD_eq_getD_getElem?, List.getElem?_toArray, List.getElem?_cons_succ, List.getElem?_cons_zero, Option.getD_some]; with_reducible exact (W1 _).out)); simp only [Act.put, List.setIfInBounds_toArray, List.set_cons_succ, List.set_cons_zero])
              | (refine AWq.call rfl Tryd.func22 (by kernel_rfl) (by kernel_rfl) rfl rfl rfl ?_; apply Exists.intro; refine And.intro (fun wc hc => ?_) ?_; (· (simp only [argsOf, anyAt, ↓reduceIte, Nat.reduceEqDiff, Array.getD_eq_getD_getElem?, List.getElem?_toArray, List.getElem?_cons_succ, List.getElem?_cons_zero, Option.getD_some]; with_reducible exact (W2 _).out)); simp only [Act.put, List.setIfInBounds_toArray, List.set_cons_succ, List.set_cons_zero]))
            refine AWq.done rfl rfl rfl (fun w5 x5 => ?_)
            simp only [closeAny, Act.put, List.setIfInBounds_toArray, List.set_cons_succ, List.set_cons_zero]
            have hba := HBa.out.ext x5
            have hbb := HBb.out.ext x5
            have hbc := HBc.out.ext x5
            clear ax0 ax1 ax2 ax3 ax4 ax5 ax6 ax7 axl HBa bx0 bx1 bx2 bx3 bx4 bx5 bx6 bx7 bxl HBb cx0 cx1 cx2 cx3 cx4 cx5 cx6 cx7 cxl HBc
            have HBa := hid hba
            have ax0 := hba.cell (i := 0) (v := .int .i64 a.item.by_) rfl
            have ax1 := hba.cell (i := 1) (v := .int .i64 a.item.n) rfl
            have ax2 := hba.cell (i := 2) (v := .int .i64 a.st.v.by_) rfl
            have ax3 := hba.cell (i := 3) (v := .int .i64 a.st.v.n) rfl
            have ax4 := hba.cell (i := 4) (v := .int .i64 a.st.time) rfl
            have ax5 := hba.cell (i := 5) (v := .string a.p) rfl
            have ax6 := hba.cell (i := 6) (v := .string a.d) rfl
            have ax7 := hba.cell (i := 7) (v := .bool a.dead) rfl
            have axl := hba.lt
            clear hba
            have HBb := hid hbb
            have bx0 := hbb.cell (i := 0) (v := .int .i64 b.item.by_) rfl
            have bx1 := hbb.cell (i := 1) (v := .int .i64 b.item.n) rfl
            have bx2 := hbb.cell (i := 2) (v := .int .i64 b.st.v.by_) rfl
            have bx3 := hbb.cell (i := 3) (v := .int .i64 b.st.v.n) rfl
            have bx4 := hbb.cell (i := 4) (v := .int .i64 b.st.time) rfl
            have bx5 := hbb.cell (i := 5) (v := .string b.p) rfl
            have bx6 := hbb.cell (i := 6) (v := .string b.d) rfl
            have bx7 := hbb.cell (i := 7) (v := .bool b.dead) rfl
            have bxl := hbb.lt
            clear hbb
            have HBc := hid hbc
            have cx0 := hbc.cell (i := 0) (v := .int .i64 c.item.by_) rfl
            have cx1 := hbc.cell (i := 1) (v := .int .i64 c.item.n) rfl
            have cx2 := hbc.cell (i := 2) (v := .int .i64 c.st.v.by_) rfl
            have cx3 := hbc.cell (i := 3) (v := .int .i64 c.st.v.n) rfl
            have cx4 := hbc.cell (i := 4) (v := .int .i64 c.st.time) rfl
            have cx5 := hbc.cell (i := 5) (v := .string c.p) rfl
            have cx6 := hbc.cell (i := 6) (v := .string c.d) rfl
            have cx7 := hbc.cell (i := 7) (v := .bool c.dead) rfl
            have cxl := hbc.lt
            clear hbc
            have HE := hid (HE0.out.trans x5)
            clear HE0 x5
            have HE0 := HE
            clear HE
            go_wp2_with fail
            refine ((O1 _).out).mono ?_
            rintro e w6 ⟨rfl, x6⟩
            have hba := HBa.out.ext x6
            have hbb := HBb.out.ext x6
            have hbc := HBc.out.ext x6
            clear ax0 ax1 ax2 ax3 ax4 ax5 ax6 ax7 axl HBa bx0 bx1 bx2 bx3 bx4 bx5 bx6 bx7 bxl HBb cx0 cx1 cx2 cx3 cx4 cx5 cx6 cx7 cxl HBc
            have HBa := hid hba
            have ax0 := hba.cell (i := 0) (v := .int .i64 a.item.by_) rfl
            have ax1 := hba.cell (i := 1) (v := .int .i64 a.item.n) rfl
            have ax2 := hba.cell (i := 2) (v := .int .i64 a.st.v.by_) rfl
            have ax3 := hba.cell (i := 3) (v := .int .i64 a.st.v.n) rfl
            have ax4 := hba.cell (i := 4) (v := .int .i64 a.st.time) rfl
            have ax5 := hba.cell (i := 5) (v := .string a.p) rfl
            have ax6 := hba.cell (i := 6) (v := .string a.d) rfl
            have ax7 := hba.cell (i := 7) (v := .bool a.dead) rfl
            have axl := hba.lt
            clear hba
            have HBb := hid hbb
            have bx0 := hbb.cell (i := 0) (v := .int .i64 b.item.by_) rfl
            have bx1 := hbb.cell (i := 1) (v := .int .i64 b.item.n) rfl
            have bx2 := hbb.cell (i := 2) (v := .int .i64 b.st.v.by_) rfl
            have bx3 := hbb.cell (i := 3) (v := .int .i64 b.st.v.n) rfl
            have bx4 := hbb.cell (i := 4) (v := .int .i64 b.st.time) rfl
            have bx5 := hbb.cell (i := 5) (v := .string b.p) rfl
            have bx6 := hbb.cell (i := 6) (v := .string b.d) rfl
            have bx7 := hbb.cell (i := 7) (v := .bool b.dead) rfl
            have bxl := hbb.lt
            clear hbb
            have HBc := hid hbc
            have cx0 := hbc.cell (i := 0) (v := .int .i64 c.item.by_) rfl
            have cx1 := hbc.cell (i := 1) (v := .int .i64 c.item.n) rfl
            have cx2 := hbc.cell (i := 2) (v := .int .i64 c.st.v.by_) rfl
            have cx3 := hbc.cell (i := 3) (v := .int .i64 c.st.v.n) rfl
            have cx4 := hbc.cell (i := 4) (v := .int .i64 c.st.time) rfl
            have cx5 := hbc.cell (i := 5) (v := .string c.p) rfl
            have cx6 := hbc.cell (i := 6) (v := .string c.d) rfl
            have cx7 := hbc.cell (i := 7) (v := .bool c.dead) rfl
            have cxl := hbc.lt
            clear hbc
            have HE := hid (HE0.out.trans x6)
            clear HE0 x6
            have HE0 := HE
            clear HE
            clear hab hba hde
            clear W1 W2 O1 W3 W4
            go_wp2_with fail
            refine ((HA _ HE0.out).out).mono ?_
            rintro e w7 ⟨rfl, hx⟩
            have HX := hid (HE0.out.trans hx)
            clear hx HE0
            go_wp2_with fail
            go_ret
            exact ⟨rfl, HX.out⟩
          | false =>
            have hde : decide (a.st = b.st) = true := decide_eq_true (older_total hba hab)
            rw [hab] at W1 O1
            rw [hba] at W2
            rw [hde] at h3
            refine wp_region_any_order (by kernel_rfl) (by kernel_rfl) (by kernel_rfl) ?_
            repeat (first
              | (refine AWq.val rfl rfl rfl rfl (fun K hK => ?_); go_big_quiet_op; refine hK _ ?_; clear hK K)
              | (refine AWq.skip rfl rfl rfl ?_; simp only [Act.put, List.setIfInBounds_toArray, List.set_cons_succ, List.set_cons_zero])
              | (refine AWq.call rfl Tryd.func22 (by kernel_rfl) (by kernel_rfl) rfl rfl rfl ?_; apply Exists.intro; refine And.intro (fun wc hc => ?_) ?_; (· (simp only [argsOf, anyAt, ↓reduceIte, Nat.reduceEqDiff, Array.getD_eq_getD_getElem?, List.getElem?_toArray, List.getElem?_cons_succ, List.getElem?_cons_zero, Option.getD_some]; with_reducible exact (W1 _).out)); simp only [Act.put, List.setIfInBounds_toArray, List.set_cons_succ, List.set_cons_zero])
              | (refine AWq.call rfl Tryd.func22 (by kernel_rfl) (by kernel_rfl) rfl rfl rfl ?_; apply Exists.intro; refine And.intro (fun wc hc => ?_) ?_; (· (simp only [argsOf, anyAt, ↓reduceIte, Nat.reduceEqDiff, Array.getD_eq_getD_getElem?, List.getElem?_toArray, List.getElem?_cons_succ, List.getElem?_cons_zero, Option.getD_some]; with_reducible exact (W2 _).out)); simp only [Act.put, List.setIfInBounds_toArray, List.set_cons_succ, List.set_cons_zero]))
            refine AWq.done rfl rfl rfl (fun w5 x5 => ?_)
            simp only [closeAny, Act.put, List.setIfInBounds_toArray, List.set_cons_succ, List.set_cons_zero]
            have hba := HBa.out.ext x5
            have hbb := HBb.out.ext x5
            have hbc := HBc.out.ext x5
            clear ax0 ax1 ax2 ax3 ax4 ax5 ax6 ax7 axl HBa bx0 bx1 bx2 bx3 bx4 bx5 bx6 bx7 bxl HBb cx0 cx1 cx2 cx3 cx4 cx5 cx6 cx7 cxl HBc
            have HBa := hid hba
            have ax0 := hba.cell (i := 0) (v := .int .i64 a.item.by_) rfl
            have ax1 := hba.cell (i := 1) (v := .int .i64 a.item.n) rfl
            have ax2 := hba.cell (i := 2) (v := .int .i64 a.st.v.by_) rfl
            have ax3 := hba.cell (i := 3) (v := .int .i64 a.st.v.n) rfl
            have ax4 := hba.cell (i := 4) (v := .int .i64 a.st.time) rfl
            have ax5 := hba.cell (i := 5) (v := .string a.p) rfl
            have ax6 := hba.cell (i := 6) (v := .string a.d) rfl
            have ax7 := hba.cell (i := 7) (v := .bool a.dead) rfl
            have axl := hba.lt
            clear hba
            have HBb := hid hbb
            have bx0 := hbb.cell (i := 0) (v := .int .i64 b.item.by_) rfl
            have bx1 := hbb.cell (i := 1) (v := .int .i64 b.item.n) rfl
            have bx2 := hbb.cell (i := 2) (v := .int .i64 b.st.v.by_) rfl
            have bx3 := hbb.cell (i := 3) (v := .int .i64 b.st.v.n) rfl
            have bx4 := hbb.cell (i := 4) (v := .int .i64 b.st.time) rfl
            have bx5 := hbb.cell (i := 5) (v := .string b.p) rfl
            have bx6 := hbb.cell (i := 6) (v := .string b.d) rfl
            have bx7 := hbb.cell (i := 7) (v := .bool b.dead) rfl
            have bxl := hbb.lt
            clear hbb
            have HBc := hid hbc
            have cx0 := hbc.cell (i := 0) (v := .int .i64 c.item.by_) rfl
            have cx1 := hbc.cell (i := 1) (v := .int .i64 c.item.n) rfl
            have cx2 := hbc.cell (i := 2) (v := .int .i64 c.st.v.by_) rfl
            have cx3 := hbc.cell (i := 3) (v := .int .i64 c.st.v.n) rfl
            have cx4 := hbc.cell (i := 4) (v := .int .i64 c.st.time) rfl
            have cx5 := hbc.cell (i := 5) (v := .string c.p) rfl
            have cx6 := hbc.cell (i := 6) (v := .string c.d) rfl
            have cx7 := hbc.cell (i := 7) (v := .bool c.dead) rfl
            have cxl := hbc.lt
            clear hbc
            have HE := hid (HE0.out.trans x5)
            clear HE0 x5
            have HE0 := HE
            clear HE
            go_wp2_with fail
            refine ((O1 _).out).mono ?_
            rintro e w6 ⟨rfl, x6⟩
            have hba := HBa.out.ext x6
            have hbb := HBb.out.ext x6
            have hbc := HBc.out.ext x6
            clear ax0 ax1 ax2 ax3 ax4 ax5 ax6 ax7 axl HBa bx0 bx1 bx2 bx3 bx4 bx5 bx6 bx7 bxl HBb cx0 cx1 cx2 cx3 cx4 cx5 cx6 cx7 cxl HBc
            have HBa := hid hba
            have ax0 := hba.cell (i := 0) (v := .int .i64 a.item.by_) rfl
            have ax1 := hba.cell (i := 1) (v := .int .i64 a.item.n) rfl
            have ax2 := hba.cell (i := 2) (v := .int .i64 a.st.v.by_) rfl
            have ax3 := hba.cell (i := 3) (v := .int .i64 a.st.v.n) rfl
            have ax4 := hba.cell (i := 4) (v := .int .i64 a.st.time) rfl
            have ax5 := hba.cell (i := 5) (v := .string a.p) rfl
            have ax6 := hba.cell (i := 6) (v := .string a.d) rfl
            have ax7 := hba.cell (i := 7) (v := .bool a.dead) rfl
            have axl := hba.lt
            clear hba
            have HBb := hid hbb
            have bx0 := hbb.cell (i := 0) (v := .int .i64 b.item.by_) rfl
            have bx1 := hbb.cell (i := 1) (v := .int .i64 b.item.n) rfl
            have bx2 := hbb.cell (i := 2) (v := .int .i64 b.st.v.by_) rfl
            have bx3 := hbb.cell (i := 3) (v := .int .i64 b.st.v.n) rfl
            have bx4 := hbb.cell (i := 4) (v := .int .i64 b.st.time) rfl
            have bx5 := hbb.cell (i := 5) (v := .string b.p) rfl
            have bx6 := hbb.cell (i := 6) (v := .string b.d) rfl
            have bx7 := hbb.cell (i := 7) (v := .bool b.dead) rfl
            have bxl := hbb.lt
            clear hbb
            have HBc := hid hbc
            have cx0 := hbc.cell (i := 0) (v := .int .i64 c.item.by_) rfl
            have cx1 := hbc.cell (i := 1) (v := .int .i64 c.item.n) rfl
            have cx2 := hbc.cell (i := 2) (v := .int .i64 c.st.v.by_) rfl
            have cx3 := hbc.cell (i := 3) (v := .int .i64 c.st.v.n) rfl
            have cx4 := hbc.cell (i := 4) (v := .int .i64 c.st.time) rfl
            have cx5 := hbc.cell (i := 5) (v := .string c.p) rfl
            have cx6 := hbc.cell (i := 6) (v := .string c.d) rfl
            have cx7 := hbc.cell (i := 7) (v := .bool c.dead) rfl
            have cxl := hbc.lt
            clear hbc
            have HE := hid (HE0.out.trans x6)
            clear HE0 x6
            have HE0 := HE
            clear HE
            clear hab hba hde
            clear W1 W2 O1 W3 W4
            go_wp2_with fail
            refine ((HA _ HE0.out).out).mono ?_
            rintro e w7 ⟨rfl, hx⟩
            have HX := hid (HE0.out.trans hx)
            clear hx HE0
            go_wp2_with fail
            go_ret
            exact ⟨rfl, HX.out⟩
end Go.Proofs.YtgkdiknmjgpgmaaDoor
