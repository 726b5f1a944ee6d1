/-
  The law PackUpdates: its walk (written by gen_pk.py).
-/
import Derived.Test.YtanflgipdiogaaaDoorPkBk
import Derived.Test.YtanflgipdiogaaaDoorUqIk
namespace Go.Proofs.YtanflgipdiogaaaDoor
set_option linter.unusedSimpArgs false
set_option linter.unusedVariables false
open Go.RowKit

set_option maxRecDepth 100000 in
set_option maxHeartbeats 16000000 in
theorem pk_dark (w : World) (u : UpdI) (m : MetaI) (s : ByteArray) (hlt : lightU u = false) : Calls Tryd.prog 7 #[u.val, m.val, .string s] w (Ret (.bool true) w) := by
  have HE0 := hid ((Ext.alloc w (.cells #[.int .i64 u.item.by_, .int .i64 u.item.n, .int .i64 u.st.v.by_, .int .i64 u.st.v.n, .int .i64 u.st.time, .string u.p, .string u.d, .bool u.dead] 38)).alloc' (.cells #[.int .i64 m.item.by_, .int .i64 m.item.n, .int .i64 m.st.v.by_, .int .i64 m.st.v.n, .int .i64 m.st.time, .string m.p, .int .i64 m.size, .bool m.dead] 40))
  have HB0 := hid ((Blk.new w 38 #[.int .i64 u.item.by_, .int .i64 u.item.n, .int .i64 u.st.v.by_, .int .i64 u.st.v.n, .int .i64 u.st.time, .string u.p, .string u.d, .bool u.dead]).alloc (.cells #[.int .i64 m.item.by_, .int .i64 m.item.n, .int .i64 m.st.v.by_, .int .i64 m.st.v.n, .int .i64 m.st.time, .string m.p, .int .i64 m.size, .bool m.dead] 40))
  have HY0 := hid (Blk.new (w.alloc (.cells #[.int .i64 u.item.by_, .int .i64 u.item.n, .int .i64 u.st.v.by_, .int .i64 u.st.v.n, .int .i64 u.st.time, .string u.p, .string u.d, .bool u.dead] 38)) 40 #[.int .i64 m.item.by_, .int .i64 m.item.n, .int .i64 m.st.v.by_, .int .i64 m.st.v.n, .int .i64 m.st.time, .string m.p, .int .i64 m.size, .bool m.dead])
  rw [World.size_alloc] at HY0
  have HLt := fun W => hid (light16_c W u)
  have HAw := fun W => hid (awake17_c W)
  unfold UpdI.val at HLt
  rw [hlt] at HLt
  clear hlt
  unfold UpdI.val MetaI.val
  go_enter Tryd.func7, Tryd.ntmps7
  go_wp2_with fail
  generalize (w.alloc (.cells #[.int .i64 u.item.by_, .int .i64 u.item.n, .int .i64 u.st.v.by_, .int .i64 u.st.v.n, .int .i64 u.st.time, .string u.p, .string u.d, .bool u.dead] 38)).alloc (.cells #[.int .i64 m.item.by_, .int .i64 m.item.n, .int .i64 m.st.v.by_, .int .i64 m.st.v.n, .int .i64 m.st.time, .string m.p, .int .i64 m.size, .bool m.dead] 40) = w0 at HE0 HB0 HY0 ⊢
  have X0 := HE0
  clear HE0
  have a0 := HB0.out.cell (i := 0) (v := .int .i64 u.item.by_) rfl
  have a1 := HB0.out.cell (i := 1) (v := .int .i64 u.item.n) rfl
  have a2 := HB0.out.cell (i := 2) (v := .int .i64 u.st.v.by_) rfl
  have a3 := HB0.out.cell (i := 3) (v := .int .i64 u.st.v.n) rfl
  have a4 := HB0.out.cell (i := 4) (v := .int .i64 u.st.time) rfl
  have a5 := HB0.out.cell (i := 5) (v := .string u.p) rfl
  have a6 := HB0.out.cell (i := 6) (v := .string u.d) rfl
  have a7 := HB0.out.cell (i := 7) (v := .bool u.dead) rfl
  have al := HB0.out.lt
  go_wp2_with fail
  refine ((HLt _).out).mono ?_
  rintro e w1 ⟨rfl, x1⟩
  clear a0 a1 a2 a3 a4 a5 a6 a7 al
  have X1 := hid (X0.out.trans x1)
  have HB1 := hid (HB0.out.ext x1)
  have HY1 := hid (HY0.out.ext x1)
  clear x1 X0 HB0 HY0
  clear HLt
  go_wp2_with fail
  refine ((HAw _).out).mono ?_
  rintro e w2 ⟨rfl, x2⟩
  have X2 := hid (X1.out.trans x2)
  clear x2
  go_wp2_with fail
  go_ret
  exact ⟨rfl, X2.out⟩
set_option maxRecDepth 100000 in
set_option maxHeartbeats 16000000 in
theorem pk_long (w : World) (u : UpdI) (m : MetaI) (s : ByteArray) (hlt : lightU u = true) (hbig : 200 < m.p.size) : Calls Tryd.prog 7 #[u.val, m.val, .string s] w (Ret (.bool true) w) := by
  have HE0 := hid ((Ext.alloc w (.cells #[.int .i64 u.item.by_, .int .i64 u.item.n, .int .i64 u.st.v.by_, .int .i64 u.st.v.n, .int .i64 u.st.time, .string u.p, .string u.d, .bool u.dead] 38)).alloc' (.cells #[.int .i64 m.item.by_, .int .i64 m.item.n, .int .i64 m.st.v.by_, .int .i64 m.st.v.n, .int .i64 m.st.time, .string m.p, .int .i64 m.size, .bool m.dead] 40))
  have HB0 := hid ((Blk.new w 38 #[.int .i64 u.item.by_, .int .i64 u.item.n, .int .i64 u.st.v.by_, .int .i64 u.st.v.n, .int .i64 u.st.time, .string u.p, .string u.d, .bool u.dead]).alloc (.cells #[.int .i64 m.item.by_, .int .i64 m.item.n, .int .i64 m.st.v.by_, .int .i64 m.st.v.n, .int .i64 m.st.time, .string m.p, .int .i64 m.size, .bool m.dead] 40))
  have HY0 := hid (Blk.new (w.alloc (.cells #[.int .i64 u.item.by_, .int .i64 u.item.n, .int .i64 u.st.v.by_, .int .i64 u.st.v.n, .int .i64 u.st.time, .string u.p, .string u.d, .bool u.dead] 38)) 40 #[.int .i64 m.item.by_, .int .i64 m.item.n, .int .i64 m.st.v.by_, .int .i64 m.st.v.n, .int .i64 m.st.time, .string m.p, .int .i64 m.size, .bool m.dead])
  rw [World.size_alloc] at HY0
  have HLt := fun W => hid (light16_c W u)
  have HAw := fun W => hid (awake17_c W)
  unfold UpdI.val at HLt
  rw [hlt] at HLt
  have d0 : decide (200 < m.p.size) = true := decide_eq_true hbig
  have d0' : decide ((200 : Int) < m.p.size) = true := decide_eq_true (by omega)
  clear hlt hbig
  unfold UpdI.val MetaI.val
  go_enter Tryd.func7, Tryd.ntmps7
  go_wp2_with fail
  generalize (w.alloc (.cells #[.int .i64 u.item.by_, .int .i64 u.item.n, .int .i64 u.st.v.by_, .int .i64 u.st.v.n, .int .i64 u.st.time, .string u.p, .string u.d, .bool u.dead] 38)).alloc (.cells #[.int .i64 m.item.by_, .int .i64 m.item.n, .int .i64 m.st.v.by_, .int .i64 m.st.v.n, .int .i64 m.st.time, .string m.p, .int .i64 m.size, .bool m.dead] 40) = w0 at HE0 HB0 HY0 ⊢
  have X0 := HE0
  clear HE0
  have a0 := HB0.out.cell (i := 0) (v := .int .i64 u.item.by_) rfl
  have a1 := HB0.out.cell (i := 1) (v := .int .i64 u.item.n) rfl
  have a2 := HB0.out.cell (i := 2) (v := .int .i64 u.st.v.by_) rfl
  have a3 := HB0.out.cell (i := 3) (v := .int .i64 u.st.v.n) rfl
  have a4 := HB0.out.cell (i := 4) (v := .int .i64 u.st.time) rfl
  have a5 := HB0.out.cell (i := 5) (v := .string u.p) rfl
  have a6 := HB0.out.cell (i := 6) (v := .string u.d) rfl
  have a7 := HB0.out.cell (i := 7) (v := .bool u.dead) rfl
  have al := HB0.out.lt
  go_wp2_with fail
  refine ((HLt _).out).mono ?_
  rintro e w1 ⟨rfl, x1⟩
  clear a0 a1 a2 a3 a4 a5 a6 a7 al
  have X1 := hid (X0.out.trans x1)
  have HB1 := hid (HB0.out.ext x1)
  have HY1 := hid (HY0.out.ext x1)
  clear x1 X0 HB0 HY0
  clear HLt
  have b0 := HY1.out.cell (i := 0) (v := .int .i64 m.item.by_) rfl
  have b1 := HY1.out.cell (i := 1) (v := .int .i64 m.item.n) rfl
  have b2 := HY1.out.cell (i := 2) (v := .int .i64 m.st.v.by_) rfl
  have b3 := HY1.out.cell (i := 3) (v := .int .i64 m.st.v.n) rfl
  have b4 := HY1.out.cell (i := 4) (v := .int .i64 m.st.time) rfl
  have b5 := HY1.out.cell (i := 5) (v := .string m.p) rfl
  have b6 := HY1.out.cell (i := 6) (v := .int .i64 m.size) rfl
  have b7 := HY1.out.cell (i := 7) (v := .bool m.dead) rfl
  have bl := HY1.out.lt
  go_wp2_with fail
  clear b0 b1 b2 b3 b4 b5 b6 b7 bl
  refine ((HAw _).out).mono ?_
  rintro e w2 ⟨rfl, x2⟩
  have X2 := hid (X1.out.trans x2)
  clear x2
  go_wp2_with fail
  go_ret
  exact ⟨rfl, X2.out⟩
set_option maxRecDepth 100000 in
set_option maxHeartbeats 16000000 in
theorem pk_far (w : World) (u : UpdI) (m : MetaI) (s : ByteArray) (hlt : lightU u = true) (hp : ¬ 200 < m.p.size) (hbig : 1000 < s.size) : Calls Tryd.prog 7 #[u.val, m.val, .string s] w (Ret (.bool true) w) := by
  have HE0 := hid ((Ext.alloc w (.cells #[.int .i64 u.item.by_, .int .i64 u.item.n, .int .i64 u.st.v.by_, .int .i64 u.st.v.n, .int .i64 u.st.time, .string u.p, .string u.d, .bool u.dead] 38)).alloc' (.cells #[.int .i64 m.item.by_, .int .i64 m.item.n, .int .i64 m.st.v.by_, .int .i64 m.st.v.n, .int .i64 m.st.time, .string m.p, .int .i64 m.size, .bool m.dead] 40))
  have HB0 := hid ((Blk.new w 38 #[.int .i64 u.item.by_, .int .i64 u.item.n, .int .i64 u.st.v.by_, .int .i64 u.st.v.n, .int .i64 u.st.time, .string u.p, .string u.d, .bool u.dead]).alloc (.cells #[.int .i64 m.item.by_, .int .i64 m.item.n, .int .i64 m.st.v.by_, .int .i64 m.st.v.n, .int .i64 m.st.time, .string m.p, .int .i64 m.size, .bool m.dead] 40))
  have HY0 := hid (Blk.new (w.alloc (.cells #[.int .i64 u.item.by_, .int .i64 u.item.n, .int .i64 u.st.v.by_, .int .i64 u.st.v.n, .int .i64 u.st.time, .string u.p, .string u.d, .bool u.dead] 38)) 40 #[.int .i64 m.item.by_, .int .i64 m.item.n, .int .i64 m.st.v.by_, .int .i64 m.st.v.n, .int .i64 m.st.time, .string m.p, .int .i64 m.size, .bool m.dead])
  rw [World.size_alloc] at HY0
  have HLt := fun W => hid (light16_c W u)
  have HAw := fun W => hid (awake17_c W)
  unfold UpdI.val at HLt
  rw [hlt] at HLt
  have d0 : decide (200 < m.p.size) = false := decide_eq_false hp
  have d0' : decide ((200 : Int) < m.p.size) = false := decide_eq_false (by omega)
  have d1 : decide (1000 < s.size) = true := decide_eq_true hbig
  have d1' : decide ((1000 : Int) < s.size) = true := decide_eq_true (by omega)
  clear hlt hbig hp
  unfold UpdI.val MetaI.val
  go_enter Tryd.func7, Tryd.ntmps7
  go_wp2_with fail
  generalize (w.alloc (.cells #[.int .i64 u.item.by_, .int .i64 u.item.n, .int .i64 u.st.v.by_, .int .i64 u.st.v.n, .int .i64 u.st.time, .string u.p, .string u.d, .bool u.dead] 38)).alloc (.cells #[.int .i64 m.item.by_, .int .i64 m.item.n, .int .i64 m.st.v.by_, .int .i64 m.st.v.n, .int .i64 m.st.time, .string m.p, .int .i64 m.size, .bool m.dead] 40) = w0 at HE0 HB0 HY0 ⊢
  have X0 := HE0
  clear HE0
  have a0 := HB0.out.cell (i := 0) (v := .int .i64 u.item.by_) rfl
  have a1 := HB0.out.cell (i := 1) (v := .int .i64 u.item.n) rfl
  have a2 := HB0.out.cell (i := 2) (v := .int .i64 u.st.v.by_) rfl
  have a3 := HB0.out.cell (i := 3) (v := .int .i64 u.st.v.n) rfl
  have a4 := HB0.out.cell (i := 4) (v := .int .i64 u.st.time) rfl
  have a5 := HB0.out.cell (i := 5) (v := .string u.p) rfl
  have a6 := HB0.out.cell (i := 6) (v := .string u.d) rfl
  have a7 := HB0.out.cell (i := 7) (v := .bool u.dead) rfl
  have al := HB0.out.lt
  go_wp2_with fail
  refine ((HLt _).out).mono ?_
  rintro e w1 ⟨rfl, x1⟩
  clear a0 a1 a2 a3 a4 a5 a6 a7 al
  have X1 := hid (X0.out.trans x1)
  have HB1 := hid (HB0.out.ext x1)
  have HY1 := hid (HY0.out.ext x1)
  clear x1 X0 HB0 HY0
  clear HLt
  have b0 := HY1.out.cell (i := 0) (v := .int .i64 m.item.by_) rfl
  have b1 := HY1.out.cell (i := 1) (v := .int .i64 m.item.n) rfl
  have b2 := HY1.out.cell (i := 2) (v := .int .i64 m.st.v.by_) rfl
  have b3 := HY1.out.cell (i := 3) (v := .int .i64 m.st.v.n) rfl
  have b4 := HY1.out.cell (i := 4) (v := .int .i64 m.st.time) rfl
  have b5 := HY1.out.cell (i := 5) (v := .string m.p) rfl
  have b6 := HY1.out.cell (i := 6) (v := .int .i64 m.size) rfl
  have b7 := HY1.out.cell (i := 7) (v := .bool m.dead) rfl
  have bl := HY1.out.lt
  go_wp2_with fail
  clear b0 b1 b2 b3 b4 b5 b6 b7 bl
  refine ((HAw _).out).mono ?_
  rintro e w2 ⟨rfl, x2⟩
  have X2 := hid (X1.out.trans x2)
  clear x2
  go_wp2_with fail
  go_ret
  exact ⟨rfl, X2.out⟩
set_option maxRecDepth 100000 in
set_option maxHeartbeats 16000000 in
theorem pk_main (w : World) (u : UpdI) (m : MetaI) (s : ByteArray) (k : Int) (hk : w.cell? ⟨0, 0, none⟩ = some (.int .i64 k)) (hlt : lightU u = true) (hp : ¬ 200 < m.p.size) (hbig : ¬ 1000 < s.size) (hi : u.in64) (mi : m.in64) (ms : in64 m.size) (bu bm : Bool) (hbu : rightU u = bu) (hbm : rightM m = bm) : Calls Tryd.prog 7 #[u.val, m.val, .string s] w (Ret (.bool true) w) := by
  have HE0 := hid ((Ext.alloc w (.cells #[.int .i64 u.item.by_, .int .i64 u.item.n, .int .i64 u.st.v.by_, .int .i64 u.st.v.n, .int .i64 u.st.time, .string u.p, .string u.d, .bool u.dead] 38)).alloc' (.cells #[.int .i64 m.item.by_, .int .i64 m.item.n, .int .i64 m.st.v.by_, .int .i64 m.st.v.n, .int .i64 m.st.time, .string m.p, .int .i64 m.size, .bool m.dead] 40))
  have HB0 := hid ((Blk.new w 38 #[.int .i64 u.item.by_, .int .i64 u.item.n, .int .i64 u.st.v.by_, .int .i64 u.st.v.n, .int .i64 u.st.time, .string u.p, .string u.d, .bool u.dead]).alloc (.cells #[.int .i64 m.item.by_, .int .i64 m.item.n, .int .i64 m.st.v.by_, .int .i64 m.st.v.n, .int .i64 m.st.time, .string m.p, .int .i64 m.size, .bool m.dead] 40))
  have HY0 := hid (Blk.new (w.alloc (.cells #[.int .i64 u.item.by_, .int .i64 u.item.n, .int .i64 u.st.v.by_, .int .i64 u.st.v.n, .int .i64 u.st.time, .string u.p, .string u.d, .bool u.dead] 38)) 40 #[.int .i64 m.item.by_, .int .i64 m.item.n, .int .i64 m.st.v.by_, .int .i64 m.st.v.n, .int .i64 m.st.time, .string m.p, .int .i64 m.size, .bool m.dead])
  rw [World.size_alloc] at HY0
  have HLt := fun W => hid (light16_c W u)
  have HAw := fun W => hid (awake17_c W)
  unfold UpdI.val at HLt
  have hup : u.p.size ≤ 1000 := by unfold lightU at hlt; simp only [Bool.and_eq_true, decide_eq_true_eq] at hlt; omega
  have hud : u.d.size ≤ 1000 := by unfold lightU at hlt; simp only [Bool.and_eq_true, decide_eq_true_eq] at hlt; omega
  rw [hlt] at HLt
  have d0 : decide (200 < m.p.size) = false := decide_eq_false hp
  have d0' : decide ((200 : Int) < m.p.size) = false := decide_eq_false (by omega)
  have d1 : decide (1000 < s.size) = false := decide_eq_false hbig
  have d1' : decide ((1000 : Int) < s.size) = false := decide_eq_false (by omega)
  have HPu := fun W (hW : Ext w W) => hid (putU_c W u k (hW.cell hk) (by omega) hi)
  have HPm := fun W (hW : Ext w W) => hid (putM_c W m k (hW.cell hk) (by omega) mi)
  have HRu := fun W => hid (uright_c W u (by omega))
  have HUp := fun W => hid (rupd_c W u hi (by omega) (by omega))
  have HRc := fun W => hid (rcheckm_c W m (by omega))
  have HMe := fun W => hid (rmet_c W m mi (by omega) ms)
  have HAn := fun W b S => hid (answer17_c W b S)
  have hck : (m.chk == 0) = bm := by rw [← hbm]; unfold rightM; rw [Bool.eq_iff_iff]; simp
  have HGu := fun W (hW : Ext w W) (h : bu = true) => hid (getU_back W u k (hW.cell hk) hi (hbu.trans h))
  have HGm := fun W (hW : Ext w W) (h : bm = true) => hid (getM_back W m k (hW.cell hk) mi (hbm.trans h))
  have HGx := fun W (hW : Ext w W) S (hS : S.size ≤ 90000) => hid (getU_any W S k (hW.cell hk) hS)
  have HGy := fun W (hW : Ext w W) S (hS : S.size ≤ 90000) => hid (getM_any W S k (hW.cell hk) hS)
  have HRx := fun W x hx => hid (uright_c W x hx)
  have HUx := fun W x a b c => hid (rupd_c W x a b c)
  have HRy := fun W y hy => hid (rcheckm_c W y hy)
  have HMy := fun W y a b c => hid (rmet_c W y a b c)
  have hs9 : s.size ≤ 90000 := by omega
  have HS9 := hid hs9
  rw [hbu] at HPu HRu
  rw [hbm] at HPm
  generalize hU : updB u = U at HPu HUp HGu
  generalize hM : metB m = Mb at HPm HMe HGm
  generalize m.chk = ck at HRc hck
  unfold UpdI.val at HPu HRu HUp HGu HGx HRx HUx
  unfold MetaI.val at HPm HRc HMe HGm HGy HRy HMy
  clear hlt hbig hp hi mi ms hbu hbm hk hU hM hs9
  unfold UpdI.val MetaI.val
  go_enter Tryd.func7, Tryd.ntmps7
  go_wp2_with fail
  generalize (w.alloc (.cells #[.int .i64 u.item.by_, .int .i64 u.item.n, .int .i64 u.st.v.by_, .int .i64 u.st.v.n, .int .i64 u.st.time, .string u.p, .string u.d, .bool u.dead] 38)).alloc (.cells #[.int .i64 m.item.by_, .int .i64 m.item.n, .int .i64 m.st.v.by_, .int .i64 m.st.v.n, .int .i64 m.st.time, .string m.p, .int .i64 m.size, .bool m.dead] 40) = w0 at HE0 HB0 HY0 ⊢
  have X0 := HE0
  clear HE0
  have a0 := HB0.out.cell (i := 0) (v := .int .i64 u.item.by_) rfl
  have a1 := HB0.out.cell (i := 1) (v := .int .i64 u.item.n) rfl
  have a2 := HB0.out.cell (i := 2) (v := .int .i64 u.st.v.by_) rfl
  have a3 := HB0.out.cell (i := 3) (v := .int .i64 u.st.v.n) rfl
  have a4 := HB0.out.cell (i := 4) (v := .int .i64 u.st.time) rfl
  have a5 := HB0.out.cell (i := 5) (v := .string u.p) rfl
  have a6 := HB0.out.cell (i := 6) (v := .string u.d) rfl
  have a7 := HB0.out.cell (i := 7) (v := .bool u.dead) rfl
  have al := HB0.out.lt
  go_wp2_with fail
  refine ((HLt _).out).mono ?_
  rintro e w1 ⟨rfl, x1⟩
  clear a0 a1 a2 a3 a4 a5 a6 a7 al
  have X1 := hid (X0.out.trans x1)
  have HB1 := hid (HB0.out.ext x1)
  have HY1 := hid (HY0.out.ext x1)
  clear x1 X0 HB0 HY0
  clear HLt
  have b0 := HY1.out.cell (i := 0) (v := .int .i64 m.item.by_) rfl
  have b1 := HY1.out.cell (i := 1) (v := .int .i64 m.item.n) rfl
  have b2 := HY1.out.cell (i := 2) (v := .int .i64 m.st.v.by_) rfl
  have b3 := HY1.out.cell (i := 3) (v := .int .i64 m.st.v.n) rfl
  have b4 := HY1.out.cell (i := 4) (v := .int .i64 m.st.time) rfl
  have b5 := HY1.out.cell (i := 5) (v := .string m.p) rfl
  have b6 := HY1.out.cell (i := 6) (v := .int .i64 m.size) rfl
  have b7 := HY1.out.cell (i := 7) (v := .bool m.dead) rfl
  have bl := HY1.out.lt
  have a0 := HB1.out.cell (i := 0) (v := .int .i64 u.item.by_) rfl
  have a1 := HB1.out.cell (i := 1) (v := .int .i64 u.item.n) rfl
  have a2 := HB1.out.cell (i := 2) (v := .int .i64 u.st.v.by_) rfl
  have a3 := HB1.out.cell (i := 3) (v := .int .i64 u.st.v.n) rfl
  have a4 := HB1.out.cell (i := 4) (v := .int .i64 u.st.time) rfl
  have a5 := HB1.out.cell (i := 5) (v := .string u.p) rfl
  have a6 := HB1.out.cell (i := 6) (v := .string u.d) rfl
  have a7 := HB1.out.cell (i := 7) (v := .bool u.dead) rfl
  have al := HB1.out.lt
  go_wp2_with fail
  clear b0 b1 b2 b3 b4 b5 b6 b7 bl
  clear a0 a1 a2 a3 a4 a5 a6 a7 al
  refine ((HPu _ X1.out).out).mono ?_
  rintro e w2 ⟨rfl, x2⟩
  have X2 := hid (X1.out.trans x2)
  have HB2 := hid (HB1.out.ext x2)
  have HY2 := hid (HY1.out.ext x2)
  clear x2 X1 HB1 HY1
  clear HPu
  have b0 := HY2.out.cell (i := 0) (v := .int .i64 m.item.by_) rfl
  have b1 := HY2.out.cell (i := 1) (v := .int .i64 m.item.n) rfl
  have b2 := HY2.out.cell (i := 2) (v := .int .i64 m.st.v.by_) rfl
  have b3 := HY2.out.cell (i := 3) (v := .int .i64 m.st.v.n) rfl
  have b4 := HY2.out.cell (i := 4) (v := .int .i64 m.st.time) rfl
  have b5 := HY2.out.cell (i := 5) (v := .string m.p) rfl
  have b6 := HY2.out.cell (i := 6) (v := .int .i64 m.size) rfl
  have b7 := HY2.out.cell (i := 7) (v := .bool m.dead) rfl
  have bl := HY2.out.lt
  go_wp2_with fail
  clear b0 b1 b2 b3 b4 b5 b6 b7 bl
  refine ((HPm _ X2.out).out).mono ?_
  rintro e w3 ⟨rfl, x3⟩
  have X3 := hid (X2.out.trans x3)
  have HB3 := hid (HB2.out.ext x3)
  have HY3 := hid (HY2.out.ext x3)
  clear x3 X2 HB2 HY2
  clear HPm
  have b0 := HY3.out.cell (i := 0) (v := .int .i64 m.item.by_) rfl
  have b1 := HY3.out.cell (i := 1) (v := .int .i64 m.item.n) rfl
  have b2 := HY3.out.cell (i := 2) (v := .int .i64 m.st.v.by_) rfl
  have b3 := HY3.out.cell (i := 3) (v := .int .i64 m.st.v.n) rfl
  have b4 := HY3.out.cell (i := 4) (v := .int .i64 m.st.time) rfl
  have b5 := HY3.out.cell (i := 5) (v := .string m.p) rfl
  have b6 := HY3.out.cell (i := 6) (v := .int .i64 m.size) rfl
  have b7 := HY3.out.cell (i := 7) (v := .bool m.dead) rfl
  have bl := HY3.out.lt
  have a0 := HB3.out.cell (i := 0) (v := .int .i64 u.item.by_) rfl
  have a1 := HB3.out.cell (i := 1) (v := .int .i64 u.item.n) rfl
  have a2 := HB3.out.cell (i := 2) (v := .int .i64 u.st.v.by_) rfl
  have a3 := HB3.out.cell (i := 3) (v := .int .i64 u.st.v.n) rfl
  have a4 := HB3.out.cell (i := 4) (v := .int .i64 u.st.time) rfl
  have a5 := HB3.out.cell (i := 5) (v := .string u.p) rfl
  have a6 := HB3.out.cell (i := 6) (v := .string u.d) rfl
  have a7 := HB3.out.cell (i := 7) (v := .bool u.dead) rfl
  have al := HB3.out.lt
  go_wp2_with fail
  refine wp_region_any_order (by kernel_rfl) (by kernel_rfl) (by kernel_rfl) ?_
  repeat (first
    | (refine AWq.val rfl rfl rfl rfl (fun K hK => ?_); go_big_quiet_op; refine hK _ ?_; clear hK K)
    | (refine AWq.skip rfl rfl rfl ?_; simp only [Act.put, List.setIfInBounds_toArray, List.set_cons_succ, List.set_cons_zero])
    | (refine AWq.call rfl Tryd.func28 (by kernel_rfl) (by kernel_rfl) rfl rfl rfl ?_; apply Exists.intro; refine And.intro (fun wc hc => ?_) ?_; (· (simp only [argsOf, anyAt, ↓reduceIte, Nat.reduceEqDiff, Array.getD_eq_getD_getElem?, List.getElem?_toArray, List.getElem?_cons_succ, List.getElem?_cons_zero, Option.getD_some]; with_reducible exact (HRu _).out)); simp only [Act.put, List.setIfInBounds_toArray, List.set_cons_succ, List.set_cons_zero])
    | (refine AWq.call rfl Tryd.func29 (by kernel_rfl) (by kernel_rfl) rfl rfl rfl ?_; apply Exists.intro; refine And.intro (fun wc hc => ?_) ?_; (· (simp only [argsOf, anyAt, ↓reduceIte, Nat.reduceEqDiff, Array.getD_eq_getD_getElem?, List.getElem?_toArray, List.getElem?_cons_succ, List.getElem?_cons_zero, Option.getD_some]; with_reducible exact (HUp _).out)); simp only [Act.put, List.setIfInBounds_toArray, List.set_cons_succ, List.set_cons_zero])
    | (refine AWq.call rfl Tryd.func30 (by kernel_rfl) (by kernel_rfl) rfl rfl rfl ?_; apply Exists.intro; refine And.intro (fun wc hc => ?_) ?_; (· (simp only [argsOf, anyAt, ↓reduceIte, Nat.reduceEqDiff, Array.getD_eq_getD_getElem?, List.getElem?_toArray, List.getElem?_cons_succ, List.getElem?_cons_zero, Option.getD_some]; with_reducible exact (HRc _).out)); simp only [Act.put, List.setIfInBounds_toArray, List.set_cons_succ, List.set_cons_zero])
    | (refine AWq.call rfl Tryd.func31 (by kernel_rfl) (by kernel_rfl) rfl rfl rfl ?_; apply Exists.intro; refine And.intro (fun wc hc => ?_) ?_; (· (simp only [argsOf, anyAt, ↓reduceIte, Nat.reduceEqDiff, Array.getD_eq_getD_getElem?, List.getElem?_toArray, List.getElem?_cons_succ, List.getElem?_cons_zero, Option.getD_some]; with_reducible exact (HMe _).out)); simp only [Act.put, List.setIfInBounds_toArray, List.set_cons_succ, List.set_cons_zero])
    | (refine AWq.call rfl Tryd.func20 (by kernel_rfl) (by kernel_rfl) rfl rfl rfl ?_; apply Exists.intro; refine And.intro (fun wc hc => ?_) ?_; (· (simp only [argsOf, anyAt, ↓reduceIte, Nat.reduceEqDiff, Array.getD_eq_getD_getElem?, List.getElem?_toArray, List.getElem?_cons_succ, List.getElem?_cons_zero, Option.getD_some]; with_reducible exact (HAn _ _ _).out)); simp only [Act.put, List.setIfInBounds_toArray, List.set_cons_succ, List.set_cons_zero]))
  refine AWq.done rfl rfl rfl (fun w4 x4 => ?_)
  simp only [closeAny, Act.put, List.setIfInBounds_toArray, List.set_cons_succ, List.set_cons_zero]
  clear b0 b1 b2 b3 b4 b5 b6 b7 bl
  clear a0 a1 a2 a3 a4 a5 a6 a7 al
  have X4 := hid (X3.out.trans x4)
  have HB4 := hid (HB3.out.ext x4)
  have HY4 := hid (HY3.out.ext x4)
  clear x4 X3 HB3 HY3
  clear HRu HUp HRc HMe HAn
  go_wp2_with fail
  cases bu with
  | true =>
    rw [show putB true U = U from rfl, show okZ true = 0 from rfl]
    refine ((HGu _ X4.out rfl).out).mono ?_
    rintro e w5 ⟨rfl, x5⟩
    have HN5 := hid (Blk.new w5 38 #[.int .i64 u.item.by_, .int .i64 u.item.n, .int .i64 u.st.v.by_, .int .i64 u.st.v.n, .int .i64 u.st.time, .string u.p, .string u.d, .bool u.dead])
    have X5 := hid (X4.out.trans (x5.trans (Ext.alloc w5 (.cells #[.int .i64 u.item.by_, .int .i64 u.item.n, .int .i64 u.st.v.by_, .int .i64 u.st.v.n, .int .i64 u.st.time, .string u.p, .string u.d, .bool u.dead] 38))))
    have HB5 := hid (HB4.out.ext (x5.trans (Ext.alloc w5 (.cells #[.int .i64 u.item.by_, .int .i64 u.item.n, .int .i64 u.st.v.by_, .int .i64 u.st.v.n, .int .i64 u.st.time, .string u.p, .string u.d, .bool u.dead] 38))))
    have HY5 := hid (HY4.out.ext (x5.trans (Ext.alloc w5 (.cells #[.int .i64 u.item.by_, .int .i64 u.item.n, .int .i64 u.st.v.by_, .int .i64 u.st.v.n, .int .i64 u.st.time, .string u.p, .string u.d, .bool u.dead] 38))))
    clear x5 X4 HB4 HY4
    have a0 := HB5.out.cell (i := 0) (v := .int .i64 u.item.by_) rfl
    have a1 := HB5.out.cell (i := 1) (v := .int .i64 u.item.n) rfl
    have a2 := HB5.out.cell (i := 2) (v := .int .i64 u.st.v.by_) rfl
    have a3 := HB5.out.cell (i := 3) (v := .int .i64 u.st.v.n) rfl
    have a4 := HB5.out.cell (i := 4) (v := .int .i64 u.st.time) rfl
    have a5 := HB5.out.cell (i := 5) (v := .string u.p) rfl
    have a6 := HB5.out.cell (i := 6) (v := .string u.d) rfl
    have a7 := HB5.out.cell (i := 7) (v := .bool u.dead) rfl
    have al := HB5.out.lt
    go_wp2_with fail
    clear a0 a1 a2 a3 a4 a5 a6 a7 al
    cases bm with
    | true =>
      rw [show putB true Mb = Mb from rfl, show okZ true = 0 from rfl]
      refine ((HGm _ X5.out rfl).out).mono ?_
      rintro e w6 ⟨rfl, x6⟩
      have HN6 := hid (Blk.new w6 40 #[.int .i64 m.item.by_, .int .i64 m.item.n, .int .i64 m.st.v.by_, .int .i64 m.st.v.n, .int .i64 m.st.time, .string m.p, .int .i64 m.size, .bool m.dead])
      have X6 := hid (X5.out.trans (x6.trans (Ext.alloc w6 (.cells #[.int .i64 m.item.by_, .int .i64 m.item.n, .int .i64 m.st.v.by_, .int .i64 m.st.v.n, .int .i64 m.st.time, .string m.p, .int .i64 m.size, .bool m.dead] 40))))
      have HB6 := hid (HB5.out.ext (x6.trans (Ext.alloc w6 (.cells #[.int .i64 m.item.by_, .int .i64 m.item.n, .int .i64 m.st.v.by_, .int .i64 m.st.v.n, .int .i64 m.st.time, .string m.p, .int .i64 m.size, .bool m.dead] 40))))
      have HY6 := hid (HY5.out.ext (x6.trans (Ext.alloc w6 (.cells #[.int .i64 m.item.by_, .int .i64 m.item.n, .int .i64 m.st.v.by_, .int .i64 m.st.v.n, .int .i64 m.st.time, .string m.p, .int .i64 m.size, .bool m.dead] 40))))
      clear x6 X5 HB5 HY5
      have b0 := HY6.out.cell (i := 0) (v := .int .i64 m.item.by_) rfl
      have b1 := HY6.out.cell (i := 1) (v := .int .i64 m.item.n) rfl
      have b2 := HY6.out.cell (i := 2) (v := .int .i64 m.st.v.by_) rfl
      have b3 := HY6.out.cell (i := 3) (v := .int .i64 m.st.v.n) rfl
      have b4 := HY6.out.cell (i := 4) (v := .int .i64 m.st.time) rfl
      have b5 := HY6.out.cell (i := 5) (v := .string m.p) rfl
      have b6 := HY6.out.cell (i := 6) (v := .int .i64 m.size) rfl
      have b7 := HY6.out.cell (i := 7) (v := .bool m.dead) rfl
      have bl := HY6.out.lt
      go_wp2_with fail
      clear b0 b1 b2 b3 b4 b5 b6 b7 bl
      obtain ⟨P8, hP8, hc8⟩ := (HGx _ X6.out s HS9.out).out
      refine hc8.mono ?_
      rintro e w7 ⟨x, z, hPz, rfl, x7⟩
      rcases hP8 x z hPz with ⟨rfl, xi, xr, xe, xp, xd⟩ | ⟨rfl, rfl⟩
      · have HRz := fun W => HRx W x xp
        rw [xr] at HRz
        have HMz := fun W => HUx W x xi (by omega) (by omega)
        rw [xe] at HMz
        have dss : (s.toList == s.toList) = true := by simp
        clear hP8 hPz hc8 xi xr xe xp xd
        have HN7 := hid (Blk.new w7 38 #[.int .i64 x.item.by_, .int .i64 x.item.n, .int .i64 x.st.v.by_, .int .i64 x.st.v.n, .int .i64 x.st.time, .string x.p, .string x.d, .bool x.dead])
        have X7 := hid (X6.out.trans (x7.trans (Ext.alloc w7 (.cells #[.int .i64 x.item.by_, .int .i64 x.item.n, .int .i64 x.st.v.by_, .int .i64 x.st.v.n, .int .i64 x.st.time, .string x.p, .string x.d, .bool x.dead] 38))))
        have HB7 := hid (HB6.out.ext (x7.trans (Ext.alloc w7 (.cells #[.int .i64 x.item.by_, .int .i64 x.item.n, .int .i64 x.st.v.by_, .int .i64 x.st.v.n, .int .i64 x.st.time, .string x.p, .string x.d, .bool x.dead] 38))))
        have HY7 := hid (HY6.out.ext (x7.trans (Ext.alloc w7 (.cells #[.int .i64 x.item.by_, .int .i64 x.item.n, .int .i64 x.st.v.by_, .int .i64 x.st.v.n, .int .i64 x.st.time, .string x.p, .string x.d, .bool x.dead] 38))))
        clear x7 X6 HB6 HY6
        have c0 : True := trivial
        go_wp2_with fail
        refine ((HRz _).out).mono ?_
        rintro e w8 ⟨rfl, x8⟩
        have HN8 := hid (HN7.out.ext x8)
        have X8 := hid (X7.out.trans x8)
        have HB8 := hid (HB7.out.ext x8)
        have HY8 := hid (HY7.out.ext x8)
        clear x8 X7 HB7 HY7
        have c0 := HN8.out.cell (i := 0) (v := .int .i64 x.item.by_) rfl
        have c1 := HN8.out.cell (i := 1) (v := .int .i64 x.item.n) rfl
        have c2 := HN8.out.cell (i := 2) (v := .int .i64 x.st.v.by_) rfl
        have c3 := HN8.out.cell (i := 3) (v := .int .i64 x.st.v.n) rfl
        have c4 := HN8.out.cell (i := 4) (v := .int .i64 x.st.time) rfl
        have c5 := HN8.out.cell (i := 5) (v := .string x.p) rfl
        have c6 := HN8.out.cell (i := 6) (v := .string x.d) rfl
        have c7 := HN8.out.cell (i := 7) (v := .bool x.dead) rfl
        have cl := HN8.out.lt
        go_wp2_with fail
        refine ((HMz _).out).mono ?_
        rintro e w9 ⟨rfl, x9⟩
        clear c0 c1 c2 c3 c4 c5 c6 c7 cl
        have X9 := hid (X8.out.trans x9)
        have HB9 := hid (HB8.out.ext x9)
        have HY9 := hid (HY8.out.ext x9)
        clear x9 X8 HB8 HY8
        clear HRz HMz dss
        go_wp2_with fail
        obtain ⟨P9, hP9, hc9⟩ := (HGy _ X9.out s HS9.out).out
        refine hc9.mono ?_
        rintro e w10 ⟨y, z, hPz, rfl, x10⟩
        rcases hP9 y z hPz with ⟨rfl, yi, ys, yr, ye, yp⟩ | ⟨rfl, rfl⟩
        · have hcy : (y.chk == 0) = true := by unfold rightM at yr; simpa using yr
          have HRz := fun W => HRy W y yp
          have HMz := fun W => HMy W y yi (by omega) ys
          rw [ye] at HMz
          have dss : (s.toList == s.toList) = true := by simp
          generalize y.chk = cy at HRz hcy
          clear hP9 hPz hc9 yi ys yr ye yp
          have HN10 := hid (Blk.new w10 40 #[.int .i64 y.item.by_, .int .i64 y.item.n, .int .i64 y.st.v.by_, .int .i64 y.st.v.n, .int .i64 y.st.time, .string y.p, .int .i64 y.size, .bool y.dead])
          have X10 := hid (X9.out.trans (x10.trans (Ext.alloc w10 (.cells #[.int .i64 y.item.by_, .int .i64 y.item.n, .int .i64 y.st.v.by_, .int .i64 y.st.v.n, .int .i64 y.st.time, .string y.p, .int .i64 y.size, .bool y.dead] 40))))
          have HB10 := hid (HB9.out.ext (x10.trans (Ext.alloc w10 (.cells #[.int .i64 y.item.by_, .int .i64 y.item.n, .int .i64 y.st.v.by_, .int .i64 y.st.v.n, .int .i64 y.st.time, .string y.p, .int .i64 y.size, .bool y.dead] 40))))
          have HY10 := hid (HY9.out.ext (x10.trans (Ext.alloc w10 (.cells #[.int .i64 y.item.by_, .int .i64 y.item.n, .int .i64 y.st.v.by_, .int .i64 y.st.v.n, .int .i64 y.st.time, .string y.p, .int .i64 y.size, .bool y.dead] 40))))
          clear x10 X9 HB9 HY9
          go_wp2_with fail
          refine ((HAw _).out).mono ?_
          rintro e w11 ⟨rfl, x11⟩
          have HN11 := hid (HN10.out.ext x11)
          have X11 := hid (X10.out.trans x11)
          have HB11 := hid (HB10.out.ext x11)
          have HY11 := hid (HY10.out.ext x11)
          clear x11 X10 HB10 HY10
          have d0 := HN11.out.cell (i := 0) (v := .int .i64 y.item.by_) rfl
          have d1 := HN11.out.cell (i := 1) (v := .int .i64 y.item.n) rfl
          have d2 := HN11.out.cell (i := 2) (v := .int .i64 y.st.v.by_) rfl
          have d3 := HN11.out.cell (i := 3) (v := .int .i64 y.st.v.n) rfl
          have d4 := HN11.out.cell (i := 4) (v := .int .i64 y.st.time) rfl
          have d5 := HN11.out.cell (i := 5) (v := .string y.p) rfl
          have d6 := HN11.out.cell (i := 6) (v := .int .i64 y.size) rfl
          have d7 := HN11.out.cell (i := 7) (v := .bool y.dead) rfl
          have dl := HN11.out.lt
          go_wp2_with fail
          refine ((HRz _).out).mono ?_
          rintro e w12 ⟨rfl, x12⟩
          have HN12 := hid (HN11.out.ext x12)
          clear d0 d1 d2 d3 d4 d5 d6 d7 dl
          have X12 := hid (X11.out.trans x12)
          have HB12 := hid (HB11.out.ext x12)
          have HY12 := hid (HY11.out.ext x12)
          clear x12 X11 HB11 HY11
          have d0 := HN12.out.cell (i := 0) (v := .int .i64 y.item.by_) rfl
          have d1 := HN12.out.cell (i := 1) (v := .int .i64 y.item.n) rfl
          have d2 := HN12.out.cell (i := 2) (v := .int .i64 y.st.v.by_) rfl
          have d3 := HN12.out.cell (i := 3) (v := .int .i64 y.st.v.n) rfl
          have d4 := HN12.out.cell (i := 4) (v := .int .i64 y.st.time) rfl
          have d5 := HN12.out.cell (i := 5) (v := .string y.p) rfl
          have d6 := HN12.out.cell (i := 6) (v := .int .i64 y.size) rfl
          have d7 := HN12.out.cell (i := 7) (v := .bool y.dead) rfl
          have dl := HN12.out.lt
          go_wp2_with fail
          refine ((HMz _).out).mono ?_
          rintro e w13 ⟨rfl, x13⟩
          clear d0 d1 d2 d3 d4 d5 d6 d7 dl
          have X13 := hid (X12.out.trans x13)
          have HB13 := hid (HB12.out.ext x13)
          have HY13 := hid (HY12.out.ext x13)
          clear x13 X12 HB12 HY12
          go_wp2_with fail
          go_ret
          exact ⟨rfl, X13.out⟩
        · clear hP9 hPz hc9
          have HN10 := hid (Blk.new w10 40 (#[.int .i64 0, .int .i64 0, .int .i64 0, .int .i64 0, .int .i64 0, .string ⟨#[]⟩, .int .i64 0, .bool false] : Array Value))
          have X10 := hid (X9.out.trans (x10.trans (Ext.alloc w10 (.cells (#[.int .i64 0, .int .i64 0, .int .i64 0, .int .i64 0, .int .i64 0, .string ⟨#[]⟩, .int .i64 0, .bool false] : Array Value) 40))))
          have HB10 := hid (HB9.out.ext (x10.trans (Ext.alloc w10 (.cells (#[.int .i64 0, .int .i64 0, .int .i64 0, .int .i64 0, .int .i64 0, .string ⟨#[]⟩, .int .i64 0, .bool false] : Array Value) 40))))
          have HY10 := hid (HY9.out.ext (x10.trans (Ext.alloc w10 (.cells (#[.int .i64 0, .int .i64 0, .int .i64 0, .int .i64 0, .int .i64 0, .string ⟨#[]⟩, .int .i64 0, .bool false] : Array Value) 40))))
          clear x10 X9 HB9 HY9
          unfold met0
          go_wp2_with fail
          refine ((HAw _).out).mono ?_
          rintro e w11 ⟨rfl, x11⟩
          have HN11 := hid (HN10.out.ext x11)
          have X11 := hid (X10.out.trans x11)
          have HB11 := hid (HB10.out.ext x11)
          have HY11 := hid (HY10.out.ext x11)
          clear x11 X10 HB10 HY10
          have d0z := HN11.out.cell (i := 0) (v := .int .i64 0) rfl
          have d1z := HN11.out.cell (i := 1) (v := .int .i64 0) rfl
          have d2z := HN11.out.cell (i := 2) (v := .int .i64 0) rfl
          have d3z := HN11.out.cell (i := 3) (v := .int .i64 0) rfl
          have d4z := HN11.out.cell (i := 4) (v := .int .i64 0) rfl
          have d5z := HN11.out.cell (i := 5) (v := .string ⟨#[]⟩) rfl
          have d6z := HN11.out.cell (i := 6) (v := .int .i64 0) rfl
          have d7z := HN11.out.cell (i := 7) (v := .bool false) rfl
          have dlz := HN11.out.lt
          go_wp2_with fail
          go_ret
          exact ⟨rfl, X11.out⟩
      · clear hP8 hPz hc8
        have HN7 := hid (Blk.new w7 38 (#[.int .i64 0, .int .i64 0, .int .i64 0, .int .i64 0, .int .i64 0, .string ⟨#[]⟩, .string ⟨#[]⟩, .bool false] : Array Value))
        have X7 := hid (X6.out.trans (x7.trans (Ext.alloc w7 (.cells (#[.int .i64 0, .int .i64 0, .int .i64 0, .int .i64 0, .int .i64 0, .string ⟨#[]⟩, .string ⟨#[]⟩, .bool false] : Array Value) 38))))
        have HB7 := hid (HB6.out.ext (x7.trans (Ext.alloc w7 (.cells (#[.int .i64 0, .int .i64 0, .int .i64 0, .int .i64 0, .int .i64 0, .string ⟨#[]⟩, .string ⟨#[]⟩, .bool false] : Array Value) 38))))
        have HY7 := hid (HY6.out.ext (x7.trans (Ext.alloc w7 (.cells (#[.int .i64 0, .int .i64 0, .int .i64 0, .int .i64 0, .int .i64 0, .string ⟨#[]⟩, .string ⟨#[]⟩, .bool false] : Array Value) 38))))
        clear x7 X6 HB6 HY6
        unfold upd0
        go_wp2_with fail
        obtain ⟨P9, hP9, hc9⟩ := (HGy _ X7.out s HS9.out).out
        refine hc9.mono ?_
        rintro e w10 ⟨y, z, hPz, rfl, x10⟩
        rcases hP9 y z hPz with ⟨rfl, yi, ys, yr, ye, yp⟩ | ⟨rfl, rfl⟩
        · have hcy : (y.chk == 0) = true := by unfold rightM at yr; simpa using yr
          have HRz := fun W => HRy W y yp
          have HMz := fun W => HMy W y yi (by omega) ys
          rw [ye] at HMz
          have dss : (s.toList == s.toList) = true := by simp
          generalize y.chk = cy at HRz hcy
          clear hP9 hPz hc9 yi ys yr ye yp
          have HN10 := hid (Blk.new w10 40 #[.int .i64 y.item.by_, .int .i64 y.item.n, .int .i64 y.st.v.by_, .int .i64 y.st.v.n, .int .i64 y.st.time, .string y.p, .int .i64 y.size, .bool y.dead])
          have X10 := hid (X7.out.trans (x10.trans (Ext.alloc w10 (.cells #[.int .i64 y.item.by_, .int .i64 y.item.n, .int .i64 y.st.v.by_, .int .i64 y.st.v.n, .int .i64 y.st.time, .string y.p, .int .i64 y.size, .bool y.dead] 40))))
          have HB10 := hid (HB7.out.ext (x10.trans (Ext.alloc w10 (.cells #[.int .i64 y.item.by_, .int .i64 y.item.n, .int .i64 y.st.v.by_, .int .i64 y.st.v.n, .int .i64 y.st.time, .string y.p, .int .i64 y.size, .bool y.dead] 40))))
          have HY10 := hid (HY7.out.ext (x10.trans (Ext.alloc w10 (.cells #[.int .i64 y.item.by_, .int .i64 y.item.n, .int .i64 y.st.v.by_, .int .i64 y.st.v.n, .int .i64 y.st.time, .string y.p, .int .i64 y.size, .bool y.dead] 40))))
          clear x10 X7 HB7 HY7
          go_wp2_with fail
          refine ((HAw _).out).mono ?_
          rintro e w11 ⟨rfl, x11⟩
          have HN11 := hid (HN10.out.ext x11)
          have X11 := hid (X10.out.trans x11)
          have HB11 := hid (HB10.out.ext x11)
          have HY11 := hid (HY10.out.ext x11)
          clear x11 X10 HB10 HY10
          have d0 := HN11.out.cell (i := 0) (v := .int .i64 y.item.by_) rfl
          have d1 := HN11.out.cell (i := 1) (v := .int .i64 y.item.n) rfl
          have d2 := HN11.out.cell (i := 2) (v := .int .i64 y.st.v.by_) rfl
          have d3 := HN11.out.cell (i := 3) (v := .int .i64 y.st.v.n) rfl
          have d4 := HN11.out.cell (i := 4) (v := .int .i64 y.st.time) rfl
          have d5 := HN11.out.cell (i := 5) (v := .string y.p) rfl
          have d6 := HN11.out.cell (i := 6) (v := .int .i64 y.size) rfl
          have d7 := HN11.out.cell (i := 7) (v := .bool y.dead) rfl
          have dl := HN11.out.lt
          go_wp2_with fail
          refine ((HRz _).out).mono ?_
          rintro e w12 ⟨rfl, x12⟩
          have HN12 := hid (HN11.out.ext x12)
          clear d0 d1 d2 d3 d4 d5 d6 d7 dl
          have X12 := hid (X11.out.trans x12)
          have HB12 := hid (HB11.out.ext x12)
          have HY12 := hid (HY11.out.ext x12)
          clear x12 X11 HB11 HY11
          have d0 := HN12.out.cell (i := 0) (v := .int .i64 y.item.by_) rfl
          have d1 := HN12.out.cell (i := 1) (v := .int .i64 y.item.n) rfl
          have d2 := HN12.out.cell (i := 2) (v := .int .i64 y.st.v.by_) rfl
          have d3 := HN12.out.cell (i := 3) (v := .int .i64 y.st.v.n) rfl
          have d4 := HN12.out.cell (i := 4) (v := .int .i64 y.st.time) rfl
          have d5 := HN12.out.cell (i := 5) (v := .string y.p) rfl
          have d6 := HN12.out.cell (i := 6) (v := .int .i64 y.size) rfl
          have d7 := HN12.out.cell (i := 7) (v := .bool y.dead) rfl
          have dl := HN12.out.lt
          go_wp2_with fail
          refine ((HMz _).out).mono ?_
          rintro e w13 ⟨rfl, x13⟩
          clear d0 d1 d2 d3 d4 d5 d6 d7 dl
          have X13 := hid (X12.out.trans x13)
          have HB13 := hid (HB12.out.ext x13)
          have HY13 := hid (HY12.out.ext x13)
          clear x13 X12 HB12 HY12
          go_wp2_with fail
          go_ret
          exact ⟨rfl, X13.out⟩
        · clear hP9 hPz hc9
          have HN10 := hid (Blk.new w10 40 (#[.int .i64 0, .int .i64 0, .int .i64 0, .int .i64 0, .int .i64 0, .string ⟨#[]⟩, .int .i64 0, .bool false] : Array Value))
          have X10 := hid (X7.out.trans (x10.trans (Ext.alloc w10 (.cells (#[.int .i64 0, .int .i64 0, .int .i64 0, .int .i64 0, .int .i64 0, .string ⟨#[]⟩, .int .i64 0, .bool false] : Array Value) 40))))
          have HB10 := hid (HB7.out.ext (x10.trans (Ext.alloc w10 (.cells (#[.int .i64 0, .int .i64 0, .int .i64 0, .int .i64 0, .int .i64 0, .string ⟨#[]⟩, .int .i64 0, .bool false] : Array Value) 40))))
          have HY10 := hid (HY7.out.ext (x10.trans (Ext.alloc w10 (.cells (#[.int .i64 0, .int .i64 0, .int .i64 0, .int .i64 0, .int .i64 0, .string ⟨#[]⟩, .int .i64 0, .bool false] : Array Value) 40))))
          clear x10 X7 HB7 HY7
          unfold met0
          go_wp2_with fail
          refine ((HAw _).out).mono ?_
          rintro e w11 ⟨rfl, x11⟩
          have HN11 := hid (HN10.out.ext x11)
          have X11 := hid (X10.out.trans x11)
          have HB11 := hid (HB10.out.ext x11)
          have HY11 := hid (HY10.out.ext x11)
          clear x11 X10 HB10 HY10
          have d0z := HN11.out.cell (i := 0) (v := .int .i64 0) rfl
          have d1z := HN11.out.cell (i := 1) (v := .int .i64 0) rfl
          have d2z := HN11.out.cell (i := 2) (v := .int .i64 0) rfl
          have d3z := HN11.out.cell (i := 3) (v := .int .i64 0) rfl
          have d4z := HN11.out.cell (i := 4) (v := .int .i64 0) rfl
          have d5z := HN11.out.cell (i := 5) (v := .string ⟨#[]⟩) rfl
          have d6z := HN11.out.cell (i := 6) (v := .int .i64 0) rfl
          have d7z := HN11.out.cell (i := 7) (v := .bool false) rfl
          have dlz := HN11.out.lt
          go_wp2_with fail
          go_ret
          exact ⟨rfl, X11.out⟩
    | false =>
      rw [show putB false Mb = ⟨#[]⟩ from rfl, show okZ false = 2 from rfl]
      obtain ⟨P7, hP7, hc7⟩ := (HGy _ X5.out ⟨#[]⟩ (by decide)).out
      refine hc7.mono ?_
      rintro e w6 ⟨y7, z7, -, rfl, x6⟩
      clear hP7 hc7
      have HN6 := hid (Blk.new w6 40 #[.int .i64 y7.item.by_, .int .i64 y7.item.n, .int .i64 y7.st.v.by_, .int .i64 y7.st.v.n, .int .i64 y7.st.time, .string y7.p, .int .i64 y7.size, .bool y7.dead])
      have X6 := hid (X5.out.trans (x6.trans (Ext.alloc w6 (.cells #[.int .i64 y7.item.by_, .int .i64 y7.item.n, .int .i64 y7.st.v.by_, .int .i64 y7.st.v.n, .int .i64 y7.st.time, .string y7.p, .int .i64 y7.size, .bool y7.dead] 40))))
      have HB6 := hid (HB5.out.ext (x6.trans (Ext.alloc w6 (.cells #[.int .i64 y7.item.by_, .int .i64 y7.item.n, .int .i64 y7.st.v.by_, .int .i64 y7.st.v.n, .int .i64 y7.st.time, .string y7.p, .int .i64 y7.size, .bool y7.dead] 40))))
      have HY6 := hid (HY5.out.ext (x6.trans (Ext.alloc w6 (.cells #[.int .i64 y7.item.by_, .int .i64 y7.item.n, .int .i64 y7.st.v.by_, .int .i64 y7.st.v.n, .int .i64 y7.st.time, .string y7.p, .int .i64 y7.size, .bool y7.dead] 40))))
      clear x6 X5 HB5 HY5
      go_wp2_with fail
      obtain ⟨P8, hP8, hc8⟩ := (HGx _ X6.out s HS9.out).out
      refine hc8.mono ?_
      rintro e w7 ⟨x, z, hPz, rfl, x7⟩
      rcases hP8 x z hPz with ⟨rfl, xi, xr, xe, xp, xd⟩ | ⟨rfl, rfl⟩
      · have HRz := fun W => HRx W x xp
        rw [xr] at HRz
        have HMz := fun W => HUx W x xi (by omega) (by omega)
        rw [xe] at HMz
        have dss : (s.toList == s.toList) = true := by simp
        clear hP8 hPz hc8 xi xr xe xp xd
        have HN7 := hid (Blk.new w7 38 #[.int .i64 x.item.by_, .int .i64 x.item.n, .int .i64 x.st.v.by_, .int .i64 x.st.v.n, .int .i64 x.st.time, .string x.p, .string x.d, .bool x.dead])
        have X7 := hid (X6.out.trans (x7.trans (Ext.alloc w7 (.cells #[.int .i64 x.item.by_, .int .i64 x.item.n, .int .i64 x.st.v.by_, .int .i64 x.st.v.n, .int .i64 x.st.time, .string x.p, .string x.d, .bool x.dead] 38))))
        have HB7 := hid (HB6.out.ext (x7.trans (Ext.alloc w7 (.cells #[.int .i64 x.item.by_, .int .i64 x.item.n, .int .i64 x.st.v.by_, .int .i64 x.st.v.n, .int .i64 x.st.time, .string x.p, .string x.d, .bool x.dead] 38))))
        have HY7 := hid (HY6.out.ext (x7.trans (Ext.alloc w7 (.cells #[.int .i64 x.item.by_, .int .i64 x.item.n, .int .i64 x.st.v.by_, .int .i64 x.st.v.n, .int .i64 x.st.time, .string x.p, .string x.d, .bool x.dead] 38))))
        clear x7 X6 HB6 HY6
        have c0 : True := trivial
        go_wp2_with fail
        refine ((HRz _).out).mono ?_
        rintro e w8 ⟨rfl, x8⟩
        have HN8 := hid (HN7.out.ext x8)
        have X8 := hid (X7.out.trans x8)
        have HB8 := hid (HB7.out.ext x8)
        have HY8 := hid (HY7.out.ext x8)
        clear x8 X7 HB7 HY7
        have c0 := HN8.out.cell (i := 0) (v := .int .i64 x.item.by_) rfl
        have c1 := HN8.out.cell (i := 1) (v := .int .i64 x.item.n) rfl
        have c2 := HN8.out.cell (i := 2) (v := .int .i64 x.st.v.by_) rfl
        have c3 := HN8.out.cell (i := 3) (v := .int .i64 x.st.v.n) rfl
        have c4 := HN8.out.cell (i := 4) (v := .int .i64 x.st.time) rfl
        have c5 := HN8.out.cell (i := 5) (v := .string x.p) rfl
        have c6 := HN8.out.cell (i := 6) (v := .string x.d) rfl
        have c7 := HN8.out.cell (i := 7) (v := .bool x.dead) rfl
        have cl := HN8.out.lt
        go_wp2_with fail
        refine ((HMz _).out).mono ?_
        rintro e w9 ⟨rfl, x9⟩
        clear c0 c1 c2 c3 c4 c5 c6 c7 cl
        have X9 := hid (X8.out.trans x9)
        have HB9 := hid (HB8.out.ext x9)
        have HY9 := hid (HY8.out.ext x9)
        clear x9 X8 HB8 HY8
        clear HRz HMz dss
        go_wp2_with fail
        obtain ⟨P9, hP9, hc9⟩ := (HGy _ X9.out s HS9.out).out
        refine hc9.mono ?_
        rintro e w10 ⟨y, z, hPz, rfl, x10⟩
        rcases hP9 y z hPz with ⟨rfl, yi, ys, yr, ye, yp⟩ | ⟨rfl, rfl⟩
        · have hcy : (y.chk == 0) = true := by unfold rightM at yr; simpa using yr
          have HRz := fun W => HRy W y yp
          have HMz := fun W => HMy W y yi (by omega) ys
          rw [ye] at HMz
          have dss : (s.toList == s.toList) = true := by simp
          generalize y.chk = cy at HRz hcy
          clear hP9 hPz hc9 yi ys yr ye yp
          have HN10 := hid (Blk.new w10 40 #[.int .i64 y.item.by_, .int .i64 y.item.n, .int .i64 y.st.v.by_, .int .i64 y.st.v.n, .int .i64 y.st.time, .string y.p, .int .i64 y.size, .bool y.dead])
          have X10 := hid (X9.out.trans (x10.trans (Ext.alloc w10 (.cells #[.int .i64 y.item.by_, .int .i64 y.item.n, .int .i64 y.st.v.by_, .int .i64 y.st.v.n, .int .i64 y.st.time, .string y.p, .int .i64 y.size, .bool y.dead] 40))))
          have HB10 := hid (HB9.out.ext (x10.trans (Ext.alloc w10 (.cells #[.int .i64 y.item.by_, .int .i64 y.item.n, .int .i64 y.st.v.by_, .int .i64 y.st.v.n, .int .i64 y.st.time, .string y.p, .int .i64 y.size, .bool y.dead] 40))))
          have HY10 := hid (HY9.out.ext (x10.trans (Ext.alloc w10 (.cells #[.int .i64 y.item.by_, .int .i64 y.item.n, .int .i64 y.st.v.by_, .int .i64 y.st.v.n, .int .i64 y.st.time, .string y.p, .int .i64 y.size, .bool y.dead] 40))))
          clear x10 X9 HB9 HY9
          go_wp2_with fail
          refine ((HAw _).out).mono ?_
          rintro e w11 ⟨rfl, x11⟩
          have HN11 := hid (HN10.out.ext x11)
          have X11 := hid (X10.out.trans x11)
          have HB11 := hid (HB10.out.ext x11)
          have HY11 := hid (HY10.out.ext x11)
          clear x11 X10 HB10 HY10
          have d0 := HN11.out.cell (i := 0) (v := .int .i64 y.item.by_) rfl
          have d1 := HN11.out.cell (i := 1) (v := .int .i64 y.item.n) rfl
          have d2 := HN11.out.cell (i := 2) (v := .int .i64 y.st.v.by_) rfl
          have d3 := HN11.out.cell (i := 3) (v := .int .i64 y.st.v.n) rfl
          have d4 := HN11.out.cell (i := 4) (v := .int .i64 y.st.time) rfl
          have d5 := HN11.out.cell (i := 5) (v := .string y.p) rfl
          have d6 := HN11.out.cell (i := 6) (v := .int .i64 y.size) rfl
          have d7 := HN11.out.cell (i := 7) (v := .bool y.dead) rfl
          have dl := HN11.out.lt
          go_wp2_with fail
          refine ((HRz _).out).mono ?_
          rintro e w12 ⟨rfl, x12⟩
          have HN12 := hid (HN11.out.ext x12)
          clear d0 d1 d2 d3 d4 d5 d6 d7 dl
          have X12 := hid (X11.out.trans x12)
          have HB12 := hid (HB11.out.ext x12)
          have HY12 := hid (HY11.out.ext x12)
          clear x12 X11 HB11 HY11
          have d0 := HN12.out.cell (i := 0) (v := .int .i64 y.item.by_) rfl
          have d1 := HN12.out.cell (i := 1) (v := .int .i64 y.item.n) rfl
          have d2 := HN12.out.cell (i := 2) (v := .int .i64 y.st.v.by_) rfl
          have d3 := HN12.out.cell (i := 3) (v := .int .i64 y.st.v.n) rfl
          have d4 := HN12.out.cell (i := 4) (v := .int .i64 y.st.time) rfl
          have d5 := HN12.out.cell (i := 5) (v := .string y.p) rfl
          have d6 := HN12.out.cell (i := 6) (v := .int .i64 y.size) rfl
          have d7 := HN12.out.cell (i := 7) (v := .bool y.dead) rfl
          have dl := HN12.out.lt
          go_wp2_with fail
          refine ((HMz _).out).mono ?_
          rintro e w13 ⟨rfl, x13⟩
          clear d0 d1 d2 d3 d4 d5 d6 d7 dl
          have X13 := hid (X12.out.trans x13)
          have HB13 := hid (HB12.out.ext x13)
          have HY13 := hid (HY12.out.ext x13)
          clear x13 X12 HB12 HY12
          go_wp2_with fail
          go_ret
          exact ⟨rfl, X13.out⟩
        · clear hP9 hPz hc9
          have HN10 := hid (Blk.new w10 40 (#[.int .i64 0, .int .i64 0, .int .i64 0, .int .i64 0, .int .i64 0, .string ⟨#[]⟩, .int .i64 0, .bool false] : Array Value))
          have X10 := hid (X9.out.trans (x10.trans (Ext.alloc w10 (.cells (#[.int .i64 0, .int .i64 0, .int .i64 0, .int .i64 0, .int .i64 0, .string ⟨#[]⟩, .int .i64 0, .bool false] : Array Value) 40))))
          have HB10 := hid (HB9.out.ext (x10.trans (Ext.alloc w10 (.cells (#[.int .i64 0, .int .i64 0, .int .i64 0, .int .i64 0, .int .i64 0, .string ⟨#[]⟩, .int .i64 0, .bool false] : Array Value) 40))))
          have HY10 := hid (HY9.out.ext (x10.trans (Ext.alloc w10 (.cells (#[.int .i64 0, .int .i64 0, .int .i64 0, .int .i64 0, .int .i64 0, .string ⟨#[]⟩, .int .i64 0, .bool false] : Array Value) 40))))
          clear x10 X9 HB9 HY9
          unfold met0
          go_wp2_with fail
          refine ((HAw _).out).mono ?_
          rintro e w11 ⟨rfl, x11⟩
          have HN11 := hid (HN10.out.ext x11)
          have X11 := hid (X10.out.trans x11)
          have HB11 := hid (HB10.out.ext x11)
          have HY11 := hid (HY10.out.ext x11)
          clear x11 X10 HB10 HY10
          have d0z := HN11.out.cell (i := 0) (v := .int .i64 0) rfl
          have d1z := HN11.out.cell (i := 1) (v := .int .i64 0) rfl
          have d2z := HN11.out.cell (i := 2) (v := .int .i64 0) rfl
          have d3z := HN11.out.cell (i := 3) (v := .int .i64 0) rfl
          have d4z := HN11.out.cell (i := 4) (v := .int .i64 0) rfl
          have d5z := HN11.out.cell (i := 5) (v := .string ⟨#[]⟩) rfl
          have d6z := HN11.out.cell (i := 6) (v := .int .i64 0) rfl
          have d7z := HN11.out.cell (i := 7) (v := .bool false) rfl
          have dlz := HN11.out.lt
          go_wp2_with fail
          go_ret
          exact ⟨rfl, X11.out⟩
      · clear hP8 hPz hc8
        have HN7 := hid (Blk.new w7 38 (#[.int .i64 0, .int .i64 0, .int .i64 0, .int .i64 0, .int .i64 0, .string ⟨#[]⟩, .string ⟨#[]⟩, .bool false] : Array Value))
        have X7 := hid (X6.out.trans (x7.trans (Ext.alloc w7 (.cells (#[.int .i64 0, .int .i64 0, .int .i64 0, .int .i64 0, .int .i64 0, .string ⟨#[]⟩, .string ⟨#[]⟩, .bool false] : Array Value) 38))))
        have HB7 := hid (HB6.out.ext (x7.trans (Ext.alloc w7 (.cells (#[.int .i64 0, .int .i64 0, .int .i64 0, .int .i64 0, .int .i64 0, .string ⟨#[]⟩, .string ⟨#[]⟩, .bool false] : Array Value) 38))))
        have HY7 := hid (HY6.out.ext (x7.trans (Ext.alloc w7 (.cells (#[.int .i64 0, .int .i64 0, .int .i64 0, .int .i64 0, .int .i64 0, .string ⟨#[]⟩, .string ⟨#[]⟩, .bool false] : Array Value) 38))))
        clear x7 X6 HB6 HY6
        unfold upd0
        go_wp2_with fail
        obtain ⟨P9, hP9, hc9⟩ := (HGy _ X7.out s HS9.out).out
        refine hc9.mono ?_
        rintro e w10 ⟨y, z, hPz, rfl, x10⟩
        rcases hP9 y z hPz with ⟨rfl, yi, ys, yr, ye, yp⟩ | ⟨rfl, rfl⟩
        · have hcy : (y.chk == 0) = true := by unfold rightM at yr; simpa using yr
          have HRz := fun W => HRy W y yp
          have HMz := fun W => HMy W y yi (by omega) ys
          rw [ye] at HMz
          have dss : (s.toList == s.toList) = true := by simp
          generalize y.chk = cy at HRz hcy
          clear hP9 hPz hc9 yi ys yr ye yp
          have HN10 := hid (Blk.new w10 40 #[.int .i64 y.item.by_, .int .i64 y.item.n, .int .i64 y.st.v.by_, .int .i64 y.st.v.n, .int .i64 y.st.time, .string y.p, .int .i64 y.size, .bool y.dead])
          have X10 := hid (X7.out.trans (x10.trans (Ext.alloc w10 (.cells #[.int .i64 y.item.by_, .int .i64 y.item.n, .int .i64 y.st.v.by_, .int .i64 y.st.v.n, .int .i64 y.st.time, .string y.p, .int .i64 y.size, .bool y.dead] 40))))
          have HB10 := hid (HB7.out.ext (x10.trans (Ext.alloc w10 (.cells #[.int .i64 y.item.by_, .int .i64 y.item.n, .int .i64 y.st.v.by_, .int .i64 y.st.v.n, .int .i64 y.st.time, .string y.p, .int .i64 y.size, .bool y.dead] 40))))
          have HY10 := hid (HY7.out.ext (x10.trans (Ext.alloc w10 (.cells #[.int .i64 y.item.by_, .int .i64 y.item.n, .int .i64 y.st.v.by_, .int .i64 y.st.v.n, .int .i64 y.st.time, .string y.p, .int .i64 y.size, .bool y.dead] 40))))
          clear x10 X7 HB7 HY7
          go_wp2_with fail
          refine ((HAw _).out).mono ?_
          rintro e w11 ⟨rfl, x11⟩
          have HN11 := hid (HN10.out.ext x11)
          have X11 := hid (X10.out.trans x11)
          have HB11 := hid (HB10.out.ext x11)
          have HY11 := hid (HY10.out.ext x11)
          clear x11 X10 HB10 HY10
          have d0 := HN11.out.cell (i := 0) (v := .int .i64 y.item.by_) rfl
          have d1 := HN11.out.cell (i := 1) (v := .int .i64 y.item.n) rfl
          have d2 := HN11.out.cell (i := 2) (v := .int .i64 y.st.v.by_) rfl
          have d3 := HN11.out.cell (i := 3) (v := .int .i64 y.st.v.n) rfl
          have d4 := HN11.out.cell (i := 4) (v := .int .i64 y.st.time) rfl
          have d5 := HN11.out.cell (i := 5) (v := .string y.p) rfl
          have d6 := HN11.out.cell (i := 6) (v := .int .i64 y.size) rfl
          have d7 := HN11.out.cell (i := 7) (v := .bool y.dead) rfl
          have dl := HN11.out.lt
          go_wp2_with fail
          refine ((HRz _).out).mono ?_
          rintro e w12 ⟨rfl, x12⟩
          have HN12 := hid (HN11.out.ext x12)
          clear d0 d1 d2 d3 d4 d5 d6 d7 dl
          have X12 := hid (X11.out.trans x12)
          have HB12 := hid (HB11.out.ext x12)
          have HY12 := hid (HY11.out.ext x12)
          clear x12 X11 HB11 HY11
          have d0 := HN12.out.cell (i := 0) (v := .int .i64 y.item.by_) rfl
          have d1 := HN12.out.cell (i := 1) (v := .int .i64 y.item.n) rfl
          have d2 := HN12.out.cell (i := 2) (v := .int .i64 y.st.v.by_) rfl
          have d3 := HN12.out.cell (i := 3) (v := .int .i64 y.st.v.n) rfl
          have d4 := HN12.out.cell (i := 4) (v := .int .i64 y.st.time) rfl
          have d5 := HN12.out.cell (i := 5) (v := .string y.p) rfl
          have d6 := HN12.out.cell (i := 6) (v := .int .i64 y.size) rfl
          have d7 := HN12.out.cell (i := 7) (v := .bool y.dead) rfl
          have dl := HN12.out.lt
          go_wp2_with fail
          refine ((HMz _).out).mono ?_
          rintro e w13 ⟨rfl, x13⟩
          clear d0 d1 d2 d3 d4 d5 d6 d7 dl
          have X13 := hid (X12.out.trans x13)
          have HB13 := hid (HB12.out.ext x13)
          have HY13 := hid (HY12.out.ext x13)
          clear x13 X12 HB12 HY12
          go_wp2_with fail
          go_ret
          exact ⟨rfl, X13.out⟩
        · clear hP9 hPz hc9
          have HN10 := hid (Blk.new w10 40 (#[.int .i64 0, .int .i64 0, .int .i64 0, .int .i64 0, .int .i64 0, .string ⟨#[]⟩, .int .i64 0, .bool false] : Array Value))
          have X10 := hid (X7.out.trans (x10.trans (Ext.alloc w10 (.cells (#[.int .i64 0, .int .i64 0, .int .i64 0, .int .i64 0, .int .i64 0, .string ⟨#[]⟩, .int .i64 0, .bool false] : Array Value) 40))))
          have HB10 := hid (HB7.out.ext (x10.trans (Ext.alloc w10 (.cells (#[.int .i64 0, .int .i64 0, .int .i64 0, .int .i64 0, .int .i64 0, .string ⟨#[]⟩, .int .i64 0, .bool false] : Array Value) 40))))
          have HY10 := hid (HY7.out.ext (x10.trans (Ext.alloc w10 (.cells (#[.int .i64 0, .int .i64 0, .int .i64 0, .int .i64 0, .int .i64 0, .string ⟨#[]⟩, .int .i64 0, .bool false] : Array Value) 40))))
          clear x10 X7 HB7 HY7
          unfold met0
          go_wp2_with fail
          refine ((HAw _).out).mono ?_
          rintro e w11 ⟨rfl, x11⟩
          have HN11 := hid (HN10.out.ext x11)
          have X11 := hid (X10.out.trans x11)
          have HB11 := hid (HB10.out.ext x11)
          have HY11 := hid (HY10.out.ext x11)
          clear x11 X10 HB10 HY10
          have d0z := HN11.out.cell (i := 0) (v := .int .i64 0) rfl
          have d1z := HN11.out.cell (i := 1) (v := .int .i64 0) rfl
          have d2z := HN11.out.cell (i := 2) (v := .int .i64 0) rfl
          have d3z := HN11.out.cell (i := 3) (v := .int .i64 0) rfl
          have d4z := HN11.out.cell (i := 4) (v := .int .i64 0) rfl
          have d5z := HN11.out.cell (i := 5) (v := .string ⟨#[]⟩) rfl
          have d6z := HN11.out.cell (i := 6) (v := .int .i64 0) rfl
          have d7z := HN11.out.cell (i := 7) (v := .bool false) rfl
          have dlz := HN11.out.lt
          go_wp2_with fail
          go_ret
          exact ⟨rfl, X11.out⟩
  | false =>
    rw [show putB false U = ⟨#[]⟩ from rfl, show okZ false = 2 from rfl]
    obtain ⟨P7, hP7, hc7⟩ := (HGx _ X4.out ⟨#[]⟩ (by decide)).out
    refine hc7.mono ?_
    rintro e w5 ⟨x7, z7, -, rfl, x5⟩
    clear hP7 hc7
    have HN5 := hid (Blk.new w5 38 #[.int .i64 x7.item.by_, .int .i64 x7.item.n, .int .i64 x7.st.v.by_, .int .i64 x7.st.v.n, .int .i64 x7.st.time, .string x7.p, .string x7.d, .bool x7.dead])
    have X5 := hid (X4.out.trans (x5.trans (Ext.alloc w5 (.cells #[.int .i64 x7.item.by_, .int .i64 x7.item.n, .int .i64 x7.st.v.by_, .int .i64 x7.st.v.n, .int .i64 x7.st.time, .string x7.p, .string x7.d, .bool x7.dead] 38))))
    have HB5 := hid (HB4.out.ext (x5.trans (Ext.alloc w5 (.cells #[.int .i64 x7.item.by_, .int .i64 x7.item.n, .int .i64 x7.st.v.by_, .int .i64 x7.st.v.n, .int .i64 x7.st.time, .string x7.p, .string x7.d, .bool x7.dead] 38))))
    have HY5 := hid (HY4.out.ext (x5.trans (Ext.alloc w5 (.cells #[.int .i64 x7.item.by_, .int .i64 x7.item.n, .int .i64 x7.st.v.by_, .int .i64 x7.st.v.n, .int .i64 x7.st.time, .string x7.p, .string x7.d, .bool x7.dead] 38))))
    clear x5 X4 HB4 HY4
    go_wp2_with fail
    cases bm with
    | true =>
      rw [show putB true Mb = Mb from rfl, show okZ true = 0 from rfl]
      refine ((HGm _ X5.out rfl).out).mono ?_
      rintro e w6 ⟨rfl, x6⟩
      have HN6 := hid (Blk.new w6 40 #[.int .i64 m.item.by_, .int .i64 m.item.n, .int .i64 m.st.v.by_, .int .i64 m.st.v.n, .int .i64 m.st.time, .string m.p, .int .i64 m.size, .bool m.dead])
      have X6 := hid (X5.out.trans (x6.trans (Ext.alloc w6 (.cells #[.int .i64 m.item.by_, .int .i64 m.item.n, .int .i64 m.st.v.by_, .int .i64 m.st.v.n, .int .i64 m.st.time, .string m.p, .int .i64 m.size, .bool m.dead] 40))))
      have HB6 := hid (HB5.out.ext (x6.trans (Ext.alloc w6 (.cells #[.int .i64 m.item.by_, .int .i64 m.item.n, .int .i64 m.st.v.by_, .int .i64 m.st.v.n, .int .i64 m.st.time, .string m.p, .int .i64 m.size, .bool m.dead] 40))))
      have HY6 := hid (HY5.out.ext (x6.trans (Ext.alloc w6 (.cells #[.int .i64 m.item.by_, .int .i64 m.item.n, .int .i64 m.st.v.by_, .int .i64 m.st.v.n, .int .i64 m.st.time, .string m.p, .int .i64 m.size, .bool m.dead] 40))))
      clear x6 X5 HB5 HY5
      have b0 := HY6.out.cell (i := 0) (v := .int .i64 m.item.by_) rfl
      have b1 := HY6.out.cell (i := 1) (v := .int .i64 m.item.n) rfl
      have b2 := HY6.out.cell (i := 2) (v := .int .i64 m.st.v.by_) rfl
      have b3 := HY6.out.cell (i := 3) (v := .int .i64 m.st.v.n) rfl
      have b4 := HY6.out.cell (i := 4) (v := .int .i64 m.st.time) rfl
      have b5 := HY6.out.cell (i := 5) (v := .string m.p) rfl
      have b6 := HY6.out.cell (i := 6) (v := .int .i64 m.size) rfl
      have b7 := HY6.out.cell (i := 7) (v := .bool m.dead) rfl
      have bl := HY6.out.lt
      go_wp2_with fail
      clear b0 b1 b2 b3 b4 b5 b6 b7 bl
      obtain ⟨P8, hP8, hc8⟩ := (HGx _ X6.out s HS9.out).out
      refine hc8.mono ?_
      rintro e w7 ⟨x, z, hPz, rfl, x7⟩
      rcases hP8 x z hPz with ⟨rfl, xi, xr, xe, xp, xd⟩ | ⟨rfl, rfl⟩
      · have HRz := fun W => HRx W x xp
        rw [xr] at HRz
        have HMz := fun W => HUx W x xi (by omega) (by omega)
        rw [xe] at HMz
        have dss : (s.toList == s.toList) = true := by simp
        clear hP8 hPz hc8 xi xr xe xp xd
        have HN7 := hid (Blk.new w7 38 #[.int .i64 x.item.by_, .int .i64 x.item.n, .int .i64 x.st.v.by_, .int .i64 x.st.v.n, .int .i64 x.st.time, .string x.p, .string x.d, .bool x.dead])
        have X7 := hid (X6.out.trans (x7.trans (Ext.alloc w7 (.cells #[.int .i64 x.item.by_, .int .i64 x.item.n, .int .i64 x.st.v.by_, .int .i64 x.st.v.n, .int .i64 x.st.time, .string x.p, .string x.d, .bool x.dead] 38))))
        have HB7 := hid (HB6.out.ext (x7.trans (Ext.alloc w7 (.cells #[.int .i64 x.item.by_, .int .i64 x.item.n, .int .i64 x.st.v.by_, .int .i64 x.st.v.n, .int .i64 x.st.time, .string x.p, .string x.d, .bool x.dead] 38))))
        have HY7 := hid (HY6.out.ext (x7.trans (Ext.alloc w7 (.cells #[.int .i64 x.item.by_, .int .i64 x.item.n, .int .i64 x.st.v.by_, .int .i64 x.st.v.n, .int .i64 x.st.time, .string x.p, .string x.d, .bool x.dead] 38))))
        clear x7 X6 HB6 HY6
        have c0 : True := trivial
        go_wp2_with fail
        refine ((HRz _).out).mono ?_
        rintro e w8 ⟨rfl, x8⟩
        have HN8 := hid (HN7.out.ext x8)
        have X8 := hid (X7.out.trans x8)
        have HB8 := hid (HB7.out.ext x8)
        have HY8 := hid (HY7.out.ext x8)
        clear x8 X7 HB7 HY7
        have c0 := HN8.out.cell (i := 0) (v := .int .i64 x.item.by_) rfl
        have c1 := HN8.out.cell (i := 1) (v := .int .i64 x.item.n) rfl
        have c2 := HN8.out.cell (i := 2) (v := .int .i64 x.st.v.by_) rfl
        have c3 := HN8.out.cell (i := 3) (v := .int .i64 x.st.v.n) rfl
        have c4 := HN8.out.cell (i := 4) (v := .int .i64 x.st.time) rfl
        have c5 := HN8.out.cell (i := 5) (v := .string x.p) rfl
        have c6 := HN8.out.cell (i := 6) (v := .string x.d) rfl
        have c7 := HN8.out.cell (i := 7) (v := .bool x.dead) rfl
        have cl := HN8.out.lt
        go_wp2_with fail
        refine ((HMz _).out).mono ?_
        rintro e w9 ⟨rfl, x9⟩
        clear c0 c1 c2 c3 c4 c5 c6 c7 cl
        have X9 := hid (X8.out.trans x9)
        have HB9 := hid (HB8.out.ext x9)
        have HY9 := hid (HY8.out.ext x9)
        clear x9 X8 HB8 HY8
        clear HRz HMz dss
        go_wp2_with fail
        obtain ⟨P9, hP9, hc9⟩ := (HGy _ X9.out s HS9.out).out
        refine hc9.mono ?_
        rintro e w10 ⟨y, z, hPz, rfl, x10⟩
        rcases hP9 y z hPz with ⟨rfl, yi, ys, yr, ye, yp⟩ | ⟨rfl, rfl⟩
        · have hcy : (y.chk == 0) = true := by unfold rightM at yr; simpa using yr
          have HRz := fun W => HRy W y yp
          have HMz := fun W => HMy W y yi (by omega) ys
          rw [ye] at HMz
          have dss : (s.toList == s.toList) = true := by simp
          generalize y.chk = cy at HRz hcy
          clear hP9 hPz hc9 yi ys yr ye yp
          have HN10 := hid (Blk.new w10 40 #[.int .i64 y.item.by_, .int .i64 y.item.n, .int .i64 y.st.v.by_, .int .i64 y.st.v.n, .int .i64 y.st.time, .string y.p, .int .i64 y.size, .bool y.dead])
          have X10 := hid (X9.out.trans (x10.trans (Ext.alloc w10 (.cells #[.int .i64 y.item.by_, .int .i64 y.item.n, .int .i64 y.st.v.by_, .int .i64 y.st.v.n, .int .i64 y.st.time, .string y.p, .int .i64 y.size, .bool y.dead] 40))))
          have HB10 := hid (HB9.out.ext (x10.trans (Ext.alloc w10 (.cells #[.int .i64 y.item.by_, .int .i64 y.item.n, .int .i64 y.st.v.by_, .int .i64 y.st.v.n, .int .i64 y.st.time, .string y.p, .int .i64 y.size, .bool y.dead] 40))))
          have HY10 := hid (HY9.out.ext (x10.trans (Ext.alloc w10 (.cells #[.int .i64 y.item.by_, .int .i64 y.item.n, .int .i64 y.st.v.by_, .int .i64 y.st.v.n, .int .i64 y.st.time, .string y.p, .int .i64 y.size, .bool y.dead] 40))))
          clear x10 X9 HB9 HY9
          go_wp2_with fail
          refine ((HAw _).out).mono ?_
          rintro e w11 ⟨rfl, x11⟩
          have HN11 := hid (HN10.out.ext x11)
          have X11 := hid (X10.out.trans x11)
          have HB11 := hid (HB10.out.ext x11)
          have HY11 := hid (HY10.out.ext x11)
          clear x11 X10 HB10 HY10
          have d0 := HN11.out.cell (i := 0) (v := .int .i64 y.item.by_) rfl
          have d1 := HN11.out.cell (i := 1) (v := .int .i64 y.item.n) rfl
          have d2 := HN11.out.cell (i := 2) (v := .int .i64 y.st.v.by_) rfl
          have d3 := HN11.out.cell (i := 3) (v := .int .i64 y.st.v.n) rfl
          have d4 := HN11.out.cell (i := 4) (v := .int .i64 y.st.time) rfl
          have d5 := HN11.out.cell (i := 5) (v := .string y.p) rfl
          have d6 := HN11.out.cell (i := 6) (v := .int .i64 y.size) rfl
          have d7 := HN11.out.cell (i := 7) (v := .bool y.dead) rfl
          have dl := HN11.out.lt
          go_wp2_with fail
          refine ((HRz _).out).mono ?_
          rintro e w12 ⟨rfl, x12⟩
          have HN12 := hid (HN11.out.ext x12)
          clear d0 d1 d2 d3 d4 d5 d6 d7 dl
          have X12 := hid (X11.out.trans x12)
          have HB12 := hid (HB11.out.ext x12)
          have HY12 := hid (HY11.out.ext x12)
          clear x12 X11 HB11 HY11
          have d0 := HN12.out.cell (i := 0) (v := .int .i64 y.item.by_) rfl
          have d1 := HN12.out.cell (i := 1) (v := .int .i64 y.item.n) rfl
          have d2 := HN12.out.cell (i := 2) (v := .int .i64 y.st.v.by_) rfl
          have d3 := HN12.out.cell (i := 3) (v := .int .i64 y.st.v.n) rfl
          have d4 := HN12.out.cell (i := 4) (v := .int .i64 y.st.time) rfl
          have d5 := HN12.out.cell (i := 5) (v := .string y.p) rfl
          have d6 := HN12.out.cell (i := 6) (v := .int .i64 y.size) rfl
          have d7 := HN12.out.cell (i := 7) (v := .bool y.dead) rfl
          have dl := HN12.out.lt
          go_wp2_with fail
          refine ((HMz _).out).mono ?_
          rintro e w13 ⟨rfl, x13⟩
          clear d0 d1 d2 d3 d4 d5 d6 d7 dl
          have X13 := hid (X12.out.trans x13)
          have HB13 := hid (HB12.out.ext x13)
          have HY13 := hid (HY12.out.ext x13)
          clear x13 X12 HB12 HY12
          go_wp2_with fail
          go_ret
          exact ⟨rfl, X13.out⟩
        · clear hP9 hPz hc9
          have HN10 := hid (Blk.new w10 40 (#[.int .i64 0, .int .i64 0, .int .i64 0, .int .i64 0, .int .i64 0, .string ⟨#[]⟩, .int .i64 0, .bool false] : Array Value))
          have X10 := hid (X9.out.trans (x10.trans (Ext.alloc w10 (.cells (#[.int .i64 0, .int .i64 0, .int .i64 0, .int .i64 0, .int .i64 0, .string ⟨#[]⟩, .int .i64 0, .bool false] : Array Value) 40))))
          have HB10 := hid (HB9.out.ext (x10.trans (Ext.alloc w10 (.cells (#[.int .i64 0, .int .i64 0, .int .i64 0, .int .i64 0, .int .i64 0, .string ⟨#[]⟩, .int .i64 0, .bool false] : Array Value) 40))))
          have HY10 := hid (HY9.out.ext (x10.trans (Ext.alloc w10 (.cells (#[.int .i64 0, .int .i64 0, .int .i64 0, .int .i64 0, .int .i64 0, .string ⟨#[]⟩, .int .i64 0, .bool false] : Array Value) 40))))
          clear x10 X9 HB9 HY9
          unfold met0
          go_wp2_with fail
          refine ((HAw _).out).mono ?_
          rintro e w11 ⟨rfl, x11⟩
          have HN11 := hid (HN10.out.ext x11)
          have X11 := hid (X10.out.trans x11)
          have HB11 := hid (HB10.out.ext x11)
          have HY11 := hid (HY10.out.ext x11)
          clear x11 X10 HB10 HY10
          have d0z := HN11.out.cell (i := 0) (v := .int .i64 0) rfl
          have d1z := HN11.out.cell (i := 1) (v := .int .i64 0) rfl
          have d2z := HN11.out.cell (i := 2) (v := .int .i64 0) rfl
          have d3z := HN11.out.cell (i := 3) (v := .int .i64 0) rfl
          have d4z := HN11.out.cell (i := 4) (v := .int .i64 0) rfl
          have d5z := HN11.out.cell (i := 5) (v := .string ⟨#[]⟩) rfl
          have d6z := HN11.out.cell (i := 6) (v := .int .i64 0) rfl
          have d7z := HN11.out.cell (i := 7) (v := .bool false) rfl
          have dlz := HN11.out.lt
          go_wp2_with fail
          go_ret
          exact ⟨rfl, X11.out⟩
      · clear hP8 hPz hc8
        have HN7 := hid (Blk.new w7 38 (#[.int .i64 0, .int .i64 0, .int .i64 0, .int .i64 0, .int .i64 0, .string ⟨#[]⟩, .string ⟨#[]⟩, .bool false] : Array Value))
        have X7 := hid (X6.out.trans (x7.trans (Ext.alloc w7 (.cells (#[.int .i64 0, .int .i64 0, .int .i64 0, .int .i64 0, .int .i64 0, .string ⟨#[]⟩, .string ⟨#[]⟩, .bool false] : Array Value) 38))))
        have HB7 := hid (HB6.out.ext (x7.trans (Ext.alloc w7 (.cells (#[.int .i64 0, .int .i64 0, .int .i64 0, .int .i64 0, .int .i64 0, .string ⟨#[]⟩, .string ⟨#[]⟩, .bool false] : Array Value) 38))))
        have HY7 := hid (HY6.out.ext (x7.trans (Ext.alloc w7 (.cells (#[.int .i64 0, .int .i64 0, .int .i64 0, .int .i64 0, .int .i64 0, .string ⟨#[]⟩, .string ⟨#[]⟩, .bool false] : Array Value) 38))))
        clear x7 X6 HB6 HY6
        unfold upd0
        go_wp2_with fail
        obtain ⟨P9, hP9, hc9⟩ := (HGy _ X7.out s HS9.out).out
        refine hc9.mono ?_
        rintro e w10 ⟨y, z, hPz, rfl, x10⟩
        rcases hP9 y z hPz with ⟨rfl, yi, ys, yr, ye, yp⟩ | ⟨rfl, rfl⟩
        · have hcy : (y.chk == 0) = true := by unfold rightM at yr; simpa using yr
          have HRz := fun W => HRy W y yp
          have HMz := fun W => HMy W y yi (by omega) ys
          rw [ye] at HMz
          have dss : (s.toList == s.toList) = true := by simp
          generalize y.chk = cy at HRz hcy
          clear hP9 hPz hc9 yi ys yr ye yp
          have HN10 := hid (Blk.new w10 40 #[.int .i64 y.item.by_, .int .i64 y.item.n, .int .i64 y.st.v.by_, .int .i64 y.st.v.n, .int .i64 y.st.time, .string y.p, .int .i64 y.size, .bool y.dead])
          have X10 := hid (X7.out.trans (x10.trans (Ext.alloc w10 (.cells #[.int .i64 y.item.by_, .int .i64 y.item.n, .int .i64 y.st.v.by_, .int .i64 y.st.v.n, .int .i64 y.st.time, .string y.p, .int .i64 y.size, .bool y.dead] 40))))
          have HB10 := hid (HB7.out.ext (x10.trans (Ext.alloc w10 (.cells #[.int .i64 y.item.by_, .int .i64 y.item.n, .int .i64 y.st.v.by_, .int .i64 y.st.v.n, .int .i64 y.st.time, .string y.p, .int .i64 y.size, .bool y.dead] 40))))
          have HY10 := hid (HY7.out.ext (x10.trans (Ext.alloc w10 (.cells #[.int .i64 y.item.by_, .int .i64 y.item.n, .int .i64 y.st.v.by_, .int .i64 y.st.v.n, .int .i64 y.st.time, .string y.p, .int .i64 y.size, .bool y.dead] 40))))
          clear x10 X7 HB7 HY7
          go_wp2_with fail
          refine ((HAw _).out).mono ?_
          rintro e w11 ⟨rfl, x11⟩
          have HN11 := hid (HN10.out.ext x11)
          have X11 := hid (X10.out.trans x11)
          have HB11 := hid (HB10.out.ext x11)
          have HY11 := hid (HY10.out.ext x11)
          clear x11 X10 HB10 HY10
          have d0 := HN11.out.cell (i := 0) (v := .int .i64 y.item.by_) rfl
          have d1 := HN11.out.cell (i := 1) (v := .int .i64 y.item.n) rfl
          have d2 := HN11.out.cell (i := 2) (v := .int .i64 y.st.v.by_) rfl
          have d3 := HN11.out.cell (i := 3) (v := .int .i64 y.st.v.n) rfl
          have d4 := HN11.out.cell (i := 4) (v := .int .i64 y.st.time) rfl
          have d5 := HN11.out.cell (i := 5) (v := .string y.p) rfl
          have d6 := HN11.out.cell (i := 6) (v := .int .i64 y.size) rfl
          have d7 := HN11.out.cell (i := 7) (v := .bool y.dead) rfl
          have dl := HN11.out.lt
          go_wp2_with fail
          refine ((HRz _).out).mono ?_
          rintro e w12 ⟨rfl, x12⟩
          have HN12 := hid (HN11.out.ext x12)
          clear d0 d1 d2 d3 d4 d5 d6 d7 dl
          have X12 := hid (X11.out.trans x12)
          have HB12 := hid (HB11.out.ext x12)
          have HY12 := hid (HY11.out.ext x12)
          clear x12 X11 HB11 HY11
          have d0 := HN12.out.cell (i := 0) (v := .int .i64 y.item.by_) rfl
          have d1 := HN12.out.cell (i := 1) (v := .int .i64 y.item.n) rfl
          have d2 := HN12.out.cell (i := 2) (v := .int .i64 y.st.v.by_) rfl
          have d3 := HN12.out.cell (i := 3) (v := .int .i64 y.st.v.n) rfl
          have d4 := HN12.out.cell (i := 4) (v := .int .i64 y.st.time) rfl
          have d5 := HN12.out.cell (i := 5) (v := .string y.p) rfl
          have d6 := HN12.out.cell (i := 6) (v := .int .i64 y.size) rfl
          have d7 := HN12.out.cell (i := 7) (v := .bool y.dead) rfl
          have dl := HN12.out.lt
          go_wp2_with fail
          refine ((HMz _).out).mono ?_
          rintro e w13 ⟨rfl, x13⟩
          clear d0 d1 d2 d3 d4 d5 d6 d7 dl
          have X13 := hid (X12.out.trans x13)
          have HB13 := hid (HB12.out.ext x13)
          have HY13 := hid (HY12.out.ext x13)
          clear x13 X12 HB12 HY12
          go_wp2_with fail
          go_ret
          exact ⟨rfl, X13.out⟩
        · clear hP9 hPz hc9
          have HN10 := hid (Blk.new w10 40 (#[.int .i64 0, .int .i64 0, .int .i64 0, .int .i64 0, .int .i64 0, .string ⟨#[]⟩, .int .i64 0, .bool false] : Array Value))
          have X10 := hid (X7.out.trans (x10.trans (Ext.alloc w10 (.cells (#[.int .i64 0, .int .i64 0, .int .i64 0, .int .i64 0, .int .i64 0, .string ⟨#[]⟩, .int .i64 0, .bool false] : Array Value) 40))))
          have HB10 := hid (HB7.out.ext (x10.trans (Ext.alloc w10 (.cells (#[.int .i64 0, .int .i64 0, .int .i64 0, .int .i64 0, .int .i64 0, .string ⟨#[]⟩, .int .i64 0, .bool false] : Array Value) 40))))
          have HY10 := hid (HY7.out.ext (x10.trans (Ext.alloc w10 (.cells (#[.int .i64 0, .int .i64 0, .int .i64 0, .int .i64 0, .int .i64 0, .string ⟨#[]⟩, .int .i64 0, .bool false] : Array Value) 40))))
          clear x10 X7 HB7 HY7
          unfold met0
          go_wp2_with fail
          refine ((HAw _).out).mono ?_
          rintro e w11 ⟨rfl, x11⟩
          have HN11 := hid (HN10.out.ext x11)
          have X11 := hid (X10.out.trans x11)
          have HB11 := hid (HB10.out.ext x11)
          have HY11 := hid (HY10.out.ext x11)
          clear x11 X10 HB10 HY10
          have d0z := HN11.out.cell (i := 0) (v := .int .i64 0) rfl
          have d1z := HN11.out.cell (i := 1) (v := .int .i64 0) rfl
          have d2z := HN11.out.cell (i := 2) (v := .int .i64 0) rfl
          have d3z := HN11.out.cell (i := 3) (v := .int .i64 0) rfl
          have d4z := HN11.out.cell (i := 4) (v := .int .i64 0) rfl
          have d5z := HN11.out.cell (i := 5) (v := .string ⟨#[]⟩) rfl
          have d6z := HN11.out.cell (i := 6) (v := .int .i64 0) rfl
          have d7z := HN11.out.cell (i := 7) (v := .bool false) rfl
          have dlz := HN11.out.lt
          go_wp2_with fail
          go_ret
          exact ⟨rfl, X11.out⟩
    | false =>
      rw [show putB false Mb = ⟨#[]⟩ from rfl, show okZ false = 2 from rfl]
      obtain ⟨P7, hP7, hc7⟩ := (HGy _ X5.out ⟨#[]⟩ (by decide)).out
      refine hc7.mono ?_
      rintro e w6 ⟨y7, z7, -, rfl, x6⟩
      clear hP7 hc7
      have HN6 := hid (Blk.new w6 40 #[.int .i64 y7.item.by_, .int .i64 y7.item.n, .int .i64 y7.st.v.by_, .int .i64 y7.st.v.n, .int .i64 y7.st.time, .string y7.p, .int .i64 y7.size, .bool y7.dead])
      have X6 := hid (X5.out.trans (x6.trans (Ext.alloc w6 (.cells #[.int .i64 y7.item.by_, .int .i64 y7.item.n, .int .i64 y7.st.v.by_, .int .i64 y7.st.v.n, .int .i64 y7.st.time, .string y7.p, .int .i64 y7.size, .bool y7.dead] 40))))
      have HB6 := hid (HB5.out.ext (x6.trans (Ext.alloc w6 (.cells #[.int .i64 y7.item.by_, .int .i64 y7.item.n, .int .i64 y7.st.v.by_, .int .i64 y7.st.v.n, .int .i64 y7.st.time, .string y7.p, .int .i64 y7.size, .bool y7.dead] 40))))
      have HY6 := hid (HY5.out.ext (x6.trans (Ext.alloc w6 (.cells #[.int .i64 y7.item.by_, .int .i64 y7.item.n, .int .i64 y7.st.v.by_, .int .i64 y7.st.v.n, .int .i64 y7.st.time, .string y7.p, .int .i64 y7.size, .bool y7.dead] 40))))
      clear x6 X5 HB5 HY5
      go_wp2_with fail
      obtain ⟨P8, hP8, hc8⟩ := (HGx _ X6.out s HS9.out).out
      refine hc8.mono ?_
      rintro e w7 ⟨x, z, hPz, rfl, x7⟩
      rcases hP8 x z hPz with ⟨rfl, xi, xr, xe, xp, xd⟩ | ⟨rfl, rfl⟩
      · have HRz := fun W => HRx W x xp
        rw [xr] at HRz
        have HMz := fun W => HUx W x xi (by omega) (by omega)
        rw [xe] at HMz
        have dss : (s.toList == s.toList) = true := by simp
        clear hP8 hPz hc8 xi xr xe xp xd
        have HN7 := hid (Blk.new w7 38 #[.int .i64 x.item.by_, .int .i64 x.item.n, .int .i64 x.st.v.by_, .int .i64 x.st.v.n, .int .i64 x.st.time, .string x.p, .string x.d, .bool x.dead])
        have X7 := hid (X6.out.trans (x7.trans (Ext.alloc w7 (.cells #[.int .i64 x.item.by_, .int .i64 x.item.n, .int .i64 x.st.v.by_, .int .i64 x.st.v.n, .int .i64 x.st.time, .string x.p, .string x.d, .bool x.dead] 38))))
        have HB7 := hid (HB6.out.ext (x7.trans (Ext.alloc w7 (.cells #[.int .i64 x.item.by_, .int .i64 x.item.n, .int .i64 x.st.v.by_, .int .i64 x.st.v.n, .int .i64 x.st.time, .string x.p, .string x.d, .bool x.dead] 38))))
        have HY7 := hid (HY6.out.ext (x7.trans (Ext.alloc w7 (.cells #[.int .i64 x.item.by_, .int .i64 x.item.n, .int .i64 x.st.v.by_, .int .i64 x.st.v.n, .int .i64 x.st.time, .string x.p, .string x.d, .bool x.dead] 38))))
        clear x7 X6 HB6 HY6
        have c0 : True := trivial
        go_wp2_with fail
        refine ((HRz _).out).mono ?_
        rintro e w8 ⟨rfl, x8⟩
        have HN8 := hid (HN7.out.ext x8)
        have X8 := hid (X7.out.trans x8)
        have HB8 := hid (HB7.out.ext x8)
        have HY8 := hid (HY7.out.ext x8)
        clear x8 X7 HB7 HY7
        have c0 := HN8.out.cell (i := 0) (v := .int .i64 x.item.by_) rfl
        have c1 := HN8.out.cell (i := 1) (v := .int .i64 x.item.n) rfl
        have c2 := HN8.out.cell (i := 2) (v := .int .i64 x.st.v.by_) rfl
        have c3 := HN8.out.cell (i := 3) (v := .int .i64 x.st.v.n) rfl
        have c4 := HN8.out.cell (i := 4) (v := .int .i64 x.st.time) rfl
        have c5 := HN8.out.cell (i := 5) (v := .string x.p) rfl
        have c6 := HN8.out.cell (i := 6) (v := .string x.d) rfl
        have c7 := HN8.out.cell (i := 7) (v := .bool x.dead) rfl
        have cl := HN8.out.lt
        go_wp2_with fail
        refine ((HMz _).out).mono ?_
        rintro e w9 ⟨rfl, x9⟩
        clear c0 c1 c2 c3 c4 c5 c6 c7 cl
        have X9 := hid (X8.out.trans x9)
        have HB9 := hid (HB8.out.ext x9)
        have HY9 := hid (HY8.out.ext x9)
        clear x9 X8 HB8 HY8
        clear HRz HMz dss
        go_wp2_with fail
        obtain ⟨P9, hP9, hc9⟩ := (HGy _ X9.out s HS9.out).out
        refine hc9.mono ?_
        rintro e w10 ⟨y, z, hPz, rfl, x10⟩
        rcases hP9 y z hPz with ⟨rfl, yi, ys, yr, ye, yp⟩ | ⟨rfl, rfl⟩
        · have hcy : (y.chk == 0) = true := by unfold rightM at yr; simpa using yr
          have HRz := fun W => HRy W y yp
          have HMz := fun W => HMy W y yi (by omega) ys
          rw [ye] at HMz
          have dss : (s.toList == s.toList) = true := by simp
          generalize y.chk = cy at HRz hcy
          clear hP9 hPz hc9 yi ys yr ye yp
          have HN10 := hid (Blk.new w10 40 #[.int .i64 y.item.by_, .int .i64 y.item.n, .int .i64 y.st.v.by_, .int .i64 y.st.v.n, .int .i64 y.st.time, .string y.p, .int .i64 y.size, .bool y.dead])
          have X10 := hid (X9.out.trans (x10.trans (Ext.alloc w10 (.cells #[.int .i64 y.item.by_, .int .i64 y.item.n, .int .i64 y.st.v.by_, .int .i64 y.st.v.n, .int .i64 y.st.time, .string y.p, .int .i64 y.size, .bool y.dead] 40))))
          have HB10 := hid (HB9.out.ext (x10.trans (Ext.alloc w10 (.cells #[.int .i64 y.item.by_, .int .i64 y.item.n, .int .i64 y.st.v.by_, .int .i64 y.st.v.n, .int .i64 y.st.time, .string y.p, .int .i64 y.size, .bool y.dead] 40))))
          have HY10 := hid (HY9.out.ext (x10.trans (Ext.alloc w10 (.cells #[.int .i64 y.item.by_, .int .i64 y.item.n, .int .i64 y.st.v.by_, .int .i64 y.st.v.n, .int .i64 y.st.time, .string y.p, .int .i64 y.size, .bool y.dead] 40))))
          clear x10 X9 HB9 HY9
          go_wp2_with fail
          refine ((HAw _).out).mono ?_
          rintro e w11 ⟨rfl, x11⟩
          have HN11 := hid (HN10.out.ext x11)
          have X11 := hid (X10.out.trans x11)
          have HB11 := hid (HB10.out.ext x11)
          have HY11 := hid (HY10.out.ext x11)
          clear x11 X10 HB10 HY10
          have d0 := HN11.out.cell (i := 0) (v := .int .i64 y.item.by_) rfl
          have d1 := HN11.out.cell (i := 1) (v := .int .i64 y.item.n) rfl
          have d2 := HN11.out.cell (i := 2) (v := .int .i64 y.st.v.by_) rfl
          have d3 := HN11.out.cell (i := 3) (v := .int .i64 y.st.v.n) rfl
          have d4 := HN11.out.cell (i := 4) (v := .int .i64 y.st.time) rfl
          have d5 := HN11.out.cell (i := 5) (v := .string y.p) rfl
          have d6 := HN11.out.cell (i := 6) (v := .int .i64 y.size) rfl
          have d7 := HN11.out.cell (i := 7) (v := .bool y.dead) rfl
          have dl := HN11.out.lt
          go_wp2_with fail
          refine ((HRz _).out).mono ?_
          rintro e w12 ⟨rfl, x12⟩
          have HN12 := hid (HN11.out.ext x12)
          clear d0 d1 d2 d3 d4 d5 d6 d7 dl
          have X12 := hid (X11.out.trans x12)
          have HB12 := hid (HB11.out.ext x12)
          have HY12 := hid (HY11.out.ext x12)
          clear x12 X11 HB11 HY11
          have d0 := HN12.out.cell (i := 0) (v := .int .i64 y.item.by_) rfl
          have d1 := HN12.out.cell (i := 1) (v := .int .i64 y.item.n) rfl
          have d2 := HN12.out.cell (i := 2) (v := .int .i64 y.st.v.by_) rfl
          have d3 := HN12.out.cell (i := 3) (v := .int .i64 y.st.v.n) rfl
          have d4 := HN12.out.cell (i := 4) (v := .int .i64 y.st.time) rfl
          have d5 := HN12.out.cell (i := 5) (v := .string y.p) rfl
          have d6 := HN12.out.cell (i := 6) (v := .int .i64 y.size) rfl
          have d7 := HN12.out.cell (i := 7) (v := .bool y.dead) rfl
          have dl := HN12.out.lt
          go_wp2_with fail
          refine ((HMz _).out).mono ?_
          rintro e w13 ⟨rfl, x13⟩
          clear d0 d1 d2 d3 d4 d5 d6 d7 dl
          have X13 := hid (X12.out.trans x13)
          have HB13 := hid (HB12.out.ext x13)
          have HY13 := hid (HY12.out.ext x13)
          clear x13 X12 HB12 HY12
          go_wp2_with fail
          go_ret
          exact ⟨rfl, X13.out⟩
        · clear hP9 hPz hc9
          have HN10 := hid (Blk.new w10 40 (#[.int .i64 0, .int .i64 0, .int .i64 0, .int .i64 0, .int .i64 0, .string ⟨#[]⟩, .int .i64 0, .bool false] : Array Value))
          have X10 := hid (X9.out.trans (x10.trans (Ext.alloc w10 (.cells (#[.int .i64 0, .int .i64 0, .int .i64 0, .int .i64 0, .int .i64 0, .string ⟨#[]⟩, .int .i64 0, .bool false] : Array Value) 40))))
          have HB10 := hid (HB9.out.ext (x10.trans (Ext.alloc w10 (.cells (#[.int .i64 0, .int .i64 0, .int .i64 0, .int .i64 0, .int .i64 0, .string ⟨#[]⟩, .int .i64 0, .bool false] : Array Value) 40))))
          have HY10 := hid (HY9.out.ext (x10.trans (Ext.alloc w10 (.cells (#[.int .i64 0, .int .i64 0, .int .i64 0, .int .i64 0, .int .i64 0, .string ⟨#[]⟩, .int .i64 0, .bool false] : Array Value) 40))))
          clear x10 X9 HB9 HY9
          unfold met0
          go_wp2_with fail
          refine ((HAw _).out).mono ?_
          rintro e w11 ⟨rfl, x11⟩
          have HN11 := hid (HN10.out.ext x11)
          have X11 := hid (X10.out.trans x11)
          have HB11 := hid (HB10.out.ext x11)
          have HY11 := hid (HY10.out.ext x11)
          clear x11 X10 HB10 HY10
          have d0z := HN11.out.cell (i := 0) (v := .int .i64 0) rfl
          have d1z := HN11.out.cell (i := 1) (v := .int .i64 0) rfl
          have d2z := HN11.out.cell (i := 2) (v := .int .i64 0) rfl
          have d3z := HN11.out.cell (i := 3) (v := .int .i64 0) rfl
          have d4z := HN11.out.cell (i := 4) (v := .int .i64 0) rfl
          have d5z := HN11.out.cell (i := 5) (v := .string ⟨#[]⟩) rfl
          have d6z := HN11.out.cell (i := 6) (v := .int .i64 0) rfl
          have d7z := HN11.out.cell (i := 7) (v := .bool false) rfl
          have dlz := HN11.out.lt
          go_wp2_with fail
          go_ret
          exact ⟨rfl, X11.out⟩
      · clear hP8 hPz hc8
        have HN7 := hid (Blk.new w7 38 (#[.int .i64 0, .int .i64 0, .int .i64 0, .int .i64 0, .int .i64 0, .string ⟨#[]⟩, .string ⟨#[]⟩, .bool false] : Array Value))
        have X7 := hid (X6.out.trans (x7.trans (Ext.alloc w7 (.cells (#[.int .i64 0, .int .i64 0, .int .i64 0, .int .i64 0, .int .i64 0, .string ⟨#[]⟩, .string ⟨#[]⟩, .bool false] : Array Value) 38))))
        have HB7 := hid (HB6.out.ext (x7.trans (Ext.alloc w7 (.cells (#[.int .i64 0, .int .i64 0, .int .i64 0, .int .i64 0, .int .i64 0, .string ⟨#[]⟩, .string ⟨#[]⟩, .bool false] : Array Value) 38))))
        have HY7 := hid (HY6.out.ext (x7.trans (Ext.alloc w7 (.cells (#[.int .i64 0, .int .i64 0, .int .i64 0, .int .i64 0, .int .i64 0, .string ⟨#[]⟩, .string ⟨#[]⟩, .bool false] : Array Value) 38))))
        clear x7 X6 HB6 HY6
        unfold upd0
        go_wp2_with fail
        obtain ⟨P9, hP9, hc9⟩ := (HGy _ X7.out s HS9.out).out
        refine hc9.mono ?_
        rintro e w10 ⟨y, z, hPz, rfl, x10⟩
        rcases hP9 y z hPz with ⟨rfl, yi, ys, yr, ye, yp⟩ | ⟨rfl, rfl⟩
        · have hcy : (y.chk == 0) = true := by unfold rightM at yr; simpa using yr
          have HRz := fun W => HRy W y yp
          have HMz := fun W => HMy W y yi (by omega) ys
          rw [ye] at HMz
          have dss : (s.toList == s.toList) = true := by simp
          generalize y.chk = cy at HRz hcy
          clear hP9 hPz hc9 yi ys yr ye yp
          have HN10 := hid (Blk.new w10 40 #[.int .i64 y.item.by_, .int .i64 y.item.n, .int .i64 y.st.v.by_, .int .i64 y.st.v.n, .int .i64 y.st.time, .string y.p, .int .i64 y.size, .bool y.dead])
          have X10 := hid (X7.out.trans (x10.trans (Ext.alloc w10 (.cells #[.int .i64 y.item.by_, .int .i64 y.item.n, .int .i64 y.st.v.by_, .int .i64 y.st.v.n, .int .i64 y.st.time, .string y.p, .int .i64 y.size, .bool y.dead] 40))))
          have HB10 := hid (HB7.out.ext (x10.trans (Ext.alloc w10 (.cells #[.int .i64 y.item.by_, .int .i64 y.item.n, .int .i64 y.st.v.by_, .int .i64 y.st.v.n, .int .i64 y.st.time, .string y.p, .int .i64 y.size, .bool y.dead] 40))))
          have HY10 := hid (HY7.out.ext (x10.trans (Ext.alloc w10 (.cells #[.int .i64 y.item.by_, .int .i64 y.item.n, .int .i64 y.st.v.by_, .int .i64 y.st.v.n, .int .i64 y.st.time, .string y.p, .int .i64 y.size, .bool y.dead] 40))))
          clear x10 X7 HB7 HY7
          go_wp2_with fail
          refine ((HAw _).out).mono ?_
          rintro e w11 ⟨rfl, x11⟩
          have HN11 := hid (HN10.out.ext x11)
          have X11 := hid (X10.out.trans x11)
          have HB11 := hid (HB10.out.ext x11)
          have HY11 := hid (HY10.out.ext x11)
          clear x11 X10 HB10 HY10
          have d0 := HN11.out.cell (i := 0) (v := .int .i64 y.item.by_) rfl
          have d1 := HN11.out.cell (i := 1) (v := .int .i64 y.item.n) rfl
          have d2 := HN11.out.cell (i := 2) (v := .int .i64 y.st.v.by_) rfl
          have d3 := HN11.out.cell (i := 3) (v := .int .i64 y.st.v.n) rfl
          have d4 := HN11.out.cell (i := 4) (v := .int .i64 y.st.time) rfl
          have d5 := HN11.out.cell (i := 5) (v := .string y.p) rfl
          have d6 := HN11.out.cell (i := 6) (v := .int .i64 y.size) rfl
          have d7 := HN11.out.cell (i := 7) (v := .bool y.dead) rfl
          have dl := HN11.out.lt
          go_wp2_with fail
          refine ((HRz _).out).mono ?_
          rintro e w12 ⟨rfl, x12⟩
          have HN12 := hid (HN11.out.ext x12)
          clear d0 d1 d2 d3 d4 d5 d6 d7 dl
          have X12 := hid (X11.out.trans x12)
          have HB12 := hid (HB11.out.ext x12)
          have HY12 := hid (HY11.out.ext x12)
          clear x12 X11 HB11 HY11
          have d0 := HN12.out.cell (i := 0) (v := .int .i64 y.item.by_) rfl
          have d1 := HN12.out.cell (i := 1) (v := .int .i64 y.item.n) rfl
          have d2 := HN12.out.cell (i := 2) (v := .int .i64 y.st.v.by_) rfl
          have d3 := HN12.out.cell (i := 3) (v := .int .i64 y.st.v.n) rfl
          have d4 := HN12.out.cell (i := 4) (v := .int .i64 y.st.time) rfl
          have d5 := HN12.out.cell (i := 5) (v := .string y.p) rfl
          have d6 := HN12.out.cell (i := 6) (v := .int .i64 y.size) rfl
          have d7 := HN12.out.cell (i := 7) (v := .bool y.dead) rfl
          have dl := HN12.out.lt
          go_wp2_with fail
          refine ((HMz _).out).mono ?_
          rintro e w13 ⟨rfl, x13⟩
          clear d0 d1 d2 d3 d4 d5 d6 d7 dl
          have X13 := hid (X12.out.trans x13)
          have HB13 := hid (HB12.out.ext x13)
          have HY13 := hid (HY12.out.ext x13)
          clear x13 X12 HB12 HY12
          go_wp2_with fail
          go_ret
          exact ⟨rfl, X13.out⟩
        · clear hP9 hPz hc9
          have HN10 := hid (Blk.new w10 40 (#[.int .i64 0, .int .i64 0, .int .i64 0, .int .i64 0, .int .i64 0, .string ⟨#[]⟩, .int .i64 0, .bool false] : Array Value))
          have X10 := hid (X7.out.trans (x10.trans (Ext.alloc w10 (.cells (#[.int .i64 0, .int .i64 0, .int .i64 0, .int .i64 0, .int .i64 0, .string ⟨#[]⟩, .int .i64 0, .bool false] : Array Value) 40))))
          have HB10 := hid (HB7.out.ext (x10.trans (Ext.alloc w10 (.cells (#[.int .i64 0, .int .i64 0, .int .i64 0, .int .i64 0, .int .i64 0, .string ⟨#[]⟩, .int .i64 0, .bool false] : Array Value) 40))))
          have HY10 := hid (HY7.out.ext (x10.trans (Ext.alloc w10 (.cells (#[.int .i64 0, .int .i64 0, .int .i64 0, .int .i64 0, .int .i64 0, .string ⟨#[]⟩, .int .i64 0, .bool false] : Array Value) 40))))
          clear x10 X7 HB7 HY7
          unfold met0
          go_wp2_with fail
          refine ((HAw _).out).mono ?_
          rintro e w11 ⟨rfl, x11⟩
          have HN11 := hid (HN10.out.ext x11)
          have X11 := hid (X10.out.trans x11)
          have HB11 := hid (HB10.out.ext x11)
          have HY11 := hid (HY10.out.ext x11)
          clear x11 X10 HB10 HY10
          have d0z := HN11.out.cell (i := 0) (v := .int .i64 0) rfl
          have d1z := HN11.out.cell (i := 1) (v := .int .i64 0) rfl
          have d2z := HN11.out.cell (i := 2) (v := .int .i64 0) rfl
          have d3z := HN11.out.cell (i := 3) (v := .int .i64 0) rfl
          have d4z := HN11.out.cell (i := 4) (v := .int .i64 0) rfl
          have d5z := HN11.out.cell (i := 5) (v := .string ⟨#[]⟩) rfl
          have d6z := HN11.out.cell (i := 6) (v := .int .i64 0) rfl
          have d7z := HN11.out.cell (i := 7) (v := .bool false) rfl
          have dlz := HN11.out.lt
          go_wp2_with fail
          go_ret
          exact ⟨rfl, X11.out⟩
end Go.Proofs.YtanflgipdiogaaaDoor
