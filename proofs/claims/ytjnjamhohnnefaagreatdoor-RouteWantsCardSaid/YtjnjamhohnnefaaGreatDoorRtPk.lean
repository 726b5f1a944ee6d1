/-
  The law RouteWants: its walk (written by gen_wants.py).
-/
import Derived.Test.YtjnjamhohnnefaaGreatDoorPkN
import Derived.Test.YtjnjamhohnnefaaGreatDoorPkM
import Derived.Test.YtjnjamhohnnefaaGreatDoorPkI
import Derived.Test.YtjnjamhohnnefaaGreatDoorPkH
namespace Go.Proofs.YtjnjamhohnnefaaGreatDoor
set_option linter.unusedSimpArgs false
set_option linter.unusedVariables false
open Go.RowKit Go.Sort

theorem up_in {up : List Int} {Fl : List (List ClauseI)} (h : checkT up Fl = 0) {k : Nat} (hk : k < up.length) (h0 : up[k] ≠ 0) : 1 ≤ up[k] ∧ up[k] ≤ up.length := by
  obtain ⟨n, hn⟩ := shape_climb (r := (k : Int) + 1) (check_zero h).2.1 (by omega) (by omega)
  have hn : Ht up ((k : Int) + 1) n := hn
  have e := upAt_at hk
  cases n with
  | zero => exact absurd (e.symm.trans hn.root) h0
  | succ n =>
    have := hn.next.in
    rw [e] at this
    exact this
theorem wants_up {up : List Int} {Fl : List (List ClauseI)} (h : checkT up Fl = 0) {k : Nat} (hk : k < up.length) (hkF : k < Fl.length) {x : FileI} (h1 : Fl[k].any (hitB x) = true) {j : Nat} (hz : up[k] = (j : Int) + 1) (hj : j < Fl.length) : Fl[j].any (hitB x) = true := by
  have e := upAt_at hk
  have := step_has h (r := (k : Int) + 1) (by omega) (by rw [e, hz]; omega) x (by rw [show ((k : Int) + 1 - 1).toNat = k by omega, List.getD_eq_getElem?_getD, List.getElem?_eq_getElem hkF]; exact h1)
  rw [e, hz, show ((j : Int) + 1 - 1).toNat = j by omega, List.getD_eq_getElem?_getD, List.getElem?_eq_getElem hj] at this
  exact this
set_option maxRecDepth 100000 in
set_option maxHeartbeats 16000000 in
theorem wants_dark (w : World) (m : Int) (hm : w.cell? ⟨0, 0, none⟩ = some (.int .i64 m)) (up : List Int) (Fl : List (List ClauseI)) (A AF : Option Addr) (c cF : Nat) (f : Int) (x : FileI) (hu : Sl w 1 (.slice A up.length c) (Ints up)) (hF : FsAt w AF cF Fl) (hx : x.p.size ≤ maxLen) (hlt : lightT up Fl = false) : Calls Tryz.prog 9 #[.agg #[.slice A up.length c, .slice AF Fl.length cF], .int .i64 f, .agg #[.string x.p, .int .i64 x.size, .bool x.dead]] w (Ret (.bool true) w) := by
  have HE0 := hid (Ext.alloc w (.cells #[.slice A up.length c, .slice AF Fl.length cF] 25))
  have HB0 := hid (Blk.new w 25 #[.slice A up.length c, .slice AF Fl.length cF])
  have HE1 := hid (HE0.out.alloc' (.cells #[.string x.p, .int .i64 x.size, .bool x.dead] 32))
  have HB1 := hid (HB0.out.alloc (.cells #[.string x.p, .int .i64 x.size, .bool x.dead] 32))
  have HY1 := hid (Blk.new (w.alloc (.cells #[.slice A up.length c, .slice AF Fl.length cF] 25)) 32 #[.string x.p, .int .i64 x.size, .bool x.dead])
  rw [World.size_alloc] at HY1
  have HAw := fun W (hW : Ext w W) => hid (awake39_c W m (hW.cell hm))
  have HLt := fun W (hW : Ext w W) => hid (light28_c W up Fl A AF c cF (hu.ext hW) (hF.ext hW))
  rw [hlt] at HLt
  clear hm hu hF hlt
  go_enter Tryz.func9, Tryz.ntmps9
  go_wp2_with fail
  generalize (w.alloc (.cells #[.slice A up.length c, .slice AF Fl.length cF] 25)).alloc (.cells #[.string x.p, .int .i64 x.size, .bool x.dead] 32) = w0 at HE1 HB1 HY1 ⊢
  generalize w.heap.size = g at HB1 HY1 ⊢
  have X0 := hid HE1.out
  have HB0 := hid HB1.out
  have HY0 := hid HY1.out
  have a0 := HB0.out.cell (i := 0) (v := .slice A up.length c) rfl
  have b0 := HB0.out.cell (i := 1) (v := .slice AF Fl.length cF) rfl
  have l0 := HB0.out.lt
  have f0 := HY0.out.cell (i := 0) (v := .string x.p) rfl
  have m0 := HY0.out.lt
  clear HB1 HY1 HE1
  refine ((HLt _ X0.out).out).mono ?_
  rintro e w1 ⟨rfl, x1⟩
  have X1 := hid (X0.out.trans x1)
  have HB1 := hid (HB0.out.ext x1)
  have HY1 := hid (HY0.out.ext x1)
  have a1 := HB1.out.cell (i := 0) (v := .slice A up.length c) rfl
  have b1 := HB1.out.cell (i := 1) (v := .slice AF Fl.length cF) rfl
  have l1 := HB1.out.lt
  have f1 := HY1.out.cell (i := 0) (v := .string x.p) rfl
  have g1 := HY1.out.cell (i := 1) (v := .int .i64 x.size) rfl
  have h1 := HY1.out.cell (i := 2) (v := .bool x.dead) rfl
  have m1 := HY1.out.lt
  clear x1
  clear HLt
  clear a0 b0 l0 f0 m0
  go_wp2_with fail
  refine ((HAw _ X1.out).out).mono ?_
  rintro e w2 ⟨rfl, x2⟩
  have X2 := hid (X1.out.trans x2)
  clear x2
  go_wp2_with fail
  go_ret
  exact ⟨rfl, X2.out⟩
set_option maxRecDepth 100000 in
set_option maxHeartbeats 16000000 in
theorem wants_long (w : World) (m : Int) (hm : w.cell? ⟨0, 0, none⟩ = some (.int .i64 m)) (up : List Int) (Fl : List (List ClauseI)) (A AF : Option Addr) (c cF : Nat) (f : Int) (x : FileI) (hu : Sl w 1 (.slice A up.length c) (Ints up)) (hF : FsAt w AF cF Fl) (hx : x.p.size ≤ maxLen) (hlt : lightT up Fl = true) (hbig : 200 < x.p.size) : Calls Tryz.prog 9 #[.agg #[.slice A up.length c, .slice AF Fl.length cF], .int .i64 f, .agg #[.string x.p, .int .i64 x.size, .bool x.dead]] w (Ret (.bool true) w) := by
  have HE0 := hid (Ext.alloc w (.cells #[.slice A up.length c, .slice AF Fl.length cF] 25))
  have HB0 := hid (Blk.new w 25 #[.slice A up.length c, .slice AF Fl.length cF])
  have HE1 := hid (HE0.out.alloc' (.cells #[.string x.p, .int .i64 x.size, .bool x.dead] 32))
  have HB1 := hid (HB0.out.alloc (.cells #[.string x.p, .int .i64 x.size, .bool x.dead] 32))
  have HY1 := hid (Blk.new (w.alloc (.cells #[.slice A up.length c, .slice AF Fl.length cF] 25)) 32 #[.string x.p, .int .i64 x.size, .bool x.dead])
  rw [World.size_alloc] at HY1
  have HAw := fun W (hW : Ext w W) => hid (awake39_c W m (hW.cell hm))
  have HLt := fun W (hW : Ext w W) => hid (light28_c W up Fl A AF c cF (hu.ext hW) (hF.ext hW))
  rw [hlt] at HLt
  have d0 : decide (200 < x.p.size) = true := decide_eq_true hbig
  have d0' : decide ((200 : Int) < x.p.size) = true := decide_eq_true (by omega)
  clear hm hu hF hlt hbig
  unfold maxLen at hx
  go_enter Tryz.func9, Tryz.ntmps9
  go_wp2_with fail
  generalize (w.alloc (.cells #[.slice A up.length c, .slice AF Fl.length cF] 25)).alloc (.cells #[.string x.p, .int .i64 x.size, .bool x.dead] 32) = w0 at HE1 HB1 HY1 ⊢
  generalize w.heap.size = g at HB1 HY1 ⊢
  have X0 := hid HE1.out
  have HB0 := hid HB1.out
  have HY0 := hid HY1.out
  have a0 := HB0.out.cell (i := 0) (v := .slice A up.length c) rfl
  have b0 := HB0.out.cell (i := 1) (v := .slice AF Fl.length cF) rfl
  have l0 := HB0.out.lt
  have f0 := HY0.out.cell (i := 0) (v := .string x.p) rfl
  have m0 := HY0.out.lt
  clear HB1 HY1 HE1
  refine ((HLt _ X0.out).out).mono ?_
  rintro e w1 ⟨rfl, x1⟩
  have X1 := hid (X0.out.trans x1)
  have HB1 := hid (HB0.out.ext x1)
  have HY1 := hid (HY0.out.ext x1)
  have a1 := HB1.out.cell (i := 0) (v := .slice A up.length c) rfl
  have b1 := HB1.out.cell (i := 1) (v := .slice AF Fl.length cF) rfl
  have l1 := HB1.out.lt
  have f1 := HY1.out.cell (i := 0) (v := .string x.p) rfl
  have g1 := HY1.out.cell (i := 1) (v := .int .i64 x.size) rfl
  have h1 := HY1.out.cell (i := 2) (v := .bool x.dead) rfl
  have m1 := HY1.out.lt
  clear x1
  clear HLt
  clear a0 b0 l0 f0 m0
  go_wp2_with fail
  refine ((HAw _ X1.out).out).mono ?_
  rintro e w2 ⟨rfl, x2⟩
  have X2 := hid (X1.out.trans x2)
  clear x2
  go_wp2_with fail
  go_ret
  exact ⟨rfl, X2.out⟩
set_option maxRecDepth 100000 in
set_option maxHeartbeats 16000000 in
theorem wants_none (w : World) (m : Int) (hm : w.cell? ⟨0, 0, none⟩ = some (.int .i64 m)) (up : List Int) (Fl : List (List ClauseI)) (A AF : Option Addr) (c cF : Nat) (f : Int) (x : FileI) (hu : Sl w 1 (.slice A up.length c) (Ints up)) (hF : FsAt w AF cF Fl) (hx : x.p.size ≤ maxLen) (hlt : lightT up Fl = true) (hsm : x.p.size ≤ 200) (e0 : checkT up Fl ≠ 0) : Calls Tryz.prog 9 #[.agg #[.slice A up.length c, .slice AF Fl.length cF], .int .i64 f, .agg #[.string x.p, .int .i64 x.size, .bool x.dead]] w (Ret (.bool true) w) := by
  have HE0 := hid (Ext.alloc w (.cells #[.slice A up.length c, .slice AF Fl.length cF] 25))
  have HB0 := hid (Blk.new w 25 #[.slice A up.length c, .slice AF Fl.length cF])
  have HE1 := hid (HE0.out.alloc' (.cells #[.string x.p, .int .i64 x.size, .bool x.dead] 32))
  have HB1 := hid (HB0.out.alloc (.cells #[.string x.p, .int .i64 x.size, .bool x.dead] 32))
  have HY1 := hid (Blk.new (w.alloc (.cells #[.slice A up.length c, .slice AF Fl.length cF] 25)) 32 #[.string x.p, .int .i64 x.size, .bool x.dead])
  rw [World.size_alloc] at HY1
  have HAw := fun W (hW : Ext w W) => hid (awake39_c W m (hW.cell hm))
  have HLt := fun W (hW : Ext w W) => hid (light28_c W up Fl A AF c cF (hu.ext hW) (hF.ext hW))
  have hx9 : x.p.size ≤ 1000 := by omega
  have d0 : decide (200 < x.p.size) = false := decide_eq_false (by omega)
  have d0' : decide ((200 : Int) < x.p.size) = false := decide_eq_false (by omega)
  have ht : TreeAt w up Fl A AF c cF := lightT_tree hlt m hm hu hF
  rw [hlt] at HLt
  have HCk := fun W (hW : Ext w W) => hid (rcheck28_c W up Fl A AF c cF (ht.u.ext hW) ht.l (ht.f.ext hW) ht.L)
  have HUp := fun W (hW : Ext w W) => hid (rup39_c W (.slice A up.length c) up f (ht.u.ext hW) ht.l)
  have HWn := fun W (hW : Ext w W) => hid (wants39_c W up Fl A AF c cF x (ht.ext hW) hx9)
  have HRe := fun W (hW : Ext w W) => hid (reach39_c W up Fl A AF c cF f x (ht.ext hW) hx9)
  obtain ⟨h1, h2⟩ := ht.cap
  have hl := ht.l
  obtain ⟨p1, p2⟩ := ht.f.cap
  unfold maxLen at h2 p2
  clear hx
  have ew : wantT up Fl x = [] := if_neg e0
  have er : reachT up Fl f x = [] := if_neg e0
  rw [ew] at HWn
  rw [er] at HRe
  have dk : (checkT up Fl == 0) = false := by simp [e0]
  have HLu := hid (refUp_len up (up.length + 1) f)
  generalize refUp up (up.length + 1) f = U at HUp HLu
  clear hm hu hF hlt ht e0 ew er hsm hx9
  generalize checkT up Fl = ck at HCk dk
  have h1s := h1
  have h2s := h2
  clear h1 h2
  go_enter Tryz.func9, Tryz.ntmps9
  go_wp2_with fail
  generalize (w.alloc (.cells #[.slice A up.length c, .slice AF Fl.length cF] 25)).alloc (.cells #[.string x.p, .int .i64 x.size, .bool x.dead] 32) = w0 at HE1 HB1 HY1 ⊢
  generalize w.heap.size = g at HB1 HY1 ⊢
  have X0 := hid HE1.out
  have HB0 := hid HB1.out
  have HY0 := hid HY1.out
  have a0 := HB0.out.cell (i := 0) (v := .slice A up.length c) rfl
  have b0 := HB0.out.cell (i := 1) (v := .slice AF Fl.length cF) rfl
  have l0 := HB0.out.lt
  have f0 := HY0.out.cell (i := 0) (v := .string x.p) rfl
  have m0 := HY0.out.lt
  clear HB1 HY1 HE1
  refine ((HLt _ X0.out).out).mono ?_
  rintro e w1 ⟨rfl, x1⟩
  have X1 := hid (X0.out.trans x1)
  have HB1 := hid (HB0.out.ext x1)
  have HY1 := hid (HY0.out.ext x1)
  have a1 := HB1.out.cell (i := 0) (v := .slice A up.length c) rfl
  have b1 := HB1.out.cell (i := 1) (v := .slice AF Fl.length cF) rfl
  have l1 := HB1.out.lt
  have f1 := HY1.out.cell (i := 0) (v := .string x.p) rfl
  have g1 := HY1.out.cell (i := 1) (v := .int .i64 x.size) rfl
  have h1 := HY1.out.cell (i := 2) (v := .bool x.dead) rfl
  have m1 := HY1.out.lt
  clear x1
  clear HLt
  clear a0 b0 l0 f0 m0
  go_wp2_with fail
  refine ((HCk _ X1.out).out).mono ?_
  rintro e w2 ⟨rfl, x2⟩
  have X2 := hid (X1.out.trans x2)
  have HB2 := hid (HB1.out.ext x2)
  have HY2 := hid (HY1.out.ext x2)
  have a2 := HB2.out.cell (i := 0) (v := .slice A up.length c) rfl
  have b2 := HB2.out.cell (i := 1) (v := .slice AF Fl.length cF) rfl
  have l2 := HB2.out.lt
  have f2 := HY2.out.cell (i := 0) (v := .string x.p) rfl
  have g2 := HY2.out.cell (i := 1) (v := .int .i64 x.size) rfl
  have h2 := HY2.out.cell (i := 2) (v := .bool x.dead) rfl
  have m2 := HY2.out.lt
  clear x2
  clear HCk
  clear a1 b1 l1 f1 g1 h1 m1
  go_wp2_with fail
  refine ((HUp _ X2.out).out).mono ?_
  rintro e w3 ⟨v3, rfl, hv3, x3⟩
  have HV3 := hid hv3.sl
  obtain ⟨A3, c3, rfl, q1, q2, _⟩ := sl_get (code := intC) hv3.sl
  unfold maxLen at q2
  have X3 := hid (X2.out.trans x3)
  have HB3 := hid (HB2.out.ext x3)
  have HY3 := hid (HY2.out.ext x3)
  have a3 := HB3.out.cell (i := 0) (v := .slice A up.length c) rfl
  have b3 := HB3.out.cell (i := 1) (v := .slice AF Fl.length cF) rfl
  have l3 := HB3.out.lt
  have f3 := HY3.out.cell (i := 0) (v := .string x.p) rfl
  have g3 := HY3.out.cell (i := 1) (v := .int .i64 x.size) rfl
  have h3 := HY3.out.cell (i := 2) (v := .bool x.dead) rfl
  have m3 := HY3.out.lt
  clear x3
  clear a2 b2 l2 f2 g2 h2 m2 hv3 HUp
  go_wp2_with fail
  go_loopw [7, 8, 11] (fun s7 s8 s11 wr => s7 = .slice none 0 0 ∧ s8 = .slice none 0 0 ∧ s11 = .int .i64 0 ∧ wr = w3) (fun _ _ _ _ => 0)
  case atStart => exact ⟨rfl, rfl, rfl, rfl⟩
  case round =>
    obtain ⟨rfl, rfl, rfl, rfl⟩ := hrel
    cases dn : decide (0 < up.length) with
    | false =>
      have dn' : decide ((0 : Int) < up.length) = false := by simp at dn ⊢; omega
      go_wp2_with fail
      refine ((HAw _ X3.out).out).mono ?_
      rintro e w4 ⟨rfl, x4⟩
      have X4 := hid (X3.out.trans x4)
      have HB4 := hid (HB3.out.ext x4)
      have HY4 := hid (HY3.out.ext x4)
      have a4 := HB4.out.cell (i := 0) (v := .slice A up.length c) rfl
      have b4 := HB4.out.cell (i := 1) (v := .slice AF Fl.length cF) rfl
      have l4 := HB4.out.lt
      have f4 := HY4.out.cell (i := 0) (v := .string x.p) rfl
      have g4 := HY4.out.cell (i := 1) (v := .int .i64 x.size) rfl
      have h4 := HY4.out.cell (i := 2) (v := .bool x.dead) rfl
      have m4 := HY4.out.lt
      clear x4
      clear a3 b3 l3 f3 g3 h3 m3
      go_wp2_with fail
      refine ((HWn _ X4.out).out).mono ?_
      rintro e w5 ⟨v5, rfl, hv5, x5⟩
      have HV5 := hid hv5.sl
      have X5 := hid (X4.out.trans x5)
      have HB5 := hid (HB4.out.ext x5)
      have HY5 := hid (HY4.out.ext x5)
      have a5 := HB5.out.cell (i := 0) (v := .slice A up.length c) rfl
      have b5 := HB5.out.cell (i := 1) (v := .slice AF Fl.length cF) rfl
      have l5 := HB5.out.lt
      have f5 := HY5.out.cell (i := 0) (v := .string x.p) rfl
      have g5 := HY5.out.cell (i := 1) (v := .int .i64 x.size) rfl
      have h5 := HY5.out.cell (i := 2) (v := .bool x.dead) rfl
      have m5 := HY5.out.lt
      clear x5
      clear a4 b4 l4 f4 g4 h4 m4 hv5
      go_wp2_with fail
      refine (rints_c _ _ _ [] HV5.out (Sl.nil _ _) (by simp)).mono ?_
      rintro e w6 ⟨rfl, x6⟩
      have X6 := hid (X5.out.trans x6)
      have HB6 := hid (HB5.out.ext x6)
      have HY6 := hid (HY5.out.ext x6)
      have a6 := HB6.out.cell (i := 0) (v := .slice A up.length c) rfl
      have b6 := HB6.out.cell (i := 1) (v := .slice AF Fl.length cF) rfl
      have l6 := HB6.out.lt
      have f6 := HY6.out.cell (i := 0) (v := .string x.p) rfl
      have g6 := HY6.out.cell (i := 1) (v := .int .i64 x.size) rfl
      have h6 := HY6.out.cell (i := 2) (v := .bool x.dead) rfl
      have m6 := HY6.out.lt
      clear x6
      clear a5 b5 l5 f5 g5 h5 m5
      go_wp2_with fail
      refine ((HRe _ X6.out).out).mono ?_
      rintro e w7 ⟨v7, rfl, hv7, x7⟩
      have HV7 := hid hv7
      have X7 := hid (X6.out.trans x7)
      clear x7 a6 b6 l6 f6 g6 h6 m6 hv7
      go_wp2_with fail
      refine (rints_c _ _ _ [] HV7.out (Sl.nil _ _) (by simp)).mono ?_
      rintro e w8 ⟨rfl, x8⟩
      have X8 := hid (X7.out.trans x8)
      clear x8
      go_wp2_with fail
      go_ret
      exact ⟨rfl, X8.out⟩
    | true =>
      have dn' : decide ((0 : Int) < up.length) = true := by simp at dn ⊢; omega
      go_wp2_with fail
      refine ((HAw _ X3.out).out).mono ?_
      rintro e w4 ⟨rfl, x4⟩
      have X4 := hid (X3.out.trans x4)
      have HB4 := hid (HB3.out.ext x4)
      have HY4 := hid (HY3.out.ext x4)
      have a4 := HB4.out.cell (i := 0) (v := .slice A up.length c) rfl
      have b4 := HB4.out.cell (i := 1) (v := .slice AF Fl.length cF) rfl
      have l4 := HB4.out.lt
      have f4 := HY4.out.cell (i := 0) (v := .string x.p) rfl
      have g4 := HY4.out.cell (i := 1) (v := .int .i64 x.size) rfl
      have h4 := HY4.out.cell (i := 2) (v := .bool x.dead) rfl
      have m4 := HY4.out.lt
      clear x4
      clear a3 b3 l3 f3 g3 h3 m3
      go_wp2_with fail
      refine ((HWn _ X4.out).out).mono ?_
      rintro e w5 ⟨v5, rfl, hv5, x5⟩
      have HV5 := hid hv5.sl
      have X5 := hid (X4.out.trans x5)
      have HB5 := hid (HB4.out.ext x5)
      have HY5 := hid (HY4.out.ext x5)
      have a5 := HB5.out.cell (i := 0) (v := .slice A up.length c) rfl
      have b5 := HB5.out.cell (i := 1) (v := .slice AF Fl.length cF) rfl
      have l5 := HB5.out.lt
      have f5 := HY5.out.cell (i := 0) (v := .string x.p) rfl
      have g5 := HY5.out.cell (i := 1) (v := .int .i64 x.size) rfl
      have h5 := HY5.out.cell (i := 2) (v := .bool x.dead) rfl
      have m5 := HY5.out.lt
      clear x5
      clear a4 b4 l4 f4 g4 h4 m4 hv5
      go_wp2_with fail
      refine (rints_c _ _ _ [] HV5.out (Sl.nil _ _) (by simp)).mono ?_
      rintro e w6 ⟨rfl, x6⟩
      have X6 := hid (X5.out.trans x6)
      have HB6 := hid (HB5.out.ext x6)
      have HY6 := hid (HY5.out.ext x6)
      have a6 := HB6.out.cell (i := 0) (v := .slice A up.length c) rfl
      have b6 := HB6.out.cell (i := 1) (v := .slice AF Fl.length cF) rfl
      have l6 := HB6.out.lt
      have f6 := HY6.out.cell (i := 0) (v := .string x.p) rfl
      have g6 := HY6.out.cell (i := 1) (v := .int .i64 x.size) rfl
      have h6 := HY6.out.cell (i := 2) (v := .bool x.dead) rfl
      have m6 := HY6.out.lt
      clear x6
      clear a5 b5 l5 f5 g5 h5 m5
      go_wp2_with fail
      refine ((HRe _ X6.out).out).mono ?_
      rintro e w7 ⟨v7, rfl, hv7, x7⟩
      have HV7 := hid hv7
      have X7 := hid (X6.out.trans x7)
      clear x7 a6 b6 l6 f6 g6 h6 m6 hv7
      go_wp2_with fail
      refine (rints_c _ _ _ [] HV7.out (Sl.nil _ _) (by simp)).mono ?_
      rintro e w8 ⟨rfl, x8⟩
      have X8 := hid (X7.out.trans x8)
      clear x8
      go_wp2_with fail
      go_ret
      exact ⟨rfl, X8.out⟩
set_option maxRecDepth 100000 in
set_option maxHeartbeats 16000000 in
theorem wants_tree (w : World) (m : Int) (hm : w.cell? ⟨0, 0, none⟩ = some (.int .i64 m)) (up : List Int) (Fl : List (List ClauseI)) (A AF : Option Addr) (c cF : Nat) (f : Int) (x : FileI) (hu : Sl w 1 (.slice A up.length c) (Ints up)) (hF : FsAt w AF cF Fl) (hx : x.p.size ≤ maxLen) (hlt : lightT up Fl = true) (hsm : x.p.size ≤ 200) (e0 : checkT up Fl = 0) : Calls Tryz.prog 9 #[.agg #[.slice A up.length c, .slice AF Fl.length cF], .int .i64 f, .agg #[.string x.p, .int .i64 x.size, .bool x.dead]] w (Ret (.bool true) w) := by
  have HE0 := hid (Ext.alloc w (.cells #[.slice A up.length c, .slice AF Fl.length cF] 25))
  have HB0 := hid (Blk.new w 25 #[.slice A up.length c, .slice AF Fl.length cF])
  have HE1 := hid (HE0.out.alloc' (.cells #[.string x.p, .int .i64 x.size, .bool x.dead] 32))
  have HB1 := hid (HB0.out.alloc (.cells #[.string x.p, .int .i64 x.size, .bool x.dead] 32))
  have HY1 := hid (Blk.new (w.alloc (.cells #[.slice A up.length c, .slice AF Fl.length cF] 25)) 32 #[.string x.p, .int .i64 x.size, .bool x.dead])
  rw [World.size_alloc] at HY1
  have HAw := fun W (hW : Ext w W) => hid (awake39_c W m (hW.cell hm))
  have HLt := fun W (hW : Ext w W) => hid (light28_c W up Fl A AF c cF (hu.ext hW) (hF.ext hW))
  have hx9 : x.p.size ≤ 1000 := by omega
  have d0 : decide (200 < x.p.size) = false := decide_eq_false (by omega)
  have d0' : decide ((200 : Int) < x.p.size) = false := decide_eq_false (by omega)
  have ht : TreeAt w up Fl A AF c cF := lightT_tree hlt m hm hu hF
  rw [hlt] at HLt
  have HCk := fun W (hW : Ext w W) => hid (rcheck28_c W up Fl A AF c cF (ht.u.ext hW) ht.l (ht.f.ext hW) ht.L)
  have HUp := fun W (hW : Ext w W) => hid (rup39_c W (.slice A up.length c) up f (ht.u.ext hW) ht.l)
  have HWn := fun W (hW : Ext w W) => hid (wants39_c W up Fl A AF c cF x (ht.ext hW) hx9)
  have HRe := fun W (hW : Ext w W) => hid (reach39_c W up Fl A AF c cF f x (ht.ext hW) hx9)
  obtain ⟨h1, h2⟩ := ht.cap
  have hl := ht.l
  obtain ⟨p1, p2⟩ := ht.f.cap
  unfold maxLen at h2 p2
  clear hx
  have hFl := check_len e0
  have HF := hid hF
  have HU := hid hu
  have HL := hid ht.L
  have hx8 : x.p.size ≤ 1000 := hx9
  have ew : wantT up Fl x = rowK up (wantB Fl x) up.length := (rowK_all _ e0).symm
  have er : reachT up Fl f x = rowK up (reachB up Fl f x) up.length := (rowK_all _ e0).symm
  rw [ew] at HWn
  rw [er] at HRe
  rw [refUp_upL (check_zero e0).2.1] at HUp
  have hLu := upL_le up f
  have HIn := hid (fun k (h : k < up.length) h0 => up_in e0 h h0)
  have HMu := hid (fun k (h : k < up.length) (hkF : k < Fl.length) (h1 : Fl[k].any (hitB x) = true) j hz hj => wants_up e0 h hkF h1 (j := j) hz hj)
  have HPw := hid (fun k (h : k < Fl.length) => wantB_at (Fl := Fl) (x := x) h)
  have HPr : Hid (∀ r, reachB up Fl f x r = (decide (0 < (upL up f).length) && (wantB Fl x r || decide (r ∈ upL up f)))) := fun r => by unfold reachB; rw [upT_yes e0]
  have HMt := fun W v (q : List ClauseI) (hS : Sl W 3 v (q.map ClauseI.cells)) (hf : LightF q) => hid (rmatch09_c W v q x hS hx8 hf)
  unfold FileI.val at HMt
  rw [e0] at HCk
  have hFl9 := hid hFl
  have HRl : ∀ (P : Int → Bool) k, k ≤ up.length → (rowK up P k).length ≤ 1000 := fun P k hk => Nat.le_trans (rowK_len _ _ _) (by omega)
  have HRs : ∀ (P : Int → Bool) k, k < up.length → rowK up P (k + 1) = rowK up P k ++ (if P ((k : Int) + 1) then [(k : Int) + 1] else []) := fun P k hk => rowK_step hk
  have HR0 : ∀ (P : Int → Bool), rowK up P 0 = [] := fun P => rfl
  clear hm hu hF hlt ht e0 ew er hsm hx9 hFl
  generalize reachB up Fl f x = pr at HRe HPr
  generalize wantB Fl x = pw at HWn HPw HPr
  have HRlw := hid (HRl pw)
  have HRlr := hid (HRl pr)
  have HRsw := hid (HRs pw)
  have HRsr := hid (HRs pr)
  have HR0w := hid (HR0 pw)
  have HR0r := hid (HR0 pr)
  clear HRl HRs HR0
  generalize rowK up pw = Rw at HWn HRlw HRsw HR0w
  generalize rowK up pr = Rr at HRe HRlr HRsr HR0r
  generalize upL up f = U at HUp hLu HPr
  have h1s := h1
  have h2s := h2
  clear h1 h2
  go_enter Tryz.func9, Tryz.ntmps9
  go_wp2_with fail
  generalize (w.alloc (.cells #[.slice A up.length c, .slice AF Fl.length cF] 25)).alloc (.cells #[.string x.p, .int .i64 x.size, .bool x.dead] 32) = w0 at HE1 HB1 HY1 ⊢
  generalize w.heap.size = g at HB1 HY1 ⊢
  have X0 := hid HE1.out
  have HB0 := hid HB1.out
  have HY0 := hid HY1.out
  have a0 := HB0.out.cell (i := 0) (v := .slice A up.length c) rfl
  have b0 := HB0.out.cell (i := 1) (v := .slice AF Fl.length cF) rfl
  have l0 := HB0.out.lt
  have f0 := HY0.out.cell (i := 0) (v := .string x.p) rfl
  have m0 := HY0.out.lt
  clear HB1 HY1 HE1
  refine ((HLt _ X0.out).out).mono ?_
  rintro e w1 ⟨rfl, x1⟩
  have X1 := hid (X0.out.trans x1)
  have HB1 := hid (HB0.out.ext x1)
  have HY1 := hid (HY0.out.ext x1)
  have a1 := HB1.out.cell (i := 0) (v := .slice A up.length c) rfl
  have b1 := HB1.out.cell (i := 1) (v := .slice AF Fl.length cF) rfl
  have l1 := HB1.out.lt
  have f1 := HY1.out.cell (i := 0) (v := .string x.p) rfl
  have g1 := HY1.out.cell (i := 1) (v := .int .i64 x.size) rfl
  have h1 := HY1.out.cell (i := 2) (v := .bool x.dead) rfl
  have m1 := HY1.out.lt
  clear x1
  clear HLt
  clear a0 b0 l0 f0 m0
  go_wp2_with fail
  refine ((HCk _ X1.out).out).mono ?_
  rintro e w2 ⟨rfl, x2⟩
  have X2 := hid (X1.out.trans x2)
  have HB2 := hid (HB1.out.ext x2)
  have HY2 := hid (HY1.out.ext x2)
  have a2 := HB2.out.cell (i := 0) (v := .slice A up.length c) rfl
  have b2 := HB2.out.cell (i := 1) (v := .slice AF Fl.length cF) rfl
  have l2 := HB2.out.lt
  have f2 := HY2.out.cell (i := 0) (v := .string x.p) rfl
  have g2 := HY2.out.cell (i := 1) (v := .int .i64 x.size) rfl
  have h2 := HY2.out.cell (i := 2) (v := .bool x.dead) rfl
  have m2 := HY2.out.lt
  clear x2
  clear HCk
  clear a1 b1 l1 f1 g1 h1 m1
  go_wp2_with fail
  refine ((HUp _ X2.out).out).mono ?_
  rintro e w3 ⟨v3, rfl, hv3, x3⟩
  have HV3 := hid hv3.sl
  obtain ⟨A3, c3, rfl, q1, q2, _⟩ := sl_get (code := intC) hv3.sl
  unfold maxLen at q2
  have X3 := hid (X2.out.trans x3)
  have HB3 := hid (HB2.out.ext x3)
  have HY3 := hid (HY2.out.ext x3)
  have a3 := HB3.out.cell (i := 0) (v := .slice A up.length c) rfl
  have b3 := HB3.out.cell (i := 1) (v := .slice AF Fl.length cF) rfl
  have l3 := HB3.out.lt
  have f3 := HY3.out.cell (i := 0) (v := .string x.p) rfl
  have g3 := HY3.out.cell (i := 1) (v := .int .i64 x.size) rfl
  have h3 := HY3.out.cell (i := 2) (v := .bool x.dead) rfl
  have m3 := HY3.out.lt
  clear x3
  clear a2 b2 l2 f2 g2 h2 m2 hv3 HUp
  go_wp2_with fail
  have HHs := fun W (hW : Ext w3 W) z => hid (rhas_c W _ U z (HV3.out.ext hW))
  go_loopw [7, 8, 11] (fun s7 s8 s11 wr => ∃ (k : Nat) (o7 o8 : Value), k ≤ up.length ∧ s11 = .int .i64 k ∧ o7 = s7 ∧ o8 = s8 ∧ TwoZ w3 wr o7 o8 (Rw k) (Rr k)) (fun _ _ s11 _ => up.length - (intOf s11).toNat)
  case atStart => exact ⟨0, _, _, by omega, rfl, rfl, rfl, by rw [HR0w.out, HR0r.out]; exact TwoZ.nil _⟩
  case round =>
    obtain ⟨k, v7, v8, hk, rfl, rfl, rfl, hT⟩ := hrel
    have HT := hid hT
    have hE := hT.later
    have XR := hid (X3.out.trans hE)
    have HBR := hid (HB3.out.ext hE)
    have HYR := hid (HY3.out.ext hE)
    have aR := HBR.out.cell (i := 0) (v := .slice A up.length c) rfl
    have bR := HBR.out.cell (i := 1) (v := .slice AF Fl.length cF) rfl
    have lR := HBR.out.lt
    have fR := HYR.out.cell (i := 0) (v := .string x.p) rfl
    have gR := HYR.out.cell (i := 1) (v := .int .i64 x.size) rfl
    have hR := HYR.out.cell (i := 2) (v := .bool x.dead) rfl
    have mR := HYR.out.lt
    clear a3 b3 l3 f3 g3 h3 m3
    by_cases hlt : k < up.length
    · have dk : decide (k < up.length) = true := decide_eq_true hlt
      have hkF : k < Fl.length := by have := hFl9.out; omega
      have HSw := hid (HRsw.out k hlt)
      have HSr := hid (HRsr.out k hlt)
      have hlw := HRlw.out k hk
      have hlr := HRlr.out k hk
      have hpr := HPr.out ((k : Int) + 1)
      have hpw := HPw.out k hkF
      rw [hpw] at hpr
      rw [hpw] at HSw
      rw [hpr] at HSr
      have hFn : Fl.length ≤ 1000 := by have := hFl9.out; omega
      obtain ⟨A', c', hv, s1, s2, s3⟩ := HU.out
      injection hv with hA hn hc
      subst hA hc
      simp only [Ints, List.length_map] at s1 s3
      obtain ⟨bU, oU, rfl, lU, hcU⟩ := s3 (by omega)
      have HcU := hid (hcU k [.int .i64 up[k]] 0 (.int .i64 up[k]) (by simp [hlt]) rfl)
      have HF9 := hid (fun i (hi : i < Fl.length) => HF.out.at hi)
      obtain ⟨bF, oF, A2, c2, rfl, lF, cF0, hs⟩ := HF.out.at hkF
      have HA1 := fun W (hW : Ext w3 W) => hid (rat_c W bF oF Fl.length cF k _ hkF hFn (Nat.lt_of_lt_of_le lF (X3.out.trans hW).size) ((X3.out.trans hW).cell cF0))
      have HM1 := fun W (hW : Ext w3 W) => HMt W _ _ (hs.ext (X3.out.trans hW)) (HL.out _ (List.getElem_mem hkF)).1
      have HHx := fun W (hW : Ext w3 W) => HHs W hW ((k : Int) + 1)
      obtain ⟨hl2, hm2⟩ := show Fl[k].length ≤ c2 ∧ c2 ≤ maxLen by
        obtain ⟨A', c', hv, h2, h3, _⟩ := sl_get hs
        injection hv with hA hn hc
        subst hc
        exact ⟨h2, h3⟩
      unfold maxLen at hm2
      have HZ : Hid (up[k] ≠ 0 → ∃ (j : Nat) (A5 : Option Addr) (n5 c5 : Nat), up[k] = (j : Int) + 1 ∧ j < Fl.length ∧ n5 ≤ c5 ∧ c5 ≤ maxLen ∧ (∀ W, Ext w3 W → Hid (Calls Tryz.prog 38 #[.slice (some ⟨bF, oF, none⟩) Fl.length cF, .int .i64 j] W (Ret (.slice A5 n5 c5) W))) ∧ (Fl[k].any (hitB x) = true → ∀ W, Ext w3 W → Hid (Calls Tryz.prog 18 #[.slice A5 n5 c5, .agg #[.string x.p, .int .i64 x.size, .bool x.dead]] W (Ret (.bool true) W)))) := fun h0 => by
        obtain ⟨i1, i2⟩ := HIn.out k hlt h0
        obtain ⟨j, hj⟩ : ∃ j : Nat, up[k] = (j : Int) + 1 := ⟨(up[k] - 1).toNat, by omega⟩
        have hjF : j < Fl.length := by have := hFl9.out; omega
        obtain ⟨b5, o5, A5, c5, he, l5, k5, hs5⟩ := HF9.out j hjF
        injection he with he
        injection he with e1 e2
        subst e1 e2
        obtain ⟨A6, c6, hv6, n1, n2, _⟩ := sl_get hs5
        injection hv6 with _ _ hc6
        subst hc6
        refine ⟨j, A5, Fl[j].length, c5, hj, hjF, n1, n2, fun W hW => hid (rat_c W bF oF Fl.length cF j _ hjF hFn (Nat.lt_of_lt_of_le lF (X3.out.trans hW).size) ((X3.out.trans hW).cell k5)), fun hh W hW => ?_⟩
        have := HMt W _ _ (hs5.ext (X3.out.trans hW)) (HL.out _ (List.getElem_mem hjF)).1
        rw [HMu.out k hlt hkF hh j hj hjF] at this
        exact this
      clear hcU s3 s1 s2 hn hpr hpw hs cF0 HIn HMu HPw HPr HRlw HRlr HRsw HRsr HR0w HR0r HF9 HL HMt HAw HWn HRe hT HU HHs
      generalize up[k] = z at HZ HcU
      generalize Fl[k].any (hitB x) = is at HM1 HSw HSr HZ
      generalize Fl[k] = fl at HM1 hl2 HA1
      generalize Rw k = rw at HSw hlw HT
      generalize Rr k = rr at HSr hlr HT
      generalize decide ((k : Int) + 1 ∈ U) = hs at HHx HSr
      cases du : decide (0 < U.length) with
      | false =>
        have du' : decide ((0 : Int) < U.length) = false := decide_eq_false (by have := of_decide_eq_false du; omega)
        cases is with
        | false =>
          have q9 := HSw.out; rw [if_neg (by simp), List.append_nil] at q9; have HSw := hid q9; clear q9
          have q9 := HSr.out; rw [if_neg (by rw [du]; simp), List.append_nil] at q9; have HSr := hid q9; clear q9
          clear HZ
          go_wp2_with fail
          refine wp_region_any_order (by kernel_rfl) (by kernel_rfl) (by kernel_rfl) ?_
          repeat (first
            | (refine AWq.val rfl rfl rfl rfl (fun K hK => ?_); go_big_quiet_op; refine hK _ ?_; clear hK K)
            | (refine AWq.skip rfl rfl rfl ?_; simp only [Act.put, List.setIfInBounds_toArray, List.set_cons_succ, List.set_cons_zero])
            | (refine AWq.call rfl Tryz.func38 (by kernel_rfl) (by kernel_rfl) rfl rfl rfl ?_; apply Exists.intro; refine And.intro (fun wc hc => ?_) ?_; (· (simp only [argsOf, anyAt, ↓reduceIte, Nat.reduceEqDiff, Array.getD_eq_getD_getElem?, List.getElem?_toArray, List.getElem?_cons_succ, List.getElem?_cons_zero, Option.getD_some]; with_reducible exact (HA1 _ (HT.out.later.trans hc)).out)); simp only [Act.put, List.setIfInBounds_toArray, List.set_cons_succ, List.set_cons_zero])
            | (refine AWq.call rfl Tryz.func18 (by kernel_rfl) (by kernel_rfl) rfl rfl rfl ?_; apply Exists.intro; refine And.intro (fun wc hc => ?_) ?_; (· (simp only [argsOf, anyAt, ↓reduceIte, Nat.reduceEqDiff, Array.getD_eq_getD_getElem?, List.getElem?_toArray, List.getElem?_cons_succ, List.getElem?_cons_zero, Option.getD_some]; with_reducible exact (HM1 _ (HT.out.later.trans hc)).out)); simp only [Act.put, List.setIfInBounds_toArray, List.set_cons_succ, List.set_cons_zero]))
          refine AWq.done rfl rfl rfl (fun w5 x5 => ?_)
          simp only [closeAny, Act.put, List.setIfInBounds_toArray, List.set_cons_succ, List.set_cons_zero]
          have HT5 := hid (HT.out.ext x5)
          have aB5 := (HB3.out.ext HT5.out.later).cell (i := 0) (v := .slice (some ⟨bU, oU, none⟩) up.length c) rfl
          have bB5 := (HB3.out.ext HT5.out.later).cell (i := 1) (v := .slice (some ⟨bF, oF, none⟩) Fl.length cF) rfl
          have lB5 := (HB3.out.ext HT5.out.later).lt
          have fB5 := (HY3.out.ext HT5.out.later).cell (i := 0) (v := .string x.p) rfl
          have gB5 := (HY3.out.ext HT5.out.later).cell (i := 1) (v := .int .i64 x.size) rfl
          have hB5 := (HY3.out.ext HT5.out.later).cell (i := 2) (v := .bool x.dead) rfl
          have mB5 := (HY3.out.ext HT5.out.later).lt
          have uB5 := (X3.out.trans HT5.out.later).cell HcU.out
          simp only [Nat.mul_one, Nat.add_zero] at uB5
          have vB5 := Nat.lt_of_lt_of_le lU (X3.out.trans HT5.out.later).size
          clear x5 aR bR lR fR gR hR mR HA1 HM1 HT
          go_wp2_with fail
          refine wp_region_any_order (by kernel_rfl) (by kernel_rfl) (by kernel_rfl) ?_
          repeat (first
            | (refine AWq.val rfl rfl rfl rfl (fun K hK => ?_); go_big_quiet_op; refine hK _ ?_; clear hK K)
            | (refine AWq.skip rfl rfl rfl ?_; simp only [Act.put, List.setIfInBounds_toArray, List.set_cons_succ, List.set_cons_zero]))
          refine AWq.done rfl rfl rfl (fun w8 x8 => ?_)
          simp only [closeAny, Act.put, List.setIfInBounds_toArray, List.set_cons_succ, List.set_cons_zero]
          have HT8 := hid (HT5.out.ext x8)
          clear x8
          clear aB5 bB5 lB5 fB5 gB5 hB5 mB5 uB5 vB5
          go_wp2_with fail
          go_roundw
          case rel => exact ⟨k + 1, _, _, by omega, by go_num, rfl, rfl, by rw [HSw.out, HSr.out]; exact HT8.out⟩
          case measure => simp [intOf]; omega
        | true =>
          have q9 := HSw.out; rw [if_pos rfl] at q9; have HSw := hid q9; clear q9
          have q9 := HSr.out; rw [if_neg (by rw [du]; simp), List.append_nil] at q9; have HSr := hid q9; clear q9
          by_cases hz : z = 0
          · subst hz
            clear HZ
            go_wp2_with fail
            refine wp_region_any_order (by kernel_rfl) (by kernel_rfl) (by kernel_rfl) ?_
            repeat (first
              | (refine AWq.val rfl rfl rfl rfl (fun K hK => ?_); go_big_quiet_op; refine hK _ ?_; clear hK K)
              | (refine AWq.skip rfl rfl rfl ?_; simp only [Act.put, List.setIfInBounds_toArray, List.set_cons_succ, List.set_cons_zero])
              | (refine AWq.call rfl Tryz.func38 (by kernel_rfl) (by kernel_rfl) rfl rfl rfl ?_; apply Exists.intro; refine And.intro (fun wc hc => ?_) ?_; (· (simp only [argsOf, anyAt, ↓reduceIte, Nat.reduceEqDiff, Array.getD_eq_getD_getElem?, List.getElem?_toArray, List.getElem?_cons_succ, List.getElem?_cons_zero, Option.getD_some]; with_reducible exact (HA1 _ (HT.out.later.trans hc)).out)); simp only [Act.put, List.setIfInBounds_toArray, List.set_cons_succ, List.set_cons_zero])
              | (refine AWq.call rfl Tryz.func18 (by kernel_rfl) (by kernel_rfl) rfl rfl rfl ?_; apply Exists.intro; refine And.intro (fun wc hc => ?_) ?_; (· (simp only [argsOf, anyAt, ↓reduceIte, Nat.reduceEqDiff, Array.getD_eq_getD_getElem?, List.getElem?_toArray, List.getElem?_cons_succ, List.getElem?_cons_zero, Option.getD_some]; with_reducible exact (HM1 _ (HT.out.later.trans hc)).out)); simp only [Act.put, List.setIfInBounds_toArray, List.set_cons_succ, List.set_cons_zero]))
            refine AWq.done rfl rfl rfl (fun w5 x5 => ?_)
            simp only [closeAny, Act.put, List.setIfInBounds_toArray, List.set_cons_succ, List.set_cons_zero]
            have HT5 := hid (HT.out.ext x5)
            have aB5 := (HB3.out.ext HT5.out.later).cell (i := 0) (v := .slice (some ⟨bU, oU, none⟩) up.length c) rfl
            have bB5 := (HB3.out.ext HT5.out.later).cell (i := 1) (v := .slice (some ⟨bF, oF, none⟩) Fl.length cF) rfl
            have lB5 := (HB3.out.ext HT5.out.later).lt
            have fB5 := (HY3.out.ext HT5.out.later).cell (i := 0) (v := .string x.p) rfl
            have gB5 := (HY3.out.ext HT5.out.later).cell (i := 1) (v := .int .i64 x.size) rfl
            have hB5 := (HY3.out.ext HT5.out.later).cell (i := 2) (v := .bool x.dead) rfl
            have mB5 := (HY3.out.ext HT5.out.later).lt
            have uB5 := (X3.out.trans HT5.out.later).cell HcU.out
            simp only [Nat.mul_one, Nat.add_zero] at uB5
            have vB5 := Nat.lt_of_lt_of_le lU (X3.out.trans HT5.out.later).size
            clear x5 aR bR lR fR gR hR mR HA1 HM1 HT
            obtain ⟨v6, w6, hrun6, hT6⟩ := HT5.out.push ((k : Int) + 1) (by omega)
            have HT6 := hid hT6
            clear hT6
            have aB6 := (HB3.out.ext HT6.out.later).cell (i := 0) (v := .slice (some ⟨bU, oU, none⟩) up.length c) rfl
            have bB6 := (HB3.out.ext HT6.out.later).cell (i := 1) (v := .slice (some ⟨bF, oF, none⟩) Fl.length cF) rfl
            have lB6 := (HB3.out.ext HT6.out.later).lt
            have fB6 := (HY3.out.ext HT6.out.later).cell (i := 0) (v := .string x.p) rfl
            have gB6 := (HY3.out.ext HT6.out.later).cell (i := 1) (v := .int .i64 x.size) rfl
            have hB6 := (HY3.out.ext HT6.out.later).cell (i := 2) (v := .bool x.dead) rfl
            have mB6 := (HY3.out.ext HT6.out.later).lt
            have uB6 := (X3.out.trans HT6.out.later).cell HcU.out
            simp only [Nat.mul_one, Nat.add_zero] at uB6
            have vB6 := Nat.lt_of_lt_of_le lU (X3.out.trans HT6.out.later).size
            clear aB5 bB5 lB5 fB5 gB5 hB5 mB5 uB5 vB5
            go_wp2_with (at_builtin; refine wpList_app rfl (.tmp 47) (.tmp 50) _ _ rfl rfl rfl hrun6 ?_)
            refine wp_region_any_order (by kernel_rfl) (by kernel_rfl) (by kernel_rfl) ?_
            repeat (first
              | (refine AWq.val rfl rfl rfl rfl (fun K hK => ?_); go_big_quiet_op; refine hK _ ?_; clear hK K)
              | (refine AWq.skip rfl rfl rfl ?_; simp only [Act.put, List.setIfInBounds_toArray, List.set_cons_succ, List.set_cons_zero]))
            refine AWq.done rfl rfl rfl (fun w8 x8 => ?_)
            simp only [closeAny, Act.put, List.setIfInBounds_toArray, List.set_cons_succ, List.set_cons_zero]
            have HT8 := hid (HT6.out.ext x8)
            clear x8
            clear aB6 bB6 lB6 fB6 gB6 hB6 mB6 uB6 vB6
            go_wp2_with fail
            go_roundw
            case rel => exact ⟨k + 1, _, _, by omega, by go_num, rfl, rfl, by rw [HSw.out, HSr.out]; exact HT8.out⟩
            case measure => simp [intOf]; omega
          · obtain ⟨j, A5, n5, c5, rfl, hjF, n1, n2, HA2, HM0⟩ := HZ.out hz
            have HM2 := fun W hW => HM0 rfl W hW
            clear HM0
            unfold maxLen at n2
            have dz : ((j : Int) + 1 != 0) = true := by simp; omega
            clear hz
            clear HZ
            go_wp2_with fail
            refine wp_region_any_order (by kernel_rfl) (by kernel_rfl) (by kernel_rfl) ?_
            repeat (first
              | (refine AWq.val rfl rfl rfl rfl (fun K hK => ?_); go_big_quiet_op; refine hK _ ?_; clear hK K)
              | (refine AWq.skip rfl rfl rfl ?_; simp only [Act.put, List.setIfInBounds_toArray, List.set_cons_succ, List.set_cons_zero])
              | (refine AWq.call rfl Tryz.func38 (by kernel_rfl) (by kernel_rfl) rfl rfl rfl ?_; apply Exists.intro; refine And.intro (fun wc hc => ?_) ?_; (· (simp only [argsOf, anyAt, ↓reduceIte, Nat.reduceEqDiff, Array.getD_eq_getD_getElem?, List.getElem?_toArray, List.getElem?_cons_succ, List.getElem?_cons_zero, Option.getD_some]; with_reducible exact (HA1 _ (HT.out.later.trans hc)).out)); simp only [Act.put, List.setIfInBounds_toArray, List.set_cons_succ, List.set_cons_zero])
              | (refine AWq.call rfl Tryz.func18 (by kernel_rfl) (by kernel_rfl) rfl rfl rfl ?_; apply Exists.intro; refine And.intro (fun wc hc => ?_) ?_; (· (simp only [argsOf, anyAt, ↓reduceIte, Nat.reduceEqDiff, Array.getD_eq_getD_getElem?, List.getElem?_toArray, List.getElem?_cons_succ, List.getElem?_cons_zero, Option.getD_some]; with_reducible exact (HM1 _ (HT.out.later.trans hc)).out)); simp only [Act.put, List.setIfInBounds_toArray, List.set_cons_succ, List.set_cons_zero]))
            refine AWq.done rfl rfl rfl (fun w5 x5 => ?_)
            simp only [closeAny, Act.put, List.setIfInBounds_toArray, List.set_cons_succ, List.set_cons_zero]
            have HT5 := hid (HT.out.ext x5)
            have aB5 := (HB3.out.ext HT5.out.later).cell (i := 0) (v := .slice (some ⟨bU, oU, none⟩) up.length c) rfl
            have bB5 := (HB3.out.ext HT5.out.later).cell (i := 1) (v := .slice (some ⟨bF, oF, none⟩) Fl.length cF) rfl
            have lB5 := (HB3.out.ext HT5.out.later).lt
            have fB5 := (HY3.out.ext HT5.out.later).cell (i := 0) (v := .string x.p) rfl
            have gB5 := (HY3.out.ext HT5.out.later).cell (i := 1) (v := .int .i64 x.size) rfl
            have hB5 := (HY3.out.ext HT5.out.later).cell (i := 2) (v := .bool x.dead) rfl
            have mB5 := (HY3.out.ext HT5.out.later).lt
            have uB5 := (X3.out.trans HT5.out.later).cell HcU.out
            simp only [Nat.mul_one, Nat.add_zero] at uB5
            have vB5 := Nat.lt_of_lt_of_le lU (X3.out.trans HT5.out.later).size
            clear x5 aR bR lR fR gR hR mR HA1 HM1 HT
            obtain ⟨v6, w6, hrun6, hT6⟩ := HT5.out.push ((k : Int) + 1) (by omega)
            have HT6 := hid hT6
            clear hT6
            have aB6 := (HB3.out.ext HT6.out.later).cell (i := 0) (v := .slice (some ⟨bU, oU, none⟩) up.length c) rfl
            have bB6 := (HB3.out.ext HT6.out.later).cell (i := 1) (v := .slice (some ⟨bF, oF, none⟩) Fl.length cF) rfl
            have lB6 := (HB3.out.ext HT6.out.later).lt
            have fB6 := (HY3.out.ext HT6.out.later).cell (i := 0) (v := .string x.p) rfl
            have gB6 := (HY3.out.ext HT6.out.later).cell (i := 1) (v := .int .i64 x.size) rfl
            have hB6 := (HY3.out.ext HT6.out.later).cell (i := 2) (v := .bool x.dead) rfl
            have mB6 := (HY3.out.ext HT6.out.later).lt
            have uB6 := (X3.out.trans HT6.out.later).cell HcU.out
            simp only [Nat.mul_one, Nat.add_zero] at uB6
            have vB6 := Nat.lt_of_lt_of_le lU (X3.out.trans HT6.out.later).size
            clear aB5 bB5 lB5 fB5 gB5 hB5 mB5 uB5 vB5
            go_wp2_with (at_builtin; refine wpList_app rfl (.tmp 47) (.tmp 50) _ _ rfl rfl rfl hrun6 ?_)
            refine wp_region_any_order (by kernel_rfl) (by kernel_rfl) (by kernel_rfl) ?_
            repeat (first
              | (refine AWq.val rfl rfl rfl rfl (fun K hK => ?_); go_big_quiet_op; refine hK _ ?_; clear hK K)
              | (refine AWq.skip rfl rfl rfl ?_; simp only [Act.put, List.setIfInBounds_toArray, List.set_cons_succ, List.set_cons_zero])
              | (refine AWq.call rfl Tryz.func38 (by kernel_rfl) (by kernel_rfl) rfl rfl rfl ?_; apply Exists.intro; refine And.intro (fun wc hc => ?_) ?_; (· (simp only [argsOf, anyAt, ↓reduceIte, Nat.reduceEqDiff, Array.getD_eq_getD_getElem?, List.getElem?_toArray, List.getElem?_cons_succ, List.getElem?_cons_zero, Option.getD_some]; with_reducible exact (HA2 _ (HT6.out.later.trans hc)).out)); simp only [Act.put, List.setIfInBounds_toArray, List.set_cons_succ, List.set_cons_zero])
              | (refine AWq.call rfl Tryz.func18 (by kernel_rfl) (by kernel_rfl) rfl rfl rfl ?_; apply Exists.intro; refine And.intro (fun wc hc => ?_) ?_; (· (simp only [argsOf, anyAt, ↓reduceIte, Nat.reduceEqDiff, Array.getD_eq_getD_getElem?, List.getElem?_toArray, List.getElem?_cons_succ, List.getElem?_cons_zero, Option.getD_some]; with_reducible exact (HM2 _ (HT6.out.later.trans hc)).out)); simp only [Act.put, List.setIfInBounds_toArray, List.set_cons_succ, List.set_cons_zero]))
            refine AWq.done rfl rfl rfl (fun w8 x8 => ?_)
            simp only [closeAny, Act.put, List.setIfInBounds_toArray, List.set_cons_succ, List.set_cons_zero]
            have HT8 := hid (HT6.out.ext x8)
            clear x8
            clear aB6 bB6 lB6 fB6 gB6 hB6 mB6 uB6 vB6
            go_wp2_with fail
            go_roundw
            case rel => exact ⟨k + 1, _, _, by omega, by go_num, rfl, rfl, by rw [HSw.out, HSr.out]; exact HT8.out⟩
            case measure => simp [intOf]; omega
      | true =>
        have du' : decide ((0 : Int) < U.length) = true := decide_eq_true (by have := of_decide_eq_true du; omega)
        cases is with
        | false =>
          cases hs with
          | false =>
            have q9 := HSw.out; rw [if_neg (by simp), List.append_nil] at q9; have HSw := hid q9; clear q9
            have q9 := HSr.out; rw [if_neg (by rw [du]; simp), List.append_nil] at q9; have HSr := hid q9; clear q9
            clear HZ
            go_wp2_with fail
            refine wp_region_any_order (by kernel_rfl) (by kernel_rfl) (by kernel_rfl) ?_
            repeat (first
              | (refine AWq.val rfl rfl rfl rfl (fun K hK => ?_); go_big_quiet_op; refine hK _ ?_; clear hK K)
              | (refine AWq.skip rfl rfl rfl ?_; simp only [Act.put, List.setIfInBounds_toArray, List.set_cons_succ, List.set_cons_zero])
              | (refine AWq.call rfl Tryz.func38 (by kernel_rfl) (by kernel_rfl) rfl rfl rfl ?_; apply Exists.intro; refine And.intro (fun wc hc => ?_) ?_; (· (simp only [argsOf, anyAt, ↓reduceIte, Nat.reduceEqDiff, Array.getD_eq_getD_getElem?, List.getElem?_toArray, List.getElem?_cons_succ, List.getElem?_cons_zero, Option.getD_some]; with_reducible exact (HA1 _ (HT.out.later.trans hc)).out)); simp only [Act.put, List.setIfInBounds_toArray, List.set_cons_succ, List.set_cons_zero])
              | (refine AWq.call rfl Tryz.func18 (by kernel_rfl) (by kernel_rfl) rfl rfl rfl ?_; apply Exists.intro; refine And.intro (fun wc hc => ?_) ?_; (· (simp only [argsOf, anyAt, ↓reduceIte, Nat.reduceEqDiff, Array.getD_eq_getD_getElem?, List.getElem?_toArray, List.getElem?_cons_succ, List.getElem?_cons_zero, Option.getD_some]; with_reducible exact (HM1 _ (HT.out.later.trans hc)).out)); simp only [Act.put, List.setIfInBounds_toArray, List.set_cons_succ, List.set_cons_zero]))
            refine AWq.done rfl rfl rfl (fun w5 x5 => ?_)
            simp only [closeAny, Act.put, List.setIfInBounds_toArray, List.set_cons_succ, List.set_cons_zero]
            have HT5 := hid (HT.out.ext x5)
            have aB5 := (HB3.out.ext HT5.out.later).cell (i := 0) (v := .slice (some ⟨bU, oU, none⟩) up.length c) rfl
            have bB5 := (HB3.out.ext HT5.out.later).cell (i := 1) (v := .slice (some ⟨bF, oF, none⟩) Fl.length cF) rfl
            have lB5 := (HB3.out.ext HT5.out.later).lt
            have fB5 := (HY3.out.ext HT5.out.later).cell (i := 0) (v := .string x.p) rfl
            have gB5 := (HY3.out.ext HT5.out.later).cell (i := 1) (v := .int .i64 x.size) rfl
            have hB5 := (HY3.out.ext HT5.out.later).cell (i := 2) (v := .bool x.dead) rfl
            have mB5 := (HY3.out.ext HT5.out.later).lt
            have uB5 := (X3.out.trans HT5.out.later).cell HcU.out
            simp only [Nat.mul_one, Nat.add_zero] at uB5
            have vB5 := Nat.lt_of_lt_of_le lU (X3.out.trans HT5.out.later).size
            clear x5 aR bR lR fR gR hR mR HA1 HM1 HT
            go_wp2_with fail
            refine ((HHx _ HT5.out.later).out).mono ?_
            rintro e w6 ⟨rfl, x6⟩
            have HT6 := hid (HT5.out.ext x6)
            clear x6 HHx
            clear aB5 bB5 lB5 fB5 gB5 hB5 mB5 uB5 vB5
            have aB6 := (HB3.out.ext HT6.out.later).cell (i := 0) (v := .slice (some ⟨bU, oU, none⟩) up.length c) rfl
            have bB6 := (HB3.out.ext HT6.out.later).cell (i := 1) (v := .slice (some ⟨bF, oF, none⟩) Fl.length cF) rfl
            have lB6 := (HB3.out.ext HT6.out.later).lt
            have fB6 := (HY3.out.ext HT6.out.later).cell (i := 0) (v := .string x.p) rfl
            have gB6 := (HY3.out.ext HT6.out.later).cell (i := 1) (v := .int .i64 x.size) rfl
            have hB6 := (HY3.out.ext HT6.out.later).cell (i := 2) (v := .bool x.dead) rfl
            have mB6 := (HY3.out.ext HT6.out.later).lt
            have uB6 := (X3.out.trans HT6.out.later).cell HcU.out
            simp only [Nat.mul_one, Nat.add_zero] at uB6
            have vB6 := Nat.lt_of_lt_of_le lU (X3.out.trans HT6.out.later).size
            go_wp2_with fail
            refine wp_region_any_order (by kernel_rfl) (by kernel_rfl) (by kernel_rfl) ?_
            repeat (first
              | (refine AWq.val rfl rfl rfl rfl (fun K hK => ?_); go_big_quiet_op; refine hK _ ?_; clear hK K)
              | (refine AWq.skip rfl rfl rfl ?_; simp only [Act.put, List.setIfInBounds_toArray, List.set_cons_succ, List.set_cons_zero]))
            refine AWq.done rfl rfl rfl (fun w8 x8 => ?_)
            simp only [closeAny, Act.put, List.setIfInBounds_toArray, List.set_cons_succ, List.set_cons_zero]
            have HT8 := hid (HT6.out.ext x8)
            clear x8
            clear aB6 bB6 lB6 fB6 gB6 hB6 mB6 uB6 vB6
            go_wp2_with fail
            go_roundw
            case rel => exact ⟨k + 1, _, _, by omega, by go_num, rfl, rfl, by rw [HSw.out, HSr.out]; exact HT8.out⟩
            case measure => simp [intOf]; omega
          | true =>
            have q9 := HSw.out; rw [if_neg (by simp), List.append_nil] at q9; have HSw := hid q9; clear q9
            have q9 := HSr.out; rw [if_pos (by rw [du]; rfl)] at q9; have HSr := hid q9; clear q9
            clear HZ
            go_wp2_with fail
            refine wp_region_any_order (by kernel_rfl) (by kernel_rfl) (by kernel_rfl) ?_
            repeat (first
              | (refine AWq.val rfl rfl rfl rfl (fun K hK => ?_); go_big_quiet_op; refine hK _ ?_; clear hK K)
              | (refine AWq.skip rfl rfl rfl ?_; simp only [Act.put, List.setIfInBounds_toArray, List.set_cons_succ, List.set_cons_zero])
              | (refine AWq.call rfl Tryz.func38 (by kernel_rfl) (by kernel_rfl) rfl rfl rfl ?_; apply Exists.intro; refine And.intro (fun wc hc => ?_) ?_; (· (simp only [argsOf, anyAt, ↓reduceIte, Nat.reduceEqDiff, Array.getD_eq_getD_getElem?, List.getElem?_toArray, List.getElem?_cons_succ, List.getElem?_cons_zero, Option.getD_some]; with_reducible exact (HA1 _ (HT.out.later.trans hc)).out)); simp only [Act.put, List.setIfInBounds_toArray, List.set_cons_succ, List.set_cons_zero])
              | (refine AWq.call rfl Tryz.func18 (by kernel_rfl) (by kernel_rfl) rfl rfl rfl ?_; apply Exists.intro; refine And.intro (fun wc hc => ?_) ?_; (· (simp only [argsOf, anyAt, ↓reduceIte, Nat.reduceEqDiff, Array.getD_eq_getD_getElem?, List.getElem?_toArray, List.getElem?_cons_succ, List.getElem?_cons_zero, Option.getD_some]; with_reducible exact (HM1 _ (HT.out.later.trans hc)).out)); simp only [Act.put, List.setIfInBounds_toArray, List.set_cons_succ, List.set_cons_zero]))
            refine AWq.done rfl rfl rfl (fun w5 x5 => ?_)
            simp only [closeAny, Act.put, List.setIfInBounds_toArray, List.set_cons_succ, List.set_cons_zero]
            have HT5 := hid (HT.out.ext x5)
            have aB5 := (HB3.out.ext HT5.out.later).cell (i := 0) (v := .slice (some ⟨bU, oU, none⟩) up.length c) rfl
            have bB5 := (HB3.out.ext HT5.out.later).cell (i := 1) (v := .slice (some ⟨bF, oF, none⟩) Fl.length cF) rfl
            have lB5 := (HB3.out.ext HT5.out.later).lt
            have fB5 := (HY3.out.ext HT5.out.later).cell (i := 0) (v := .string x.p) rfl
            have gB5 := (HY3.out.ext HT5.out.later).cell (i := 1) (v := .int .i64 x.size) rfl
            have hB5 := (HY3.out.ext HT5.out.later).cell (i := 2) (v := .bool x.dead) rfl
            have mB5 := (HY3.out.ext HT5.out.later).lt
            have uB5 := (X3.out.trans HT5.out.later).cell HcU.out
            simp only [Nat.mul_one, Nat.add_zero] at uB5
            have vB5 := Nat.lt_of_lt_of_le lU (X3.out.trans HT5.out.later).size
            clear x5 aR bR lR fR gR hR mR HA1 HM1 HT
            go_wp2_with fail
            refine ((HHx _ HT5.out.later).out).mono ?_
            rintro e w6 ⟨rfl, x6⟩
            have HT6 := hid (HT5.out.ext x6)
            clear x6 HHx
            clear aB5 bB5 lB5 fB5 gB5 hB5 mB5 uB5 vB5
            obtain ⟨v7, w7, hrun7, hT7⟩ := HT6.out.symm.push ((k : Int) + 1) (by omega)
            have HT7 := hid hT7.symm
            clear hT7
            have aB7 := (HB3.out.ext HT7.out.later).cell (i := 0) (v := .slice (some ⟨bU, oU, none⟩) up.length c) rfl
            have bB7 := (HB3.out.ext HT7.out.later).cell (i := 1) (v := .slice (some ⟨bF, oF, none⟩) Fl.length cF) rfl
            have lB7 := (HB3.out.ext HT7.out.later).lt
            have fB7 := (HY3.out.ext HT7.out.later).cell (i := 0) (v := .string x.p) rfl
            have gB7 := (HY3.out.ext HT7.out.later).cell (i := 1) (v := .int .i64 x.size) rfl
            have hB7 := (HY3.out.ext HT7.out.later).cell (i := 2) (v := .bool x.dead) rfl
            have mB7 := (HY3.out.ext HT7.out.later).lt
            have uB7 := (X3.out.trans HT7.out.later).cell HcU.out
            simp only [Nat.mul_one, Nat.add_zero] at uB7
            have vB7 := Nat.lt_of_lt_of_le lU (X3.out.trans HT7.out.later).size
            go_wp2_with (at_builtin; refine wpList_app rfl (.tmp 64) (.tmp 67) _ _ rfl rfl rfl hrun7 ?_)
            refine wp_region_any_order (by kernel_rfl) (by kernel_rfl) (by kernel_rfl) ?_
            repeat (first
              | (refine AWq.val rfl rfl rfl rfl (fun K hK => ?_); go_big_quiet_op; refine hK _ ?_; clear hK K)
              | (refine AWq.skip rfl rfl rfl ?_; simp only [Act.put, List.setIfInBounds_toArray, List.set_cons_succ, List.set_cons_zero]))
            refine AWq.done rfl rfl rfl (fun w8 x8 => ?_)
            simp only [closeAny, Act.put, List.setIfInBounds_toArray, List.set_cons_succ, List.set_cons_zero]
            have HT8 := hid (HT7.out.ext x8)
            clear x8
            clear aB7 bB7 lB7 fB7 gB7 hB7 mB7 uB7 vB7
            go_wp2_with fail
            go_roundw
            case rel => exact ⟨k + 1, _, _, by omega, by go_num, rfl, rfl, by rw [HSw.out, HSr.out]; exact HT8.out⟩
            case measure => simp [intOf]; omega
        | true =>
          have q9 := HSw.out; rw [if_pos rfl] at q9; have HSw := hid q9; clear q9
          have q9 := HSr.out; rw [if_pos (by rw [du]; rfl)] at q9; have HSr := hid q9; clear q9
          by_cases hz : z = 0
          · subst hz
            clear HZ
            go_wp2_with fail
            refine wp_region_any_order (by kernel_rfl) (by kernel_rfl) (by kernel_rfl) ?_
            repeat (first
              | (refine AWq.val rfl rfl rfl rfl (fun K hK => ?_); go_big_quiet_op; refine hK _ ?_; clear hK K)
              | (refine AWq.skip rfl rfl rfl ?_; simp only [Act.put, List.setIfInBounds_toArray, List.set_cons_succ, List.set_cons_zero])
              | (refine AWq.call rfl Tryz.func38 (by kernel_rfl) (by kernel_rfl) rfl rfl rfl ?_; apply Exists.intro; refine And.intro (fun wc hc => ?_) ?_; (· (simp only [argsOf, anyAt, ↓reduceIte, Nat.reduceEqDiff, Array.getD_eq_getD_getElem?, List.getElem?_toArray, List.getElem?_cons_succ, List.getElem?_cons_zero, Option.getD_some]; with_reducible exact (HA1 _ (HT.out.later.trans hc)).out)); simp only [Act.put, List.setIfInBounds_toArray, List.set_cons_succ, List.set_cons_zero])
              | (refine AWq.call rfl Tryz.func18 (by kernel_rfl) (by kernel_rfl) rfl rfl rfl ?_; apply Exists.intro; refine And.intro (fun wc hc => ?_) ?_; (· (simp only [argsOf, anyAt, ↓reduceIte, Nat.reduceEqDiff, Array.getD_eq_getD_getElem?, List.getElem?_toArray, List.getElem?_cons_succ, List.getElem?_cons_zero, Option.getD_some]; with_reducible exact (HM1 _ (HT.out.later.trans hc)).out)); simp only [Act.put, List.setIfInBounds_toArray, List.set_cons_succ, List.set_cons_zero]))
            refine AWq.done rfl rfl rfl (fun w5 x5 => ?_)
            simp only [closeAny, Act.put, List.setIfInBounds_toArray, List.set_cons_succ, List.set_cons_zero]
            have HT5 := hid (HT.out.ext x5)
            have aB5 := (HB3.out.ext HT5.out.later).cell (i := 0) (v := .slice (some ⟨bU, oU, none⟩) up.length c) rfl
            have bB5 := (HB3.out.ext HT5.out.later).cell (i := 1) (v := .slice (some ⟨bF, oF, none⟩) Fl.length cF) rfl
            have lB5 := (HB3.out.ext HT5.out.later).lt
            have fB5 := (HY3.out.ext HT5.out.later).cell (i := 0) (v := .string x.p) rfl
            have gB5 := (HY3.out.ext HT5.out.later).cell (i := 1) (v := .int .i64 x.size) rfl
            have hB5 := (HY3.out.ext HT5.out.later).cell (i := 2) (v := .bool x.dead) rfl
            have mB5 := (HY3.out.ext HT5.out.later).lt
            have uB5 := (X3.out.trans HT5.out.later).cell HcU.out
            simp only [Nat.mul_one, Nat.add_zero] at uB5
            have vB5 := Nat.lt_of_lt_of_le lU (X3.out.trans HT5.out.later).size
            clear x5 aR bR lR fR gR hR mR HA1 HM1 HT
            obtain ⟨v6, w6, hrun6, hT6⟩ := HT5.out.push ((k : Int) + 1) (by omega)
            have HT6 := hid hT6
            clear hT6
            have aB6 := (HB3.out.ext HT6.out.later).cell (i := 0) (v := .slice (some ⟨bU, oU, none⟩) up.length c) rfl
            have bB6 := (HB3.out.ext HT6.out.later).cell (i := 1) (v := .slice (some ⟨bF, oF, none⟩) Fl.length cF) rfl
            have lB6 := (HB3.out.ext HT6.out.later).lt
            have fB6 := (HY3.out.ext HT6.out.later).cell (i := 0) (v := .string x.p) rfl
            have gB6 := (HY3.out.ext HT6.out.later).cell (i := 1) (v := .int .i64 x.size) rfl
            have hB6 := (HY3.out.ext HT6.out.later).cell (i := 2) (v := .bool x.dead) rfl
            have mB6 := (HY3.out.ext HT6.out.later).lt
            have uB6 := (X3.out.trans HT6.out.later).cell HcU.out
            simp only [Nat.mul_one, Nat.add_zero] at uB6
            have vB6 := Nat.lt_of_lt_of_le lU (X3.out.trans HT6.out.later).size
            clear aB5 bB5 lB5 fB5 gB5 hB5 mB5 uB5 vB5
            obtain ⟨v7, w7, hrun7, hT7⟩ := HT6.out.symm.push ((k : Int) + 1) (by omega)
            have HT7 := hid hT7.symm
            clear hT7
            have aB7 := (HB3.out.ext HT7.out.later).cell (i := 0) (v := .slice (some ⟨bU, oU, none⟩) up.length c) rfl
            have bB7 := (HB3.out.ext HT7.out.later).cell (i := 1) (v := .slice (some ⟨bF, oF, none⟩) Fl.length cF) rfl
            have lB7 := (HB3.out.ext HT7.out.later).lt
            have fB7 := (HY3.out.ext HT7.out.later).cell (i := 0) (v := .string x.p) rfl
            have gB7 := (HY3.out.ext HT7.out.later).cell (i := 1) (v := .int .i64 x.size) rfl
            have hB7 := (HY3.out.ext HT7.out.later).cell (i := 2) (v := .bool x.dead) rfl
            have mB7 := (HY3.out.ext HT7.out.later).lt
            have uB7 := (X3.out.trans HT7.out.later).cell HcU.out
            simp only [Nat.mul_one, Nat.add_zero] at uB7
            have vB7 := Nat.lt_of_lt_of_le lU (X3.out.trans HT7.out.later).size
            clear aB6 bB6 lB6 fB6 gB6 hB6 mB6 uB6 vB6
            go_wp2_with (first
              | (at_builtin; refine wpList_app rfl (.tmp 47) (.tmp 50) _ _ rfl rfl rfl hrun6 ?_; clear hrun6)
              | (at_builtin; refine wpList_app rfl (.tmp 64) (.tmp 67) _ _ rfl rfl rfl hrun7 ?_))
            refine wp_region_any_order (by kernel_rfl) (by kernel_rfl) (by kernel_rfl) ?_
            repeat (first
              | (refine AWq.val rfl rfl rfl rfl (fun K hK => ?_); go_big_quiet_op; refine hK _ ?_; clear hK K)
              | (refine AWq.skip rfl rfl rfl ?_; simp only [Act.put, List.setIfInBounds_toArray, List.set_cons_succ, List.set_cons_zero]))
            refine AWq.done rfl rfl rfl (fun w8 x8 => ?_)
            simp only [closeAny, Act.put, List.setIfInBounds_toArray, List.set_cons_succ, List.set_cons_zero]
            have HT8 := hid (HT7.out.ext x8)
            clear x8
            clear aB7 bB7 lB7 fB7 gB7 hB7 mB7 uB7 vB7
            go_wp2_with fail
            go_roundw
            case rel => exact ⟨k + 1, _, _, by omega, by go_num, rfl, rfl, by rw [HSw.out, HSr.out]; exact HT8.out⟩
            case measure => simp [intOf]; omega
          · obtain ⟨j, A5, n5, c5, rfl, hjF, n1, n2, HA2, HM0⟩ := HZ.out hz
            have HM2 := fun W hW => HM0 rfl W hW
            clear HM0
            unfold maxLen at n2
            have dz : ((j : Int) + 1 != 0) = true := by simp; omega
            clear hz
            clear HZ
            go_wp2_with fail
            refine wp_region_any_order (by kernel_rfl) (by kernel_rfl) (by kernel_rfl) ?_
            repeat (first
              | (refine AWq.val rfl rfl rfl rfl (fun K hK => ?_); go_big_quiet_op; refine hK _ ?_; clear hK K)
              | (refine AWq.skip rfl rfl rfl ?_; simp only [Act.put, List.setIfInBounds_toArray, List.set_cons_succ, List.set_cons_zero])
              | (refine AWq.call rfl Tryz.func38 (by kernel_rfl) (by kernel_rfl) rfl rfl rfl ?_; apply Exists.intro; refine And.intro (fun wc hc => ?_) ?_; (· (simp only [argsOf, anyAt, ↓reduceIte, Nat.reduceEqDiff, Array.getD_eq_getD_getElem?, List.getElem?_toArray, List.getElem?_cons_succ, List.getElem?_cons_zero, Option.getD_some]; with_reducible exact (HA1 _ (HT.out.later.trans hc)).out)); simp only [Act.put, List.setIfInBounds_toArray, List.set_cons_succ, List.set_cons_zero])
              | (refine AWq.call rfl Tryz.func18 (by kernel_rfl) (by kernel_rfl) rfl rfl rfl ?_; apply Exists.intro; refine And.intro (fun wc hc => ?_) ?_; (· (simp only [argsOf, anyAt, ↓reduceIte, Nat.reduceEqDiff, Array.getD_eq_getD_getElem?, List.getElem?_toArray, List.getElem?_cons_succ, List.getElem?_cons_zero, Option.getD_some]; with_reducible exact (HM1 _ (HT.out.later.trans hc)).out)); simp only [Act.put, List.setIfInBounds_toArray, List.set_cons_succ, List.set_cons_zero]))
            refine AWq.done rfl rfl rfl (fun w5 x5 => ?_)
            simp only [closeAny, Act.put, List.setIfInBounds_toArray, List.set_cons_succ, List.set_cons_zero]
            have HT5 := hid (HT.out.ext x5)
            have aB5 := (HB3.out.ext HT5.out.later).cell (i := 0) (v := .slice (some ⟨bU, oU, none⟩) up.length c) rfl
            have bB5 := (HB3.out.ext HT5.out.later).cell (i := 1) (v := .slice (some ⟨bF, oF, none⟩) Fl.length cF) rfl
            have lB5 := (HB3.out.ext HT5.out.later).lt
            have fB5 := (HY3.out.ext HT5.out.later).cell (i := 0) (v := .string x.p) rfl
            have gB5 := (HY3.out.ext HT5.out.later).cell (i := 1) (v := .int .i64 x.size) rfl
            have hB5 := (HY3.out.ext HT5.out.later).cell (i := 2) (v := .bool x.dead) rfl
            have mB5 := (HY3.out.ext HT5.out.later).lt
            have uB5 := (X3.out.trans HT5.out.later).cell HcU.out
            simp only [Nat.mul_one, Nat.add_zero] at uB5
            have vB5 := Nat.lt_of_lt_of_le lU (X3.out.trans HT5.out.later).size
            clear x5 aR bR lR fR gR hR mR HA1 HM1 HT
            obtain ⟨v6, w6, hrun6, hT6⟩ := HT5.out.push ((k : Int) + 1) (by omega)
            have HT6 := hid hT6
            clear hT6
            have aB6 := (HB3.out.ext HT6.out.later).cell (i := 0) (v := .slice (some ⟨bU, oU, none⟩) up.length c) rfl
            have bB6 := (HB3.out.ext HT6.out.later).cell (i := 1) (v := .slice (some ⟨bF, oF, none⟩) Fl.length cF) rfl
            have lB6 := (HB3.out.ext HT6.out.later).lt
            have fB6 := (HY3.out.ext HT6.out.later).cell (i := 0) (v := .string x.p) rfl
            have gB6 := (HY3.out.ext HT6.out.later).cell (i := 1) (v := .int .i64 x.size) rfl
            have hB6 := (HY3.out.ext HT6.out.later).cell (i := 2) (v := .bool x.dead) rfl
            have mB6 := (HY3.out.ext HT6.out.later).lt
            have uB6 := (X3.out.trans HT6.out.later).cell HcU.out
            simp only [Nat.mul_one, Nat.add_zero] at uB6
            have vB6 := Nat.lt_of_lt_of_le lU (X3.out.trans HT6.out.later).size
            clear aB5 bB5 lB5 fB5 gB5 hB5 mB5 uB5 vB5
            obtain ⟨v7, w7, hrun7, hT7⟩ := HT6.out.symm.push ((k : Int) + 1) (by omega)
            have HT7 := hid hT7.symm
            clear hT7
            have aB7 := (HB3.out.ext HT7.out.later).cell (i := 0) (v := .slice (some ⟨bU, oU, none⟩) up.length c) rfl
            have bB7 := (HB3.out.ext HT7.out.later).cell (i := 1) (v := .slice (some ⟨bF, oF, none⟩) Fl.length cF) rfl
            have lB7 := (HB3.out.ext HT7.out.later).lt
            have fB7 := (HY3.out.ext HT7.out.later).cell (i := 0) (v := .string x.p) rfl
            have gB7 := (HY3.out.ext HT7.out.later).cell (i := 1) (v := .int .i64 x.size) rfl
            have hB7 := (HY3.out.ext HT7.out.later).cell (i := 2) (v := .bool x.dead) rfl
            have mB7 := (HY3.out.ext HT7.out.later).lt
            have uB7 := (X3.out.trans HT7.out.later).cell HcU.out
            simp only [Nat.mul_one, Nat.add_zero] at uB7
            have vB7 := Nat.lt_of_lt_of_le lU (X3.out.trans HT7.out.later).size
            clear aB6 bB6 lB6 fB6 gB6 hB6 mB6 uB6 vB6
            go_wp2_with (first
              | (at_builtin; refine wpList_app rfl (.tmp 47) (.tmp 50) _ _ rfl rfl rfl hrun6 ?_; clear hrun6)
              | (at_builtin; refine wpList_app rfl (.tmp 64) (.tmp 67) _ _ rfl rfl rfl hrun7 ?_))
            refine wp_region_any_order (by kernel_rfl) (by kernel_rfl) (by kernel_rfl) ?_
            repeat (first
              | (refine AWq.val rfl rfl rfl rfl (fun K hK => ?_); go_big_quiet_op; refine hK _ ?_; clear hK K)
              | (refine AWq.skip rfl rfl rfl ?_; simp only [Act.put, List.setIfInBounds_toArray, List.set_cons_succ, List.set_cons_zero])
              | (refine AWq.call rfl Tryz.func38 (by kernel_rfl) (by kernel_rfl) rfl rfl rfl ?_; apply Exists.intro; refine And.intro (fun wc hc => ?_) ?_; (· (simp only [argsOf, anyAt, ↓reduceIte, Nat.reduceEqDiff, Array.getD_eq_getD_getElem?, List.getElem?_toArray, List.getElem?_cons_succ, List.getElem?_cons_zero, Option.getD_some]; with_reducible exact (HA2 _ (HT7.out.later.trans hc)).out)); simp only [Act.put, List.setIfInBounds_toArray, List.set_cons_succ, List.set_cons_zero])
              | (refine AWq.call rfl Tryz.func18 (by kernel_rfl) (by kernel_rfl) rfl rfl rfl ?_; apply Exists.intro; refine And.intro (fun wc hc => ?_) ?_; (· (simp only [argsOf, anyAt, ↓reduceIte, Nat.reduceEqDiff, Array.getD_eq_getD_getElem?, List.getElem?_toArray, List.getElem?_cons_succ, List.getElem?_cons_zero, Option.getD_some]; with_reducible exact (HM2 _ (HT7.out.later.trans hc)).out)); simp only [Act.put, List.setIfInBounds_toArray, List.set_cons_succ, List.set_cons_zero]))
            refine AWq.done rfl rfl rfl (fun w8 x8 => ?_)
            simp only [closeAny, Act.put, List.setIfInBounds_toArray, List.set_cons_succ, List.set_cons_zero]
            have HT8 := hid (HT7.out.ext x8)
            clear x8
            clear aB7 bB7 lB7 fB7 gB7 hB7 mB7 uB7 vB7
            go_wp2_with fail
            go_roundw
            case rel => exact ⟨k + 1, _, _, by omega, by go_num, rfl, rfl, by rw [HSw.out, HSr.out]; exact HT8.out⟩
            case measure => simp [intOf]; omega
    · obtain rfl : k = up.length := by omega
      have dk : decide (up.length < up.length) = false := decide_eq_false (by omega)
      have HV1 := hid hT.sl.1
      have HV2 := hid hT.sl.2
      have hlw := HRlw.out _ hk
      have hlr := HRlr.out _ hk
      obtain ⟨A7, c7, rfl, _⟩ := sl_get (code := intC) hT.sl.1
      obtain ⟨A8, c8, rfl, _⟩ := sl_get (code := intC) hT.sl.2
      clear hT HT HIn HMu HPw HPr HRlw HRlr HRsw HRsr HR0w HR0r HL HMt HU HHs
      generalize Rw up.length = rw at *
      generalize Rr up.length = rr at *
      go_wp2_with fail
      refine ((HAw _ XR.out).out).mono ?_
      rintro e w4 ⟨rfl, x4⟩
      have HV1 := hid (HV1.out.ext x4)
      have HV2 := hid (HV2.out.ext x4)
      have X4 := hid (XR.out.trans x4)
      have HB4 := hid (HBR.out.ext x4)
      have HY4 := hid (HYR.out.ext x4)
      have a4 := HB4.out.cell (i := 0) (v := .slice A up.length c) rfl
      have b4 := HB4.out.cell (i := 1) (v := .slice AF Fl.length cF) rfl
      have l4 := HB4.out.lt
      have f4 := HY4.out.cell (i := 0) (v := .string x.p) rfl
      have g4 := HY4.out.cell (i := 1) (v := .int .i64 x.size) rfl
      have h4 := HY4.out.cell (i := 2) (v := .bool x.dead) rfl
      have m4 := HY4.out.lt
      clear x4
      clear aR bR lR fR gR hR mR
      go_wp2_with fail
      refine ((HWn _ X4.out).out).mono ?_
      rintro e w5 ⟨v5, rfl, hv5, x5⟩
      have HV5 := hid hv5.sl
      have HV1 := hid (HV1.out.ext x5)
      have HV2 := hid (HV2.out.ext x5)
      have X5 := hid (X4.out.trans x5)
      have HB5 := hid (HB4.out.ext x5)
      have HY5 := hid (HY4.out.ext x5)
      have a5 := HB5.out.cell (i := 0) (v := .slice A up.length c) rfl
      have b5 := HB5.out.cell (i := 1) (v := .slice AF Fl.length cF) rfl
      have l5 := HB5.out.lt
      have f5 := HY5.out.cell (i := 0) (v := .string x.p) rfl
      have g5 := HY5.out.cell (i := 1) (v := .int .i64 x.size) rfl
      have h5 := HY5.out.cell (i := 2) (v := .bool x.dead) rfl
      have m5 := HY5.out.lt
      clear x5
      clear a4 b4 l4 f4 g4 h4 m4 hv5
      go_wp2_with fail
      refine (rints_c _ _ _ rw HV5.out HV1.out hlw).mono ?_
      rintro e w6 ⟨rfl, x6⟩
      have HV2 := hid (HV2.out.ext x6)
      have X6 := hid (X5.out.trans x6)
      have HB6 := hid (HB5.out.ext x6)
      have HY6 := hid (HY5.out.ext x6)
      have a6 := HB6.out.cell (i := 0) (v := .slice A up.length c) rfl
      have b6 := HB6.out.cell (i := 1) (v := .slice AF Fl.length cF) rfl
      have l6 := HB6.out.lt
      have f6 := HY6.out.cell (i := 0) (v := .string x.p) rfl
      have g6 := HY6.out.cell (i := 1) (v := .int .i64 x.size) rfl
      have h6 := HY6.out.cell (i := 2) (v := .bool x.dead) rfl
      have m6 := HY6.out.lt
      clear x6
      clear a5 b5 l5 f5 g5 h5 m5
      go_wp2_with fail
      refine ((HRe _ X6.out).out).mono ?_
      rintro e w7 ⟨v7, rfl, hv7, x7⟩
      have HV7 := hid hv7
      have HV2 := hid (HV2.out.ext x7)
      have X7 := hid (X6.out.trans x7)
      clear x7 a6 b6 l6 f6 g6 h6 m6 hv7
      go_wp2_with fail
      refine (rints_c _ _ _ rr HV7.out HV2.out hlr).mono ?_
      rintro e w8 ⟨rfl, x8⟩
      have X8 := hid (X7.out.trans x8)
      clear x8
      go_wp2_with fail
      go_ret
      exact ⟨rfl, X8.out⟩
end Go.Proofs.YtjnjamhohnnefaaGreatDoor
