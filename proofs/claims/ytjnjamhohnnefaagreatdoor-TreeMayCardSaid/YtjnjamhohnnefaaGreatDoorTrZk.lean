/-
  The law TreeMay: its walk (written by gen_may.py).
-/
import Derived.Test.YtjnjamhohnnefaaGreatDoorPkI
import Derived.Test.YtjnjamhohnnefaaGreatDoorPkH
import Derived.Deep.CutRange
namespace Go.Proofs.YtjnjamhohnnefaaGreatDoor
set_option linter.unusedSimpArgs false
set_option linter.unusedVariables false
open Go.RowKit Go.Sort

theorem two_new (w : World) (o : Obj) (c1 c2 : Array Value) (e1 e2 : TypeId) : Ext w (((w.alloc o).alloc (.cells c1 e1)).alloc (.cells c2 e2)).drew ∧ Blk (((w.alloc o).alloc (.cells c1 e1)).alloc (.cells c2 e2)).drew (w.heap.size + 1) e1 c1 ∧ Blk (((w.alloc o).alloc (.cells c1 e1)).alloc (.cells c2 e2)).drew (w.heap.size + 1 + 1) e2 c2 := by
  have h1 := Blk.new (w.alloc o) e1 c1
  have h2 := Blk.new ((w.alloc o).alloc (.cells c1 e1)) e2 c2
  rw [World.size_alloc] at h1
  rw [World.size_alloc, World.size_alloc] at h2
  exact ⟨(((Ext.alloc w o).alloc' _).alloc' _).trans (Ext.drew _), (h1.alloc _).ext (Ext.drew _), h2.ext (Ext.drew _)⟩
/-- append onto an empty row of one's own: what comes back lies in new memory. -/
theorem fils_copy0 {W : World} {B q : Nat} {AF : Option Addr} {cF : Nat} {Fl : List (List ClauseI)} {S : List FilS} (ho : W.ownsRow B 30 1 (.slice (some ⟨q, 0, none⟩) 0 0) 0 []) (hB : B ≤ W.heap.size) (h : Sl W 1 (.slice AF Fl.length cF) (S.map FilS.cells)) (hn : S.length = Fl.length) (hp : 0 < Fl.length) (hm : Fl.length ≤ 1000) : ∃ g c1 w1, (Builtin.append_ #[23, 23] 23 #[.slice (some ⟨q, 0, none⟩) 0 0, .slice AF Fl.length cF]).run Tryz.prog W = .ok (.slice (some ⟨g, 0, none⟩) Fl.length c1) w1 ∧ w1.ownsRow B 30 1 (.slice (some ⟨g, 0, none⟩) S.length c1) S.length (S.map FilS.cells).flatten ∧ Ext W w1 := by
  have hs := src_of_sl Tryz.underlying23 fil_coded h (Ext.refl W)
  obtain ⟨va, wa, hra, _, hEa⟩ := app_full (P := Tryz.prog) (t := 23) (ty := 23) (l := []) (m := S) (A := some ⟨q, 0, none⟩) (c := 0) fil_elem fil_coded ⟨_, 0, rfl, by simp, by unfold maxLen; omega, fun h => absurd h (by simp)⟩ hs (by simp) (by omega) (by omega)
  obtain ⟨v1, w1, hrun, hown, _⟩ := app_row (P := Tryz.prog) (ty := 23) fil_elem ho hB hs (by unfold maxLen; omega) (by omega)
  rw [List.nil_append, Nat.zero_add] at hown
  have he := hra.symm.trans hrun
  injection he with e1 e2
  subst e1 e2
  rcases id hown.2 with ⟨rfl, h0⟩ | ⟨g, cap, cs, rfl, _⟩
  · omega
  · rw [hn] at hrun hown ⊢
    exact ⟨g, cap, _, hrun, hown, hEa⟩
def RowF (B : Nat) (S : List FilS) (g c' : Nat) (w : World) : Prop := w.ownsRow B 30 1 (.slice (some ⟨g, 0, none⟩) S.length c') S.length (S.map FilS.cells).flatten
theorem RowF.ext {B : Nat} {S : List FilS} {g c' : Nat} {w w' : World} (h : RowF B S g c' w) (he : Ext w w') : RowF B S g c' w' := ownsRow_ext h he
theorem RowF.apart {B : Nat} {S : List FilS} {g c' q : Nat} {w : World} {cs : Array Value} (h : RowF B S g c' w) (hq : Blk w q 25 cs) : q ≠ g := by
  rintro rfl
  rcases h.2 with ⟨h1, _⟩ | ⟨g', cap, cs', h1, _, hb, _⟩
  · cases h1
  · injection h1 with h1
    injection h1 with h1
    injection h1 with h1
    subst h1
    have h2 := hq.symm.trans hb
    injection h2 with h2
    injection h2 with _ h2
    exact absurd h2 (by decide)
theorem row_at {w : World} {A : Option Addr} {n c : Nat} {S : List FilS} (h : Sl w 1 (.slice A n c) (S.map FilS.cells)) (hn : S.length = n) (hp : 0 < n) : n ≤ c ∧ c ≤ maxLen ∧ ∃ b o, A = some ⟨b, o, none⟩ ∧ b < w.heap.size ∧ ∀ i (hi : i < S.length), w.cell? ⟨b, o + i, none⟩ = some (.slice S[i].A S[i].n S[i].c) := by
  obtain ⟨A', c', hv, h1, h2, h3⟩ := sl_get h
  injection hv with hA hl hc
  subst hA hc
  obtain ⟨b, o, hb, hlt, hcell⟩ := h3 (by omega)
  refine ⟨by omega, h2, b, o, hb, hlt, fun i hi => ?_⟩
  have := hcell i hi 0 _ rfl
  rwa [Nat.mul_one, Nat.add_zero] at this
set_option maxRecDepth 100000 in
set_option maxHeartbeats 16000000 in
theorem may_dark (w : World) (m : Int) (hm : w.cell? ⟨0, 0, none⟩ = some (.int .i64 m)) (up : List Int) (Fl : List (List ClauseI)) (A AF Av : Option Addr) (c cF cv : Nat) (r : Int) (f : List ClauseI) (x : FileI) (hu : Sl w 1 (.slice A up.length c) (Ints up)) (hF : FsAt w AF cF Fl) (hf : Sl w 3 (.slice Av f.length cv) (f.map ClauseI.cells)) (hx : x.p.size ≤ maxLen) (hlt : lightT up Fl = false) : Calls Tryz.prog 4 #[.agg #[.slice A up.length c, .slice AF Fl.length cF, .int .i64 r, .slice Av f.length cv, .string x.p, .int .i64 x.size, .bool x.dead]] w (Ret (.bool true) w) := by
  have HAw := fun W (hW : Ext w W) => hid (awake28_c W m (hW.cell hm))
  have HLt := fun W (hW : Ext w W) => hid (light28_c W up Fl A AF c cF (hu.ext hW) (hF.ext hW))
  have HLf := fun W (hW : Ext w W) => hid (lightF_c W (.slice Av f.length cv) f (hf.ext hW))
  rw [hlt] at HLt
  clear hm hu hF hf hx hlt HLf
  go_enter Tryz.func4, Tryz.ntmps4
  go_upto_region 1 with fail
  go_cut [3, 4, 5, 6] from 12 (fun s3 s4 s5 s6 wx => ∃ gt gx, s3 = .pointer (some ⟨gt, 0, none⟩) ∧ s4 = .int .i64 r ∧ s5 = .slice Av f.length cv ∧ s6 = .pointer (some ⟨gx, 0, none⟩) ∧ Ext w wx ∧ Blk wx gt 25 #[.slice A up.length c, .slice AF Fl.length cF] ∧ Blk wx gx 32 #[.string x.p, .int .i64 x.size, .bool x.dead])
  case first =>
    go_big_region
    all_goals go_wp2_with fail
    all_goals go_meet
    · have k := two_new w (.cells #[.slice A up.length c, .slice AF Fl.length cF, .int .i64 r, .slice Av f.length cv, .string x.p, .int .i64 x.size, .bool x.dead] 34) #[.slice A up.length c, .slice AF Fl.length cF] #[.string x.p, .int .i64 x.size, .bool x.dead] 25 32
      exact ⟨_, _, rfl, rfl, rfl, rfl, k.1, k.2.1, k.2.2⟩
    · have k := two_new w (.cells #[.slice A up.length c, .slice AF Fl.length cF, .int .i64 r, .slice Av f.length cv, .string x.p, .int .i64 x.size, .bool x.dead] 34) #[.string x.p, .int .i64 x.size, .bool x.dead] #[.slice A up.length c, .slice AF Fl.length cF] 32 25
      exact ⟨_, _, rfl, rfl, rfl, rfl, k.1, k.2.2, k.2.1⟩
  obtain ⟨gt, gx, rfl, rfl, rfl, rfl, hE1, hb1, hb2⟩ := hcut
  have X1 := hid hE1
  have T1 := hid hb1
  have Y1 := hid hb2
  have a1 := hb1.cell (i := 0) (v := .slice A up.length c) rfl
  have b1 := hb1.cell (i := 1) (v := .slice AF Fl.length cF) rfl
  have l1 := hb1.lt
  clear hE1 hb1 hb2
  go_wp2_with fail
  refine ((HLt _ X1.out).out).mono ?_
  rintro e w2 ⟨rfl, x2⟩
  have X2 := hid (X1.out.trans x2)
  have T2 := hid (T1.out.ext x2)
  have Y2 := hid (Y1.out.ext x2)
  have a2 := T2.out.cell (i := 0) (v := .slice A up.length c) rfl
  have b2 := T2.out.cell (i := 1) (v := .slice AF Fl.length cF) rfl
  have l2 := T2.out.lt
  clear x2 T1 Y1 a1 b1 l1
  clear HLt
  go_wp2_with fail
  refine ((HAw _ X2.out).out).mono ?_
  rintro e w3 ⟨rfl, x3⟩
  have X3 := hid (X2.out.trans x3)
  clear x3 T2 Y2 a2 b2 l2
  go_wp2_with fail
  go_ret
  exact ⟨rfl, X3.out⟩
set_option maxRecDepth 100000 in
set_option maxHeartbeats 16000000 in
theorem may_dark2 (w : World) (m : Int) (hm : w.cell? ⟨0, 0, none⟩ = some (.int .i64 m)) (up : List Int) (Fl : List (List ClauseI)) (A AF Av : Option Addr) (c cF cv : Nat) (r : Int) (f : List ClauseI) (x : FileI) (hu : Sl w 1 (.slice A up.length c) (Ints up)) (hF : FsAt w AF cF Fl) (hf : Sl w 3 (.slice Av f.length cv) (f.map ClauseI.cells)) (hx : x.p.size ≤ maxLen) (hlt : lightT up Fl = true) (hlf : lightF f = false) : Calls Tryz.prog 4 #[.agg #[.slice A up.length c, .slice AF Fl.length cF, .int .i64 r, .slice Av f.length cv, .string x.p, .int .i64 x.size, .bool x.dead]] w (Ret (.bool true) w) := by
  have HAw := fun W (hW : Ext w W) => hid (awake28_c W m (hW.cell hm))
  have HLt := fun W (hW : Ext w W) => hid (light28_c W up Fl A AF c cF (hu.ext hW) (hF.ext hW))
  have HLf := fun W (hW : Ext w W) => hid (lightF_c W (.slice Av f.length cv) f (hf.ext hW))
  rw [hlt] at HLt
  rw [hlf] at HLf
  clear hm hu hF hf hx hlt hlf
  go_enter Tryz.func4, Tryz.ntmps4
  go_upto_region 1 with fail
  go_cut [3, 4, 5, 6] from 12 (fun s3 s4 s5 s6 wx => ∃ gt gx, s3 = .pointer (some ⟨gt, 0, none⟩) ∧ s4 = .int .i64 r ∧ s5 = .slice Av f.length cv ∧ s6 = .pointer (some ⟨gx, 0, none⟩) ∧ Ext w wx ∧ Blk wx gt 25 #[.slice A up.length c, .slice AF Fl.length cF] ∧ Blk wx gx 32 #[.string x.p, .int .i64 x.size, .bool x.dead])
  case first =>
    go_big_region
    all_goals go_wp2_with fail
    all_goals go_meet
    · have k := two_new w (.cells #[.slice A up.length c, .slice AF Fl.length cF, .int .i64 r, .slice Av f.length cv, .string x.p, .int .i64 x.size, .bool x.dead] 34) #[.slice A up.length c, .slice AF Fl.length cF] #[.string x.p, .int .i64 x.size, .bool x.dead] 25 32
      exact ⟨_, _, rfl, rfl, rfl, rfl, k.1, k.2.1, k.2.2⟩
    · have k := two_new w (.cells #[.slice A up.length c, .slice AF Fl.length cF, .int .i64 r, .slice Av f.length cv, .string x.p, .int .i64 x.size, .bool x.dead] 34) #[.string x.p, .int .i64 x.size, .bool x.dead] #[.slice A up.length c, .slice AF Fl.length cF] 32 25
      exact ⟨_, _, rfl, rfl, rfl, rfl, k.1, k.2.2, k.2.1⟩
  obtain ⟨gt, gx, rfl, rfl, rfl, rfl, hE1, hb1, hb2⟩ := hcut
  have X1 := hid hE1
  have T1 := hid hb1
  have Y1 := hid hb2
  have a1 := hb1.cell (i := 0) (v := .slice A up.length c) rfl
  have b1 := hb1.cell (i := 1) (v := .slice AF Fl.length cF) rfl
  have l1 := hb1.lt
  clear hE1 hb1 hb2
  go_wp2_with fail
  refine ((HLt _ X1.out).out).mono ?_
  rintro e w2 ⟨rfl, x2⟩
  have X2 := hid (X1.out.trans x2)
  have T2 := hid (T1.out.ext x2)
  have Y2 := hid (Y1.out.ext x2)
  have a2 := T2.out.cell (i := 0) (v := .slice A up.length c) rfl
  have b2 := T2.out.cell (i := 1) (v := .slice AF Fl.length cF) rfl
  have l2 := T2.out.lt
  clear x2 T1 Y1 a1 b1 l1
  clear HLt
  go_wp2_with fail
  refine ((HLf _ X2.out).out).mono ?_
  rintro e w3 ⟨rfl, x3⟩
  have X3 := hid (X2.out.trans x3)
  have T3 := hid (T2.out.ext x3)
  have Y3 := hid (Y2.out.ext x3)
  have a3 := T3.out.cell (i := 0) (v := .slice A up.length c) rfl
  have b3 := T3.out.cell (i := 1) (v := .slice AF Fl.length cF) rfl
  have l3 := T3.out.lt
  clear x3 T2 Y2 a2 b2 l2
  clear HLf
  go_wp2_with fail
  refine ((HAw _ X3.out).out).mono ?_
  rintro e w4 ⟨rfl, x4⟩
  have X4 := hid (X3.out.trans x4)
  clear x4 T3 Y3 a3 b3 l3
  go_wp2_with fail
  go_ret
  exact ⟨rfl, X4.out⟩
set_option maxRecDepth 100000 in
set_option maxHeartbeats 16000000 in
theorem may_none (w : World) (m : Int) (hm : w.cell? ⟨0, 0, none⟩ = some (.int .i64 m)) (up : List Int) (Fl : List (List ClauseI)) (A AF Av : Option Addr) (c cF cv : Nat) (r : Int) (f : List ClauseI) (x : FileI) (hu : Sl w 1 (.slice A up.length c) (Ints up)) (hF : FsAt w AF cF Fl) (hf : Sl w 3 (.slice Av f.length cv) (f.map ClauseI.cells)) (hx : x.p.size ≤ maxLen) (hlt : lightT up Fl = true) (hlf : lightF f = true) (e0 : checkT up Fl ≠ 0) : Calls Tryz.prog 4 #[.agg #[.slice A up.length c, .slice AF Fl.length cF, .int .i64 r, .slice Av f.length cv, .string x.p, .int .i64 x.size, .bool x.dead]] w (Ret (.bool true) w) := by
  have HAw := fun W (hW : Ext w W) => hid (awake28_c W m (hW.cell hm))
  have HLt := fun W (hW : Ext w W) => hid (light28_c W up Fl A AF c cF (hu.ext hW) (hF.ext hW))
  have HLf := fun W (hW : Ext w W) => hid (lightF_c W (.slice Av f.length cv) f (hf.ext hW))
  have ht : TreeAt w up Fl A AF c cF := lightT_tree hlt m hm hu hF
  have hlf2 := lightF_iff.1 hlf
  rw [hlt] at HLt
  rw [hlf] at HLf
  have HMy := fun W (hW : Ext w W) => hid (may28_c W up Fl A AF c cF r (.slice Av f.length cv) f (ht.ext hW) (hf.ext hW) ⟨hlf2.1, by omega⟩)
  have HCk := fun W (hW : Ext w W) => hid (rcheck28_c W up Fl A AF c cF (ht.u.ext hW) ht.l (ht.f.ext hW) ht.L)
  have hl := ht.l
  obtain ⟨h1, h2⟩ := ht.cap
  unfold maxLen at h2
  rw [mayT_no e0] at HMy
  have d0 : (checkT up Fl == 0) = false := by simp [e0]
  have d1 : (checkT up Fl != 0) = true := by simp [e0]
  clear hm hu hF hf hx hlt hlf hlf2 ht
  generalize checkT up Fl = ck at HMy HCk d0 d1 e0
  go_enter Tryz.func4, Tryz.ntmps4
  go_upto_region 1 with fail
  go_cut [3, 4, 5, 6] from 12 (fun s3 s4 s5 s6 wx => ∃ gt gx, s3 = .pointer (some ⟨gt, 0, none⟩) ∧ s4 = .int .i64 r ∧ s5 = .slice Av f.length cv ∧ s6 = .pointer (some ⟨gx, 0, none⟩) ∧ Ext w wx ∧ Blk wx gt 25 #[.slice A up.length c, .slice AF Fl.length cF] ∧ Blk wx gx 32 #[.string x.p, .int .i64 x.size, .bool x.dead])
  case first =>
    go_big_region
    all_goals go_wp2_with fail
    all_goals go_meet
    · have k := two_new w (.cells #[.slice A up.length c, .slice AF Fl.length cF, .int .i64 r, .slice Av f.length cv, .string x.p, .int .i64 x.size, .bool x.dead] 34) #[.slice A up.length c, .slice AF Fl.length cF] #[.string x.p, .int .i64 x.size, .bool x.dead] 25 32
      exact ⟨_, _, rfl, rfl, rfl, rfl, k.1, k.2.1, k.2.2⟩
    · have k := two_new w (.cells #[.slice A up.length c, .slice AF Fl.length cF, .int .i64 r, .slice Av f.length cv, .string x.p, .int .i64 x.size, .bool x.dead] 34) #[.string x.p, .int .i64 x.size, .bool x.dead] #[.slice A up.length c, .slice AF Fl.length cF] 32 25
      exact ⟨_, _, rfl, rfl, rfl, rfl, k.1, k.2.2, k.2.1⟩
  obtain ⟨gt, gx, rfl, rfl, rfl, rfl, hE1, hb1, hb2⟩ := hcut
  have X1 := hid hE1
  have T1 := hid hb1
  have Y1 := hid hb2
  have a1 := hb1.cell (i := 0) (v := .slice A up.length c) rfl
  have b1 := hb1.cell (i := 1) (v := .slice AF Fl.length cF) rfl
  have l1 := hb1.lt
  clear hE1 hb1 hb2
  go_wp2_with fail
  refine ((HLt _ X1.out).out).mono ?_
  rintro e w2 ⟨rfl, x2⟩
  have X2 := hid (X1.out.trans x2)
  have T2 := hid (T1.out.ext x2)
  have Y2 := hid (Y1.out.ext x2)
  have a2 := T2.out.cell (i := 0) (v := .slice A up.length c) rfl
  have b2 := T2.out.cell (i := 1) (v := .slice AF Fl.length cF) rfl
  have l2 := T2.out.lt
  clear x2 T1 Y1 a1 b1 l1
  clear HLt
  go_wp2_with fail
  refine ((HLf _ X2.out).out).mono ?_
  rintro e w3 ⟨rfl, x3⟩
  have X3 := hid (X2.out.trans x3)
  have T3 := hid (T2.out.ext x3)
  have Y3 := hid (Y2.out.ext x3)
  have a3 := T3.out.cell (i := 0) (v := .slice A up.length c) rfl
  have b3 := T3.out.cell (i := 1) (v := .slice AF Fl.length cF) rfl
  have l3 := T3.out.lt
  clear x3 T2 Y2 a2 b2 l2
  clear HLf
  go_wp2_with fail
  refine ((HMy _ X3.out).out).mono ?_
  rintro e w4 ⟨rfl, x4⟩
  have X4 := hid (X3.out.trans x4)
  have T4 := hid (T3.out.ext x4)
  have Y4 := hid (Y3.out.ext x4)
  have a4 := T4.out.cell (i := 0) (v := .slice A up.length c) rfl
  have b4 := T4.out.cell (i := 1) (v := .slice AF Fl.length cF) rfl
  have l4 := T4.out.lt
  clear x4 T3 Y3 a3 b3 l3
  clear HMy
  go_wp2_with fail
  refine ((HCk _ X4.out).out).mono ?_
  rintro e w5 ⟨rfl, x5⟩
  have X5 := hid (X4.out.trans x5)
  have T5 := hid (T4.out.ext x5)
  have Y5 := hid (Y4.out.ext x5)
  have a5 := T5.out.cell (i := 0) (v := .slice A up.length c) rfl
  have b5 := T5.out.cell (i := 1) (v := .slice AF Fl.length cF) rfl
  have l5 := T5.out.lt
  clear x5 T4 Y4 a4 b4 l4
  clear HCk
  go_wp2_with fail
  refine ((HAw _ X5.out).out).mono ?_
  rintro e w6 ⟨rfl, x6⟩
  have X6 := hid (X5.out.trans x6)
  clear x6 T5 Y5 a5 b5 l5
  go_wp2_with fail
  go_ret
  exact ⟨by simp, X6.out⟩
set_option maxRecDepth 100000 in
set_option maxHeartbeats 16000000 in
theorem may_out (w : World) (m : Int) (hm : w.cell? ⟨0, 0, none⟩ = some (.int .i64 m)) (up : List Int) (Fl : List (List ClauseI)) (A AF Av : Option Addr) (c cF cv : Nat) (r : Int) (f : List ClauseI) (x : FileI) (hu : Sl w 1 (.slice A up.length c) (Ints up)) (hF : FsAt w AF cF Fl) (hf : Sl w 3 (.slice Av f.length cv) (f.map ClauseI.cells)) (hx : x.p.size ≤ maxLen) (hlt : lightT up Fl = true) (hlf : lightF f = true) (e0 : checkT up Fl = 0) (hin : inT up.length r = false) : Calls Tryz.prog 4 #[.agg #[.slice A up.length c, .slice AF Fl.length cF, .int .i64 r, .slice Av f.length cv, .string x.p, .int .i64 x.size, .bool x.dead]] w (Ret (.bool true) w) := by
  have HAw := fun W (hW : Ext w W) => hid (awake28_c W m (hW.cell hm))
  have HLt := fun W (hW : Ext w W) => hid (light28_c W up Fl A AF c cF (hu.ext hW) (hF.ext hW))
  have HLf := fun W (hW : Ext w W) => hid (lightF_c W (.slice Av f.length cv) f (hf.ext hW))
  have ht : TreeAt w up Fl A AF c cF := lightT_tree hlt m hm hu hF
  have hlf2 := lightF_iff.1 hlf
  rw [hlt] at HLt
  rw [hlf] at HLf
  have HMy := fun W (hW : Ext w W) => hid (may28_c W up Fl A AF c cF r (.slice Av f.length cv) f (ht.ext hW) (hf.ext hW) ⟨hlf2.1, by omega⟩)
  have HCk := fun W (hW : Ext w W) => hid (rcheck28_c W up Fl A AF c cF (ht.u.ext hW) ht.l (ht.f.ext hW) ht.L)
  have hl := ht.l
  obtain ⟨h1, h2⟩ := ht.cap
  unfold maxLen at h2
  rw [mayT_out e0 hin] at HMy
  rw [e0] at HCk
  unfold inT at hin
  clear hm hu hF hf hx hlt hlf hlf2 ht e0
  cases d1 : decide (r < 1) with
  | true =>
    clear hin
    go_enter Tryz.func4, Tryz.ntmps4
    go_upto_region 1 with fail
    go_cut [3, 4, 5, 6] from 12 (fun s3 s4 s5 s6 wx => ∃ gt gx, s3 = .pointer (some ⟨gt, 0, none⟩) ∧ s4 = .int .i64 r ∧ s5 = .slice Av f.length cv ∧ s6 = .pointer (some ⟨gx, 0, none⟩) ∧ Ext w wx ∧ Blk wx gt 25 #[.slice A up.length c, .slice AF Fl.length cF] ∧ Blk wx gx 32 #[.string x.p, .int .i64 x.size, .bool x.dead])
    case first =>
      go_big_region
      all_goals go_wp2_with fail
      all_goals go_meet
      · have k := two_new w (.cells #[.slice A up.length c, .slice AF Fl.length cF, .int .i64 r, .slice Av f.length cv, .string x.p, .int .i64 x.size, .bool x.dead] 34) #[.slice A up.length c, .slice AF Fl.length cF] #[.string x.p, .int .i64 x.size, .bool x.dead] 25 32
        exact ⟨_, _, rfl, rfl, rfl, rfl, k.1, k.2.1, k.2.2⟩
      · have k := two_new w (.cells #[.slice A up.length c, .slice AF Fl.length cF, .int .i64 r, .slice Av f.length cv, .string x.p, .int .i64 x.size, .bool x.dead] 34) #[.string x.p, .int .i64 x.size, .bool x.dead] #[.slice A up.length c, .slice AF Fl.length cF] 32 25
        exact ⟨_, _, rfl, rfl, rfl, rfl, k.1, k.2.2, k.2.1⟩
    obtain ⟨gt, gx, rfl, rfl, rfl, rfl, hE1, hb1, hb2⟩ := hcut
    have X1 := hid hE1
    have T1 := hid hb1
    have Y1 := hid hb2
    have a1 := hb1.cell (i := 0) (v := .slice A up.length c) rfl
    have b1 := hb1.cell (i := 1) (v := .slice AF Fl.length cF) rfl
    have l1 := hb1.lt
    clear hE1 hb1 hb2
    go_wp2_with fail
    refine ((HLt _ X1.out).out).mono ?_
    rintro e w2 ⟨rfl, x2⟩
    have X2 := hid (X1.out.trans x2)
    have T2 := hid (T1.out.ext x2)
    have Y2 := hid (Y1.out.ext x2)
    have a2 := T2.out.cell (i := 0) (v := .slice A up.length c) rfl
    have b2 := T2.out.cell (i := 1) (v := .slice AF Fl.length cF) rfl
    have l2 := T2.out.lt
    clear x2 T1 Y1 a1 b1 l1
    clear HLt
    go_wp2_with fail
    refine ((HLf _ X2.out).out).mono ?_
    rintro e w3 ⟨rfl, x3⟩
    have X3 := hid (X2.out.trans x3)
    have T3 := hid (T2.out.ext x3)
    have Y3 := hid (Y2.out.ext x3)
    have a3 := T3.out.cell (i := 0) (v := .slice A up.length c) rfl
    have b3 := T3.out.cell (i := 1) (v := .slice AF Fl.length cF) rfl
    have l3 := T3.out.lt
    clear x3 T2 Y2 a2 b2 l2
    clear HLf
    go_wp2_with fail
    refine ((HMy _ X3.out).out).mono ?_
    rintro e w4 ⟨rfl, x4⟩
    have X4 := hid (X3.out.trans x4)
    have T4 := hid (T3.out.ext x4)
    have Y4 := hid (Y3.out.ext x4)
    have a4 := T4.out.cell (i := 0) (v := .slice A up.length c) rfl
    have b4 := T4.out.cell (i := 1) (v := .slice AF Fl.length cF) rfl
    have l4 := T4.out.lt
    clear x4 T3 Y3 a3 b3 l3
    clear HMy
    go_wp2_with fail
    refine ((HCk _ X4.out).out).mono ?_
    rintro e w5 ⟨rfl, x5⟩
    have X5 := hid (X4.out.trans x5)
    have T5 := hid (T4.out.ext x5)
    have Y5 := hid (Y4.out.ext x5)
    have a5 := T5.out.cell (i := 0) (v := .slice A up.length c) rfl
    have b5 := T5.out.cell (i := 1) (v := .slice AF Fl.length cF) rfl
    have l5 := T5.out.lt
    clear x5 T4 Y4 a4 b4 l4
    clear HCk
    go_wp2_with fail
    refine ((HAw _ X5.out).out).mono ?_
    rintro e w6 ⟨rfl, x6⟩
    have X6 := hid (X5.out.trans x6)
    clear x6 T5 Y5 a5 b5 l5
    go_wp2_with fail
    go_ret
    exact ⟨by simp, X6.out⟩
  | false =>
    have d2 : decide ((up.length : Int) < r) = true := by
      simp only [Bool.and_eq_false_iff, decide_eq_false_iff_not] at hin d1
      simp; omega
    clear hin
    go_enter Tryz.func4, Tryz.ntmps4
    go_upto_region 1 with fail
    go_cut [3, 4, 5, 6] from 12 (fun s3 s4 s5 s6 wx => ∃ gt gx, s3 = .pointer (some ⟨gt, 0, none⟩) ∧ s4 = .int .i64 r ∧ s5 = .slice Av f.length cv ∧ s6 = .pointer (some ⟨gx, 0, none⟩) ∧ Ext w wx ∧ Blk wx gt 25 #[.slice A up.length c, .slice AF Fl.length cF] ∧ Blk wx gx 32 #[.string x.p, .int .i64 x.size, .bool x.dead])
    case first =>
      go_big_region
      all_goals go_wp2_with fail
      all_goals go_meet
      · have k := two_new w (.cells #[.slice A up.length c, .slice AF Fl.length cF, .int .i64 r, .slice Av f.length cv, .string x.p, .int .i64 x.size, .bool x.dead] 34) #[.slice A up.length c, .slice AF Fl.length cF] #[.string x.p, .int .i64 x.size, .bool x.dead] 25 32
        exact ⟨_, _, rfl, rfl, rfl, rfl, k.1, k.2.1, k.2.2⟩
      · have k := two_new w (.cells #[.slice A up.length c, .slice AF Fl.length cF, .int .i64 r, .slice Av f.length cv, .string x.p, .int .i64 x.size, .bool x.dead] 34) #[.string x.p, .int .i64 x.size, .bool x.dead] #[.slice A up.length c, .slice AF Fl.length cF] 32 25
        exact ⟨_, _, rfl, rfl, rfl, rfl, k.1, k.2.2, k.2.1⟩
    obtain ⟨gt, gx, rfl, rfl, rfl, rfl, hE1, hb1, hb2⟩ := hcut
    have X1 := hid hE1
    have T1 := hid hb1
    have Y1 := hid hb2
    have a1 := hb1.cell (i := 0) (v := .slice A up.length c) rfl
    have b1 := hb1.cell (i := 1) (v := .slice AF Fl.length cF) rfl
    have l1 := hb1.lt
    clear hE1 hb1 hb2
    go_wp2_with fail
    refine ((HLt _ X1.out).out).mono ?_
    rintro e w2 ⟨rfl, x2⟩
    have X2 := hid (X1.out.trans x2)
    have T2 := hid (T1.out.ext x2)
    have Y2 := hid (Y1.out.ext x2)
    have a2 := T2.out.cell (i := 0) (v := .slice A up.length c) rfl
    have b2 := T2.out.cell (i := 1) (v := .slice AF Fl.length cF) rfl
    have l2 := T2.out.lt
    clear x2 T1 Y1 a1 b1 l1
    clear HLt
    go_wp2_with fail
    refine ((HLf _ X2.out).out).mono ?_
    rintro e w3 ⟨rfl, x3⟩
    have X3 := hid (X2.out.trans x3)
    have T3 := hid (T2.out.ext x3)
    have Y3 := hid (Y2.out.ext x3)
    have a3 := T3.out.cell (i := 0) (v := .slice A up.length c) rfl
    have b3 := T3.out.cell (i := 1) (v := .slice AF Fl.length cF) rfl
    have l3 := T3.out.lt
    clear x3 T2 Y2 a2 b2 l2
    clear HLf
    go_wp2_with fail
    refine ((HMy _ X3.out).out).mono ?_
    rintro e w4 ⟨rfl, x4⟩
    have X4 := hid (X3.out.trans x4)
    have T4 := hid (T3.out.ext x4)
    have Y4 := hid (Y3.out.ext x4)
    have a4 := T4.out.cell (i := 0) (v := .slice A up.length c) rfl
    have b4 := T4.out.cell (i := 1) (v := .slice AF Fl.length cF) rfl
    have l4 := T4.out.lt
    clear x4 T3 Y3 a3 b3 l3
    clear HMy
    go_wp2_with fail
    refine ((HCk _ X4.out).out).mono ?_
    rintro e w5 ⟨rfl, x5⟩
    have X5 := hid (X4.out.trans x5)
    have T5 := hid (T4.out.ext x5)
    have Y5 := hid (Y4.out.ext x5)
    have a5 := T5.out.cell (i := 0) (v := .slice A up.length c) rfl
    have b5 := T5.out.cell (i := 1) (v := .slice AF Fl.length cF) rfl
    have l5 := T5.out.lt
    clear x5 T4 Y4 a4 b4 l4
    clear HCk
    go_wp2_with fail
    refine ((HAw _ X5.out).out).mono ?_
    rintro e w6 ⟨rfl, x6⟩
    have X6 := hid (X5.out.trans x6)
    clear x6 T5 Y5 a5 b5 l5
    go_wp2_with fail
    go_ret
    exact ⟨by simp, X6.out⟩
end Go.Proofs.YtjnjamhohnnefaaGreatDoor
