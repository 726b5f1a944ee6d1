/-
  update.Meta, File, MatchMeta, Match; the document's Match.
-/
import Derived.Test.YtgkdiknmjgpgmaaDoorFmB
import Derived.Test.YtgkdiknmjgpgmaaDoorUpA
namespace Go.Proofs.YtgkdiknmjgpgmaaDoor
set_option linter.unusedSimpArgs false
set_option linter.unusedVariables false
open Go.RowKit

structure MetaI where
  item : Ver
  st : Stamp
  p : ByteArray
  size : Int
  dead : Bool
def MetaI.val (u : MetaI) : Value := .agg #[.int .i64 u.item.by_, .int .i64 u.item.n, .int .i64 u.st.v.by_, .int .i64 u.st.v.n, .int .i64 u.st.time, .string u.p, .int .i64 u.size, .bool u.dead]
def metaOf (u : UpdI) : MetaI := ⟨u.item, u.st, u.p, u.d.size, u.dead⟩
def fileOf (u : UpdI) : FileI := ⟨u.p, u.d.size, u.dead⟩
def MetaI.file (m : MetaI) : FileI := ⟨m.p, m.size, m.dead⟩
/-- Does a filter match an update? -/
def matchB (f : List ClauseI) (u : UpdI) : Bool := f.any (hitB (fileOf u))
set_option maxHeartbeats 1000000 in
theorem meta_c (u : UpdI) (w : World) : Calls Tryd.prog 15 #[u.val] w (Ret (metaOf u).val w) := by
  unfold UpdI.val MetaI.val metaOf
  go_enter Tryd.func15, Tryd.ntmps15
  go_wp2_with fail
  exact bodyPost_ret (v := .agg #[.int .i64 u.item.by_, .int .i64 u.item.n, .int .i64 u.st.v.by_, .int .i64 u.st.v.n, .int .i64 u.st.time, .string u.p, .int .i64 u.d.size, .bool u.dead]) (by simp [results, Tryd.results15, go_sem]) rfl ⟨rfl, (Ext.alloc _ _).alloc' _⟩
set_option maxHeartbeats 1000000 in
theorem file1_c (m : MetaI) (w : World) : Calls Tryd.prog 41 #[m.val] w (Ret m.file.val w) := by
  unfold MetaI.val FileI.val MetaI.file
  go_enter Tryd.func41, Tryd.ntmps41
  go_wp2_with fail
  exact bodyPost_ret (v := .agg #[.string m.p, .int .i64 m.size, .bool m.dead]) (by simp [results, Tryd.results41, go_sem]) rfl ⟨rfl, (Ext.alloc _ _).alloc' _⟩
set_option maxHeartbeats 1000000 in
theorem ufile_c (u : UpdI) (w : World) : Calls Tryd.prog 24 #[u.val] w (Ret (fileOf u).val w) := by
  have H1 := fun W => hid (meta_c u W)
  have H2 := fun W => hid (file1_c (metaOf u) W)
  unfold MetaI.file FileI.val at H2
  unfold MetaI.val at H1 H2
  unfold metaOf at H1 H2
  unfold UpdI.val FileI.val fileOf
  have hB := Blk.new (w.alloc (.cells #[.int .i64 u.item.by_, .int .i64 u.item.n, .int .i64 u.st.v.by_, .int .i64 u.st.v.n, .int .i64 u.st.time, .string u.p, .string u.d, .bool u.dead] 28)) 49 #[.string ⟨#[]⟩, .int .i64 0, .bool false]
  rw [World.size_alloc] at hB
  have HB := hid hB
  clear hB
  go_enter Tryd.func24, Tryd.ntmps24
  go_wp2_with (first
    | (go_at_call 41; refine (H2 _).out.mono ?_; rintro e w2 ⟨rfl, hx⟩; have HX2 := hid (HX1.out.trans hx); have hb := HB1.out.ext hx; have c0 := hb.cell (i := 0) rfl; have c1 := hb.cell (i := 1) rfl; have c2 := hb.cell (i := 2) rfl; have f0 := hb.frozen 0; have f1 := hb.frozen 1; have f2 := hb.frozen 2; have lb := hb.lt; clear hx hb)
    | (go_at_call 15; refine (H1 _).out.mono ?_; rintro e w1 ⟨rfl, hx⟩; have HX1 := hid (((Ext.alloc _ _).alloc' _).trans hx); have HB1 := hid (HB.out.ext hx); clear hx))
  exact bodyPost_ret (v := .agg #[.string u.p, .int .i64 u.d.size, .bool u.dead]) (by simp [results, Tryd.results24, go_sem, *]) rfl ⟨rfl, ((HX2.out.setCell' (Nat.le_succ _) _).setCell' (Nat.le_succ _) _).setCell' (Nat.le_succ _) _⟩
set_option maxHeartbeats 1000000 in
theorem matchm_c (w : World) (v : Value) (f : List ClauseI) (m : MetaI) (h : Sl w 3 v (f.map ClauseI.cells)) (hm : m.p.size ≤ 1000) (hf : LightF f) : Calls Tryd.prog 14 #[v, m.val] w (Ret (.bool (f.any (hitB m.file))) w) := by
  have H1 := fun W => hid (file1_c m W)
  have H2 := fun W (hW : Ext w W) => hid (fmatch_c W v f m.file (h.ext hW) hm hf)
  obtain ⟨A, c, rfl, _⟩ := sl_get h
  clear h hf
  generalize f.any (hitB m.file) = r at H2 ⊢
  unfold FileI.val MetaI.file at H1 H2
  unfold MetaI.val at H1 ⊢
  go_enter Tryd.func14, Tryd.ntmps14
  go_wp2_with (first
    | (go_at_call 33; refine (H2 _ HX1.out).out.mono ?_; rintro e w2 ⟨rfl, hx⟩; have HX2 := hid (HX1.out.trans hx); clear hx)
    | (go_at_call 41; refine (H1 _).out.mono ?_; rintro e w1 ⟨rfl, hx⟩; have HX1 := hid ((Ext.alloc _ _).trans hx); clear hx))
  go_ret
  exact ⟨rfl, HX2.out⟩
set_option maxHeartbeats 1000000 in
theorem umatch_c (w : World) (v : Value) (f : List ClauseI) (u : UpdI) (h : Sl w 3 v (f.map ClauseI.cells)) (hu : u.p.size ≤ 1000) (hf : LightF f) : Calls Tryd.prog 13 #[v, u.val] w (Ret (.bool (matchB f u)) w) := by
  have H1 := fun W => hid (meta_c u W)
  have H2 := fun W (hW : Ext w W) => hid (matchm_c W v f (metaOf u) (h.ext hW) hu hf)
  obtain ⟨A, c, rfl, _⟩ := sl_get h
  clear h hf
  have e : f.any (hitB (metaOf u).file) = matchB f u := rfl
  rw [e] at H2
  clear e
  generalize matchB f u = r at H2 ⊢
  unfold MetaI.val metaOf at H1 H2
  unfold UpdI.val at H1 ⊢
  go_enter Tryd.func13, Tryd.ntmps13
  go_wp2_with (first
    | (go_at_call 14; refine (H2 _ HX1.out).out.mono ?_; rintro e w2 ⟨rfl, hx⟩; have HX2 := hid (HX1.out.trans hx); clear hx)
    | (go_at_call 15; refine (H1 _).out.mono ?_; rintro e w1 ⟨rfl, hx⟩; have HX1 := hid ((Ext.alloc _ _).trans hx); clear hx))
  go_ret
  exact ⟨rfl, HX2.out⟩
set_option maxRecDepth 100000 in
set_option maxHeartbeats 1000000 in
theorem rmatch16_c (w : World) (v : Value) (f : List ClauseI) (u : UpdI) (h : Sl w 3 v (f.map ClauseI.cells)) (hu : u.p.size ≤ 1000) (hf : LightF f) : Calls Tryd.prog 12 #[v, u.val] w (Ret (.bool (matchB f u)) w) := by
  have H := fun W (hW : Ext w W) => hid (rmatch09_c W v f (fileOf u) (h.ext hW) hu hf)
  obtain ⟨A, c, rfl, _⟩ := sl_get h
  clear h hf
  have e : f.any (hitB (fileOf u)) = matchB f u := rfl
  rw [e] at H
  clear e
  generalize matchB f u = r at H ⊢
  unfold FileI.val fileOf at H
  unfold UpdI.val
  go_enter Tryd.func12, Tryd.ntmps12
  go_wp2_with (go_at_call 34; refine ((H _ (Ext.alloc _ _)).out).mono ?_; rintro e w3 ⟨rfl, hx⟩; have HX := hid hx; clear hx)
  go_ret
  exact ⟨rfl, (Ext.alloc _ _).trans HX.out⟩
end Go.Proofs.YtgkdiknmjgpgmaaDoor
