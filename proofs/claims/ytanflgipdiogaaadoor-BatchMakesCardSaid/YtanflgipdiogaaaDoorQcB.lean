/-
  msg.entry (written by gen_bte.py).
  '==' of updates, metas and pairs by themselves; the row that msg.entry gives; msg.Size.
-/
import Derived.Test.YtanflgipdiogaaaDoorQcA
namespace Go.Proofs.YtanflgipdiogaaaDoor
set_option linter.unusedSimpArgs false
set_option linter.unusedVariables false
open Go.RowKit

/-- May an entry be? -/
def rightE (e : EntI) : Bool := bareB e && (if e.kind = 1 then rightU e.u else if e.kind = 2 then rightM e.m else pairB e.o)
def entF (e : EntI) : List FldI := if rightE e then (if e.kind = 1 then [fN e.kind, fT (updB e.u)] else if e.kind = 2 then [fN e.kind, fT (metB e.m)] else fN e.kind :: bothF e.o) else []
/-- An entry whose numbers are numbers, and whose texts are not far too long. -/
structure EntOk (e : EntI) : Prop where
  u : e.u.in64
  up : e.u.p.size ≤ 1000
  ud : e.u.d.size ≤ 1000
  m : e.m.in64
  mp : e.m.p.size ≤ 1000
  ms : in64 e.m.size
  k : in64 e.kind
  o : (in64 e.o.a.by_ ∧ in64 e.o.a.n) ∧ (in64 e.o.b.by_ ∧ in64 e.o.b.n)
attribute [-simp] Tryd.isAgg44 Tryd.sizeOf44
set_option maxRecDepth 100000 in
set_option maxHeartbeats 4000000 in
theorem ent_not (w : World) (e : EntI) (hb : bareB e = false) : Calls Tryd.prog 73 #[.agg e.arr] w (Ret (.slice none 0 0) w) := by
  have HE := hid (Ext.alloc w (.cells e.arr 44))
  have HB := hid (Blk.new w 44 e.arr)
  have HBa := fun W => hid (bare_c W e)
  have hz := hid (arr_size e)
  rw [hb] at HBa
  clear hb
  go_enter Tryd.func73, Tryd.ntmps73
  go_wp2_with fail
  generalize w.alloc (.cells e.arr 44) = w0 at HE HB ⊢
  simp only [Tryd.isAgg44, Tryd.sizeOf44, Result.andThen, ↓reduceIte, run_loadCells_blk HB.out 21 hz.out]
  rw [Oper.upon_value]
  go_wp2_with fail
  refine ((HBa _).out).mono ?_
  rintro en w1 ⟨rfl, x1⟩
  have HE1 := hid (HE.out.trans x1)
  have HB1 := hid (HB.out.ext x1)
  clear x1 HE HB HBa
  go_wp2_with fail
  go_ret
  exact ⟨rfl, HE1.out⟩
set_option maxRecDepth 100000 in
set_option maxHeartbeats 4000000 in
theorem ent_upd_no (w : World) (e : EntI) (m : Int) (hm : w.cell? ⟨0, 0, none⟩ = some (.int .i64 m)) (h : EntOk e) (hb : bareB e = true) (d1 : (e.kind == 1) = true) (hr : rightU e.u = false) : Calls Tryd.prog 73 #[.agg e.arr] w (Ret (.slice none 0 0) w) := by
  have HP := fun W (hW : Ext w W) => hid (putU_c W e.u m (hW.cell hm) (by have := h.up; omega) h.u)
  have HN := fun W n => hid (fN_c W n)
  have HT := fun W s => hid (fT_c W s)
  have HE := hid (Ext.alloc w (.cells e.arr 44))
  have HB := hid (Blk.new w 44 e.arr)
  have HBa := fun W => hid (bare_c W e)
  have hz := hid (arr_size e)
  rw [hb] at HBa
  rw [hr] at HP
  rw [show putB false (updB e.u) = ⟨#[]⟩ from rfl, show okZ false = 2 from rfl] at HP
  clear hb hr h hm
  go_enter Tryd.func73, Tryd.ntmps73
  go_wp2_with fail
  generalize w.alloc (.cells e.arr 44) = w0 at HE HB ⊢
  simp only [Tryd.isAgg44, Tryd.sizeOf44, Result.andThen, ↓reduceIte, run_loadCells_blk HB.out 21 hz.out]
  rw [Oper.upon_value]
  go_wp2_with fail
  refine ((HBa _).out).mono ?_
  rintro en w1 ⟨rfl, x1⟩
  have HE1 := hid (HE.out.trans x1)
  have HB1 := hid (HB.out.ext x1)
  clear x1 HE HB HBa
  have c0 := HB1.out.cell (i := 0) (v := .int .i64 e.kind) rfl
  have c1 := HB1.out.cell (i := 1) (v := .int .i64 e.u.item.by_) rfl
  have c2 := HB1.out.cell (i := 2) (v := .int .i64 e.u.item.n) rfl
  have c3 := HB1.out.cell (i := 3) (v := .int .i64 e.u.st.v.by_) rfl
  have c4 := HB1.out.cell (i := 4) (v := .int .i64 e.u.st.v.n) rfl
  have c5 := HB1.out.cell (i := 5) (v := .int .i64 e.u.st.time) rfl
  have c6 := HB1.out.cell (i := 6) (v := .string e.u.p) rfl
  have c7 := HB1.out.cell (i := 7) (v := .string e.u.d) rfl
  have c8 := HB1.out.cell (i := 8) (v := .bool e.u.dead) rfl
  have cl := HB1.out.lt
  go_wp2_with fail
  refine ((HP _ HE1.out).out).mono ?_
  rintro en w2 ⟨rfl, x2⟩
  have HE2 := hid (HE1.out.trans x2)
  have HB2 := hid (HB1.out.ext x2)
  clear c0 c1 c2 c3 c4 c5 c6 c7 c8 cl
  clear x2 HE1 HB1 HP
  go_wp2_with fail
  go_ret
  exact ⟨rfl, HE2.out⟩
set_option maxRecDepth 100000 in
set_option maxHeartbeats 4000000 in
theorem ent_upd_yes (w : World) (e : EntI) (m : Int) (hm : w.cell? ⟨0, 0, none⟩ = some (.int .i64 m)) (h : EntOk e) (hb : bareB e = true) (d1 : (e.kind == 1) = true) (hr : rightU e.u = true) : Calls Tryd.prog 73 #[.agg e.arr] w (RetQ (OwnF [fN e.kind, fT (updB e.u)] w.heap.size) w) := by
  have HP := fun W (hW : Ext w W) => hid (putU_c W e.u m (hW.cell hm) (by have := h.up; omega) h.u)
  have HN := fun W n => hid (fN_c W n)
  have HT := fun W s => hid (fT_c W s)
  have HE := hid (Ext.alloc w (.cells e.arr 44))
  have HB := hid (Blk.new w 44 e.arr)
  have HBa := fun W => hid (bare_c W e)
  have hz := hid (arr_size e)
  rw [hb] at HBa
  rw [hr] at HP
  rw [show putB true (updB e.u) = updB e.u from rfl, show okZ true = 0 from rfl] at HP
  clear hb hr h hm
  go_enter Tryd.func73, Tryd.ntmps73
  go_wp2_with fail
  generalize w.alloc (.cells e.arr 44) = w0 at HE HB ⊢
  simp only [Tryd.isAgg44, Tryd.sizeOf44, Result.andThen, ↓reduceIte, run_loadCells_blk HB.out 21 hz.out]
  rw [Oper.upon_value]
  go_wp2_with fail
  refine ((HBa _).out).mono ?_
  rintro en w1 ⟨rfl, x1⟩
  have HE1 := hid (HE.out.trans x1)
  have HB1 := hid (HB.out.ext x1)
  clear x1 HE HB HBa
  have c0 := HB1.out.cell (i := 0) (v := .int .i64 e.kind) rfl
  have c1 := HB1.out.cell (i := 1) (v := .int .i64 e.u.item.by_) rfl
  have c2 := HB1.out.cell (i := 2) (v := .int .i64 e.u.item.n) rfl
  have c3 := HB1.out.cell (i := 3) (v := .int .i64 e.u.st.v.by_) rfl
  have c4 := HB1.out.cell (i := 4) (v := .int .i64 e.u.st.v.n) rfl
  have c5 := HB1.out.cell (i := 5) (v := .int .i64 e.u.st.time) rfl
  have c6 := HB1.out.cell (i := 6) (v := .string e.u.p) rfl
  have c7 := HB1.out.cell (i := 7) (v := .string e.u.d) rfl
  have c8 := HB1.out.cell (i := 8) (v := .bool e.u.dead) rfl
  have cl := HB1.out.lt
  go_wp2_with fail
  refine ((HP _ HE1.out).out).mono ?_
  rintro en w2 ⟨rfl, x2⟩
  have HE2 := hid (HE1.out.trans x2)
  have HB2 := hid (HB1.out.ext x2)
  clear c0 c1 c2 c3 c4 c5 c6 c7 c8 cl
  clear x2 HE1 HB1 HP
  have c0 := HB2.out.cell (i := 0) (v := .int .i64 e.kind) rfl
  have cl := HB2.out.lt
  go_wp2_with fail
  refine ((HN _ _).out).mono ?_
  rintro en w3 ⟨rfl, x3⟩
  have HE3 := hid (HE2.out.trans x3)
  clear x3 HE2 HB2 c0 cl
  go_wp2_with fail
  refine ((HT _ _).out).mono ?_
  rintro en w4 ⟨rfl, x4⟩
  have HE4 := hid (HE3.out.trans x4)
  clear x4 HE3
  have HO : Hid (OwnF [fN e.kind, fT (updB e.u)] w.heap.size (.slice (some ⟨w4.heap.size, 0, none⟩) 2 2) (w4.alloc (.cells #[.int .i64 e.kind, .string ⟨#[]⟩, .bool false, .int .i64 0, .string (updB e.u), .bool true] 106))) := own_two w4 HE4.out.size (fN e.kind) (fT (updB e.u))
  go_wp2_with fail
  go_ret
  exact ⟨_, rfl, HO.out, HE4.out.alloc' _⟩
set_option maxRecDepth 100000 in
set_option maxHeartbeats 4000000 in
theorem ent_met_no (w : World) (e : EntI) (m : Int) (hm : w.cell? ⟨0, 0, none⟩ = some (.int .i64 m)) (h : EntOk e) (hb : bareB e = true) (d1 : (e.kind == 1) = false) (d2 : (e.kind == 2) = true) (hr : rightM e.m = false) : Calls Tryd.prog 73 #[.agg e.arr] w (Ret (.slice none 0 0) w) := by
  have HP := fun W (hW : Ext w W) => hid (putM_c W e.m m (hW.cell hm) (by have := h.mp; omega) h.m)
  have HN := fun W n => hid (fN_c W n)
  have HT := fun W s => hid (fT_c W s)
  have HE := hid (Ext.alloc w (.cells e.arr 44))
  have HB := hid (Blk.new w 44 e.arr)
  have HBa := fun W => hid (bare_c W e)
  have hz := hid (arr_size e)
  rw [hb] at HBa
  rw [hr] at HP
  rw [show putB false (metB e.m) = ⟨#[]⟩ from rfl, show okZ false = 2 from rfl] at HP
  clear hb hr h hm
  go_enter Tryd.func73, Tryd.ntmps73
  go_wp2_with fail
  generalize w.alloc (.cells e.arr 44) = w0 at HE HB ⊢
  simp only [Tryd.isAgg44, Tryd.sizeOf44, Result.andThen, ↓reduceIte, run_loadCells_blk HB.out 21 hz.out]
  rw [Oper.upon_value]
  go_wp2_with fail
  refine ((HBa _).out).mono ?_
  rintro en w1 ⟨rfl, x1⟩
  have HE1 := hid (HE.out.trans x1)
  have HB1 := hid (HB.out.ext x1)
  clear x1 HE HB HBa
  have c0 := HB1.out.cell (i := 0) (v := .int .i64 e.kind) rfl
  have c9 := HB1.out.cell (i := 9) (v := .int .i64 e.m.item.by_) rfl
  have c10 := HB1.out.cell (i := 10) (v := .int .i64 e.m.item.n) rfl
  have c11 := HB1.out.cell (i := 11) (v := .int .i64 e.m.st.v.by_) rfl
  have c12 := HB1.out.cell (i := 12) (v := .int .i64 e.m.st.v.n) rfl
  have c13 := HB1.out.cell (i := 13) (v := .int .i64 e.m.st.time) rfl
  have c14 := HB1.out.cell (i := 14) (v := .string e.m.p) rfl
  have c15 := HB1.out.cell (i := 15) (v := .int .i64 e.m.size) rfl
  have c16 := HB1.out.cell (i := 16) (v := .bool e.m.dead) rfl
  have cl := HB1.out.lt
  go_wp2_with fail
  refine ((HP _ HE1.out).out).mono ?_
  rintro en w2 ⟨rfl, x2⟩
  have HE2 := hid (HE1.out.trans x2)
  have HB2 := hid (HB1.out.ext x2)
  clear c0 c9 c10 c11 c12 c13 c14 c15 c16 cl
  clear x2 HE1 HB1 HP
  go_wp2_with fail
  go_ret
  exact ⟨rfl, HE2.out⟩
set_option maxRecDepth 100000 in
set_option maxHeartbeats 4000000 in
theorem ent_met_yes (w : World) (e : EntI) (m : Int) (hm : w.cell? ⟨0, 0, none⟩ = some (.int .i64 m)) (h : EntOk e) (hb : bareB e = true) (d1 : (e.kind == 1) = false) (d2 : (e.kind == 2) = true) (hr : rightM e.m = true) : Calls Tryd.prog 73 #[.agg e.arr] w (RetQ (OwnF [fN e.kind, fT (metB e.m)] w.heap.size) w) := by
  have HP := fun W (hW : Ext w W) => hid (putM_c W e.m m (hW.cell hm) (by have := h.mp; omega) h.m)
  have HN := fun W n => hid (fN_c W n)
  have HT := fun W s => hid (fT_c W s)
  have HE := hid (Ext.alloc w (.cells e.arr 44))
  have HB := hid (Blk.new w 44 e.arr)
  have HBa := fun W => hid (bare_c W e)
  have hz := hid (arr_size e)
  rw [hb] at HBa
  rw [hr] at HP
  rw [show putB true (metB e.m) = metB e.m from rfl, show okZ true = 0 from rfl] at HP
  clear hb hr h hm
  go_enter Tryd.func73, Tryd.ntmps73
  go_wp2_with fail
  generalize w.alloc (.cells e.arr 44) = w0 at HE HB ⊢
  simp only [Tryd.isAgg44, Tryd.sizeOf44, Result.andThen, ↓reduceIte, run_loadCells_blk HB.out 21 hz.out]
  rw [Oper.upon_value]
  go_wp2_with fail
  refine ((HBa _).out).mono ?_
  rintro en w1 ⟨rfl, x1⟩
  have HE1 := hid (HE.out.trans x1)
  have HB1 := hid (HB.out.ext x1)
  clear x1 HE HB HBa
  have c0 := HB1.out.cell (i := 0) (v := .int .i64 e.kind) rfl
  have c9 := HB1.out.cell (i := 9) (v := .int .i64 e.m.item.by_) rfl
  have c10 := HB1.out.cell (i := 10) (v := .int .i64 e.m.item.n) rfl
  have c11 := HB1.out.cell (i := 11) (v := .int .i64 e.m.st.v.by_) rfl
  have c12 := HB1.out.cell (i := 12) (v := .int .i64 e.m.st.v.n) rfl
  have c13 := HB1.out.cell (i := 13) (v := .int .i64 e.m.st.time) rfl
  have c14 := HB1.out.cell (i := 14) (v := .string e.m.p) rfl
  have c15 := HB1.out.cell (i := 15) (v := .int .i64 e.m.size) rfl
  have c16 := HB1.out.cell (i := 16) (v := .bool e.m.dead) rfl
  have cl := HB1.out.lt
  go_wp2_with fail
  refine ((HP _ HE1.out).out).mono ?_
  rintro en w2 ⟨rfl, x2⟩
  have HE2 := hid (HE1.out.trans x2)
  have HB2 := hid (HB1.out.ext x2)
  clear c0 c9 c10 c11 c12 c13 c14 c15 c16 cl
  clear x2 HE1 HB1 HP
  have c0 := HB2.out.cell (i := 0) (v := .int .i64 e.kind) rfl
  have cl := HB2.out.lt
  go_wp2_with fail
  refine ((HN _ _).out).mono ?_
  rintro en w3 ⟨rfl, x3⟩
  have HE3 := hid (HE2.out.trans x3)
  clear x3 HE2 HB2 c0 cl
  go_wp2_with fail
  refine ((HT _ _).out).mono ?_
  rintro en w4 ⟨rfl, x4⟩
  have HE4 := hid (HE3.out.trans x4)
  clear x4 HE3
  have HO : Hid (OwnF [fN e.kind, fT (metB e.m)] w.heap.size (.slice (some ⟨w4.heap.size, 0, none⟩) 2 2) (w4.alloc (.cells #[.int .i64 e.kind, .string ⟨#[]⟩, .bool false, .int .i64 0, .string (metB e.m), .bool true] 106))) := own_two w4 HE4.out.size (fN e.kind) (fT (metB e.m))
  go_wp2_with fail
  go_ret
  exact ⟨_, rfl, HO.out, HE4.out.alloc' _⟩
set_option maxRecDepth 100000 in
set_option maxHeartbeats 4000000 in
theorem ent_out_no (w : World) (e : EntI) (hb : bareB e = true) (d1 : (e.kind == 1) = false) (d2 : (e.kind == 2) = false) (hr : pairB e.o = false) : Calls Tryd.prog 73 #[.agg e.arr] w (Ret (.slice none 0 0) w) := by
  have HP := fun W => hid (mpair_c W e.o)
  unfold PairI.val at HP
  have HE := hid (Ext.alloc w (.cells e.arr 44))
  have HB := hid (Blk.new w 44 e.arr)
  have HBa := fun W => hid (bare_c W e)
  have hz := hid (arr_size e)
  rw [hb] at HBa
  rw [hr] at HP
  clear hb hr
  go_enter Tryd.func73, Tryd.ntmps73
  go_wp2_with fail
  generalize w.alloc (.cells e.arr 44) = w0 at HE HB ⊢
  simp only [Tryd.isAgg44, Tryd.sizeOf44, Result.andThen, ↓reduceIte, run_loadCells_blk HB.out 21 hz.out]
  rw [Oper.upon_value]
  go_wp2_with fail
  refine ((HBa _).out).mono ?_
  rintro en w1 ⟨rfl, x1⟩
  have HE1 := hid (HE.out.trans x1)
  have HB1 := hid (HB.out.ext x1)
  clear x1 HE HB HBa
  have c0 := HB1.out.cell (i := 0) (v := .int .i64 e.kind) rfl
  have c17 := HB1.out.cell (i := 17) (v := .int .i64 e.o.a.by_) rfl
  have c18 := HB1.out.cell (i := 18) (v := .int .i64 e.o.a.n) rfl
  have c19 := HB1.out.cell (i := 19) (v := .int .i64 e.o.b.by_) rfl
  have c20 := HB1.out.cell (i := 20) (v := .int .i64 e.o.b.n) rfl
  have cl := HB1.out.lt
  go_wp2_with fail
  refine ((HP _).out).mono ?_
  rintro en w2 ⟨rfl, x2⟩
  have HE2 := hid (HE1.out.trans x2)
  clear c0 c17 c18 c19 c20 cl
  clear x2 HE1 HB1 HP
  go_wp2_with fail
  go_ret
  exact ⟨rfl, HE2.out⟩
set_option maxRecDepth 100000 in
set_option maxHeartbeats 4000000 in
theorem ent_out_yes (w : World) (e : EntI) (hb : bareB e = true) (d1 : (e.kind == 1) = false) (d2 : (e.kind == 2) = false) (hr : pairB e.o = true) : Calls Tryd.prog 73 #[.agg e.arr] w (RetQ (OwnF (fN e.kind :: bothF e.o) w.heap.size) w) := by
  have HP := fun W => hid (mpair_c W e.o)
  have HN := fun W n => hid (fN_c W n)
  have HBo : ∀ W : World, w.heap.size ≤ W.heap.size → Hid (Calls Tryd.prog 99 #[e.o.val] W (RetQ (OwnF (bothF e.o) w.heap.size) W)) := fun W hW => (both_c W e.o).mono fun e w' ⟨v, e1, e2, e4⟩ => ⟨v, e1, e2.weak hW, e4⟩
  unfold PairI.val at HP HBo
  have HE := hid (Ext.alloc w (.cells e.arr 44))
  have HB := hid (Blk.new w 44 e.arr)
  have HBa := fun W => hid (bare_c W e)
  have hz := hid (arr_size e)
  rw [hb] at HBa
  rw [hr] at HP
  clear hb hr
  go_enter Tryd.func73, Tryd.ntmps73
  go_wp2_with fail
  generalize w.alloc (.cells e.arr 44) = w0 at HE HB ⊢
  simp only [Tryd.isAgg44, Tryd.sizeOf44, Result.andThen, ↓reduceIte, run_loadCells_blk HB.out 21 hz.out]
  rw [Oper.upon_value]
  go_wp2_with fail
  refine ((HBa _).out).mono ?_
  rintro en w1 ⟨rfl, x1⟩
  have HE1 := hid (HE.out.trans x1)
  have HB1 := hid (HB.out.ext x1)
  clear x1 HE HB HBa
  have c0 := HB1.out.cell (i := 0) (v := .int .i64 e.kind) rfl
  have c17 := HB1.out.cell (i := 17) (v := .int .i64 e.o.a.by_) rfl
  have c18 := HB1.out.cell (i := 18) (v := .int .i64 e.o.a.n) rfl
  have c19 := HB1.out.cell (i := 19) (v := .int .i64 e.o.b.by_) rfl
  have c20 := HB1.out.cell (i := 20) (v := .int .i64 e.o.b.n) rfl
  have cl := HB1.out.lt
  go_wp2_with fail
  refine ((HP _).out).mono ?_
  rintro en w2 ⟨rfl, x2⟩
  have HE2 := hid (HE1.out.trans x2)
  have HB2 := hid (HB1.out.ext x2)
  clear c0 c17 c18 c19 c20 cl
  clear x2 HE1 HB1 HP
  have c0 := HB2.out.cell (i := 0) (v := .int .i64 e.kind) rfl
  have c17 := HB2.out.cell (i := 17) (v := .int .i64 e.o.a.by_) rfl
  have c18 := HB2.out.cell (i := 18) (v := .int .i64 e.o.a.n) rfl
  have c19 := HB2.out.cell (i := 19) (v := .int .i64 e.o.b.by_) rfl
  have c20 := HB2.out.cell (i := 20) (v := .int .i64 e.o.b.n) rfl
  have cl := HB2.out.lt
  go_wp2_with fail
  have HWs := hid HE2.out.size
  refine wp_region_two (pre := ?pre15) (z1 := ?z115) (z2 := ?z215) ?hpre15 ?hz115 ?hz215 (by kernel_rfl) (by kernel_rfl) (by kernel_rfl) (by kernel_rfl) (by kernel_rfl) ?_
  case hpre15 => (simp only [List.dropLast_cons_cons, List.dropLast_singleton]; first | done | exact rfl)
  case hz115 => (simp only [List.dropLast_cons_cons, List.dropLast_singleton, List.getLast?_cons_cons, List.getLast?_singleton]; first | done | exact rfl)
  case hz215 => (simp only [List.getLast?_cons_cons, List.getLast?_singleton]; first | done | exact rfl)
  repeat (first
    | (refine AWq.val rfl rfl rfl rfl (fun K hK => ?_); go_big_quiet_op; refine hK _ ?_; clear hK K)
    | (refine AWq.skip rfl rfl rfl ?_; simp only [Act.put, List.setIfInBounds_toArray, List.set_cons_succ, List.set_cons_zero])
    | (refine AWq.call rfl Tryd.func50 (by kernel_rfl) (by kernel_rfl) rfl rfl rfl ?_; apply Exists.intro; refine And.intro (fun wc hc => ?_) ?_; (· (simp only [argsOf, anyAt, ↓reduceIte, Nat.reduceEqDiff, Array.getD_eq_getD_getElem?, List.getElem?_toArray, List.getElem?_cons_succ, List.getElem?_cons_zero, Option.getD_some]; with_reducible exact (HN _ _).out)); simp only [Act.put, List.setIfInBounds_toArray, List.set_cons_succ, List.set_cons_zero])
    | (refine AWq.opV (fun u W => OwnF [fN e.kind] w.heap.size u W) (fun u _ _ he h => OwnF.ext h he) rfl rfl rfl rfl (fun wc hc => ?_) ?_; (· (have hc2 := Nat.le_trans HWs.out hc.size; have hc' := hc.rule; clear hc; go_simp; dsimp only [Gives]; exact ⟨own_lit hc2 106 3 1 #[.int .i64 e.kind, .string ⟨#[]⟩, .bool false] (by unfold maxLen; omega) rfl, Ext.alloc _ _⟩)))
    | (refine AWq.callQ ((fun u W => OwnF (bothF e.o) w.heap.size u W)) ((fun u _ _ he h => OwnF.ext h he)) rfl Tryd.func99 (by kernel_rfl) (by kernel_rfl) rfl rfl rfl (fun wc hc => ?_) ?_; (· (simp only [argsOf, anyAt, ↓reduceIte, Nat.reduceEqDiff, Array.getD_eq_getD_getElem?, List.getElem?_toArray, List.getElem?_cons_succ, List.getElem?_cons_zero, Option.getD_some]; with_reducible exact (HBo wc (Nat.le_trans HWs.out hc.size)).out))))
  refine AWq.two rfl rfl rfl (fun w3 x3 => ?_)
  simp only [closeAny, Act.put, List.setIfInBounds_toArray, List.set_cons_succ, List.set_cons_zero]
  intro v39 h39 v36 h36
  obtain ⟨v4, w4, hrun, hO4, hk4⟩ := h36.app (Nat.le_trans HWs.out x3.size) h39.sl (by simp) (by simp [bothF])
  have HEnd : Hid (Ext w w4) := hk4.toExt (HE2.out.trans x3) fun q hq => (row_block h36 q hq).1
  have HO := hid hO4
  clear c0 c17 c18 c19 c20 cl
  clear hO4 hk4 h36 h39
  at_builtin
  refine wpList_app rfl (.tmp 36) (.tmp 39) _ _ rfl rfl rfl hrun ?_
  go_wp2_with fail
  go_ret
  exact ⟨_, rfl, HO.out, HEnd.out⟩
end Go.Proofs.YtanflgipdiogaaaDoor
namespace Go.Proofs.YtanflgipdiogaaaDoor
set_option linter.unusedSimpArgs false
set_option linter.unusedVariables false
open Go.RowKit

set_option maxHeartbeats 1000000 in
theorem run_eqH_st (a1 a2 a3 b1 b2 b3 : Int) (w : World) : (Op.equalIn 9999 36 (.agg #[.int .i64 a1, .int .i64 a2, .int .i64 a3]) (.agg #[.int .i64 b1, .int .i64 b2, .int .i64 b3])).run Tryd.prog w = .ok (decide ((⟨⟨a1, a2⟩, a3⟩ : Stamp) = ⟨⟨b1, b2⟩, b3⟩)) w := by
  by_cases h1 : (⟨a1, a2⟩ : Ver) = ⟨b1, b2⟩ <;> by_cases h2 : a3 = b3 <;> simp [go_sem, h1, h2, st_eq]
attribute [go_sem 2000] run_eqH_st
set_option maxRecDepth 100000 in
set_option maxHeartbeats 4000000 in
theorem run_eqH_upd (a b : UpdI) (w : World) : (Op.equalIn 10000 38 a.val b.val).run Tryd.prog w = .ok (decide (a = b)) w := by
  obtain ⟨⟨a1, a2⟩, ⟨⟨a3, a4⟩, a5⟩, ap, ad, ax⟩ := a
  obtain ⟨⟨b1, b2⟩, ⟨⟨b3, b4⟩, b5⟩, bp, bd, bx⟩ := b
  have hp : (ap.toList == bp.toList) = decide (ap = bp) := beq_toList ap bp
  have hd : (ad.toList == bd.toList) = decide (ad = bd) := beq_toList ad bd
  unfold UpdI.val
  by_cases h1 : (⟨a1, a2⟩ : Ver) = ⟨b1, b2⟩ <;> by_cases h2 : (⟨⟨a3, a4⟩, a5⟩ : Stamp) = ⟨⟨b3, b4⟩, b5⟩ <;> by_cases h3 : ap = bp <;> by_cases h4 : ad = bd <;> by_cases h5 : ax = bx <;> simp [go_sem, h1, h2, h3, h4, h5, hp, hd, up_eq]
theorem eqU_top (a1 a2 a3 a4 a5 b1 b2 b3 b4 b5 : Int) (ap ad bp bd : ByteArray) (ax bx : Bool) (w : World) : (Op.equalIn 10000 38 (.agg #[.int .i64 a1, .int .i64 a2, .int .i64 a3, .int .i64 a4, .int .i64 a5, .string ap, .string ad, .bool ax]) (.agg #[.int .i64 b1, .int .i64 b2, .int .i64 b3, .int .i64 b4, .int .i64 b5, .string bp, .string bd, .bool bx])).run Tryd.prog w = .ok (decide ((⟨⟨a1, a2⟩, ⟨⟨a3, a4⟩, a5⟩, ap, ad, ax⟩ : UpdI) = ⟨⟨b1, b2⟩, ⟨⟨b3, b4⟩, b5⟩, bp, bd, bx⟩)) w := run_eqH_upd ⟨⟨a1, a2⟩, ⟨⟨a3, a4⟩, a5⟩, ap, ad, ax⟩ ⟨⟨b1, b2⟩, ⟨⟨b3, b4⟩, b5⟩, bp, bd, bx⟩ w
set_option maxRecDepth 100000 in
set_option maxHeartbeats 4000000 in
theorem run_eqH_met (a b : MetaI) (w : World) : (Op.equalIn 10000 40 a.val b.val).run Tryd.prog w = .ok (decide (a = b)) w := by
  obtain ⟨⟨a1, a2⟩, ⟨⟨a3, a4⟩, a5⟩, ap, ad, ax⟩ := a
  obtain ⟨⟨b1, b2⟩, ⟨⟨b3, b4⟩, b5⟩, bp, bd, bx⟩ := b
  have hp : (ap.toList == bp.toList) = decide (ap = bp) := beq_toList ap bp
  unfold MetaI.val
  by_cases h1 : (⟨a1, a2⟩ : Ver) = ⟨b1, b2⟩ <;> by_cases h2 : (⟨⟨a3, a4⟩, a5⟩ : Stamp) = ⟨⟨b3, b4⟩, b5⟩ <;> by_cases h3 : ap = bp <;> by_cases h4 : ad = bd <;> by_cases h5 : ax = bx <;> simp [go_sem, h1, h2, h3, h4, h5, hp, me_eq]
theorem eqM_top (a1 a2 a3 a4 a5 b1 b2 b3 b4 b5 ad bd : Int) (ap bp : ByteArray) (ax bx : Bool) (w : World) : (Op.equalIn 10000 40 (.agg #[.int .i64 a1, .int .i64 a2, .int .i64 a3, .int .i64 a4, .int .i64 a5, .string ap, .int .i64 ad, .bool ax]) (.agg #[.int .i64 b1, .int .i64 b2, .int .i64 b3, .int .i64 b4, .int .i64 b5, .string bp, .int .i64 bd, .bool bx])).run Tryd.prog w = .ok (decide ((⟨⟨a1, a2⟩, ⟨⟨a3, a4⟩, a5⟩, ap, ad, ax⟩ : MetaI) = ⟨⟨b1, b2⟩, ⟨⟨b3, b4⟩, b5⟩, bp, bd, bx⟩)) w := run_eqH_met ⟨⟨a1, a2⟩, ⟨⟨a3, a4⟩, a5⟩, ap, ad, ax⟩ ⟨⟨b1, b2⟩, ⟨⟨b3, b4⟩, b5⟩, bp, bd, bx⟩ w
set_option maxRecDepth 100000 in
set_option maxHeartbeats 4000000 in
theorem run_eqH_pair (a b : PairI) (w : World) : (Op.equalIn 10000 42 a.val b.val).run Tryd.prog w = .ok (decide (a = b)) w := by
  obtain ⟨⟨a1, a2⟩, ⟨a3, a4⟩⟩ := a
  obtain ⟨⟨b1, b2⟩, ⟨b3, b4⟩⟩ := b
  unfold PairI.val
  by_cases h1 : (⟨a1, a2⟩ : Ver) = ⟨b1, b2⟩ <;> by_cases h2 : (⟨a3, a4⟩ : Ver) = ⟨b3, b4⟩ <;> simp [go_sem, h1, h2, pa_eq]
theorem eqP_top (a1 a2 a3 a4 b1 b2 b3 b4 : Int) (w : World) : (Op.equalIn 10000 42 (.agg #[.int .i64 a1, .int .i64 a2, .int .i64 a3, .int .i64 a4]) (.agg #[.int .i64 b1, .int .i64 b2, .int .i64 b3, .int .i64 b4])).run Tryd.prog w = .ok (decide ((⟨⟨a1, a2⟩, ⟨a3, a4⟩⟩ : PairI) = ⟨⟨b1, b2⟩, ⟨b3, b4⟩⟩)) w := run_eqH_pair ⟨⟨a1, a2⟩, ⟨a3, a4⟩⟩ ⟨⟨b1, b2⟩, ⟨b3, b4⟩⟩ w
attribute [go_sem 2000] eqU_top eqM_top eqP_top
theorem rightM_iff' (u : MetaI) : rightM u = true ↔ u.chk = 0 := by unfold rightM; exact decide_eq_true_iff
theorem entry_c (w : World) (e : EntI) (m : Int) (hm : w.cell? ⟨0, 0, none⟩ = some (.int .i64 m)) (h : EntOk e) : Calls Tryd.prog 73 #[.agg e.arr] w (RetQ (RowAt FldI.cells 3 (entF e)) w) := by
  have hnil : ∀ {en w'}, Ret (.slice none 0 0) w en w' → RetQ (RowAt FldI.cells 3 []) w en w' := fun ⟨a, b⟩ => ⟨_, a, RowAt.nil _, b⟩
  have hrow : ∀ {l en w'}, 0 < l.length → RetQ (OwnF l w.heap.size) w en w' → RetQ (RowAt FldI.cells 3 l) w en w' := fun hl ⟨v, a, b, c⟩ => ⟨v, a, ⟨b.sl, fun h => by omega⟩, c⟩
  unfold entF rightE
  cases hb : bareB e with
  | false => rw [Bool.false_and, if_neg (by simp)]; exact (ent_not w e hb).mono fun _ _ => hnil
  | true =>
    rw [Bool.true_and]
    by_cases h1 : e.kind = 1
    · rw [if_pos h1, if_pos h1]
      have d1 : (e.kind == 1) = true := by simp [h1]
      cases hr : rightU e.u with
      | false => rw [if_neg (by simp)]; exact (ent_upd_no w e m hm h hb d1 hr).mono fun _ _ => hnil
      | true => rw [if_pos rfl]; exact (ent_upd_yes w e m hm h hb d1 hr).mono fun _ _ => hrow (by simp)
    · rw [if_neg h1, if_neg h1]
      have d1 : (e.kind == 1) = false := by simp [h1]
      by_cases h2 : e.kind = 2
      · rw [if_pos h2, if_pos h2]
        have d2 : (e.kind == 2) = true := by simp [h2]
        cases hr : rightM e.m with
        | false => rw [if_neg (by simp)]; exact (ent_met_no w e m hm h hb d1 d2 hr).mono fun _ _ => hnil
        | true => rw [if_pos rfl]; exact (ent_met_yes w e m hm h hb d1 d2 hr).mono fun _ _ => hrow (by simp)
      · rw [if_neg h2, if_neg h2]
        have d2 : (e.kind == 2) = false := by simp [h2]
        cases hr : pairB e.o with
        | false => rw [if_neg (by simp)]; exact (ent_out_no w e hb d1 d2 hr).mono fun _ _ => hnil
        | true => rw [if_pos rfl]; exact (ent_out_yes w e hb d1 d2 hr).mono fun _ _ => hrow (by simp)
/-- How many bytes an entry has. -/
def sizeE (e : EntI) : Nat := (encL (entF e)).length
theorem encL_two (a b : FldI) : (encL [a, b]).length = a.enc.length + b.enc.length := by simp [encL]
theorem enc_N {n : Int} (h1 : n ≤ 9223372036854775807) : (fN n).enc.length ≤ 9 := lebL_9 (n := n.toNat) (by omega)
theorem enc_T {s : ByteArray} (h : s.size ≤ 100000) : (fT s).enc.length ≤ 9 + s.size := by
  show (lebL s.size ++ s.data.toList).length ≤ _
  have := lebL_9 (n := s.size) (by omega)
  have h2 : s.data.toList.length = s.size := by rw [Array.length_toList]; rfl
  rw [List.length_append]; omega
theorem entF_ok {e : EntI} (h : EntOk e) (hr : rightE e = true) : (∀ f ∈ entF e, f.ok) ∧ 0 < (entF e).length ∧ (encL (entF e)).length ≤ 1000 := by
  have hk := h.k.2
  unfold entF
  rw [if_pos hr]
  unfold rightE at hr
  rw [Bool.and_eq_true] at hr
  by_cases h1 : e.kind = 1
  · rw [if_pos h1] at hr ⊢
    have hs := updB_size h.u (rightful hr.2)
    refine ⟨fun f hf => ?_, by simp, ?_⟩
    · simp only [List.mem_cons, List.not_mem_nil, or_false] at hf
      rcases hf with rfl | rfl
      · exact ⟨Nat.zero_le _, fun _ => by show 0 ≤ e.kind; omega, hk⟩
      · exact ⟨by show (updB e.u).size ≤ _; omega, fun h => (by (have h : true = false := h); cases h), by show (0 : Int) ≤ _; omega⟩
    · rw [encL_two]
      have := enc_N hk
      have := enc_T (s := updB e.u) (by omega)
      omega
  · rw [if_neg h1] at hr ⊢
    by_cases h2 : e.kind = 2
    · rw [if_pos h2] at hr ⊢
      have hs := metB_size h.m (rightfulM ((rightM_iff' e.m).1 hr.2))
      refine ⟨fun f hf => ?_, by simp, ?_⟩
      · simp only [List.mem_cons, List.not_mem_nil, or_false] at hf
        rcases hf with rfl | rfl
        · exact ⟨Nat.zero_le _, fun _ => by show 0 ≤ e.kind; omega, hk⟩
        · exact ⟨by show (metB e.m).size ≤ _; omega, fun h => (by (have h : true = false := h); cases h), by show (0 : Int) ≤ _; omega⟩
      · rw [encL_two]
        have := enc_N hk
        have := enc_T (s := metB e.m) (by omega)
        omega
    · rw [if_neg h2] at hr ⊢
      have h3 : e.kind = 3 := by
        have hb := hr.1
        unfold bareB at hb
        rw [if_neg h1, if_neg h2, decide_eq_true_eq] at hb
        exact hb.1
      have hp := hr.2
      unfold pairB rightV at hp
      simp only [Bool.and_eq_true, decide_eq_true_eq] at hp
      obtain ⟨⟨o1, o2⟩, o3, o4⟩ := h.o
      unfold in64 at o1 o2 o3 o4
      refine ⟨fun f hf => ?_, by simp, ?_⟩
      · simp only [bothF, List.mem_cons, List.not_mem_nil, or_false] at hf
        rcases hf with rfl | rfl | rfl | rfl | rfl
        · exact ⟨Nat.zero_le _, fun _ => by show 0 ≤ e.kind; omega, hk⟩
        · exact ⟨Nat.zero_le _, fun _ => by show 0 ≤ e.o.a.by_; omega, o1.2⟩
        · exact ⟨Nat.zero_le _, fun _ => by show 0 ≤ e.o.a.n; omega, o2.2⟩
        · exact ⟨Nat.zero_le _, fun _ => by show 0 ≤ e.o.b.by_; omega, o3.2⟩
        · exact ⟨Nat.zero_le _, fun _ => by show 0 ≤ e.o.b.n; omega, o4.2⟩
      · have := enc_N hk
        have := enc_N o1.2
        have := enc_N o2.2
        have := enc_N o3.2
        have := enc_N o4.2
        simp only [bothF, encL, List.map_cons, List.map_nil, List.flatten_cons, List.flatten_nil, List.length_append, List.length_nil]
        omega
theorem sizeE_no {e : EntI} (hr : rightE e = false) : sizeE e = 0 ∧ entF e = [] := by
  have : entF e = [] := by unfold entF; rw [hr]; rfl
  unfold sizeE
  rw [this]; exact ⟨rfl, rfl⟩
end Go.Proofs.YtanflgipdiogaaaDoor
