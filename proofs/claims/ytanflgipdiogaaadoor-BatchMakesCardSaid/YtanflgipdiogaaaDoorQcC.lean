/-
  msg.Size; the document's entries (written by gen_btg.py).
  The document's RightEntry, Entry and Size of whatever entry.
  The document's Entry; its Size (written by gen_bti.py).
  Rows of entries: an element loaded whole; batch.Weigh.
-/
import Derived.Test.YtanflgipdiogaaaDoorQcB
namespace Go.Proofs.YtanflgipdiogaaaDoor
set_option linter.unusedSimpArgs false
set_option linter.unusedVariables false
open Go.RowKit

attribute [-simp] Tryd.isAgg44 Tryd.sizeOf44
def entB (e : EntI) : ByteArray := ⟨(encL (entF e)).toArray⟩
theorem entB_size (e : EntI) : (entB e).size = sizeE e := rfl
set_option maxRecDepth 100000 in
set_option maxHeartbeats 4000000 in
theorem size_c (w : World) (e : EntI) (m : Int) (hm : w.cell? ⟨0, 0, none⟩ = some (.int .i64 m)) (h : EntOk e) : Calls Tryd.prog 35 #[.agg e.arr] w (Ret (.int .i64 (sizeE e)) w) := by
  have HEn := fun W (hW : Ext w W) => hid (entry_c W e m (hW.cell hm) h)
  have HL : ∀ W v, RowAt FldI.cells 3 (entF e) v W → Hid (Calls Tryd.prog 72 #[v] W (Ret (.tuple #[.string (entB e), .int .i64 0]) W)) := fun W v hv => by
    cases hr : rightE e with
    | true =>
      obtain ⟨h1, h2, h3⟩ := entF_ok h hr
      exact lay_c W v (entF e) hv.1 h1 h2 (by omega)
    | false =>
      have h1 := (sizeE_no hr).2
      have h2 : v = .slice none 0 0 := hv.2 (by rw [h1]; rfl)
      have h3 : entB e = ⟨#[]⟩ := by unfold entB; rw [h1]; rfl
      rw [h2, h3]
      exact lay_nil W
  have HS := hid (entB_size e)
  have HE := hid (Ext.alloc w (.cells e.arr 44))
  have HB := hid (Blk.new w 44 e.arr)
  have hz := hid (arr_size e)
  clear h hm
  generalize entB e = S at HL HS
  go_enter Tryd.func35, Tryd.ntmps35
  go_wp2_with fail
  generalize w.alloc (.cells e.arr 44) = w0 at HE HB ⊢
  simp only [Tryd.isAgg44, Tryd.sizeOf44, Result.andThen, ↓reduceIte, run_loadCells_blk HB.out 21 hz.out]
  rw [Oper.upon_value]
  go_wp2_with fail
  refine ((HEn _ HE.out).out).mono ?_
  rintro en w1 ⟨v, rfl, hv, x1⟩
  have HV := hid hv
  have HE1 := hid (HE.out.trans x1)
  clear hv x1
  go_wp2_with fail
  refine ((HL _ _ HV.out).out).mono ?_
  rintro en w2 ⟨rfl, x2⟩
  have HE2 := hid (HE1.out.trans x2)
  clear x2
  go_wp2_with fail
  go_ret
  exact ⟨by rw [← HS.out]; rfl, HE2.out⟩
set_option maxRecDepth 100000 in
set_option maxHeartbeats 4000000 in
theorem rpair_c (w : World) (p : PairI) (h : (in64 p.a.by_ ∧ in64 p.a.n) ∧ (in64 p.b.by_ ∧ in64 p.b.n)) : Calls Tryd.prog 75 #[p.val] w (Ret (.string (verB p.a ++ verB p.b)) w) := by
  have H1 := fun W => hid (rver_c W p.a h.1.1 h.1.2)
  have H2 := fun W => hid (rver_c W p.b h.2.1 h.2.2)
  have s1 := verB_18 h.1.1 h.1.2
  have s2 := verB_18 h.2.1 h.2.2
  have HE := hid (Ext.alloc w (.cells #[.int .i64 p.a.by_, .int .i64 p.a.n, .int .i64 p.b.by_, .int .i64 p.b.n] 42))
  have HB := hid (Blk.new w 42 #[.int .i64 p.a.by_, .int .i64 p.a.n, .int .i64 p.b.by_, .int .i64 p.b.n])
  unfold Ver.val at H1 H2
  unfold PairI.val
  generalize verB p.a = r1 at H1 s1 ⊢
  generalize verB p.b = r2 at H2 s2 ⊢
  clear h
  go_enter Tryd.func75, Tryd.ntmps75
  go_wp2_with fail
  generalize w.alloc (.cells #[.int .i64 p.a.by_, .int .i64 p.a.n, .int .i64 p.b.by_, .int .i64 p.b.n] 42) = w0 at HE HB ⊢
  have b0 := HB.out.cell (i := 0) (v := .int .i64 p.a.by_) rfl
  have b1 := HB.out.cell (i := 1) (v := .int .i64 p.a.n) rfl
  have b2 := HB.out.cell (i := 2) (v := .int .i64 p.b.by_) rfl
  have b3 := HB.out.cell (i := 3) (v := .int .i64 p.b.n) rfl
  have bl := HB.out.lt
  refine wp_region_any_order (by kernel_rfl) (by kernel_rfl) (by kernel_rfl) ?_
  repeat (first
    | (refine AWq.val rfl rfl rfl rfl (fun K hK => ?_); go_big_quiet_op; refine hK _ ?_; clear hK K)
    | (refine AWq.skip rfl rfl rfl ?_; simp only [Act.put, List.setIfInBounds_toArray, List.set_cons_succ, List.set_cons_zero])
    | (refine AWq.call rfl Tryd.func67 (by kernel_rfl) (by kernel_rfl) rfl rfl rfl ?_; apply Exists.intro; refine And.intro (fun wc hc => ?_) ?_; (· (simp only [argsOf, anyAt, ↓reduceIte, Nat.reduceEqDiff, Array.getD_eq_getD_getElem?, List.getElem?_toArray, List.getElem?_cons_succ, List.getElem?_cons_zero, Option.getD_some]; with_reducible exact (H1 _).out)); simp only [Act.put, List.setIfInBounds_toArray, List.set_cons_succ, List.set_cons_zero])
    | (refine AWq.call rfl Tryd.func67 (by kernel_rfl) (by kernel_rfl) rfl rfl rfl ?_; apply Exists.intro; refine And.intro (fun wc hc => ?_) ?_; (· (simp only [argsOf, anyAt, ↓reduceIte, Nat.reduceEqDiff, Array.getD_eq_getD_getElem?, List.getElem?_toArray, List.getElem?_cons_succ, List.getElem?_cons_zero, Option.getD_some]; with_reducible exact (H2 _).out)); simp only [Act.put, List.setIfInBounds_toArray, List.set_cons_succ, List.set_cons_zero]))
  refine AWq.done rfl rfl rfl (fun w2 x2 => ?_)
  simp only [closeAny, Act.put, List.setIfInBounds_toArray, List.set_cons_succ, List.set_cons_zero]
  go_wp2_with fail
  go_ret
  exact ⟨rfl, HE.out.trans x2⟩
set_option maxRecDepth 100000 in
set_option maxHeartbeats 2000000 in
theorem rrightp_c (w : World) (p : PairI) : Calls Tryd.prog 74 #[p.val] w (Ret (.bool (pairB p)) w) := by
  have H1 := fun W => hid (vright_c p.a W)
  have H2 := fun W => hid (vright_c p.b W)
  have HE := hid (Ext.alloc w (.cells #[.int .i64 p.a.by_, .int .i64 p.a.n, .int .i64 p.b.by_, .int .i64 p.b.n] 42))
  have HB := hid (Blk.new w 42 #[.int .i64 p.a.by_, .int .i64 p.a.n, .int .i64 p.b.by_, .int .i64 p.b.n])
  unfold Ver.val at H1 H2
  unfold PairI.val pairB
  generalize rightV p.b = r at H2 ⊢
  cases h1 : rightV p.a with
  | false =>
    rw [h1] at H1
    clear h1 H2
    go_enter Tryd.func74, Tryd.ntmps74
    go_wp2_with fail
    refine ((H1 _).out).mono ?_
    rintro e w1 ⟨rfl, x1⟩
    have X1 := hid (HE.out.trans x1)
    clear x1
    go_wp2_with fail
    go_ret
    exact ⟨rfl, X1.out⟩
  | true =>
    rw [h1] at H1
    clear h1
    go_enter Tryd.func74, Tryd.ntmps74
    go_wp2_with fail
    refine ((H1 _).out).mono ?_
    rintro e w1 ⟨rfl, x1⟩
    have X1 := hid (HE.out.trans x1)
    have HB1 := hid (HB.out.ext x1)
    have c2 := HB1.out.cell (i := 2) (v := .int .i64 p.b.by_) rfl
    have c3 := HB1.out.cell (i := 3) (v := .int .i64 p.b.n) rfl
    have l1 := HB1.out.lt
    clear x1
    go_wp2_with fail
    refine ((H2 _).out).mono ?_
    rintro e w2 ⟨rfl, x2⟩
    have X2 := hid (X1.out.trans x2)
    clear x2
    go_wp2_with fail
    go_ret
    exact ⟨rfl, X2.out⟩
set_option maxRecDepth 100000 in
set_option maxHeartbeats 8000000 in
theorem rre_upd (w : World) (e : EntI) (h : EntOk e) (d1 : (e.kind == 1) = true) : Calls Tryd.prog 36 #[.agg e.arr] w (Ret (.bool (rightU e.u && (decide (e.m = met00) && decide (e.o = pair00)))) w) := by
  have HE := hid (Ext.alloc w (.cells e.arr 44))
  have HB := hid (Blk.new w 44 e.arr)
  have HC := fun W => hid (uright_c W e.u (by have := h.up; omega))
  unfold UpdI.val at HC
  generalize hrr : rightU e.u = r at HC ⊢
  clear hrr
  have Qm : ∀ W, (Op.equalIn 10000 40 (.agg #[.int .i64 e.m.item.by_, .int .i64 e.m.item.n, .int .i64 e.m.st.v.by_, .int .i64 e.m.st.v.n, .int .i64 e.m.st.time, .string e.m.p, .int .i64 e.m.size, .bool e.m.dead]) (.agg #[.int .i64 0, .int .i64 0, .int .i64 0, .int .i64 0, .int .i64 0, .string ⟨#[]⟩, .int .i64 0, .bool false])).run Tryd.prog W = .ok (decide (e.m = met00)) W := fun W => run_eqH_met e.m met00 W
  have Qo : ∀ W, (Op.equalIn 10000 42 (.agg #[.int .i64 e.o.a.by_, .int .i64 e.o.a.n, .int .i64 e.o.b.by_, .int .i64 e.o.b.n]) (.agg #[.int .i64 0, .int .i64 0, .int .i64 0, .int .i64 0])).run Tryd.prog W = .ok (decide (e.o = pair00)) W := fun W => run_eqH_pair e.o pair00 W
  generalize decide (e.m = met00) = qa at Qm ⊢
  generalize decide (e.o = pair00) = qb at Qo ⊢
  clear h
  have g0 : e.arr[0]? = some (.int .i64 e.kind) := rfl
  have g1 : e.arr[1]? = some (.int .i64 e.u.item.by_) := rfl
  have g2 : e.arr[2]? = some (.int .i64 e.u.item.n) := rfl
  have g3 : e.arr[3]? = some (.int .i64 e.u.st.v.by_) := rfl
  have g4 : e.arr[4]? = some (.int .i64 e.u.st.v.n) := rfl
  have g5 : e.arr[5]? = some (.int .i64 e.u.st.time) := rfl
  have g6 : e.arr[6]? = some (.string e.u.p) := rfl
  have g7 : e.arr[7]? = some (.string e.u.d) := rfl
  have g8 : e.arr[8]? = some (.bool e.u.dead) := rfl
  have g9 : e.arr[9]? = some (.int .i64 e.m.item.by_) := rfl
  have g10 : e.arr[10]? = some (.int .i64 e.m.item.n) := rfl
  have g11 : e.arr[11]? = some (.int .i64 e.m.st.v.by_) := rfl
  have g12 : e.arr[12]? = some (.int .i64 e.m.st.v.n) := rfl
  have g13 : e.arr[13]? = some (.int .i64 e.m.st.time) := rfl
  have g14 : e.arr[14]? = some (.string e.m.p) := rfl
  have g15 : e.arr[15]? = some (.int .i64 e.m.size) := rfl
  have g16 : e.arr[16]? = some (.bool e.m.dead) := rfl
  have g17 : e.arr[17]? = some (.int .i64 e.o.a.by_) := rfl
  have g18 : e.arr[18]? = some (.int .i64 e.o.a.n) := rfl
  have g19 : e.arr[19]? = some (.int .i64 e.o.b.by_) := rfl
  have g20 : e.arr[20]? = some (.int .i64 e.o.b.n) := rfl
  go_enter Tryd.func36, Tryd.ntmps36
  go_wp2_with fail
  clear g0 g1 g2 g3 g4 g5 g6 g7 g8 g9 g10 g11 g12 g13 g14 g15 g16 g17 g18 g19 g20
  generalize w.alloc (.cells e.arr 44) = w0 at HE HB ⊢
  refine ((HC _).out).mono ?_
  rintro en w1 ⟨rfl, x1⟩
  have HE1 := hid (HE.out.trans x1)
  have HB1 := hid (HB.out.ext x1)
  clear x1 HE HB HC
  have c0 := HB1.out.cell (i := 0) (v := .int .i64 e.kind) rfl
  have c1 := HB1.out.cell (i := 1) (v := .int .i64 e.u.item.by_) rfl
  have c2 := HB1.out.cell (i := 2) (v := .int .i64 e.u.item.n) rfl
  have c3 := HB1.out.cell (i := 3) (v := .int .i64 e.u.st.v.by_) rfl
  have c4 := HB1.out.cell (i := 4) (v := .int .i64 e.u.st.v.n) rfl
  have c5 := HB1.out.cell (i := 5) (v := .int .i64 e.u.st.time) rfl
  have c6 := HB1.out.cell (i := 6) (v := .string e.u.p) rfl
  have c7 := HB1.out.cell (i := 7) (v := .string e.u.d) rfl
  have c8 := HB1.out.cell (i := 8) (v := .bool e.u.dead) rfl
  have c9 := HB1.out.cell (i := 9) (v := .int .i64 e.m.item.by_) rfl
  have c10 := HB1.out.cell (i := 10) (v := .int .i64 e.m.item.n) rfl
  have c11 := HB1.out.cell (i := 11) (v := .int .i64 e.m.st.v.by_) rfl
  have c12 := HB1.out.cell (i := 12) (v := .int .i64 e.m.st.v.n) rfl
  have c13 := HB1.out.cell (i := 13) (v := .int .i64 e.m.st.time) rfl
  have c14 := HB1.out.cell (i := 14) (v := .string e.m.p) rfl
  have c15 := HB1.out.cell (i := 15) (v := .int .i64 e.m.size) rfl
  have c16 := HB1.out.cell (i := 16) (v := .bool e.m.dead) rfl
  have c17 := HB1.out.cell (i := 17) (v := .int .i64 e.o.a.by_) rfl
  have c18 := HB1.out.cell (i := 18) (v := .int .i64 e.o.a.n) rfl
  have c19 := HB1.out.cell (i := 19) (v := .int .i64 e.o.b.by_) rfl
  have c20 := HB1.out.cell (i := 20) (v := .int .i64 e.o.b.n) rfl
  have cl := HB1.out.lt
  cases r with
  | false =>
    go_wp2_with fail
    go_ret
    exact ⟨rfl, HE1.out⟩
  | true =>
    cases qa with
    | false =>
      go_wp2_with fail
      go_ret
      exact ⟨rfl, HE1.out⟩
    | true =>
      go_wp2_with fail
      go_ret
      exact ⟨rfl, HE1.out⟩
set_option maxRecDepth 100000 in
set_option maxHeartbeats 8000000 in
theorem rre_met (w : World) (e : EntI) (h : EntOk e) (d1 : (e.kind == 1) = false) (d2 : (e.kind == 2) = true) : Calls Tryd.prog 36 #[.agg e.arr] w (Ret (.bool ((e.m.chk == 0) && (decide (e.u = upd0) && decide (e.o = pair00)))) w) := by
  have HE := hid (Ext.alloc w (.cells e.arr 44))
  have HB := hid (Blk.new w 44 e.arr)
  have HC := fun W => hid (rcheckm_c W e.m (by have := h.mp; omega))
  unfold MetaI.val at HC
  generalize hrr : e.m.chk = ck at HC
  generalize hr2 : (e.m.chk == 0) = r
  rw [hrr] at hr2
  clear hrr
  have Qu : ∀ W, (Op.equalIn 10000 38 (.agg #[.int .i64 e.u.item.by_, .int .i64 e.u.item.n, .int .i64 e.u.st.v.by_, .int .i64 e.u.st.v.n, .int .i64 e.u.st.time, .string e.u.p, .string e.u.d, .bool e.u.dead]) (.agg #[.int .i64 0, .int .i64 0, .int .i64 0, .int .i64 0, .int .i64 0, .string ⟨#[]⟩, .string ⟨#[]⟩, .bool false])).run Tryd.prog W = .ok (decide (e.u = upd0)) W := fun W => run_eqH_upd e.u upd0 W
  have Qo : ∀ W, (Op.equalIn 10000 42 (.agg #[.int .i64 e.o.a.by_, .int .i64 e.o.a.n, .int .i64 e.o.b.by_, .int .i64 e.o.b.n]) (.agg #[.int .i64 0, .int .i64 0, .int .i64 0, .int .i64 0])).run Tryd.prog W = .ok (decide (e.o = pair00)) W := fun W => run_eqH_pair e.o pair00 W
  generalize decide (e.u = upd0) = qa at Qu ⊢
  generalize decide (e.o = pair00) = qb at Qo ⊢
  clear h
  have g0 : e.arr[0]? = some (.int .i64 e.kind) := rfl
  have g1 : e.arr[1]? = some (.int .i64 e.u.item.by_) := rfl
  have g2 : e.arr[2]? = some (.int .i64 e.u.item.n) := rfl
  have g3 : e.arr[3]? = some (.int .i64 e.u.st.v.by_) := rfl
  have g4 : e.arr[4]? = some (.int .i64 e.u.st.v.n) := rfl
  have g5 : e.arr[5]? = some (.int .i64 e.u.st.time) := rfl
  have g6 : e.arr[6]? = some (.string e.u.p) := rfl
  have g7 : e.arr[7]? = some (.string e.u.d) := rfl
  have g8 : e.arr[8]? = some (.bool e.u.dead) := rfl
  have g9 : e.arr[9]? = some (.int .i64 e.m.item.by_) := rfl
  have g10 : e.arr[10]? = some (.int .i64 e.m.item.n) := rfl
  have g11 : e.arr[11]? = some (.int .i64 e.m.st.v.by_) := rfl
  have g12 : e.arr[12]? = some (.int .i64 e.m.st.v.n) := rfl
  have g13 : e.arr[13]? = some (.int .i64 e.m.st.time) := rfl
  have g14 : e.arr[14]? = some (.string e.m.p) := rfl
  have g15 : e.arr[15]? = some (.int .i64 e.m.size) := rfl
  have g16 : e.arr[16]? = some (.bool e.m.dead) := rfl
  have g17 : e.arr[17]? = some (.int .i64 e.o.a.by_) := rfl
  have g18 : e.arr[18]? = some (.int .i64 e.o.a.n) := rfl
  have g19 : e.arr[19]? = some (.int .i64 e.o.b.by_) := rfl
  have g20 : e.arr[20]? = some (.int .i64 e.o.b.n) := rfl
  go_enter Tryd.func36, Tryd.ntmps36
  go_wp2_with fail
  clear g0 g1 g2 g3 g4 g5 g6 g7 g8 g9 g10 g11 g12 g13 g14 g15 g16 g17 g18 g19 g20
  generalize w.alloc (.cells e.arr 44) = w0 at HE HB ⊢
  refine ((HC _).out).mono ?_
  rintro en w1 ⟨rfl, x1⟩
  have HE1 := hid (HE.out.trans x1)
  have HB1 := hid (HB.out.ext x1)
  clear x1 HE HB HC
  have c0 := HB1.out.cell (i := 0) (v := .int .i64 e.kind) rfl
  have c1 := HB1.out.cell (i := 1) (v := .int .i64 e.u.item.by_) rfl
  have c2 := HB1.out.cell (i := 2) (v := .int .i64 e.u.item.n) rfl
  have c3 := HB1.out.cell (i := 3) (v := .int .i64 e.u.st.v.by_) rfl
  have c4 := HB1.out.cell (i := 4) (v := .int .i64 e.u.st.v.n) rfl
  have c5 := HB1.out.cell (i := 5) (v := .int .i64 e.u.st.time) rfl
  have c6 := HB1.out.cell (i := 6) (v := .string e.u.p) rfl
  have c7 := HB1.out.cell (i := 7) (v := .string e.u.d) rfl
  have c8 := HB1.out.cell (i := 8) (v := .bool e.u.dead) rfl
  have c9 := HB1.out.cell (i := 9) (v := .int .i64 e.m.item.by_) rfl
  have c10 := HB1.out.cell (i := 10) (v := .int .i64 e.m.item.n) rfl
  have c11 := HB1.out.cell (i := 11) (v := .int .i64 e.m.st.v.by_) rfl
  have c12 := HB1.out.cell (i := 12) (v := .int .i64 e.m.st.v.n) rfl
  have c13 := HB1.out.cell (i := 13) (v := .int .i64 e.m.st.time) rfl
  have c14 := HB1.out.cell (i := 14) (v := .string e.m.p) rfl
  have c15 := HB1.out.cell (i := 15) (v := .int .i64 e.m.size) rfl
  have c16 := HB1.out.cell (i := 16) (v := .bool e.m.dead) rfl
  have c17 := HB1.out.cell (i := 17) (v := .int .i64 e.o.a.by_) rfl
  have c18 := HB1.out.cell (i := 18) (v := .int .i64 e.o.a.n) rfl
  have c19 := HB1.out.cell (i := 19) (v := .int .i64 e.o.b.by_) rfl
  have c20 := HB1.out.cell (i := 20) (v := .int .i64 e.o.b.n) rfl
  have cl := HB1.out.lt
  cases r with
  | false =>
    go_wp2_with fail
    go_ret
    exact ⟨by rw [hr2]; rfl, HE1.out⟩
  | true =>
    cases qa with
    | false =>
      go_wp2_with fail
      go_ret
      exact ⟨by rw [hr2]; rfl, HE1.out⟩
    | true =>
      go_wp2_with fail
      go_ret
      exact ⟨by rw [hr2]; rfl, HE1.out⟩
set_option maxRecDepth 100000 in
set_option maxHeartbeats 8000000 in
theorem rre_out (w : World) (e : EntI) (h : EntOk e) (d1 : (e.kind == 1) = false) (d2 : (e.kind == 2) = false) (d3 : (e.kind == 3) = true) : Calls Tryd.prog 36 #[.agg e.arr] w (Ret (.bool (pairB e.o && (decide (e.u = upd0) && decide (e.m = met00)))) w) := by
  have HE := hid (Ext.alloc w (.cells e.arr 44))
  have HB := hid (Blk.new w 44 e.arr)
  have HC := fun W => hid (rrightp_c W e.o)
  unfold PairI.val at HC
  generalize hrr : pairB e.o = r at HC ⊢
  clear hrr
  have Qu : ∀ W, (Op.equalIn 10000 38 (.agg #[.int .i64 e.u.item.by_, .int .i64 e.u.item.n, .int .i64 e.u.st.v.by_, .int .i64 e.u.st.v.n, .int .i64 e.u.st.time, .string e.u.p, .string e.u.d, .bool e.u.dead]) (.agg #[.int .i64 0, .int .i64 0, .int .i64 0, .int .i64 0, .int .i64 0, .string ⟨#[]⟩, .string ⟨#[]⟩, .bool false])).run Tryd.prog W = .ok (decide (e.u = upd0)) W := fun W => run_eqH_upd e.u upd0 W
  have Qm : ∀ W, (Op.equalIn 10000 40 (.agg #[.int .i64 e.m.item.by_, .int .i64 e.m.item.n, .int .i64 e.m.st.v.by_, .int .i64 e.m.st.v.n, .int .i64 e.m.st.time, .string e.m.p, .int .i64 e.m.size, .bool e.m.dead]) (.agg #[.int .i64 0, .int .i64 0, .int .i64 0, .int .i64 0, .int .i64 0, .string ⟨#[]⟩, .int .i64 0, .bool false])).run Tryd.prog W = .ok (decide (e.m = met00)) W := fun W => run_eqH_met e.m met00 W
  generalize decide (e.u = upd0) = qa at Qu ⊢
  generalize decide (e.m = met00) = qb at Qm ⊢
  clear h
  have g0 : e.arr[0]? = some (.int .i64 e.kind) := rfl
  have g1 : e.arr[1]? = some (.int .i64 e.u.item.by_) := rfl
  have g2 : e.arr[2]? = some (.int .i64 e.u.item.n) := rfl
  have g3 : e.arr[3]? = some (.int .i64 e.u.st.v.by_) := rfl
  have g4 : e.arr[4]? = some (.int .i64 e.u.st.v.n) := rfl
  have g5 : e.arr[5]? = some (.int .i64 e.u.st.time) := rfl
  have g6 : e.arr[6]? = some (.string e.u.p) := rfl
  have g7 : e.arr[7]? = some (.string e.u.d) := rfl
  have g8 : e.arr[8]? = some (.bool e.u.dead) := rfl
  have g9 : e.arr[9]? = some (.int .i64 e.m.item.by_) := rfl
  have g10 : e.arr[10]? = some (.int .i64 e.m.item.n) := rfl
  have g11 : e.arr[11]? = some (.int .i64 e.m.st.v.by_) := rfl
  have g12 : e.arr[12]? = some (.int .i64 e.m.st.v.n) := rfl
  have g13 : e.arr[13]? = some (.int .i64 e.m.st.time) := rfl
  have g14 : e.arr[14]? = some (.string e.m.p) := rfl
  have g15 : e.arr[15]? = some (.int .i64 e.m.size) := rfl
  have g16 : e.arr[16]? = some (.bool e.m.dead) := rfl
  have g17 : e.arr[17]? = some (.int .i64 e.o.a.by_) := rfl
  have g18 : e.arr[18]? = some (.int .i64 e.o.a.n) := rfl
  have g19 : e.arr[19]? = some (.int .i64 e.o.b.by_) := rfl
  have g20 : e.arr[20]? = some (.int .i64 e.o.b.n) := rfl
  go_enter Tryd.func36, Tryd.ntmps36
  go_wp2_with fail
  clear g0 g1 g2 g3 g4 g5 g6 g7 g8 g9 g10 g11 g12 g13 g14 g15 g16 g17 g18 g19 g20
  generalize w.alloc (.cells e.arr 44) = w0 at HE HB ⊢
  refine ((HC _).out).mono ?_
  rintro en w1 ⟨rfl, x1⟩
  have HE1 := hid (HE.out.trans x1)
  have HB1 := hid (HB.out.ext x1)
  clear x1 HE HB HC
  have c0 := HB1.out.cell (i := 0) (v := .int .i64 e.kind) rfl
  have c1 := HB1.out.cell (i := 1) (v := .int .i64 e.u.item.by_) rfl
  have c2 := HB1.out.cell (i := 2) (v := .int .i64 e.u.item.n) rfl
  have c3 := HB1.out.cell (i := 3) (v := .int .i64 e.u.st.v.by_) rfl
  have c4 := HB1.out.cell (i := 4) (v := .int .i64 e.u.st.v.n) rfl
  have c5 := HB1.out.cell (i := 5) (v := .int .i64 e.u.st.time) rfl
  have c6 := HB1.out.cell (i := 6) (v := .string e.u.p) rfl
  have c7 := HB1.out.cell (i := 7) (v := .string e.u.d) rfl
  have c8 := HB1.out.cell (i := 8) (v := .bool e.u.dead) rfl
  have c9 := HB1.out.cell (i := 9) (v := .int .i64 e.m.item.by_) rfl
  have c10 := HB1.out.cell (i := 10) (v := .int .i64 e.m.item.n) rfl
  have c11 := HB1.out.cell (i := 11) (v := .int .i64 e.m.st.v.by_) rfl
  have c12 := HB1.out.cell (i := 12) (v := .int .i64 e.m.st.v.n) rfl
  have c13 := HB1.out.cell (i := 13) (v := .int .i64 e.m.st.time) rfl
  have c14 := HB1.out.cell (i := 14) (v := .string e.m.p) rfl
  have c15 := HB1.out.cell (i := 15) (v := .int .i64 e.m.size) rfl
  have c16 := HB1.out.cell (i := 16) (v := .bool e.m.dead) rfl
  have c17 := HB1.out.cell (i := 17) (v := .int .i64 e.o.a.by_) rfl
  have c18 := HB1.out.cell (i := 18) (v := .int .i64 e.o.a.n) rfl
  have c19 := HB1.out.cell (i := 19) (v := .int .i64 e.o.b.by_) rfl
  have c20 := HB1.out.cell (i := 20) (v := .int .i64 e.o.b.n) rfl
  have cl := HB1.out.lt
  cases r with
  | false =>
    go_wp2_with fail
    go_ret
    exact ⟨rfl, HE1.out⟩
  | true =>
    cases qa with
    | false =>
      go_wp2_with fail
      go_ret
      exact ⟨rfl, HE1.out⟩
    | true =>
      go_wp2_with fail
      go_ret
      exact ⟨rfl, HE1.out⟩
set_option maxRecDepth 100000 in
set_option maxHeartbeats 8000000 in
theorem rre_no (w : World) (e : EntI) (h : EntOk e) (d1 : (e.kind == 1) = false) (d2 : (e.kind == 2) = false) (d3 : (e.kind == 3) = false) : Calls Tryd.prog 36 #[.agg e.arr] w (Ret (.bool (false)) w) := by
  have HE := hid (Ext.alloc w (.cells e.arr 44))
  have HB := hid (Blk.new w 44 e.arr)
  clear h
  have g0 : e.arr[0]? = some (.int .i64 e.kind) := rfl
  go_enter Tryd.func36, Tryd.ntmps36
  go_wp2_with fail
  go_ret
  exact ⟨rfl, HE.out⟩
end Go.Proofs.YtanflgipdiogaaaDoor
namespace Go.Proofs.YtanflgipdiogaaaDoor
set_option linter.unusedSimpArgs false
set_option linter.unusedVariables false
open Go.RowKit

theorem rrightE_c (w : World) (e : EntI) (h : EntOk e) : Calls Tryd.prog 36 #[.agg e.arr] w (Ret (.bool (rightE e)) w) := by
  by_cases h1 : e.kind = 1
  · have hr : rightE e = (rightU e.u && (decide (e.m = met00) && decide (e.o = pair00))) := by
      unfold rightE bareB
      rw [if_pos h1, if_pos h1, Bool.eq_iff_iff]
      simp; constructor
      · rintro ⟨⟨a, b⟩, c⟩; exact ⟨c, a, b⟩
      · rintro ⟨c, a, b⟩; exact ⟨⟨a, b⟩, c⟩
    rw [hr]
    exact rre_upd w e h (by simp [h1])
  by_cases h2 : e.kind = 2
  · have hr : rightE e = ((e.m.chk == 0) && (decide (e.u = upd0) && decide (e.o = pair00))) := by
      unfold rightE bareB rightM
      rw [if_neg h1, if_neg h1, if_pos h2, if_pos h2, Bool.eq_iff_iff]
      simp; constructor
      · rintro ⟨⟨a, b⟩, c⟩; exact ⟨c, a, b⟩
      · rintro ⟨c, a, b⟩; exact ⟨⟨a, b⟩, c⟩
    rw [hr]
    exact rre_met w e h (by simp [h1]) (by simp [h2])
  by_cases h3 : e.kind = 3
  · have hr : rightE e = (pairB e.o && (decide (e.u = upd0) && decide (e.m = met00))) := by
      unfold rightE bareB
      rw [if_neg h1, if_neg h1, if_neg h2, if_neg h2, Bool.eq_iff_iff]
      simp [h3]; constructor
      · rintro ⟨⟨a, b⟩, c⟩; exact ⟨c, a, b⟩
      · rintro ⟨c, a, b⟩; exact ⟨⟨a, b⟩, c⟩
    rw [hr]
    exact rre_out w e h (by simp [h1]) (by simp [h2]) (by simp [h3])
  · have hr : rightE e = false := by
      unfold rightE bareB
      rw [if_neg h1, if_neg h1, if_neg h2, if_neg h2]
      simp [h3]
    rw [hr]
    exact rre_no w e h (by simp [h1]) (by simp [h2]) (by simp [h3])
end Go.Proofs.YtanflgipdiogaaaDoor
namespace Go.Proofs.YtanflgipdiogaaaDoor
set_option linter.unusedSimpArgs false
set_option linter.unusedVariables false
open Go.RowKit

attribute [-simp] Tryd.isAgg44 Tryd.sizeOf44
theorem entB_one {e : EntI} (hr : rightE e = true) (h1 : e.kind = 1) : entB e = numB e.kind ++ textB (updB e.u) := by
  unfold entB entF
  rw [if_pos hr, if_pos h1]
  apply ByteArray.ext
  apply Array.ext'
  simp only [ByteArray.data_append, Array.toList_append, numB_list (show 0 ≤ e.kind by omega), textB_list]
  simp [encL, fN, fT, FldI.enc]
theorem entB_two {e : EntI} (hr : rightE e = true) (h1 : ¬ e.kind = 1) (h2 : e.kind = 2) : entB e = numB e.kind ++ textB (metB e.m) := by
  unfold entB entF
  rw [if_pos hr, if_neg h1, if_pos h2]
  apply ByteArray.ext
  apply Array.ext'
  simp only [ByteArray.data_append, Array.toList_append, numB_list (show 0 ≤ e.kind by omega), textB_list]
  simp [encL, fN, fT, FldI.enc]
theorem right3 {e : EntI} (hr : rightE e = true) (h1 : ¬ e.kind = 1) (h2 : ¬ e.kind = 2) : e.kind = 3 ∧ pairB e.o = true := by
  unfold rightE bareB at hr
  rw [if_neg h1, if_neg h1, if_neg h2, if_neg h2] at hr
  simp only [Bool.and_eq_true, decide_eq_true_eq] at hr
  exact ⟨hr.1.1, hr.2⟩
theorem entB_three {e : EntI} (hr : rightE e = true) (h1 : ¬ e.kind = 1) (h2 : ¬ e.kind = 2) : entB e = numB e.kind ++ (verB e.o.a ++ verB e.o.b) := by
  obtain ⟨h3, hp⟩ := right3 hr h1 h2
  unfold pairB rightV at hp
  simp only [Bool.and_eq_true, decide_eq_true_eq] at hp
  unfold entB entF
  rw [if_pos hr, if_neg h1, if_neg h2]
  apply ByteArray.ext
  apply Array.ext'
  unfold verB
  simp only [ByteArray.data_append, Array.toList_append, numB_list (show 0 ≤ e.kind by omega), numB_list (show 0 ≤ e.o.a.by_ by omega), numB_list (show 0 ≤ e.o.a.n by omega), numB_list (show 0 ≤ e.o.b.by_ by omega), numB_list (show 0 ≤ e.o.b.n by omega)]
  simp [encL, bothF, fN, FldI.enc]
set_option maxRecDepth 100000 in
set_option maxHeartbeats 8000000 in
theorem ren_upd (w : World) (e : EntI) (h : EntOk e) (hr : rightE e = true) (h1 : e.kind = 1) : Calls Tryd.prog 37 #[.agg e.arr] w (Ret (.string (entB e)) w) := by
  have HE := hid (Ext.alloc w (.cells e.arr 44))
  have HB := hid (Blk.new w 44 e.arr)
  have HK := fun W => hid (rnumberZ_c W e.kind h.k.1 h.k.2)
  have sk := numB_9 h.k.2
  have HU := fun W => hid (rupd_c W e.u h.u (by have := h.up; omega) (by have := h.ud; omega))
  have su := updB_size h.u (rightful (by unfold rightE at hr; rw [if_pos h1, Bool.and_eq_true] at hr; exact hr.2))
  have HT := fun W => hid (rtext_c W (updB e.u) (by omega))
  have st := textB_le (updB e.u) (by omega)
  have d1 : (e.kind == 1) = true := by simp [h1]
  unfold UpdI.val at HU
  rw [entB_one hr h1]
  clear h1
  generalize numB e.kind = rk at HK sk ⊢
  generalize textB (updB e.u) = rt at HT st ⊢
  generalize updB e.u = ru at HU HT su st
  clear h hr
  have g0 : e.arr[0]? = some (.int .i64 e.kind) := rfl
  go_enter Tryd.func37, Tryd.ntmps37
  go_wp2_with fail
  clear g0
  generalize w.alloc (.cells e.arr 44) = w0 at HE HB ⊢
  refine ((HK _).out).mono ?_
  rintro en w1 ⟨rfl, x1⟩
  have HE1 := hid (HE.out.trans x1)
  have HB1 := hid (HB.out.ext x1)
  clear x1 HE HB HK
  have c0 := HB1.out.cell (i := 0) (v := .int .i64 e.kind) rfl
  have c1 := HB1.out.cell (i := 1) (v := .int .i64 e.u.item.by_) rfl
  have c2 := HB1.out.cell (i := 2) (v := .int .i64 e.u.item.n) rfl
  have c3 := HB1.out.cell (i := 3) (v := .int .i64 e.u.st.v.by_) rfl
  have c4 := HB1.out.cell (i := 4) (v := .int .i64 e.u.st.v.n) rfl
  have c5 := HB1.out.cell (i := 5) (v := .int .i64 e.u.st.time) rfl
  have c6 := HB1.out.cell (i := 6) (v := .string e.u.p) rfl
  have c7 := HB1.out.cell (i := 7) (v := .string e.u.d) rfl
  have c8 := HB1.out.cell (i := 8) (v := .bool e.u.dead) rfl
  have c9 := HB1.out.cell (i := 9) (v := .int .i64 e.m.item.by_) rfl
  have c10 := HB1.out.cell (i := 10) (v := .int .i64 e.m.item.n) rfl
  have c11 := HB1.out.cell (i := 11) (v := .int .i64 e.m.st.v.by_) rfl
  have c12 := HB1.out.cell (i := 12) (v := .int .i64 e.m.st.v.n) rfl
  have c13 := HB1.out.cell (i := 13) (v := .int .i64 e.m.st.time) rfl
  have c14 := HB1.out.cell (i := 14) (v := .string e.m.p) rfl
  have c15 := HB1.out.cell (i := 15) (v := .int .i64 e.m.size) rfl
  have c16 := HB1.out.cell (i := 16) (v := .bool e.m.dead) rfl
  have c17 := HB1.out.cell (i := 17) (v := .int .i64 e.o.a.by_) rfl
  have c18 := HB1.out.cell (i := 18) (v := .int .i64 e.o.a.n) rfl
  have c19 := HB1.out.cell (i := 19) (v := .int .i64 e.o.b.by_) rfl
  have c20 := HB1.out.cell (i := 20) (v := .int .i64 e.o.b.n) rfl
  have cl := HB1.out.lt
  go_wp2_with fail
  refine ((HU _).out).mono ?_
  rintro en w2 ⟨rfl, x2⟩
  have HE2 := hid (HE1.out.trans x2)
  clear x2
  go_wp2_with fail
  refine ((HT _).out).mono ?_
  rintro en w3 ⟨rfl, x3⟩
  have HE3 := hid (HE2.out.trans x3)
  clear x3
  go_wp2_with fail
  go_ret
  exact ⟨rfl, HE3.out⟩
set_option maxRecDepth 100000 in
set_option maxHeartbeats 8000000 in
theorem ren_met (w : World) (e : EntI) (h : EntOk e) (hr : rightE e = true) (h1 : ¬ e.kind = 1) (h2 : e.kind = 2) : Calls Tryd.prog 37 #[.agg e.arr] w (Ret (.string (entB e)) w) := by
  have HE := hid (Ext.alloc w (.cells e.arr 44))
  have HB := hid (Blk.new w 44 e.arr)
  have HK := fun W => hid (rnumberZ_c W e.kind h.k.1 h.k.2)
  have sk := numB_9 h.k.2
  have HU := fun W => hid (rmet_c W e.m h.m (by have := h.mp; omega) h.ms)
  have su := metB_size h.m (rightfulM ((rightM_iff' e.m).1 (by unfold rightE at hr; rw [if_neg h1, if_pos h2, Bool.and_eq_true] at hr; exact hr.2)))
  have HT := fun W => hid (rtext_c W (metB e.m) (by omega))
  have st := textB_le (metB e.m) (by omega)
  have d1 : (e.kind == 1) = false := by simp [h1]
  have d2 : (e.kind == 2) = true := by simp [h2]
  unfold MetaI.val at HU
  rw [entB_two hr h1 h2]
  clear h1 h2
  generalize numB e.kind = rk at HK sk ⊢
  generalize textB (metB e.m) = rt at HT st ⊢
  generalize metB e.m = ru at HU HT su st
  clear h hr
  have g0 : e.arr[0]? = some (.int .i64 e.kind) := rfl
  go_enter Tryd.func37, Tryd.ntmps37
  go_wp2_with fail
  clear g0
  generalize w.alloc (.cells e.arr 44) = w0 at HE HB ⊢
  refine ((HK _).out).mono ?_
  rintro en w1 ⟨rfl, x1⟩
  have HE1 := hid (HE.out.trans x1)
  have HB1 := hid (HB.out.ext x1)
  clear x1 HE HB HK
  have c0 := HB1.out.cell (i := 0) (v := .int .i64 e.kind) rfl
  have c1 := HB1.out.cell (i := 1) (v := .int .i64 e.u.item.by_) rfl
  have c2 := HB1.out.cell (i := 2) (v := .int .i64 e.u.item.n) rfl
  have c3 := HB1.out.cell (i := 3) (v := .int .i64 e.u.st.v.by_) rfl
  have c4 := HB1.out.cell (i := 4) (v := .int .i64 e.u.st.v.n) rfl
  have c5 := HB1.out.cell (i := 5) (v := .int .i64 e.u.st.time) rfl
  have c6 := HB1.out.cell (i := 6) (v := .string e.u.p) rfl
  have c7 := HB1.out.cell (i := 7) (v := .string e.u.d) rfl
  have c8 := HB1.out.cell (i := 8) (v := .bool e.u.dead) rfl
  have c9 := HB1.out.cell (i := 9) (v := .int .i64 e.m.item.by_) rfl
  have c10 := HB1.out.cell (i := 10) (v := .int .i64 e.m.item.n) rfl
  have c11 := HB1.out.cell (i := 11) (v := .int .i64 e.m.st.v.by_) rfl
  have c12 := HB1.out.cell (i := 12) (v := .int .i64 e.m.st.v.n) rfl
  have c13 := HB1.out.cell (i := 13) (v := .int .i64 e.m.st.time) rfl
  have c14 := HB1.out.cell (i := 14) (v := .string e.m.p) rfl
  have c15 := HB1.out.cell (i := 15) (v := .int .i64 e.m.size) rfl
  have c16 := HB1.out.cell (i := 16) (v := .bool e.m.dead) rfl
  have c17 := HB1.out.cell (i := 17) (v := .int .i64 e.o.a.by_) rfl
  have c18 := HB1.out.cell (i := 18) (v := .int .i64 e.o.a.n) rfl
  have c19 := HB1.out.cell (i := 19) (v := .int .i64 e.o.b.by_) rfl
  have c20 := HB1.out.cell (i := 20) (v := .int .i64 e.o.b.n) rfl
  have cl := HB1.out.lt
  go_wp2_with fail
  refine ((HU _).out).mono ?_
  rintro en w2 ⟨rfl, x2⟩
  have HE2 := hid (HE1.out.trans x2)
  clear x2
  go_wp2_with fail
  refine ((HT _).out).mono ?_
  rintro en w3 ⟨rfl, x3⟩
  have HE3 := hid (HE2.out.trans x3)
  clear x3
  go_wp2_with fail
  go_ret
  exact ⟨rfl, HE3.out⟩
set_option maxRecDepth 100000 in
set_option maxHeartbeats 8000000 in
theorem ren_out (w : World) (e : EntI) (h : EntOk e) (hr : rightE e = true) (h1 : ¬ e.kind = 1) (h2 : ¬ e.kind = 2) : Calls Tryd.prog 37 #[.agg e.arr] w (Ret (.string (entB e)) w) := by
  have HE := hid (Ext.alloc w (.cells e.arr 44))
  have HB := hid (Blk.new w 44 e.arr)
  have HK := fun W => hid (rnumberZ_c W e.kind h.k.1 h.k.2)
  have sk := numB_9 h.k.2
  have HU := fun W => hid (rpair_c W e.o h.o)
  have s1 := verB_18 h.o.1.1 h.o.1.2
  have s2 := verB_18 h.o.2.1 h.o.2.2
  have st : (verB e.o.a ++ verB e.o.b).size ≤ 36 := by rw [ByteArray.size_append]; omega
  have d1 : (e.kind == 1) = false := by simp [h1]
  have d2 : (e.kind == 2) = false := by simp [h2]
  unfold PairI.val at HU
  rw [entB_three hr h1 h2]
  clear h1 h2 s1 s2
  generalize numB e.kind = rk at HK sk ⊢
  generalize verB e.o.a ++ verB e.o.b = rt at HU st ⊢
  clear h hr
  have g0 : e.arr[0]? = some (.int .i64 e.kind) := rfl
  go_enter Tryd.func37, Tryd.ntmps37
  go_wp2_with fail
  clear g0
  generalize w.alloc (.cells e.arr 44) = w0 at HE HB ⊢
  refine ((HK _).out).mono ?_
  rintro en w1 ⟨rfl, x1⟩
  have HE1 := hid (HE.out.trans x1)
  have HB1 := hid (HB.out.ext x1)
  clear x1 HE HB HK
  have c0 := HB1.out.cell (i := 0) (v := .int .i64 e.kind) rfl
  have c1 := HB1.out.cell (i := 1) (v := .int .i64 e.u.item.by_) rfl
  have c2 := HB1.out.cell (i := 2) (v := .int .i64 e.u.item.n) rfl
  have c3 := HB1.out.cell (i := 3) (v := .int .i64 e.u.st.v.by_) rfl
  have c4 := HB1.out.cell (i := 4) (v := .int .i64 e.u.st.v.n) rfl
  have c5 := HB1.out.cell (i := 5) (v := .int .i64 e.u.st.time) rfl
  have c6 := HB1.out.cell (i := 6) (v := .string e.u.p) rfl
  have c7 := HB1.out.cell (i := 7) (v := .string e.u.d) rfl
  have c8 := HB1.out.cell (i := 8) (v := .bool e.u.dead) rfl
  have c9 := HB1.out.cell (i := 9) (v := .int .i64 e.m.item.by_) rfl
  have c10 := HB1.out.cell (i := 10) (v := .int .i64 e.m.item.n) rfl
  have c11 := HB1.out.cell (i := 11) (v := .int .i64 e.m.st.v.by_) rfl
  have c12 := HB1.out.cell (i := 12) (v := .int .i64 e.m.st.v.n) rfl
  have c13 := HB1.out.cell (i := 13) (v := .int .i64 e.m.st.time) rfl
  have c14 := HB1.out.cell (i := 14) (v := .string e.m.p) rfl
  have c15 := HB1.out.cell (i := 15) (v := .int .i64 e.m.size) rfl
  have c16 := HB1.out.cell (i := 16) (v := .bool e.m.dead) rfl
  have c17 := HB1.out.cell (i := 17) (v := .int .i64 e.o.a.by_) rfl
  have c18 := HB1.out.cell (i := 18) (v := .int .i64 e.o.a.n) rfl
  have c19 := HB1.out.cell (i := 19) (v := .int .i64 e.o.b.by_) rfl
  have c20 := HB1.out.cell (i := 20) (v := .int .i64 e.o.b.n) rfl
  have cl := HB1.out.lt
  go_wp2_with fail
  refine ((HU _).out).mono ?_
  rintro en w2 ⟨rfl, x2⟩
  have HE2 := hid (HE1.out.trans x2)
  clear x2
  go_wp2_with fail
  go_ret
  exact ⟨rfl, HE2.out⟩
theorem rentry_c (w : World) (e : EntI) (h : EntOk e) (hr : rightE e = true) : Calls Tryd.prog 37 #[.agg e.arr] w (Ret (.string (entB e)) w) := by
  by_cases h1 : e.kind = 1
  · exact ren_upd w e h hr h1
  by_cases h2 : e.kind = 2
  · exact ren_met w e h hr h1 h2
  exact ren_out w e h hr h1 h2
set_option maxRecDepth 100000 in
set_option maxHeartbeats 8000000 in
theorem rsize_c (w : World) (e : EntI) (h : EntOk e) : Calls Tryd.prog 14 #[.agg e.arr] w (Ret (.int .i64 (sizeE e)) w) := by
  have HE := hid (Ext.alloc w (.cells e.arr 44))
  have HB := hid (Blk.new w 44 e.arr)
  have HR := fun W => hid (rrightE_c W e h)
  have HN := fun W (hr : rightE e = true) => hid (rentry_c W e h hr)
  have HS := hid (entB_size e)
  have HZ := hid (fun (hr : rightE e = false) => (sizeE_no hr).1)
  have hz := hid (arr_size e)
  clear h
  generalize entB e = S at HN HS
  generalize rightE e = r at HR HN HZ
  go_enter Tryd.func14, Tryd.ntmps14
  go_wp2_with fail
  generalize w.alloc (.cells e.arr 44) = w0 at HE HB ⊢
  simp only [Tryd.isAgg44, Tryd.sizeOf44, Result.andThen, ↓reduceIte, run_loadCells_blk HB.out 21 hz.out]
  rw [Oper.upon_value]
  go_wp2_with fail
  refine ((HR _).out).mono ?_
  rintro en w1 ⟨rfl, x1⟩
  have HE1 := hid (HE.out.trans x1)
  have HB1 := hid (HB.out.ext x1)
  clear x1 HE HB
  cases r with
  | false =>
    have hq := hid (HZ.out rfl)
    clear HN HS HZ
    go_wp2_with fail
    go_ret
    exact ⟨by rw [hq.out]; rfl, HE1.out⟩
  | true =>
    have HN1 := fun W => HN W rfl
    clear HN HZ
    go_wp2_with fail
    simp only [Tryd.isAgg44, Tryd.sizeOf44, Result.andThen, ↓reduceIte, run_loadCells_blk HB1.out 21 hz.out]
    rw [Oper.upon_value]
    go_wp2_with fail
    refine ((HN1 _).out).mono ?_
    rintro en w2 ⟨rfl, x2⟩
    have HE2 := hid (HE1.out.trans x2)
    clear x2
    go_wp2_with fail
    go_ret
    exact ⟨by rw [← HS.out]; rfl, HE2.out⟩
end Go.Proofs.YtanflgipdiogaaaDoor
namespace Go.Proofs.YtanflgipdiogaaaDoor
set_option linter.unusedSimpArgs false
set_option linter.unusedVariables false
open Go.RowKit

theorem run_loadCells_at {P : Program} {w : World} {b off : Nat} {cs : Array Value} (h : ∀ (j : Nat) v, cs[j]? = some v → w.cell? ⟨b, off + j, none⟩ = some v) (n : Nat) (hn : cs.size = n) : (loadCellsFrom ⟨b, off, none⟩ 0 n #[]).run P w = .ok cs w := by
  subst hn
  have := run_loadCells_list (P := P) w ⟨b, off, none⟩ cs.toList (fun j v hv => by
    have hadd : (⟨b, off, none⟩ : Addr).add j = ⟨b, off + j, none⟩ := Addr.add_lit _ _ _
    rw [hadd]
    exact h j v (by simpa using hv))
  simpa [loadCells] using this
theorem ent_size : (Tryd.prog.info? 44).map (·.size) = some 21 := by kernel_rfl
theorem arr_list (e : EntI) : e.arr.toList = e.cells := rfl
theorem arr_one (e : EntI) : e.arr.all (·.oneCell') = true := by
  rw [Array.all_eq_true_iff_forall_mem]
  intro x hx
  rw [← Array.mem_toList_iff, arr_list] at hx
  simp only [EntI.cells, List.mem_cons, List.not_mem_nil, or_false] at hx
  rcases hx with rfl | rfl | rfl | rfl | rfl | rfl | rfl | rfl | rfl | rfl | rfl | rfl | rfl | rfl | rfl | rfl | rfl | rfl | rfl | rfl | rfl <;> rfl
theorem ent_coded : Coded EntI.cells 21 := ⟨fun _ => rfl, fun a u hu => by
  have := arr_one a
  rw [Array.all_eq_true_iff_forall_mem] at this
  exact this u (by rw [← Array.mem_toList_iff, arr_list]; exact hu)⟩
/-- An element of a row of entries, by its array. -/
theorem ent_at {w : World} {b o k : Nat} {l : List EntI} (hcell : ∀ k x j u, (l.map EntI.cells)[k]? = some x → x[j]? = some u → w.cell? ⟨b, o + k * 21 + j, none⟩ = some u) (h : k < l.length) : ∀ (j : Nat) v, l[k].arr[j]? = some v → w.cell? ⟨b, o + k * 21 + j, none⟩ = some v := fun j v hv => by
  refine hcell k l[k].cells j v (by rw [List.getElem?_map, List.getElem?_eq_getElem h]; rfl) ?_
  rw [← arr_list, Array.getElem?_toList]; exact hv
def entZ : Array Value := #[.int .i64 0, .int .i64 0, .int .i64 0, .int .i64 0, .int .i64 0, .int .i64 0, .string ⟨#[]⟩, .string ⟨#[]⟩, .bool false, .int .i64 0, .int .i64 0, .int .i64 0, .int .i64 0, .int .i64 0, .string ⟨#[]⟩, .int .i64 0, .bool false, .int .i64 0, .int .i64 0, .int .i64 0, .int .i64 0]
theorem sizeE_le {e : EntI} (h : EntOk e) : sizeE e ≤ 1000 := by
  cases hr : rightE e with
  | true => exact (entF_ok h hr).2.2
  | false => rw [(sizeE_no hr).1]; exact Nat.zero_le _
def sumE (l : List EntI) : Nat := (l.map sizeE).sum
theorem sumE_take {l : List EntI} {k : Nat} (h : k < l.length) : sumE (l.take (k + 1)) = sumE (l.take k) + sizeE l[k] := by
  unfold sumE
  rw [List.take_succ_eq_append_getElem h, List.map_append, List.sum_append]; simp
theorem sumE_le : ∀ (l : List EntI), (∀ e ∈ l, EntOk e) → sumE l ≤ 1000 * l.length
  | [], _ => Nat.zero_le _
  | e :: l, h => by
    have ih := sumE_le l (fun x hx => h x (by simp [hx]))
    have := sizeE_le (h e (by simp))
    show sizeE e + sumE l ≤ _
    rw [List.length_cons]; omega
attribute [-simp] Tryd.isAgg44 Tryd.sizeOf44
set_option maxRecDepth 100000 in
set_option maxHeartbeats 4000000 in
theorem weigh_c (w : World) (v : Value) (l : List EntI) (m : Int) (hm : w.cell? ⟨0, 0, none⟩ = some (.int .i64 m)) (h : Sl w 21 v (l.map EntI.cells)) (hl : l.length ≤ 5000) (hok : ∀ e ∈ l, EntOk e) : Calls Tryd.prog 13 #[v] w (Ret (.int .i64 (sumE l)) w) := by
  obtain ⟨A, c, hv, h1, h2, h3⟩ := h
  rw [List.length_map] at hv h1 h3
  subst hv
  unfold maxLen at h2
  have HSz := fun W (hW : Ext w W) x (hx : x ∈ l) => hid (size_c W x m (hW.cell hm) (hok x hx))
  have HB := hid (fun k => sumE_le (l.take k) (fun e he => hok e (List.mem_of_mem_take he)))
  have HS1 := hid (fun x (hx : x ∈ l) => sizeE_le (hok x hx))
  have H3 := hid h3
  clear h3 hm hok
  obtain ⟨Z, hZ⟩ : ∃ Z : Array Value, entZ = Z := ⟨_, rfl⟩
  have hZs : Z.size = 21 := by rw [← hZ]; rfl
  have HZ := hid hZs
  unfold entZ at hZ
  clear hZs
  go_enter Tryd.func13, Tryd.ntmps13
  go_wp2_with fail
  go_loopw [3, 8] (fun s3 s8 wr => ∃ k : Nat, k ≤ l.length ∧ s3 = .int .i64 (sumE (l.take k)) ∧ s8 = .int .i64 k ∧ Hid (Ext w wr)) (fun _ s8 _ => l.length - (intOf s8).toNat)
  case atStart => exact ⟨0, by omega, rfl, rfl, Ext.refl _⟩
  case round =>
    obtain ⟨k, hk, rfl, rfl, hE⟩ := hrel
    by_cases hlt : k < l.length
    · have d1 : decide ((k : Int) < l.length) = true := decide_eq_true (by omega)
      have d1' : decide (k < l.length) = true := decide_eq_true hlt
      obtain ⟨b, o, rfl, lb, hcell⟩ := H3.out (by omega)
      have HR := hid (ent_at (fun k x j u hx hu => hE.out.cell (hcell k x j u hx hu)) hlt)
      have HC := fun W (hW : Ext wr W) => HSz W (hE.out.trans hW) l[k] (List.getElem_mem hlt)
      have hs1 := HS1.out l[k] (List.getElem_mem hlt)
      have hb := HB.out k
      have HM := hid (sumE_take hlt)
      have hb2 : sumE (l.take k) ≤ 5000000 := by
        have : (l.take k).length ≤ 5000 := by rw [List.length_take]; omega
        omega
      clear hcell H3 HSz HS1 HB hb lb
      generalize l[k] = x at HR HC hs1 HM
      have hz := hid (arr_size x)
      have HO := hid (arr_one x)
      generalize hn1 : sumE (l.take (k + 1)) = n1 at HM
      have HN1 := hid hn1
      clear hn1
      generalize sumE (l.take k) = n0 at HM hb2 ⊢
      generalize sizeE x = sx at HC hs1 HM
      generalize x.arr = arr at HR HC hz HO
      go_wp2_with fail
      simp only [Tryd.sizeOf44, Result.andThen]
      rw [Oper.upon_value]
      go_wp2_with fail
      simp only [Tryd.isAgg44, Tryd.sizeOf44, Result.andThen, ↓reduceIte, run_loadCells_at HR.out 21 hz.out]
      rw [Oper.upon_value]
      go_wp2_with fail
      have HB1 := hid (Blk.new wr 44 Z)
      simp only [Tryd.sizeOf44, Result.andThen, ↓reduceIte, run_storeCells_blk HB1.out (by rw [hz.out]; exact ent_size) (by rw [hz.out, HZ.out]) HO.out, hz.out]
      rw [Oper.upon_skip]
      rw [World.setRow_alloc_new]
      have HB2 := hid (Blk.new wr 44 arr)
      have HE2 := hid (Ext.alloc wr (.cells arr 44))
      clear HB1
      go_wp2_with fail
      generalize wr.alloc (.cells arr 44) = w2 at HB2 HE2 ⊢
      simp only [Tryd.isAgg44, Tryd.sizeOf44, Result.andThen, ↓reduceIte, run_loadCells_blk HB2.out 21 hz.out]
      rw [Oper.upon_value]
      go_wp2_with fail
      refine ((HC _ HE2.out).out).mono ?_
      rintro en w3 ⟨rfl, x3⟩
      have HE3 := hid (hE.out.trans (HE2.out.trans x3))
      clear x3 HE2 HB2 HR HC
      have hsum : IntKind.i64.wrap ((n0 : Int) + sx) = n1 := by
        rw [HM.out, IntWalk.i64_in _ (by omega)]; omega
      go_wp2_with fail
      go_roundw
      case rel => exact ⟨k + 1, by omega, by (rw [HN1.out, HM.out]), by go_num, HE3⟩
      case measure => simp [intOf]; omega
    · obtain rfl : k = l.length := by omega
      rw [List.take_length]
      clear hlt hk HSz H3 HS1 HB
      go_wp2_with fail
      go_ret
      exact ⟨rfl, hE.out⟩
end Go.Proofs.YtanflgipdiogaaaDoor
