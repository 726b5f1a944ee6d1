/-
  The law PackVecs: its walk (written by gen_pw.py).
-/
import Derived.Test.YtanflgipdiogaaaQaF
import Derived.Test.YtanflgipdiogaaaPkQk
namespace Go.Proofs.Ytanflgipdiogaaa
set_option linter.unusedSimpArgs false
set_option linter.unusedVariables false
open Go.RowKit

theorem getV_any (w : World) (s : ByteArray) (hs : s.size ≤ 90000) : Calls Try.prog 12 #[.string s] w (fun en w' => ∃ (x : List Int) (z : Int), (x.length = 65 ∧ ((z = 0 ∧ in64L x ∧ x = cleanL x ∧ listB verB (endsL x) = s) ∨ (z = 6 ∧ x = vec0))) ∧ en = .returned (.tuple #[.agg (vecV x), .int .i64 z]) ∧ Ext w w') := by
  refine (getV_x w s hs).mono ?_
  rintro en w' ⟨x, hl, h64, _, rfl, hx⟩
  by_cases hc : gotV x s
  · rw [if_pos hc, if_pos hc]
    have hd : x = cleanL x := by
      unfold gotV at hc
      cases h : decide (x = cleanL x) with
      | true => exact of_decide_eq_true h
      | false => rw [h] at hc; exact absurd hc.1 (by decide)
    have he : listB verB (endsL x) = s := by
      have h2 := hc.2
      rw [decide_eq_true hd] at h2
      exact h2
    exact ⟨x, 0, ⟨hl, .inl ⟨rfl, h64, hd, he⟩⟩, rfl, hx⟩
  · rw [if_neg hc, if_neg hc]
    exact ⟨vec0, 6, ⟨by simp [vec0], .inr ⟨rfl, rfl⟩⟩, rfl, hx⟩
theorem ends64 {v : List Int} (h : in64L v) : ∀ x ∈ endsL v, ver64 x := fun x hx => ver64_ok (endsL_ok h x hx)
attribute [-simp] Try.isAgg23 Try.sizeOf23
set_option maxRecDepth 100000 in
set_option maxHeartbeats 16000000 in
theorem pw_long (w : World) (v : List Int) (u : Value) (l : List Ver) (s : ByteArray) (hv : v.length = 65) (h : Sl w 2 u (l.map Ver.cells)) (hlen : 100 < l.length) : Calls Try.prog 3 #[.agg (vecV v), u, .string s] w (Ret (.bool true) w) := by
  have HAw := fun W => hid (awake17_c W)
  have X0 := hid (Ext.alloc w (.cells (vecV v) 23))
  have HB0 := hid (Blk.new w 23 (vecV v))
  have d1 : decide (100 < l.length) = true := decide_eq_true hlen
  have d1' : decide ((100 : Int) < l.length) = true := decide_eq_true (by omega)
  clear hlen
  obtain ⟨A, c, rfl, _⟩ := sl_get h
  clear h
  go_enter Try.func3, Try.ntmps3
  go_wp2_with fail
  refine ((HAw _).out).mono ?_
  rintro e w1 ⟨rfl, x1⟩
  have X1 := hid (X0.out.trans x1)
  clear x1
  go_wp2_with fail
  go_ret
  exact ⟨rfl, X1.out⟩
set_option maxRecDepth 100000 in
set_option maxHeartbeats 16000000 in
theorem pw_far (w : World) (v : List Int) (u : Value) (l : List Ver) (s : ByteArray) (hv : v.length = 65) (h : Sl w 2 u (l.map Ver.cells)) (hlen : ¬ 100 < l.length) (hbig : 2000 < s.size) : Calls Try.prog 3 #[.agg (vecV v), u, .string s] w (Ret (.bool true) w) := by
  have HAw := fun W => hid (awake17_c W)
  have X0 := hid (Ext.alloc w (.cells (vecV v) 23))
  have HB0 := hid (Blk.new w 23 (vecV v))
  have d1 : decide (100 < l.length) = false := decide_eq_false hlen
  have d1' : decide ((100 : Int) < l.length) = false := decide_eq_false (by omega)
  have d2 : decide (2000 < s.size) = true := decide_eq_true hbig
  have d2' : decide ((2000 : Int) < s.size) = true := decide_eq_true (by omega)
  clear hlen hbig
  obtain ⟨A, c, rfl, _⟩ := sl_get h
  clear h
  go_enter Try.func3, Try.ntmps3
  go_wp2_with fail
  refine ((HAw _).out).mono ?_
  rintro e w1 ⟨rfl, x1⟩
  have X1 := hid (X0.out.trans x1)
  clear x1
  go_wp2_with fail
  go_ret
  exact ⟨rfl, X1.out⟩
set_option maxRecDepth 100000 in
set_option maxHeartbeats 16000000 in
theorem pw_main (w : World) (v : List Int) (u : Value) (l : List Ver) (s : ByteArray) (hv : v.length = 65) (h : Sl w 2 u (l.map Ver.cells)) (hlen : ¬ 100 < l.length) (hbig : ¬ 2000 < s.size) (h64 : in64L v) (hl64 : ∀ x ∈ l, ver64 x) (bv bi : Bool) (hbv : decide (v = cleanL v) = bv) (hbi : itemsB l = bi) : Calls Try.prog 3 #[.agg (vecV v), u, .string s] w (Ret (.bool true) w) := by
  have HAw := fun W => hid (awake17_c W)
  have X0 := hid (Ext.alloc w (.cells (vecV v) 23))
  have HB0 := hid (Blk.new w 23 (vecV v))
  have d1 : decide (100 < l.length) = false := decide_eq_false hlen
  have d1' : decide ((100 : Int) < l.length) = false := decide_eq_false (by omega)
  have d2 : decide (2000 < s.size) = false := decide_eq_false hbig
  have d2' : decide ((2000 : Int) < s.size) = false := decide_eq_false (by omega)
  have HPv := fun W => hid (putV_c W v hv h64)
  have HPi := fun W (hW : Ext w W) => hid (putI_c W u l (h.ext hW) (by omega) hl64)
  have HRp := fun W => hid (rplain_c W v hv)
  have HRe := fun W => hid (rends_c W v hv)
  have HRv := fun W y (hy : Sl W 2 y ((endsL v).map Ver.cells)) => hid (rvers_c W y (endsL v) hy (by have := endsL_len v; omega) (ends64 h64))
  have HRi := fun W (hW : Ext w W) => hid (ritems_c W u l (h.ext hW) (by omega))
  have HRl := fun W (hW : Ext w W) => hid (rvers_c W u l (h.ext hW) (by omega) hl64)
  have HAn := fun W b S => hid (answer17_c W b S)
  have HGb := fun W (hb : bv = true) => hid (getV_back W v hv h64 (of_decide_eq_true (hbv.trans hb)))
  have HGx := fun W S (hS : S.size ≤ 90000) => hid (getV_any W S hS)
  have HGi := fun W S hS hq => hid (getI_c W S hS hq)
  have HEq := fun W (hW : Ext w W) y (hy : Sl W 2 y (l.map Ver.cells)) => hid (vsame_c W y u l l hy (h.ext hW))
  simp only [decide_true] at HEq
  have HVe := fun W => run_eq_vec v v hv hv W
  simp only [decide_true] at HVe
  have HV0 := fun W => run_eq_vec vec0 vec0 (by simp [vec0]) (by simp [vec0]) W
  simp only [decide_true] at HV0
  have hs8 : s.size ≤ 90000 := by omega
  have hs8b : s.size ≤ 2400 := by omega
  have HS8 := hid hs8
  have HS8b := hid hs8b
  have HIs : Hid (bi = true → (listB verB l).size ≤ 90000 ∧ ∃ l0 : List Ver, (∀ x ∈ l0, okVer x) ∧ l0.length ≤ 2400 ∧ listB verB l = listB verB l0) := fun hb => by
    have hok := itemsB_ok (hbi.trans hb) hl64
    refine ⟨?_, l, hok, by omega, rfl⟩
    have := listB_len verB l 18 100 (by decide) (by omega) (by decide) (fun x hx => verB_okle (hok x hx))
    rw [listB_size]; omega
  have HOkL := hid hl64
  have HLen : Hid (l.length ≤ 2400) := by unfold Hid; omega
  have HBi := hid hbi
  rw [hbv] at HPv HRp
  rw [hbi] at HPi HRi
  have HV := hid hv
  have HZ : Hid (vec0.length = 65) := by unfold Hid; simp [vec0]
  generalize hI : listB verB l = I at HPi HRl HIs
  have HI := hid hI
  generalize listB verB (endsL v) = U at HPv HRv HGb
  generalize endsL v = ev at HRe HRv
  obtain ⟨A, c, rfl, _⟩ := sl_get h
  clear h hs8 hs8b hbv hbi hl64 h64 hv hI hlen hbig
  go_enter Try.func3, Try.ntmps3
  go_wp2_with fail
  generalize w.alloc (.cells (vecV v) 23) = w0 at X0 HB0 ⊢
  simp only [Try.isAgg23, Try.sizeOf23, Result.andThen, ↓reduceIte, run_loadCells_blk HB0.out 65 (by rw [vecV_size]; exact HV.out)]
  rw [Oper.upon_value]
  go_wp2_with fail
  refine ((HPv _).out).mono ?_
  rintro e w1 ⟨rfl, x1⟩
  have X1 := hid (X0.out.trans x1)
  have HB1 := hid (HB0.out.ext x1)
  clear x1 X0 HB0
  go_wp2_with fail
  refine ((HPi _ X1.out).out).mono ?_
  rintro e w2 ⟨rfl, x2⟩
  have X2 := hid (X1.out.trans x2)
  have HB2 := hid (HB1.out.ext x2)
  clear x2 X1 HB1
  clear HPv HPi
  go_wp2_with fail
  refine wp_region_any_order (by kernel_rfl) (by kernel_rfl) (by kernel_rfl) ?_
  repeat (first
    | (refine AWq.val rfl rfl rfl rfl (fun K hK => ?_); go_big_quiet_op; refine hK _ ?_; clear hK K)
    | (refine AWq.skip rfl rfl rfl ?_; simp only [Act.put, List.setIfInBounds_toArray, List.set_cons_succ, List.set_cons_zero])
    | (refine AWq.call rfl Try.func8 (by kernel_rfl) (by kernel_rfl) rfl rfl rfl ?_; apply Exists.intro; refine And.intro (fun wc hc => ?_) ?_; (· (simp only [argsOf, anyAt, ↓reduceIte, Nat.reduceEqDiff, Array.getD_eq_getD_getElem?, List.getElem?_toArray, List.getElem?_cons_succ, List.getElem?_cons_zero, Option.getD_some]; with_reducible exact (HRp _).out)); simp only [Act.put, List.setIfInBounds_toArray, List.set_cons_succ, List.set_cons_zero])
    | (refine AWq.callQ ((RowAt Ver.cells 2 ev)) ((fun v _ _ he h => RowAt.ext h he)) rfl Try.func10 (by kernel_rfl) (by kernel_rfl) rfl rfl rfl (fun wc hc => ?_) ?_; (· (simp only [argsOf, anyAt, ↓reduceIte, Nat.reduceEqDiff, Array.getD_eq_getD_getElem?, List.getElem?_toArray, List.getElem?_cons_succ, List.getElem?_cons_zero, Option.getD_some]; exact (HRe wc).out)))
    | (refine AWq.call rfl Try.func11 (by kernel_rfl) (by kernel_rfl) rfl rfl rfl ?_; apply Exists.intro; refine And.intro (fun wc hc => ?_) ?_; (· (simp only [argsOf, anyAt, ↓reduceIte, Nat.reduceEqDiff, Array.getD_eq_getD_getElem?, List.getElem?_toArray, List.getElem?_cons_succ, List.getElem?_cons_zero, Option.getD_some]; with_reducible exact (HRi _ (X2.out.trans hc)).out)); simp only [Act.put, List.setIfInBounds_toArray, List.set_cons_succ, List.set_cons_zero])
    | (refine AWq.call rfl Try.func9 (by kernel_rfl) (by kernel_rfl) rfl rfl rfl ?_; apply Exists.intro; refine And.intro (fun wc hc => ?_) ?_; (· (simp only [argsOf, anyAt, ↓reduceIte, Nat.reduceEqDiff, Array.getD_eq_getD_getElem?, List.getElem?_toArray, List.getElem?_cons_succ, List.getElem?_cons_zero, Option.getD_some]; with_reducible exact (HRl _ (X2.out.trans hc)).out)); simp only [Act.put, List.setIfInBounds_toArray, List.set_cons_succ, List.set_cons_zero])
    | (refine AWq.call rfl Try.func9 (by kernel_rfl) (by kernel_rfl) rfl rfl rfl ?_; apply Exists.intro; refine And.intro (fun wc hc => ?_) ?_; (· (simp only [argsOf, anyAt, ↓reduceIte, Nat.reduceEqDiff, Array.getD_eq_getD_getElem?, List.getElem?_toArray, List.getElem?_cons_succ, List.getElem?_cons_zero, Option.getD_some]; intro y hy; exact (HRv _ _ hy.1).out)); simp only [Act.put, List.setIfInBounds_toArray, List.set_cons_succ, List.set_cons_zero])
    | (refine AWq.call rfl Try.func7 (by kernel_rfl) (by kernel_rfl) rfl rfl rfl ?_; apply Exists.intro; refine And.intro (fun wc hc => ?_) ?_; (· (simp only [argsOf, anyAt, ↓reduceIte, Nat.reduceEqDiff, Array.getD_eq_getD_getElem?, List.getElem?_toArray, List.getElem?_cons_succ, List.getElem?_cons_zero, Option.getD_some]; with_reducible exact (HAn _ _ _).out)); simp only [Act.put, List.setIfInBounds_toArray, List.set_cons_succ, List.set_cons_zero])
    | (refine AWq.val rfl rfl rfl rfl (fun K hK => ?_); refine quiet_load rfl rfl (fun wc hwc => by obtain ⟨E, rfl⟩ := hwc; exact HB2.out.ext (Ext.of_wext _ _)) (fun wc hB => vec_load HV.out hB) (hK _ ?_); clear hK K; simp only [Act.put, List.setIfInBounds_toArray, List.set_cons_succ, List.set_cons_zero]))
  refine AWq.done rfl rfl rfl (fun w3 x3 => ?_)
  simp only [closeAny, Act.put, List.setIfInBounds_toArray, List.set_cons_succ, List.set_cons_zero]
  rintro y9 -
  have X3 := hid (X2.out.trans x3)
  have HB3 := hid (HB2.out.ext x3)
  clear x3 X2 HB2
  clear HRp HRe HRi HRl HRv HAn
  go_wp2_with fail
  cases bv with
  | true =>
    rw [show putB true U = U from rfl, show okZ true = 0 from rfl]
    refine ((HGb _ rfl).out).mono ?_
    rintro e w4 ⟨rfl, x4⟩
    have HG4 : Hid (w.heap.size < w4.heap.size) := (HB3.out.ext x4).lt
    have HWs4 : Hid (w.heap.size ≤ w4.heap.size) := (X3.out.trans x4).size
    have HN4 := hid (Blk.new w4 23 (vecV vec0))
    have X4' := hid ((X3.out.trans x4).alloc' (.cells (vecV vec0) 23))
    have HB4' := hid ((HB3.out.ext x4).alloc (.cells (vecV vec0) 23))
    clear x4 X3 HB3
    go_wp2_with fail
    simp only [Try.sizeOf23, Result.andThen, ↓reduceIte, run_storeCells_blk HN4.out (by rw [vecV_size, HV.out]; exact vec_size) (by first | rfl | (rw [vecV_size, vecV_size, HV.out]; exact HZ.out)) (vecV_one _), show (vecV _).size = 65 from (vecV_size _).trans HV.out]
    rw [Oper.upon_skip]
    have HN4' := hid (HN4.out.setRow (vecV v))
    have HB4 := hid (HB4'.out.farRow (k := w4.heap.size) (by have := HG4.out; omega) (vecV v))
    have X4 := hid (X4'.out.setRow HWs4.out (vecV v))
    clear HN4 HB4' X4'
    have HN4 := HN4'
    clear HN4'
    generalize (w4.alloc (.cells (vecV vec0) 23)).setRow w4.heap.size (vecV v) = w4b at HN4 HB4 X4 ⊢
    clear HG4 HWs4
    go_wp2_with fail
    simp only [Try.isAgg23, Try.sizeOf23, Result.andThen, ↓reduceIte, run_loadCells_blk HN4.out 65 (by rw [vecV_size]; exact HV.out)]
    rw [Oper.upon_value]
    go_wp2_with fail
    simp only [Try.isAgg23, Try.sizeOf23, Result.andThen, ↓reduceIte, run_loadCells_blk HB4.out 65 (by rw [vecV_size]; exact HV.out)]
    rw [Oper.upon_value]
    go_wp2_with fail
    clear HN4
    cases bi with
    | true =>
      rw [show putB true I = I from rfl, show okZ true = 0 from rfl]
      refine ((HGi _ I (HIs.out rfl).1 (.inr (HIs.out rfl).2)).out).mono ?_
      rintro e w5 ⟨v1, l1, z1, rfl, x5, hd, hback⟩
      obtain ⟨rfl, rfl⟩ := hback l HOkL.out HLen.out HBi.out HI.out.symm
      have HR1 : Hid (Sl w5 2 v1 (l1.map Ver.cells)) := by
        rcases hd with ⟨_, _, _, hr, _⟩ | ⟨h9, _⟩
        · exact hr.1
        · exact absurd h9 (by decide)
      have X5 := hid (X4.out.trans x5)
      have HB5 := hid (HB4.out.ext x5)
      clear x5 X4 HB4
      clear hd hback
      go_wp2_with fail
      refine ((HEq _ X5.out _ HR1.out).out).mono ?_
      rintro e w6 ⟨rfl, x6⟩
      have X6 := hid (X5.out.trans x6)
      have HB6 := hid (HB5.out.ext x6)
      clear x6 X5 HB5
      clear HR1 HEq
      go_wp2_with fail
      refine ((HGx _ s HS8.out).out).mono ?_
      rintro e w7 ⟨y, z, ⟨hyl, hd⟩, rfl, x7⟩
      rcases hd with ⟨rfl, y64, yc, ye⟩ | ⟨rfl, rfl⟩
      · have HYl := hid hyl
        have HP1 := fun W => hid (rplain_c W y hyl)
        have HP2 := fun W => hid (rends_c W y hyl)
        have HP3 := fun W u (hu : Sl W 2 u ((endsL y).map Ver.cells)) => hid (rvers_c W u (endsL y) hu (by have := endsL_len y; omega) (ends64 y64))
        rw [decide_eq_true yc] at HP1
        rw [ye] at HP3
        generalize endsL y = en at HP2 HP3
        have dss : (s.toList == s.toList) = true := by simp
        clear hyl y64 yc ye
        have HG7 : Hid (w.heap.size < w7.heap.size) := (HB6.out.ext x7).lt
        have HWs7 : Hid (w.heap.size ≤ w7.heap.size) := (X6.out.trans x7).size
        have HN7 := hid (Blk.new w7 23 (vecV vec0))
        have X7' := hid ((X6.out.trans x7).alloc' (.cells (vecV vec0) 23))
        have HB7' := hid ((HB6.out.ext x7).alloc (.cells (vecV vec0) 23))
        clear x7 X6 HB6
        go_wp2_with fail
        simp only [Try.sizeOf23, Result.andThen, ↓reduceIte, run_storeCells_blk HN7.out (by rw [vecV_size, HYl.out]; exact vec_size) (by first | rfl | (rw [vecV_size, vecV_size, HYl.out]; exact HZ.out)) (vecV_one _), show (vecV _).size = 65 from (vecV_size _).trans HYl.out]
        rw [Oper.upon_skip]
        have HN7' := hid (HN7.out.setRow (vecV y))
        have HB7 := hid (HB7'.out.farRow (k := w7.heap.size) (by have := HG7.out; omega) (vecV y))
        have X7 := hid (X7'.out.setRow HWs7.out (vecV y))
        clear HN7 HB7' X7'
        have HN7 := HN7'
        clear HN7'
        generalize (w7.alloc (.cells (vecV vec0) 23)).setRow w7.heap.size (vecV y) = w7b at HN7 HB7 X7 ⊢
        clear HG7 HWs7
        go_wp2_with fail
        simp only [Try.isAgg23, Try.sizeOf23, Result.andThen, ↓reduceIte, run_loadCells_blk HN7.out 65 (by rw [vecV_size]; exact HYl.out)]
        rw [Oper.upon_value]
        go_wp2_with fail
        refine ((HP1 _).out).mono ?_
        rintro e w8 ⟨rfl, x8⟩
        have HN8 := hid (HN7.out.ext x8)
        have X8 := hid (X7.out.trans x8)
        have HB8 := hid (HB7.out.ext x8)
        clear x8 X7 HB7
        go_wp2_with fail
        simp only [Try.isAgg23, Try.sizeOf23, Result.andThen, ↓reduceIte, run_loadCells_blk HN8.out 65 (by rw [vecV_size]; exact HYl.out)]
        rw [Oper.upon_value]
        go_wp2_with fail
        refine ((HP2 _).out).mono ?_
        rintro e w9 ⟨u4, rfl, hu4, x9⟩
        have HU4 := hid hu4.1
        have X9 := hid (X8.out.trans x9)
        have HB9 := hid (HB8.out.ext x9)
        clear x9 X8 HB8
        clear hu4
        go_wp2_with fail
        refine ((HP3 _ _ HU4.out).out).mono ?_
        rintro e w10 ⟨rfl, x10⟩
        have X10 := hid (X9.out.trans x10)
        have HB10 := hid (HB9.out.ext x10)
        clear x10 X9 HB9
        clear HP1 HP2 HP3 HU4
        go_wp2_with fail
        refine ((HGi _ s HS8.out (.inl HS8b.out)).out).mono ?_
        rintro e w18 ⟨v2, l2, z2, rfl, x18, hd2, -⟩
        have X18 := hid (X10.out.trans x18)
        clear x18 X10
        rcases hd2 with ⟨rfl, hc2, he2, hr2, hg2, hl9⟩ | ⟨rfl, rfl⟩
        · have HR2 := hid hr2.1
          have hl2 : l2.length ≤ 90000 := by omega
          have HX1 := fun W (hW : Ext w18 W) => hid (ritems_c W v2 l2 (HR2.out.ext hW) hl2)
          have HX2 := fun W (hW : Ext w18 W) => hid (rvers_c W v2 l2 (HR2.out.ext hW) hl2 (fun x hx => ver64_ok (hg2 x hx)))
          rw [hc2] at HX1
          rw [he2] at HX2
          have dss : (s.toList == s.toList) = true := by simp
          obtain ⟨A2, c2, rfl, _⟩ := sl_get hr2.1
          clear hr2 hc2 he2 hg2 hl2 hl9
          go_wp2_with fail
          refine ((HAw _).out).mono ?_
          rintro e w19 ⟨rfl, x19⟩
          have X19 := hid (X18.out.trans x19)
          have Y19 := hid x19
          clear x19
          go_wp2_with fail
          refine ((HX1 _ Y19.out).out).mono ?_
          rintro e w20 ⟨rfl, x20⟩
          have X20 := hid (X19.out.trans x20)
          have Y20 := hid (Y19.out.trans x20)
          clear x20
          go_wp2_with fail
          refine ((HX2 _ Y20.out).out).mono ?_
          rintro e w21 ⟨rfl, x21⟩
          have X21 := hid (X20.out.trans x21)
          clear x21
          go_wp2_with fail
          go_ret
          exact ⟨rfl, X21.out⟩
        · go_wp2_with fail
          refine ((HAw _).out).mono ?_
          rintro e w19 ⟨rfl, x19⟩
          have X19 := hid (X18.out.trans x19)
          clear x19
          go_wp2_with fail
          go_ret
          exact ⟨rfl, X19.out⟩
      · have HG7 : Hid (w.heap.size < w7.heap.size) := (HB6.out.ext x7).lt
        have HWs7 : Hid (w.heap.size ≤ w7.heap.size) := (X6.out.trans x7).size
        have HN7 := hid (Blk.new w7 23 (vecV vec0))
        have X7' := hid ((X6.out.trans x7).alloc' (.cells (vecV vec0) 23))
        have HB7' := hid ((HB6.out.ext x7).alloc (.cells (vecV vec0) 23))
        clear x7 X6 HB6
        go_wp2_with fail
        simp only [Try.sizeOf23, Result.andThen, ↓reduceIte, run_storeCells_blk HN7.out (by rw [vecV_size, HZ.out]; exact vec_size) (by first | rfl | (rw [vecV_size, vecV_size, HZ.out]; exact HZ.out)) (vecV_one _), show (vecV _).size = 65 from (vecV_size _).trans HZ.out]
        rw [Oper.upon_skip]
        have HN7' := hid (HN7.out.setRow (vecV vec0))
        have HB7 := hid (HB7'.out.farRow (k := w7.heap.size) (by have := HG7.out; omega) (vecV vec0))
        have X7 := hid (X7'.out.setRow HWs7.out (vecV vec0))
        clear HN7 HB7' X7'
        have HN7 := HN7'
        clear HN7'
        generalize (w7.alloc (.cells (vecV vec0) 23)).setRow w7.heap.size (vecV vec0) = w7b at HN7 HB7 X7 ⊢
        clear HG7 HWs7
        go_wp2_with fail
        simp only [Try.isAgg23, Try.sizeOf23, Result.andThen, ↓reduceIte, run_loadCells_blk HN7.out 65 (by rw [vecV_size]; exact HZ.out)]
        rw [Oper.upon_value]
        go_wp2_with fail
        refine ((HGi _ s HS8.out (.inl HS8b.out)).out).mono ?_
        rintro e w18 ⟨v2, l2, z2, rfl, x18, hd2, -⟩
        have X18 := hid (X7.out.trans x18)
        clear x18 X7
        rcases hd2 with ⟨rfl, hc2, he2, hr2, hg2, hl9⟩ | ⟨rfl, rfl⟩
        · have HR2 := hid hr2.1
          have hl2 : l2.length ≤ 90000 := by omega
          have HX1 := fun W (hW : Ext w18 W) => hid (ritems_c W v2 l2 (HR2.out.ext hW) hl2)
          have HX2 := fun W (hW : Ext w18 W) => hid (rvers_c W v2 l2 (HR2.out.ext hW) hl2 (fun x hx => ver64_ok (hg2 x hx)))
          rw [hc2] at HX1
          rw [he2] at HX2
          have dss : (s.toList == s.toList) = true := by simp
          obtain ⟨A2, c2, rfl, _⟩ := sl_get hr2.1
          clear hr2 hc2 he2 hg2 hl2 hl9
          go_wp2_with fail
          refine ((HAw _).out).mono ?_
          rintro e w19 ⟨rfl, x19⟩
          have X19 := hid (X18.out.trans x19)
          have Y19 := hid x19
          clear x19
          go_wp2_with fail
          refine ((HX1 _ Y19.out).out).mono ?_
          rintro e w20 ⟨rfl, x20⟩
          have X20 := hid (X19.out.trans x20)
          have Y20 := hid (Y19.out.trans x20)
          clear x20
          go_wp2_with fail
          refine ((HX2 _ Y20.out).out).mono ?_
          rintro e w21 ⟨rfl, x21⟩
          have X21 := hid (X20.out.trans x21)
          clear x21
          go_wp2_with fail
          go_ret
          exact ⟨rfl, X21.out⟩
        · go_wp2_with fail
          refine ((HAw _).out).mono ?_
          rintro e w19 ⟨rfl, x19⟩
          have X19 := hid (X18.out.trans x19)
          clear x19
          go_wp2_with fail
          go_ret
          exact ⟨rfl, X19.out⟩
    | false =>
      rw [show putB false I = ⟨#[]⟩ from rfl, show okZ false = 2 from rfl]
      refine ((HGi _ ⟨#[]⟩ (by decide) (.inl (by decide))).out).mono ?_
      rintro e w5 ⟨v1, l1, z1, rfl, x5, -, -⟩
      have X5 := hid (X4.out.trans x5)
      have HB5 := hid (HB4.out.ext x5)
      clear x5 X4 HB4
      clear HEq
      go_wp2_with fail
      refine ((HGx _ s HS8.out).out).mono ?_
      rintro e w7 ⟨y, z, ⟨hyl, hd⟩, rfl, x7⟩
      rcases hd with ⟨rfl, y64, yc, ye⟩ | ⟨rfl, rfl⟩
      · have HYl := hid hyl
        have HP1 := fun W => hid (rplain_c W y hyl)
        have HP2 := fun W => hid (rends_c W y hyl)
        have HP3 := fun W u (hu : Sl W 2 u ((endsL y).map Ver.cells)) => hid (rvers_c W u (endsL y) hu (by have := endsL_len y; omega) (ends64 y64))
        rw [decide_eq_true yc] at HP1
        rw [ye] at HP3
        generalize endsL y = en at HP2 HP3
        have dss : (s.toList == s.toList) = true := by simp
        clear hyl y64 yc ye
        have HG7 : Hid (w.heap.size < w7.heap.size) := (HB5.out.ext x7).lt
        have HWs7 : Hid (w.heap.size ≤ w7.heap.size) := (X5.out.trans x7).size
        have HN7 := hid (Blk.new w7 23 (vecV vec0))
        have X7' := hid ((X5.out.trans x7).alloc' (.cells (vecV vec0) 23))
        have HB7' := hid ((HB5.out.ext x7).alloc (.cells (vecV vec0) 23))
        clear x7 X5 HB5
        go_wp2_with fail
        simp only [Try.sizeOf23, Result.andThen, ↓reduceIte, run_storeCells_blk HN7.out (by rw [vecV_size, HYl.out]; exact vec_size) (by first | rfl | (rw [vecV_size, vecV_size, HYl.out]; exact HZ.out)) (vecV_one _), show (vecV _).size = 65 from (vecV_size _).trans HYl.out]
        rw [Oper.upon_skip]
        have HN7' := hid (HN7.out.setRow (vecV y))
        have HB7 := hid (HB7'.out.farRow (k := w7.heap.size) (by have := HG7.out; omega) (vecV y))
        have X7 := hid (X7'.out.setRow HWs7.out (vecV y))
        clear HN7 HB7' X7'
        have HN7 := HN7'
        clear HN7'
        generalize (w7.alloc (.cells (vecV vec0) 23)).setRow w7.heap.size (vecV y) = w7b at HN7 HB7 X7 ⊢
        clear HG7 HWs7
        go_wp2_with fail
        simp only [Try.isAgg23, Try.sizeOf23, Result.andThen, ↓reduceIte, run_loadCells_blk HN7.out 65 (by rw [vecV_size]; exact HYl.out)]
        rw [Oper.upon_value]
        go_wp2_with fail
        refine ((HP1 _).out).mono ?_
        rintro e w8 ⟨rfl, x8⟩
        have HN8 := hid (HN7.out.ext x8)
        have X8 := hid (X7.out.trans x8)
        have HB8 := hid (HB7.out.ext x8)
        clear x8 X7 HB7
        go_wp2_with fail
        simp only [Try.isAgg23, Try.sizeOf23, Result.andThen, ↓reduceIte, run_loadCells_blk HN8.out 65 (by rw [vecV_size]; exact HYl.out)]
        rw [Oper.upon_value]
        go_wp2_with fail
        refine ((HP2 _).out).mono ?_
        rintro e w9 ⟨u4, rfl, hu4, x9⟩
        have HU4 := hid hu4.1
        have X9 := hid (X8.out.trans x9)
        have HB9 := hid (HB8.out.ext x9)
        clear x9 X8 HB8
        clear hu4
        go_wp2_with fail
        refine ((HP3 _ _ HU4.out).out).mono ?_
        rintro e w10 ⟨rfl, x10⟩
        have X10 := hid (X9.out.trans x10)
        have HB10 := hid (HB9.out.ext x10)
        clear x10 X9 HB9
        clear HP1 HP2 HP3 HU4
        go_wp2_with fail
        refine ((HGi _ s HS8.out (.inl HS8b.out)).out).mono ?_
        rintro e w18 ⟨v2, l2, z2, rfl, x18, hd2, -⟩
        have X18 := hid (X10.out.trans x18)
        clear x18 X10
        rcases hd2 with ⟨rfl, hc2, he2, hr2, hg2, hl9⟩ | ⟨rfl, rfl⟩
        · have HR2 := hid hr2.1
          have hl2 : l2.length ≤ 90000 := by omega
          have HX1 := fun W (hW : Ext w18 W) => hid (ritems_c W v2 l2 (HR2.out.ext hW) hl2)
          have HX2 := fun W (hW : Ext w18 W) => hid (rvers_c W v2 l2 (HR2.out.ext hW) hl2 (fun x hx => ver64_ok (hg2 x hx)))
          rw [hc2] at HX1
          rw [he2] at HX2
          have dss : (s.toList == s.toList) = true := by simp
          obtain ⟨A2, c2, rfl, _⟩ := sl_get hr2.1
          clear hr2 hc2 he2 hg2 hl2 hl9
          go_wp2_with fail
          refine ((HAw _).out).mono ?_
          rintro e w19 ⟨rfl, x19⟩
          have X19 := hid (X18.out.trans x19)
          have Y19 := hid x19
          clear x19
          go_wp2_with fail
          refine ((HX1 _ Y19.out).out).mono ?_
          rintro e w20 ⟨rfl, x20⟩
          have X20 := hid (X19.out.trans x20)
          have Y20 := hid (Y19.out.trans x20)
          clear x20
          go_wp2_with fail
          refine ((HX2 _ Y20.out).out).mono ?_
          rintro e w21 ⟨rfl, x21⟩
          have X21 := hid (X20.out.trans x21)
          clear x21
          go_wp2_with fail
          go_ret
          exact ⟨rfl, X21.out⟩
        · go_wp2_with fail
          refine ((HAw _).out).mono ?_
          rintro e w19 ⟨rfl, x19⟩
          have X19 := hid (X18.out.trans x19)
          clear x19
          go_wp2_with fail
          go_ret
          exact ⟨rfl, X19.out⟩
      · have HG7 : Hid (w.heap.size < w7.heap.size) := (HB5.out.ext x7).lt
        have HWs7 : Hid (w.heap.size ≤ w7.heap.size) := (X5.out.trans x7).size
        have HN7 := hid (Blk.new w7 23 (vecV vec0))
        have X7' := hid ((X5.out.trans x7).alloc' (.cells (vecV vec0) 23))
        have HB7' := hid ((HB5.out.ext x7).alloc (.cells (vecV vec0) 23))
        clear x7 X5 HB5
        go_wp2_with fail
        simp only [Try.sizeOf23, Result.andThen, ↓reduceIte, run_storeCells_blk HN7.out (by rw [vecV_size, HZ.out]; exact vec_size) (by first | rfl | (rw [vecV_size, vecV_size, HZ.out]; exact HZ.out)) (vecV_one _), show (vecV _).size = 65 from (vecV_size _).trans HZ.out]
        rw [Oper.upon_skip]
        have HN7' := hid (HN7.out.setRow (vecV vec0))
        have HB7 := hid (HB7'.out.farRow (k := w7.heap.size) (by have := HG7.out; omega) (vecV vec0))
        have X7 := hid (X7'.out.setRow HWs7.out (vecV vec0))
        clear HN7 HB7' X7'
        have HN7 := HN7'
        clear HN7'
        generalize (w7.alloc (.cells (vecV vec0) 23)).setRow w7.heap.size (vecV vec0) = w7b at HN7 HB7 X7 ⊢
        clear HG7 HWs7
        go_wp2_with fail
        simp only [Try.isAgg23, Try.sizeOf23, Result.andThen, ↓reduceIte, run_loadCells_blk HN7.out 65 (by rw [vecV_size]; exact HZ.out)]
        rw [Oper.upon_value]
        go_wp2_with fail
        refine ((HGi _ s HS8.out (.inl HS8b.out)).out).mono ?_
        rintro e w18 ⟨v2, l2, z2, rfl, x18, hd2, -⟩
        have X18 := hid (X7.out.trans x18)
        clear x18 X7
        rcases hd2 with ⟨rfl, hc2, he2, hr2, hg2, hl9⟩ | ⟨rfl, rfl⟩
        · have HR2 := hid hr2.1
          have hl2 : l2.length ≤ 90000 := by omega
          have HX1 := fun W (hW : Ext w18 W) => hid (ritems_c W v2 l2 (HR2.out.ext hW) hl2)
          have HX2 := fun W (hW : Ext w18 W) => hid (rvers_c W v2 l2 (HR2.out.ext hW) hl2 (fun x hx => ver64_ok (hg2 x hx)))
          rw [hc2] at HX1
          rw [he2] at HX2
          have dss : (s.toList == s.toList) = true := by simp
          obtain ⟨A2, c2, rfl, _⟩ := sl_get hr2.1
          clear hr2 hc2 he2 hg2 hl2 hl9
          go_wp2_with fail
          refine ((HAw _).out).mono ?_
          rintro e w19 ⟨rfl, x19⟩
          have X19 := hid (X18.out.trans x19)
          have Y19 := hid x19
          clear x19
          go_wp2_with fail
          refine ((HX1 _ Y19.out).out).mono ?_
          rintro e w20 ⟨rfl, x20⟩
          have X20 := hid (X19.out.trans x20)
          have Y20 := hid (Y19.out.trans x20)
          clear x20
          go_wp2_with fail
          refine ((HX2 _ Y20.out).out).mono ?_
          rintro e w21 ⟨rfl, x21⟩
          have X21 := hid (X20.out.trans x21)
          clear x21
          go_wp2_with fail
          go_ret
          exact ⟨rfl, X21.out⟩
        · go_wp2_with fail
          refine ((HAw _).out).mono ?_
          rintro e w19 ⟨rfl, x19⟩
          have X19 := hid (X18.out.trans x19)
          clear x19
          go_wp2_with fail
          go_ret
          exact ⟨rfl, X19.out⟩
  | false =>
    rw [show putB false U = ⟨#[]⟩ from rfl, show okZ false = 2 from rfl]
    refine ((HGx _ ⟨#[]⟩ (by decide)).out).mono ?_
    rintro e w4 ⟨y4, z4, ⟨hy4, -⟩, rfl, x4⟩
    have HY4 := hid hy4
    clear hy4
    have HG4 : Hid (w.heap.size < w4.heap.size) := (HB3.out.ext x4).lt
    have HWs4 : Hid (w.heap.size ≤ w4.heap.size) := (X3.out.trans x4).size
    have HN4 := hid (Blk.new w4 23 (vecV vec0))
    have X4' := hid ((X3.out.trans x4).alloc' (.cells (vecV vec0) 23))
    have HB4' := hid ((HB3.out.ext x4).alloc (.cells (vecV vec0) 23))
    clear x4 X3 HB3
    go_wp2_with fail
    simp only [Try.sizeOf23, Result.andThen, ↓reduceIte, run_storeCells_blk HN4.out (by rw [vecV_size, HY4.out]; exact vec_size) (by first | rfl | (rw [vecV_size, vecV_size, HY4.out]; exact HZ.out)) (vecV_one _), show (vecV _).size = 65 from (vecV_size _).trans HY4.out]
    rw [Oper.upon_skip]
    have HN4' := hid (HN4.out.setRow (vecV y4))
    have HB4 := hid (HB4'.out.farRow (k := w4.heap.size) (by have := HG4.out; omega) (vecV y4))
    have X4 := hid (X4'.out.setRow HWs4.out (vecV y4))
    clear HN4 HB4' X4'
    have HN4 := HN4'
    clear HN4'
    generalize (w4.alloc (.cells (vecV vec0) 23)).setRow w4.heap.size (vecV y4) = w4b at HN4 HB4 X4 ⊢
    clear HG4 HWs4
    go_wp2_with fail
    clear HN4
    cases bi with
    | true =>
      rw [show putB true I = I from rfl, show okZ true = 0 from rfl]
      refine ((HGi _ I (HIs.out rfl).1 (.inr (HIs.out rfl).2)).out).mono ?_
      rintro e w5 ⟨v1, l1, z1, rfl, x5, hd, hback⟩
      obtain ⟨rfl, rfl⟩ := hback l HOkL.out HLen.out HBi.out HI.out.symm
      have HR1 : Hid (Sl w5 2 v1 (l1.map Ver.cells)) := by
        rcases hd with ⟨_, _, _, hr, _⟩ | ⟨h9, _⟩
        · exact hr.1
        · exact absurd h9 (by decide)
      have X5 := hid (X4.out.trans x5)
      have HB5 := hid (HB4.out.ext x5)
      clear x5 X4 HB4
      clear hd hback
      go_wp2_with fail
      refine ((HEq _ X5.out _ HR1.out).out).mono ?_
      rintro e w6 ⟨rfl, x6⟩
      have X6 := hid (X5.out.trans x6)
      have HB6 := hid (HB5.out.ext x6)
      clear x6 X5 HB5
      clear HR1 HEq
      go_wp2_with fail
      refine ((HGx _ s HS8.out).out).mono ?_
      rintro e w7 ⟨y, z, ⟨hyl, hd⟩, rfl, x7⟩
      rcases hd with ⟨rfl, y64, yc, ye⟩ | ⟨rfl, rfl⟩
      · have HYl := hid hyl
        have HP1 := fun W => hid (rplain_c W y hyl)
        have HP2 := fun W => hid (rends_c W y hyl)
        have HP3 := fun W u (hu : Sl W 2 u ((endsL y).map Ver.cells)) => hid (rvers_c W u (endsL y) hu (by have := endsL_len y; omega) (ends64 y64))
        rw [decide_eq_true yc] at HP1
        rw [ye] at HP3
        generalize endsL y = en at HP2 HP3
        have dss : (s.toList == s.toList) = true := by simp
        clear hyl y64 yc ye
        have HG7 : Hid (w.heap.size < w7.heap.size) := (HB6.out.ext x7).lt
        have HWs7 : Hid (w.heap.size ≤ w7.heap.size) := (X6.out.trans x7).size
        have HN7 := hid (Blk.new w7 23 (vecV vec0))
        have X7' := hid ((X6.out.trans x7).alloc' (.cells (vecV vec0) 23))
        have HB7' := hid ((HB6.out.ext x7).alloc (.cells (vecV vec0) 23))
        clear x7 X6 HB6
        go_wp2_with fail
        simp only [Try.sizeOf23, Result.andThen, ↓reduceIte, run_storeCells_blk HN7.out (by rw [vecV_size, HYl.out]; exact vec_size) (by first | rfl | (rw [vecV_size, vecV_size, HYl.out]; exact HZ.out)) (vecV_one _), show (vecV _).size = 65 from (vecV_size _).trans HYl.out]
        rw [Oper.upon_skip]
        have HN7' := hid (HN7.out.setRow (vecV y))
        have HB7 := hid (HB7'.out.farRow (k := w7.heap.size) (by have := HG7.out; omega) (vecV y))
        have X7 := hid (X7'.out.setRow HWs7.out (vecV y))
        clear HN7 HB7' X7'
        have HN7 := HN7'
        clear HN7'
        generalize (w7.alloc (.cells (vecV vec0) 23)).setRow w7.heap.size (vecV y) = w7b at HN7 HB7 X7 ⊢
        clear HG7 HWs7
        go_wp2_with fail
        simp only [Try.isAgg23, Try.sizeOf23, Result.andThen, ↓reduceIte, run_loadCells_blk HN7.out 65 (by rw [vecV_size]; exact HYl.out)]
        rw [Oper.upon_value]
        go_wp2_with fail
        refine ((HP1 _).out).mono ?_
        rintro e w8 ⟨rfl, x8⟩
        have HN8 := hid (HN7.out.ext x8)
        have X8 := hid (X7.out.trans x8)
        have HB8 := hid (HB7.out.ext x8)
        clear x8 X7 HB7
        go_wp2_with fail
        simp only [Try.isAgg23, Try.sizeOf23, Result.andThen, ↓reduceIte, run_loadCells_blk HN8.out 65 (by rw [vecV_size]; exact HYl.out)]
        rw [Oper.upon_value]
        go_wp2_with fail
        refine ((HP2 _).out).mono ?_
        rintro e w9 ⟨u4, rfl, hu4, x9⟩
        have HU4 := hid hu4.1
        have X9 := hid (X8.out.trans x9)
        have HB9 := hid (HB8.out.ext x9)
        clear x9 X8 HB8
        clear hu4
        go_wp2_with fail
        refine ((HP3 _ _ HU4.out).out).mono ?_
        rintro e w10 ⟨rfl, x10⟩
        have X10 := hid (X9.out.trans x10)
        have HB10 := hid (HB9.out.ext x10)
        clear x10 X9 HB9
        clear HP1 HP2 HP3 HU4
        go_wp2_with fail
        refine ((HGi _ s HS8.out (.inl HS8b.out)).out).mono ?_
        rintro e w18 ⟨v2, l2, z2, rfl, x18, hd2, -⟩
        have X18 := hid (X10.out.trans x18)
        clear x18 X10
        rcases hd2 with ⟨rfl, hc2, he2, hr2, hg2, hl9⟩ | ⟨rfl, rfl⟩
        · have HR2 := hid hr2.1
          have hl2 : l2.length ≤ 90000 := by omega
          have HX1 := fun W (hW : Ext w18 W) => hid (ritems_c W v2 l2 (HR2.out.ext hW) hl2)
          have HX2 := fun W (hW : Ext w18 W) => hid (rvers_c W v2 l2 (HR2.out.ext hW) hl2 (fun x hx => ver64_ok (hg2 x hx)))
          rw [hc2] at HX1
          rw [he2] at HX2
          have dss : (s.toList == s.toList) = true := by simp
          obtain ⟨A2, c2, rfl, _⟩ := sl_get hr2.1
          clear hr2 hc2 he2 hg2 hl2 hl9
          go_wp2_with fail
          refine ((HAw _).out).mono ?_
          rintro e w19 ⟨rfl, x19⟩
          have X19 := hid (X18.out.trans x19)
          have Y19 := hid x19
          clear x19
          go_wp2_with fail
          refine ((HX1 _ Y19.out).out).mono ?_
          rintro e w20 ⟨rfl, x20⟩
          have X20 := hid (X19.out.trans x20)
          have Y20 := hid (Y19.out.trans x20)
          clear x20
          go_wp2_with fail
          refine ((HX2 _ Y20.out).out).mono ?_
          rintro e w21 ⟨rfl, x21⟩
          have X21 := hid (X20.out.trans x21)
          clear x21
          go_wp2_with fail
          go_ret
          exact ⟨rfl, X21.out⟩
        · go_wp2_with fail
          refine ((HAw _).out).mono ?_
          rintro e w19 ⟨rfl, x19⟩
          have X19 := hid (X18.out.trans x19)
          clear x19
          go_wp2_with fail
          go_ret
          exact ⟨rfl, X19.out⟩
      · have HG7 : Hid (w.heap.size < w7.heap.size) := (HB6.out.ext x7).lt
        have HWs7 : Hid (w.heap.size ≤ w7.heap.size) := (X6.out.trans x7).size
        have HN7 := hid (Blk.new w7 23 (vecV vec0))
        have X7' := hid ((X6.out.trans x7).alloc' (.cells (vecV vec0) 23))
        have HB7' := hid ((HB6.out.ext x7).alloc (.cells (vecV vec0) 23))
        clear x7 X6 HB6
        go_wp2_with fail
        simp only [Try.sizeOf23, Result.andThen, ↓reduceIte, run_storeCells_blk HN7.out (by rw [vecV_size, HZ.out]; exact vec_size) (by first | rfl | (rw [vecV_size, vecV_size, HZ.out]; exact HZ.out)) (vecV_one _), show (vecV _).size = 65 from (vecV_size _).trans HZ.out]
        rw [Oper.upon_skip]
        have HN7' := hid (HN7.out.setRow (vecV vec0))
        have HB7 := hid (HB7'.out.farRow (k := w7.heap.size) (by have := HG7.out; omega) (vecV vec0))
        have X7 := hid (X7'.out.setRow HWs7.out (vecV vec0))
        clear HN7 HB7' X7'
        have HN7 := HN7'
        clear HN7'
        generalize (w7.alloc (.cells (vecV vec0) 23)).setRow w7.heap.size (vecV vec0) = w7b at HN7 HB7 X7 ⊢
        clear HG7 HWs7
        go_wp2_with fail
        simp only [Try.isAgg23, Try.sizeOf23, Result.andThen, ↓reduceIte, run_loadCells_blk HN7.out 65 (by rw [vecV_size]; exact HZ.out)]
        rw [Oper.upon_value]
        go_wp2_with fail
        refine ((HGi _ s HS8.out (.inl HS8b.out)).out).mono ?_
        rintro e w18 ⟨v2, l2, z2, rfl, x18, hd2, -⟩
        have X18 := hid (X7.out.trans x18)
        clear x18 X7
        rcases hd2 with ⟨rfl, hc2, he2, hr2, hg2, hl9⟩ | ⟨rfl, rfl⟩
        · have HR2 := hid hr2.1
          have hl2 : l2.length ≤ 90000 := by omega
          have HX1 := fun W (hW : Ext w18 W) => hid (ritems_c W v2 l2 (HR2.out.ext hW) hl2)
          have HX2 := fun W (hW : Ext w18 W) => hid (rvers_c W v2 l2 (HR2.out.ext hW) hl2 (fun x hx => ver64_ok (hg2 x hx)))
          rw [hc2] at HX1
          rw [he2] at HX2
          have dss : (s.toList == s.toList) = true := by simp
          obtain ⟨A2, c2, rfl, _⟩ := sl_get hr2.1
          clear hr2 hc2 he2 hg2 hl2 hl9
          go_wp2_with fail
          refine ((HAw _).out).mono ?_
          rintro e w19 ⟨rfl, x19⟩
          have X19 := hid (X18.out.trans x19)
          have Y19 := hid x19
          clear x19
          go_wp2_with fail
          refine ((HX1 _ Y19.out).out).mono ?_
          rintro e w20 ⟨rfl, x20⟩
          have X20 := hid (X19.out.trans x20)
          have Y20 := hid (Y19.out.trans x20)
          clear x20
          go_wp2_with fail
          refine ((HX2 _ Y20.out).out).mono ?_
          rintro e w21 ⟨rfl, x21⟩
          have X21 := hid (X20.out.trans x21)
          clear x21
          go_wp2_with fail
          go_ret
          exact ⟨rfl, X21.out⟩
        · go_wp2_with fail
          refine ((HAw _).out).mono ?_
          rintro e w19 ⟨rfl, x19⟩
          have X19 := hid (X18.out.trans x19)
          clear x19
          go_wp2_with fail
          go_ret
          exact ⟨rfl, X19.out⟩
    | false =>
      rw [show putB false I = ⟨#[]⟩ from rfl, show okZ false = 2 from rfl]
      refine ((HGi _ ⟨#[]⟩ (by decide) (.inl (by decide))).out).mono ?_
      rintro e w5 ⟨v1, l1, z1, rfl, x5, -, -⟩
      have X5 := hid (X4.out.trans x5)
      have HB5 := hid (HB4.out.ext x5)
      clear x5 X4 HB4
      clear HEq
      go_wp2_with fail
      refine ((HGx _ s HS8.out).out).mono ?_
      rintro e w7 ⟨y, z, ⟨hyl, hd⟩, rfl, x7⟩
      rcases hd with ⟨rfl, y64, yc, ye⟩ | ⟨rfl, rfl⟩
      · have HYl := hid hyl
        have HP1 := fun W => hid (rplain_c W y hyl)
        have HP2 := fun W => hid (rends_c W y hyl)
        have HP3 := fun W u (hu : Sl W 2 u ((endsL y).map Ver.cells)) => hid (rvers_c W u (endsL y) hu (by have := endsL_len y; omega) (ends64 y64))
        rw [decide_eq_true yc] at HP1
        rw [ye] at HP3
        generalize endsL y = en at HP2 HP3
        have dss : (s.toList == s.toList) = true := by simp
        clear hyl y64 yc ye
        have HG7 : Hid (w.heap.size < w7.heap.size) := (HB5.out.ext x7).lt
        have HWs7 : Hid (w.heap.size ≤ w7.heap.size) := (X5.out.trans x7).size
        have HN7 := hid (Blk.new w7 23 (vecV vec0))
        have X7' := hid ((X5.out.trans x7).alloc' (.cells (vecV vec0) 23))
        have HB7' := hid ((HB5.out.ext x7).alloc (.cells (vecV vec0) 23))
        clear x7 X5 HB5
        go_wp2_with fail
        simp only [Try.sizeOf23, Result.andThen, ↓reduceIte, run_storeCells_blk HN7.out (by rw [vecV_size, HYl.out]; exact vec_size) (by first | rfl | (rw [vecV_size, vecV_size, HYl.out]; exact HZ.out)) (vecV_one _), show (vecV _).size = 65 from (vecV_size _).trans HYl.out]
        rw [Oper.upon_skip]
        have HN7' := hid (HN7.out.setRow (vecV y))
        have HB7 := hid (HB7'.out.farRow (k := w7.heap.size) (by have := HG7.out; omega) (vecV y))
        have X7 := hid (X7'.out.setRow HWs7.out (vecV y))
        clear HN7 HB7' X7'
        have HN7 := HN7'
        clear HN7'
        generalize (w7.alloc (.cells (vecV vec0) 23)).setRow w7.heap.size (vecV y) = w7b at HN7 HB7 X7 ⊢
        clear HG7 HWs7
        go_wp2_with fail
        simp only [Try.isAgg23, Try.sizeOf23, Result.andThen, ↓reduceIte, run_loadCells_blk HN7.out 65 (by rw [vecV_size]; exact HYl.out)]
        rw [Oper.upon_value]
        go_wp2_with fail
        refine ((HP1 _).out).mono ?_
        rintro e w8 ⟨rfl, x8⟩
        have HN8 := hid (HN7.out.ext x8)
        have X8 := hid (X7.out.trans x8)
        have HB8 := hid (HB7.out.ext x8)
        clear x8 X7 HB7
        go_wp2_with fail
        simp only [Try.isAgg23, Try.sizeOf23, Result.andThen, ↓reduceIte, run_loadCells_blk HN8.out 65 (by rw [vecV_size]; exact HYl.out)]
        rw [Oper.upon_value]
        go_wp2_with fail
        refine ((HP2 _).out).mono ?_
        rintro e w9 ⟨u4, rfl, hu4, x9⟩
        have HU4 := hid hu4.1
        have X9 := hid (X8.out.trans x9)
        have HB9 := hid (HB8.out.ext x9)
        clear x9 X8 HB8
        clear hu4
        go_wp2_with fail
        refine ((HP3 _ _ HU4.out).out).mono ?_
        rintro e w10 ⟨rfl, x10⟩
        have X10 := hid (X9.out.trans x10)
        have HB10 := hid (HB9.out.ext x10)
        clear x10 X9 HB9
        clear HP1 HP2 HP3 HU4
        go_wp2_with fail
        refine ((HGi _ s HS8.out (.inl HS8b.out)).out).mono ?_
        rintro e w18 ⟨v2, l2, z2, rfl, x18, hd2, -⟩
        have X18 := hid (X10.out.trans x18)
        clear x18 X10
        rcases hd2 with ⟨rfl, hc2, he2, hr2, hg2, hl9⟩ | ⟨rfl, rfl⟩
        · have HR2 := hid hr2.1
          have hl2 : l2.length ≤ 90000 := by omega
          have HX1 := fun W (hW : Ext w18 W) => hid (ritems_c W v2 l2 (HR2.out.ext hW) hl2)
          have HX2 := fun W (hW : Ext w18 W) => hid (rvers_c W v2 l2 (HR2.out.ext hW) hl2 (fun x hx => ver64_ok (hg2 x hx)))
          rw [hc2] at HX1
          rw [he2] at HX2
          have dss : (s.toList == s.toList) = true := by simp
          obtain ⟨A2, c2, rfl, _⟩ := sl_get hr2.1
          clear hr2 hc2 he2 hg2 hl2 hl9
          go_wp2_with fail
          refine ((HAw _).out).mono ?_
          rintro e w19 ⟨rfl, x19⟩
          have X19 := hid (X18.out.trans x19)
          have Y19 := hid x19
          clear x19
          go_wp2_with fail
          refine ((HX1 _ Y19.out).out).mono ?_
          rintro e w20 ⟨rfl, x20⟩
          have X20 := hid (X19.out.trans x20)
          have Y20 := hid (Y19.out.trans x20)
          clear x20
          go_wp2_with fail
          refine ((HX2 _ Y20.out).out).mono ?_
          rintro e w21 ⟨rfl, x21⟩
          have X21 := hid (X20.out.trans x21)
          clear x21
          go_wp2_with fail
          go_ret
          exact ⟨rfl, X21.out⟩
        · go_wp2_with fail
          refine ((HAw _).out).mono ?_
          rintro e w19 ⟨rfl, x19⟩
          have X19 := hid (X18.out.trans x19)
          clear x19
          go_wp2_with fail
          go_ret
          exact ⟨rfl, X19.out⟩
      · have HG7 : Hid (w.heap.size < w7.heap.size) := (HB5.out.ext x7).lt
        have HWs7 : Hid (w.heap.size ≤ w7.heap.size) := (X5.out.trans x7).size
        have HN7 := hid (Blk.new w7 23 (vecV vec0))
        have X7' := hid ((X5.out.trans x7).alloc' (.cells (vecV vec0) 23))
        have HB7' := hid ((HB5.out.ext x7).alloc (.cells (vecV vec0) 23))
        clear x7 X5 HB5
        go_wp2_with fail
        simp only [Try.sizeOf23, Result.andThen, ↓reduceIte, run_storeCells_blk HN7.out (by rw [vecV_size, HZ.out]; exact vec_size) (by first | rfl | (rw [vecV_size, vecV_size, HZ.out]; exact HZ.out)) (vecV_one _), show (vecV _).size = 65 from (vecV_size _).trans HZ.out]
        rw [Oper.upon_skip]
        have HN7' := hid (HN7.out.setRow (vecV vec0))
        have HB7 := hid (HB7'.out.farRow (k := w7.heap.size) (by have := HG7.out; omega) (vecV vec0))
        have X7 := hid (X7'.out.setRow HWs7.out (vecV vec0))
        clear HN7 HB7' X7'
        have HN7 := HN7'
        clear HN7'
        generalize (w7.alloc (.cells (vecV vec0) 23)).setRow w7.heap.size (vecV vec0) = w7b at HN7 HB7 X7 ⊢
        clear HG7 HWs7
        go_wp2_with fail
        simp only [Try.isAgg23, Try.sizeOf23, Result.andThen, ↓reduceIte, run_loadCells_blk HN7.out 65 (by rw [vecV_size]; exact HZ.out)]
        rw [Oper.upon_value]
        go_wp2_with fail
        refine ((HGi _ s HS8.out (.inl HS8b.out)).out).mono ?_
        rintro e w18 ⟨v2, l2, z2, rfl, x18, hd2, -⟩
        have X18 := hid (X7.out.trans x18)
        clear x18 X7
        rcases hd2 with ⟨rfl, hc2, he2, hr2, hg2, hl9⟩ | ⟨rfl, rfl⟩
        · have HR2 := hid hr2.1
          have hl2 : l2.length ≤ 90000 := by omega
          have HX1 := fun W (hW : Ext w18 W) => hid (ritems_c W v2 l2 (HR2.out.ext hW) hl2)
          have HX2 := fun W (hW : Ext w18 W) => hid (rvers_c W v2 l2 (HR2.out.ext hW) hl2 (fun x hx => ver64_ok (hg2 x hx)))
          rw [hc2] at HX1
          rw [he2] at HX2
          have dss : (s.toList == s.toList) = true := by simp
          obtain ⟨A2, c2, rfl, _⟩ := sl_get hr2.1
          clear hr2 hc2 he2 hg2 hl2 hl9
          go_wp2_with fail
          refine ((HAw _).out).mono ?_
          rintro e w19 ⟨rfl, x19⟩
          have X19 := hid (X18.out.trans x19)
          have Y19 := hid x19
          clear x19
          go_wp2_with fail
          refine ((HX1 _ Y19.out).out).mono ?_
          rintro e w20 ⟨rfl, x20⟩
          have X20 := hid (X19.out.trans x20)
          have Y20 := hid (Y19.out.trans x20)
          clear x20
          go_wp2_with fail
          refine ((HX2 _ Y20.out).out).mono ?_
          rintro e w21 ⟨rfl, x21⟩
          have X21 := hid (X20.out.trans x21)
          clear x21
          go_wp2_with fail
          go_ret
          exact ⟨rfl, X21.out⟩
        · go_wp2_with fail
          refine ((HAw _).out).mono ?_
          rintro e w19 ⟨rfl, x19⟩
          have X19 := hid (X18.out.trans x19)
          clear x19
          go_wp2_with fail
          go_ret
          exact ⟨rfl, X19.out⟩
end Go.Proofs.Ytanflgipdiogaaa
