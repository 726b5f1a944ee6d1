/-
  The law BatchMakes: what it turns aside; tools.
  R19.Cut: the document's batches.
  The law BatchMakes: its walk.
-/
import Derived.Test.YtanflgipdiogaaaDoorQcJ
import Derived.Test.YtanflgipdiogaaaDoorQcF
import Derived.Test.YtanflgipdiogaaaDoorQcG
import Derived.Test.YtanflgipdiogaaaDoorAwT
namespace Go.Proofs.YtanflgipdiogaaaDoor
set_option linter.unusedSimpArgs false
set_option linter.unusedVariables false
open Go.RowKit

theorem run_storeCells_mid {P : Program} {w : World} {g o : Nat} {t : TypeId} {cs : Array Value} {vs : List Value} (h : Blk w g t cs) (hle : o + vs.length ≤ cs.size) (h1 : ∀ v ∈ vs, v.oneCell' = true) : (storeCells ⟨g, o, none⟩ vs).run P w = .ok () (w.setCells g o vs) := by
  have := run_storeCells_cells (P := P) g o vs 0 w (fun j hj => by simpa using (h.there o vs.length hle j hj).1) (fun j hj => by simpa using (h.there o vs.length hle j hj).2) h1
  simpa using this
/-- An element's address in a row of messages. -/
theorem quiet_index_msg {o : Oper} {x ix : Operand} {b off n c k : Nat} {z : Int} {a : Act} {C : World → Prop} {K : Act → Prop} (hop : o.op = .indexAddr 64 x ix) (hx : a.eval x = .slice (some ⟨b, off, none⟩) n c) (hi : a.eval ix = .int .i64 z) (hz : z = (k : Int)) (hk : k < n) (hK : K (a.put o.dst (.pointer (some ⟨b, off + k * 147, none⟩)))) : o.quiet Tryd.prog a C K := by
  refine ⟨.pointer (some ⟨b, off + k * 147, none⟩), fun w hw => ?_, hK⟩
  subst hz
  have h0 : (0 : Int) ≤ k ∧ (k : Int) < n := by omega
  simp only [Oper.quietAt, execOp, hop, hx, hi]
  have hadd : (⟨b, off, none⟩ : Addr).add (k * 147) = ⟨b, off + k * 147, none⟩ := Addr.add_lit _ _ _
  simp [go_sem, Instr.indexAt, asIntOf, Tryd.underlying64, Tryd.sizeOf62, h0, hadd]
  rw [if_pos hk]
  exact ⟨rfl, rfl⟩
theorem msg_loadVar {w : World} {b off : Nat} {cs : Array Value} (hz : cs.size = 147) (h : ∀ (j : Nat) v, cs[j]? = some v → w.cell? ⟨b, off + j, none⟩ = some v) : (loadVar 62 ⟨b, off, none⟩).run Tryd.prog w = .ok (.agg cs) w := by
  have := run_loadVar_mid (P := Tryd.prog) w b off 62 cs.toList _ (fun j v hv => h j v (by simpa using hv)) Tryd.underlying62 rfl (by rw [Array.length_toList, hz]; exact msg_size)
  simpa using this
attribute [-simp] Tryd.isAgg44 Tryd.sizeOf44 Tryd.isAgg62 Tryd.sizeOf62 Tryd.isAgg59 Tryd.sizeOf59
attribute [-go_sem] Go.Instr.buildSlice
set_option maxRecDepth 100000 in
set_option maxHeartbeats 8000000 in
theorem make_bad (w : World) (M : MsgC) (v : Value) (l : List EntI) (limit : Int) (h : Sl w 21 v (l.map EntI.cells)) (hb : limit < 1 ∨ 4096 < limit) : Calls Tryd.prog 16 #[.agg M.arr, v, .int .i64 limit] w (Ret (.tuple #[.slice none 0 0, .int .i64 2]) w) := by
  have HCut := fun W (hW : Ext w W) => hid (cut_bad W v l (h.ext hW) limit hb)
  clear h hb
  have HE0 := hid (Ext.alloc w (.cells M.arr 62))
  go_enter Tryd.func16, Tryd.ntmps16
  go_wp2_with fail
  generalize w.alloc (.cells M.arr 62) = w0 at HE0 ⊢
  refine ((HCut _ HE0.out).out).mono ?_
  rintro en w1 ⟨rfl, x1⟩
  have HE1 := hid (HE0.out.trans x1)
  clear HE0 HCut x1
  go_wp2_with fail
  go_ret2
  exact ⟨rfl, HE1.out⟩
set_option maxRecDepth 100000 in
set_option maxHeartbeats 8000000 in
theorem makes_dark (w : World) (M : MsgC) (v : Value) (l : List EntI) (lim : Int) (m : Int) (hm : w.cell? ⟨0, 0, none⟩ = some (.int .i64 m)) (h : Sl w 21 v (l.map EntI.cells)) (b2 : Bool) (hL : ∀ W, Ext w W → Calls Tryd.prog 15 #[.agg M.arr] W (Ret (.bool b2) W)) (hl : (l.all lightE && decide (l.length ≤ 60)) = false ∨ ((l.all lightE && decide (l.length ≤ 60)) = true ∧ b2 = false)) : Calls Tryd.prog 5 #[.agg M.arr, v, .int .i64 lim] w (Ret (.bool true) w) := by
  have HLi := fun W (hW : Ext w W) => hid (light19_c W v l (h.ext hW))
  have HAw := fun W (hW : Ext w W) => hid (awake19_c W m (hW.cell hm))
  have HLm := fun W (hW : Ext w W) => hid (hL W hW)
  have hz := hid (msg_arr M)
  have HB := hid (Blk.new w 62 M.arr)
  have HX := hid (Ext.alloc w (.cells M.arr 62))
  generalize M.arr = ar at HLm HB HX hz ⊢
  rcases hl with hl | ⟨hl, rfl⟩
  · rw [hl] at HLi
    clear hl h hm hL
    go_enter Tryd.func5, Tryd.ntmps5
    go_wp2_with fail
    generalize w.alloc (.cells ar 62) = w0 at HB HX ⊢
    refine ((HLi _ HX.out).out).mono ?_
    rintro en w1 ⟨rfl, x1⟩
    have HX2 := hid (HX.out.trans x1)
    clear x1
    go_wp2_with fail
    refine ((HAw _ HX2.out).out).mono ?_
    rintro en w3 ⟨rfl, x3⟩
    have HX3 := hid (HX2.out.trans x3)
    clear x3
    go_wp2_with fail
    go_ret
    exact ⟨rfl, HX3.out⟩
  · rw [hl] at HLi
    clear hl h hm hL
    go_enter Tryd.func5, Tryd.ntmps5
    go_wp2_with fail
    generalize w.alloc (.cells ar 62) = w0 at HB HX ⊢
    refine ((HLi _ HX.out).out).mono ?_
    rintro en w1 ⟨rfl, x1⟩
    have HX1 := hid (HX.out.trans x1)
    have HB1 := hid (HB.out.ext x1)
    clear x1
    go_wp2_with fail
    simp only [Tryd.isAgg62, Tryd.sizeOf62, Result.andThen, ↓reduceIte, run_loadCells_blk HB1.out 147 hz.out]
    rw [Oper.upon_value]
    go_wp2_with fail
    refine ((HLm _ HX1.out).out).mono ?_
    rintro en w2 ⟨rfl, x2⟩
    have HX2 := hid (HX1.out.trans x2)
    clear x2
    go_wp2_with fail
    refine ((HAw _ HX2.out).out).mono ?_
    rintro en w3 ⟨rfl, x3⟩
    have HX3 := hid (HX2.out.trans x3)
    clear x3
    go_wp2_with fail
    go_ret
    exact ⟨rfl, HX3.out⟩
set_option maxRecDepth 100000 in
set_option maxHeartbeats 8000000 in
theorem makes_none (w : World) (M : MsgC) (v : Value) (l : List EntI) (lim : Int) (m : Int) (hm : w.cell? ⟨0, 0, none⟩ = some (.int .i64 m)) (h : Sl w 21 v (l.map EntI.cells)) (hL : ∀ W, Ext w W → Calls Tryd.prog 15 #[.agg M.arr] W (Ret (.bool true) W)) (hl : (l.all lightE && decide (l.length ≤ 60)) = true) (hMk : ∀ W, Ext w W → Calls Tryd.prog 16 #[.agg M.arr, v, .int .i64 lim] W (Ret (.tuple #[.slice none 0 0, .int .i64 2]) W)) (hCu : ∀ W, Ext w W → Calls Tryd.prog 10 #[v, .int .i64 lim] W (Ret (.tuple #[.slice none 0 0, .int .i64 2]) W)) : Calls Tryd.prog 5 #[.agg M.arr, v, .int .i64 lim] w (Ret (.bool true) w) := by
  have HLi := fun W (hW : Ext w W) => hid (light19_c W v l (h.ext hW))
  have HAw := fun W (hW : Ext w W) => hid (awake19_c W m (hW.cell hm))
  have HLm := fun W (hW : Ext w W) => hid (hL W hW)
  have HMk := fun W (hW : Ext w W) => hid (hMk W hW)
  have HCu := fun W (hW : Ext w W) => hid (hCu W hW)
  have hz := hid (msg_arr M)
  have HB := hid (Blk.new w 62 M.arr)
  have HX := hid (Ext.alloc w (.cells M.arr 62))
  generalize M.arr = ar at HLm HB HX hz HMk ⊢
  rw [hl] at HLi
  clear hl h hm hL hMk hCu
  go_enter Tryd.func5, Tryd.ntmps5
  go_wp2_with fail
  generalize w.alloc (.cells ar 62) = w0 at HB HX ⊢
  refine ((HLi _ HX.out).out).mono ?_
  rintro en w1 ⟨rfl, x1⟩
  have HX1 := hid (HX.out.trans x1)
  have HB1 := hid (HB.out.ext x1)
  clear x1
  go_wp2_with fail
  simp only [Tryd.isAgg62, Tryd.sizeOf62, Result.andThen, ↓reduceIte, run_loadCells_blk HB1.out 147 hz.out]
  rw [Oper.upon_value]
  go_wp2_with fail
  refine ((HLm _ HX1.out).out).mono ?_
  rintro en w2 ⟨rfl, x2⟩
  have HX2 := hid (HX1.out.trans x2)
  have HB2 := hid (HB1.out.ext x2)
  clear x2 HX1 HB1 HX HB HLi HLm
  go_wp2_with fail
  simp only [Tryd.isAgg62, Tryd.sizeOf62, Result.andThen, ↓reduceIte, run_loadCells_blk HB2.out 147 hz.out]
  rw [Oper.upon_value]
  go_wp2_with fail
  refine ((HMk _ HX2.out).out).mono ?_
  rintro en w3 ⟨rfl, x3⟩
  have HX3 := hid (HX2.out.trans x3)
  clear x3 HX2 HB2 HMk
  go_wp2_with fail
  refine ((HCu _ HX3.out).out).mono ?_
  rintro en w4 ⟨rfl, x4⟩
  have HX4 := hid (HX3.out.trans x4)
  clear x4 HX3 HCu
  go_wp2_with fail
  go_loopw [11] (fun s11 wr => s11 = .int .i64 0 ∧ wr = w4) (fun _ _ => 0)
  case atStart => exact ⟨rfl, rfl⟩
  case round =>
    obtain ⟨rfl, rfl⟩ := hrel
    go_wp2_with fail
    refine ((HAw _ HX4.out).out).mono ?_
    rintro en w5 ⟨rfl, x5⟩
    have HX5 := hid (HX4.out.trans x5)
    clear x5
    go_wp2_with fail
    go_ret
    exact ⟨rfl, HX5.out⟩
end Go.Proofs.YtanflgipdiogaaaDoor
namespace Go.Proofs.YtanflgipdiogaaaDoor
set_option linter.unusedSimpArgs false
set_option linter.unusedVariables false
open Go.RowKit

theorem bt_info : (Tryd.prog.info? 32).map (fun i => (i.zero, i.size, i.bytes)) = some (some (.agg #[.slice none 0 0]), 1, 24) := by kernel_rfl
theorem bt_elem : Elem Tryd.prog 29 32 1 24 := by
  obtain ⟨i0, h0, h1, h2, h3⟩ := info_parts bt_info
  exact ⟨Tryd.underlying29, i0, _, h0, h1, h2, h3, rfl⟩
/-- A row of one entry is laid. -/
theorem gives_one {o : Oper} {a : Act} {x : Operand} {X : Array Value} {W : World} (ho : o.op = .buildSlice 22 1 #[(0, x)]) (hx : a.eval x = .agg X) (hX : X.size = 21) : Gives Tryd.prog (fun v w' => NewSl 44 X 1 1 v w' ∧ Ext W w') ((execOp a.eval o).run Tryd.prog W) := by
  obtain ⟨i0, h0, h1, h2, h3⟩ := info_parts entinfo
  have := run_build_rows (t := 22) (e := 44) (sz := 21) (bytes := 192) ⟨Tryd.underlying22, i0, _, h0, h1, h2, h3, rfl⟩ W [X] (fun x hx => by rw [List.mem_singleton.1 hx]; exact hX) (by omega) (by simp) (by simp) #[(0, .agg X)] rfl
  have e : (([X] : List (Array Value)).flatMap Array.toList).toArray = X := by simp
  rw [e] at this
  simp [execOp, ho, hx, Gives, List.length_singleton] at this ⊢
  simp [this, Result.andThen]
  exact ⟨⟨_, rfl, Blk.new _ _ _⟩, Ext.alloc _ _⟩
/-- append onto an empty row without room. -/
theorem app_empty {P : Program} {t tx ty e : TypeId} {sz bytes : Nat} (hE : Elem P t e sz bytes) {w : World} {B q m : Nat} {x : Value} {news : List Value} (hb : Blk w q e #[]) (hq : B ≤ q) (hs : Src P sz tx x m news w) (h63 : m ≤ maxLen) (hbytes : m * bytes ≤ 140737488355328) :
    ∃ v' w', (Builtin.append_ #[t, tx] ty #[.slice (some ⟨q, 0, none⟩) 0 0, x]).run P w = .ok v' w' ∧ w'.ownsRow B e sz v' m news ∧ Ext w w' := by
  obtain ⟨ht, i, z, hi, hz, rfl, rfl, hzs⟩ := hE
  have hnl := hs.newsLen
  by_cases hm : m = 0
  · subst hm
    obtain rfl : news = [] := List.eq_nil_of_length_eq_zero (by simpa using hnl)
    exact ⟨_, _, run_append_nothing w t tx ty e i ht hi (some ⟨q, 0, none⟩) 0 0 (Nat.le_refl _) x hs, ⟨by simp, .inr ⟨q, 0, #[], rfl, hq, hb, Nat.le_refl _, by unfold maxLen; omega, by simp, by simp⟩⟩, Ext.refl _⟩
  · have hf : (Builtin.firstCells i.size 0 (.slice (some ⟨q, 0, none⟩) 0 0)).run P w.drew = .ok ([] : List Value).toArray w.drew := run_firstCells_some (P := P) w.drew i.size 0 ⟨q, 0, none⟩ 0 0 [] (by simp) (fun j u hu => by simp at hu)
    have hr := run_append_grow_src (P := P) w t tx ty e i z ht hi hz (some ⟨q, 0, none⟩) 0 0 [] hf x m news hs (by omega) (by unfold maxLen at h63; omega) (growslice_fits (by omega) (by simpa using hbytes))
    have hge := grownCap_ge w (0 + m) 0 e
    have hcm : grownCap w (0 + m) 0 e ≤ maxLen := grownCap_le_maxLen w (0 + m) 0 e (by omega)
    have hlen : (([] : List Value) ++ news).length = (0 + m) * i.size := by simp [hnl]
    refine ⟨_, _, hr, ⟨hnl, .inr ⟨w.heap.size, _, _, by rw [Nat.zero_add], by have := hb.lt; omega, (heap_alloc_new w.drew (.cells ((([] : List Value) ++ news).toArray ++ Builtin.zeroCells z.cells (grownCap w (0 + m) 0 e - (0 + m))) e) : _), by simpa using hge, by simpa using hcm, ?_, ?_⟩⟩, ((Ext.refl w).drew').alloc' _⟩
    · simp only [Array.size_append, List.size_toArray, size_zeroCells, hzs, hlen, ← Nat.add_mul]
      simp only [Nat.zero_add] at hge ⊢
      congr 1
      omega
    · simp only [Array.toList_append, List.nil_append]
      rw [← hnl]
      exact List.take_left
theorem row_len {w : World} {B sz n m c : Nat} {e : TypeId} {A : Option Addr} {xs : List Value} (h : w.ownsRow B e sz (.slice A n c) m xs) : n = m := by
  rcases h.2 with ⟨h1, h2⟩ | ⟨g, cap, cur, h1, _⟩
  · injection h1 with _ h1; omega
  · injection h1
theorem EsAt.keepB {w w' : World} {es : List SlV} {segs : List (List EntI)} (h : EsAt w es segs) {g : Nat} {t : TypeId} {cs : Array Value} (hb : Blk w g t cs) (hne : 44 ≠ t) (hk : Keep (fun q => q = g) w w') : EsAt w' es segs :=
  ⟨h.1, fun i s t' h1 h2 => ownsRow_keep (h.2 i s t' h1 h2) hk (fun q hq hS => row_apart (h.2 i s t' h1 h2) hb hne (by rw [← hS]; exact hq))⟩
theorem EsAt.segs {w : World} {es : List SlV} {segs : List (List EntI)} (h : EsAt w es segs) : SegsAt w es segs :=
  ⟨h.1, fun i s t h1 h2 => sl_of_row (e := 44) (base := 0) (ent_coded.sizes t) (by rw [List.length_map]; exact h.2 i s t h1 h2)⟩
attribute [-simp] Tryd.isAgg44 Tryd.sizeOf44
set_option maxRecDepth 100000 in
set_option maxHeartbeats 8000000 in
theorem rcut_c (w : World) (v : Value) (l : List EntI) (limit : Int) (h : Sl w 21 v (l.map EntI.cells)) (hl : l.length ≤ 100) (hok : ∀ e ∈ l, EntOk e) (hlim : 1 ≤ limit ∧ limit ≤ 4096) : Calls Tryd.prog 12 #[v, .int .i64 limit] w (RetQ (fun u w' => ∃ vs : List SlV, Sl w' 1 u (vs.map SlV.cells) ∧ SegsAt w' vs (cutL limit l)) w) := by
  obtain ⟨A, c, rfl, h1, h2, h3⟩ := sl_get h
  have HSz := fun W x (hx : x ∈ l) => hid (rsize_c W x (hok x hx))
  have HOk := hid hok
  have H3 := hid h3
  unfold maxLen at h2
  clear h h3 hok
  go_enter Tryd.func12, Tryd.ntmps12
  go_wp2_with fail
  have HB0 := hid (Blk.new w 32 #[.slice none 0 0])
  have HE0 := hid (Ext.alloc w (.cells #[.slice none 0 0] 32))
  generalize w.alloc (.cells #[.slice none 0 0] 32) = w0 at HB0 HE0 ⊢
  go_loopw [5, 7, 8] (fun s5 s7 s8 wr => ∃ (k n : Nat) (cv : SlV) (vs : List SlV) (done : List (List EntI)) (cur : List EntI) (o : Value), o = s5 ∧ k ≤ l.length ∧ s8 = .int .i64 k ∧ s7 = .int .i64 n ∧ Hid (Ext w wr) ∧ Hid (Blk wr w.heap.size 32 #[cv.val]) ∧ Hid (wr.ownsRow (w.heap.size + 1) 32 1 o vs.length (vs.map SlV.cells).flatten) ∧ Hid (wr.ownsRow 0 44 21 cv.val cur.length (cur.map EntI.cells).flatten) ∧ Hid (EsAt wr vs done) ∧ Hid (foldC limit (l.take k) = (done, cur, n))) (fun _ _ s8 _ => l.length - (intOf s8).toNat)
  case atStart => exact ⟨0, 0, nilS, [], [], [], _, rfl, by omega, rfl, rfl, HE0.out, HB0.out, ownsRow_nil _ _ _ _, ownsRow_nil _ _ _ _, ⟨rfl, fun i s t h => by simp at h⟩, by simp [foldC, Hid]⟩
  case round =>
    obtain ⟨k, n, cv, vs, done, cur, o, rfl, hk, rfl, rfl, hE, hB, hR, hC, hS, hF⟩ := hrel
    have h8 := foldC_parts limit (l.take k)
    have hne := flat_len _ (foldC_ne limit (l.take k) ([], [], 0) (fun s hs => by cases hs))
    have hne : (foldC limit (l.take k)).1.length ≤ (foldC limit (l.take k)).1.flatten.length := hne
    have hsz := foldC_size limit (l.take k)
    rw [hF.out] at h8 hne hsz
    dsimp only at h8 hne hsz
    have h8l := congrArg List.length h8
    rw [List.length_append, List.length_take, Nat.min_eq_left hk] at h8l
    have hcur : ∀ e ∈ cur, EntOk e := fun e he => HOk.out e (List.mem_of_mem_take (by rw [← h8]; exact List.mem_append_right _ he))
    have hsum := sumE_le cur hcur
    have hvl := hS.out.1
    have hcl : cur.length ≤ 100 := by omega
    have hvl2 : vs.length ≤ 100 := by omega
    have hn : n ≤ 100000 := by omega
    clear h8 hne hsz h8l hcur hsum hvl
    obtain ⟨ca, cn, cc⟩ := cv
    obtain rfl := row_len hC.out
    have HLc : Hid (cur.length ≤ maxLen ∧ cur.length * 192 ≤ 140737488355328) := by unfold Hid maxLen; omega
    by_cases hlt : k < l.length
    · have d1 : decide ((k : Int) < l.length) = true := decide_eq_true (by omega)
      have d1' : decide (k < l.length) = true := decide_eq_true hlt
      obtain ⟨b, ob, rfl, lb, hcell⟩ := H3.out (by omega)
      have HRw := hid (fun (q : Nat) u (hu : l[k].arr[q]? = some u) => hcell k hlt q u (by rw [← arr_list, Array.getElem?_toList]; exact hu))
      have HRd := hid (fun (q : Nat) u (hu : l[k].arr[q]? = some u) => hE.out.cell (HRw.out q u hu))
      have HC' := fun W => HSz W l[k] (List.getElem_mem hlt)
      have HN : Hid (foldC limit (l.take (k + 1)) = stepC limit (done, cur, n) l[k]) := by unfold Hid; rw [foldC_next hlt, hF.out]
      have hsx := sizeE_le (HOk.out l[k] (List.getElem_mem hlt))
      have hz := hid (arr_size l[k])
      have HAr := hid (arr_list l[k])
      unfold stepC at HN
      clear hcell H3 HSz HOk lb hF
      generalize l[k] = x at HRw HRd HC' HN hsx hz HAr
      generalize sizeE x = sx at HC' HN hsx
      generalize harr : x.arr = arr at HRw HRd HC' hz HAr
      clear harr
      go_wp2_with fail
      simp only [Tryd.sizeOf44, Result.andThen]
      rw [Oper.upon_value]
      go_wp2_with fail
      simp only [Tryd.isAgg44, Tryd.sizeOf44, Result.andThen, ↓reduceIte, run_loadCells_at HRd.out 21 hz.out]
      rw [Oper.upon_value]
      go_wp2_with fail
      refine ((HC' _).out).mono ?_
      rintro en w3 ⟨rfl, x3⟩
      have HE3 := hid (hE.out.trans x3)
      have HB3 := hid (hB.out.ext x3)
      have HR3 := hid (ownsRow_ext hR.out x3)
      have HC3 := hid (ownsRow_ext hC.out x3)
      have HS3 := hid (hS.out.ext x3)
      have c1 := HB3.out.cell (i := 0) (v := .slice ca cur.length cc) rfl
      have l1 := HB3.out.lt
      have z1 := HB3.out.frozen 0
      clear x3 hE hB hR hC hS HRd HC'
      by_cases hcut : 0 < cur.length ∧ limit < (n : Int) + sx
      · have HM : Hid (foldC limit (l.take (k + 1)) = (done ++ [cur], [x], sx)) := by
          unfold Hid
          rw [HN.out, if_pos ⟨hcut.1, .inl hcut.2⟩]
        have p1 : decide ((0 : Int) < cur.length) = true := decide_eq_true (by omega)
        have p1' : decide (0 < cur.length) = true := decide_eq_true hcut.1
        have p2 : decide (limit < (n : Int) + sx) = true := decide_eq_true hcut.2
        clear hcut HN
        have HXa := hid (Ext.alloc w3 (.cells #[.slice ca cur.length cc] 32))
        obtain ⟨v', w4, hrun, hO4, hk4, _, _⟩ := app_row (ty := 29) bt_elem (ownsRow_ext HR3.out HXa.out) (by have := HXa.out.size; omega) (src_new (n := 1) (c := 1) Tryd.underlying29 ⟨_, rfl, Blk.new w3 32 #[.slice ca cur.length cc]⟩ rfl (by simp [Value.oneCell'])) (by unfold maxLen; omega) (by omega)
        have hrow := row_block HR3.out
        have HB4 := hid ((HB3.out.ext HXa.out).keep hk4 (fun h => by have := (hrow _ h).1; omega))
        have HC4 := hid (ownsRow_keep (ownsRow_ext HC3.out HXa.out) hk4 (fun q hq => rows_apart (ownsRow_ext HC3.out HXa.out) (ownsRow_ext HR3.out HXa.out) (by decide) q hq))
        have HS4 := hid ((HS3.out.ext HXa.out).keep (ownsRow_ext HR3.out HXa.out) (by decide) hk4)
        have HE4 : Hid (Ext w w4) := hk4.toExt (HE3.out.trans HXa.out) (fun q hq => by have := (hrow q hq).1; omega)
        clear hk4
        have HO4 : Hid (w4.ownsRow (w.heap.size + 1) 32 1 v' (vs ++ [(⟨ca, cur.length, cc⟩ : SlV)]).length ((vs ++ [(⟨ca, cur.length, cc⟩ : SlV)]).map SlV.cells).flatten) := by
          unfold Hid
          simpa [SlV.cells] using hO4
        clear hO4 HR3 HC3 HS3 HB3 HE3 HXa
        have b1 := HB4.out.cell (i := 0) (v := .slice ca cur.length cc) rfl
        have k1 := HB4.out.lt
        have y1 := HB4.out.frozen 0
        have HB5 := hid (HB4.out.set 0 (.slice none 0 0))
        have HE5 := hid (HE4.out.setCell' (p := ⟨w.heap.size, 0, none⟩) (Nat.le_refl _) (.slice none 0 0))
        have HK5 := hid (Keep.setCell (S := fun q => q = w.heap.size) (Keep.refl _ w4) (p := ⟨w.heap.size, 0, none⟩) (.inl rfl) (.slice none 0 0))
        have HO5 := hid (ownsRow_keep HO4.out HK5.out (fun q hq hS => by have := (row_block HO4.out q hq).1; omega))
        have HS5 := hid ((HS4.out.snoc HC4.out).keepB HB4.out (by decide) HK5.out)
        clear HO4 HS4 HC4 HE4
        go_wp2_with (at_builtin; refine wpList_app rfl (.tmp 39) (.tmp 41) _ _ rfl rfl rfl hrun ?_)
        clear c1 l1 z1 b1 k1 y1 HB4 hrun
        generalize w4.setCell ⟨w.heap.size, 0, none⟩ (.slice none 0 0) = w5 at HB5 HE5 HK5 HO5 HS5 ⊢
        clear HK5
        have HC5 : Hid (w5.ownsRow 0 44 21 (.slice none 0 0) ([] : List EntI).length (([] : List EntI).map EntI.cells).flatten) := ownsRow_nil w5 0 44 21
        have HLc : Hid (0 ≤ maxLen ∧ 0 * 192 ≤ 140737488355328) := by unfold Hid maxLen; omega
        have HRx := hid (fun q u hu => HE5.out.cell (HRw.out q u hu))
        have c1 := HB5.out.cell (i := 0) (v := .slice none 0 0) rfl
        have l1 := HB5.out.lt
        refine wp_region_tail (pre := ?pre1) (tl := ?tl1) 9 ?hpre1 ?htl1 (of_decide_eq_true (by kernel_rfl)) (by kernel_rfl) (by kernel_rfl) (by kernel_rfl) (by kernel_rfl) ?_
        case hpre1 => (simp only [List.take_succ_cons, List.take_zero]; first | done | exact rfl)
        case htl1 => (simp only [List.drop_succ_cons, List.drop_zero]; first | done | exact rfl)
        repeat (first
          | (refine AWq.val rfl rfl rfl rfl (fun K hK => ?_); go_big_quiet_op; refine hK _ ?_; clear hK K)
          | (refine AWq.skip rfl rfl rfl ?_; simp only [Act.put, List.setIfInBounds_toArray, List.set_cons_succ, List.set_cons_zero])
          | (refine AWq.opV (fun u W => ∃ q, w5.heap.size ≤ q ∧ u = .slice (some ⟨q, 0, none⟩) 0 0 ∧ Blk W q 44 #[]) (fun u a b he h => h.imp fun q h => ⟨h.1, h.2.1, h.2.2.ext he⟩) rfl rfl rfl rfl (fun wc hc => ?_) ?_; (· (have hcs := hc.size; clear hc; go_simp; dsimp only [Gives]; exact ⟨⟨_, hcs, rfl, Blk.new _ _ _⟩, Ext.alloc _ _⟩)))
          | (refine AWq.opQ (fun u W => W.ownsRow w5.heap.size 44 21 u (([] : List EntI)).length ((([] : List EntI)).map EntI.cells).flatten) (fun u a b he h => ownsRow_ext h he) rfl (fun a wc hc hl' => ⟨rfl, ?_⟩) ?_; (· (have e44 : ∃ q, w5.heap.size ≤ q ∧ a.tmps.getD 44 undef = .slice (some ⟨q, 0, none⟩) 0 0 ∧ Blk wc q 44 #[] := hl' 44 (of_decide_eq_true (by kernel_rfl)); have e46 : a.tmps.getD 46 undef = .slice none 0 0 := hl' 46 (of_decide_eq_true (by kernel_rfl)); obtain ⟨q, hq, e44, hbq⟩ := e44; obtain ⟨v', w', hr', hO, hX⟩ := app_empty (ty := 22) ent_elem hbq hq (src_row Tryd.underlying22 (ownsRow_ext HC5.out hc) (ent_coded.flat_one _)) HLc.out.1 HLc.out.2; exact gives_app (a := a) (s := .tmp 44) (x := .tmp 46) rfl e44 e46 hr' ⟨hO, hX⟩)))
          | (refine AWq.val rfl rfl rfl rfl (fun K hK => ?_); refine quiet_index_ent (k := k) rfl rfl rfl rfl hlt (hK _ ?_); clear hK K; simp only [Act.put, List.setIfInBounds_toArray, List.set_cons_succ, List.set_cons_zero])
          | (refine AWq.val rfl rfl rfl rfl (fun K hK => ?_); refine quiet_load_at rfl rfl (fun wc hwc => by obtain ⟨E, rfl⟩ := hwc; exact ent_loadVar hz.out (fun j v hv => (Ext.of_wext _ _).cell (HRx.out j v hv))) (hK _ ?_); clear hK K; simp only [Act.put, List.setIfInBounds_toArray, List.set_cons_succ, List.set_cons_zero])
          | (refine AWq.opQ (NewSl 44 arr 1 1) (fun v => NewSl.steady _ _ _ _ v) rfl (fun a wc hc hl' => ⟨rfl, ?_⟩) ?_; (· (have e51 : a.tmps.getD 51 undef = .agg arr := hl' 51 (of_decide_eq_true (by kernel_rfl)); exact gives_one (x := .tmp 51) rfl e51 hz.out))))
        refine AWq.tail rfl rfl rfl (fun w6 x6 => ?_)
        simp only [closeAny, Act.put, List.setIfInBounds_toArray, List.set_cons_succ, List.set_cons_zero]
        rintro y52 hy52 y47 hy47 y44 -
        have hx1 : ∀ u ∈ arr.toList, u.oneCell' = true := by rw [HAr.out]; exact ent_coded.one x
        obtain ⟨v7, w7, hrun7, hO7, hk7, _, _⟩ := app_row (ty := 22) ent_elem hy47 x6.size (src_new (sz := 21) Tryd.underlying22 hy52 (by rw [hz.out]) hx1) (by have := HLc.out.1; unfold maxLen at this ⊢; (try simp only [List.length_nil] at this ⊢); omega) (by have := HLc.out.2; (try simp only [List.length_nil] at this ⊢); omega)
        have HX7 : Hid (Ext w5 w7) := hk7.toExt x6 (fun q hq => (row_block hy47 q hq).1)
        obtain ⟨⟨a7, n7, c7⟩, rfl⟩ := slV_of hO7
        rw [show (⟨a7, n7, c7⟩ : SlV).val = .slice a7 n7 c7 from rfl] at hO7 hrun7
        have HO7 : Hid (w7.ownsRow 0 44 21 (.slice a7 n7 c7) ((([] : List EntI)) ++ [x]).length (((([] : List EntI)) ++ [x]).map EntI.cells).flatten) := by
          have := ownsRow_mono hO7 (Nat.zero_le _)
          rw [HAr.out] at this
          unfold Hid
          simpa using this
        clear hO7 hk7 hy47 hy52 x6 hx1
        have HB7 := hid (HB5.out.ext HX7.out)
        have b7 := HB7.out.cell (i := 0) (v := .slice none 0 0) rfl
        have k7 := HB7.out.lt
        have y7 := HB7.out.frozen 0
        have HB8 := hid (HB7.out.set 0 (.slice a7 n7 c7))
        have HK8 := hid (Keep.setCell (S := fun q => q = w.heap.size) (Keep.refl _ w7) (p := ⟨w.heap.size, 0, none⟩) (.inl rfl) (.slice a7 n7 c7))
        have HE8 := hid ((HE5.out.trans HX7.out).setCell' (p := ⟨w.heap.size, 0, none⟩) (Nat.le_refl _) (.slice a7 n7 c7))
        have HO8 := hid (ownsRow_keep (ownsRow_ext HO5.out HX7.out) HK8.out (fun q hq hS => by have := (row_block (ownsRow_ext HO5.out HX7.out) q hq).1; omega))
        have HC8 := hid (ownsRow_keep HO7.out HK8.out (fun q hq hS => row_apart HO7.out HB7.out (by decide) (by rw [← hS]; exact hq)))
        have HS8 := hid ((HS5.out.ext HX7.out).keepB HB7.out (by decide) HK8.out)
        clear HX7 HO7 HB7 HK8 HB5 HE5 HO5 HS5 c1 l1 HC5
        at_builtin
        refine wpList_app rfl (.tmp 47) (.tmp 52) _ _ rfl rfl rfl hrun7 ?_
        clear hrun7
        go_wp2_with fail
        go_roundw
        case rel => exact ⟨k + 1, _, ⟨a7, n7, c7⟩, _, _, _, _, rfl, by omega, by go_num, by go_num, HE8.out, HB8.out, HO8.out, HC8.out, HS8.out, HM.out⟩
        case measure => simp [intOf]; omega
      · have HM : Hid (foldC limit (l.take (k + 1)) = (done, cur ++ [x], n + sx)) := by
          unfold Hid
          rw [HN.out, if_neg]
          rintro ⟨q1, q2⟩
          rcases q2 with q2 | q2
          · exact hcut ⟨q1, q2⟩
          · omega
        have HRx := hid (fun q u hu => HE3.out.cell (HRw.out q u hu))
        have p3 : decide ((256 : Int) ≤ cur.length) = false := decide_eq_false (by omega)
        have p3' : decide (256 ≤ cur.length) = false := decide_eq_false (by omega)
        by_cases hq : 0 < cur.length
        · have p1 : decide ((0 : Int) < cur.length) = true := decide_eq_true (by omega)
          have p1' : decide (0 < cur.length) = true := decide_eq_true hq
          have p2 : decide (limit < (n : Int) + sx) = false := decide_eq_false fun h => hcut ⟨hq, h⟩
          clear hq hcut HN
          go_wp2_with fail
          refine wp_region_tail (pre := ?pre2) (tl := ?tl2) 9 ?hpre2 ?htl2 (of_decide_eq_true (by kernel_rfl)) (by kernel_rfl) (by kernel_rfl) (by kernel_rfl) (by kernel_rfl) ?_
          case hpre2 => (simp only [List.take_succ_cons, List.take_zero]; first | done | exact rfl)
          case htl2 => (simp only [List.drop_succ_cons, List.drop_zero]; first | done | exact rfl)
          repeat (first
            | (refine AWq.val rfl rfl rfl rfl (fun K hK => ?_); go_big_quiet_op; refine hK _ ?_; clear hK K)
            | (refine AWq.skip rfl rfl rfl ?_; simp only [Act.put, List.setIfInBounds_toArray, List.set_cons_succ, List.set_cons_zero])
            | (refine AWq.opV (fun u W => ∃ q, w3.heap.size ≤ q ∧ u = .slice (some ⟨q, 0, none⟩) 0 0 ∧ Blk W q 44 #[]) (fun u a b he h => h.imp fun q h => ⟨h.1, h.2.1, h.2.2.ext he⟩) rfl rfl rfl rfl (fun wc hc => ?_) ?_; (· (have hcs := hc.size; clear hc; go_simp; dsimp only [Gives]; exact ⟨⟨_, hcs, rfl, Blk.new _ _ _⟩, Ext.alloc _ _⟩)))
            | (refine AWq.opQ (fun u W => W.ownsRow w3.heap.size 44 21 u (cur).length ((cur).map EntI.cells).flatten) (fun u a b he h => ownsRow_ext h he) rfl (fun a wc hc hl' => ⟨rfl, ?_⟩) ?_; (· (have e44 : ∃ q, w3.heap.size ≤ q ∧ a.tmps.getD 44 undef = .slice (some ⟨q, 0, none⟩) 0 0 ∧ Blk wc q 44 #[] := hl' 44 (of_decide_eq_true (by kernel_rfl)); have e46 : a.tmps.getD 46 undef = .slice ca cur.length cc := hl' 46 (of_decide_eq_true (by kernel_rfl)); obtain ⟨q, hq, e44, hbq⟩ := e44; obtain ⟨v', w', hr', hO, hX⟩ := app_empty (ty := 22) ent_elem hbq hq (src_row Tryd.underlying22 (ownsRow_ext HC3.out hc) (ent_coded.flat_one _)) HLc.out.1 HLc.out.2; exact gives_app (a := a) (s := .tmp 44) (x := .tmp 46) rfl e44 e46 hr' ⟨hO, hX⟩)))
            | (refine AWq.val rfl rfl rfl rfl (fun K hK => ?_); refine quiet_index_ent (k := k) rfl rfl rfl rfl hlt (hK _ ?_); clear hK K; simp only [Act.put, List.setIfInBounds_toArray, List.set_cons_succ, List.set_cons_zero])
            | (refine AWq.val rfl rfl rfl rfl (fun K hK => ?_); refine quiet_load_at rfl rfl (fun wc hwc => by obtain ⟨E, rfl⟩ := hwc; exact ent_loadVar hz.out (fun j v hv => (Ext.of_wext _ _).cell (HRx.out j v hv))) (hK _ ?_); clear hK K; simp only [Act.put, List.setIfInBounds_toArray, List.set_cons_succ, List.set_cons_zero])
            | (refine AWq.opQ (NewSl 44 arr 1 1) (fun v => NewSl.steady _ _ _ _ v) rfl (fun a wc hc hl' => ⟨rfl, ?_⟩) ?_; (· (have e51 : a.tmps.getD 51 undef = .agg arr := hl' 51 (of_decide_eq_true (by kernel_rfl)); exact gives_one (x := .tmp 51) rfl e51 hz.out))))
          refine AWq.tail rfl rfl rfl (fun w6 x6 => ?_)
          simp only [closeAny, Act.put, List.setIfInBounds_toArray, List.set_cons_succ, List.set_cons_zero]
          rintro y52 hy52 y47 hy47 y44 -
          have hx1 : ∀ u ∈ arr.toList, u.oneCell' = true := by rw [HAr.out]; exact ent_coded.one x
          obtain ⟨v7, w7, hrun7, hO7, hk7, _, _⟩ := app_row (ty := 22) ent_elem hy47 x6.size (src_new (sz := 21) Tryd.underlying22 hy52 (by rw [hz.out]) hx1) (by have := HLc.out.1; unfold maxLen at this ⊢; (try simp only [List.length_nil] at this ⊢); omega) (by have := HLc.out.2; (try simp only [List.length_nil] at this ⊢); omega)
          have HX7 : Hid (Ext w3 w7) := hk7.toExt x6 (fun q hq => (row_block hy47 q hq).1)
          obtain ⟨⟨a7, n7, c7⟩, rfl⟩ := slV_of hO7
          rw [show (⟨a7, n7, c7⟩ : SlV).val = .slice a7 n7 c7 from rfl] at hO7 hrun7
          have HO7 : Hid (w7.ownsRow 0 44 21 (.slice a7 n7 c7) ((cur) ++ [x]).length (((cur) ++ [x]).map EntI.cells).flatten) := by
            have := ownsRow_mono hO7 (Nat.zero_le _)
            rw [HAr.out] at this
            unfold Hid
            simpa using this
          clear hO7 hk7 hy47 hy52 x6 hx1
          have HB7 := hid (HB3.out.ext HX7.out)
          have b7 := HB7.out.cell (i := 0) (v := .slice ca cur.length cc) rfl
          have k7 := HB7.out.lt
          have y7 := HB7.out.frozen 0
          have HB8 := hid (HB7.out.set 0 (.slice a7 n7 c7))
          have HK8 := hid (Keep.setCell (S := fun q => q = w.heap.size) (Keep.refl _ w7) (p := ⟨w.heap.size, 0, none⟩) (.inl rfl) (.slice a7 n7 c7))
          have HE8 := hid ((HE3.out.trans HX7.out).setCell' (p := ⟨w.heap.size, 0, none⟩) (Nat.le_refl _) (.slice a7 n7 c7))
          have HO8 := hid (ownsRow_keep (ownsRow_ext HR3.out HX7.out) HK8.out (fun q hq hS => by have := (row_block (ownsRow_ext HR3.out HX7.out) q hq).1; omega))
          have HC8 := hid (ownsRow_keep HO7.out HK8.out (fun q hq hS => row_apart HO7.out HB7.out (by decide) (by rw [← hS]; exact hq)))
          have HS8 := hid ((HS3.out.ext HX7.out).keepB HB7.out (by decide) HK8.out)
          clear HX7 HO7 HB7 HK8 HB3 HE3 HR3 HS3 c1 l1 HC3
          at_builtin
          refine wpList_app rfl (.tmp 47) (.tmp 52) _ _ rfl rfl rfl hrun7 ?_
          clear hrun7
          go_wp2_with fail
          go_roundw
          case rel => exact ⟨k + 1, _, ⟨a7, n7, c7⟩, _, _, _, _, rfl, by omega, by go_num, by go_num, HE8.out, HB8.out, HO8.out, HC8.out, HS8.out, HM.out⟩
          case measure => simp [intOf]; omega
        · have p1 : decide ((0 : Int) < cur.length) = false := decide_eq_false (by omega)
          have p1' : decide (0 < cur.length) = false := decide_eq_false hq
          clear hq hcut HN
          go_wp2_with fail
          refine wp_region_tail (pre := ?pre3) (tl := ?tl3) 9 ?hpre3 ?htl3 (of_decide_eq_true (by kernel_rfl)) (by kernel_rfl) (by kernel_rfl) (by kernel_rfl) (by kernel_rfl) ?_
          case hpre3 => (simp only [List.take_succ_cons, List.take_zero]; first | done | exact rfl)
          case htl3 => (simp only [List.drop_succ_cons, List.drop_zero]; first | done | exact rfl)
          repeat (first
            | (refine AWq.val rfl rfl rfl rfl (fun K hK => ?_); go_big_quiet_op; refine hK _ ?_; clear hK K)
            | (refine AWq.skip rfl rfl rfl ?_; simp only [Act.put, List.setIfInBounds_toArray, List.set_cons_succ, List.set_cons_zero])
            | (refine AWq.opV (fun u W => ∃ q, w3.heap.size ≤ q ∧ u = .slice (some ⟨q, 0, none⟩) 0 0 ∧ Blk W q 44 #[]) (fun u a b he h => h.imp fun q h => ⟨h.1, h.2.1, h.2.2.ext he⟩) rfl rfl rfl rfl (fun wc hc => ?_) ?_; (· (have hcs := hc.size; clear hc; go_simp; dsimp only [Gives]; exact ⟨⟨_, hcs, rfl, Blk.new _ _ _⟩, Ext.alloc _ _⟩)))
            | (refine AWq.opQ (fun u W => W.ownsRow w3.heap.size 44 21 u (cur).length ((cur).map EntI.cells).flatten) (fun u a b he h => ownsRow_ext h he) rfl (fun a wc hc hl' => ⟨rfl, ?_⟩) ?_; (· (have e44 : ∃ q, w3.heap.size ≤ q ∧ a.tmps.getD 44 undef = .slice (some ⟨q, 0, none⟩) 0 0 ∧ Blk wc q 44 #[] := hl' 44 (of_decide_eq_true (by kernel_rfl)); have e46 : a.tmps.getD 46 undef = .slice ca cur.length cc := hl' 46 (of_decide_eq_true (by kernel_rfl)); obtain ⟨q, hq, e44, hbq⟩ := e44; obtain ⟨v', w', hr', hO, hX⟩ := app_empty (ty := 22) ent_elem hbq hq (src_row Tryd.underlying22 (ownsRow_ext HC3.out hc) (ent_coded.flat_one _)) HLc.out.1 HLc.out.2; exact gives_app (a := a) (s := .tmp 44) (x := .tmp 46) rfl e44 e46 hr' ⟨hO, hX⟩)))
            | (refine AWq.val rfl rfl rfl rfl (fun K hK => ?_); refine quiet_index_ent (k := k) rfl rfl rfl rfl hlt (hK _ ?_); clear hK K; simp only [Act.put, List.setIfInBounds_toArray, List.set_cons_succ, List.set_cons_zero])
            | (refine AWq.val rfl rfl rfl rfl (fun K hK => ?_); refine quiet_load_at rfl rfl (fun wc hwc => by obtain ⟨E, rfl⟩ := hwc; exact ent_loadVar hz.out (fun j v hv => (Ext.of_wext _ _).cell (HRx.out j v hv))) (hK _ ?_); clear hK K; simp only [Act.put, List.setIfInBounds_toArray, List.set_cons_succ, List.set_cons_zero])
            | (refine AWq.opQ (NewSl 44 arr 1 1) (fun v => NewSl.steady _ _ _ _ v) rfl (fun a wc hc hl' => ⟨rfl, ?_⟩) ?_; (· (have e51 : a.tmps.getD 51 undef = .agg arr := hl' 51 (of_decide_eq_true (by kernel_rfl)); exact gives_one (x := .tmp 51) rfl e51 hz.out))))
          refine AWq.tail rfl rfl rfl (fun w6 x6 => ?_)
          simp only [closeAny, Act.put, List.setIfInBounds_toArray, List.set_cons_succ, List.set_cons_zero]
          rintro y52 hy52 y47 hy47 y44 -
          have hx1 : ∀ u ∈ arr.toList, u.oneCell' = true := by rw [HAr.out]; exact ent_coded.one x
          obtain ⟨v7, w7, hrun7, hO7, hk7, _, _⟩ := app_row (ty := 22) ent_elem hy47 x6.size (src_new (sz := 21) Tryd.underlying22 hy52 (by rw [hz.out]) hx1) (by have := HLc.out.1; unfold maxLen at this ⊢; (try simp only [List.length_nil] at this ⊢); omega) (by have := HLc.out.2; (try simp only [List.length_nil] at this ⊢); omega)
          have HX7 : Hid (Ext w3 w7) := hk7.toExt x6 (fun q hq => (row_block hy47 q hq).1)
          obtain ⟨⟨a7, n7, c7⟩, rfl⟩ := slV_of hO7
          rw [show (⟨a7, n7, c7⟩ : SlV).val = .slice a7 n7 c7 from rfl] at hO7 hrun7
          have HO7 : Hid (w7.ownsRow 0 44 21 (.slice a7 n7 c7) ((cur) ++ [x]).length (((cur) ++ [x]).map EntI.cells).flatten) := by
            have := ownsRow_mono hO7 (Nat.zero_le _)
            rw [HAr.out] at this
            unfold Hid
            simpa using this
          clear hO7 hk7 hy47 hy52 x6 hx1
          have HB7 := hid (HB3.out.ext HX7.out)
          have b7 := HB7.out.cell (i := 0) (v := .slice ca cur.length cc) rfl
          have k7 := HB7.out.lt
          have y7 := HB7.out.frozen 0
          have HB8 := hid (HB7.out.set 0 (.slice a7 n7 c7))
          have HK8 := hid (Keep.setCell (S := fun q => q = w.heap.size) (Keep.refl _ w7) (p := ⟨w.heap.size, 0, none⟩) (.inl rfl) (.slice a7 n7 c7))
          have HE8 := hid ((HE3.out.trans HX7.out).setCell' (p := ⟨w.heap.size, 0, none⟩) (Nat.le_refl _) (.slice a7 n7 c7))
          have HO8 := hid (ownsRow_keep (ownsRow_ext HR3.out HX7.out) HK8.out (fun q hq hS => by have := (row_block (ownsRow_ext HR3.out HX7.out) q hq).1; omega))
          have HC8 := hid (ownsRow_keep HO7.out HK8.out (fun q hq hS => row_apart HO7.out HB7.out (by decide) (by rw [← hS]; exact hq)))
          have HS8 := hid ((HS3.out.ext HX7.out).keepB HB7.out (by decide) HK8.out)
          clear HX7 HO7 HB7 HK8 HB3 HE3 HR3 HS3 c1 l1 HC3
          at_builtin
          refine wpList_app rfl (.tmp 47) (.tmp 52) _ _ rfl rfl rfl hrun7 ?_
          clear hrun7
          go_wp2_with fail
          go_roundw
          case rel => exact ⟨k + 1, _, ⟨a7, n7, c7⟩, _, _, _, _, rfl, by omega, by go_num, by go_num, HE8.out, HB8.out, HO8.out, HC8.out, HS8.out, HM.out⟩
          case measure => simp [intOf]; omega
    · obtain rfl : k = l.length := by omega
      rw [List.take_length] at hF
      have e1 : decide ((l.length : Int) < l.length) = false := decide_eq_false (by omega)
      have e1' : decide (l.length < l.length) = false := decide_eq_false (by omega)
      have c1 := hB.out.cell (i := 0) (v := .slice ca cur.length cc) rfl
      have l1 := hB.out.lt
      have HXa := hid (Ext.alloc wr (.cells #[.slice ca cur.length cc] 32))
      obtain ⟨v', w4, hrun, hO4, hk4, _, _⟩ := app_row (ty := 29) bt_elem (ownsRow_ext hR.out HXa.out) (by have := HXa.out.size; omega) (src_new (n := 1) (c := 1) Tryd.underlying29 ⟨_, rfl, Blk.new wr 32 #[.slice ca cur.length cc]⟩ rfl (by simp [Value.oneCell'])) (by unfold maxLen; omega) (by omega)
      have hrow := row_block hR.out
      have HC4 := hid (ownsRow_keep (ownsRow_ext hC.out HXa.out) hk4 (fun q hq => rows_apart (ownsRow_ext hC.out HXa.out) (ownsRow_ext hR.out HXa.out) (by decide) q hq))
      have HS4 := hid ((hS.out.ext HXa.out).keep (ownsRow_ext hR.out HXa.out) (by decide) hk4)
      have HE4 : Hid (Ext w w4) := hk4.toExt (hE.out.trans HXa.out) (fun q hq => by have := (hrow q hq).1; omega)
      have HO4 := hid hO4
      have HFn := hid hF.out
      clear hk4 hO4 hrow hR hC hS hE hB HXa hF H3 HSz HOk HLc
      go_wp2_with (at_builtin; refine wpList_app rfl (.tmp 58) (.tmp 60) _ _ rfl rfl rfl hrun ?_)
      go_ret
      refine ⟨_, rfl, ⟨vs ++ [⟨ca, cur.length, cc⟩], sl_of_row (e := 32) (base := w.heap.size + 1) (slv_coded.sizes _) ?_, ?_⟩, HE4.out⟩
      · rw [List.length_map]
        have := HO4.out
        simpa [SlV.cells] using this
      · have hc : cutL limit l = done ++ [cur] := by unfold cutL; rw [HFn.out]
        rw [hc]
        exact (HS4.out.snoc HC4.out).segs
end Go.Proofs.YtanflgipdiogaaaDoor
namespace Go.Proofs.YtanflgipdiogaaaDoor
set_option linter.unusedSimpArgs false
set_option linter.unusedVariables false
open Go.RowKit

theorem intsV_arr {l : List Int} (h : l.length = 65) : (intsV l).toArray.size = 65 := by rw [List.size_toArray, intsV_len, h]
theorem same_slots (M : MsgC) (N : Nat) (nv nv' : SlV) (i : Nat) (e e' : SlV) : outM M N nv' i e' = (outM M N nv i e).slots nilS nilS nilS nilS e' (if i + 1 = N then nv' else nilS) := rfl
attribute [-simp] Tryd.isAgg44 Tryd.sizeOf44 Tryd.isAgg62 Tryd.sizeOf62 Tryd.isAgg59 Tryd.sizeOf59
attribute [-go_sem] Go.Instr.buildSlice
set_option maxRecDepth 100000 in
set_option maxHeartbeats 16000000 in
theorem makes_main (w : World) (M : MsgC) (v : Value) (l : List EntI) (nots : List Ver) (lim : Int) (m : Int) (hm : w.cell? ⟨0, 0, none⟩ = some (.int .i64 m)) (h : Sl w 21 v (l.map EntI.cells)) (hN : Sl w 2 M.not.val (nots.map Ver.cells)) (hn : nots.length ≤ 1000) (hok : ∀ e ∈ l, EntOk e) (h60 : l.length ≤ 60) (hr : l.all hasB = true) (hlim : 1 ≤ lim ∧ lim ≤ 4096) (hL : ∀ W, Ext w W → Calls Tryd.prog 15 #[.agg M.arr] W (Ret (.bool true) W)) (hl : (l.all lightE && decide (l.length ≤ 60)) = true) : Calls Tryd.prog 5 #[.agg M.arr, v, .int .i64 lim] w (Ret (.bool true) w) := by
  have HLi := fun W (hW : Ext w W) => hid (light19_c W v l (h.ext hW))
  have HAw := fun W (hW : Ext w W) => hid (awake19_c W m (hW.cell hm))
  have HLm := fun W (hW : Ext w W) => hid (hL W hW)
  have HMk := fun W (hW : Ext w W) => hid (make_c W M v l nots lim m (hW.cell hm) (h.ext hW) (hN.ext hW) hn (by omega) hok hlim)
  have HCu := fun W (hW : Ext w W) => hid (cut_c W v l lim m (hW.cell hm) (h.ext hW) (by omega) hok hlim)
  have HNt := hid hN
  have hz := hid (msg_arr M)
  have HB := hid (Blk.new w 62 M.arr)
  have HX := hid (Ext.alloc w (.cells M.arr 62))
  have HAr := hid (rfl : M.arr = M.arr)
  generalize har : M.arr = ar at HLm HB HX hz HMk HAr ⊢
  rw [hl] at HLi
  rw [hr] at HMk HCu
  clear hl h hm hL hN hn hok hr
  go_enter Tryd.func5, Tryd.ntmps5
  go_wp2_with fail
  generalize w.alloc (.cells ar 62) = w0 at HB HX ⊢
  refine ((HLi _ HX.out).out).mono ?_
  rintro en w1 ⟨rfl, x1⟩
  have HX1 := hid (HX.out.trans x1)
  have HB1 := hid (HB.out.ext x1)
  clear x1
  go_wp2_with fail
  simp only [Tryd.isAgg62, Tryd.sizeOf62, Result.andThen, ↓reduceIte, run_loadCells_blk HB1.out 147 hz.out]
  rw [Oper.upon_value]
  go_wp2_with fail
  refine ((HLm _ HX1.out).out).mono ?_
  rintro en w2 ⟨rfl, x2⟩
  have HX2 := hid (HX1.out.trans x2)
  have HB2 := hid (HB1.out.ext x2)
  clear x2 HX1 HB1 HX HB HLi HLm
  go_wp2_with fail
  simp only [Tryd.isAgg62, Tryd.sizeOf62, Result.andThen, ↓reduceIte, run_loadCells_blk HB2.out 147 hz.out]
  rw [Oper.upon_value]
  go_wp2_with fail
  refine ((HMk _ HX2.out).out).mono ?_
  rintro en w3 (⟨hno, _⟩ | ⟨_, u, rfl, ⟨es, nv, hes, hseg, hnv, hu⟩, x3⟩)
  · cases hno
  have HX3 := hid (HX2.out.trans x3)
  have HB3 := hid (HB2.out.ext x3)
  clear x3 HX2 HB2 HMk
  have hpos := cutL_pos lim l
  have hnum := cutL_num lim l
  have hcl := cutL_len lim l
  generalize cutL lim l = segs at hes hseg hnv hu hpos hnum hcl HCu ⊢
  obtain ⟨A, c, hu', u1, u2, u3⟩ := sl_get hu
  obtain ⟨b, o, rfl, lb, hcell⟩ := u3 (by rw [outL_len]; omega)
  rw [outL_len, hes] at hu' u1
  subst hu'
  go_wp2_with fail
  refine ((HCu _ HX3.out).out).mono ?_
  rintro en w4 (⟨hno, _⟩ | ⟨_, y, vs, rfl, hy, hS, x4⟩)
  · cases hno
  have HX4 := hid (HX3.out.trans x4)
  have HB4 := hid (HB3.out.ext x4)
  have HU3 := hid (fun k hk j z hz => x4.cell (hcell k hk j z hz))
  have HEs := hid (fun i s t h1 h2 => (hseg i s t h1 h2).ext x4)
  have HNv := hid (hnv.ext x4)
  have HLb := hid (Nat.lt_of_lt_of_le lb x4.size)
  have HS := hid hS
  have hlen := hS.1
  obtain ⟨A2, c2, hy', y1, y2, y3⟩ := sl_get hy
  obtain ⟨b2, o2, rfl, lb2, hcell2⟩ := y3 (by omega)
  have HY3 := hid hcell2
  have HLb2 := hid lb2
  rw [hlen] at hy' y1
  subst hy'
  have HLen := hid hlen
  have HLe := hid hes
  have HCl := hid hcl
  clear x4 HX3 HB3 HCu hcell hseg hnv lb hu hy hS y3 u3 hcell2 lb2 hlen hes hcl
  unfold maxLen at u2 y2
  have hN : segs.length ≤ 61 := by omega
  go_wp2_with fail
  go_loopw [11] (fun s11 wr => ∃ i : Nat, i ≤ segs.length ∧ s11 = .int .i64 i ∧ Hid (Ext w4 wr)) (fun s11 _ => segs.length - (intOf s11).toNat)
  case atStart => exact ⟨0, by omega, rfl, Ext.refl _⟩
  case round =>
    obtain ⟨i, hi, rfl, hE⟩ := hrel
    by_cases hlt : i < segs.length
    · have e1 : decide ((i : Int) < segs.length) = true := decide_eq_true (by omega)
      have e1' : decide (i < segs.length) = true := decide_eq_true hlt
      have hies : i < es.length := by have := HLe.out; omega
      have hivs : i < vs.length := by have := HLen.out; omega
      have HSeg0 := hid (show segs[i]? = some segs[i] by simp [hlt])
      have HSk := hid (HS.out.2 i vs[i] segs[i] (by simp [hivs]) (by simp [hlt]))
      have c0 : wr.cell? ⟨b2, o2 + i, none⟩ = some (.slice vs[i].a vs[i].n vs[i].c) := by
        have := hE.out.cell (HY3.out i hivs 0 (.slice vs[i].a vs[i].n vs[i].c) rfl)
        simpa using this
      have HOut : Hid ((outL M segs.length nv es)[i]'(by rw [outL_len]; exact hies) = outM M segs.length nv i es[i]) := by
        unfold Hid outL
        rw [List.getElem_mapIdx]
      have hsl : segs[i].length ≤ 60 := by
        have := HCl.out segs[i] (List.getElem_mem hlt)
        omega
      generalize vs[i] = sv at HSk c0
      generalize segs[i] = seg at HSk HSeg0 hsl
      obtain ⟨sa, sn, sc⟩ := sv
      obtain ⟨A7, c7, hv7, s1, s2, _⟩ := sl_get HSk.out
      obtain ⟨rfl, rfl, rfl⟩ : sn = seg.length ∧ sa = A7 ∧ sc = c7 := by
        unfold SlV.val at hv7
        injection hv7 with q1 q2 q3
        exact ⟨q2, q1, q3⟩
      have l0 := Nat.lt_of_lt_of_le HLb2.out hE.out.size
      have lx := Nat.lt_of_lt_of_le HLb.out hE.out.size
      have HBr := hid (HB4.out.ext hE.out)
      have q1 : wr.cell? ⟨w.heap.size, 1, none⟩ = some (.int .i64 M.s1) := HBr.out.cell (by rw [← har]; exact msg_hd M 1 (by omega))
      have q2 : wr.cell? ⟨w.heap.size, 2, none⟩ = some (.int .i64 M.s2) := HBr.out.cell (by rw [← har]; exact msg_hd M 2 (by omega))
      have q3 : wr.cell? ⟨w.heap.size, 3, none⟩ = some (.int .i64 M.s3) := HBr.out.cell (by rw [← har]; exact msg_hd M 3 (by omega))
      have q4 : wr.cell? ⟨w.heap.size, 4, none⟩ = some (.int .i64 M.r1) := HBr.out.cell (by rw [← har]; exact msg_hd M 4 (by omega))
      have q5 : wr.cell? ⟨w.heap.size, 5, none⟩ = some (.int .i64 M.r2) := HBr.out.cell (by rw [← har]; exact msg_hd M 5 (by omega))
      have q6 : wr.cell? ⟨w.heap.size, 6, none⟩ = some (.int .i64 M.r3) := HBr.out.cell (by rw [← har]; exact msg_hd M 6 (by omega))
      have lq := HBr.out.lt
      clear hv7
      unfold maxLen at s2
      go_wp2_with fail
      refine wp_region_last (Rel.ext) (pre := ?pre1) (z := ?z1) ?hpre1 ?hz1 (Ext.steady wr) (by kernel_rfl) (by kernel_rfl) (by kernel_rfl) (by kernel_rfl) ?_
      case hpre1 => (simp only [List.dropLast_cons_cons, List.dropLast_singleton]; first | done | exact rfl)
      case hz1 => (simp only [List.getLast?_cons_cons, List.getLast?_singleton]; first | done | exact rfl)
      repeat (first
        | (refine AWq.val rfl rfl rfl rfl (fun K hK => ?_); go_big_quiet_op; refine hK _ ?_; clear hK K)
        | (refine AWq.skip rfl rfl rfl ?_; simp only [Act.put, List.setIfInBounds_toArray, List.set_cons_succ, List.set_cons_zero])
        | (refine AWq.opV (fun u W => ∃ g, u = .pointer (some ⟨g, 0, none⟩) ∧ Blk W g 62 msgZ.arr ∧ wr.heap.size ≤ g) (fun u a b he h => h.imp fun g h => ⟨h.1, h.2.1.ext he, h.2.2⟩) rfl rfl rfl rfl (fun wc hc => ?_) ?_; (· (have hcs := hc.size; clear hc; go_simp; dsimp only [Gives]; rw [zero62]; exact ⟨⟨_, rfl, Blk.new _ _ _, hcs⟩, Ext.alloc _ _⟩)))
        | (refine AWq.opQ (fun u W => u = .agg (preM M i ⟨sa, seg.length, sc⟩).arr) (fun u a b he h => h) rfl (fun a wc hc hl' => ⟨rfl, ?_⟩) ?_; (· (have e52 : a.tmps.getD 52 undef = .agg #[.int .i64 M.s1, .int .i64 M.s2, .int .i64 M.s3] := hl' 52 (of_decide_eq_true (by kernel_rfl)); have e54 : a.tmps.getD 54 undef = .agg #[.int .i64 M.r1, .int .i64 M.r2, .int .i64 M.r3] := hl' 54 (of_decide_eq_true (by kernel_rfl)); have e55 : a.tmps.getD 55 undef = .int .i64 i := hl' 55 (of_decide_eq_true (by kernel_rfl)); have e59 : a.tmps.getD 59 undef = .slice sa seg.length sc := hl' 59 (of_decide_eq_true (by kernel_rfl)); refine gives_build 62 #[(0, .const (.int .i64 2)), (1, .tmp 52), (2, .tmp 54), (7, .tmp 55), (9, .tmp 59)] (preM M i ⟨sa, seg.length, sc⟩).arr rfl ?_ ⟨rfl, Ext.refl _⟩; (have f52 : a.eval (.tmp 52) = _ := e52); (have f54 : a.eval (.tmp 54) = _ := e54); (have f55 : a.eval (.tmp 55) = _ := e55); (have f59 : a.eval (.tmp 59) = _ := e59); (have f0 : a.eval (.const (.int .i64 2)) = .int .i64 2 := rfl); simp only [List.map_toArray, List.map_cons, List.map_nil, f52, f54, f55, f59, f0]; exact pre_built M i ⟨sa, seg.length, sc⟩))))
      refine AWq.last rfl rfl rfl (fun w6 h6 => ?_)
      simp only [closeAny, Act.put, List.setIfInBounds_toArray, List.set_cons_succ, List.set_cons_zero]
      rintro _ ⟨g, rfl, hbg, hg⟩ _ rfl
      have HB6 := hid hbg
      have HG := hid hg
      have HX6 := hid h6
      clear hbg hg h6 q1 q2 q3 q4 q5 q6 c0
      have HP := hid (msg_arr (preM M i ⟨sa, seg.length, sc⟩))
      have HP1 := hid (msg_one (preM M i ⟨sa, seg.length, sc⟩))
      have HZ := hid (msg_arr msgZ)
      obtain ⟨p, hp⟩ : ∃ p, (preM M i ⟨sa, seg.length, sc⟩).arr = p := ⟨_, rfl⟩
      rw [hp] at HP HP1 ⊢
      have Hp := hid hp
      clear hp
      have lg := HB6.out.lt
      go_wp2_with fail
      simp only [Tryd.sizeOf62, Result.andThen, ↓reduceIte, run_storeCells_blk HB6.out (by rw [HP.out]; exact msg_size) (by rw [HP.out, HZ.out]) HP1.out, HP.out]
      rw [Oper.upon_skip]
      have HB7 := hid (HB6.out.setRow p)
      have HE7 : Hid (Ext wr (w6.setRow g p)) := HX6.out.setRow HG.out p
      generalize w6.setRow g p = w7 at HB7 HE7 ⊢
      clear HB6 HX6 HZ lg l0 lq
      by_cases hlast : i + 1 = segs.length
      · have dl : ((i : Int) == (segs.length : Int) - 1) = true := by simp only [beq_iff_eq]; omega
        have hqg : w.heap.size ≠ g := by have := HG.out; have := HBr.out.lt; omega
        have HBm := hid (HBr.out.ext HE7.out)
        have b13 : w7.cell? ⟨g, 13, none⟩ = some (.bool false) := HB7.out.cell (by rw [← Hp.out, msg_hd _ 13 (by omega)]; rfl)
        have z13 := HB7.out.frozen 13
        have lg7 := HB7.out.lt
        have HK8 := hid ((Keep.refl (fun q => q = g) w7).setCell (p := ⟨g, 13, none⟩) (.inl rfl) (.bool true))
        have HB8 := hid (HB7.out.set 13 (.bool true))
        have HM8 := hid (HBm.out.keep HK8.out hqg)
        obtain ⟨VV, hVV⟩ : ∃ VV, (intsV M.V).toArray = VV := ⟨_, rfl⟩
        obtain ⟨AA, hAA⟩ : ∃ AA, (intsV M.A).toArray = AA := ⟨_, rfl⟩
        have hVs : VV.size = 65 := by rw [← hVV]; exact intsV_arr M.hV
        have hAs : AA.size = 65 := by rw [← hAA]; exact intsV_arr M.hA
        have hV1 : VV.all (·.oneCell') = true := by rw [← hVV]; exact all_oneCell_toArray (intsV_one M.V)
        have hA1 : AA.all (·.oneCell') = true := by rw [← hAA]; exact all_oneCell_toArray (intsV_one M.A)
        have hVl : VV.toList = intsV M.V := by rw [← hVV]
        have hAl : AA.toList = intsV M.A := by rw [← hAA]
        have HVm := hid (fun j v (h : VV[j]? = some v) => msg_V M j v (by rw [← hVV] at h; simpa using h))
        have HAm := hid (fun j v (h : AA[j]? = some v) => msg_A M j v (by rw [← hAA] at h; simpa using h))
        rw [har] at HVm HAm
        clear hVV hAA
        have HVs := hid hVs
        have HAs := hid hAs
        clear hVs hAs
        go_wp2_with fail
        generalize w7.setCell ⟨g, 13, none⟩ (.bool true) = w8 at HK8 HB8 HM8 ⊢
        clear b13 z13 lg7
        obtain ⟨p1, hp1⟩ : ∃ p1, p.setIfInBounds 13 (.bool true) = p1 := ⟨_, rfl⟩
        have HP1s : Hid (p1.size = 147) := by unfold Hid; rw [← hp1, Array.size_setIfInBounds]; exact HP.out
        rw [hp1] at HB8
        have HL8 := hid (fun j v h => HM8.out.cell (HVm.out j v h))
        have hle8 : 15 + (intsV M.V).length ≤ p1.size := by rw [intsV_len, M.hV, HP1s.out]; omega
        have lg8 := HB8.out.lt
        have lm8 := HM8.out.lt
        simp only [Tryd.sizeOf59, Result.andThen]
        rw [if_neg (show ¬ (65 : Nat) = 0 by omega)]
        dsimp only
        rw [Oper.upon_value]
        go_wp2_with fail
        simp only [Tryd.isAgg59, Tryd.sizeOf59, Result.andThen, ↓reduceIte, run_loadCells_at HL8.out 65 HVs.out]
        rw [Oper.upon_value]
        go_wp2_with fail
        simp only [Tryd.sizeOf59, Result.andThen]
        rw [if_neg (show ¬ (65 : Nat) = 0 by omega)]
        dsimp only
        rw [Oper.upon_value]
        go_wp2_with fail
        simp only [Tryd.sizeOf59, Result.andThen, ↓reduceIte, HVs.out, run_storeCells_mid HB8.out hle8 (intsV_one M.V)]
        rw [Oper.upon_skip]
        have HK9 := hid (Keep.setCells (S := fun q => q = g) (.inl rfl) (intsV M.V) HK8.out 15)
        have HB9 := hid (HB8.out.setCells (intsV M.V) 15 hle8)
        have HM9 := hid (HM8.out.keep (Keep.setCells (S := fun q => q = g) (.inl rfl) (intsV M.V) (Keep.refl _ w8) 15) hqg)
        generalize w8.setCells g 15 (intsV M.V) = w9 at HK9 HB9 HM9 ⊢
        obtain ⟨p2, hp2⟩ : ∃ p2, (p1.toList.take 15 ++ (intsV M.V ++ p1.toList.drop (15 + (intsV M.V).length))).toArray = p2 := ⟨_, rfl⟩
        have HP2s : Hid (p2.size = 147) := by
          unfold Hid
          have := HP1s.out
          rw [← hp2, List.size_toArray, List.length_append, List.length_append, List.length_take, List.length_drop, Array.length_toList, intsV_len, M.hV]; omega
        rw [hp2] at HB9
        clear HK8 HB8 HM8 HL8 hle8 lg8 lm8
        have HL9 := hid (fun j v h => HM9.out.cell (HAm.out j v h))
        have hle9 : 80 + (intsV M.A).length ≤ p2.size := by rw [intsV_len, M.hA, HP2s.out]; omega
        have lg9 := HB9.out.lt
        have lm9 := HM9.out.lt
        go_wp2_with fail
        simp only [Tryd.sizeOf59, Result.andThen]
        rw [if_neg (show ¬ (65 : Nat) = 0 by omega)]
        dsimp only
        rw [Oper.upon_value]
        go_wp2_with fail
        simp only [Tryd.isAgg59, Tryd.sizeOf59, Result.andThen, ↓reduceIte, run_loadCells_at HL9.out 65 HAs.out]
        rw [Oper.upon_value]
        go_wp2_with fail
        simp only [Tryd.sizeOf59, Result.andThen]
        rw [if_neg (show ¬ (65 : Nat) = 0 by omega)]
        dsimp only
        rw [Oper.upon_value]
        go_wp2_with fail
        simp only [Tryd.sizeOf59, Result.andThen, ↓reduceIte, HAs.out, run_storeCells_mid HB9.out hle9 (intsV_one M.A)]
        rw [Oper.upon_skip]
        have HK10 := hid (Keep.setCells (S := fun q => q = g) (.inl rfl) (intsV M.A) HK9.out 80)
        have HB10 := hid (HB9.out.setCells (intsV M.A) 80 hle9)
        have HM10 := hid (HM9.out.keep (Keep.setCells (S := fun q => q = g) (.inl rfl) (intsV M.A) (Keep.refl _ w9) 80) hqg)
        generalize w9.setCells g 80 (intsV M.A) = w10 at HK10 HB10 HM10 ⊢
        obtain ⟨p3, hp3⟩ : ∃ p3, (p2.toList.take 80 ++ (intsV M.A ++ p2.toList.drop (80 + (intsV M.A).length))).toArray = p3 := ⟨_, rfl⟩
        have HP3s : Hid (p3.size = 147) := by
          unfold Hid
          have := HP2s.out
          rw [← hp3, List.size_toArray, List.length_append, List.length_append, List.length_take, List.length_drop, Array.length_toList, intsV_len, M.hA]; omega
        rw [hp3] at HB10
        clear HK9 HB9 HM9 HL9 hle9 lg9 lm9
        obtain ⟨z9, h145⟩ : ∃ z9, p3[145]? = some z9 := ⟨p3[145]'(by rw [HP3s.out]; omega), Array.getElem?_eq_getElem _⟩
        have b145 := HB10.out.cell h145
        have z145 := HB10.out.frozen 145
        have lg10 := HB10.out.lt
        have lm10 := HM10.out.lt
        have q145 : w10.cell? ⟨w.heap.size, 145, none⟩ = some (.slice M.not.a M.not.n M.not.c) := HM10.out.cell (by rw [← har]; exact msg_end M 0)
        have HK11 := hid (HK10.out.setCell (p := ⟨g, 145, none⟩) (.inl rfl) (.slice M.not.a M.not.n M.not.c))
        have HB11 := hid (HB10.out.set 145 (.slice M.not.a M.not.n M.not.c))
        obtain ⟨p4, hp4⟩ : ∃ p4, p3.setIfInBounds 145 (.slice M.not.a M.not.n M.not.c) = p4 := ⟨_, rfl⟩
        rw [hp4] at HB11
        have HQ : Hid (p4 = (outM M segs.length M.not i ⟨sa, seg.length, sc⟩).arr) := by
          unfold Hid
          rw [← hp4]
          exact last_arr M segs.length M.not i ⟨sa, seg.length, sc⟩ hlast p1 p2 p3 (by rw [← hp1, Hp.out]) hp2.symm hp3.symm
        have HP4 : Hid (p4.size = 147) := by unfold Hid; rw [HQ.out]; exact msg_arr _
        clear hp1 hp2 hp3 hp4 HP1s HP2s HP3s HVm HAm hVl hAl hV1 hA1 HP HP1 Hp
        go_wp2_with fail
        generalize w10.setCell ⟨g, 145, none⟩ (.slice M.not.a M.not.n M.not.c) = w11 at HK11 HB11 ⊢
        clear h145 b145 z145 lg10 lm10 q145 HB10 HK10 HM10
        have HE8 : Hid (Ext wr w11) := ((Keep.of_ext HE7.out).trans HK11.out).toExt (Ext.refl _) (fun q hq => by rw [hq]; exact HG.out)
        have lg := HB11.out.lt
        clear HK11 HE7 HB7 HBm
        have HQx := HQ.out
        have HSame := fun W (hW : Ext w11 W) => hid (same18_yes W (outM M segs.length nv i es[i]) nilS nilS nilS nilS ⟨sa, seg.length, sc⟩ (if i + 1 = segs.length then M.not else nilS) [] [] seg (if i + 1 = segs.length then nots else []) (Sl.nil W 3) (Sl.nil W 3) (Sl.nil W 4) (Sl.nil W 4) ((HEs.out i es[i] seg (by simp [hies]) HSeg0.out).ext ((hE.out.trans HE8.out).trans hW)) (HSk.out.ext ((hE.out.trans HE8.out).trans hW)) (by
            show Sl W 2 (SlV.val (if i + 1 = segs.length then nv else nilS)) _
            by_cases hq : i + 1 = segs.length
            · rw [if_pos hq, if_pos hq]; exact HNv.out.ext ((hE.out.trans HE8.out).trans hW)
            · rw [if_neg hq, if_neg hq]; exact Sl.nil W 2) (by
            by_cases hq : i + 1 = segs.length
            · rw [if_pos hq, if_pos hq]; exact HNt.out.ext ((HX4.out.trans (hE.out.trans HE8.out)).trans hW)
            · rw [if_neg hq, if_neg hq]; exact Sl.nil W 2) (fun W' _ => rsame15_nil W'))
        rw [← same_slots, ← HQx] at HSame
        have HXr := hid (fun (j : Nat) u (hu : (outM M segs.length nv i es[i]).arr[j]? = some u) => (hE.out.trans HE8.out).cell (HU3.out i (by rw [outL_len]; exact hies) j u (by rw [HOut.out]; simpa [MsgC.arr] using hu)))
        have hzo := hid (msg_arr (outM M segs.length nv i es[i]))
        generalize (outM M segs.length nv i es[i]).arr = xr at HSame HXr hzo
        have HBf := hid HB11.out
        have HPf := hid HP4.out
        clear HQx HEs HNv HSeg0 HU3 HY3 HOut HSk HS
        go_wp2_with fail
        refine wp_region_any_order (by kernel_rfl) (by kernel_rfl) (by kernel_rfl) ?_
        repeat (first
          | (refine AWq.val rfl rfl rfl rfl (fun K hK => ?_); go_big_quiet_op; refine hK _ ?_; clear hK K)
          | (refine AWq.skip rfl rfl rfl ?_; simp only [Act.put, List.setIfInBounds_toArray, List.set_cons_succ, List.set_cons_zero])
          | (refine AWq.val rfl rfl rfl rfl (fun K hK => ?_); refine quiet_index_msg (k := i) rfl rfl rfl rfl hlt (hK _ ?_); clear hK K; simp only [Act.put, List.setIfInBounds_toArray, List.set_cons_succ, List.set_cons_zero])
          | (refine AWq.val rfl rfl rfl rfl (fun K hK => ?_); refine quiet_load_at rfl rfl (fun wc hwc => by obtain ⟨E, rfl⟩ := hwc; exact msg_loadVar hzo.out (fun j v hv => (Ext.of_wext _ _).cell (HXr.out j v hv))) (hK _ ?_); clear hK K; simp only [Act.put, List.setIfInBounds_toArray, List.set_cons_succ, List.set_cons_zero])
          | (refine AWq.val rfl rfl rfl rfl (fun K hK => ?_); refine quiet_load rfl rfl (fun wc hwc => by obtain ⟨E, rfl⟩ := hwc; exact HBf.out.ext (Ext.of_wext _ _)) (fun wc hB => msg_loadVar HPf.out (fun j v hv => by rw [Nat.zero_add]; exact hB.cell hv)) (hK _ ?_); clear hK K; simp only [Act.put, List.setIfInBounds_toArray, List.set_cons_succ, List.set_cons_zero])
          | (refine AWq.call rfl Tryd.func17 (by kernel_rfl) (by kernel_rfl) rfl rfl rfl ?_; apply Exists.intro; refine And.intro (fun wc hc => ?_) ?_; (· (simp only [argsOf, anyAt, ↓reduceIte, Nat.reduceEqDiff, Array.getD_eq_getD_getElem?, List.getElem?_toArray, List.getElem?_cons_succ, List.getElem?_cons_zero, Option.getD_some]; with_reducible exact (HSame _ hc).out)); simp only [Act.put, List.setIfInBounds_toArray, List.set_cons_succ, List.set_cons_zero]))
        refine AWq.done rfl rfl rfl (fun w9 x9 => ?_)
        simp only [closeAny, Act.put, List.setIfInBounds_toArray, List.set_cons_succ, List.set_cons_zero]
        go_wp2_with fail
        go_roundw
        case rel => exact ⟨i + 1, by omega, by go_num, (hE.out.trans HE8.out).trans x9⟩
        case measure => simp [intOf]; omega
      · have dl : ((i : Int) == (segs.length : Int) - 1) = false := by simp only [beq_eq_false_iff_ne, ne_eq]; omega
        have HQ : Hid (p = (outM M segs.length M.not i ⟨sa, seg.length, sc⟩).arr) := by
          unfold Hid
          rw [← Hp.out, outM_pre _ _ _ _ _ hlast]
        have HE8 := HE7
        have lg := HB7.out.lt
        have HQx := HQ.out
        have HSame := fun W (hW : Ext w7 W) => hid (same18_yes W (outM M segs.length nv i es[i]) nilS nilS nilS nilS ⟨sa, seg.length, sc⟩ (if i + 1 = segs.length then M.not else nilS) [] [] seg (if i + 1 = segs.length then nots else []) (Sl.nil W 3) (Sl.nil W 3) (Sl.nil W 4) (Sl.nil W 4) ((HEs.out i es[i] seg (by simp [hies]) HSeg0.out).ext ((hE.out.trans HE8.out).trans hW)) (HSk.out.ext ((hE.out.trans HE8.out).trans hW)) (by
            show Sl W 2 (SlV.val (if i + 1 = segs.length then nv else nilS)) _
            by_cases hq : i + 1 = segs.length
            · rw [if_pos hq, if_pos hq]; exact HNv.out.ext ((hE.out.trans HE8.out).trans hW)
            · rw [if_neg hq, if_neg hq]; exact Sl.nil W 2) (by
            by_cases hq : i + 1 = segs.length
            · rw [if_pos hq, if_pos hq]; exact HNt.out.ext ((HX4.out.trans (hE.out.trans HE8.out)).trans hW)
            · rw [if_neg hq, if_neg hq]; exact Sl.nil W 2) (fun W' _ => rsame15_nil W'))
        rw [← same_slots, ← HQx] at HSame
        have HXr := hid (fun (j : Nat) u (hu : (outM M segs.length nv i es[i]).arr[j]? = some u) => (hE.out.trans HE8.out).cell (HU3.out i (by rw [outL_len]; exact hies) j u (by rw [HOut.out]; simpa [MsgC.arr] using hu)))
        have hzo := hid (msg_arr (outM M segs.length nv i es[i]))
        generalize (outM M segs.length nv i es[i]).arr = xr at HSame HXr hzo
        have HBf := hid HB7.out
        have HPf := hid HP.out
        clear HQx HEs HNv HSeg0 HU3 HY3 HOut HSk HS
        go_wp2_with fail
        refine wp_region_any_order (by kernel_rfl) (by kernel_rfl) (by kernel_rfl) ?_
        repeat (first
          | (refine AWq.val rfl rfl rfl rfl (fun K hK => ?_); go_big_quiet_op; refine hK _ ?_; clear hK K)
          | (refine AWq.skip rfl rfl rfl ?_; simp only [Act.put, List.setIfInBounds_toArray, List.set_cons_succ, List.set_cons_zero])
          | (refine AWq.val rfl rfl rfl rfl (fun K hK => ?_); refine quiet_index_msg (k := i) rfl rfl rfl rfl hlt (hK _ ?_); clear hK K; simp only [Act.put, List.setIfInBounds_toArray, List.set_cons_succ, List.set_cons_zero])
          | (refine AWq.val rfl rfl rfl rfl (fun K hK => ?_); refine quiet_load_at rfl rfl (fun wc hwc => by obtain ⟨E, rfl⟩ := hwc; exact msg_loadVar hzo.out (fun j v hv => (Ext.of_wext _ _).cell (HXr.out j v hv))) (hK _ ?_); clear hK K; simp only [Act.put, List.setIfInBounds_toArray, List.set_cons_succ, List.set_cons_zero])
          | (refine AWq.val rfl rfl rfl rfl (fun K hK => ?_); refine quiet_load rfl rfl (fun wc hwc => by obtain ⟨E, rfl⟩ := hwc; exact HBf.out.ext (Ext.of_wext _ _)) (fun wc hB => msg_loadVar HPf.out (fun j v hv => by rw [Nat.zero_add]; exact hB.cell hv)) (hK _ ?_); clear hK K; simp only [Act.put, List.setIfInBounds_toArray, List.set_cons_succ, List.set_cons_zero])
          | (refine AWq.call rfl Tryd.func17 (by kernel_rfl) (by kernel_rfl) rfl rfl rfl ?_; apply Exists.intro; refine And.intro (fun wc hc => ?_) ?_; (· (simp only [argsOf, anyAt, ↓reduceIte, Nat.reduceEqDiff, Array.getD_eq_getD_getElem?, List.getElem?_toArray, List.getElem?_cons_succ, List.getElem?_cons_zero, Option.getD_some]; with_reducible exact (HSame _ hc).out)); simp only [Act.put, List.setIfInBounds_toArray, List.set_cons_succ, List.set_cons_zero]))
        refine AWq.done rfl rfl rfl (fun w9 x9 => ?_)
        simp only [closeAny, Act.put, List.setIfInBounds_toArray, List.set_cons_succ, List.set_cons_zero]
        go_wp2_with fail
        go_roundw
        case rel => exact ⟨i + 1, by omega, by go_num, (hE.out.trans HE8.out).trans x9⟩
        case measure => simp [intOf]; omega
    · obtain rfl : i = segs.length := by omega
      have e1 : decide ((segs.length : Int) < segs.length) = false := decide_eq_false (by omega)
      have e1' : decide (segs.length < segs.length) = false := decide_eq_false (by omega)
      have HX5 := hid (HX4.out.trans hE.out)
      clear HU3 HY3 HEs HNv HS HB4 hE HX4
      go_wp2_with fail
      refine ((HAw _ HX5.out).out).mono ?_
      rintro en w5 ⟨rfl, x5⟩
      have HX6 := hid (HX5.out.trans x5)
      clear x5
      go_wp2_with fail
      go_ret
      exact ⟨rfl, HX6.out⟩
end Go.Proofs.YtanflgipdiogaaaDoor
