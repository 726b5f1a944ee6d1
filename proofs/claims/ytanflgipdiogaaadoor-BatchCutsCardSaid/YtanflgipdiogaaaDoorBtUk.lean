/-
  R19.Cut: the document's batches.
-/
import Derived.Test.YtanflgipdiogaaaDoorQcG
import Derived.Test.YtanflgipdiogaaaDoorAwT
namespace Go.Proofs.YtanflgipdiogaaaDoor
set_option linter.unusedSimpArgs false
set_option linter.unusedVariables false
open Go.RowKit

theorem bt_info : (Tryd.prog.info? 32).map (fun i => (i.zero, i.size, i.bytes)) = some (some (.agg #[.slice none 0 0]), 1, 24) := by kernel_rfl
theorem bt_elem : Elem Tryd.prog 29 32 1 24 := by
  obtain ⟨i0, h0, h1, h2, h3⟩ := info_parts bt_info
  exact ⟨Tryd.underlying29, i0, _, h0, h1, h2, h3, rfl⟩
/-- A row of one entry is laid. -/
theorem gives_one {o : Oper} {a : Act} {x : Operand} {X : Array Value} {W : World} (ho : o.op = .buildSlice 22 1 #[(0, x)]) (hx : a.eval x = .agg X) (hX : X.size = 21) : Gives Tryd.prog (fun v w' => NewSl 44 X 1 1 v w' ∧ Ext W w') ((execOp a.eval o).run Tryd.prog W) := by
  obtain ⟨i0, h0, h1, h2, h3⟩ := info_parts entinfo
  have := run_build_rows (t := 22) (e := 44) (sz := 21) (bytes := 192) ⟨Tryd.underlying22, i0, _, h0, h1, h2, h3, rfl⟩ W [X] (fun x hx => by rw [List.mem_singleton.1 hx]; exact hX) (by omega) (by simp) (by simp) #[(0, .agg X)] rfl
  have e : (([X] : List (Array Value)).flatMap Array.toList).toArray = X := by simp
  rw [e] at this
  simp [execOp, ho, hx, Gives, List.length_singleton] at this ⊢
  simp [this, Result.andThen]
  exact ⟨⟨_, rfl, Blk.new _ _ _⟩, Ext.alloc _ _⟩
/-- append onto an empty row without room. -/
theorem app_empty {P : Program} {t tx ty e : TypeId} {sz bytes : Nat} (hE : Elem P t e sz bytes) {w : World} {B q m : Nat} {x : Value} {news : List Value} (hb : Blk w q e #[]) (hq : B ≤ q) (hs : Src P sz tx x m news w) (h63 : m ≤ maxLen) (hbytes : m * bytes ≤ 140737488355328) :
    ∃ v' w', (Builtin.append_ #[t, tx] ty #[.slice (some ⟨q, 0, none⟩) 0 0, x]).run P w = .ok v' w' ∧ w'.ownsRow B e sz v' m news ∧ Ext w w' := by
  obtain ⟨ht, i, z, hi, hz, rfl, rfl, hzs⟩ := hE
  have hnl := hs.newsLen
  by_cases hm : m = 0
  · subst hm
    obtain rfl : news = [] := List.eq_nil_of_length_eq_zero (by simpa using hnl)
    exact ⟨_, _, run_append_nothing w t tx ty e i ht hi (some ⟨q, 0, none⟩) 0 0 (Nat.le_refl _) x hs, ⟨by simp, .inr ⟨q, 0, #[], rfl, hq, hb, Nat.le_refl _, by unfold maxLen; omega, by simp, by simp⟩⟩, Ext.refl _⟩
  · have hf : (Builtin.firstCells i.size 0 (.slice (some ⟨q, 0, none⟩) 0 0)).run P w.drew = .ok ([] : List Value).toArray w.drew := run_firstCells_some (P := P) w.drew i.size 0 ⟨q, 0, none⟩ 0 0 [] (by simp) (fun j u hu => by simp at hu)
    have hr := run_append_grow_src (P := P) w t tx ty e i z ht hi hz (some ⟨q, 0, none⟩) 0 0 [] hf x m news hs (by omega) (by unfold maxLen at h63; omega) (growslice_fits (by omega) (by simpa using hbytes))
    have hge := grownCap_ge w (0 + m) 0 e
    have hcm : grownCap w (0 + m) 0 e ≤ maxLen := grownCap_le_maxLen w (0 + m) 0 e (by omega)
    have hlen : (([] : List Value) ++ news).length = (0 + m) * i.size := by simp [hnl]
    refine ⟨_, _, hr, ⟨hnl, .inr ⟨w.heap.size, _, _, by rw [Nat.zero_add], by have := hb.lt; omega, (heap_alloc_new w.drew (.cells ((([] : List Value) ++ news).toArray ++ Builtin.zeroCells z.cells (grownCap w (0 + m) 0 e - (0 + m))) e) : _), by simpa using hge, by simpa using hcm, ?_, ?_⟩⟩, ((Ext.refl w).drew').alloc' _⟩
    · simp only [Array.size_append, List.size_toArray, size_zeroCells, hzs, hlen, ← Nat.add_mul]
      simp only [Nat.zero_add] at hge ⊢
      congr 1
      omega
    · simp only [Array.toList_append, List.nil_append]
      rw [← hnl]
      exact List.take_left
theorem row_len {w : World} {B sz n m c : Nat} {e : TypeId} {A : Option Addr} {xs : List Value} (h : w.ownsRow B e sz (.slice A n c) m xs) : n = m := by
  rcases h.2 with ⟨h1, h2⟩ | ⟨g, cap, cur, h1, _⟩
  · injection h1 with _ h1; omega
  · injection h1
theorem EsAt.keepB {w w' : World} {es : List SlV} {segs : List (List EntI)} (h : EsAt w es segs) {g : Nat} {t : TypeId} {cs : Array Value} (hb : Blk w g t cs) (hne : 44 ≠ t) (hk : Keep (fun q => q = g) w w') : EsAt w' es segs :=
  ⟨h.1, fun i s t' h1 h2 => ownsRow_keep (h.2 i s t' h1 h2) hk (fun q hq hS => row_apart (h.2 i s t' h1 h2) hb hne (by rw [← hS]; exact hq))⟩
theorem EsAt.segs {w : World} {es : List SlV} {segs : List (List EntI)} (h : EsAt w es segs) : SegsAt w es segs :=
  ⟨h.1, fun i s t h1 h2 => sl_of_row (e := 44) (base := 0) (ent_coded.sizes t) (by rw [List.length_map]; exact h.2 i s t h1 h2)⟩
attribute [-simp] Tryd.isAgg44 Tryd.sizeOf44
set_option maxRecDepth 100000 in
set_option maxHeartbeats 8000000 in
theorem rcut_c (w : World) (v : Value) (l : List EntI) (limit : Int) (h : Sl w 21 v (l.map EntI.cells)) (hl : l.length ≤ 100) (hok : ∀ e ∈ l, EntOk e) (hlim : 1 ≤ limit ∧ limit ≤ 4096) : Calls Tryd.prog 12 #[v, .int .i64 limit] w (RetQ (fun u w' => ∃ vs : List SlV, Sl w' 1 u (vs.map SlV.cells) ∧ SegsAt w' vs (cutL limit l)) w) := by
  obtain ⟨A, c, rfl, h1, h2, h3⟩ := sl_get h
  have HSz := fun W x (hx : x ∈ l) => hid (rsize_c W x (hok x hx))
  have HOk := hid hok
  have H3 := hid h3
  unfold maxLen at h2
  clear h h3 hok
  go_enter Tryd.func12, Tryd.ntmps12
  go_wp2_with fail
  have HB0 := hid (Blk.new w 32 #[.slice none 0 0])
  have HE0 := hid (Ext.alloc w (.cells #[.slice none 0 0] 32))
  generalize w.alloc (.cells #[.slice none 0 0] 32) = w0 at HB0 HE0 ⊢
  go_loopw [5, 7, 8] (fun s5 s7 s8 wr => ∃ (k n : Nat) (cv : SlV) (vs : List SlV) (done : List (List EntI)) (cur : List EntI) (o : Value), o = s5 ∧ k ≤ l.length ∧ s8 = .int .i64 k ∧ s7 = .int .i64 n ∧ Hid (Ext w wr) ∧ Hid (Blk wr w.heap.size 32 #[cv.val]) ∧ Hid (wr.ownsRow (w.heap.size + 1) 32 1 o vs.length (vs.map SlV.cells).flatten) ∧ Hid (wr.ownsRow 0 44 21 cv.val cur.length (cur.map EntI.cells).flatten) ∧ Hid (EsAt wr vs done) ∧ Hid (foldC limit (l.take k) = (done, cur, n))) (fun _ _ s8 _ => l.length - (intOf s8).toNat)
  case atStart => exact ⟨0, 0, nilS, [], [], [], _, rfl, by omega, rfl, rfl, HE0.out, HB0.out, ownsRow_nil _ _ _ _, ownsRow_nil _ _ _ _, ⟨rfl, fun i s t h => by simp at h⟩, by simp [foldC, Hid]⟩
  case round =>
    obtain ⟨k, n, cv, vs, done, cur, o, rfl, hk, rfl, rfl, hE, hB, hR, hC, hS, hF⟩ := hrel
    have h8 := foldC_parts limit (l.take k)
    have hne := flat_len _ (foldC_ne limit (l.take k) ([], [], 0) (fun s hs => by cases hs))
    have hne : (foldC limit (l.take k)).1.length ≤ (foldC limit (l.take k)).1.flatten.length := hne
    have hsz := foldC_size limit (l.take k)
    rw [hF.out] at h8 hne hsz
    dsimp only at h8 hne hsz
    have h8l := congrArg List.length h8
    rw [List.length_append, List.length_take, Nat.min_eq_left hk] at h8l
    have hcur : ∀ e ∈ cur, EntOk e := fun e he => HOk.out e (List.mem_of_mem_take (by rw [← h8]; exact List.mem_append_right _ he))
    have hsum := sumE_le cur hcur
    have hvl := hS.out.1
    have hcl : cur.length ≤ 100 := by omega
    have hvl2 : vs.length ≤ 100 := by omega
    have hn : n ≤ 100000 := by omega
    clear h8 hne hsz h8l hcur hsum hvl
    obtain ⟨ca, cn, cc⟩ := cv
    obtain rfl := row_len hC.out
    have HLc : Hid (cur.length ≤ maxLen ∧ cur.length * 192 ≤ 140737488355328) := by unfold Hid maxLen; omega
    by_cases hlt : k < l.length
    · have d1 : decide ((k : Int) < l.length) = true := decide_eq_true (by omega)
      have d1' : decide (k < l.length) = true := decide_eq_true hlt
      obtain ⟨b, ob, rfl, lb, hcell⟩ := H3.out (by omega)
      have HRw := hid (fun (q : Nat) u (hu : l[k].arr[q]? = some u) => hcell k hlt q u (by rw [← arr_list, Array.getElem?_toList]; exact hu))
      have HRd := hid (fun (q : Nat) u (hu : l[k].arr[q]? = some u) => hE.out.cell (HRw.out q u hu))
      have HC' := fun W => HSz W l[k] (List.getElem_mem hlt)
      have HN : Hid (foldC limit (l.take (k + 1)) = stepC limit (done, cur, n) l[k]) := by unfold Hid; rw [foldC_next hlt, hF.out]
      have hsx := sizeE_le (HOk.out l[k] (List.getElem_mem hlt))
      have hz := hid (arr_size l[k])
      have HAr := hid (arr_list l[k])
      unfold stepC at HN
      clear hcell H3 HSz HOk lb hF
      generalize l[k] = x at HRw HRd HC' HN hsx hz HAr
      generalize sizeE x = sx at HC' HN hsx
      generalize harr : x.arr = arr at HRw HRd HC' hz HAr
      clear harr
      go_wp2_with fail
      simp only [Tryd.sizeOf44, Result.andThen]
      rw [Oper.upon_value]
      go_wp2_with fail
      simp only [Tryd.isAgg44, Tryd.sizeOf44, Result.andThen, ↓reduceIte, run_loadCells_at HRd.out 21 hz.out]
      rw [Oper.upon_value]
      go_wp2_with fail
      refine ((HC' _).out).mono ?_
      rintro en w3 ⟨rfl, x3⟩
      have HE3 := hid (hE.out.trans x3)
      have HB3 := hid (hB.out.ext x3)
      have HR3 := hid (ownsRow_ext hR.out x3)
      have HC3 := hid (ownsRow_ext hC.out x3)
      have HS3 := hid (hS.out.ext x3)
      have c1 := HB3.out.cell (i := 0) (v := .slice ca cur.length cc) rfl
      have l1 := HB3.out.lt
      have z1 := HB3.out.frozen 0
      clear x3 hE hB hR hC hS HRd HC'
      by_cases hcut : 0 < cur.length ∧ limit < (n : Int) + sx
      · have HM : Hid (foldC limit (l.take (k + 1)) = (done ++ [cur], [x], sx)) := by
          unfold Hid
          rw [HN.out, if_pos ⟨hcut.1, .inl hcut.2⟩]
        have p1 : decide ((0 : Int) < cur.length) = true := decide_eq_true (by omega)
        have p1' : decide (0 < cur.length) = true := decide_eq_true hcut.1
        have p2 : decide (limit < (n : Int) + sx) = true := decide_eq_true hcut.2
        clear hcut HN
        have HXa := hid (Ext.alloc w3 (.cells #[.slice ca cur.length cc] 32))
        obtain ⟨v', w4, hrun, hO4, hk4, _, _⟩ := app_row (ty := 29) bt_elem (ownsRow_ext HR3.out HXa.out) (by have := HXa.out.size; omega) (src_new (n := 1) (c := 1) Tryd.underlying29 ⟨_, rfl, Blk.new w3 32 #[.slice ca cur.length cc]⟩ rfl (by simp [Value.oneCell'])) (by unfold maxLen; omega) (by omega)
        have hrow := row_block HR3.out
        have HB4 := hid ((HB3.out.ext HXa.out).keep hk4 (fun h => by have := (hrow _ h).1; omega))
        have HC4 := hid (ownsRow_keep (ownsRow_ext HC3.out HXa.out) hk4 (fun q hq => rows_apart (ownsRow_ext HC3.out HXa.out) (ownsRow_ext HR3.out HXa.out) (by decide) q hq))
        have HS4 := hid ((HS3.out.ext HXa.out).keep (ownsRow_ext HR3.out HXa.out) (by decide) hk4)
        have HE4 : Hid (Ext w w4) := hk4.toExt (HE3.out.trans HXa.out) (fun q hq => by have := (hrow q hq).1; omega)
        clear hk4
        have HO4 : Hid (w4.ownsRow (w.heap.size + 1) 32 1 v' (vs ++ [(⟨ca, cur.length, cc⟩ : SlV)]).length ((vs ++ [(⟨ca, cur.length, cc⟩ : SlV)]).map SlV.cells).flatten) := by
          unfold Hid
          simpa [SlV.cells] using hO4
        clear hO4 HR3 HC3 HS3 HB3 HE3 HXa
        have b1 := HB4.out.cell (i := 0) (v := .slice ca cur.length cc) rfl
        have k1 := HB4.out.lt
        have y1 := HB4.out.frozen 0
        have HB5 := hid (HB4.out.set 0 (.slice none 0 0))
        have HE5 := hid (HE4.out.setCell' (p := ⟨w.heap.size, 0, none⟩) (Nat.le_refl _) (.slice none 0 0))
        have HK5 := hid (Keep.setCell (S := fun q => q = w.heap.size) (Keep.refl _ w4) (p := ⟨w.heap.size, 0, none⟩) (.inl rfl) (.slice none 0 0))
        have HO5 := hid (ownsRow_keep HO4.out HK5.out (fun q hq hS => by have := (row_block HO4.out q hq).1; omega))
        have HS5 := hid ((HS4.out.snoc HC4.out).keepB HB4.out (by decide) HK5.out)
        clear HO4 HS4 HC4 HE4
        go_wp2_with (at_builtin; refine wpList_app rfl (.tmp 39) (.tmp 41) _ _ rfl rfl rfl hrun ?_)
        clear c1 l1 z1 b1 k1 y1 HB4 hrun
        generalize w4.setCell ⟨w.heap.size, 0, none⟩ (.slice none 0 0) = w5 at HB5 HE5 HK5 HO5 HS5 ⊢
        clear HK5
        have HC5 : Hid (w5.ownsRow 0 44 21 (.slice none 0 0) ([] : List EntI).length (([] : List EntI).map EntI.cells).flatten) := ownsRow_nil w5 0 44 21
        have HLc : Hid (0 ≤ maxLen ∧ 0 * 192 ≤ 140737488355328) := by unfold Hid maxLen; omega
        have HRx := hid (fun q u hu => HE5.out.cell (HRw.out q u hu))
        have c1 := HB5.out.cell (i := 0) (v := .slice none 0 0) rfl
        have l1 := HB5.out.lt
        refine wp_region_tail (pre := ?pre1) (tl := ?tl1) 9 ?hpre1 ?htl1 (of_decide_eq_true (by kernel_rfl)) (by kernel_rfl) (by kernel_rfl) (by kernel_rfl) (by kernel_rfl) ?_
        case hpre1 => (simp only [List.take_succ_cons, List.take_zero]; first | done | exact rfl)
        case htl1 => (simp only [List.drop_succ_cons, List.drop_zero]; first | done | exact rfl)
        repeat (first
          | (refine AWq.val rfl rfl rfl rfl (fun K hK => ?_); go_big_quiet_op; refine hK _ ?_; clear hK K)
          | (refine AWq.skip rfl rfl rfl ?_; simp only [Act.put, List.setIfInBounds_toArray, List.set_cons_succ, List.set_cons_zero])
          | (refine AWq.opV (fun u W => ∃ q, w5.heap.size ≤ q ∧ u = .slice (some ⟨q, 0, none⟩) 0 0 ∧ Blk W q 44 #[]) (fun u a b he h => h.imp fun q h => ⟨h.1, h.2.1, h.2.2.ext he⟩) rfl rfl rfl rfl (fun wc hc => ?_) ?_; (· (have hcs := hc.size; clear hc; go_simp; dsimp only [Gives]; exact ⟨⟨_, hcs, rfl, Blk.new _ _ _⟩, Ext.alloc _ _⟩)))
          | (refine AWq.opQ (fun u W => W.ownsRow w5.heap.size 44 21 u (([] : List EntI)).length ((([] : List EntI)).map EntI.cells).flatten) (fun u a b he h => ownsRow_ext h he) rfl (fun a wc hc hl' => ⟨rfl, ?_⟩) ?_; (· (have e44 : ∃ q, w5.heap.size ≤ q ∧ a.tmps.getD 44 undef = .slice (some ⟨q, 0, none⟩) 0 0 ∧ Blk wc q 44 #[] := hl' 44 (of_decide_eq_true (by kernel_rfl)); have e46 : a.tmps.getD 46 undef = .slice none 0 0 := hl' 46 (of_decide_eq_true (by kernel_rfl)); obtain ⟨q, hq, e44, hbq⟩ := e44; obtain ⟨v', w', hr', hO, hX⟩ := app_empty (ty := 22) ent_elem hbq hq (src_row Tryd.underlying22 (ownsRow_ext HC5.out hc) (ent_coded.flat_one _)) HLc.out.1 HLc.out.2; exact gives_app (a := a) (s := .tmp 44) (x := .tmp 46) rfl e44 e46 hr' ⟨hO, hX⟩)))
          | (refine AWq.val rfl rfl rfl rfl (fun K hK => ?_); refine quiet_index_ent (k := k) rfl rfl rfl rfl hlt (hK _ ?_); clear hK K; simp only [Act.put, List.setIfInBounds_toArray, List.set_cons_succ, List.set_cons_zero])
          | (refine AWq.val rfl rfl rfl rfl (fun K hK => ?_); refine quiet_load_at rfl rfl (fun wc hwc => by obtain ⟨E, rfl⟩ := hwc; exact ent_loadVar hz.out (fun j v hv => (Ext.of_wext _ _).cell (HRx.out j v hv))) (hK _ ?_); clear hK K; simp only [Act.put, List.setIfInBounds_toArray, List.set_cons_succ, List.set_cons_zero])
          | (refine AWq.opQ (NewSl 44 arr 1 1) (fun v => NewSl.steady _ _ _ _ v) rfl (fun a wc hc hl' => ⟨rfl, ?_⟩) ?_; (· (have e51 : a.tmps.getD 51 undef = .agg arr := hl' 51 (of_decide_eq_true (by kernel_rfl)); exact gives_one (x := .tmp 51) rfl e51 hz.out))))
        refine AWq.tail rfl rfl rfl (fun w6 x6 => ?_)
        simp only [closeAny, Act.put, List.setIfInBounds_toArray, List.set_cons_succ, List.set_cons_zero]
        rintro y52 hy52 y47 hy47 y44 -
        have hx1 : ∀ u ∈ arr.toList, u.oneCell' = true := by rw [HAr.out]; exact ent_coded.one x
        obtain ⟨v7, w7, hrun7, hO7, hk7, _, _⟩ := app_row (ty := 22) ent_elem hy47 x6.size (src_new (sz := 21) Tryd.underlying22 hy52 (by rw [hz.out]) hx1) (by have := HLc.out.1; unfold maxLen at this ⊢; (try simp only [List.length_nil] at this ⊢); omega) (by have := HLc.out.2; (try simp only [List.length_nil] at this ⊢); omega)
        have HX7 : Hid (Ext w5 w7) := hk7.toExt x6 (fun q hq => (row_block hy47 q hq).1)
        obtain ⟨⟨a7, n7, c7⟩, rfl⟩ := slV_of hO7
        rw [show (⟨a7, n7, c7⟩ : SlV).val = .slice a7 n7 c7 from rfl] at hO7 hrun7
        have HO7 : Hid (w7.ownsRow 0 44 21 (.slice a7 n7 c7) ((([] : List EntI)) ++ [x]).length (((([] : List EntI)) ++ [x]).map EntI.cells).flatten) := by
          have := ownsRow_mono hO7 (Nat.zero_le _)
          rw [HAr.out] at this
          unfold Hid
          simpa using this
        clear hO7 hk7 hy47 hy52 x6 hx1
        have HB7 := hid (HB5.out.ext HX7.out)
        have b7 := HB7.out.cell (i := 0) (v := .slice none 0 0) rfl
        have k7 := HB7.out.lt
        have y7 := HB7.out.frozen 0
        have HB8 := hid (HB7.out.set 0 (.slice a7 n7 c7))
        have HK8 := hid (Keep.setCell (S := fun q => q = w.heap.size) (Keep.refl _ w7) (p := ⟨w.heap.size, 0, none⟩) (.inl rfl) (.slice a7 n7 c7))
        have HE8 := hid ((HE5.out.trans HX7.out).setCell' (p := ⟨w.heap.size, 0, none⟩) (Nat.le_refl _) (.slice a7 n7 c7))
        have HO8 := hid (ownsRow_keep (ownsRow_ext HO5.out HX7.out) HK8.out (fun q hq hS => by have := (row_block (ownsRow_ext HO5.out HX7.out) q hq).1; omega))
        have HC8 := hid (ownsRow_keep HO7.out HK8.out (fun q hq hS => row_apart HO7.out HB7.out (by decide) (by rw [← hS]; exact hq)))
        have HS8 := hid ((HS5.out.ext HX7.out).keepB HB7.out (by decide) HK8.out)
        clear HX7 HO7 HB7 HK8 HB5 HE5 HO5 HS5 c1 l1 HC5
        at_builtin
        refine wpList_app rfl (.tmp 47) (.tmp 52) _ _ rfl rfl rfl hrun7 ?_
        clear hrun7
        go_wp2_with fail
        go_roundw
        case rel => exact ⟨k + 1, _, ⟨a7, n7, c7⟩, _, _, _, _, rfl, by omega, by go_num, by go_num, HE8.out, HB8.out, HO8.out, HC8.out, HS8.out, HM.out⟩
        case measure => simp [intOf]; omega
      · have HM : Hid (foldC limit (l.take (k + 1)) = (done, cur ++ [x], n + sx)) := by
          unfold Hid
          rw [HN.out, if_neg]
          rintro ⟨q1, q2⟩
          rcases q2 with q2 | q2
          · exact hcut ⟨q1, q2⟩
          · omega
        have HRx := hid (fun q u hu => HE3.out.cell (HRw.out q u hu))
        have p3 : decide ((256 : Int) ≤ cur.length) = false := decide_eq_false (by omega)
        have p3' : decide (256 ≤ cur.length) = false := decide_eq_false (by omega)
        by_cases hq : 0 < cur.length
        · have p1 : decide ((0 : Int) < cur.length) = true := decide_eq_true (by omega)
          have p1' : decide (0 < cur.length) = true := decide_eq_true hq
          have p2 : decide (limit < (n : Int) + sx) = false := decide_eq_false fun h => hcut ⟨hq, h⟩
          clear hq hcut HN
          go_wp2_with fail
          refine wp_region_tail (pre := ?pre2) (tl := ?tl2) 9 ?hpre2 ?htl2 (of_decide_eq_true (by kernel_rfl)) (by kernel_rfl) (by kernel_rfl) (by kernel_rfl) (by kernel_rfl) ?_
          case hpre2 => (simp only [List.take_succ_cons, List.take_zero]; first | done | exact rfl)
          case htl2 => (simp only [List.drop_succ_cons, List.drop_zero]; first | done | exact rfl)
          repeat (first
            | (refine AWq.val rfl rfl rfl rfl (fun K hK => ?_); go_big_quiet_op; refine hK _ ?_; clear hK K)
            | (refine AWq.skip rfl rfl rfl ?_; simp only [Act.put, List.setIfInBounds_toArray, List.set_cons_succ, List.set_cons_zero])
            | (refine AWq.opV (fun u W => ∃ q, w3.heap.size ≤ q ∧ u = .slice (some ⟨q, 0, none⟩) 0 0 ∧ Blk W q 44 #[]) (fun u a b he h => h.imp fun q h => ⟨h.1, h.2.1, h.2.2.ext he⟩) rfl rfl rfl rfl (fun wc hc => ?_) ?_; (· (have hcs := hc.size; clear hc; go_simp; dsimp only [Gives]; exact ⟨⟨_, hcs, rfl, Blk.new _ _ _⟩, Ext.alloc _ _⟩)))
            | (refine AWq.opQ (fun u W => W.ownsRow w3.heap.size 44 21 u (cur).length ((cur).map EntI.cells).flatten) (fun u a b he h => ownsRow_ext h he) rfl (fun a wc hc hl' => ⟨rfl, ?_⟩) ?_; (· (have e44 : ∃ q, w3.heap.size ≤ q ∧ a.tmps.getD 44 undef = .slice (some ⟨q, 0, none⟩) 0 0 ∧ Blk wc q 44 #[] := hl' 44 (of_decide_eq_true (by kernel_rfl)); have e46 : a.tmps.getD 46 undef = .slice ca cur.length cc := hl' 46 (of_decide_eq_true (by kernel_rfl)); obtain ⟨q, hq, e44, hbq⟩ := e44; obtain ⟨v', w', hr', hO, hX⟩ := app_empty (ty := 22) ent_elem hbq hq (src_row Tryd.underlying22 (ownsRow_ext HC3.out hc) (ent_coded.flat_one _)) HLc.out.1 HLc.out.2; exact gives_app (a := a) (s := .tmp 44) (x := .tmp 46) rfl e44 e46 hr' ⟨hO, hX⟩)))
            | (refine AWq.val rfl rfl rfl rfl (fun K hK => ?_); refine quiet_index_ent (k := k) rfl rfl rfl rfl hlt (hK _ ?_); clear hK K; simp only [Act.put, List.setIfInBounds_toArray, List.set_cons_succ, List.set_cons_zero])
            | (refine AWq.val rfl rfl rfl rfl (fun K hK => ?_); refine quiet_load_at rfl rfl (fun wc hwc => by obtain ⟨E, rfl⟩ := hwc; exact ent_loadVar hz.out (fun j v hv => (Ext.of_wext _ _).cell (HRx.out j v hv))) (hK _ ?_); clear hK K; simp only [Act.put, List.setIfInBounds_toArray, List.set_cons_succ, List.set_cons_zero])
            | (refine AWq.opQ (NewSl 44 arr 1 1) (fun v => NewSl.steady _ _ _ _ v) rfl (fun a wc hc hl' => ⟨rfl, ?_⟩) ?_; (· (have e51 : a.tmps.getD 51 undef = .agg arr := hl' 51 (of_decide_eq_true (by kernel_rfl)); exact gives_one (x := .tmp 51) rfl e51 hz.out))))
          refine AWq.tail rfl rfl rfl (fun w6 x6 => ?_)
          simp only [closeAny, Act.put, List.setIfInBounds_toArray, List.set_cons_succ, List.set_cons_zero]
          rintro y52 hy52 y47 hy47 y44 -
          have hx1 : ∀ u ∈ arr.toList, u.oneCell' = true := by rw [HAr.out]; exact ent_coded.one x
          obtain ⟨v7, w7, hrun7, hO7, hk7, _, _⟩ := app_row (ty := 22) ent_elem hy47 x6.size (src_new (sz := 21) Tryd.underlying22 hy52 (by rw [hz.out]) hx1) (by have := HLc.out.1; unfold maxLen at this ⊢; (try simp only [List.length_nil] at this ⊢); omega) (by have := HLc.out.2; (try simp only [List.length_nil] at this ⊢); omega)
          have HX7 : Hid (Ext w3 w7) := hk7.toExt x6 (fun q hq => (row_block hy47 q hq).1)
          obtain ⟨⟨a7, n7, c7⟩, rfl⟩ := slV_of hO7
          rw [show (⟨a7, n7, c7⟩ : SlV).val = .slice a7 n7 c7 from rfl] at hO7 hrun7
          have HO7 : Hid (w7.ownsRow 0 44 21 (.slice a7 n7 c7) ((cur) ++ [x]).length (((cur) ++ [x]).map EntI.cells).flatten) := by
            have := ownsRow_mono hO7 (Nat.zero_le _)
            rw [HAr.out] at this
            unfold Hid
            simpa using this
          clear hO7 hk7 hy47 hy52 x6 hx1
          have HB7 := hid (HB3.out.ext HX7.out)
          have b7 := HB7.out.cell (i := 0) (v := .slice ca cur.length cc) rfl
          have k7 := HB7.out.lt
          have y7 := HB7.out.frozen 0
          have HB8 := hid (HB7.out.set 0 (.slice a7 n7 c7))
          have HK8 := hid (Keep.setCell (S := fun q => q = w.heap.size) (Keep.refl _ w7) (p := ⟨w.heap.size, 0, none⟩) (.inl rfl) (.slice a7 n7 c7))
          have HE8 := hid ((HE3.out.trans HX7.out).setCell' (p := ⟨w.heap.size, 0, none⟩) (Nat.le_refl _) (.slice a7 n7 c7))
          have HO8 := hid (ownsRow_keep (ownsRow_ext HR3.out HX7.out) HK8.out (fun q hq hS => by have := (row_block (ownsRow_ext HR3.out HX7.out) q hq).1; omega))
          have HC8 := hid (ownsRow_keep HO7.out HK8.out (fun q hq hS => row_apart HO7.out HB7.out (by decide) (by rw [← hS]; exact hq)))
          have HS8 := hid ((HS3.out.ext HX7.out).keepB HB7.out (by decide) HK8.out)
          clear HX7 HO7 HB7 HK8 HB3 HE3 HR3 HS3 c1 l1 HC3
          at_builtin
          refine wpList_app rfl (.tmp 47) (.tmp 52) _ _ rfl rfl rfl hrun7 ?_
          clear hrun7
          go_wp2_with fail
          go_roundw
          case rel => exact ⟨k + 1, _, ⟨a7, n7, c7⟩, _, _, _, _, rfl, by omega, by go_num, by go_num, HE8.out, HB8.out, HO8.out, HC8.out, HS8.out, HM.out⟩
          case measure => simp [intOf]; omega
        · have p1 : decide ((0 : Int) < cur.length) = false := decide_eq_false (by omega)
          have p1' : decide (0 < cur.length) = false := decide_eq_false hq
          clear hq hcut HN
          go_wp2_with fail
          refine wp_region_tail (pre := ?pre3) (tl := ?tl3) 9 ?hpre3 ?htl3 (of_decide_eq_true (by kernel_rfl)) (by kernel_rfl) (by kernel_rfl) (by kernel_rfl) (by kernel_rfl) ?_
          case hpre3 => (simp only [List.take_succ_cons, List.take_zero]; first | done | exact rfl)
          case htl3 => (simp only [List.drop_succ_cons, List.drop_zero]; first | done | exact rfl)
          repeat (first
            | (refine AWq.val rfl rfl rfl rfl (fun K hK => ?_); go_big_quiet_op; refine hK _ ?_; clear hK K)
            | (refine AWq.skip rfl rfl rfl ?_; simp only [Act.put, List.setIfInBounds_toArray, List.set_cons_succ, List.set_cons_zero])
            | (refine AWq.opV (fun u W => ∃ q, w3.heap.size ≤ q ∧ u = .slice (some ⟨q, 0, none⟩) 0 0 ∧ Blk W q 44 #[]) (fun u a b he h => h.imp fun q h => ⟨h.1, h.2.1, h.2.2.ext he⟩) rfl rfl rfl rfl (fun wc hc => ?_) ?_; (· (have hcs := hc.size; clear hc; go_simp; dsimp only [Gives]; exact ⟨⟨_, hcs, rfl, Blk.new _ _ _⟩, Ext.alloc _ _⟩)))
            | (refine AWq.opQ (fun u W => W.ownsRow w3.heap.size 44 21 u (cur).length ((cur).map EntI.cells).flatten) (fun u a b he h => ownsRow_ext h he) rfl (fun a wc hc hl' => ⟨rfl, ?_⟩) ?_; (· (have e44 : ∃ q, w3.heap.size ≤ q ∧ a.tmps.getD 44 undef = .slice (some ⟨q, 0, none⟩) 0 0 ∧ Blk wc q 44 #[] := hl' 44 (of_decide_eq_true (by kernel_rfl)); have e46 : a.tmps.getD 46 undef = .slice ca cur.length cc := hl' 46 (of_decide_eq_true (by kernel_rfl)); obtain ⟨q, hq, e44, hbq⟩ := e44; obtain ⟨v', w', hr', hO, hX⟩ := app_empty (ty := 22) ent_elem hbq hq (src_row Tryd.underlying22 (ownsRow_ext HC3.out hc) (ent_coded.flat_one _)) HLc.out.1 HLc.out.2; exact gives_app (a := a) (s := .tmp 44) (x := .tmp 46) rfl e44 e46 hr' ⟨hO, hX⟩)))
            | (refine AWq.val rfl rfl rfl rfl (fun K hK => ?_); refine quiet_index_ent (k := k) rfl rfl rfl rfl hlt (hK _ ?_); clear hK K; simp only [Act.put, List.setIfInBounds_toArray, List.set_cons_succ, List.set_cons_zero])
            | (refine AWq.val rfl rfl rfl rfl (fun K hK => ?_); refine quiet_load_at rfl rfl (fun wc hwc => by obtain ⟨E, rfl⟩ := hwc; exact ent_loadVar hz.out (fun j v hv => (Ext.of_wext _ _).cell (HRx.out j v hv))) (hK _ ?_); clear hK K; simp only [Act.put, List.setIfInBounds_toArray, List.set_cons_succ, List.set_cons_zero])
            | (refine AWq.opQ (NewSl 44 arr 1 1) (fun v => NewSl.steady _ _ _ _ v) rfl (fun a wc hc hl' => ⟨rfl, ?_⟩) ?_; (· (have e51 : a.tmps.getD 51 undef = .agg arr := hl' 51 (of_decide_eq_true (by kernel_rfl)); exact gives_one (x := .tmp 51) rfl e51 hz.out))))
          refine AWq.tail rfl rfl rfl (fun w6 x6 => ?_)
          simp only [closeAny, Act.put, List.setIfInBounds_toArray, List.set_cons_succ, List.set_cons_zero]
          rintro y52 hy52 y47 hy47 y44 -
          have hx1 : ∀ u ∈ arr.toList, u.oneCell' = true := by rw [HAr.out]; exact ent_coded.one x
          obtain ⟨v7, w7, hrun7, hO7, hk7, _, _⟩ := app_row (ty := 22) ent_elem hy47 x6.size (src_new (sz := 21) Tryd.underlying22 hy52 (by rw [hz.out]) hx1) (by have := HLc.out.1; unfold maxLen at this ⊢; (try simp only [List.length_nil] at this ⊢); omega) (by have := HLc.out.2; (try simp only [List.length_nil] at this ⊢); omega)
          have HX7 : Hid (Ext w3 w7) := hk7.toExt x6 (fun q hq => (row_block hy47 q hq).1)
          obtain ⟨⟨a7, n7, c7⟩, rfl⟩ := slV_of hO7
          rw [show (⟨a7, n7, c7⟩ : SlV).val = .slice a7 n7 c7 from rfl] at hO7 hrun7
          have HO7 : Hid (w7.ownsRow 0 44 21 (.slice a7 n7 c7) ((cur) ++ [x]).length (((cur) ++ [x]).map EntI.cells).flatten) := by
            have := ownsRow_mono hO7 (Nat.zero_le _)
            rw [HAr.out] at this
            unfold Hid
            simpa using this
          clear hO7 hk7 hy47 hy52 x6 hx1
          have HB7 := hid (HB3.out.ext HX7.out)
          have b7 := HB7.out.cell (i := 0) (v := .slice ca cur.length cc) rfl
          have k7 := HB7.out.lt
          have y7 := HB7.out.frozen 0
          have HB8 := hid (HB7.out.set 0 (.slice a7 n7 c7))
          have HK8 := hid (Keep.setCell (S := fun q => q = w.heap.size) (Keep.refl _ w7) (p := ⟨w.heap.size, 0, none⟩) (.inl rfl) (.slice a7 n7 c7))
          have HE8 := hid ((HE3.out.trans HX7.out).setCell' (p := ⟨w.heap.size, 0, none⟩) (Nat.le_refl _) (.slice a7 n7 c7))
          have HO8 := hid (ownsRow_keep (ownsRow_ext HR3.out HX7.out) HK8.out (fun q hq hS => by have := (row_block (ownsRow_ext HR3.out HX7.out) q hq).1; omega))
          have HC8 := hid (ownsRow_keep HO7.out HK8.out (fun q hq hS => row_apart HO7.out HB7.out (by decide) (by rw [← hS]; exact hq)))
          have HS8 := hid ((HS3.out.ext HX7.out).keepB HB7.out (by decide) HK8.out)
          clear HX7 HO7 HB7 HK8 HB3 HE3 HR3 HS3 c1 l1 HC3
          at_builtin
          refine wpList_app rfl (.tmp 47) (.tmp 52) _ _ rfl rfl rfl hrun7 ?_
          clear hrun7
          go_wp2_with fail
          go_roundw
          case rel => exact ⟨k + 1, _, ⟨a7, n7, c7⟩, _, _, _, _, rfl, by omega, by go_num, by go_num, HE8.out, HB8.out, HO8.out, HC8.out, HS8.out, HM.out⟩
          case measure => simp [intOf]; omega
    · obtain rfl : k = l.length := by omega
      rw [List.take_length] at hF
      have e1 : decide ((l.length : Int) < l.length) = false := decide_eq_false (by omega)
      have e1' : decide (l.length < l.length) = false := decide_eq_false (by omega)
      have c1 := hB.out.cell (i := 0) (v := .slice ca cur.length cc) rfl
      have l1 := hB.out.lt
      have HXa := hid (Ext.alloc wr (.cells #[.slice ca cur.length cc] 32))
      obtain ⟨v', w4, hrun, hO4, hk4, _, _⟩ := app_row (ty := 29) bt_elem (ownsRow_ext hR.out HXa.out) (by have := HXa.out.size; omega) (src_new (n := 1) (c := 1) Tryd.underlying29 ⟨_, rfl, Blk.new wr 32 #[.slice ca cur.length cc]⟩ rfl (by simp [Value.oneCell'])) (by unfold maxLen; omega) (by omega)
      have hrow := row_block hR.out
      have HC4 := hid (ownsRow_keep (ownsRow_ext hC.out HXa.out) hk4 (fun q hq => rows_apart (ownsRow_ext hC.out HXa.out) (ownsRow_ext hR.out HXa.out) (by decide) q hq))
      have HS4 := hid ((hS.out.ext HXa.out).keep (ownsRow_ext hR.out HXa.out) (by decide) hk4)
      have HE4 : Hid (Ext w w4) := hk4.toExt (hE.out.trans HXa.out) (fun q hq => by have := (hrow q hq).1; omega)
      have HO4 := hid hO4
      have HFn := hid hF.out
      clear hk4 hO4 hrow hR hC hS hE hB HXa hF H3 HSz HOk HLc
      go_wp2_with (at_builtin; refine wpList_app rfl (.tmp 58) (.tmp 60) _ _ rfl rfl rfl hrun ?_)
      go_ret
      refine ⟨_, rfl, ⟨vs ++ [⟨ca, cur.length, cc⟩], sl_of_row (e := 32) (base := w.heap.size + 1) (slv_coded.sizes _) ?_, ?_⟩, HE4.out⟩
      · rw [List.length_map]
        have := HO4.out
        simpa [SlV.cells] using this
      · have hc : cutL limit l = done ++ [cur] := by unfold cutL; rw [HFn.out]
        rw [hc]
        exact (HS4.out.snoc HC4.out).segs
end Go.Proofs.YtanflgipdiogaaaDoor
