/-
  Package iset: keep with its closures; Put, Join, Within, Same; lighteragelaw14.few and awake.
-/
import Derived.Test.YtefgjkaoidifbaaIsA
namespace Go.Proofs.Ytefgjkaoidifbaa
set_option linter.unusedSimpArgs false
set_option linter.unusedVariables false
open Go.RowKit

theorem filter_succ {α : Type} (p : α → Bool) (l : List α) (k : Nat) (h : k < l.length) : (l.take (k + 1)).filter p = (l.take k).filter p ++ (if p l[k] then [l[k]] else []) := by
  rw [List.take_succ_eq_append_getElem h, List.filter_append]
  cases hp : p l[k] with
  | true => rw [List.filter_cons_of_pos hp]; simp
  | false => rw [List.filter_cons_of_neg (by simp [hp])]; simp

set_option maxHeartbeats 400000 in
theorem drop1_c (w : World) (q : Nat) (x y : Ver) (h : Blk w q 44 #[.int .i64 x.by_, .int .i64 x.n]) : Calls Try.prog 64 #[y.val, .pointer (some ⟨q, 0, none⟩)] w (Ret (.bool (!eq2 y.by_ y.n x.by_ x.n)) w) := by
  have c0 := h.cell (i := 0) (v := .int .i64 x.by_) rfl
  have c1 := h.cell (i := 1) (v := .int .i64 x.n) rfl
  have lq := h.lt
  clear h
  unfold Ver.val
  go_enter Try.func64, Try.ntmps64
  go_wp2_with fail
  go_ret
  exact ⟨rfl, Ext.alloc _ _⟩
set_option maxHeartbeats 400000 in
theorem meet1_c (w : World) (q : Nat) (u : Value) (b : List Ver) (y : Ver) (h : Blk w q 42 #[u]) (hb : Sl w 2 u (b.map Ver.cells)) : Calls Try.prog 68 #[y.val, .pointer (some ⟨q, 0, none⟩)] w (Ret (.bool (hasV b y)) w) := by
  have c0 := h.cell (i := 0) (v := u) rfl
  have lq := h.lt
  have HF := fun W (hW : Ext w W) => hid (has_c W u b y (hb.ext hW))
  obtain ⟨A, c, rfl, _⟩ := sl_get hb
  clear h hb
  unfold Ver.val at *
  generalize hasV b y = r at *
  go_enter Try.func68, Try.ntmps68
  go_wp2_with (go_at_call 32; refine (HF _ (Ext.alloc _ _)).out.mono ?_; rintro e w' ⟨rfl, hx⟩)
  go_ret
  exact ⟨rfl, (Ext.alloc _ _).trans hx⟩
set_option maxHeartbeats 400000 in
theorem minus1_c (w : World) (q : Nat) (u : Value) (b : List Ver) (y : Ver) (h : Blk w q 42 #[u]) (hb : Sl w 2 u (b.map Ver.cells)) : Calls Try.prog 69 #[y.val, .pointer (some ⟨q, 0, none⟩)] w (Ret (.bool (!hasV b y)) w) := by
  have c0 := h.cell (i := 0) (v := u) rfl
  have lq := h.lt
  have HF := fun W (hW : Ext w W) => hid (has_c W u b y (hb.ext hW))
  obtain ⟨A, c, rfl, _⟩ := sl_get hb
  clear h hb
  unfold Ver.val at *
  generalize hasV b y = r at *
  go_enter Try.func69, Try.ntmps69
  go_wp2_with (go_at_call 32; refine (HF _ (Ext.alloc _ _)).out.mono ?_; rintro e w' ⟨rfl, hx⟩)
  go_ret
  exact ⟨rfl, (Ext.alloc _ _).trans hx⟩

set_option maxRecDepth 100000 in
set_option maxHeartbeats 2000000 in
theorem keep_drop (w : World) (v : Value) (a : List Ver) (q : Nat) (p : Ver → Bool) (h : Sl w 2 v (a.map Ver.cells)) (hl : a.length ≤ 100000) (HP : ∀ W, Ext w W → ∀ x : Ver, Hid (Calls Try.prog 64 #[x.val, .pointer (some ⟨q, 0, none⟩)] W (Ret (.bool (p x)) W))) :
    Calls Try.prog 63 #[v, .func (.func 64) #[] #[.pointer (some ⟨q, 0, none⟩)]] w (RetQ (RowAt Ver.cells 2 (setL Ver.lt (a.filter p))) w) := by
  obtain ⟨A, c, rfl, h1, h2, h3⟩ := sl_get h
  unfold maxLen at h2
  clear h
  go_enter Try.func63, Try.ntmps63
  go_wp2_with fail
  go_loopw [5, 10] (fun v i wr => ∃ k : Nat, k ≤ a.length ∧ i = .int .i64 k ∧ Ext w wr ∧ wr.ownsRow w.heap.size 44 2 v ((a.take k).filter p).length (((a.take k).filter p).map Ver.cells).flatten) (fun _ i _ => a.length - (intOf i).toNat)
  case atStart => exact ⟨0, by omega, rfl, Ext.refl _, ownsRow_nil _ _ _ _⟩
  case round =>
    obtain ⟨k, hk, rfl, hE, hO⟩ := hrel
    by_cases hlt : k < a.length
    · obtain ⟨b', o, rfl, lb, hcell⟩ := h3 (by omega)
      have c0 := hE.cell (hcell k hlt 0 _ rfl)
      have c1 := hE.cell (hcell k hlt 1 _ rfl)
      rw [Nat.add_zero] at c0
      have lbr := Nat.lt_of_lt_of_le lb hE.size
      have HC := fun W (hW : Ext wr W) => HP W (hE.trans hW) a[k]
      have HS := hid (filter_succ p a k hlt)
      have HL : Hid (((a.take k).filter p).length ≤ 1000000) := by
        have h2 := List.length_filter_le p (a.take k)
        rw [List.length_take] at h2
        unfold Hid
        omega
      have HE := hid hE
      have HO := hid hO
      clear hE hO hcell h3 HP
      generalize a[k] = z at c0 c1 HC HS
      generalize (a.take k).filter p = acc at HS HL HO
      unfold Ver.val at HC
      cases hz : p z with
      | true =>
        rw [hz] at HC HS
        go_wp2_with fail
        refine (HC _ (Ext.alloc _ _)).out.mono ?_
        rintro e w' ⟨rfl, hx⟩
        have hE1 := (Ext.alloc wr (.cells #[.int .i64 z.by_, .int .i64 z.n] 44)).trans hx
        have hb := (Blk.new wr 44 #[.int .i64 z.by_, .int .i64 z.n]).ext hx
        have d0 := hb.cell (i := 0) (v := .int .i64 z.by_) rfl
        have d1 := hb.cell (i := 1) (v := .int .i64 z.n) rfl
        have lh := hb.lt
        have HE1 := hid hE1
        obtain ⟨v', w2, hrun, ho2, hk2, _⟩ := app_one (P := Try.prog) ver_elem ver_coded (ownsRow_ext HO.out hE1) (HE.out.trans hE1).size z HL.out (by omega)
        unfold Ver.cells at hrun
        have HO2 := hid ho2
        have HE2 : Hid (Ext w w2) := hk2.toExt (HE.out.trans hE1) (fun q hq => (row_block HO.out q hq).1)
        clear hE1 hb ho2 hk2 hx
        go_wp2_with (at_builtin; refine wpList_app rfl (.tmp 17) (.tmp 19) _ _ rfl rfl rfl hrun ?_)
        go_roundw
        case rel => exact ⟨k + 1, by omega, by go_num, HE2.out, by rw [HS.out, if_pos trivial]; exact HO2.out⟩
        case measure => simp [intOf]; omega
      | false =>
        rw [hz] at HC HS
        go_wp2_with fail
        refine (HC _ (Ext.alloc _ _)).out.mono ?_
        rintro e w' ⟨rfl, hx⟩
        have HX := hid hx
        clear hx
        go_wp2_with fail
        go_roundw
        case rel => exact ⟨k + 1, by omega, by go_num, HE.out.trans ((Ext.alloc _ _).trans HX.out), by rw [HS.out, if_neg (by simp), List.append_nil]; exact ownsRow_ext HO.out ((Ext.alloc _ _).trans HX.out)⟩
        case measure => simp [intOf]; omega
    · obtain rfl : k = a.length := by omega
      rw [List.take_length] at hO
      have HL : (a.filter p).length ≤ 1000000 := Nat.le_trans (List.length_filter_le p a) (by omega)
      have HS := hid (vsort_c wr u5 (a.filter p) (by
        have := sl_of_row (xs := (a.filter p).map Ver.cells) (ver_coded.sizes _) (by rw [List.length_map]; exact hO)
        exact this) HL)
      have HE := hid hE
      clear hE hO h3 HP
      go_wp2_with (first
        | (go_at_call 31; go_in)
        | (go_at_call 65; refine (HS.out).mono ?_; rintro e w' ⟨v', rfl, hv', hx⟩; have HV := hid hv'; have HX := hid hx; clear hv' hx))
      go_ret
      exact ⟨_, rfl, HV.out, HE.out.trans HX.out⟩
set_option maxRecDepth 100000 in
set_option maxHeartbeats 2000000 in
theorem keep_meet (w : World) (v : Value) (a : List Ver) (q : Nat) (p : Ver → Bool) (h : Sl w 2 v (a.map Ver.cells)) (hl : a.length ≤ 100000) (HP : ∀ W, Ext w W → ∀ x : Ver, Hid (Calls Try.prog 68 #[x.val, .pointer (some ⟨q, 0, none⟩)] W (Ret (.bool (p x)) W))) :
    Calls Try.prog 63 #[v, .func (.func 68) #[] #[.pointer (some ⟨q, 0, none⟩)]] w (RetQ (RowAt Ver.cells 2 (setL Ver.lt (a.filter p))) w) := by
  obtain ⟨A, c, rfl, h1, h2, h3⟩ := sl_get h
  unfold maxLen at h2
  clear h
  go_enter Try.func63, Try.ntmps63
  go_wp2_with fail
  go_loopw [5, 10] (fun v i wr => ∃ k : Nat, k ≤ a.length ∧ i = .int .i64 k ∧ Ext w wr ∧ wr.ownsRow w.heap.size 44 2 v ((a.take k).filter p).length (((a.take k).filter p).map Ver.cells).flatten) (fun _ i _ => a.length - (intOf i).toNat)
  case atStart => exact ⟨0, by omega, rfl, Ext.refl _, ownsRow_nil _ _ _ _⟩
  case round =>
    obtain ⟨k, hk, rfl, hE, hO⟩ := hrel
    by_cases hlt : k < a.length
    · obtain ⟨b', o, rfl, lb, hcell⟩ := h3 (by omega)
      have c0 := hE.cell (hcell k hlt 0 _ rfl)
      have c1 := hE.cell (hcell k hlt 1 _ rfl)
      rw [Nat.add_zero] at c0
      have lbr := Nat.lt_of_lt_of_le lb hE.size
      have HC := fun W (hW : Ext wr W) => HP W (hE.trans hW) a[k]
      have HS := hid (filter_succ p a k hlt)
      have HL : Hid (((a.take k).filter p).length ≤ 1000000) := by
        have h2 := List.length_filter_le p (a.take k)
        rw [List.length_take] at h2
        unfold Hid
        omega
      have HE := hid hE
      have HO := hid hO
      clear hE hO hcell h3 HP
      generalize a[k] = z at c0 c1 HC HS
      generalize (a.take k).filter p = acc at HS HL HO
      unfold Ver.val at HC
      cases hz : p z with
      | true =>
        rw [hz] at HC HS
        go_wp2_with fail
        refine (HC _ (Ext.alloc _ _)).out.mono ?_
        rintro e w' ⟨rfl, hx⟩
        have hE1 := (Ext.alloc wr (.cells #[.int .i64 z.by_, .int .i64 z.n] 44)).trans hx
        have hb := (Blk.new wr 44 #[.int .i64 z.by_, .int .i64 z.n]).ext hx
        have d0 := hb.cell (i := 0) (v := .int .i64 z.by_) rfl
        have d1 := hb.cell (i := 1) (v := .int .i64 z.n) rfl
        have lh := hb.lt
        have HE1 := hid hE1
        obtain ⟨v', w2, hrun, ho2, hk2, _⟩ := app_one (P := Try.prog) ver_elem ver_coded (ownsRow_ext HO.out hE1) (HE.out.trans hE1).size z HL.out (by omega)
        unfold Ver.cells at hrun
        have HO2 := hid ho2
        have HE2 : Hid (Ext w w2) := hk2.toExt (HE.out.trans hE1) (fun q hq => (row_block HO.out q hq).1)
        clear hE1 hb ho2 hk2 hx
        go_wp2_with (at_builtin; refine wpList_app rfl (.tmp 17) (.tmp 19) _ _ rfl rfl rfl hrun ?_)
        go_roundw
        case rel => exact ⟨k + 1, by omega, by go_num, HE2.out, by rw [HS.out, if_pos trivial]; exact HO2.out⟩
        case measure => simp [intOf]; omega
      | false =>
        rw [hz] at HC HS
        go_wp2_with fail
        refine (HC _ (Ext.alloc _ _)).out.mono ?_
        rintro e w' ⟨rfl, hx⟩
        have HX := hid hx
        clear hx
        go_wp2_with fail
        go_roundw
        case rel => exact ⟨k + 1, by omega, by go_num, HE.out.trans ((Ext.alloc _ _).trans HX.out), by rw [HS.out, if_neg (by simp), List.append_nil]; exact ownsRow_ext HO.out ((Ext.alloc _ _).trans HX.out)⟩
        case measure => simp [intOf]; omega
    · obtain rfl : k = a.length := by omega
      rw [List.take_length] at hO
      have HL : (a.filter p).length ≤ 1000000 := Nat.le_trans (List.length_filter_le p a) (by omega)
      have HS := hid (vsort_c wr u5 (a.filter p) (by
        have := sl_of_row (xs := (a.filter p).map Ver.cells) (ver_coded.sizes _) (by rw [List.length_map]; exact hO)
        exact this) HL)
      have HE := hid hE
      clear hE hO h3 HP
      go_wp2_with (first
        | (go_at_call 31; go_in)
        | (go_at_call 65; refine (HS.out).mono ?_; rintro e w' ⟨v', rfl, hv', hx⟩; have HV := hid hv'; have HX := hid hx; clear hv' hx))
      go_ret
      exact ⟨_, rfl, HV.out, HE.out.trans HX.out⟩
set_option maxRecDepth 100000 in
set_option maxHeartbeats 2000000 in
theorem keep_minus (w : World) (v : Value) (a : List Ver) (q : Nat) (p : Ver → Bool) (h : Sl w 2 v (a.map Ver.cells)) (hl : a.length ≤ 100000) (HP : ∀ W, Ext w W → ∀ x : Ver, Hid (Calls Try.prog 69 #[x.val, .pointer (some ⟨q, 0, none⟩)] W (Ret (.bool (p x)) W))) :
    Calls Try.prog 63 #[v, .func (.func 69) #[] #[.pointer (some ⟨q, 0, none⟩)]] w (RetQ (RowAt Ver.cells 2 (setL Ver.lt (a.filter p))) w) := by
  obtain ⟨A, c, rfl, h1, h2, h3⟩ := sl_get h
  unfold maxLen at h2
  clear h
  go_enter Try.func63, Try.ntmps63
  go_wp2_with fail
  go_loopw [5, 10] (fun v i wr => ∃ k : Nat, k ≤ a.length ∧ i = .int .i64 k ∧ Ext w wr ∧ wr.ownsRow w.heap.size 44 2 v ((a.take k).filter p).length (((a.take k).filter p).map Ver.cells).flatten) (fun _ i _ => a.length - (intOf i).toNat)
  case atStart => exact ⟨0, by omega, rfl, Ext.refl _, ownsRow_nil _ _ _ _⟩
  case round =>
    obtain ⟨k, hk, rfl, hE, hO⟩ := hrel
    by_cases hlt : k < a.length
    · obtain ⟨b', o, rfl, lb, hcell⟩ := h3 (by omega)
      have c0 := hE.cell (hcell k hlt 0 _ rfl)
      have c1 := hE.cell (hcell k hlt 1 _ rfl)
      rw [Nat.add_zero] at c0
      have lbr := Nat.lt_of_lt_of_le lb hE.size
      have HC := fun W (hW : Ext wr W) => HP W (hE.trans hW) a[k]
      have HS := hid (filter_succ p a k hlt)
      have HL : Hid (((a.take k).filter p).length ≤ 1000000) := by
        have h2 := List.length_filter_le p (a.take k)
        rw [List.length_take] at h2
        unfold Hid
        omega
      have HE := hid hE
      have HO := hid hO
      clear hE hO hcell h3 HP
      generalize a[k] = z at c0 c1 HC HS
      generalize (a.take k).filter p = acc at HS HL HO
      unfold Ver.val at HC
      cases hz : p z with
      | true =>
        rw [hz] at HC HS
        go_wp2_with fail
        refine (HC _ (Ext.alloc _ _)).out.mono ?_
        rintro e w' ⟨rfl, hx⟩
        have hE1 := (Ext.alloc wr (.cells #[.int .i64 z.by_, .int .i64 z.n] 44)).trans hx
        have hb := (Blk.new wr 44 #[.int .i64 z.by_, .int .i64 z.n]).ext hx
        have d0 := hb.cell (i := 0) (v := .int .i64 z.by_) rfl
        have d1 := hb.cell (i := 1) (v := .int .i64 z.n) rfl
        have lh := hb.lt
        have HE1 := hid hE1
        obtain ⟨v', w2, hrun, ho2, hk2, _⟩ := app_one (P := Try.prog) ver_elem ver_coded (ownsRow_ext HO.out hE1) (HE.out.trans hE1).size z HL.out (by omega)
        unfold Ver.cells at hrun
        have HO2 := hid ho2
        have HE2 : Hid (Ext w w2) := hk2.toExt (HE.out.trans hE1) (fun q hq => (row_block HO.out q hq).1)
        clear hE1 hb ho2 hk2 hx
        go_wp2_with (at_builtin; refine wpList_app rfl (.tmp 17) (.tmp 19) _ _ rfl rfl rfl hrun ?_)
        go_roundw
        case rel => exact ⟨k + 1, by omega, by go_num, HE2.out, by rw [HS.out, if_pos trivial]; exact HO2.out⟩
        case measure => simp [intOf]; omega
      | false =>
        rw [hz] at HC HS
        go_wp2_with fail
        refine (HC _ (Ext.alloc _ _)).out.mono ?_
        rintro e w' ⟨rfl, hx⟩
        have HX := hid hx
        clear hx
        go_wp2_with fail
        go_roundw
        case rel => exact ⟨k + 1, by omega, by go_num, HE.out.trans ((Ext.alloc _ _).trans HX.out), by rw [HS.out, if_neg (by simp), List.append_nil]; exact ownsRow_ext HO.out ((Ext.alloc _ _).trans HX.out)⟩
        case measure => simp [intOf]; omega
    · obtain rfl : k = a.length := by omega
      rw [List.take_length] at hO
      have HL : (a.filter p).length ≤ 1000000 := Nat.le_trans (List.length_filter_le p a) (by omega)
      have HS := hid (vsort_c wr u5 (a.filter p) (by
        have := sl_of_row (xs := (a.filter p).map Ver.cells) (ver_coded.sizes _) (by rw [List.length_map]; exact hO)
        exact this) HL)
      have HE := hid hE
      clear hE hO h3 HP
      go_wp2_with (first
        | (go_at_call 31; go_in)
        | (go_at_call 65; refine (HS.out).mono ?_; rintro e w' ⟨v', rfl, hv', hx⟩; have HV := hid hv'; have HX := hid hx; clear hv' hx))
      go_ret
      exact ⟨_, rfl, HV.out, HE.out.trans HX.out⟩

set_option maxHeartbeats 400000 in
theorem drop_c (w : World) (v : Value) (a : List Ver) (x : Ver) (h : Sl w 2 v (a.map Ver.cells)) (hl : a.length ≤ 100000) : Calls Try.prog 28 #[v, x.val] w (RetQ (RowAt Ver.cells 2 (minusV a [x])) w) := by
  have e : minusV a [x] = setL Ver.lt (a.filter fun y => !eq2 y.by_ y.n x.by_ x.n) := by
    unfold minusV
    congr 2
    funext y
    congr 1
    rw [Bool.eq_iff_iff, eq2_iff]
    simp [hasV]
  rw [e]
  have HK := hid (keep_drop (w.alloc (.cells #[.int .i64 x.by_, .int .i64 x.n] 44)) v a w.heap.size (fun y => !eq2 y.by_ y.n x.by_ x.n) (h.ext (Ext.alloc _ _)) hl (fun W hW y => hid (drop1_c W w.heap.size x y ((Blk.new w _ _).ext hW))))
  generalize setL Ver.lt (a.filter fun y => !eq2 y.by_ y.n x.by_ x.n) = r at HK ⊢
  clear h e
  unfold Ver.val
  go_enter Try.func28, Try.ntmps28
  go_wp2_with (go_at_call 63; refine (HK.out).mono ?_; rintro e w' ⟨v', rfl, hv', hx⟩)
  go_ret
  exact ⟨_, rfl, hv', (Ext.alloc _ _).trans hx⟩
set_option maxHeartbeats 400000 in
theorem meet_c (w : World) (v u : Value) (a b : List Ver) (h : Sl w 2 v (a.map Ver.cells)) (hb : Sl w 2 u (b.map Ver.cells)) (hl : a.length ≤ 100000) : Calls Try.prog 37 #[v, u] w (RetQ (RowAt Ver.cells 2 (meetV a b)) w) := by
  have HK := hid (keep_meet (w.alloc (.cells #[u] 42)) v a w.heap.size (fun y => hasV b y) (h.ext (Ext.alloc _ _)) hl (fun W hW y => hid (meet1_c W w.heap.size u b y ((Blk.new w _ _).ext hW) ((hb.ext (Ext.alloc _ _)).ext hW))))
  unfold meetV
  generalize setL Ver.lt (a.filter fun y => hasV b y) = r at HK ⊢
  obtain ⟨A, c, rfl, _⟩ := sl_get hb
  clear h hb
  go_enter Try.func37, Try.ntmps37
  go_wp2_with (go_at_call 63; refine (HK.out).mono ?_; rintro e w' ⟨v', rfl, hv', hx⟩)
  go_ret
  exact ⟨_, rfl, hv', (Ext.alloc _ _).trans hx⟩
set_option maxHeartbeats 400000 in
theorem minus_c (w : World) (v u : Value) (a b : List Ver) (h : Sl w 2 v (a.map Ver.cells)) (hb : Sl w 2 u (b.map Ver.cells)) (hl : a.length ≤ 100000) : Calls Try.prog 39 #[v, u] w (RetQ (RowAt Ver.cells 2 (minusV a b)) w) := by
  have HK := hid (keep_minus (w.alloc (.cells #[u] 42)) v a w.heap.size (fun y => !hasV b y) (h.ext (Ext.alloc _ _)) hl (fun W hW y => hid (minus1_c W w.heap.size u b y ((Blk.new w _ _).ext hW) ((hb.ext (Ext.alloc _ _)).ext hW))))
  unfold minusV
  generalize setL Ver.lt (a.filter fun y => !hasV b y) = r at HK ⊢
  obtain ⟨A, c, rfl, _⟩ := sl_get hb
  clear h hb
  go_enter Try.func39, Try.ntmps39
  go_wp2_with (go_at_call 63; refine (HK.out).mono ?_; rintro e w' ⟨v', rfl, hv', hx⟩)
  go_ret
  exact ⟨_, rfl, hv', (Ext.alloc _ _).trans hx⟩

def within (a b : List Ver) : Bool := ((minusV a b).length : Int) == 0
set_option maxHeartbeats 400000 in
theorem within_c (w : World) (v u : Value) (a b : List Ver) (h : Sl w 2 v (a.map Ver.cells)) (hb : Sl w 2 u (b.map Ver.cells)) (hl : a.length ≤ 100000) : Calls Try.prog 40 #[v, u] w (Ret (.bool (within a b)) w) := by
  have HK := hid (minus_c w v u a b h hb hl)
  unfold within
  obtain ⟨A, c, rfl, _⟩ := sl_get hb
  obtain ⟨A', c', rfl, _⟩ := sl_get h
  generalize minusV a b = r at HK ⊢
  clear h hb
  go_enter Try.func40, Try.ntmps40
  go_wp2_with (go_at_call 39; refine (HK.out).mono ?_; rintro e w' ⟨v', rfl, hv', hx⟩; obtain ⟨A2, c2, rfl, _⟩ := sl_get hv'.1)
  go_ret
  exact ⟨rfl, hx⟩
set_option maxHeartbeats 400000 in
theorem isame_c (w : World) (v u : Value) (a b : List Ver) (h : Sl w 2 v (a.map Ver.cells)) (hb : Sl w 2 u (b.map Ver.cells)) (hl : a.length ≤ 100000) (hl2 : b.length ≤ 100000) : Calls Try.prog 41 #[v, u] w (Ret (.bool (within a b && within b a)) w) := by
  have H1 := hid (within_c w v u a b h hb hl)
  have H2 := fun W (hW : Ext w W) => hid (within_c W u v b a (hb.ext hW) (h.ext hW) hl2)
  obtain ⟨A, c, rfl, _⟩ := sl_get hb
  obtain ⟨A', c', rfl, _⟩ := sl_get h
  clear h hb
  generalize within b a = r2 at *
  cases hr : within a b with
  | true =>
    rw [hr] at H1
    go_enter Try.func41, Try.ntmps41
    go_wp2_with (first
      | (go_at_call 40; (with_reducible refine (H2 _ hx).out.mono ?_); rintro e w2 ⟨rfl, hx2⟩)
      | (go_at_call 40; (with_reducible refine H1.out.mono ?_); rintro e w' ⟨rfl, hx⟩))
    go_ret
    exact ⟨by simp, hx.trans hx2⟩
  | false =>
    rw [hr] at H1
    go_enter Try.func41, Try.ntmps41
    go_wp2_with (go_at_call 40; refine (H1.out).mono ?_; rintro e w' ⟨rfl, hx⟩)
    go_ret
    exact ⟨by simp, hx⟩
end Go.Proofs.Ytefgjkaoidifbaa
