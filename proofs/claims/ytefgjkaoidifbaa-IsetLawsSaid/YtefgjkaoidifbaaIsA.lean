/-
  Package iset and its document: contracts of the parts.
-/
import Derived.Test.YtefgjkaoidifbaaVerS
namespace Go.Proofs.Ytefgjkaoidifbaa
set_option linter.unusedSimpArgs false
set_option linter.unusedVariables false
open Go.RowKit

def hasV (l : List Ver) (x : Ver) : Bool := decide (x ∈ l)
def minusV (a b : List Ver) : List Ver := setL Ver.lt (a.filter fun x => !hasV b x)
def meetV (a b : List Ver) : List Ver := setL Ver.lt (a.filter fun x => hasV b x)
theorem hasV_at {l : List Ver} {x : Ver} {k : Nat} (h : k < l.length) (e : l[k] = x) : hasV l x = true := decide_eq_true (e ▸ List.getElem_mem h)
theorem hasV_none {l : List Ver} {x : Ver} (h : ∀ y ∈ l, y ≠ x) : hasV l x = false := decide_eq_false fun hx => h x hx rfl
theorem not_take {l : List Ver} {x : Ver} {k : Nat} (h : k < l.length) (hno : ∀ y ∈ l.take k, y ≠ x) (he : l[k] ≠ x) : ∀ y ∈ l.take (k + 1), y ≠ x := fun y hy => by
  rw [List.take_succ_eq_append_getElem h] at hy
  rcases List.mem_append.1 hy with hy | hy
  · exact hno y hy
  · rw [List.mem_singleton.1 hy]; exact he
theorem eq2_false {a b : Ver} (h : a ≠ b) : eq2 a.by_ a.n b.by_ b.n = false := by rw [Bool.eq_false_iff, Ne, eq2_iff]; exact h

set_option maxRecDepth 100000 in
set_option maxHeartbeats 1000000 in
theorem rhas_c (w : World) (v : Value) (l : List Ver) (x : Ver) (h : Sl w 2 v (l.map Ver.cells)) : Calls Try.prog 33 #[v, x.val] w (Ret (.bool (hasV l x)) w) := by
  obtain ⟨A, c, rfl, h1, h2, h3⟩ := sl_get h
  unfold maxLen at h2
  have R1 : Hid (∀ k (h : k < l.length), l[k] = x → hasV l x = true) := fun k => hasV_at
  have R2 : Hid ((∀ y ∈ l, y ≠ x) → hasV l x = false) := hasV_none
  generalize hasV l x = r at R1 R2 ⊢
  clear h
  unfold Ver.val
  go_enter Try.func33, Try.ntmps33
  go_wp2_with fail
  have hE0 := Ext.alloc w (.cells #[.int .i64 x.by_, .int .i64 x.n] 44)
  have hB0 := Blk.new w 44 #[.int .i64 x.by_, .int .i64 x.n]
  generalize w.alloc (.cells #[.int .i64 x.by_, .int .i64 x.n] 44) = w0 at hE0 hB0 ⊢
  generalize w.heap.size = g0 at hB0 ⊢
  have x0 := hB0.cell (i := 0) (v := .int .i64 x.by_) rfl
  have x1 := hB0.cell (i := 1) (v := .int .i64 x.n) rfl
  have lg0 := hB0.lt
  clear hB0
  go_loopw [5] (fun i wr => ∃ k : Nat, k ≤ l.length ∧ i = .int .i64 k ∧ Ext w0 wr ∧ ∀ y ∈ l.take k, y ≠ x) (fun i _ => l.length - (intOf i).toNat)
  case atStart => exact ⟨0, by omega, rfl, Ext.refl _, fun y hy => by simp at hy⟩
  case round =>
    obtain ⟨k, hk, rfl, hE, hno⟩ := hrel
    by_cases hlt : k < l.length
    · obtain ⟨b, o, rfl, lb, hcell⟩ := h3 (by omega)
      have c0 := (hE0.trans hE).cell (hcell k hlt 0 _ rfl)
      have c1 := (hE0.trans hE).cell (hcell k hlt 1 _ rfl)
      rw [Nat.add_zero] at c0
      have lbr := Nat.lt_of_lt_of_le lb (hE0.trans hE).size
      have y0 := hE.cell x0
      have y1 := hE.cell x1
      have lgr := Nat.lt_of_lt_of_le lg0 hE.size
      have HE := hid hE
      have HNo := hid hno
      have HN2 := hid (not_take (x := x) hlt hno)
      have R3 := hid (R1.out k hlt)
      clear hcell h3 hE hno
      generalize l[k] = z at c0 c1 HN2 R3
      by_cases he : z = x
      · obtain rfl := R3.out he
        subst he
        have hs := eq2_self z.by_ z.n
        go_wp2_with fail
        go_quiet (fail)
        go_wp2_with fail
        go_ret
        exact ⟨rfl, hE0.trans (HE.out.drewN' _)⟩
      · have hs := eq2_false he
        have HN3 := hid (HN2.out he)
        clear he HN2 R3
        go_wp2_with fail
        go_quiet (fail)
        go_wp2_with fail
        exact ⟨⟨k + 1, by omega, by go_num, HE.out.drewN' _, HN3.out⟩, by simp [intOf]; omega⟩
    · obtain rfl : k = l.length := by omega
      have HE := hid hE
      rw [List.take_length] at hno
      obtain rfl := R2.out hno
      clear hE h3 hno
      go_wp2_with fail
      go_ret
      exact ⟨rfl, hE0.trans HE.out⟩

set_option maxHeartbeats 400000 in
theorem find1_c (w : World) (q : Nat) (x y : Ver) (h : Blk w q 44 #[.int .i64 x.by_, .int .i64 x.n]) : Calls Try.prog 82 #[y.val, .pointer (some ⟨q, 0, none⟩)] w (Ret (.bool (eq2 x.by_ x.n y.by_ y.n)) w) := by
  have c0 := h.cell (i := 0) (v := .int .i64 x.by_) rfl
  have c1 := h.cell (i := 1) (v := .int .i64 x.n) rfl
  have lq := h.lt
  clear h
  unfold Ver.val
  go_enter Try.func82, Try.ntmps82
  go_wp2_with fail
  go_ret
  exact ⟨rfl, Ext.alloc _ _⟩

set_option maxRecDepth 100000 in
set_option maxHeartbeats 1000000 in
theorem find_c (w : World) (v : Value) (l : List Ver) (x : Ver) (h : Sl w 2 v (l.map Ver.cells)) : Calls Try.prog 66 #[v, x.val] w (Ret (.bool (hasV l x)) w) := by
  obtain ⟨A, c, rfl, h1, h2, h3⟩ := sl_get h
  unfold maxLen at h2
  have R1 : Hid (∀ k (h : k < l.length), l[k] = x → hasV l x = true) := fun k => hasV_at
  have R2 : Hid ((∀ y ∈ l, y ≠ x) → hasV l x = false) := hasV_none
  generalize hasV l x = r at R1 R2 ⊢
  clear h
  unfold Ver.val
  go_enter Try.func66, Try.ntmps66
  go_wp2_with fail
  have hE0 := Ext.alloc w (.cells #[.int .i64 x.by_, .int .i64 x.n] 44)
  have hB0 := Blk.new w 44 #[.int .i64 x.by_, .int .i64 x.n]
  generalize w.alloc (.cells #[.int .i64 x.by_, .int .i64 x.n] 44) = w0 at hE0 hB0 ⊢
  generalize w.heap.size = g0 at hB0 ⊢
  go_step3
  go_wp2_with fail
  go_step3
  go_wp2_with fail
  go_loopw [5, 12] (fun f i wr => ∃ k : Nat, k ≤ l.length ∧ f = .bool false ∧ i = .int .i64 k ∧ Ext w0 wr ∧ ∀ y ∈ l.take k, y ≠ x) (fun _ i _ => l.length - (intOf i).toNat)
  case atStart => exact ⟨0, by omega, rfl, rfl, Ext.refl _, fun y hy => by simp at hy⟩
  case round =>
    obtain ⟨k, hk, rfl, rfl, hE, hno⟩ := hrel
    by_cases hlt : k < l.length
    · obtain ⟨b, o, rfl, lb, hcell⟩ := h3 (by omega)
      have c0 := (hE0.trans hE).cell (hcell k hlt 0 _ rfl)
      have c1 := (hE0.trans hE).cell (hcell k hlt 1 _ rfl)
      rw [Nat.add_zero] at c0
      have lbr := Nat.lt_of_lt_of_le lb (hE0.trans hE).size
      have HF := fun W (hW : Ext wr W) => hid (find1_c W g0 x l[k] ((hB0.ext hE).ext hW))
      have HE := hid hE
      have HN2 := hid (not_take (x := x) hlt hno)
      have R3 := hid (R1.out k hlt)
      clear hcell h3 hE hno hB0
      generalize l[k] = z at c0 c1 HN2 R3 HF
      unfold Ver.val at HF
      by_cases he : z = x
      · obtain rfl := R3.out he
        subst he
        rw [eq2_self] at HF
        go_wp2_with fail
        refine (HF _ (Ext.alloc _ _)).out.mono ?_
        rintro e w' ⟨rfl, hx⟩
        go_wp2_with fail
        go_ret
        exact ⟨rfl, hE0.trans ((HE.out.alloc' _).trans hx)⟩
      · rw [eq2_false (fun e => he e.symm)] at HF
        have HN3 := hid (HN2.out he)
        clear he HN2 R3
        go_wp2_with fail
        refine (HF _ (Ext.alloc _ _)).out.mono ?_
        rintro e w' ⟨rfl, hx⟩
        go_wp2_with fail
        go_roundw
        case rel => exact ⟨k + 1, by omega, rfl, by go_num, (HE.out.alloc' _).trans hx, HN3.out⟩
        case measure => simp [intOf]; omega
    · obtain rfl : k = l.length := by omega
      have HE := hid hE
      rw [List.take_length] at hno
      obtain rfl := R2.out hno
      clear hE h3 hno
      go_wp2_with fail
      go_ret
      exact ⟨rfl, hE0.trans HE.out⟩

set_option maxHeartbeats 400000 in
theorem has_c (w : World) (v : Value) (l : List Ver) (x : Ver) (h : Sl w 2 v (l.map Ver.cells)) : Calls Try.prog 32 #[v, x.val] w (Ret (.bool (hasV l x)) w) := by
  have HF := hid (find_c (w.alloc (.cells #[.int .i64 x.by_, .int .i64 x.n] 44)) v l x (h.ext (Ext.alloc _ _)))
  clear h
  unfold Ver.val at *
  go_enter Try.func32, Try.ntmps32
  go_wp2_with (go_at_call 66; refine (HF.out).mono ?_; rintro e w' ⟨rfl, hx⟩)
  go_ret
  exact ⟨rfl, (Ext.alloc _ _).trans hx⟩

theorem setL_rm (l : List Ver) (p : Ver → Bool) (k : Nat) (h : k < l.length) : setL Ver.lt ((l.take (k + 1)).filter p) = if p l[k] then insL Ver.lt l[k] (setL Ver.lt ((l.take k).filter p)) else setL Ver.lt ((l.take k).filter p) := by
  rw [List.take_succ_eq_append_getElem h, List.filter_append]
  cases hp : p l[k] with
  | true => rw [List.filter_cons_of_pos hp, if_pos rfl]; exact setL_snoc _ _
  | false => rw [List.filter_cons_of_neg (by simp [hp])]; simp
theorem setL_flen (l : List Ver) (p : Ver → Bool) (k : Nat) : (setL Ver.lt ((l.take k).filter p)).length ≤ k := by
  have h1 := setL_length Ver.strict ((l.take k).filter p)
  have h2 := List.length_filter_le p (l.take k)
  rw [List.length_take] at h2
  omega

set_option maxRecDepth 100000 in
set_option maxHeartbeats 1000000 in
theorem rof_c (w : World) (v : Value) (l : List Ver) (h : Sl w 2 v (l.map Ver.cells)) (hl : l.length ≤ 100000) : Calls Try.prog 26 #[v] w (RetQ (RowAt Ver.cells 2 (setL Ver.lt l)) w) := by
  obtain ⟨A, c, rfl, h1, h2, h3⟩ := sl_get h
  unfold maxLen at h2
  clear h
  go_enter Try.func26, Try.ntmps26
  go_wp2_with fail
  go_loopw [3, 4] (fun v i wr => ∃ k : Nat, k ≤ l.length ∧ i = .int .i64 k ∧ Ext w wr ∧ RowAt Ver.cells 2 (setL Ver.lt (l.take k)) v wr) (fun _ i _ => l.length - (intOf i).toNat)
  case atStart => exact ⟨0, by omega, rfl, Ext.refl _, RowAt.nil _⟩
  case round =>
    obtain ⟨k, hk, rfl, hE, hR⟩ := hrel
    by_cases hlt : k < l.length
    · obtain ⟨b, o, rfl, lb, hcell⟩ := h3 (by omega)
      have c0 := hE.cell (hcell k hlt 0 _ rfl)
      have c1 := hE.cell (hcell k hlt 1 _ rfl)
      rw [Nat.add_zero] at c0
      have HP := hid (rput_c wr u3 (setL Ver.lt (l.take k)) l[k] hR (by have := setL_length Ver.strict (l.take k); rw [List.length_take] at this; omega))
      have HS := hid (setL_take (lt := Ver.lt) l k hlt)
      have HE := hid hE
      clear hE hR hcell h3
      generalize l[k] = z at c0 c1 HP HS
      unfold Ver.val at HP
      go_wp2_with (go_at_call 34; refine (HP.out).mono ?_; rintro e w' ⟨v', rfl, hv', hx⟩; have HV := hid hv'; have HX := hid hx; clear hv' hx)
      go_roundw
      case rel => exact ⟨k + 1, by omega, by go_num, HE.out.trans HX.out, by rw [HS.out]; exact HV.out⟩
      case measure => simp [intOf]; omega
    · obtain rfl : k = l.length := by omega
      rw [List.take_length] at hR
      have HR := hid hR
      have HE := hid hE
      clear hE hR h3
      go_wp2_with fail
      go_ret
      exact ⟨_, rfl, HR.out, HE.out⟩

set_option maxRecDepth 100000 in
set_option maxHeartbeats 2000000 in
theorem rminus_c (w : World) (v u : Value) (a b : List Ver) (h : Sl w 2 v (a.map Ver.cells)) (hb : Sl w 2 u (b.map Ver.cells)) (hl : a.length ≤ 100000) : Calls Try.prog 35 #[v, u] w (RetQ (RowAt Ver.cells 2 (minusV a b)) w) := by
  unfold minusV
  obtain ⟨A, c, rfl, h1, h2, h3⟩ := sl_get h
  unfold maxLen at h2
  clear h
  have HH := fun W (hW : Ext w W) (x : Ver) => hid (rhas_c W u b x (hb.ext hW))
  have HF := setL_flen a (fun x => !hasV b x)
  have HS := setL_rm a (fun x => !hasV b x)
  clear hb
  go_enter Try.func35, Try.ntmps35
  go_wp2_with fail
  go_loopw [5, 6] (fun v i wr => ∃ k : Nat, k ≤ a.length ∧ i = .int .i64 k ∧ Ext w wr ∧ RowAt Ver.cells 2 (setL Ver.lt ((a.take k).filter (fun x => !hasV b x))) v wr) (fun _ i _ => a.length - (intOf i).toNat)
  case atStart => exact ⟨0, by omega, rfl, Ext.refl _, RowAt.nil _⟩
  case round =>
    obtain ⟨k, hk, rfl, hE, hR⟩ := hrel
    by_cases hlt : k < a.length
    · obtain ⟨b', o, rfl, lb, hcell⟩ := h3 (by omega)
      have c0 := hE.cell (hcell k hlt 0 _ rfl)
      have c1 := hE.cell (hcell k hlt 1 _ rfl)
      rw [Nat.add_zero] at c0
      have lbr := Nat.lt_of_lt_of_le lb hE.size
      have HP := fun W (hW : Ext wr W) => hid (rput_c W u5 (setL Ver.lt ((a.take k).filter (fun x => !hasV b x))) a[k] (hR.ext hW) (by have := HF k; omega))
      have HS' := hid (HS k hlt)
      have HH' := fun W (hW : Ext wr W) => HH W (hE.trans hW) a[k]
      have HE := hid hE
      have HR := hid hR
      clear hE hR hcell h3 HF HS HH
      generalize a[k] = z at c0 c1 HP HS' HH'
      unfold Ver.val at HP HH'
      cases hz : hasV b z with
      | false =>
        rw [hz] at HH' HS'
        go_wp2_with (first
          | (go_at_call 33; refine (HH' _ (Ext.refl _)).out.mono ?_; rintro e w1 ⟨rfl, hx1⟩; have d0 := hx1.cell c0; have d1 := hx1.cell c1; have HX1 := hid hx1; clear hx1)
          | (go_at_call 34; refine (HP _ HX1.out).out.mono ?_; rintro e w' ⟨v', rfl, hv', hx⟩; have HV := hid hv'; have HX := hid hx; clear hv' hx))
        go_roundw
        case rel => exact ⟨k + 1, by omega, by go_num, HE.out.trans (HX1.out.trans HX.out), by rw [HS'.out]; exact HV.out⟩
        case measure => simp [intOf]; omega
      | true =>
        rw [hz] at HH' HS'
        go_wp2_with (go_at_call 33; refine (HH' _ (Ext.refl _)).out.mono ?_; rintro e w1 ⟨rfl, hx1⟩; have HX1 := hid hx1; clear hx1)
        go_roundw
        case rel => exact ⟨k + 1, by omega, by go_num, HE.out.trans HX1.out, by rw [HS'.out]; exact HR.out.ext HX1.out⟩
        case measure => simp [intOf]; omega
    · obtain rfl : k = a.length := by omega
      rw [List.take_length] at hR
      have HR := hid hR
      have HE := hid hE
      clear hE hR h3
      go_wp2_with fail
      go_ret
      exact ⟨_, rfl, HR.out, HE.out⟩
set_option maxRecDepth 100000 in
set_option maxHeartbeats 2000000 in
theorem rmeet_c (w : World) (v u : Value) (a b : List Ver) (h : Sl w 2 v (a.map Ver.cells)) (hb : Sl w 2 u (b.map Ver.cells)) (hl : a.length ≤ 100000) : Calls Try.prog 38 #[v, u] w (RetQ (RowAt Ver.cells 2 (meetV a b)) w) := by
  unfold meetV
  obtain ⟨A, c, rfl, h1, h2, h3⟩ := sl_get h
  unfold maxLen at h2
  clear h
  have HH := fun W (hW : Ext w W) (x : Ver) => hid (rhas_c W u b x (hb.ext hW))
  have HF := setL_flen a (fun x => hasV b x)
  have HS := setL_rm a (fun x => hasV b x)
  clear hb
  go_enter Try.func38, Try.ntmps38
  go_wp2_with fail
  go_loopw [5, 6] (fun v i wr => ∃ k : Nat, k ≤ a.length ∧ i = .int .i64 k ∧ Ext w wr ∧ RowAt Ver.cells 2 (setL Ver.lt ((a.take k).filter (fun x => hasV b x))) v wr) (fun _ i _ => a.length - (intOf i).toNat)
  case atStart => exact ⟨0, by omega, rfl, Ext.refl _, RowAt.nil _⟩
  case round =>
    obtain ⟨k, hk, rfl, hE, hR⟩ := hrel
    by_cases hlt : k < a.length
    · obtain ⟨b', o, rfl, lb, hcell⟩ := h3 (by omega)
      have c0 := hE.cell (hcell k hlt 0 _ rfl)
      have c1 := hE.cell (hcell k hlt 1 _ rfl)
      rw [Nat.add_zero] at c0
      have lbr := Nat.lt_of_lt_of_le lb hE.size
      have HP := fun W (hW : Ext wr W) => hid (rput_c W u5 (setL Ver.lt ((a.take k).filter (fun x => hasV b x))) a[k] (hR.ext hW) (by have := HF k; omega))
      have HS' := hid (HS k hlt)
      have HH' := fun W (hW : Ext wr W) => HH W (hE.trans hW) a[k]
      have HE := hid hE
      have HR := hid hR
      clear hE hR hcell h3 HF HS HH
      generalize a[k] = z at c0 c1 HP HS' HH'
      unfold Ver.val at HP HH'
      cases hz : hasV b z with
      | true =>
        rw [hz] at HH' HS'
        go_wp2_with (first
          | (go_at_call 33; refine (HH' _ (Ext.refl _)).out.mono ?_; rintro e w1 ⟨rfl, hx1⟩; have d0 := hx1.cell c0; have d1 := hx1.cell c1; have HX1 := hid hx1; clear hx1)
          | (go_at_call 34; refine (HP _ HX1.out).out.mono ?_; rintro e w' ⟨v', rfl, hv', hx⟩; have HV := hid hv'; have HX := hid hx; clear hv' hx))
        go_roundw
        case rel => exact ⟨k + 1, by omega, by go_num, HE.out.trans (HX1.out.trans HX.out), by rw [HS'.out]; exact HV.out⟩
        case measure => simp [intOf]; omega
      | false =>
        rw [hz] at HH' HS'
        go_wp2_with (go_at_call 33; refine (HH' _ (Ext.refl _)).out.mono ?_; rintro e w1 ⟨rfl, hx1⟩; have HX1 := hid hx1; clear hx1)
        go_roundw
        case rel => exact ⟨k + 1, by omega, by go_num, HE.out.trans HX1.out, by rw [HS'.out]; exact HR.out.ext HX1.out⟩
        case measure => simp [intOf]; omega
    · obtain rfl : k = a.length := by omega
      rw [List.take_length] at hR
      have HR := hid hR
      have HE := hid hE
      clear hE hR h3
      go_wp2_with fail
      go_ret
      exact ⟨_, rfl, HR.out, HE.out⟩
end Go.Proofs.Ytefgjkaoidifbaa
