/-
  filter.Check; the document's Right of a clause.
-/
import Derived.Test.YtggbkjmedoooaaaGreatDoorFmB
import Derived.Test.YtggbkjmedoooaaaGreatDoorQdA
namespace Go.Proofs.YtggbkjmedoooaaaGreatDoor
set_option linter.unusedSimpArgs false
set_option linter.unusedVariables false
open Go.RowKit

/-- May a clause be? -/
def mayK (c : ClauseI) : Int := if c.pre.toList.isEmpty = false ∧ Pa.rightK c.pre = false then 13 else if c.lo < 0 ∨ c.hi < c.lo ∨ 200 < c.hi then 2 else 0
def rightC (c : ClauseI) : Bool := (c.pre.toList.isEmpty || Pa.rightK c.pre) && (decide (0 ≤ c.lo) && (decide (c.lo ≤ c.hi) && decide (c.hi ≤ 200)))
theorem mayK_zero (c : ClauseI) : mayK c = 0 ↔ rightC c = true := by
  unfold mayK rightC
  cases h1 : c.pre.toList.isEmpty <;> cases h2 : Pa.rightK c.pre <;> simp <;> omega
set_option maxRecDepth 100000 in
set_option maxHeartbeats 4000000 in
theorem may_c (w : World) (c : ClauseI) (m : Int) (hm : w.cell? ⟨0, 0, none⟩ = some (.int .i64 m)) (hu : c.pre.size ≤ 90000) : Calls Tryz.prog 19 #[c.val] w (Ret (.int .i64 (mayK c)) w) := by
  have H3 := fun W (hW : Ext w W) => hid (Pa.check_c W c.pre m (hW.cell hm) hu)
  have HB0 := hid (Blk.new w 42 #[.string c.pre, .int .i64 c.lo, .int .i64 c.hi])
  have X0 := hid (Ext.alloc w (.cells #[.string c.pre, .int .i64 c.lo, .int .i64 c.hi] 42))
  unfold Pa.pathNo at H3
  unfold mayK ClauseI.val
  clear hm hu
  cases h1 : c.pre.toList.isEmpty with
  | true =>
    rw [if_neg (by simp)]
    clear H3
    cases d1 : decide (c.lo < 0) with
    | true =>
      rw [if_pos (.inl (of_decide_eq_true d1))]
      go_enter Tryz.func19, Tryz.ntmps19
      go_wp2_with (go_at_call 35; refine ((H3 _ X0.out).out).mono ?_; rintro e w1 ⟨rfl, hx⟩; have hb := HB0.out.ext hx; have a0 := hb.cell (i := 0) (v := .string c.pre) rfl; have a1 := hb.cell (i := 1) (v := .int .i64 c.lo) rfl; have a2 := hb.cell (i := 2) (v := .int .i64 c.hi) rfl; have al := hb.lt; have X1 := hid (X0.out.trans hx); clear hb hx)
      go_ret
      exact ⟨rfl, X0.out⟩
    | false =>
      cases d2 : decide (c.hi < c.lo) with
      | true =>
        rw [if_pos (.inr (.inl (of_decide_eq_true d2)))]
        go_enter Tryz.func19, Tryz.ntmps19
        go_wp2_with (go_at_call 35; refine ((H3 _ X0.out).out).mono ?_; rintro e w1 ⟨rfl, hx⟩; have hb := HB0.out.ext hx; have a0 := hb.cell (i := 0) (v := .string c.pre) rfl; have a1 := hb.cell (i := 1) (v := .int .i64 c.lo) rfl; have a2 := hb.cell (i := 2) (v := .int .i64 c.hi) rfl; have al := hb.lt; have X1 := hid (X0.out.trans hx); clear hb hx)
        go_ret
        exact ⟨rfl, X0.out⟩
      | false =>
        cases d3 : decide (200 < c.hi) with
        | true =>
          rw [if_pos (.inr (.inr (of_decide_eq_true d3)))]
          go_enter Tryz.func19, Tryz.ntmps19
          go_wp2_with (go_at_call 35; refine ((H3 _ X0.out).out).mono ?_; rintro e w1 ⟨rfl, hx⟩; have hb := HB0.out.ext hx; have a0 := hb.cell (i := 0) (v := .string c.pre) rfl; have a1 := hb.cell (i := 1) (v := .int .i64 c.lo) rfl; have a2 := hb.cell (i := 2) (v := .int .i64 c.hi) rfl; have al := hb.lt; have X1 := hid (X0.out.trans hx); clear hb hx)
          go_ret
          exact ⟨rfl, X0.out⟩
        | false =>
          rw [if_neg (by simp at d1 d2 d3; omega)]
          go_enter Tryz.func19, Tryz.ntmps19
          go_wp2_with (go_at_call 35; refine ((H3 _ X0.out).out).mono ?_; rintro e w1 ⟨rfl, hx⟩; have hb := HB0.out.ext hx; have a0 := hb.cell (i := 0) (v := .string c.pre) rfl; have a1 := hb.cell (i := 1) (v := .int .i64 c.lo) rfl; have a2 := hb.cell (i := 2) (v := .int .i64 c.hi) rfl; have al := hb.lt; have X1 := hid (X0.out.trans hx); clear hb hx)
          go_ret
          exact ⟨rfl, X0.out⟩
  | false =>
    cases h2 : Pa.rightK c.pre with
    | false =>
      rw [if_pos ⟨rfl, rfl⟩]
      rw [h2] at H3
      simp only [Bool.false_eq_true, if_false] at H3
      clear h2
      go_enter Tryz.func19, Tryz.ntmps19
      go_wp2_with (go_at_call 35; refine ((H3 _ X0.out).out).mono ?_; rintro e w1 ⟨rfl, hx⟩; have hb := HB0.out.ext hx; have a0 := hb.cell (i := 0) (v := .string c.pre) rfl; have a1 := hb.cell (i := 1) (v := .int .i64 c.lo) rfl; have a2 := hb.cell (i := 2) (v := .int .i64 c.hi) rfl; have al := hb.lt; have X1 := hid (X0.out.trans hx); clear hb hx)
      go_ret
      exact ⟨rfl, X1.out⟩
    | true =>
      rw [if_neg (by simp)]
      rw [h2] at H3
      simp only [if_true] at H3
      clear h2
      cases d1 : decide (c.lo < 0) with
      | true =>
        rw [if_pos (.inl (of_decide_eq_true d1))]
        go_enter Tryz.func19, Tryz.ntmps19
        go_wp2_with (go_at_call 35; refine ((H3 _ X0.out).out).mono ?_; rintro e w1 ⟨rfl, hx⟩; have hb := HB0.out.ext hx; have a0 := hb.cell (i := 0) (v := .string c.pre) rfl; have a1 := hb.cell (i := 1) (v := .int .i64 c.lo) rfl; have a2 := hb.cell (i := 2) (v := .int .i64 c.hi) rfl; have al := hb.lt; have X1 := hid (X0.out.trans hx); clear hb hx)
        go_ret
        exact ⟨rfl, X1.out⟩
      | false =>
        cases d2 : decide (c.hi < c.lo) with
        | true =>
          rw [if_pos (.inr (.inl (of_decide_eq_true d2)))]
          go_enter Tryz.func19, Tryz.ntmps19
          go_wp2_with (go_at_call 35; refine ((H3 _ X0.out).out).mono ?_; rintro e w1 ⟨rfl, hx⟩; have hb := HB0.out.ext hx; have a0 := hb.cell (i := 0) (v := .string c.pre) rfl; have a1 := hb.cell (i := 1) (v := .int .i64 c.lo) rfl; have a2 := hb.cell (i := 2) (v := .int .i64 c.hi) rfl; have al := hb.lt; have X1 := hid (X0.out.trans hx); clear hb hx)
          go_ret
          exact ⟨rfl, X1.out⟩
        | false =>
          cases d3 : decide (200 < c.hi) with
          | true =>
            rw [if_pos (.inr (.inr (of_decide_eq_true d3)))]
            go_enter Tryz.func19, Tryz.ntmps19
            go_wp2_with (go_at_call 35; refine ((H3 _ X0.out).out).mono ?_; rintro e w1 ⟨rfl, hx⟩; have hb := HB0.out.ext hx; have a0 := hb.cell (i := 0) (v := .string c.pre) rfl; have a1 := hb.cell (i := 1) (v := .int .i64 c.lo) rfl; have a2 := hb.cell (i := 2) (v := .int .i64 c.hi) rfl; have al := hb.lt; have X1 := hid (X0.out.trans hx); clear hb hx)
            go_ret
            exact ⟨rfl, X1.out⟩
          | false =>
            rw [if_neg (by simp at d1 d2 d3; omega)]
            go_enter Tryz.func19, Tryz.ntmps19
            go_wp2_with (go_at_call 35; refine ((H3 _ X0.out).out).mono ?_; rintro e w1 ⟨rfl, hx⟩; have hb := HB0.out.ext hx; have a0 := hb.cell (i := 0) (v := .string c.pre) rfl; have a1 := hb.cell (i := 1) (v := .int .i64 c.lo) rfl; have a2 := hb.cell (i := 2) (v := .int .i64 c.hi) rfl; have al := hb.lt; have X1 := hid (X0.out.trans hx); clear hb hx)
            go_ret
            exact ⟨rfl, X1.out⟩
set_option maxRecDepth 100000 in
set_option maxHeartbeats 4000000 in
theorem rrightC_c (w : World) (c : ClauseI) (hu : c.pre.size ≤ 90000) : Calls Tryz.prog 41 #[c.val] w (Ret (.bool (rightC c)) w) := by
  have H3 := fun W => hid (Pa.right_c c.pre W (by omega))
  have HB0 := hid (Blk.new w 42 #[.string c.pre, .int .i64 c.lo, .int .i64 c.hi])
  have X0 := hid (Ext.alloc w (.cells #[.string c.pre, .int .i64 c.lo, .int .i64 c.hi] 42))
  unfold rightC ClauseI.val
  clear hu
  cases h1 : c.pre.toList.isEmpty with
  | true =>
    clear H3
    cases d1 : decide (0 ≤ c.lo) with
    | false =>
      go_enter Tryz.func41, Tryz.ntmps41
      go_wp2_with (go_at_call 56; refine ((H3 _).out).mono ?_; rintro e w1 ⟨rfl, hx⟩; have hb := HB0.out.ext hx; have a0 := hb.cell (i := 0) (v := .string c.pre) rfl; have a1 := hb.cell (i := 1) (v := .int .i64 c.lo) rfl; have a2 := hb.cell (i := 2) (v := .int .i64 c.hi) rfl; have al := hb.lt; have X1 := hid (X0.out.trans hx); clear hb hx)
      go_ret
      exact ⟨rfl, X0.out⟩
    | true =>
      cases d2 : decide (c.lo ≤ c.hi) with
      | false =>
        go_enter Tryz.func41, Tryz.ntmps41
        go_wp2_with (go_at_call 56; refine ((H3 _).out).mono ?_; rintro e w1 ⟨rfl, hx⟩; have hb := HB0.out.ext hx; have a0 := hb.cell (i := 0) (v := .string c.pre) rfl; have a1 := hb.cell (i := 1) (v := .int .i64 c.lo) rfl; have a2 := hb.cell (i := 2) (v := .int .i64 c.hi) rfl; have al := hb.lt; have X1 := hid (X0.out.trans hx); clear hb hx)
        go_ret
        exact ⟨rfl, X0.out⟩
      | true =>
        cases d3 : decide (c.hi ≤ 200) with
        | false =>
          go_enter Tryz.func41, Tryz.ntmps41
          go_wp2_with (go_at_call 56; refine ((H3 _).out).mono ?_; rintro e w1 ⟨rfl, hx⟩; have hb := HB0.out.ext hx; have a0 := hb.cell (i := 0) (v := .string c.pre) rfl; have a1 := hb.cell (i := 1) (v := .int .i64 c.lo) rfl; have a2 := hb.cell (i := 2) (v := .int .i64 c.hi) rfl; have al := hb.lt; have X1 := hid (X0.out.trans hx); clear hb hx)
          go_ret
          exact ⟨rfl, X0.out⟩
        | true =>
          go_enter Tryz.func41, Tryz.ntmps41
          go_wp2_with (go_at_call 56; refine ((H3 _).out).mono ?_; rintro e w1 ⟨rfl, hx⟩; have hb := HB0.out.ext hx; have a0 := hb.cell (i := 0) (v := .string c.pre) rfl; have a1 := hb.cell (i := 1) (v := .int .i64 c.lo) rfl; have a2 := hb.cell (i := 2) (v := .int .i64 c.hi) rfl; have al := hb.lt; have X1 := hid (X0.out.trans hx); clear hb hx)
          go_ret
          exact ⟨rfl, X0.out⟩
  | false =>
    cases h2 : Pa.rightK c.pre with
    | false =>
      rw [h2] at H3
      clear h2
      go_enter Tryz.func41, Tryz.ntmps41
      go_wp2_with (go_at_call 56; refine ((H3 _).out).mono ?_; rintro e w1 ⟨rfl, hx⟩; have hb := HB0.out.ext hx; have a0 := hb.cell (i := 0) (v := .string c.pre) rfl; have a1 := hb.cell (i := 1) (v := .int .i64 c.lo) rfl; have a2 := hb.cell (i := 2) (v := .int .i64 c.hi) rfl; have al := hb.lt; have X1 := hid (X0.out.trans hx); clear hb hx)
      go_ret
      exact ⟨rfl, X1.out⟩
    | true =>
      rw [h2] at H3
      clear h2
      cases d1 : decide (0 ≤ c.lo) with
      | false =>
        go_enter Tryz.func41, Tryz.ntmps41
        go_wp2_with (go_at_call 56; refine ((H3 _).out).mono ?_; rintro e w1 ⟨rfl, hx⟩; have hb := HB0.out.ext hx; have a0 := hb.cell (i := 0) (v := .string c.pre) rfl; have a1 := hb.cell (i := 1) (v := .int .i64 c.lo) rfl; have a2 := hb.cell (i := 2) (v := .int .i64 c.hi) rfl; have al := hb.lt; have X1 := hid (X0.out.trans hx); clear hb hx)
        go_ret
        exact ⟨rfl, X1.out⟩
      | true =>
        cases d2 : decide (c.lo ≤ c.hi) with
        | false =>
          go_enter Tryz.func41, Tryz.ntmps41
          go_wp2_with (go_at_call 56; refine ((H3 _).out).mono ?_; rintro e w1 ⟨rfl, hx⟩; have hb := HB0.out.ext hx; have a0 := hb.cell (i := 0) (v := .string c.pre) rfl; have a1 := hb.cell (i := 1) (v := .int .i64 c.lo) rfl; have a2 := hb.cell (i := 2) (v := .int .i64 c.hi) rfl; have al := hb.lt; have X1 := hid (X0.out.trans hx); clear hb hx)
          go_ret
          exact ⟨rfl, X1.out⟩
        | true =>
          cases d3 : decide (c.hi ≤ 200) with
          | false =>
            go_enter Tryz.func41, Tryz.ntmps41
            go_wp2_with (go_at_call 56; refine ((H3 _).out).mono ?_; rintro e w1 ⟨rfl, hx⟩; have hb := HB0.out.ext hx; have a0 := hb.cell (i := 0) (v := .string c.pre) rfl; have a1 := hb.cell (i := 1) (v := .int .i64 c.lo) rfl; have a2 := hb.cell (i := 2) (v := .int .i64 c.hi) rfl; have al := hb.lt; have X1 := hid (X0.out.trans hx); clear hb hx)
            go_ret
            exact ⟨rfl, X1.out⟩
          | true =>
            go_enter Tryz.func41, Tryz.ntmps41
            go_wp2_with (go_at_call 56; refine ((H3 _).out).mono ?_; rintro e w1 ⟨rfl, hx⟩; have hb := HB0.out.ext hx; have a0 := hb.cell (i := 0) (v := .string c.pre) rfl; have a1 := hb.cell (i := 1) (v := .int .i64 c.lo) rfl; have a2 := hb.cell (i := 2) (v := .int .i64 c.hi) rfl; have al := hb.lt; have X1 := hid (X0.out.trans hx); clear hb hx)
            go_ret
            exact ⟨rfl, X1.out⟩
def firstK : List ClauseI → Int
  | [] => 0
  | c :: t => if mayK c = 0 then firstK t else mayK c
theorem firstK_drop (f : List ClauseI) (k : Nat) (h : k < f.length) : firstK (f.drop k) = if mayK f[k] = 0 then firstK (f.drop (k + 1)) else mayK f[k] := by
  rw [List.drop_eq_getElem_cons h]; rfl
def checkF (f : List ClauseI) : Int := if 8 < f.length then 4 else firstK f
set_option maxRecDepth 100000 in
set_option maxHeartbeats 4000000 in
theorem fcheckM_c (w : World) (v : Value) (f : List ClauseI) (m : Int) (hm : w.cell? ⟨0, 0, none⟩ = some (.int .i64 m)) (h : Sl w 3 v (f.map ClauseI.cells)) (hs : ∀ c ∈ f, c.pre.size ≤ 90000) : Calls Tryz.prog 9 #[v] w (Ret (.int .i64 (checkF f)) w) := by
  obtain ⟨A, c, rfl, h1, h2, h3⟩ := sl_get h
  unfold maxLen at h2
  have HMay := fun W (hW : Ext w W) (c : ClauseI) (hc : c ∈ f) => hid (may_c W c m (hW.cell hm) (by have := hs c hc; omega))
  unfold checkF
  clear h hs hm
  by_cases h8 : 8 < f.length
  · rw [if_pos h8]
    have d8 : decide ((8 : Int) < f.length) = true := by simp; omega
    clear h8 HMay h3
    go_enter Tryz.func9, Tryz.ntmps9
    go_wp2_with fail
    go_ret
    exact ⟨rfl, Ext.refl _⟩
  · rw [if_neg h8]
    have d8 : decide ((8 : Int) < f.length) = false := by simp; omega
    have R0 : Hid (firstK f = firstK (f.drop 0)) := rfl
    generalize hr : firstK f = r at R0 ⊢
    clear hr
    go_enter Tryz.func9, Tryz.ntmps9
    go_wp2_with fail
    go_loopw [11] (fun i wr => ∃ k : Nat, k ≤ f.length ∧ i = .int .i64 k ∧ Ext w wr ∧ Hid (r = firstK (f.drop k))) (fun i _ => f.length - (intOf i).toNat)
    case atStart => exact ⟨0, by omega, rfl, Ext.refl _, R0⟩
    case round =>
      obtain ⟨k, hk, rfl, hE, hr⟩ := hrel
      have HE := hid hE
      by_cases hlt : k < f.length
      · obtain ⟨b, o, rfl, lb, hcell⟩ := h3 (by omega)
        have c0 := hE.cell (hcell k hlt 0 _ rfl)
        have c1 := hE.cell (hcell k hlt 1 _ rfl)
        have c2 := hE.cell (hcell k hlt 2 _ rfl)
        rw [Nat.add_zero] at c0
        have lbr := Nat.lt_of_lt_of_le lb hE.size
        have HM := fun W (hW : Ext wr W) => HMay W (hE.trans hW) f[k] (List.getElem_mem hlt)
        have HF : Hid (r = if mayK f[k] = 0 then firstK (f.drop (k + 1)) else mayK f[k]) := by unfold Hid; rw [hr.out, firstK_drop f k hlt]
        clear hcell h3 hE hr HMay R0 h8
        generalize f[k] = x at c0 c1 c2 HM HF
        unfold ClauseI.val at HM
        by_cases hz : mayK x = 0
        · rw [hz] at HM
          rw [if_pos hz] at HF
          clear hz
          go_wp2_with (go_at_call 19; refine ((HM _ (Ext.alloc _ _)).out).mono ?_; rintro e w1 ⟨rfl, hx⟩; have HX := hid (HE.out.trans ((Ext.alloc _ _).trans hx)); clear hx)
          go_roundw
          case rel => exact ⟨k + 1, by omega, by go_num, HX.out, HF.out⟩
          case measure => simp [intOf]; omega
        · rw [if_neg hz] at HF
          generalize mayK x = z at HM HF hz
          have dz : (z == 0) = false := by simp [hz]
          clear hz
          go_wp2_with (go_at_call 19; refine ((HM _ (Ext.alloc _ _)).out).mono ?_; rintro e w1 ⟨rfl, hx⟩; have HX := hid (HE.out.trans ((Ext.alloc _ _).trans hx)); clear hx)
          go_ret
          exact ⟨by rw [HF.out]; rfl, HX.out⟩
      · obtain rfl : k = f.length := by omega
        have hr0 : Hid (r = 0) := by unfold Hid; rw [hr.out, List.drop_length]; rfl
        clear hE h3 hr R0
        go_wp2_with fail
        go_ret
        exact ⟨by rw [hr0.out]; rfl, HE.out⟩
theorem fcheck_c (w : World) (v : Value) (f : List ClauseI) (m : Int) (hm : w.cell? ⟨0, 0, none⟩ = some (.int .i64 m)) (h : Sl w 3 v (f.map ClauseI.cells)) (hs : LightF f) : Calls Tryz.prog 9 #[v] w (Ret (.int .i64 (checkF f)) w) := fcheckM_c w v f m hm h fun c hc => by have := hs c hc; omega
end Go.Proofs.YtggbkjmedoooaaaGreatDoor
