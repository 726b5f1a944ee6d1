/-
  Slim twin of FpE (filter.Check; the document's Right of a clause) for seats without sizes and Match; the comparison of clauses.
-/
import Derived.Test.YtmbgakjkhgdjnaaGreatDoorQdL
import Derived.Test.YtmbgakjkhgdjnaaGreatDoorQaA
namespace Go.Proofs.YtmbgakjkhgdjnaaGreatDoor
set_option linter.unusedSimpArgs false
set_option linter.unusedVariables false
open Go.RowKit

structure ClauseI where
  pre : ByteArray
  lo : Int
  hi : Int
def ClauseI.cells (c : ClauseI) : List Value := [.string c.pre, .int .i64 c.lo, .int .i64 c.hi]
def ClauseI.val (c : ClauseI) : Value := .agg #[.string c.pre, .int .i64 c.lo, .int .i64 c.hi]
theorem clause_coded : Coded ClauseI.cells 3 := ⟨fun _ => rfl, fun a u hu => by simp [ClauseI.cells] at hu; rcases hu with rfl | rfl | rfl <;> rfl⟩
instance : DecidableEq ClauseI := fun a b => if h : a.pre = b.pre ∧ a.lo = b.lo ∧ a.hi = b.hi then isTrue (by cases a; cases b; simp_all) else isFalse (by rintro rfl; exact h ⟨rfl, rfl, rfl⟩)
def LightF (f : List ClauseI) : Prop := ∀ c ∈ f, c.pre.size ≤ 100


/-- May a clause be? -/
def mayK (c : ClauseI) : Int := if c.pre.toList.isEmpty = false ∧ Pa.rightK c.pre = false then 13 else if c.lo < 0 ∨ c.hi < c.lo ∨ 200 < c.hi then 2 else 0
def rightC (c : ClauseI) : Bool := (c.pre.toList.isEmpty || Pa.rightK c.pre) && (decide (0 ≤ c.lo) && (decide (c.lo ≤ c.hi) && decide (c.hi ≤ 200)))
theorem mayK_zero (c : ClauseI) : mayK c = 0 ↔ rightC c = true := by
  unfold mayK rightC
  cases h1 : c.pre.toList.isEmpty <;> cases h2 : Pa.rightK c.pre <;> simp <;> omega
set_option maxRecDepth 100000 in
set_option maxHeartbeats 4000000 in
theorem may_c (w : World) (c : ClauseI) (m : Int) (hm : w.cell? ⟨0, 0, none⟩ = some (.int .i64 m)) (hu : c.pre.size ≤ 90000) : Calls Tryz.prog 170 #[c.val] w (Ret (.int .i64 (mayK c)) w) := by
  have H3 := fun W (hW : Ext w W) => hid (Pa.check_c W c.pre m (hW.cell hm) hu)
  have HB0 := hid (Blk.new w 130 #[.string c.pre, .int .i64 c.lo, .int .i64 c.hi])
  have X0 := hid (Ext.alloc w (.cells #[.string c.pre, .int .i64 c.lo, .int .i64 c.hi] 130))
  unfold Pa.pathNo at H3
  unfold mayK ClauseI.val
  clear hm hu
  cases h1 : c.pre.toList.isEmpty with
  | true =>
    rw [if_neg (by simp)]
    clear H3
    cases d1 : decide (c.lo < 0) with
    | true =>
      rw [if_pos (.inl (of_decide_eq_true d1))]
      go_enter Tryz.func170, Tryz.ntmps170
      go_wp2_with (go_at_call 175; refine ((H3 _ X0.out).out).mono ?_; rintro e w1 ⟨rfl, hx⟩; have hb := HB0.out.ext hx; have a0 := hb.cell (i := 0) (v := .string c.pre) rfl; have a1 := hb.cell (i := 1) (v := .int .i64 c.lo) rfl; have a2 := hb.cell (i := 2) (v := .int .i64 c.hi) rfl; have al := hb.lt; have X1 := hid (X0.out.trans hx); clear hb hx)
      go_ret
      exact ⟨rfl, X0.out⟩
    | false =>
      cases d2 : decide (c.hi < c.lo) with
      | true =>
        rw [if_pos (.inr (.inl (of_decide_eq_true d2)))]
        go_enter Tryz.func170, Tryz.ntmps170
        go_wp2_with (go_at_call 175; refine ((H3 _ X0.out).out).mono ?_; rintro e w1 ⟨rfl, hx⟩; have hb := HB0.out.ext hx; have a0 := hb.cell (i := 0) (v := .string c.pre) rfl; have a1 := hb.cell (i := 1) (v := .int .i64 c.lo) rfl; have a2 := hb.cell (i := 2) (v := .int .i64 c.hi) rfl; have al := hb.lt; have X1 := hid (X0.out.trans hx); clear hb hx)
        go_ret
        exact ⟨rfl, X0.out⟩
      | false =>
        cases d3 : decide (200 < c.hi) with
        | true =>
          rw [if_pos (.inr (.inr (of_decide_eq_true d3)))]
          go_enter Tryz.func170, Tryz.ntmps170
          go_wp2_with (go_at_call 175; refine ((H3 _ X0.out).out).mono ?_; rintro e w1 ⟨rfl, hx⟩; have hb := HB0.out.ext hx; have a0 := hb.cell (i := 0) (v := .string c.pre) rfl; have a1 := hb.cell (i := 1) (v := .int .i64 c.lo) rfl; have a2 := hb.cell (i := 2) (v := .int .i64 c.hi) rfl; have al := hb.lt; have X1 := hid (X0.out.trans hx); clear hb hx)
          go_ret
          exact ⟨rfl, X0.out⟩
        | false =>
          rw [if_neg (by simp at d1 d2 d3; omega)]
          go_enter Tryz.func170, Tryz.ntmps170
          go_wp2_with (go_at_call 175; refine ((H3 _ X0.out).out).mono ?_; rintro e w1 ⟨rfl, hx⟩; have hb := HB0.out.ext hx; have a0 := hb.cell (i := 0) (v := .string c.pre) rfl; have a1 := hb.cell (i := 1) (v := .int .i64 c.lo) rfl; have a2 := hb.cell (i := 2) (v := .int .i64 c.hi) rfl; have al := hb.lt; have X1 := hid (X0.out.trans hx); clear hb hx)
          go_ret
          exact ⟨rfl, X0.out⟩
  | false =>
    cases h2 : Pa.rightK c.pre with
    | false =>
      rw [if_pos ⟨rfl, rfl⟩]
      rw [h2] at H3
      simp only [Bool.false_eq_true, if_false] at H3
      clear h2
      go_enter Tryz.func170, Tryz.ntmps170
      go_wp2_with (go_at_call 175; refine ((H3 _ X0.out).out).mono ?_; rintro e w1 ⟨rfl, hx⟩; have hb := HB0.out.ext hx; have a0 := hb.cell (i := 0) (v := .string c.pre) rfl; have a1 := hb.cell (i := 1) (v := .int .i64 c.lo) rfl; have a2 := hb.cell (i := 2) (v := .int .i64 c.hi) rfl; have al := hb.lt; have X1 := hid (X0.out.trans hx); clear hb hx)
      go_ret
      exact ⟨rfl, X1.out⟩
    | true =>
      rw [if_neg (by simp)]
      rw [h2] at H3
      simp only [if_true] at H3
      clear h2
      cases d1 : decide (c.lo < 0) with
      | true =>
        rw [if_pos (.inl (of_decide_eq_true d1))]
        go_enter Tryz.func170, Tryz.ntmps170
        go_wp2_with (go_at_call 175; refine ((H3 _ X0.out).out).mono ?_; rintro e w1 ⟨rfl, hx⟩; have hb := HB0.out.ext hx; have a0 := hb.cell (i := 0) (v := .string c.pre) rfl; have a1 := hb.cell (i := 1) (v := .int .i64 c.lo) rfl; have a2 := hb.cell (i := 2) (v := .int .i64 c.hi) rfl; have al := hb.lt; have X1 := hid (X0.out.trans hx); clear hb hx)
        go_ret
        exact ⟨rfl, X1.out⟩
      | false =>
        cases d2 : decide (c.hi < c.lo) with
        | true =>
          rw [if_pos (.inr (.inl (of_decide_eq_true d2)))]
          go_enter Tryz.func170, Tryz.ntmps170
          go_wp2_with (go_at_call 175; refine ((H3 _ X0.out).out).mono ?_; rintro e w1 ⟨rfl, hx⟩; have hb := HB0.out.ext hx; have a0 := hb.cell (i := 0) (v := .string c.pre) rfl; have a1 := hb.cell (i := 1) (v := .int .i64 c.lo) rfl; have a2 := hb.cell (i := 2) (v := .int .i64 c.hi) rfl; have al := hb.lt; have X1 := hid (X0.out.trans hx); clear hb hx)
          go_ret
          exact ⟨rfl, X1.out⟩
        | false =>
          cases d3 : decide (200 < c.hi) with
          | true =>
            rw [if_pos (.inr (.inr (of_decide_eq_true d3)))]
            go_enter Tryz.func170, Tryz.ntmps170
            go_wp2_with (go_at_call 175; refine ((H3 _ X0.out).out).mono ?_; rintro e w1 ⟨rfl, hx⟩; have hb := HB0.out.ext hx; have a0 := hb.cell (i := 0) (v := .string c.pre) rfl; have a1 := hb.cell (i := 1) (v := .int .i64 c.lo) rfl; have a2 := hb.cell (i := 2) (v := .int .i64 c.hi) rfl; have al := hb.lt; have X1 := hid (X0.out.trans hx); clear hb hx)
            go_ret
            exact ⟨rfl, X1.out⟩
          | false =>
            rw [if_neg (by simp at d1 d2 d3; omega)]
            go_enter Tryz.func170, Tryz.ntmps170
            go_wp2_with (go_at_call 175; refine ((H3 _ X0.out).out).mono ?_; rintro e w1 ⟨rfl, hx⟩; have hb := HB0.out.ext hx; have a0 := hb.cell (i := 0) (v := .string c.pre) rfl; have a1 := hb.cell (i := 1) (v := .int .i64 c.lo) rfl; have a2 := hb.cell (i := 2) (v := .int .i64 c.hi) rfl; have al := hb.lt; have X1 := hid (X0.out.trans hx); clear hb hx)
            go_ret
            exact ⟨rfl, X1.out⟩
set_option maxRecDepth 100000 in
set_option maxHeartbeats 4000000 in
theorem rrightC_c (w : World) (c : ClauseI) (hu : c.pre.size ≤ 90000) : Calls Tryz.prog 87 #[c.val] w (Ret (.bool (rightC c)) w) := by
  have H3 := fun W => hid (Pa.right_c c.pre W (by omega))
  have HB0 := hid (Blk.new w 130 #[.string c.pre, .int .i64 c.lo, .int .i64 c.hi])
  have X0 := hid (Ext.alloc w (.cells #[.string c.pre, .int .i64 c.lo, .int .i64 c.hi] 130))
  unfold rightC ClauseI.val
  clear hu
  cases h1 : c.pre.toList.isEmpty with
  | true =>
    clear H3
    cases d1 : decide (0 ≤ c.lo) with
    | false =>
      go_enter Tryz.func87, Tryz.ntmps87
      go_wp2_with (go_at_call 125; refine ((H3 _).out).mono ?_; rintro e w1 ⟨rfl, hx⟩; have hb := HB0.out.ext hx; have a0 := hb.cell (i := 0) (v := .string c.pre) rfl; have a1 := hb.cell (i := 1) (v := .int .i64 c.lo) rfl; have a2 := hb.cell (i := 2) (v := .int .i64 c.hi) rfl; have al := hb.lt; have X1 := hid (X0.out.trans hx); clear hb hx)
      go_ret
      exact ⟨rfl, X0.out⟩
    | true =>
      cases d2 : decide (c.lo ≤ c.hi) with
      | false =>
        go_enter Tryz.func87, Tryz.ntmps87
        go_wp2_with (go_at_call 125; refine ((H3 _).out).mono ?_; rintro e w1 ⟨rfl, hx⟩; have hb := HB0.out.ext hx; have a0 := hb.cell (i := 0) (v := .string c.pre) rfl; have a1 := hb.cell (i := 1) (v := .int .i64 c.lo) rfl; have a2 := hb.cell (i := 2) (v := .int .i64 c.hi) rfl; have al := hb.lt; have X1 := hid (X0.out.trans hx); clear hb hx)
        go_ret
        exact ⟨rfl, X0.out⟩
      | true =>
        cases d3 : decide (c.hi ≤ 200) with
        | false =>
          go_enter Tryz.func87, Tryz.ntmps87
          go_wp2_with (go_at_call 125; refine ((H3 _).out).mono ?_; rintro e w1 ⟨rfl, hx⟩; have hb := HB0.out.ext hx; have a0 := hb.cell (i := 0) (v := .string c.pre) rfl; have a1 := hb.cell (i := 1) (v := .int .i64 c.lo) rfl; have a2 := hb.cell (i := 2) (v := .int .i64 c.hi) rfl; have al := hb.lt; have X1 := hid (X0.out.trans hx); clear hb hx)
          go_ret
          exact ⟨rfl, X0.out⟩
        | true =>
          go_enter Tryz.func87, Tryz.ntmps87
          go_wp2_with (go_at_call 125; refine ((H3 _).out).mono ?_; rintro e w1 ⟨rfl, hx⟩; have hb := HB0.out.ext hx; have a0 := hb.cell (i := 0) (v := .string c.pre) rfl; have a1 := hb.cell (i := 1) (v := .int .i64 c.lo) rfl; have a2 := hb.cell (i := 2) (v := .int .i64 c.hi) rfl; have al := hb.lt; have X1 := hid (X0.out.trans hx); clear hb hx)
          go_ret
          exact ⟨rfl, X0.out⟩
  | false =>
    cases h2 : Pa.rightK c.pre with
    | false =>
      rw [h2] at H3
      clear h2
      go_enter Tryz.func87, Tryz.ntmps87
      go_wp2_with (go_at_call 125; refine ((H3 _).out).mono ?_; rintro e w1 ⟨rfl, hx⟩; have hb := HB0.out.ext hx; have a0 := hb.cell (i := 0) (v := .string c.pre) rfl; have a1 := hb.cell (i := 1) (v := .int .i64 c.lo) rfl; have a2 := hb.cell (i := 2) (v := .int .i64 c.hi) rfl; have al := hb.lt; have X1 := hid (X0.out.trans hx); clear hb hx)
      go_ret
      exact ⟨rfl, X1.out⟩
    | true =>
      rw [h2] at H3
      clear h2
      cases d1 : decide (0 ≤ c.lo) with
      | false =>
        go_enter Tryz.func87, Tryz.ntmps87
        go_wp2_with (go_at_call 125; refine ((H3 _).out).mono ?_; rintro e w1 ⟨rfl, hx⟩; have hb := HB0.out.ext hx; have a0 := hb.cell (i := 0) (v := .string c.pre) rfl; have a1 := hb.cell (i := 1) (v := .int .i64 c.lo) rfl; have a2 := hb.cell (i := 2) (v := .int .i64 c.hi) rfl; have al := hb.lt; have X1 := hid (X0.out.trans hx); clear hb hx)
        go_ret
        exact ⟨rfl, X1.out⟩
      | true =>
        cases d2 : decide (c.lo ≤ c.hi) with
        | false =>
          go_enter Tryz.func87, Tryz.ntmps87
          go_wp2_with (go_at_call 125; refine ((H3 _).out).mono ?_; rintro e w1 ⟨rfl, hx⟩; have hb := HB0.out.ext hx; have a0 := hb.cell (i := 0) (v := .string c.pre) rfl; have a1 := hb.cell (i := 1) (v := .int .i64 c.lo) rfl; have a2 := hb.cell (i := 2) (v := .int .i64 c.hi) rfl; have al := hb.lt; have X1 := hid (X0.out.trans hx); clear hb hx)
          go_ret
          exact ⟨rfl, X1.out⟩
        | true =>
          cases d3 : decide (c.hi ≤ 200) with
          | false =>
            go_enter Tryz.func87, Tryz.ntmps87
            go_wp2_with (go_at_call 125; refine ((H3 _).out).mono ?_; rintro e w1 ⟨rfl, hx⟩; have hb := HB0.out.ext hx; have a0 := hb.cell (i := 0) (v := .string c.pre) rfl; have a1 := hb.cell (i := 1) (v := .int .i64 c.lo) rfl; have a2 := hb.cell (i := 2) (v := .int .i64 c.hi) rfl; have al := hb.lt; have X1 := hid (X0.out.trans hx); clear hb hx)
            go_ret
            exact ⟨rfl, X1.out⟩
          | true =>
            go_enter Tryz.func87, Tryz.ntmps87
            go_wp2_with (go_at_call 125; refine ((H3 _).out).mono ?_; rintro e w1 ⟨rfl, hx⟩; have hb := HB0.out.ext hx; have a0 := hb.cell (i := 0) (v := .string c.pre) rfl; have a1 := hb.cell (i := 1) (v := .int .i64 c.lo) rfl; have a2 := hb.cell (i := 2) (v := .int .i64 c.hi) rfl; have al := hb.lt; have X1 := hid (X0.out.trans hx); clear hb hx)
            go_ret
            exact ⟨rfl, X1.out⟩
def firstK : List ClauseI → Int
  | [] => 0
  | c :: t => if mayK c = 0 then firstK t else mayK c
theorem firstK_drop (f : List ClauseI) (k : Nat) (h : k < f.length) : firstK (f.drop k) = if mayK f[k] = 0 then firstK (f.drop (k + 1)) else mayK f[k] := by
  rw [List.drop_eq_getElem_cons h]; rfl
def checkF (f : List ClauseI) : Int := if 8 < f.length then 4 else firstK f
set_option maxRecDepth 100000 in
set_option maxHeartbeats 4000000 in
theorem fcheckM_c (w : World) (v : Value) (f : List ClauseI) (m : Int) (hm : w.cell? ⟨0, 0, none⟩ = some (.int .i64 m)) (h : Sl w 3 v (f.map ClauseI.cells)) (hs : ∀ c ∈ f, c.pre.size ≤ 90000) : Calls Tryz.prog 145 #[v] w (Ret (.int .i64 (checkF f)) w) := by
  obtain ⟨A, c, rfl, h1, h2, h3⟩ := sl_get h
  unfold maxLen at h2
  have HMay := fun W (hW : Ext w W) (c : ClauseI) (hc : c ∈ f) => hid (may_c W c m (hW.cell hm) (by have := hs c hc; omega))
  unfold checkF
  clear h hs hm
  by_cases h8 : 8 < f.length
  · rw [if_pos h8]
    have d8 : decide ((8 : Int) < f.length) = true := by simp; omega
    clear h8 HMay h3
    go_enter Tryz.func145, Tryz.ntmps145
    go_wp2_with fail
    go_ret
    exact ⟨rfl, Ext.refl _⟩
  · rw [if_neg h8]
    have d8 : decide ((8 : Int) < f.length) = false := by simp; omega
    have R0 : Hid (firstK f = firstK (f.drop 0)) := rfl
    generalize hr : firstK f = r at R0 ⊢
    clear hr
    go_enter Tryz.func145, Tryz.ntmps145
    go_wp2_with fail
    go_loopw [11] (fun i wr => ∃ k : Nat, k ≤ f.length ∧ i = .int .i64 k ∧ Ext w wr ∧ Hid (r = firstK (f.drop k))) (fun i _ => f.length - (intOf i).toNat)
    case atStart => exact ⟨0, by omega, rfl, Ext.refl _, R0⟩
    case round =>
      obtain ⟨k, hk, rfl, hE, hr⟩ := hrel
      have HE := hid hE
      by_cases hlt : k < f.length
      · obtain ⟨b, o, rfl, lb, hcell⟩ := h3 (by omega)
        have c0 := hE.cell (hcell k hlt 0 _ rfl)
        have c1 := hE.cell (hcell k hlt 1 _ rfl)
        have c2 := hE.cell (hcell k hlt 2 _ rfl)
        rw [Nat.add_zero] at c0
        have lbr := Nat.lt_of_lt_of_le lb hE.size
        have HM := fun W (hW : Ext wr W) => HMay W (hE.trans hW) f[k] (List.getElem_mem hlt)
        have HF : Hid (r = if mayK f[k] = 0 then firstK (f.drop (k + 1)) else mayK f[k]) := by unfold Hid; rw [hr.out, firstK_drop f k hlt]
        clear hcell h3 hE hr HMay R0 h8
        generalize f[k] = x at c0 c1 c2 HM HF
        unfold ClauseI.val at HM
        by_cases hz : mayK x = 0
        · rw [hz] at HM
          rw [if_pos hz] at HF
          clear hz
          go_wp2_with (go_at_call 170; refine ((HM _ (Ext.alloc _ _)).out).mono ?_; rintro e w1 ⟨rfl, hx⟩; have HX := hid (HE.out.trans ((Ext.alloc _ _).trans hx)); clear hx)
          go_roundw
          case rel => exact ⟨k + 1, by omega, by go_num, HX.out, HF.out⟩
          case measure => simp [intOf]; omega
        · rw [if_neg hz] at HF
          generalize mayK x = z at HM HF hz
          have dz : (z == 0) = false := by simp [hz]
          clear hz
          go_wp2_with (go_at_call 170; refine ((HM _ (Ext.alloc _ _)).out).mono ?_; rintro e w1 ⟨rfl, hx⟩; have HX := hid (HE.out.trans ((Ext.alloc _ _).trans hx)); clear hx)
          go_ret
          exact ⟨by rw [HF.out]; rfl, HX.out⟩
      · obtain rfl : k = f.length := by omega
        have hr0 : Hid (r = 0) := by unfold Hid; rw [hr.out, List.drop_length]; rfl
        clear hE h3 hr R0
        go_wp2_with fail
        go_ret
        exact ⟨by rw [hr0.out]; rfl, HE.out⟩
theorem fcheck_c (w : World) (v : Value) (f : List ClauseI) (m : Int) (hm : w.cell? ⟨0, 0, none⟩ = some (.int .i64 m)) (h : Sl w 3 v (f.map ClauseI.cells)) (hs : LightF f) : Calls Tryz.prog 145 #[v] w (Ret (.int .i64 (checkF f)) w) := fcheckM_c w v f m hm h fun c hc => by have := hs c hc; omega
def eqC (p : ByteArray) (a b : Int) (q : ByteArray) (c d : Int) : Bool := decide (p = q ∧ a = c ∧ b = d)
theorem run_eq_clause (p : ByteArray) (a b : Int) (q : ByteArray) (c d : Int) (w : World) : (Op.equalIn 10000 130 (.agg #[.string p, .int .i64 a, .int .i64 b]) (.agg #[.string q, .int .i64 c, .int .i64 d])).run Tryz.prog w = .ok (eqC p a b q c d) w := by
  have h0 : (p.toList == q.toList) = decide (p = q) := beq_toList p q
  unfold eqC
  by_cases h1 : p = q <;> by_cases h2 : a = c <;> by_cases h3 : b = d <;> simp [go_sem, h1, h2, h3] <;> simp_all
attribute [go_sem 2000] run_eq_clause
set_option maxRecDepth 100000 in
set_option maxHeartbeats 4000000 in
theorem requal_c (w : World) (u v : Value) (a b : List ClauseI) (hu : Sl w 3 u (a.map ClauseI.cells)) (hv : Sl w 3 v (b.map ClauseI.cells)) : Calls Tryz.prog 61 #[u, v] w (Ret (.bool (decide (a = b))) w) := by
  obtain ⟨A, c, rfl, h1, h2, h3⟩ := sl_get hu
  obtain ⟨B, d, rfl, k1, k2, k3⟩ := sl_get hv
  have HR : Hid ((a ≠ b → decide (a = b) = false) ∧ (a = b → decide (a = b) = true)) := ⟨fun h => decide_eq_false h, fun h => decide_eq_true h⟩
  generalize decide (a = b) = r at HR ⊢
  clear hu hv
  unfold maxLen at h2 k2
  by_cases hlen : a.length = b.length
  · have dl : ((a.length : Int) != b.length) = false := by simp [hlen]
    go_enter Tryz.func61, Tryz.ntmps61
    go_wp2_with fail
    go_loopw [5] (fun i wr => ∃ k : Nat, k ≤ a.length ∧ i = .int .i64 k ∧ Ext w wr ∧ Hid (a.take k = b.take k)) (fun i _ => a.length - (intOf i).toNat)
    case atStart => exact ⟨0, by omega, rfl, Ext.refl _, rfl⟩
    case round =>
      obtain ⟨k, hk, rfl, hE, ht⟩ := hrel
      have HE := hid hE
      by_cases hka : k < a.length
      · have hkb : k < b.length := by omega
        obtain ⟨b1, o1, rfl, lb1, hcell1⟩ := h3 (by omega)
        obtain ⟨b2, o2, rfl, lb2, hcell2⟩ := k3 (by omega)
        have c0 := hE.cell (hcell1 k hka 0 _ rfl)
        have c1 := hE.cell (hcell1 k hka 1 _ rfl)
        have c2 := hE.cell (hcell1 k hka 2 _ rfl)
        have d0 := hE.cell (hcell2 k hkb 0 _ rfl)
        have d1 := hE.cell (hcell2 k hkb 1 _ rfl)
        have d2 := hE.cell (hcell2 k hkb 2 _ rfl)
        rw [Nat.add_zero] at c0 d0
        have lr1 := Nat.lt_of_lt_of_le lb1 hE.size
        have lr2 := Nat.lt_of_lt_of_le lb2 hE.size
        have HNe : Hid (a[k] ≠ b[k] → r = false) := fun h => HR.out.1 (fun e => h (by subst e; rfl))
        have HNx : Hid (a[k] = b[k] → a.take (k + 1) = b.take (k + 1)) := fun h => by
          rw [List.take_succ_eq_append_getElem hka, List.take_succ_eq_append_getElem hkb, ht.out, h]
        clear hcell1 hcell2 h3 k3 hE ht HR
        generalize a[k] = x at c0 c1 c2 HNe HNx
        generalize b[k] = y at d0 d1 d2 HNe HNx
        by_cases hxy : x = y
        · have e1 : eqC x.pre x.lo x.hi y.pre y.lo y.hi = true := by subst hxy; simp [eqC]
          have HNx := hid (HNx.out hxy)
          clear HNe hxy
          go_wp2_with fail
          refine wp_region_any_order (by kernel_rfl) (by kernel_rfl) (by kernel_rfl) ?_
          repeat (first
            | (refine AWq.val rfl rfl rfl rfl (fun K hK => ?_); go_big_quiet_op; refine hK _ ?_; clear hK K)
            | (refine AWq.skip rfl rfl rfl ?_; simp only [Act.put, List.setIfInBounds_toArray, List.set_cons_succ, List.set_cons_zero]))
          refine AWq.done rfl rfl rfl (fun w5 x5 => ?_)
          simp only [closeAny, Act.put, List.setIfInBounds_toArray, List.set_cons_succ, List.set_cons_zero]
          go_wp2_with fail
          go_roundw
          case rel => exact ⟨k + 1, by omega, by go_num, HE.out.trans x5, HNx.out⟩
          case measure => simp [intOf]; omega
        · have e1 : eqC x.pre x.lo x.hi y.pre y.lo y.hi = false := by
            unfold eqC
            rw [decide_eq_false_iff_not]
            rintro ⟨q1, q2, q3⟩
            exact hxy (by cases x; cases y; simp_all)
          have HNe := hid (HNe.out hxy)
          clear HNx hxy
          go_wp2_with fail
          refine wp_region_any_order (by kernel_rfl) (by kernel_rfl) (by kernel_rfl) ?_
          repeat (first
            | (refine AWq.val rfl rfl rfl rfl (fun K hK => ?_); go_big_quiet_op; refine hK _ ?_; clear hK K)
            | (refine AWq.skip rfl rfl rfl ?_; simp only [Act.put, List.setIfInBounds_toArray, List.set_cons_succ, List.set_cons_zero]))
          refine AWq.done rfl rfl rfl (fun w5 x5 => ?_)
          simp only [closeAny, Act.put, List.setIfInBounds_toArray, List.set_cons_succ, List.set_cons_zero]
          go_wp2_with fail
          go_ret
          exact ⟨by rw [HNe.out]; rfl, HE.out.trans x5⟩
      · obtain rfl : k = a.length := by omega
        have hr : Hid (r = true) := HR.out.2 (by have := ht.out; rw [List.take_length] at this; rw [hlen, List.take_length] at this; exact this)
        clear hE h3 k3 ht HR
        go_wp2_with fail
        go_ret
        exact ⟨by rw [hr.out]; rfl, HE.out⟩
  · have dl : ((a.length : Int) != b.length) = true := by simp; omega
    have hr : Hid (r = false) := HR.out.1 (fun e => hlen (by rw [e]))
    clear h3 k3 HR
    go_enter Tryz.func61, Tryz.ntmps61
    go_wp2_with fail
    go_ret
    exact ⟨by rw [hr.out]; rfl, Ext.refl _⟩
end Go.Proofs.YtmbgakjkhgdjnaaGreatDoor
