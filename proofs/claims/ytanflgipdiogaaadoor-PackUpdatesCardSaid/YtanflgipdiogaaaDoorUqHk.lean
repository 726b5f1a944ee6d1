/-
  update.Check, CheckMeta; the document's Right, Check, CheckMeta.
-/
import Derived.Test.YtanflgipdiogaaaDoorUqC
import Derived.Test.YtanflgipdiogaaaDoorQaA
namespace Go.Proofs.YtanflgipdiogaaaDoor
set_option linter.unusedSimpArgs false
set_option linter.unusedVariables false
open Go.RowKit

/-- What an update's, or a meta's, check answers. -/
def chkK (it : Ver) (st : Stamp) (p : ByteArray) (n : Int) (dead : Bool) : Int :=
  if rightV it = false ∨ rightS st = false then 2 else if Pa.rightK p = false then 13 else if 200 < n then 4 else if n < 0 ∨ (dead = true ∧ 0 < n) then 6 else 0
def UpdI.chk (u : UpdI) : Int := chkK u.item u.st u.p u.d.size u.dead
def MetaI.chk (m : MetaI) : Int := chkK m.item m.st m.p m.size m.dead
theorem size_pos (d : ByteArray) : (0 : Int) < d.size ↔ d.toList.isEmpty = false := by
  rw [← size_toList]
  cases d.toList <;> simp
theorem chkK_arg {it : Ver} {st : Stamp} {p : ByteArray} {n : Int} {dead : Bool} (h : rightV it = false ∨ rightS st = false) : chkK it st p n dead = 2 := if_pos h
theorem chkK_path {it : Ver} {st : Stamp} {p : ByteArray} {n : Int} {dead : Bool} (h1 : rightV it = true) (h2 : rightS st = true) (h3 : Pa.rightK p = false) : chkK it st p n dead = 13 := by
  unfold chkK; rw [if_neg (by simp [h1, h2]), if_pos h3]
theorem chkK_rest {it : Ver} {st : Stamp} {p : ByteArray} {n : Int} {dead : Bool} (h1 : rightV it = true) (h2 : rightS st = true) (h3 : Pa.rightK p = true) : chkK it st p n dead = if 200 < n then 4 else if n < 0 ∨ (dead = true ∧ 0 < n) then 6 else 0 := by
  unfold chkK; rw [if_neg (by simp [h1, h2]), if_neg (by simp [h3])]
set_option maxRecDepth 100000 in
set_option maxHeartbeats 4000000 in
theorem ucheck_c (w : World) (u : UpdI) (m : Int) (hm : w.cell? ⟨0, 0, none⟩ = some (.int .i64 m)) (hu : u.p.size ≤ 90000) : Calls Tryd.prog 61 #[u.val] w (Ret (.int .i64 u.chk) w) := by
  have H1 := fun W => hid (vcheck_c u.item W)
  have H2 := fun W => hid (vstamp_c u.st W)
  have H3 := fun W (hW : Ext w W) => hid (Pa.check_c W u.p m (hW.cell hm) hu)
  have HB := hid (Blk.new w 38 #[.int .i64 u.item.by_, .int .i64 u.item.n, .int .i64 u.st.v.by_, .int .i64 u.st.v.n, .int .i64 u.st.time, .string u.p, .string u.d, .bool u.dead])
  have X0 := hid (Ext.alloc w (.cells #[.int .i64 u.item.by_, .int .i64 u.item.n, .int .i64 u.st.v.by_, .int .i64 u.st.v.n, .int .i64 u.st.time, .string u.p, .string u.d, .bool u.dead] 38))
  unfold Ver.val at H1
  unfold Stamp.val at H2
  unfold Pa.pathNo at H3
  unfold UpdI.chk UpdI.val
  clear hm hu
  cases h1 : rightV u.item with
  | false =>
    rw [chkK_arg (.inl h1)]
    rw [checkV_no h1] at H1
    clear h1 H2 H3
    go_enter Tryd.func61, Tryd.ntmps61
    go_wp2_with (first
      | (go_at_call 91; refine ((H3 _ X2.out).out).mono ?_; rintro e w3 ⟨rfl, hx⟩; have hb := HB2.out.ext hx; have d0 := hb.cell (i := 0) (v := .int .i64 u.item.by_) rfl; have d1 := hb.cell (i := 1) (v := .int .i64 u.item.n) rfl; have d2 := hb.cell (i := 2) (v := .int .i64 u.st.v.by_) rfl; have d3 := hb.cell (i := 3) (v := .int .i64 u.st.v.n) rfl; have d4 := hb.cell (i := 4) (v := .int .i64 u.st.time) rfl; have d5 := hb.cell (i := 5) (v := .string u.p) rfl; have d6 := hb.cell (i := 6) (v := .string u.d) rfl; have d7 := hb.cell (i := 7) rfl; have dl := hb.lt; have X3 := hid (X2.out.trans hx); clear hb hx)
      | (go_at_call 90; refine ((H2 _).out).mono ?_; rintro e w2 ⟨rfl, hx⟩; have hb := HB1.out.ext hx; have b0 := hb.cell (i := 0) (v := .int .i64 u.item.by_) rfl; have b1 := hb.cell (i := 1) (v := .int .i64 u.item.n) rfl; have b2 := hb.cell (i := 2) (v := .int .i64 u.st.v.by_) rfl; have b3 := hb.cell (i := 3) (v := .int .i64 u.st.v.n) rfl; have b4 := hb.cell (i := 4) (v := .int .i64 u.st.time) rfl; have b5 := hb.cell (i := 5) (v := .string u.p) rfl; have b6 := hb.cell (i := 6) (v := .string u.d) rfl; have b7 := hb.cell (i := 7) rfl; have bl := hb.lt; have X2 := hid (X1.out.trans hx); have HB2 := hid hb; clear hb hx)
      | (go_at_call 89; refine ((H1 _).out).mono ?_; rintro e w1 ⟨rfl, hx⟩; have hb := HB.out.ext hx; have a0 := hb.cell (i := 0) (v := .int .i64 u.item.by_) rfl; have a1 := hb.cell (i := 1) (v := .int .i64 u.item.n) rfl; have a2 := hb.cell (i := 2) (v := .int .i64 u.st.v.by_) rfl; have a3 := hb.cell (i := 3) (v := .int .i64 u.st.v.n) rfl; have a4 := hb.cell (i := 4) (v := .int .i64 u.st.time) rfl; have a5 := hb.cell (i := 5) (v := .string u.p) rfl; have a6 := hb.cell (i := 6) (v := .string u.d) rfl; have a7 := hb.cell (i := 7) rfl; have al := hb.lt; have X1 := hid (X0.out.trans hx); have HB1 := hid hb; clear hb hx))
    go_ret
    exact ⟨rfl, X1.out⟩
  | true =>
    rw [checkV_yes h1] at H1
    cases h2 : rightS u.st with
    | false =>
      rw [chkK_arg (.inr h2)]
      rw [checkS_no h2] at H2
      clear h1 h2 H3
      go_enter Tryd.func61, Tryd.ntmps61
      go_wp2_with (first
        | (go_at_call 91; refine ((H3 _ X2.out).out).mono ?_; rintro e w3 ⟨rfl, hx⟩; have hb := HB2.out.ext hx; have d0 := hb.cell (i := 0) (v := .int .i64 u.item.by_) rfl; have d1 := hb.cell (i := 1) (v := .int .i64 u.item.n) rfl; have d2 := hb.cell (i := 2) (v := .int .i64 u.st.v.by_) rfl; have d3 := hb.cell (i := 3) (v := .int .i64 u.st.v.n) rfl; have d4 := hb.cell (i := 4) (v := .int .i64 u.st.time) rfl; have d5 := hb.cell (i := 5) (v := .string u.p) rfl; have d6 := hb.cell (i := 6) (v := .string u.d) rfl; have d7 := hb.cell (i := 7) rfl; have dl := hb.lt; have X3 := hid (X2.out.trans hx); clear hb hx)
        | (go_at_call 90; refine ((H2 _).out).mono ?_; rintro e w2 ⟨rfl, hx⟩; have hb := HB1.out.ext hx; have b0 := hb.cell (i := 0) (v := .int .i64 u.item.by_) rfl; have b1 := hb.cell (i := 1) (v := .int .i64 u.item.n) rfl; have b2 := hb.cell (i := 2) (v := .int .i64 u.st.v.by_) rfl; have b3 := hb.cell (i := 3) (v := .int .i64 u.st.v.n) rfl; have b4 := hb.cell (i := 4) (v := .int .i64 u.st.time) rfl; have b5 := hb.cell (i := 5) (v := .string u.p) rfl; have b6 := hb.cell (i := 6) (v := .string u.d) rfl; have b7 := hb.cell (i := 7) rfl; have bl := hb.lt; have X2 := hid (X1.out.trans hx); have HB2 := hid hb; clear hb hx)
        | (go_at_call 89; refine ((H1 _).out).mono ?_; rintro e w1 ⟨rfl, hx⟩; have hb := HB.out.ext hx; have a0 := hb.cell (i := 0) (v := .int .i64 u.item.by_) rfl; have a1 := hb.cell (i := 1) (v := .int .i64 u.item.n) rfl; have a2 := hb.cell (i := 2) (v := .int .i64 u.st.v.by_) rfl; have a3 := hb.cell (i := 3) (v := .int .i64 u.st.v.n) rfl; have a4 := hb.cell (i := 4) (v := .int .i64 u.st.time) rfl; have a5 := hb.cell (i := 5) (v := .string u.p) rfl; have a6 := hb.cell (i := 6) (v := .string u.d) rfl; have a7 := hb.cell (i := 7) rfl; have al := hb.lt; have X1 := hid (X0.out.trans hx); have HB1 := hid hb; clear hb hx))
      go_ret
      exact ⟨rfl, X2.out⟩
    | true =>
      rw [checkS_yes h2] at H2
      cases h3 : Pa.rightK u.p with
      | false =>
        rw [chkK_path h1 h2 h3]
        rw [h3] at H3
        simp only [Bool.false_eq_true, if_false] at H3
        clear h1 h2 h3
        go_enter Tryd.func61, Tryd.ntmps61
        go_wp2_with (first
          | (go_at_call 91; refine ((H3 _ X2.out).out).mono ?_; rintro e w3 ⟨rfl, hx⟩; have hb := HB2.out.ext hx; have d0 := hb.cell (i := 0) (v := .int .i64 u.item.by_) rfl; have d1 := hb.cell (i := 1) (v := .int .i64 u.item.n) rfl; have d2 := hb.cell (i := 2) (v := .int .i64 u.st.v.by_) rfl; have d3 := hb.cell (i := 3) (v := .int .i64 u.st.v.n) rfl; have d4 := hb.cell (i := 4) (v := .int .i64 u.st.time) rfl; have d5 := hb.cell (i := 5) (v := .string u.p) rfl; have d6 := hb.cell (i := 6) (v := .string u.d) rfl; have d7 := hb.cell (i := 7) rfl; have dl := hb.lt; have X3 := hid (X2.out.trans hx); clear hb hx)
          | (go_at_call 90; refine ((H2 _).out).mono ?_; rintro e w2 ⟨rfl, hx⟩; have hb := HB1.out.ext hx; have b0 := hb.cell (i := 0) (v := .int .i64 u.item.by_) rfl; have b1 := hb.cell (i := 1) (v := .int .i64 u.item.n) rfl; have b2 := hb.cell (i := 2) (v := .int .i64 u.st.v.by_) rfl; have b3 := hb.cell (i := 3) (v := .int .i64 u.st.v.n) rfl; have b4 := hb.cell (i := 4) (v := .int .i64 u.st.time) rfl; have b5 := hb.cell (i := 5) (v := .string u.p) rfl; have b6 := hb.cell (i := 6) (v := .string u.d) rfl; have b7 := hb.cell (i := 7) rfl; have bl := hb.lt; have X2 := hid (X1.out.trans hx); have HB2 := hid hb; clear hb hx)
          | (go_at_call 89; refine ((H1 _).out).mono ?_; rintro e w1 ⟨rfl, hx⟩; have hb := HB.out.ext hx; have a0 := hb.cell (i := 0) (v := .int .i64 u.item.by_) rfl; have a1 := hb.cell (i := 1) (v := .int .i64 u.item.n) rfl; have a2 := hb.cell (i := 2) (v := .int .i64 u.st.v.by_) rfl; have a3 := hb.cell (i := 3) (v := .int .i64 u.st.v.n) rfl; have a4 := hb.cell (i := 4) (v := .int .i64 u.st.time) rfl; have a5 := hb.cell (i := 5) (v := .string u.p) rfl; have a6 := hb.cell (i := 6) (v := .string u.d) rfl; have a7 := hb.cell (i := 7) rfl; have al := hb.lt; have X1 := hid (X0.out.trans hx); have HB1 := hid hb; clear hb hx))
        go_ret
        exact ⟨rfl, X3.out⟩
      | true =>
        rw [chkK_rest h1 h2 h3]
        rw [h3] at H3
        simp only [if_true] at H3
        clear h1 h2 h3
        by_cases h4 : (200 : Int) < u.d.size
        · rw [if_pos h4]
          have d4 : decide ((200 : Int) < u.d.size) = true := decide_eq_true h4
          clear h4
          go_enter Tryd.func61, Tryd.ntmps61
          go_wp2_with (first
            | (go_at_call 91; refine ((H3 _ X2.out).out).mono ?_; rintro e w3 ⟨rfl, hx⟩; have hb := HB2.out.ext hx; have d0 := hb.cell (i := 0) (v := .int .i64 u.item.by_) rfl; have d1 := hb.cell (i := 1) (v := .int .i64 u.item.n) rfl; have d2 := hb.cell (i := 2) (v := .int .i64 u.st.v.by_) rfl; have d3 := hb.cell (i := 3) (v := .int .i64 u.st.v.n) rfl; have d4 := hb.cell (i := 4) (v := .int .i64 u.st.time) rfl; have d5 := hb.cell (i := 5) (v := .string u.p) rfl; have d6 := hb.cell (i := 6) (v := .string u.d) rfl; have d7 := hb.cell (i := 7) rfl; have dl := hb.lt; have X3 := hid (X2.out.trans hx); clear hb hx)
            | (go_at_call 90; refine ((H2 _).out).mono ?_; rintro e w2 ⟨rfl, hx⟩; have hb := HB1.out.ext hx; have b0 := hb.cell (i := 0) (v := .int .i64 u.item.by_) rfl; have b1 := hb.cell (i := 1) (v := .int .i64 u.item.n) rfl; have b2 := hb.cell (i := 2) (v := .int .i64 u.st.v.by_) rfl; have b3 := hb.cell (i := 3) (v := .int .i64 u.st.v.n) rfl; have b4 := hb.cell (i := 4) (v := .int .i64 u.st.time) rfl; have b5 := hb.cell (i := 5) (v := .string u.p) rfl; have b6 := hb.cell (i := 6) (v := .string u.d) rfl; have b7 := hb.cell (i := 7) rfl; have bl := hb.lt; have X2 := hid (X1.out.trans hx); have HB2 := hid hb; clear hb hx)
            | (go_at_call 89; refine ((H1 _).out).mono ?_; rintro e w1 ⟨rfl, hx⟩; have hb := HB.out.ext hx; have a0 := hb.cell (i := 0) (v := .int .i64 u.item.by_) rfl; have a1 := hb.cell (i := 1) (v := .int .i64 u.item.n) rfl; have a2 := hb.cell (i := 2) (v := .int .i64 u.st.v.by_) rfl; have a3 := hb.cell (i := 3) (v := .int .i64 u.st.v.n) rfl; have a4 := hb.cell (i := 4) (v := .int .i64 u.st.time) rfl; have a5 := hb.cell (i := 5) (v := .string u.p) rfl; have a6 := hb.cell (i := 6) (v := .string u.d) rfl; have a7 := hb.cell (i := 7) rfl; have al := hb.lt; have X1 := hid (X0.out.trans hx); have HB1 := hid hb; clear hb hx))
          go_ret
          exact ⟨rfl, X3.out⟩
        · rw [if_neg h4]
          have d4 : decide ((200 : Int) < u.d.size) = false := decide_eq_false h4
          clear h4
          cases h5 : u.dead with
          | false =>
            rw [if_neg (by simp)]
            rw [h5] at HB X0
            go_enter Tryd.func61, Tryd.ntmps61
            go_wp2_with (first
              | (go_at_call 91; refine ((H3 _ X2.out).out).mono ?_; rintro e w3 ⟨rfl, hx⟩; have hb := HB2.out.ext hx; have d0 := hb.cell (i := 0) (v := .int .i64 u.item.by_) rfl; have d1 := hb.cell (i := 1) (v := .int .i64 u.item.n) rfl; have d2 := hb.cell (i := 2) (v := .int .i64 u.st.v.by_) rfl; have d3 := hb.cell (i := 3) (v := .int .i64 u.st.v.n) rfl; have d4 := hb.cell (i := 4) (v := .int .i64 u.st.time) rfl; have d5 := hb.cell (i := 5) (v := .string u.p) rfl; have d6 := hb.cell (i := 6) (v := .string u.d) rfl; have d7 := hb.cell (i := 7) rfl; have dl := hb.lt; have X3 := hid (X2.out.trans hx); clear hb hx)
              | (go_at_call 90; refine ((H2 _).out).mono ?_; rintro e w2 ⟨rfl, hx⟩; have hb := HB1.out.ext hx; have b0 := hb.cell (i := 0) (v := .int .i64 u.item.by_) rfl; have b1 := hb.cell (i := 1) (v := .int .i64 u.item.n) rfl; have b2 := hb.cell (i := 2) (v := .int .i64 u.st.v.by_) rfl; have b3 := hb.cell (i := 3) (v := .int .i64 u.st.v.n) rfl; have b4 := hb.cell (i := 4) (v := .int .i64 u.st.time) rfl; have b5 := hb.cell (i := 5) (v := .string u.p) rfl; have b6 := hb.cell (i := 6) (v := .string u.d) rfl; have b7 := hb.cell (i := 7) rfl; have bl := hb.lt; have X2 := hid (X1.out.trans hx); have HB2 := hid hb; clear hb hx)
              | (go_at_call 89; refine ((H1 _).out).mono ?_; rintro e w1 ⟨rfl, hx⟩; have hb := HB.out.ext hx; have a0 := hb.cell (i := 0) (v := .int .i64 u.item.by_) rfl; have a1 := hb.cell (i := 1) (v := .int .i64 u.item.n) rfl; have a2 := hb.cell (i := 2) (v := .int .i64 u.st.v.by_) rfl; have a3 := hb.cell (i := 3) (v := .int .i64 u.st.v.n) rfl; have a4 := hb.cell (i := 4) (v := .int .i64 u.st.time) rfl; have a5 := hb.cell (i := 5) (v := .string u.p) rfl; have a6 := hb.cell (i := 6) (v := .string u.d) rfl; have a7 := hb.cell (i := 7) rfl; have al := hb.lt; have X1 := hid (X0.out.trans hx); have HB1 := hid hb; clear hb hx))
            go_ret
            exact ⟨rfl, X3.out⟩
          | true =>
            rw [h5] at HB X0
            cases h6 : u.d.toList.isEmpty with
            | true =>
              rw [if_neg (by rw [size_pos, h6]; simp)]
              go_enter Tryd.func61, Tryd.ntmps61
              go_wp2_with (first
                | (go_at_call 91; refine ((H3 _ X2.out).out).mono ?_; rintro e w3 ⟨rfl, hx⟩; have hb := HB2.out.ext hx; have d0 := hb.cell (i := 0) (v := .int .i64 u.item.by_) rfl; have d1 := hb.cell (i := 1) (v := .int .i64 u.item.n) rfl; have d2 := hb.cell (i := 2) (v := .int .i64 u.st.v.by_) rfl; have d3 := hb.cell (i := 3) (v := .int .i64 u.st.v.n) rfl; have d4 := hb.cell (i := 4) (v := .int .i64 u.st.time) rfl; have d5 := hb.cell (i := 5) (v := .string u.p) rfl; have d6 := hb.cell (i := 6) (v := .string u.d) rfl; have d7 := hb.cell (i := 7) rfl; have dl := hb.lt; have X3 := hid (X2.out.trans hx); clear hb hx)
                | (go_at_call 90; refine ((H2 _).out).mono ?_; rintro e w2 ⟨rfl, hx⟩; have hb := HB1.out.ext hx; have b0 := hb.cell (i := 0) (v := .int .i64 u.item.by_) rfl; have b1 := hb.cell (i := 1) (v := .int .i64 u.item.n) rfl; have b2 := hb.cell (i := 2) (v := .int .i64 u.st.v.by_) rfl; have b3 := hb.cell (i := 3) (v := .int .i64 u.st.v.n) rfl; have b4 := hb.cell (i := 4) (v := .int .i64 u.st.time) rfl; have b5 := hb.cell (i := 5) (v := .string u.p) rfl; have b6 := hb.cell (i := 6) (v := .string u.d) rfl; have b7 := hb.cell (i := 7) rfl; have bl := hb.lt; have X2 := hid (X1.out.trans hx); have HB2 := hid hb; clear hb hx)
                | (go_at_call 89; refine ((H1 _).out).mono ?_; rintro e w1 ⟨rfl, hx⟩; have hb := HB.out.ext hx; have a0 := hb.cell (i := 0) (v := .int .i64 u.item.by_) rfl; have a1 := hb.cell (i := 1) (v := .int .i64 u.item.n) rfl; have a2 := hb.cell (i := 2) (v := .int .i64 u.st.v.by_) rfl; have a3 := hb.cell (i := 3) (v := .int .i64 u.st.v.n) rfl; have a4 := hb.cell (i := 4) (v := .int .i64 u.st.time) rfl; have a5 := hb.cell (i := 5) (v := .string u.p) rfl; have a6 := hb.cell (i := 6) (v := .string u.d) rfl; have a7 := hb.cell (i := 7) rfl; have al := hb.lt; have X1 := hid (X0.out.trans hx); have HB1 := hid hb; clear hb hx))
              go_ret
              exact ⟨rfl, X3.out⟩
            | false =>
              rw [if_pos (by rw [size_pos, h6]; simp)]
              go_enter Tryd.func61, Tryd.ntmps61
              go_wp2_with (first
                | (go_at_call 91; refine ((H3 _ X2.out).out).mono ?_; rintro e w3 ⟨rfl, hx⟩; have hb := HB2.out.ext hx; have d0 := hb.cell (i := 0) (v := .int .i64 u.item.by_) rfl; have d1 := hb.cell (i := 1) (v := .int .i64 u.item.n) rfl; have d2 := hb.cell (i := 2) (v := .int .i64 u.st.v.by_) rfl; have d3 := hb.cell (i := 3) (v := .int .i64 u.st.v.n) rfl; have d4 := hb.cell (i := 4) (v := .int .i64 u.st.time) rfl; have d5 := hb.cell (i := 5) (v := .string u.p) rfl; have d6 := hb.cell (i := 6) (v := .string u.d) rfl; have d7 := hb.cell (i := 7) rfl; have dl := hb.lt; have X3 := hid (X2.out.trans hx); clear hb hx)
                | (go_at_call 90; refine ((H2 _).out).mono ?_; rintro e w2 ⟨rfl, hx⟩; have hb := HB1.out.ext hx; have b0 := hb.cell (i := 0) (v := .int .i64 u.item.by_) rfl; have b1 := hb.cell (i := 1) (v := .int .i64 u.item.n) rfl; have b2 := hb.cell (i := 2) (v := .int .i64 u.st.v.by_) rfl; have b3 := hb.cell (i := 3) (v := .int .i64 u.st.v.n) rfl; have b4 := hb.cell (i := 4) (v := .int .i64 u.st.time) rfl; have b5 := hb.cell (i := 5) (v := .string u.p) rfl; have b6 := hb.cell (i := 6) (v := .string u.d) rfl; have b7 := hb.cell (i := 7) rfl; have bl := hb.lt; have X2 := hid (X1.out.trans hx); have HB2 := hid hb; clear hb hx)
                | (go_at_call 89; refine ((H1 _).out).mono ?_; rintro e w1 ⟨rfl, hx⟩; have hb := HB.out.ext hx; have a0 := hb.cell (i := 0) (v := .int .i64 u.item.by_) rfl; have a1 := hb.cell (i := 1) (v := .int .i64 u.item.n) rfl; have a2 := hb.cell (i := 2) (v := .int .i64 u.st.v.by_) rfl; have a3 := hb.cell (i := 3) (v := .int .i64 u.st.v.n) rfl; have a4 := hb.cell (i := 4) (v := .int .i64 u.st.time) rfl; have a5 := hb.cell (i := 5) (v := .string u.p) rfl; have a6 := hb.cell (i := 6) (v := .string u.d) rfl; have a7 := hb.cell (i := 7) rfl; have al := hb.lt; have X1 := hid (X0.out.trans hx); have HB1 := hid hb; clear hb hx))
              go_ret
              exact ⟨rfl, X3.out⟩
end Go.Proofs.YtanflgipdiogaaaDoor
