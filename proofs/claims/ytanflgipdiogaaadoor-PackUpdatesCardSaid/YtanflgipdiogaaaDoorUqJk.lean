/-
  update.CheckMeta; filter.All.
-/
import Derived.Test.YtanflgipdiogaaaDoorUqIk
namespace Go.Proofs.YtanflgipdiogaaaDoor
set_option linter.unusedSimpArgs false
set_option linter.unusedVariables false
open Go.RowKit

set_option maxRecDepth 100000 in
set_option maxHeartbeats 4000000 in
theorem ucheckm_c (w : World) (u : MetaI) (m : Int) (hm : w.cell? ⟨0, 0, none⟩ = some (.int .i64 m)) (hu : u.p.size ≤ 90000) : Calls Tryd.prog 64 #[u.val] w (Ret (.int .i64 u.chk) w) := by
  have HK := fun (d : ByteArray) (dead : Bool) (z : Int) (hz : chkK u.item u.st u.p d.size dead = z) W (hW : Ext w W) => (by
    have := ucheck_c W ⟨u.item, u.st, u.p, d, dead⟩ m (hW.cell hm) hu
    unfold UpdI.chk at this
    rw [hz] at this
    exact hid this : Hid (Calls Tryd.prog 61 #[UpdI.val ⟨u.item, u.st, u.p, d, dead⟩] W (Ret (.int .i64 z) W)))
  have HB0 := hid (Blk.new w 40 #[.int .i64 u.item.by_, .int .i64 u.item.n, .int .i64 u.st.v.by_, .int .i64 u.st.v.n, .int .i64 u.st.time, .string u.p, .int .i64 u.size, .bool u.dead])
  have X0 := hid (Ext.alloc w (.cells #[.int .i64 u.item.by_, .int .i64 u.item.n, .int .i64 u.st.v.by_, .int .i64 u.st.v.n, .int .i64 u.st.time, .string u.p, .int .i64 u.size, .bool u.dead] 40))
  have e0 : ((⟨#[]⟩ : ByteArray).size : Int) = 0 := rfl
  have e1 : ((⟨#[120]⟩ : ByteArray).size : Int) = 1 := rfl
  unfold MetaI.chk
  unfold UpdI.val at HK
  unfold MetaI.val
  clear hm hu
  by_cases h1 : rightV u.item = false ∨ rightS u.st = false
  · rw [show chkK u.item u.st u.p u.size u.dead = 2 from chkK_arg h1]
    cases d1 : decide ((200 : Int) < u.size) with
    | true =>
      have HC := HK ⟨#[]⟩ false 2 (by exact chkK_arg h1)
      clear HK
      go_enter Tryd.func64, Tryd.ntmps64
      go_wp2_with (go_at_call 61; refine ((HC _ X0.out).out).mono ?_; rintro e w1 ⟨rfl, hx⟩; have hb := HB0.out.ext hx; have a6 := hb.cell (i := 6) (v := .int .i64 u.size) rfl; have al := hb.lt; have X1 := hid (X0.out.trans hx); clear hb hx X0)
      go_ret
      exact ⟨rfl, X1.out⟩
    | false =>
      cases d2 : decide (0 < u.size) with
      | true =>
        have HC := HK ⟨#[120]⟩ u.dead 2 (by exact chkK_arg h1)
        clear HK
        go_enter Tryd.func64, Tryd.ntmps64
        go_wp2_with (go_at_call 61; refine ((HC _ X0.out).out).mono ?_; rintro e w1 ⟨rfl, hx⟩; have hb := HB0.out.ext hx; have a6 := hb.cell (i := 6) (v := .int .i64 u.size) rfl; have al := hb.lt; have X1 := hid (X0.out.trans hx); clear hb hx X0)
        go_ret
        exact ⟨rfl, X1.out⟩
      | false =>
        have HC := HK ⟨#[]⟩ u.dead 2 (by exact chkK_arg h1)
        clear HK
        go_enter Tryd.func64, Tryd.ntmps64
        go_wp2_with (go_at_call 61; refine ((HC _ X0.out).out).mono ?_; rintro e w1 ⟨rfl, hx⟩; have hb := HB0.out.ext hx; have a6 := hb.cell (i := 6) (v := .int .i64 u.size) rfl; have al := hb.lt; have X1 := hid (X0.out.trans hx); clear hb hx X0)
        go_ret
        exact ⟨rfl, X1.out⟩
  · simp only [not_or, Bool.not_eq_false] at h1
    obtain ⟨h1, h2⟩ := h1
    cases h3 : Pa.rightK u.p with
    | false =>
      rw [show chkK u.item u.st u.p u.size u.dead = 13 from chkK_path h1 h2 h3]
      cases d1 : decide ((200 : Int) < u.size) with
      | true =>
        have HC := HK ⟨#[]⟩ false 13 (by exact chkK_path h1 h2 h3)
        clear HK
        go_enter Tryd.func64, Tryd.ntmps64
        go_wp2_with (go_at_call 61; refine ((HC _ X0.out).out).mono ?_; rintro e w1 ⟨rfl, hx⟩; have hb := HB0.out.ext hx; have a6 := hb.cell (i := 6) (v := .int .i64 u.size) rfl; have al := hb.lt; have X1 := hid (X0.out.trans hx); clear hb hx X0)
        go_ret
        exact ⟨rfl, X1.out⟩
      | false =>
        cases d2 : decide (0 < u.size) with
        | true =>
          have HC := HK ⟨#[120]⟩ u.dead 13 (by exact chkK_path h1 h2 h3)
          clear HK
          go_enter Tryd.func64, Tryd.ntmps64
          go_wp2_with (go_at_call 61; refine ((HC _ X0.out).out).mono ?_; rintro e w1 ⟨rfl, hx⟩; have hb := HB0.out.ext hx; have a6 := hb.cell (i := 6) (v := .int .i64 u.size) rfl; have al := hb.lt; have X1 := hid (X0.out.trans hx); clear hb hx X0)
          go_ret
          exact ⟨rfl, X1.out⟩
        | false =>
          have HC := HK ⟨#[]⟩ u.dead 13 (by exact chkK_path h1 h2 h3)
          clear HK
          go_enter Tryd.func64, Tryd.ntmps64
          go_wp2_with (go_at_call 61; refine ((HC _ X0.out).out).mono ?_; rintro e w1 ⟨rfl, hx⟩; have hb := HB0.out.ext hx; have a6 := hb.cell (i := 6) (v := .int .i64 u.size) rfl; have al := hb.lt; have X1 := hid (X0.out.trans hx); clear hb hx X0)
          go_ret
          exact ⟨rfl, X1.out⟩
    | true =>
      rw [chkK_rest h1 h2 h3]
      by_cases h4 : (200 : Int) < u.size
      · rw [if_pos h4]
        have d1 : decide ((200 : Int) < u.size) = true := decide_eq_true h4
        have HC := HK ⟨#[]⟩ false 0 (by rw [chkK_rest h1 h2 h3, e0]; rfl)
        clear HK
        go_enter Tryd.func64, Tryd.ntmps64
        go_wp2_with (go_at_call 61; refine ((HC _ X0.out).out).mono ?_; rintro e w1 ⟨rfl, hx⟩; have hb := HB0.out.ext hx; have a6 := hb.cell (i := 6) (v := .int .i64 u.size) rfl; have al := hb.lt; have X1 := hid (X0.out.trans hx); clear hb hx X0)
        go_ret
        exact ⟨rfl, X1.out⟩
      · rw [if_neg h4]
        have d1 : decide ((200 : Int) < u.size) = false := decide_eq_false h4
        by_cases h5 : 0 < u.size
        · have d2 : decide (0 < u.size) = true := decide_eq_true h5
          have d3 : decide (u.size < 0) = false := decide_eq_false (by omega)
          cases h6 : u.dead with
          | true =>
            rw [if_pos (.inr ⟨rfl, h5⟩)]
            rw [h6] at HB0 X0
            have HC := HK ⟨#[120]⟩ true 6 (by rw [chkK_rest h1 h2 h3, e1]; rfl)
            clear HK
            go_enter Tryd.func64, Tryd.ntmps64
            go_wp2_with (go_at_call 61; refine ((HC _ X0.out).out).mono ?_; rintro e w1 ⟨rfl, hx⟩; have hb := HB0.out.ext hx; have a6 := hb.cell (i := 6) (v := .int .i64 u.size) rfl; have al := hb.lt; have X1 := hid (X0.out.trans hx); clear hb hx X0)
            go_ret
            exact ⟨rfl, X1.out⟩
          | false =>
            rw [if_neg (by simp; omega)]
            rw [h6] at HB0 X0
            have HC := HK ⟨#[120]⟩ false 0 (by rw [chkK_rest h1 h2 h3, e1]; rfl)
            clear HK
            go_enter Tryd.func64, Tryd.ntmps64
            go_wp2_with (go_at_call 61; refine ((HC _ X0.out).out).mono ?_; rintro e w1 ⟨rfl, hx⟩; have hb := HB0.out.ext hx; have a6 := hb.cell (i := 6) (v := .int .i64 u.size) rfl; have al := hb.lt; have X1 := hid (X0.out.trans hx); clear hb hx X0)
            go_ret
            exact ⟨rfl, X1.out⟩
        · have d2 : decide (0 < u.size) = false := decide_eq_false h5
          have hz : chkK u.item u.st u.p ((⟨#[]⟩ : ByteArray).size : Int) u.dead = 0 := by rw [chkK_rest h1 h2 h3, e0, if_neg (by decide), if_neg (by simp)]
          by_cases h6 : u.size < 0
          · rw [if_pos (.inl h6)]
            have d3 : decide (u.size < 0) = true := decide_eq_true h6
            have HC := HK ⟨#[]⟩ u.dead 0 (by exact hz)
            clear HK
            go_enter Tryd.func64, Tryd.ntmps64
            go_wp2_with (go_at_call 61; refine ((HC _ X0.out).out).mono ?_; rintro e w1 ⟨rfl, hx⟩; have hb := HB0.out.ext hx; have a6 := hb.cell (i := 6) (v := .int .i64 u.size) rfl; have al := hb.lt; have X1 := hid (X0.out.trans hx); clear hb hx X0)
            go_ret
            exact ⟨rfl, X1.out⟩
          · rw [if_neg (by simp [h6, h5])]
            have d3 : decide (u.size < 0) = false := decide_eq_false h6
            have HC := HK ⟨#[]⟩ u.dead 0 (by exact hz)
            clear HK
            go_enter Tryd.func64, Tryd.ntmps64
            go_wp2_with (go_at_call 61; refine ((HC _ X0.out).out).mono ?_; rintro e w1 ⟨rfl, hx⟩; have hb := HB0.out.ext hx; have a6 := hb.cell (i := 6) (v := .int .i64 u.size) rfl; have al := hb.lt; have X1 := hid (X0.out.trans hx); clear hb hx X0)
            go_ret
            exact ⟨rfl, X1.out⟩
end Go.Proofs.YtanflgipdiogaaaDoor
