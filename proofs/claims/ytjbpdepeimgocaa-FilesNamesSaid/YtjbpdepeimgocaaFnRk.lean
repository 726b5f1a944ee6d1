/-
  The document's Right of an update (for the texts that stand on UpA).
-/
import Derived.Test.YtjbpdepeimgocaaFnYk
import Derived.Test.YtjbpdepeimgocaaUqV
import Derived.Test.YtjbpdepeimgocaaQaA
namespace Go.Proofs.Ytjbpdepeimgocaa
set_option linter.unusedSimpArgs false
set_option linter.unusedVariables false
open Go.RowKit

def rightU (u : UpdI) : Bool := rightV u.item && (rightV u.st.v && (decide (1 ≤ u.st.time) && (Pa.rightK u.p && (decide ((u.d.size : Int) ≤ 200) && (!u.dead || u.d.toList.isEmpty)))))
set_option maxRecDepth 100000 in
set_option maxHeartbeats 4000000 in
theorem uright_c (w : World) (u : UpdI) (hu : u.p.size ≤ 90000) : Calls Try.prog 5 #[u.val] w (Ret (.bool (rightU u)) w) := by
  have H1 := fun W => hid (vright_c u.item W)
  have H2 := fun W => hid (vright_c u.st.v W)
  have H3 := fun W => hid (Pa.right_c u.p W (by omega))
  have HB0 := hid (Blk.new w 30 #[.int .i64 u.item.by_, .int .i64 u.item.n, .int .i64 u.st.v.by_, .int .i64 u.st.v.n, .int .i64 u.st.time, .string u.p, .string u.d, .bool u.dead])
  have X0 := hid (Ext.alloc w (.cells #[.int .i64 u.item.by_, .int .i64 u.item.n, .int .i64 u.st.v.by_, .int .i64 u.st.v.n, .int .i64 u.st.time, .string u.p, .string u.d, .bool u.dead] 30))
  unfold Ver.val at H1 H2
  unfold rightU UpdI.val
  clear hu
  cases h1 : rightV u.item with
  | false =>
    rw [h1] at H1
    clear h1 H2 H3
    go_enter Try.func5, Try.ntmps5
    go_wp2_with (first
      | (go_at_call 12; have hx0 := X2.out; clear hx0; refine ((H3 _).out).mono ?_; rintro e w3 ⟨rfl, hx⟩; have hb := HB2.out.ext hx; have d0 := hb.cell (i := 0) (v := .int .i64 u.item.by_) rfl; have d1 := hb.cell (i := 1) (v := .int .i64 u.item.n) rfl; have d2 := hb.cell (i := 2) (v := .int .i64 u.st.v.by_) rfl; have d3 := hb.cell (i := 3) (v := .int .i64 u.st.v.n) rfl; have d4 := hb.cell (i := 4) (v := .int .i64 u.st.time) rfl; have d5 := hb.cell (i := 5) (v := .string u.p) rfl; have d6 := hb.cell (i := 6) (v := .string u.d) rfl; have d7 := hb.cell (i := 7) rfl; have dl := hb.lt; have X3 := hid (X2.out.trans hx); have HB3 := hid hb; clear hb hx X2)
      | (go_at_call 11; have hx0 := X1.out; clear hx0; refine ((H2 _).out).mono ?_; rintro e w2 ⟨rfl, hx⟩; have hb := HB1.out.ext hx; have b0 := hb.cell (i := 0) (v := .int .i64 u.item.by_) rfl; have b1 := hb.cell (i := 1) (v := .int .i64 u.item.n) rfl; have b2 := hb.cell (i := 2) (v := .int .i64 u.st.v.by_) rfl; have b3 := hb.cell (i := 3) (v := .int .i64 u.st.v.n) rfl; have b4 := hb.cell (i := 4) (v := .int .i64 u.st.time) rfl; have b5 := hb.cell (i := 5) (v := .string u.p) rfl; have b6 := hb.cell (i := 6) (v := .string u.d) rfl; have b7 := hb.cell (i := 7) rfl; have bl := hb.lt; have X2 := hid (X1.out.trans hx); have HB2 := hid hb; clear hb hx X1)
      | (go_at_call 11; have hx0 := X0.out; clear hx0; refine ((H1 _).out).mono ?_; rintro e w1 ⟨rfl, hx⟩; have hb := HB0.out.ext hx; have a0 := hb.cell (i := 0) (v := .int .i64 u.item.by_) rfl; have a1 := hb.cell (i := 1) (v := .int .i64 u.item.n) rfl; have a2 := hb.cell (i := 2) (v := .int .i64 u.st.v.by_) rfl; have a3 := hb.cell (i := 3) (v := .int .i64 u.st.v.n) rfl; have a4 := hb.cell (i := 4) (v := .int .i64 u.st.time) rfl; have a5 := hb.cell (i := 5) (v := .string u.p) rfl; have a6 := hb.cell (i := 6) (v := .string u.d) rfl; have a7 := hb.cell (i := 7) rfl; have al := hb.lt; have X1 := hid (X0.out.trans hx); have HB1 := hid hb; clear hb hx X0))
    go_ret
    exact ⟨rfl, X1.out⟩
  | true =>
    rw [h1] at H1
    cases h2 : rightV u.st.v with
    | false =>
      rw [h2] at H2
      clear h1 h2 H3
      go_enter Try.func5, Try.ntmps5
      go_wp2_with (first
        | (go_at_call 12; have hx0 := X2.out; clear hx0; refine ((H3 _).out).mono ?_; rintro e w3 ⟨rfl, hx⟩; have hb := HB2.out.ext hx; have d0 := hb.cell (i := 0) (v := .int .i64 u.item.by_) rfl; have d1 := hb.cell (i := 1) (v := .int .i64 u.item.n) rfl; have d2 := hb.cell (i := 2) (v := .int .i64 u.st.v.by_) rfl; have d3 := hb.cell (i := 3) (v := .int .i64 u.st.v.n) rfl; have d4 := hb.cell (i := 4) (v := .int .i64 u.st.time) rfl; have d5 := hb.cell (i := 5) (v := .string u.p) rfl; have d6 := hb.cell (i := 6) (v := .string u.d) rfl; have d7 := hb.cell (i := 7) rfl; have dl := hb.lt; have X3 := hid (X2.out.trans hx); have HB3 := hid hb; clear hb hx X2)
        | (go_at_call 11; have hx0 := X1.out; clear hx0; refine ((H2 _).out).mono ?_; rintro e w2 ⟨rfl, hx⟩; have hb := HB1.out.ext hx; have b0 := hb.cell (i := 0) (v := .int .i64 u.item.by_) rfl; have b1 := hb.cell (i := 1) (v := .int .i64 u.item.n) rfl; have b2 := hb.cell (i := 2) (v := .int .i64 u.st.v.by_) rfl; have b3 := hb.cell (i := 3) (v := .int .i64 u.st.v.n) rfl; have b4 := hb.cell (i := 4) (v := .int .i64 u.st.time) rfl; have b5 := hb.cell (i := 5) (v := .string u.p) rfl; have b6 := hb.cell (i := 6) (v := .string u.d) rfl; have b7 := hb.cell (i := 7) rfl; have bl := hb.lt; have X2 := hid (X1.out.trans hx); have HB2 := hid hb; clear hb hx X1)
        | (go_at_call 11; have hx0 := X0.out; clear hx0; refine ((H1 _).out).mono ?_; rintro e w1 ⟨rfl, hx⟩; have hb := HB0.out.ext hx; have a0 := hb.cell (i := 0) (v := .int .i64 u.item.by_) rfl; have a1 := hb.cell (i := 1) (v := .int .i64 u.item.n) rfl; have a2 := hb.cell (i := 2) (v := .int .i64 u.st.v.by_) rfl; have a3 := hb.cell (i := 3) (v := .int .i64 u.st.v.n) rfl; have a4 := hb.cell (i := 4) (v := .int .i64 u.st.time) rfl; have a5 := hb.cell (i := 5) (v := .string u.p) rfl; have a6 := hb.cell (i := 6) (v := .string u.d) rfl; have a7 := hb.cell (i := 7) rfl; have al := hb.lt; have X1 := hid (X0.out.trans hx); have HB1 := hid hb; clear hb hx X0))
      go_ret
      exact ⟨rfl, X2.out⟩
    | true =>
      rw [h2] at H2
      cases h3 : decide (1 ≤ u.st.time) with
      | false =>
        clear h1 h2
        go_enter Try.func5, Try.ntmps5
        go_wp2_with (first
          | (go_at_call 12; have hx0 := X2.out; clear hx0; refine ((H3 _).out).mono ?_; rintro e w3 ⟨rfl, hx⟩; have hb := HB2.out.ext hx; have d0 := hb.cell (i := 0) (v := .int .i64 u.item.by_) rfl; have d1 := hb.cell (i := 1) (v := .int .i64 u.item.n) rfl; have d2 := hb.cell (i := 2) (v := .int .i64 u.st.v.by_) rfl; have d3 := hb.cell (i := 3) (v := .int .i64 u.st.v.n) rfl; have d4 := hb.cell (i := 4) (v := .int .i64 u.st.time) rfl; have d5 := hb.cell (i := 5) (v := .string u.p) rfl; have d6 := hb.cell (i := 6) (v := .string u.d) rfl; have d7 := hb.cell (i := 7) rfl; have dl := hb.lt; have X3 := hid (X2.out.trans hx); have HB3 := hid hb; clear hb hx X2)
          | (go_at_call 11; have hx0 := X1.out; clear hx0; refine ((H2 _).out).mono ?_; rintro e w2 ⟨rfl, hx⟩; have hb := HB1.out.ext hx; have b0 := hb.cell (i := 0) (v := .int .i64 u.item.by_) rfl; have b1 := hb.cell (i := 1) (v := .int .i64 u.item.n) rfl; have b2 := hb.cell (i := 2) (v := .int .i64 u.st.v.by_) rfl; have b3 := hb.cell (i := 3) (v := .int .i64 u.st.v.n) rfl; have b4 := hb.cell (i := 4) (v := .int .i64 u.st.time) rfl; have b5 := hb.cell (i := 5) (v := .string u.p) rfl; have b6 := hb.cell (i := 6) (v := .string u.d) rfl; have b7 := hb.cell (i := 7) rfl; have bl := hb.lt; have X2 := hid (X1.out.trans hx); have HB2 := hid hb; clear hb hx X1)
          | (go_at_call 11; have hx0 := X0.out; clear hx0; refine ((H1 _).out).mono ?_; rintro e w1 ⟨rfl, hx⟩; have hb := HB0.out.ext hx; have a0 := hb.cell (i := 0) (v := .int .i64 u.item.by_) rfl; have a1 := hb.cell (i := 1) (v := .int .i64 u.item.n) rfl; have a2 := hb.cell (i := 2) (v := .int .i64 u.st.v.by_) rfl; have a3 := hb.cell (i := 3) (v := .int .i64 u.st.v.n) rfl; have a4 := hb.cell (i := 4) (v := .int .i64 u.st.time) rfl; have a5 := hb.cell (i := 5) (v := .string u.p) rfl; have a6 := hb.cell (i := 6) (v := .string u.d) rfl; have a7 := hb.cell (i := 7) rfl; have al := hb.lt; have X1 := hid (X0.out.trans hx); have HB1 := hid hb; clear hb hx X0))
        go_ret
        exact ⟨rfl, X2.out⟩
      | true =>
        cases h4 : Pa.rightK u.p with
        | false =>
          rw [h4] at H3
          clear h1 h2 h4
          go_enter Try.func5, Try.ntmps5
          go_wp2_with (first
            | (go_at_call 12; have hx0 := X2.out; clear hx0; refine ((H3 _).out).mono ?_; rintro e w3 ⟨rfl, hx⟩; have hb := HB2.out.ext hx; have d0 := hb.cell (i := 0) (v := .int .i64 u.item.by_) rfl; have d1 := hb.cell (i := 1) (v := .int .i64 u.item.n) rfl; have d2 := hb.cell (i := 2) (v := .int .i64 u.st.v.by_) rfl; have d3 := hb.cell (i := 3) (v := .int .i64 u.st.v.n) rfl; have d4 := hb.cell (i := 4) (v := .int .i64 u.st.time) rfl; have d5 := hb.cell (i := 5) (v := .string u.p) rfl; have d6 := hb.cell (i := 6) (v := .string u.d) rfl; have d7 := hb.cell (i := 7) rfl; have dl := hb.lt; have X3 := hid (X2.out.trans hx); have HB3 := hid hb; clear hb hx X2)
            | (go_at_call 11; have hx0 := X1.out; clear hx0; refine ((H2 _).out).mono ?_; rintro e w2 ⟨rfl, hx⟩; have hb := HB1.out.ext hx; have b0 := hb.cell (i := 0) (v := .int .i64 u.item.by_) rfl; have b1 := hb.cell (i := 1) (v := .int .i64 u.item.n) rfl; have b2 := hb.cell (i := 2) (v := .int .i64 u.st.v.by_) rfl; have b3 := hb.cell (i := 3) (v := .int .i64 u.st.v.n) rfl; have b4 := hb.cell (i := 4) (v := .int .i64 u.st.time) rfl; have b5 := hb.cell (i := 5) (v := .string u.p) rfl; have b6 := hb.cell (i := 6) (v := .string u.d) rfl; have b7 := hb.cell (i := 7) rfl; have bl := hb.lt; have X2 := hid (X1.out.trans hx); have HB2 := hid hb; clear hb hx X1)
            | (go_at_call 11; have hx0 := X0.out; clear hx0; refine ((H1 _).out).mono ?_; rintro e w1 ⟨rfl, hx⟩; have hb := HB0.out.ext hx; have a0 := hb.cell (i := 0) (v := .int .i64 u.item.by_) rfl; have a1 := hb.cell (i := 1) (v := .int .i64 u.item.n) rfl; have a2 := hb.cell (i := 2) (v := .int .i64 u.st.v.by_) rfl; have a3 := hb.cell (i := 3) (v := .int .i64 u.st.v.n) rfl; have a4 := hb.cell (i := 4) (v := .int .i64 u.st.time) rfl; have a5 := hb.cell (i := 5) (v := .string u.p) rfl; have a6 := hb.cell (i := 6) (v := .string u.d) rfl; have a7 := hb.cell (i := 7) rfl; have al := hb.lt; have X1 := hid (X0.out.trans hx); have HB1 := hid hb; clear hb hx X0))
          go_ret
          exact ⟨rfl, X3.out⟩
        | true =>
          rw [h4] at H3
          clear h1 h2 h4
          cases h5 : decide ((u.d.size : Int) ≤ 200) with
          | false =>
            go_enter Try.func5, Try.ntmps5
            go_wp2_with (first
              | (go_at_call 12; have hx0 := X2.out; clear hx0; refine ((H3 _).out).mono ?_; rintro e w3 ⟨rfl, hx⟩; have hb := HB2.out.ext hx; have d0 := hb.cell (i := 0) (v := .int .i64 u.item.by_) rfl; have d1 := hb.cell (i := 1) (v := .int .i64 u.item.n) rfl; have d2 := hb.cell (i := 2) (v := .int .i64 u.st.v.by_) rfl; have d3 := hb.cell (i := 3) (v := .int .i64 u.st.v.n) rfl; have d4 := hb.cell (i := 4) (v := .int .i64 u.st.time) rfl; have d5 := hb.cell (i := 5) (v := .string u.p) rfl; have d6 := hb.cell (i := 6) (v := .string u.d) rfl; have d7 := hb.cell (i := 7) rfl; have dl := hb.lt; have X3 := hid (X2.out.trans hx); have HB3 := hid hb; clear hb hx X2)
              | (go_at_call 11; have hx0 := X1.out; clear hx0; refine ((H2 _).out).mono ?_; rintro e w2 ⟨rfl, hx⟩; have hb := HB1.out.ext hx; have b0 := hb.cell (i := 0) (v := .int .i64 u.item.by_) rfl; have b1 := hb.cell (i := 1) (v := .int .i64 u.item.n) rfl; have b2 := hb.cell (i := 2) (v := .int .i64 u.st.v.by_) rfl; have b3 := hb.cell (i := 3) (v := .int .i64 u.st.v.n) rfl; have b4 := hb.cell (i := 4) (v := .int .i64 u.st.time) rfl; have b5 := hb.cell (i := 5) (v := .string u.p) rfl; have b6 := hb.cell (i := 6) (v := .string u.d) rfl; have b7 := hb.cell (i := 7) rfl; have bl := hb.lt; have X2 := hid (X1.out.trans hx); have HB2 := hid hb; clear hb hx X1)
              | (go_at_call 11; have hx0 := X0.out; clear hx0; refine ((H1 _).out).mono ?_; rintro e w1 ⟨rfl, hx⟩; have hb := HB0.out.ext hx; have a0 := hb.cell (i := 0) (v := .int .i64 u.item.by_) rfl; have a1 := hb.cell (i := 1) (v := .int .i64 u.item.n) rfl; have a2 := hb.cell (i := 2) (v := .int .i64 u.st.v.by_) rfl; have a3 := hb.cell (i := 3) (v := .int .i64 u.st.v.n) rfl; have a4 := hb.cell (i := 4) (v := .int .i64 u.st.time) rfl; have a5 := hb.cell (i := 5) (v := .string u.p) rfl; have a6 := hb.cell (i := 6) (v := .string u.d) rfl; have a7 := hb.cell (i := 7) rfl; have al := hb.lt; have X1 := hid (X0.out.trans hx); have HB1 := hid hb; clear hb hx X0))
            go_ret
            exact ⟨rfl, X3.out⟩
          | true =>
            cases h6 : u.dead with
            | false =>
              rw [h6] at HB0 X0
              go_enter Try.func5, Try.ntmps5
              go_wp2_with (first
                | (go_at_call 12; have hx0 := X2.out; clear hx0; refine ((H3 _).out).mono ?_; rintro e w3 ⟨rfl, hx⟩; have hb := HB2.out.ext hx; have d0 := hb.cell (i := 0) (v := .int .i64 u.item.by_) rfl; have d1 := hb.cell (i := 1) (v := .int .i64 u.item.n) rfl; have d2 := hb.cell (i := 2) (v := .int .i64 u.st.v.by_) rfl; have d3 := hb.cell (i := 3) (v := .int .i64 u.st.v.n) rfl; have d4 := hb.cell (i := 4) (v := .int .i64 u.st.time) rfl; have d5 := hb.cell (i := 5) (v := .string u.p) rfl; have d6 := hb.cell (i := 6) (v := .string u.d) rfl; have d7 := hb.cell (i := 7) rfl; have dl := hb.lt; have X3 := hid (X2.out.trans hx); have HB3 := hid hb; clear hb hx X2)
                | (go_at_call 11; have hx0 := X1.out; clear hx0; refine ((H2 _).out).mono ?_; rintro e w2 ⟨rfl, hx⟩; have hb := HB1.out.ext hx; have b0 := hb.cell (i := 0) (v := .int .i64 u.item.by_) rfl; have b1 := hb.cell (i := 1) (v := .int .i64 u.item.n) rfl; have b2 := hb.cell (i := 2) (v := .int .i64 u.st.v.by_) rfl; have b3 := hb.cell (i := 3) (v := .int .i64 u.st.v.n) rfl; have b4 := hb.cell (i := 4) (v := .int .i64 u.st.time) rfl; have b5 := hb.cell (i := 5) (v := .string u.p) rfl; have b6 := hb.cell (i := 6) (v := .string u.d) rfl; have b7 := hb.cell (i := 7) rfl; have bl := hb.lt; have X2 := hid (X1.out.trans hx); have HB2 := hid hb; clear hb hx X1)
                | (go_at_call 11; have hx0 := X0.out; clear hx0; refine ((H1 _).out).mono ?_; rintro e w1 ⟨rfl, hx⟩; have hb := HB0.out.ext hx; have a0 := hb.cell (i := 0) (v := .int .i64 u.item.by_) rfl; have a1 := hb.cell (i := 1) (v := .int .i64 u.item.n) rfl; have a2 := hb.cell (i := 2) (v := .int .i64 u.st.v.by_) rfl; have a3 := hb.cell (i := 3) (v := .int .i64 u.st.v.n) rfl; have a4 := hb.cell (i := 4) (v := .int .i64 u.st.time) rfl; have a5 := hb.cell (i := 5) (v := .string u.p) rfl; have a6 := hb.cell (i := 6) (v := .string u.d) rfl; have a7 := hb.cell (i := 7) rfl; have al := hb.lt; have X1 := hid (X0.out.trans hx); have HB1 := hid hb; clear hb hx X0))
              go_ret
              exact ⟨rfl, X3.out⟩
            | true =>
              rw [h6] at HB0 X0
              cases h7 : u.d.toList.isEmpty with
              | true =>
                go_enter Try.func5, Try.ntmps5
                go_wp2_with (first
                  | (go_at_call 12; have hx0 := X2.out; clear hx0; refine ((H3 _).out).mono ?_; rintro e w3 ⟨rfl, hx⟩; have hb := HB2.out.ext hx; have d0 := hb.cell (i := 0) (v := .int .i64 u.item.by_) rfl; have d1 := hb.cell (i := 1) (v := .int .i64 u.item.n) rfl; have d2 := hb.cell (i := 2) (v := .int .i64 u.st.v.by_) rfl; have d3 := hb.cell (i := 3) (v := .int .i64 u.st.v.n) rfl; have d4 := hb.cell (i := 4) (v := .int .i64 u.st.time) rfl; have d5 := hb.cell (i := 5) (v := .string u.p) rfl; have d6 := hb.cell (i := 6) (v := .string u.d) rfl; have d7 := hb.cell (i := 7) rfl; have dl := hb.lt; have X3 := hid (X2.out.trans hx); have HB3 := hid hb; clear hb hx X2)
                  | (go_at_call 11; have hx0 := X1.out; clear hx0; refine ((H2 _).out).mono ?_; rintro e w2 ⟨rfl, hx⟩; have hb := HB1.out.ext hx; have b0 := hb.cell (i := 0) (v := .int .i64 u.item.by_) rfl; have b1 := hb.cell (i := 1) (v := .int .i64 u.item.n) rfl; have b2 := hb.cell (i := 2) (v := .int .i64 u.st.v.by_) rfl; have b3 := hb.cell (i := 3) (v := .int .i64 u.st.v.n) rfl; have b4 := hb.cell (i := 4) (v := .int .i64 u.st.time) rfl; have b5 := hb.cell (i := 5) (v := .string u.p) rfl; have b6 := hb.cell (i := 6) (v := .string u.d) rfl; have b7 := hb.cell (i := 7) rfl; have bl := hb.lt; have X2 := hid (X1.out.trans hx); have HB2 := hid hb; clear hb hx X1)
                  | (go_at_call 11; have hx0 := X0.out; clear hx0; refine ((H1 _).out).mono ?_; rintro e w1 ⟨rfl, hx⟩; have hb := HB0.out.ext hx; have a0 := hb.cell (i := 0) (v := .int .i64 u.item.by_) rfl; have a1 := hb.cell (i := 1) (v := .int .i64 u.item.n) rfl; have a2 := hb.cell (i := 2) (v := .int .i64 u.st.v.by_) rfl; have a3 := hb.cell (i := 3) (v := .int .i64 u.st.v.n) rfl; have a4 := hb.cell (i := 4) (v := .int .i64 u.st.time) rfl; have a5 := hb.cell (i := 5) (v := .string u.p) rfl; have a6 := hb.cell (i := 6) (v := .string u.d) rfl; have a7 := hb.cell (i := 7) rfl; have al := hb.lt; have X1 := hid (X0.out.trans hx); have HB1 := hid hb; clear hb hx X0))
                go_ret
                exact ⟨rfl, X3.out⟩
              | false =>
                go_enter Try.func5, Try.ntmps5
                go_wp2_with (first
                  | (go_at_call 12; have hx0 := X2.out; clear hx0; refine ((H3 _).out).mono ?_; rintro e w3 ⟨rfl, hx⟩; have hb := HB2.out.ext hx; have d0 := hb.cell (i := 0) (v := .int .i64 u.item.by_) rfl; have d1 := hb.cell (i := 1) (v := .int .i64 u.item.n) rfl; have d2 := hb.cell (i := 2) (v := .int .i64 u.st.v.by_) rfl; have d3 := hb.cell (i := 3) (v := .int .i64 u.st.v.n) rfl; have d4 := hb.cell (i := 4) (v := .int .i64 u.st.time) rfl; have d5 := hb.cell (i := 5) (v := .string u.p) rfl; have d6 := hb.cell (i := 6) (v := .string u.d) rfl; have d7 := hb.cell (i := 7) rfl; have dl := hb.lt; have X3 := hid (X2.out.trans hx); have HB3 := hid hb; clear hb hx X2)
                  | (go_at_call 11; have hx0 := X1.out; clear hx0; refine ((H2 _).out).mono ?_; rintro e w2 ⟨rfl, hx⟩; have hb := HB1.out.ext hx; have b0 := hb.cell (i := 0) (v := .int .i64 u.item.by_) rfl; have b1 := hb.cell (i := 1) (v := .int .i64 u.item.n) rfl; have b2 := hb.cell (i := 2) (v := .int .i64 u.st.v.by_) rfl; have b3 := hb.cell (i := 3) (v := .int .i64 u.st.v.n) rfl; have b4 := hb.cell (i := 4) (v := .int .i64 u.st.time) rfl; have b5 := hb.cell (i := 5) (v := .string u.p) rfl; have b6 := hb.cell (i := 6) (v := .string u.d) rfl; have b7 := hb.cell (i := 7) rfl; have bl := hb.lt; have X2 := hid (X1.out.trans hx); have HB2 := hid hb; clear hb hx X1)
                  | (go_at_call 11; have hx0 := X0.out; clear hx0; refine ((H1 _).out).mono ?_; rintro e w1 ⟨rfl, hx⟩; have hb := HB0.out.ext hx; have a0 := hb.cell (i := 0) (v := .int .i64 u.item.by_) rfl; have a1 := hb.cell (i := 1) (v := .int .i64 u.item.n) rfl; have a2 := hb.cell (i := 2) (v := .int .i64 u.st.v.by_) rfl; have a3 := hb.cell (i := 3) (v := .int .i64 u.st.v.n) rfl; have a4 := hb.cell (i := 4) (v := .int .i64 u.st.time) rfl; have a5 := hb.cell (i := 5) (v := .string u.p) rfl; have a6 := hb.cell (i := 6) (v := .string u.d) rfl; have a7 := hb.cell (i := 7) rfl; have al := hb.lt; have X1 := hid (X0.out.trans hx); have HB1 := hid hb; clear hb hx X0))
                go_ret
                exact ⟨rfl, X3.out⟩
end Go.Proofs.Ytjbpdepeimgocaa
