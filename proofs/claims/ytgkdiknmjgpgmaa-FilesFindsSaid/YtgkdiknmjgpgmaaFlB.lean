/-
  Light; the document's Right of a version and of an update; its Best, Match of nothing, View of nothing.
-/
import Derived.Test.YtgkdiknmjgpgmaaFlA
namespace Go.Proofs.Ytgkdiknmjgpgmaa
set_option linter.unusedSimpArgs false
set_option linter.unusedVariables false
open Go.RowKit Go.Sort

def lightU (u : UpdI) : Bool := decide (u.p.size < 200) && decide (u.d.size < 400)
set_option maxRecDepth 100000 in
set_option maxHeartbeats 1000000 in
theorem light_c (u : UpdI) (w : World) : Calls Try.prog 35 #[u.val] w (Ret (.bool (lightU u)) w) := by
  unfold UpdI.val lightU
  by_cases h1 : u.p.size < 200
  · have d1 : decide ((u.p.size : Int) < 200) = true := by simp; omega
    have e1 : decide (u.p.size < 200) = true := decide_eq_true h1
    by_cases h2 : u.d.size < 400
    · have d2 : decide ((u.d.size : Int) < 400) = true := by simp; omega
      have e2 : decide (u.d.size < 400) = true := decide_eq_true h2
      rw [e1, e2]
      clear h1 h2 e1 e2
      go_enter Try.func35, Try.ntmps35
      go_wp2_with fail
      go_ret
      exact ⟨rfl, Ext.alloc _ _⟩
    · have d2 : decide ((u.d.size : Int) < 400) = false := by simp; omega
      have e2 : decide (u.d.size < 400) = false := decide_eq_false h2
      rw [e1, e2]
      clear h1 h2 e1 e2
      go_enter Try.func35, Try.ntmps35
      go_wp2_with fail
      go_ret
      exact ⟨rfl, Ext.alloc _ _⟩
  · have d1 : decide ((u.p.size : Int) < 200) = false := by simp; omega
    have e1 : decide (u.p.size < 200) = false := decide_eq_false h1
    rw [e1, Bool.false_and]
    clear h1 e1
    go_enter Try.func35, Try.ntmps35
    go_wp2_with fail
    go_ret
    exact ⟨rfl, Ext.alloc _ _⟩
set_option maxHeartbeats 400000 in
theorem vright_e (v : Ver) (w : World) : Calls Try.prog 36 #[v.val] w (RetB w) := by
  unfold Ver.val
  go_enter Try.func36, Try.ntmps36
  go_wp2
  all_goals go_ret
  all_goals exact ⟨_, rfl, (Ext.refl _).alloc' _⟩
set_option maxRecDepth 100000 in
set_option maxHeartbeats 2000000 in
theorem uright_e (u : UpdI) (w : World) (hu : lightU u = true) : Calls Try.prog 11 #[u.val] w (RetB w) := by
  have hp : u.p.size < 200 := by unfold lightU at hu; simp at hu; exact hu.1
  have H1 := fun W => hid (vright_e u.item W)
  have H2 := fun W => hid (vright_e u.st.v W)
  have H3 := fun W => hid (rright_e u.p W (by omega))
  unfold Ver.val at H1 H2
  unfold UpdI.val
  clear hu
  have hB := Blk.new w 30 #[.int .i64 u.item.by_, .int .i64 u.item.n, .int .i64 u.st.v.by_, .int .i64 u.st.v.n, .int .i64 u.st.time, .string u.p, .string u.d, .bool u.dead]
  have hE := Ext.alloc w (.cells #[.int .i64 u.item.by_, .int .i64 u.item.n, .int .i64 u.st.v.by_, .int .i64 u.st.v.n, .int .i64 u.st.time, .string u.p, .string u.d, .bool u.dead] 30)
  have HB := hid hB
  have X0 := hid hE
  clear hB hE
  go_enter Try.func11, Try.ntmps11
  go_wp2_with (first
    | (go_at_call 37; have hx0 := X2.out; clear hx0; refine ((H3 _).out).mono ?_; rintro e w3 ⟨b3, rfl, hx⟩; clear c2 c3 c4 c5 c6 c7 lq; have hb := HB.out.ext hx; have c2 := hb.cell (i := 2) (v := .int .i64 u.st.v.by_) rfl; have c3 := hb.cell (i := 3) (v := .int .i64 u.st.v.n) rfl; have c4 := hb.cell (i := 4) (v := .int .i64 u.st.time) rfl; have c5 := hb.cell (i := 5) (v := .string u.p) rfl; have c6 := hb.cell (i := 6) (v := .string u.d) rfl; have c7 := hb.cell (i := 7) (v := .bool u.dead) rfl; have lq := hb.lt; have X3 := hid (X2.out.trans hx); have HB := hid hb; clear hb hx; clear X2; cases b3)
    | (go_at_call 36; have hx0 := X1.out; clear hx0; refine ((H2 _).out).mono ?_; rintro e w2 ⟨b2, rfl, hx⟩; clear c2 c3 c4 c5 c6 c7 lq; have hb := HB.out.ext hx; have c2 := hb.cell (i := 2) (v := .int .i64 u.st.v.by_) rfl; have c3 := hb.cell (i := 3) (v := .int .i64 u.st.v.n) rfl; have c4 := hb.cell (i := 4) (v := .int .i64 u.st.time) rfl; have c5 := hb.cell (i := 5) (v := .string u.p) rfl; have c6 := hb.cell (i := 6) (v := .string u.d) rfl; have c7 := hb.cell (i := 7) (v := .bool u.dead) rfl; have lq := hb.lt; have X2 := hid (X1.out.trans hx); have HB := hid hb; clear hb hx; clear X1; cases b2)
    | (go_at_call 36; have hx0 := X0.out; clear hx0; refine ((H1 _).out).mono ?_; rintro e w1 ⟨b1, rfl, hx⟩; have hb := HB.out.ext hx; have c2 := hb.cell (i := 2) (v := .int .i64 u.st.v.by_) rfl; have c3 := hb.cell (i := 3) (v := .int .i64 u.st.v.n) rfl; have c4 := hb.cell (i := 4) (v := .int .i64 u.st.time) rfl; have c5 := hb.cell (i := 5) (v := .string u.p) rfl; have c6 := hb.cell (i := 6) (v := .string u.d) rfl; have c7 := hb.cell (i := 7) (v := .bool u.dead) rfl; have lq := hb.lt; have X1 := hid (X0.out.trans hx); have HB := hid hb; clear hb hx; clear X0; cases b1))
  all_goals go_ret
  all_goals first
    | exact ⟨_, rfl, X3.out⟩
    | exact ⟨_, rfl, X2.out⟩
    | exact ⟨_, rfl, X1.out⟩
end Go.Proofs.Ytgkdiknmjgpgmaa
