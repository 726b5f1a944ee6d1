/-
  Updates and metas; vers.Check, CheckStamp; the document's Right of a version (for seats without vers.Sort; out of UpA, UpE, UpC).
  update.Check, CheckMeta; the document's Right, Check, CheckMeta.
  The document's Right and Check of an update; CheckMeta, and the document's.
  update.CheckMeta; filter.All.
-/
import Derived.Test.YtmbgakjkhgdjnaaGreatDoorProg
import Derived.Test.YtmbgakjkhgdjnaaGreatDoorQdL
import Derived.Test.YtmbgakjkhgdjnaaGreatDoorUqVk
import Derived.Test.YtmbgakjkhgdjnaaGreatDoorQaA
namespace Go.Proofs.YtmbgakjkhgdjnaaGreatDoor
set_option linter.unusedSimpArgs false
set_option linter.unusedVariables false
open Go.RowKit

structure UpdI where
  item : Ver
  st : Stamp
  p : ByteArray
  d : ByteArray
  dead : Bool
def UpdI.cells (u : UpdI) : List Value := [.int .i64 u.item.by_, .int .i64 u.item.n, .int .i64 u.st.v.by_, .int .i64 u.st.v.n, .int .i64 u.st.time, .string u.p, .string u.d, .bool u.dead]
def UpdI.val (u : UpdI) : Value := .agg #[.int .i64 u.item.by_, .int .i64 u.item.n, .int .i64 u.st.v.by_, .int .i64 u.st.v.n, .int .i64 u.st.time, .string u.p, .string u.d, .bool u.dead]
theorem upd_coded : Coded UpdI.cells 8 := ⟨fun _ => rfl, fun a u hu => by simp [UpdI.cells] at hu; rcases hu with rfl | rfl | rfl | rfl | rfl | rfl | rfl | rfl <;> rfl⟩
def upd0 : UpdI := ⟨⟨0, 0⟩, ⟨⟨0, 0⟩, 0⟩, ⟨#[]⟩, ⟨#[]⟩, false⟩
instance : DecidableEq Stamp := fun a b => if h : a.v = b.v ∧ a.time = b.time then isTrue (by cases a; cases b; simp_all) else isFalse (by rintro rfl; exact h ⟨rfl, rfl⟩)
instance : DecidableEq UpdI := fun a b => if h : a.item = b.item ∧ a.st = b.st ∧ a.p = b.p ∧ a.d = b.d ∧ a.dead = b.dead then isTrue (by cases a; cases b; simp_all) else isFalse (by rintro rfl; exact h ⟨rfl, rfl, rfl, rfl, rfl⟩)
structure MetaI where
  item : Ver
  st : Stamp
  p : ByteArray
  size : Int
  dead : Bool
def MetaI.val (u : MetaI) : Value := .agg #[.int .i64 u.item.by_, .int .i64 u.item.n, .int .i64 u.st.v.by_, .int .i64 u.st.v.n, .int .i64 u.st.time, .string u.p, .int .i64 u.size, .bool u.dead]
def rightS (s : Stamp) : Bool := decide (1 ≤ s.time) && rightV s.v
def checkS (s : Stamp) : Int := if rightS s then 0 else 2
theorem checkS_yes {s : Stamp} (h : rightS s = true) : checkS s = 0 := by unfold checkS; rw [if_pos h]
theorem checkS_no {s : Stamp} (h : rightS s = false) : checkS s = 2 := by unfold checkS; rw [h]; rfl
set_option maxHeartbeats 400000 in
theorem vstamp_c (s : Stamp) (w : World) : Calls Tryz.prog 174 #[s.val] w (Ret (.int .i64 (checkS s)) w) := by
  unfold Stamp.val
  have hb := fun W => vcheck_c s.v W
  unfold Ver.val at hb
  have Hb := hid hb
  clear hb
  go_enter Tryz.func174, Tryz.ntmps174
  go_wp2_with (go_at_call 98; refine (Hb.out _).mono ?_; rintro e w' ⟨rfl, hx⟩)
  · go_ret
    exact ⟨by simp_all [checkS, rightS] <;> omega, (Ext.refl _).alloc' _⟩
  · go_ret
    exact ⟨by simp_all [checkS, checkV, rightS] <;> omega, ((Ext.refl _).alloc' _).trans hx⟩
end Go.Proofs.YtmbgakjkhgdjnaaGreatDoor
namespace Go.Proofs.YtmbgakjkhgdjnaaGreatDoor
set_option linter.unusedSimpArgs false
set_option linter.unusedVariables false
open Go.RowKit

/-- What an update's, or a meta's, check answers. -/
def chkK (it : Ver) (st : Stamp) (p : ByteArray) (n : Int) (dead : Bool) : Int :=
  if rightV it = false ∨ rightS st = false then 2 else if Pa.rightK p = false then 13 else if 200 < n then 4 else if n < 0 ∨ (dead = true ∧ 0 < n) then 6 else 0
def UpdI.chk (u : UpdI) : Int := chkK u.item u.st u.p u.d.size u.dead
def MetaI.chk (m : MetaI) : Int := chkK m.item m.st m.p m.size m.dead
theorem size_pos (d : ByteArray) : (0 : Int) < d.size ↔ d.toList.isEmpty = false := by
  rw [← size_toList]
  cases d.toList <;> simp
theorem chkK_arg {it : Ver} {st : Stamp} {p : ByteArray} {n : Int} {dead : Bool} (h : rightV it = false ∨ rightS st = false) : chkK it st p n dead = 2 := if_pos h
theorem chkK_path {it : Ver} {st : Stamp} {p : ByteArray} {n : Int} {dead : Bool} (h1 : rightV it = true) (h2 : rightS st = true) (h3 : Pa.rightK p = false) : chkK it st p n dead = 13 := by
  unfold chkK; rw [if_neg (by simp [h1, h2]), if_pos h3]
theorem chkK_rest {it : Ver} {st : Stamp} {p : ByteArray} {n : Int} {dead : Bool} (h1 : rightV it = true) (h2 : rightS st = true) (h3 : Pa.rightK p = true) : chkK it st p n dead = if 200 < n then 4 else if n < 0 ∨ (dead = true ∧ 0 < n) then 6 else 0 := by
  unfold chkK; rw [if_neg (by simp [h1, h2]), if_neg (by simp [h3])]
set_option maxRecDepth 100000 in
set_option maxHeartbeats 4000000 in
theorem ucheck_c (w : World) (u : UpdI) (m : Int) (hm : w.cell? ⟨0, 0, none⟩ = some (.int .i64 m)) (hu : u.p.size ≤ 90000) : Calls Tryz.prog 162 #[u.val] w (Ret (.int .i64 u.chk) w) := by
  have H1 := fun W => hid (vcheck_c u.item W)
  have H2 := fun W => hid (vstamp_c u.st W)
  have H3 := fun W (hW : Ext w W) => hid (Pa.check_c W u.p m (hW.cell hm) hu)
  have HB := hid (Blk.new w 64 #[.int .i64 u.item.by_, .int .i64 u.item.n, .int .i64 u.st.v.by_, .int .i64 u.st.v.n, .int .i64 u.st.time, .string u.p, .string u.d, .bool u.dead])
  have X0 := hid (Ext.alloc w (.cells #[.int .i64 u.item.by_, .int .i64 u.item.n, .int .i64 u.st.v.by_, .int .i64 u.st.v.n, .int .i64 u.st.time, .string u.p, .string u.d, .bool u.dead] 64))
  unfold Ver.val at H1
  unfold Stamp.val at H2
  unfold Pa.pathNo at H3
  unfold UpdI.chk UpdI.val
  clear hm hu
  cases h1 : rightV u.item with
  | false =>
    rw [chkK_arg (.inl h1)]
    rw [checkV_no h1] at H1
    clear h1 H2 H3
    go_enter Tryz.func162, Tryz.ntmps162
    go_wp2_with (first
      | (go_at_call 175; refine ((H3 _ X2.out).out).mono ?_; rintro e w3 ⟨rfl, hx⟩; have hb := HB2.out.ext hx; have d0 := hb.cell (i := 0) (v := .int .i64 u.item.by_) rfl; have d1 := hb.cell (i := 1) (v := .int .i64 u.item.n) rfl; have d2 := hb.cell (i := 2) (v := .int .i64 u.st.v.by_) rfl; have d3 := hb.cell (i := 3) (v := .int .i64 u.st.v.n) rfl; have d4 := hb.cell (i := 4) (v := .int .i64 u.st.time) rfl; have d5 := hb.cell (i := 5) (v := .string u.p) rfl; have d6 := hb.cell (i := 6) (v := .string u.d) rfl; have d7 := hb.cell (i := 7) rfl; have dl := hb.lt; have X3 := hid (X2.out.trans hx); clear hb hx)
      | (go_at_call 174; refine ((H2 _).out).mono ?_; rintro e w2 ⟨rfl, hx⟩; have hb := HB1.out.ext hx; have b0 := hb.cell (i := 0) (v := .int .i64 u.item.by_) rfl; have b1 := hb.cell (i := 1) (v := .int .i64 u.item.n) rfl; have b2 := hb.cell (i := 2) (v := .int .i64 u.st.v.by_) rfl; have b3 := hb.cell (i := 3) (v := .int .i64 u.st.v.n) rfl; have b4 := hb.cell (i := 4) (v := .int .i64 u.st.time) rfl; have b5 := hb.cell (i := 5) (v := .string u.p) rfl; have b6 := hb.cell (i := 6) (v := .string u.d) rfl; have b7 := hb.cell (i := 7) rfl; have bl := hb.lt; have X2 := hid (X1.out.trans hx); have HB2 := hid hb; clear hb hx)
      | (go_at_call 98; refine ((H1 _).out).mono ?_; rintro e w1 ⟨rfl, hx⟩; have hb := HB.out.ext hx; have a0 := hb.cell (i := 0) (v := .int .i64 u.item.by_) rfl; have a1 := hb.cell (i := 1) (v := .int .i64 u.item.n) rfl; have a2 := hb.cell (i := 2) (v := .int .i64 u.st.v.by_) rfl; have a3 := hb.cell (i := 3) (v := .int .i64 u.st.v.n) rfl; have a4 := hb.cell (i := 4) (v := .int .i64 u.st.time) rfl; have a5 := hb.cell (i := 5) (v := .string u.p) rfl; have a6 := hb.cell (i := 6) (v := .string u.d) rfl; have a7 := hb.cell (i := 7) rfl; have al := hb.lt; have X1 := hid (X0.out.trans hx); have HB1 := hid hb; clear hb hx))
    go_ret
    exact ⟨rfl, X1.out⟩
  | true =>
    rw [checkV_yes h1] at H1
    cases h2 : rightS u.st with
    | false =>
      rw [chkK_arg (.inr h2)]
      rw [checkS_no h2] at H2
      clear h1 h2 H3
      go_enter Tryz.func162, Tryz.ntmps162
      go_wp2_with (first
        | (go_at_call 175; refine ((H3 _ X2.out).out).mono ?_; rintro e w3 ⟨rfl, hx⟩; have hb := HB2.out.ext hx; have d0 := hb.cell (i := 0) (v := .int .i64 u.item.by_) rfl; have d1 := hb.cell (i := 1) (v := .int .i64 u.item.n) rfl; have d2 := hb.cell (i := 2) (v := .int .i64 u.st.v.by_) rfl; have d3 := hb.cell (i := 3) (v := .int .i64 u.st.v.n) rfl; have d4 := hb.cell (i := 4) (v := .int .i64 u.st.time) rfl; have d5 := hb.cell (i := 5) (v := .string u.p) rfl; have d6 := hb.cell (i := 6) (v := .string u.d) rfl; have d7 := hb.cell (i := 7) rfl; have dl := hb.lt; have X3 := hid (X2.out.trans hx); clear hb hx)
        | (go_at_call 174; refine ((H2 _).out).mono ?_; rintro e w2 ⟨rfl, hx⟩; have hb := HB1.out.ext hx; have b0 := hb.cell (i := 0) (v := .int .i64 u.item.by_) rfl; have b1 := hb.cell (i := 1) (v := .int .i64 u.item.n) rfl; have b2 := hb.cell (i := 2) (v := .int .i64 u.st.v.by_) rfl; have b3 := hb.cell (i := 3) (v := .int .i64 u.st.v.n) rfl; have b4 := hb.cell (i := 4) (v := .int .i64 u.st.time) rfl; have b5 := hb.cell (i := 5) (v := .string u.p) rfl; have b6 := hb.cell (i := 6) (v := .string u.d) rfl; have b7 := hb.cell (i := 7) rfl; have bl := hb.lt; have X2 := hid (X1.out.trans hx); have HB2 := hid hb; clear hb hx)
        | (go_at_call 98; refine ((H1 _).out).mono ?_; rintro e w1 ⟨rfl, hx⟩; have hb := HB.out.ext hx; have a0 := hb.cell (i := 0) (v := .int .i64 u.item.by_) rfl; have a1 := hb.cell (i := 1) (v := .int .i64 u.item.n) rfl; have a2 := hb.cell (i := 2) (v := .int .i64 u.st.v.by_) rfl; have a3 := hb.cell (i := 3) (v := .int .i64 u.st.v.n) rfl; have a4 := hb.cell (i := 4) (v := .int .i64 u.st.time) rfl; have a5 := hb.cell (i := 5) (v := .string u.p) rfl; have a6 := hb.cell (i := 6) (v := .string u.d) rfl; have a7 := hb.cell (i := 7) rfl; have al := hb.lt; have X1 := hid (X0.out.trans hx); have HB1 := hid hb; clear hb hx))
      go_ret
      exact ⟨rfl, X2.out⟩
    | true =>
      rw [checkS_yes h2] at H2
      cases h3 : Pa.rightK u.p with
      | false =>
        rw [chkK_path h1 h2 h3]
        rw [h3] at H3
        simp only [Bool.false_eq_true, if_false] at H3
        clear h1 h2 h3
        go_enter Tryz.func162, Tryz.ntmps162
        go_wp2_with (first
          | (go_at_call 175; refine ((H3 _ X2.out).out).mono ?_; rintro e w3 ⟨rfl, hx⟩; have hb := HB2.out.ext hx; have d0 := hb.cell (i := 0) (v := .int .i64 u.item.by_) rfl; have d1 := hb.cell (i := 1) (v := .int .i64 u.item.n) rfl; have d2 := hb.cell (i := 2) (v := .int .i64 u.st.v.by_) rfl; have d3 := hb.cell (i := 3) (v := .int .i64 u.st.v.n) rfl; have d4 := hb.cell (i := 4) (v := .int .i64 u.st.time) rfl; have d5 := hb.cell (i := 5) (v := .string u.p) rfl; have d6 := hb.cell (i := 6) (v := .string u.d) rfl; have d7 := hb.cell (i := 7) rfl; have dl := hb.lt; have X3 := hid (X2.out.trans hx); clear hb hx)
          | (go_at_call 174; refine ((H2 _).out).mono ?_; rintro e w2 ⟨rfl, hx⟩; have hb := HB1.out.ext hx; have b0 := hb.cell (i := 0) (v := .int .i64 u.item.by_) rfl; have b1 := hb.cell (i := 1) (v := .int .i64 u.item.n) rfl; have b2 := hb.cell (i := 2) (v := .int .i64 u.st.v.by_) rfl; have b3 := hb.cell (i := 3) (v := .int .i64 u.st.v.n) rfl; have b4 := hb.cell (i := 4) (v := .int .i64 u.st.time) rfl; have b5 := hb.cell (i := 5) (v := .string u.p) rfl; have b6 := hb.cell (i := 6) (v := .string u.d) rfl; have b7 := hb.cell (i := 7) rfl; have bl := hb.lt; have X2 := hid (X1.out.trans hx); have HB2 := hid hb; clear hb hx)
          | (go_at_call 98; refine ((H1 _).out).mono ?_; rintro e w1 ⟨rfl, hx⟩; have hb := HB.out.ext hx; have a0 := hb.cell (i := 0) (v := .int .i64 u.item.by_) rfl; have a1 := hb.cell (i := 1) (v := .int .i64 u.item.n) rfl; have a2 := hb.cell (i := 2) (v := .int .i64 u.st.v.by_) rfl; have a3 := hb.cell (i := 3) (v := .int .i64 u.st.v.n) rfl; have a4 := hb.cell (i := 4) (v := .int .i64 u.st.time) rfl; have a5 := hb.cell (i := 5) (v := .string u.p) rfl; have a6 := hb.cell (i := 6) (v := .string u.d) rfl; have a7 := hb.cell (i := 7) rfl; have al := hb.lt; have X1 := hid (X0.out.trans hx); have HB1 := hid hb; clear hb hx))
        go_ret
        exact ⟨rfl, X3.out⟩
      | true =>
        rw [chkK_rest h1 h2 h3]
        rw [h3] at H3
        simp only [if_true] at H3
        clear h1 h2 h3
        by_cases h4 : (200 : Int) < u.d.size
        · rw [if_pos h4]
          have d4 : decide ((200 : Int) < u.d.size) = true := decide_eq_true h4
          clear h4
          go_enter Tryz.func162, Tryz.ntmps162
          go_wp2_with (first
            | (go_at_call 175; refine ((H3 _ X2.out).out).mono ?_; rintro e w3 ⟨rfl, hx⟩; have hb := HB2.out.ext hx; have d0 := hb.cell (i := 0) (v := .int .i64 u.item.by_) rfl; have d1 := hb.cell (i := 1) (v := .int .i64 u.item.n) rfl; have d2 := hb.cell (i := 2) (v := .int .i64 u.st.v.by_) rfl; have d3 := hb.cell (i := 3) (v := .int .i64 u.st.v.n) rfl; have d4 := hb.cell (i := 4) (v := .int .i64 u.st.time) rfl; have d5 := hb.cell (i := 5) (v := .string u.p) rfl; have d6 := hb.cell (i := 6) (v := .string u.d) rfl; have d7 := hb.cell (i := 7) rfl; have dl := hb.lt; have X3 := hid (X2.out.trans hx); clear hb hx)
            | (go_at_call 174; refine ((H2 _).out).mono ?_; rintro e w2 ⟨rfl, hx⟩; have hb := HB1.out.ext hx; have b0 := hb.cell (i := 0) (v := .int .i64 u.item.by_) rfl; have b1 := hb.cell (i := 1) (v := .int .i64 u.item.n) rfl; have b2 := hb.cell (i := 2) (v := .int .i64 u.st.v.by_) rfl; have b3 := hb.cell (i := 3) (v := .int .i64 u.st.v.n) rfl; have b4 := hb.cell (i := 4) (v := .int .i64 u.st.time) rfl; have b5 := hb.cell (i := 5) (v := .string u.p) rfl; have b6 := hb.cell (i := 6) (v := .string u.d) rfl; have b7 := hb.cell (i := 7) rfl; have bl := hb.lt; have X2 := hid (X1.out.trans hx); have HB2 := hid hb; clear hb hx)
            | (go_at_call 98; refine ((H1 _).out).mono ?_; rintro e w1 ⟨rfl, hx⟩; have hb := HB.out.ext hx; have a0 := hb.cell (i := 0) (v := .int .i64 u.item.by_) rfl; have a1 := hb.cell (i := 1) (v := .int .i64 u.item.n) rfl; have a2 := hb.cell (i := 2) (v := .int .i64 u.st.v.by_) rfl; have a3 := hb.cell (i := 3) (v := .int .i64 u.st.v.n) rfl; have a4 := hb.cell (i := 4) (v := .int .i64 u.st.time) rfl; have a5 := hb.cell (i := 5) (v := .string u.p) rfl; have a6 := hb.cell (i := 6) (v := .string u.d) rfl; have a7 := hb.cell (i := 7) rfl; have al := hb.lt; have X1 := hid (X0.out.trans hx); have HB1 := hid hb; clear hb hx))
          go_ret
          exact ⟨rfl, X3.out⟩
        · rw [if_neg h4]
          have d4 : decide ((200 : Int) < u.d.size) = false := decide_eq_false h4
          clear h4
          cases h5 : u.dead with
          | false =>
            rw [if_neg (by simp)]
            rw [h5] at HB X0
            go_enter Tryz.func162, Tryz.ntmps162
            go_wp2_with (first
              | (go_at_call 175; refine ((H3 _ X2.out).out).mono ?_; rintro e w3 ⟨rfl, hx⟩; have hb := HB2.out.ext hx; have d0 := hb.cell (i := 0) (v := .int .i64 u.item.by_) rfl; have d1 := hb.cell (i := 1) (v := .int .i64 u.item.n) rfl; have d2 := hb.cell (i := 2) (v := .int .i64 u.st.v.by_) rfl; have d3 := hb.cell (i := 3) (v := .int .i64 u.st.v.n) rfl; have d4 := hb.cell (i := 4) (v := .int .i64 u.st.time) rfl; have d5 := hb.cell (i := 5) (v := .string u.p) rfl; have d6 := hb.cell (i := 6) (v := .string u.d) rfl; have d7 := hb.cell (i := 7) rfl; have dl := hb.lt; have X3 := hid (X2.out.trans hx); clear hb hx)
              | (go_at_call 174; refine ((H2 _).out).mono ?_; rintro e w2 ⟨rfl, hx⟩; have hb := HB1.out.ext hx; have b0 := hb.cell (i := 0) (v := .int .i64 u.item.by_) rfl; have b1 := hb.cell (i := 1) (v := .int .i64 u.item.n) rfl; have b2 := hb.cell (i := 2) (v := .int .i64 u.st.v.by_) rfl; have b3 := hb.cell (i := 3) (v := .int .i64 u.st.v.n) rfl; have b4 := hb.cell (i := 4) (v := .int .i64 u.st.time) rfl; have b5 := hb.cell (i := 5) (v := .string u.p) rfl; have b6 := hb.cell (i := 6) (v := .string u.d) rfl; have b7 := hb.cell (i := 7) rfl; have bl := hb.lt; have X2 := hid (X1.out.trans hx); have HB2 := hid hb; clear hb hx)
              | (go_at_call 98; refine ((H1 _).out).mono ?_; rintro e w1 ⟨rfl, hx⟩; have hb := HB.out.ext hx; have a0 := hb.cell (i := 0) (v := .int .i64 u.item.by_) rfl; have a1 := hb.cell (i := 1) (v := .int .i64 u.item.n) rfl; have a2 := hb.cell (i := 2) (v := .int .i64 u.st.v.by_) rfl; have a3 := hb.cell (i := 3) (v := .int .i64 u.st.v.n) rfl; have a4 := hb.cell (i := 4) (v := .int .i64 u.st.time) rfl; have a5 := hb.cell (i := 5) (v := .string u.p) rfl; have a6 := hb.cell (i := 6) (v := .string u.d) rfl; have a7 := hb.cell (i := 7) rfl; have al := hb.lt; have X1 := hid (X0.out.trans hx); have HB1 := hid hb; clear hb hx))
            go_ret
            exact ⟨rfl, X3.out⟩
          | true =>
            rw [h5] at HB X0
            cases h6 : u.d.toList.isEmpty with
            | true =>
              rw [if_neg (by rw [size_pos, h6]; simp)]
              go_enter Tryz.func162, Tryz.ntmps162
              go_wp2_with (first
                | (go_at_call 175; refine ((H3 _ X2.out).out).mono ?_; rintro e w3 ⟨rfl, hx⟩; have hb := HB2.out.ext hx; have d0 := hb.cell (i := 0) (v := .int .i64 u.item.by_) rfl; have d1 := hb.cell (i := 1) (v := .int .i64 u.item.n) rfl; have d2 := hb.cell (i := 2) (v := .int .i64 u.st.v.by_) rfl; have d3 := hb.cell (i := 3) (v := .int .i64 u.st.v.n) rfl; have d4 := hb.cell (i := 4) (v := .int .i64 u.st.time) rfl; have d5 := hb.cell (i := 5) (v := .string u.p) rfl; have d6 := hb.cell (i := 6) (v := .string u.d) rfl; have d7 := hb.cell (i := 7) rfl; have dl := hb.lt; have X3 := hid (X2.out.trans hx); clear hb hx)
                | (go_at_call 174; refine ((H2 _).out).mono ?_; rintro e w2 ⟨rfl, hx⟩; have hb := HB1.out.ext hx; have b0 := hb.cell (i := 0) (v := .int .i64 u.item.by_) rfl; have b1 := hb.cell (i := 1) (v := .int .i64 u.item.n) rfl; have b2 := hb.cell (i := 2) (v := .int .i64 u.st.v.by_) rfl; have b3 := hb.cell (i := 3) (v := .int .i64 u.st.v.n) rfl; have b4 := hb.cell (i := 4) (v := .int .i64 u.st.time) rfl; have b5 := hb.cell (i := 5) (v := .string u.p) rfl; have b6 := hb.cell (i := 6) (v := .string u.d) rfl; have b7 := hb.cell (i := 7) rfl; have bl := hb.lt; have X2 := hid (X1.out.trans hx); have HB2 := hid hb; clear hb hx)
                | (go_at_call 98; refine ((H1 _).out).mono ?_; rintro e w1 ⟨rfl, hx⟩; have hb := HB.out.ext hx; have a0 := hb.cell (i := 0) (v := .int .i64 u.item.by_) rfl; have a1 := hb.cell (i := 1) (v := .int .i64 u.item.n) rfl; have a2 := hb.cell (i := 2) (v := .int .i64 u.st.v.by_) rfl; have a3 := hb.cell (i := 3) (v := .int .i64 u.st.v.n) rfl; have a4 := hb.cell (i := 4) (v := .int .i64 u.st.time) rfl; have a5 := hb.cell (i := 5) (v := .string u.p) rfl; have a6 := hb.cell (i := 6) (v := .string u.d) rfl; have a7 := hb.cell (i := 7) rfl; have al := hb.lt; have X1 := hid (X0.out.trans hx); have HB1 := hid hb; clear hb hx))
              go_ret
              exact ⟨rfl, X3.out⟩
            | false =>
              rw [if_pos (by rw [size_pos, h6]; simp)]
              go_enter Tryz.func162, Tryz.ntmps162
              go_wp2_with (first
                | (go_at_call 175; refine ((H3 _ X2.out).out).mono ?_; rintro e w3 ⟨rfl, hx⟩; have hb := HB2.out.ext hx; have d0 := hb.cell (i := 0) (v := .int .i64 u.item.by_) rfl; have d1 := hb.cell (i := 1) (v := .int .i64 u.item.n) rfl; have d2 := hb.cell (i := 2) (v := .int .i64 u.st.v.by_) rfl; have d3 := hb.cell (i := 3) (v := .int .i64 u.st.v.n) rfl; have d4 := hb.cell (i := 4) (v := .int .i64 u.st.time) rfl; have d5 := hb.cell (i := 5) (v := .string u.p) rfl; have d6 := hb.cell (i := 6) (v := .string u.d) rfl; have d7 := hb.cell (i := 7) rfl; have dl := hb.lt; have X3 := hid (X2.out.trans hx); clear hb hx)
                | (go_at_call 174; refine ((H2 _).out).mono ?_; rintro e w2 ⟨rfl, hx⟩; have hb := HB1.out.ext hx; have b0 := hb.cell (i := 0) (v := .int .i64 u.item.by_) rfl; have b1 := hb.cell (i := 1) (v := .int .i64 u.item.n) rfl; have b2 := hb.cell (i := 2) (v := .int .i64 u.st.v.by_) rfl; have b3 := hb.cell (i := 3) (v := .int .i64 u.st.v.n) rfl; have b4 := hb.cell (i := 4) (v := .int .i64 u.st.time) rfl; have b5 := hb.cell (i := 5) (v := .string u.p) rfl; have b6 := hb.cell (i := 6) (v := .string u.d) rfl; have b7 := hb.cell (i := 7) rfl; have bl := hb.lt; have X2 := hid (X1.out.trans hx); have HB2 := hid hb; clear hb hx)
                | (go_at_call 98; refine ((H1 _).out).mono ?_; rintro e w1 ⟨rfl, hx⟩; have hb := HB.out.ext hx; have a0 := hb.cell (i := 0) (v := .int .i64 u.item.by_) rfl; have a1 := hb.cell (i := 1) (v := .int .i64 u.item.n) rfl; have a2 := hb.cell (i := 2) (v := .int .i64 u.st.v.by_) rfl; have a3 := hb.cell (i := 3) (v := .int .i64 u.st.v.n) rfl; have a4 := hb.cell (i := 4) (v := .int .i64 u.st.time) rfl; have a5 := hb.cell (i := 5) (v := .string u.p) rfl; have a6 := hb.cell (i := 6) (v := .string u.d) rfl; have a7 := hb.cell (i := 7) rfl; have al := hb.lt; have X1 := hid (X0.out.trans hx); have HB1 := hid hb; clear hb hx))
              go_ret
              exact ⟨rfl, X3.out⟩
end Go.Proofs.YtmbgakjkhgdjnaaGreatDoor
namespace Go.Proofs.YtmbgakjkhgdjnaaGreatDoor
set_option linter.unusedSimpArgs false
set_option linter.unusedVariables false
open Go.RowKit

def rightU (u : UpdI) : Bool := rightV u.item && (rightV u.st.v && (decide (1 ≤ u.st.time) && (Pa.rightK u.p && (decide ((u.d.size : Int) ≤ 200) && (!u.dead || u.d.toList.isEmpty)))))
set_option maxRecDepth 100000 in
set_option maxHeartbeats 4000000 in
theorem uright_c (w : World) (u : UpdI) (hu : u.p.size ≤ 90000) : Calls Tryz.prog 73 #[u.val] w (Ret (.bool (rightU u)) w) := by
  have H1 := fun W => hid (vright_c u.item W)
  have H2 := fun W => hid (vright_c u.st.v W)
  have H3 := fun W => hid (Pa.right_c u.p W (by omega))
  have HB0 := hid (Blk.new w 64 #[.int .i64 u.item.by_, .int .i64 u.item.n, .int .i64 u.st.v.by_, .int .i64 u.st.v.n, .int .i64 u.st.time, .string u.p, .string u.d, .bool u.dead])
  have X0 := hid (Ext.alloc w (.cells #[.int .i64 u.item.by_, .int .i64 u.item.n, .int .i64 u.st.v.by_, .int .i64 u.st.v.n, .int .i64 u.st.time, .string u.p, .string u.d, .bool u.dead] 64))
  unfold Ver.val at H1 H2
  unfold rightU UpdI.val
  clear hu
  cases h1 : rightV u.item with
  | false =>
    rw [h1] at H1
    clear h1 H2 H3
    go_enter Tryz.func73, Tryz.ntmps73
    go_wp2_with (first
      | (go_at_call 125; have hx0 := X2.out; clear hx0; refine ((H3 _).out).mono ?_; rintro e w3 ⟨rfl, hx⟩; have hb := HB2.out.ext hx; have d0 := hb.cell (i := 0) (v := .int .i64 u.item.by_) rfl; have d1 := hb.cell (i := 1) (v := .int .i64 u.item.n) rfl; have d2 := hb.cell (i := 2) (v := .int .i64 u.st.v.by_) rfl; have d3 := hb.cell (i := 3) (v := .int .i64 u.st.v.n) rfl; have d4 := hb.cell (i := 4) (v := .int .i64 u.st.time) rfl; have d5 := hb.cell (i := 5) (v := .string u.p) rfl; have d6 := hb.cell (i := 6) (v := .string u.d) rfl; have d7 := hb.cell (i := 7) rfl; have dl := hb.lt; have X3 := hid (X2.out.trans hx); have HB3 := hid hb; clear hb hx X2)
      | (go_at_call 46; have hx0 := X1.out; clear hx0; refine ((H2 _).out).mono ?_; rintro e w2 ⟨rfl, hx⟩; have hb := HB1.out.ext hx; have b0 := hb.cell (i := 0) (v := .int .i64 u.item.by_) rfl; have b1 := hb.cell (i := 1) (v := .int .i64 u.item.n) rfl; have b2 := hb.cell (i := 2) (v := .int .i64 u.st.v.by_) rfl; have b3 := hb.cell (i := 3) (v := .int .i64 u.st.v.n) rfl; have b4 := hb.cell (i := 4) (v := .int .i64 u.st.time) rfl; have b5 := hb.cell (i := 5) (v := .string u.p) rfl; have b6 := hb.cell (i := 6) (v := .string u.d) rfl; have b7 := hb.cell (i := 7) rfl; have bl := hb.lt; have X2 := hid (X1.out.trans hx); have HB2 := hid hb; clear hb hx X1)
      | (go_at_call 46; have hx0 := X0.out; clear hx0; refine ((H1 _).out).mono ?_; rintro e w1 ⟨rfl, hx⟩; have hb := HB0.out.ext hx; have a0 := hb.cell (i := 0) (v := .int .i64 u.item.by_) rfl; have a1 := hb.cell (i := 1) (v := .int .i64 u.item.n) rfl; have a2 := hb.cell (i := 2) (v := .int .i64 u.st.v.by_) rfl; have a3 := hb.cell (i := 3) (v := .int .i64 u.st.v.n) rfl; have a4 := hb.cell (i := 4) (v := .int .i64 u.st.time) rfl; have a5 := hb.cell (i := 5) (v := .string u.p) rfl; have a6 := hb.cell (i := 6) (v := .string u.d) rfl; have a7 := hb.cell (i := 7) rfl; have al := hb.lt; have X1 := hid (X0.out.trans hx); have HB1 := hid hb; clear hb hx X0))
    go_ret
    exact ⟨rfl, X1.out⟩
  | true =>
    rw [h1] at H1
    cases h2 : rightV u.st.v with
    | false =>
      rw [h2] at H2
      clear h1 h2 H3
      go_enter Tryz.func73, Tryz.ntmps73
      go_wp2_with (first
        | (go_at_call 125; have hx0 := X2.out; clear hx0; refine ((H3 _).out).mono ?_; rintro e w3 ⟨rfl, hx⟩; have hb := HB2.out.ext hx; have d0 := hb.cell (i := 0) (v := .int .i64 u.item.by_) rfl; have d1 := hb.cell (i := 1) (v := .int .i64 u.item.n) rfl; have d2 := hb.cell (i := 2) (v := .int .i64 u.st.v.by_) rfl; have d3 := hb.cell (i := 3) (v := .int .i64 u.st.v.n) rfl; have d4 := hb.cell (i := 4) (v := .int .i64 u.st.time) rfl; have d5 := hb.cell (i := 5) (v := .string u.p) rfl; have d6 := hb.cell (i := 6) (v := .string u.d) rfl; have d7 := hb.cell (i := 7) rfl; have dl := hb.lt; have X3 := hid (X2.out.trans hx); have HB3 := hid hb; clear hb hx X2)
        | (go_at_call 46; have hx0 := X1.out; clear hx0; refine ((H2 _).out).mono ?_; rintro e w2 ⟨rfl, hx⟩; have hb := HB1.out.ext hx; have b0 := hb.cell (i := 0) (v := .int .i64 u.item.by_) rfl; have b1 := hb.cell (i := 1) (v := .int .i64 u.item.n) rfl; have b2 := hb.cell (i := 2) (v := .int .i64 u.st.v.by_) rfl; have b3 := hb.cell (i := 3) (v := .int .i64 u.st.v.n) rfl; have b4 := hb.cell (i := 4) (v := .int .i64 u.st.time) rfl; have b5 := hb.cell (i := 5) (v := .string u.p) rfl; have b6 := hb.cell (i := 6) (v := .string u.d) rfl; have b7 := hb.cell (i := 7) rfl; have bl := hb.lt; have X2 := hid (X1.out.trans hx); have HB2 := hid hb; clear hb hx X1)
        | (go_at_call 46; have hx0 := X0.out; clear hx0; refine ((H1 _).out).mono ?_; rintro e w1 ⟨rfl, hx⟩; have hb := HB0.out.ext hx; have a0 := hb.cell (i := 0) (v := .int .i64 u.item.by_) rfl; have a1 := hb.cell (i := 1) (v := .int .i64 u.item.n) rfl; have a2 := hb.cell (i := 2) (v := .int .i64 u.st.v.by_) rfl; have a3 := hb.cell (i := 3) (v := .int .i64 u.st.v.n) rfl; have a4 := hb.cell (i := 4) (v := .int .i64 u.st.time) rfl; have a5 := hb.cell (i := 5) (v := .string u.p) rfl; have a6 := hb.cell (i := 6) (v := .string u.d) rfl; have a7 := hb.cell (i := 7) rfl; have al := hb.lt; have X1 := hid (X0.out.trans hx); have HB1 := hid hb; clear hb hx X0))
      go_ret
      exact ⟨rfl, X2.out⟩
    | true =>
      rw [h2] at H2
      cases h3 : decide (1 ≤ u.st.time) with
      | false =>
        clear h1 h2
        go_enter Tryz.func73, Tryz.ntmps73
        go_wp2_with (first
          | (go_at_call 125; have hx0 := X2.out; clear hx0; refine ((H3 _).out).mono ?_; rintro e w3 ⟨rfl, hx⟩; have hb := HB2.out.ext hx; have d0 := hb.cell (i := 0) (v := .int .i64 u.item.by_) rfl; have d1 := hb.cell (i := 1) (v := .int .i64 u.item.n) rfl; have d2 := hb.cell (i := 2) (v := .int .i64 u.st.v.by_) rfl; have d3 := hb.cell (i := 3) (v := .int .i64 u.st.v.n) rfl; have d4 := hb.cell (i := 4) (v := .int .i64 u.st.time) rfl; have d5 := hb.cell (i := 5) (v := .string u.p) rfl; have d6 := hb.cell (i := 6) (v := .string u.d) rfl; have d7 := hb.cell (i := 7) rfl; have dl := hb.lt; have X3 := hid (X2.out.trans hx); have HB3 := hid hb; clear hb hx X2)
          | (go_at_call 46; have hx0 := X1.out; clear hx0; refine ((H2 _).out).mono ?_; rintro e w2 ⟨rfl, hx⟩; have hb := HB1.out.ext hx; have b0 := hb.cell (i := 0) (v := .int .i64 u.item.by_) rfl; have b1 := hb.cell (i := 1) (v := .int .i64 u.item.n) rfl; have b2 := hb.cell (i := 2) (v := .int .i64 u.st.v.by_) rfl; have b3 := hb.cell (i := 3) (v := .int .i64 u.st.v.n) rfl; have b4 := hb.cell (i := 4) (v := .int .i64 u.st.time) rfl; have b5 := hb.cell (i := 5) (v := .string u.p) rfl; have b6 := hb.cell (i := 6) (v := .string u.d) rfl; have b7 := hb.cell (i := 7) rfl; have bl := hb.lt; have X2 := hid (X1.out.trans hx); have HB2 := hid hb; clear hb hx X1)
          | (go_at_call 46; have hx0 := X0.out; clear hx0; refine ((H1 _).out).mono ?_; rintro e w1 ⟨rfl, hx⟩; have hb := HB0.out.ext hx; have a0 := hb.cell (i := 0) (v := .int .i64 u.item.by_) rfl; have a1 := hb.cell (i := 1) (v := .int .i64 u.item.n) rfl; have a2 := hb.cell (i := 2) (v := .int .i64 u.st.v.by_) rfl; have a3 := hb.cell (i := 3) (v := .int .i64 u.st.v.n) rfl; have a4 := hb.cell (i := 4) (v := .int .i64 u.st.time) rfl; have a5 := hb.cell (i := 5) (v := .string u.p) rfl; have a6 := hb.cell (i := 6) (v := .string u.d) rfl; have a7 := hb.cell (i := 7) rfl; have al := hb.lt; have X1 := hid (X0.out.trans hx); have HB1 := hid hb; clear hb hx X0))
        go_ret
        exact ⟨rfl, X2.out⟩
      | true =>
        cases h4 : Pa.rightK u.p with
        | false =>
          rw [h4] at H3
          clear h1 h2 h4
          go_enter Tryz.func73, Tryz.ntmps73
          go_wp2_with (first
            | (go_at_call 125; have hx0 := X2.out; clear hx0; refine ((H3 _).out).mono ?_; rintro e w3 ⟨rfl, hx⟩; have hb := HB2.out.ext hx; have d0 := hb.cell (i := 0) (v := .int .i64 u.item.by_) rfl; have d1 := hb.cell (i := 1) (v := .int .i64 u.item.n) rfl; have d2 := hb.cell (i := 2) (v := .int .i64 u.st.v.by_) rfl; have d3 := hb.cell (i := 3) (v := .int .i64 u.st.v.n) rfl; have d4 := hb.cell (i := 4) (v := .int .i64 u.st.time) rfl; have d5 := hb.cell (i := 5) (v := .string u.p) rfl; have d6 := hb.cell (i := 6) (v := .string u.d) rfl; have d7 := hb.cell (i := 7) rfl; have dl := hb.lt; have X3 := hid (X2.out.trans hx); have HB3 := hid hb; clear hb hx X2)
            | (go_at_call 46; have hx0 := X1.out; clear hx0; refine ((H2 _).out).mono ?_; rintro e w2 ⟨rfl, hx⟩; have hb := HB1.out.ext hx; have b0 := hb.cell (i := 0) (v := .int .i64 u.item.by_) rfl; have b1 := hb.cell (i := 1) (v := .int .i64 u.item.n) rfl; have b2 := hb.cell (i := 2) (v := .int .i64 u.st.v.by_) rfl; have b3 := hb.cell (i := 3) (v := .int .i64 u.st.v.n) rfl; have b4 := hb.cell (i := 4) (v := .int .i64 u.st.time) rfl; have b5 := hb.cell (i := 5) (v := .string u.p) rfl; have b6 := hb.cell (i := 6) (v := .string u.d) rfl; have b7 := hb.cell (i := 7) rfl; have bl := hb.lt; have X2 := hid (X1.out.trans hx); have HB2 := hid hb; clear hb hx X1)
            | (go_at_call 46; have hx0 := X0.out; clear hx0; refine ((H1 _).out).mono ?_; rintro e w1 ⟨rfl, hx⟩; have hb := HB0.out.ext hx; have a0 := hb.cell (i := 0) (v := .int .i64 u.item.by_) rfl; have a1 := hb.cell (i := 1) (v := .int .i64 u.item.n) rfl; have a2 := hb.cell (i := 2) (v := .int .i64 u.st.v.by_) rfl; have a3 := hb.cell (i := 3) (v := .int .i64 u.st.v.n) rfl; have a4 := hb.cell (i := 4) (v := .int .i64 u.st.time) rfl; have a5 := hb.cell (i := 5) (v := .string u.p) rfl; have a6 := hb.cell (i := 6) (v := .string u.d) rfl; have a7 := hb.cell (i := 7) rfl; have al := hb.lt; have X1 := hid (X0.out.trans hx); have HB1 := hid hb; clear hb hx X0))
          go_ret
          exact ⟨rfl, X3.out⟩
        | true =>
          rw [h4] at H3
          clear h1 h2 h4
          cases h5 : decide ((u.d.size : Int) ≤ 200) with
          | false =>
            go_enter Tryz.func73, Tryz.ntmps73
            go_wp2_with (first
              | (go_at_call 125; have hx0 := X2.out; clear hx0; refine ((H3 _).out).mono ?_; rintro e w3 ⟨rfl, hx⟩; have hb := HB2.out.ext hx; have d0 := hb.cell (i := 0) (v := .int .i64 u.item.by_) rfl; have d1 := hb.cell (i := 1) (v := .int .i64 u.item.n) rfl; have d2 := hb.cell (i := 2) (v := .int .i64 u.st.v.by_) rfl; have d3 := hb.cell (i := 3) (v := .int .i64 u.st.v.n) rfl; have d4 := hb.cell (i := 4) (v := .int .i64 u.st.time) rfl; have d5 := hb.cell (i := 5) (v := .string u.p) rfl; have d6 := hb.cell (i := 6) (v := .string u.d) rfl; have d7 := hb.cell (i := 7) rfl; have dl := hb.lt; have X3 := hid (X2.out.trans hx); have HB3 := hid hb; clear hb hx X2)
              | (go_at_call 46; have hx0 := X1.out; clear hx0; refine ((H2 _).out).mono ?_; rintro e w2 ⟨rfl, hx⟩; have hb := HB1.out.ext hx; have b0 := hb.cell (i := 0) (v := .int .i64 u.item.by_) rfl; have b1 := hb.cell (i := 1) (v := .int .i64 u.item.n) rfl; have b2 := hb.cell (i := 2) (v := .int .i64 u.st.v.by_) rfl; have b3 := hb.cell (i := 3) (v := .int .i64 u.st.v.n) rfl; have b4 := hb.cell (i := 4) (v := .int .i64 u.st.time) rfl; have b5 := hb.cell (i := 5) (v := .string u.p) rfl; have b6 := hb.cell (i := 6) (v := .string u.d) rfl; have b7 := hb.cell (i := 7) rfl; have bl := hb.lt; have X2 := hid (X1.out.trans hx); have HB2 := hid hb; clear hb hx X1)
              | (go_at_call 46; have hx0 := X0.out; clear hx0; refine ((H1 _).out).mono ?_; rintro e w1 ⟨rfl, hx⟩; have hb := HB0.out.ext hx; have a0 := hb.cell (i := 0) (v := .int .i64 u.item.by_) rfl; have a1 := hb.cell (i := 1) (v := .int .i64 u.item.n) rfl; have a2 := hb.cell (i := 2) (v := .int .i64 u.st.v.by_) rfl; have a3 := hb.cell (i := 3) (v := .int .i64 u.st.v.n) rfl; have a4 := hb.cell (i := 4) (v := .int .i64 u.st.time) rfl; have a5 := hb.cell (i := 5) (v := .string u.p) rfl; have a6 := hb.cell (i := 6) (v := .string u.d) rfl; have a7 := hb.cell (i := 7) rfl; have al := hb.lt; have X1 := hid (X0.out.trans hx); have HB1 := hid hb; clear hb hx X0))
            go_ret
            exact ⟨rfl, X3.out⟩
          | true =>
            cases h6 : u.dead with
            | false =>
              rw [h6] at HB0 X0
              go_enter Tryz.func73, Tryz.ntmps73
              go_wp2_with (first
                | (go_at_call 125; have hx0 := X2.out; clear hx0; refine ((H3 _).out).mono ?_; rintro e w3 ⟨rfl, hx⟩; have hb := HB2.out.ext hx; have d0 := hb.cell (i := 0) (v := .int .i64 u.item.by_) rfl; have d1 := hb.cell (i := 1) (v := .int .i64 u.item.n) rfl; have d2 := hb.cell (i := 2) (v := .int .i64 u.st.v.by_) rfl; have d3 := hb.cell (i := 3) (v := .int .i64 u.st.v.n) rfl; have d4 := hb.cell (i := 4) (v := .int .i64 u.st.time) rfl; have d5 := hb.cell (i := 5) (v := .string u.p) rfl; have d6 := hb.cell (i := 6) (v := .string u.d) rfl; have d7 := hb.cell (i := 7) rfl; have dl := hb.lt; have X3 := hid (X2.out.trans hx); have HB3 := hid hb; clear hb hx X2)
                | (go_at_call 46; have hx0 := X1.out; clear hx0; refine ((H2 _).out).mono ?_; rintro e w2 ⟨rfl, hx⟩; have hb := HB1.out.ext hx; have b0 := hb.cell (i := 0) (v := .int .i64 u.item.by_) rfl; have b1 := hb.cell (i := 1) (v := .int .i64 u.item.n) rfl; have b2 := hb.cell (i := 2) (v := .int .i64 u.st.v.by_) rfl; have b3 := hb.cell (i := 3) (v := .int .i64 u.st.v.n) rfl; have b4 := hb.cell (i := 4) (v := .int .i64 u.st.time) rfl; have b5 := hb.cell (i := 5) (v := .string u.p) rfl; have b6 := hb.cell (i := 6) (v := .string u.d) rfl; have b7 := hb.cell (i := 7) rfl; have bl := hb.lt; have X2 := hid (X1.out.trans hx); have HB2 := hid hb; clear hb hx X1)
                | (go_at_call 46; have hx0 := X0.out; clear hx0; refine ((H1 _).out).mono ?_; rintro e w1 ⟨rfl, hx⟩; have hb := HB0.out.ext hx; have a0 := hb.cell (i := 0) (v := .int .i64 u.item.by_) rfl; have a1 := hb.cell (i := 1) (v := .int .i64 u.item.n) rfl; have a2 := hb.cell (i := 2) (v := .int .i64 u.st.v.by_) rfl; have a3 := hb.cell (i := 3) (v := .int .i64 u.st.v.n) rfl; have a4 := hb.cell (i := 4) (v := .int .i64 u.st.time) rfl; have a5 := hb.cell (i := 5) (v := .string u.p) rfl; have a6 := hb.cell (i := 6) (v := .string u.d) rfl; have a7 := hb.cell (i := 7) rfl; have al := hb.lt; have X1 := hid (X0.out.trans hx); have HB1 := hid hb; clear hb hx X0))
              go_ret
              exact ⟨rfl, X3.out⟩
            | true =>
              rw [h6] at HB0 X0
              cases h7 : u.d.toList.isEmpty with
              | true =>
                go_enter Tryz.func73, Tryz.ntmps73
                go_wp2_with (first
                  | (go_at_call 125; have hx0 := X2.out; clear hx0; refine ((H3 _).out).mono ?_; rintro e w3 ⟨rfl, hx⟩; have hb := HB2.out.ext hx; have d0 := hb.cell (i := 0) (v := .int .i64 u.item.by_) rfl; have d1 := hb.cell (i := 1) (v := .int .i64 u.item.n) rfl; have d2 := hb.cell (i := 2) (v := .int .i64 u.st.v.by_) rfl; have d3 := hb.cell (i := 3) (v := .int .i64 u.st.v.n) rfl; have d4 := hb.cell (i := 4) (v := .int .i64 u.st.time) rfl; have d5 := hb.cell (i := 5) (v := .string u.p) rfl; have d6 := hb.cell (i := 6) (v := .string u.d) rfl; have d7 := hb.cell (i := 7) rfl; have dl := hb.lt; have X3 := hid (X2.out.trans hx); have HB3 := hid hb; clear hb hx X2)
                  | (go_at_call 46; have hx0 := X1.out; clear hx0; refine ((H2 _).out).mono ?_; rintro e w2 ⟨rfl, hx⟩; have hb := HB1.out.ext hx; have b0 := hb.cell (i := 0) (v := .int .i64 u.item.by_) rfl; have b1 := hb.cell (i := 1) (v := .int .i64 u.item.n) rfl; have b2 := hb.cell (i := 2) (v := .int .i64 u.st.v.by_) rfl; have b3 := hb.cell (i := 3) (v := .int .i64 u.st.v.n) rfl; have b4 := hb.cell (i := 4) (v := .int .i64 u.st.time) rfl; have b5 := hb.cell (i := 5) (v := .string u.p) rfl; have b6 := hb.cell (i := 6) (v := .string u.d) rfl; have b7 := hb.cell (i := 7) rfl; have bl := hb.lt; have X2 := hid (X1.out.trans hx); have HB2 := hid hb; clear hb hx X1)
                  | (go_at_call 46; have hx0 := X0.out; clear hx0; refine ((H1 _).out).mono ?_; rintro e w1 ⟨rfl, hx⟩; have hb := HB0.out.ext hx; have a0 := hb.cell (i := 0) (v := .int .i64 u.item.by_) rfl; have a1 := hb.cell (i := 1) (v := .int .i64 u.item.n) rfl; have a2 := hb.cell (i := 2) (v := .int .i64 u.st.v.by_) rfl; have a3 := hb.cell (i := 3) (v := .int .i64 u.st.v.n) rfl; have a4 := hb.cell (i := 4) (v := .int .i64 u.st.time) rfl; have a5 := hb.cell (i := 5) (v := .string u.p) rfl; have a6 := hb.cell (i := 6) (v := .string u.d) rfl; have a7 := hb.cell (i := 7) rfl; have al := hb.lt; have X1 := hid (X0.out.trans hx); have HB1 := hid hb; clear hb hx X0))
                go_ret
                exact ⟨rfl, X3.out⟩
              | false =>
                go_enter Tryz.func73, Tryz.ntmps73
                go_wp2_with (first
                  | (go_at_call 125; have hx0 := X2.out; clear hx0; refine ((H3 _).out).mono ?_; rintro e w3 ⟨rfl, hx⟩; have hb := HB2.out.ext hx; have d0 := hb.cell (i := 0) (v := .int .i64 u.item.by_) rfl; have d1 := hb.cell (i := 1) (v := .int .i64 u.item.n) rfl; have d2 := hb.cell (i := 2) (v := .int .i64 u.st.v.by_) rfl; have d3 := hb.cell (i := 3) (v := .int .i64 u.st.v.n) rfl; have d4 := hb.cell (i := 4) (v := .int .i64 u.st.time) rfl; have d5 := hb.cell (i := 5) (v := .string u.p) rfl; have d6 := hb.cell (i := 6) (v := .string u.d) rfl; have d7 := hb.cell (i := 7) rfl; have dl := hb.lt; have X3 := hid (X2.out.trans hx); have HB3 := hid hb; clear hb hx X2)
                  | (go_at_call 46; have hx0 := X1.out; clear hx0; refine ((H2 _).out).mono ?_; rintro e w2 ⟨rfl, hx⟩; have hb := HB1.out.ext hx; have b0 := hb.cell (i := 0) (v := .int .i64 u.item.by_) rfl; have b1 := hb.cell (i := 1) (v := .int .i64 u.item.n) rfl; have b2 := hb.cell (i := 2) (v := .int .i64 u.st.v.by_) rfl; have b3 := hb.cell (i := 3) (v := .int .i64 u.st.v.n) rfl; have b4 := hb.cell (i := 4) (v := .int .i64 u.st.time) rfl; have b5 := hb.cell (i := 5) (v := .string u.p) rfl; have b6 := hb.cell (i := 6) (v := .string u.d) rfl; have b7 := hb.cell (i := 7) rfl; have bl := hb.lt; have X2 := hid (X1.out.trans hx); have HB2 := hid hb; clear hb hx X1)
                  | (go_at_call 46; have hx0 := X0.out; clear hx0; refine ((H1 _).out).mono ?_; rintro e w1 ⟨rfl, hx⟩; have hb := HB0.out.ext hx; have a0 := hb.cell (i := 0) (v := .int .i64 u.item.by_) rfl; have a1 := hb.cell (i := 1) (v := .int .i64 u.item.n) rfl; have a2 := hb.cell (i := 2) (v := .int .i64 u.st.v.by_) rfl; have a3 := hb.cell (i := 3) (v := .int .i64 u.st.v.n) rfl; have a4 := hb.cell (i := 4) (v := .int .i64 u.st.time) rfl; have a5 := hb.cell (i := 5) (v := .string u.p) rfl; have a6 := hb.cell (i := 6) (v := .string u.d) rfl; have a7 := hb.cell (i := 7) rfl; have al := hb.lt; have X1 := hid (X0.out.trans hx); have HB1 := hid hb; clear hb hx X0))
                go_ret
                exact ⟨rfl, X3.out⟩
set_option maxRecDepth 100000 in
set_option maxHeartbeats 4000000 in
theorem rcheckm_c (w : World) (u : MetaI) (hu : u.p.size ≤ 90000) : Calls Tryz.prog 74 #[u.val] w (Ret (.int .i64 u.chk) w) := by
  have H1 := fun W => hid (vright_c u.item W)
  have H2 := fun W => hid (vright_c u.st.v W)
  have H3 := fun W => hid (Pa.right_c u.p W (by omega))
  have HB0 := hid (Blk.new w 66 #[.int .i64 u.item.by_, .int .i64 u.item.n, .int .i64 u.st.v.by_, .int .i64 u.st.v.n, .int .i64 u.st.time, .string u.p, .int .i64 u.size, .bool u.dead])
  have X0 := hid (Ext.alloc w (.cells #[.int .i64 u.item.by_, .int .i64 u.item.n, .int .i64 u.st.v.by_, .int .i64 u.st.v.n, .int .i64 u.st.time, .string u.p, .int .i64 u.size, .bool u.dead] 66))
  unfold Ver.val at H1 H2
  unfold MetaI.chk MetaI.val
  clear hu
  cases h1 : rightV u.item with
  | false =>
    rw [chkK_arg (.inl h1)]
    rw [h1] at H1
    clear h1 H2 H3 
    go_enter Tryz.func74, Tryz.ntmps74
    go_wp2_with (first
      | (go_at_call 125; have hx0 := X2.out; clear hx0; refine ((H3 _).out).mono ?_; rintro e w3 ⟨rfl, hx⟩; have hb := HB2.out.ext hx; have d0 := hb.cell (i := 0) (v := .int .i64 u.item.by_) rfl; have d1 := hb.cell (i := 1) (v := .int .i64 u.item.n) rfl; have d2 := hb.cell (i := 2) (v := .int .i64 u.st.v.by_) rfl; have d3 := hb.cell (i := 3) (v := .int .i64 u.st.v.n) rfl; have d4 := hb.cell (i := 4) (v := .int .i64 u.st.time) rfl; have d5 := hb.cell (i := 5) (v := .string u.p) rfl; have d6 := hb.cell (i := 6) (v := .int .i64 u.size) rfl; have d7 := hb.cell (i := 7) rfl; have dl := hb.lt; have X3 := hid (X2.out.trans hx); have HB3 := hid hb; clear hb hx X2)
      | (go_at_call 46; have hx0 := X1.out; clear hx0; refine ((H2 _).out).mono ?_; rintro e w2 ⟨rfl, hx⟩; have hb := HB1.out.ext hx; have b0 := hb.cell (i := 0) (v := .int .i64 u.item.by_) rfl; have b1 := hb.cell (i := 1) (v := .int .i64 u.item.n) rfl; have b2 := hb.cell (i := 2) (v := .int .i64 u.st.v.by_) rfl; have b3 := hb.cell (i := 3) (v := .int .i64 u.st.v.n) rfl; have b4 := hb.cell (i := 4) (v := .int .i64 u.st.time) rfl; have b5 := hb.cell (i := 5) (v := .string u.p) rfl; have b6 := hb.cell (i := 6) (v := .int .i64 u.size) rfl; have b7 := hb.cell (i := 7) rfl; have bl := hb.lt; have X2 := hid (X1.out.trans hx); have HB2 := hid hb; clear hb hx X1)
      | (go_at_call 46; have hx0 := X0.out; clear hx0; refine ((H1 _).out).mono ?_; rintro e w1 ⟨rfl, hx⟩; have hb := HB0.out.ext hx; have a0 := hb.cell (i := 0) (v := .int .i64 u.item.by_) rfl; have a1 := hb.cell (i := 1) (v := .int .i64 u.item.n) rfl; have a2 := hb.cell (i := 2) (v := .int .i64 u.st.v.by_) rfl; have a3 := hb.cell (i := 3) (v := .int .i64 u.st.v.n) rfl; have a4 := hb.cell (i := 4) (v := .int .i64 u.st.time) rfl; have a5 := hb.cell (i := 5) (v := .string u.p) rfl; have a6 := hb.cell (i := 6) (v := .int .i64 u.size) rfl; have a7 := hb.cell (i := 7) rfl; have al := hb.lt; have X1 := hid (X0.out.trans hx); have HB1 := hid hb; clear hb hx X0))
    go_ret
    exact ⟨rfl, X1.out⟩
  | true =>
    rw [h1] at H1
    cases h2 : rightV u.st.v with
    | false =>
      rw [chkK_arg (.inr (by unfold rightS; rw [h2, Bool.and_false]))]
      rw [h2] at H2
      clear h1 h2 H3 
      go_enter Tryz.func74, Tryz.ntmps74
      go_wp2_with (first
        | (go_at_call 125; have hx0 := X2.out; clear hx0; refine ((H3 _).out).mono ?_; rintro e w3 ⟨rfl, hx⟩; have hb := HB2.out.ext hx; have d0 := hb.cell (i := 0) (v := .int .i64 u.item.by_) rfl; have d1 := hb.cell (i := 1) (v := .int .i64 u.item.n) rfl; have d2 := hb.cell (i := 2) (v := .int .i64 u.st.v.by_) rfl; have d3 := hb.cell (i := 3) (v := .int .i64 u.st.v.n) rfl; have d4 := hb.cell (i := 4) (v := .int .i64 u.st.time) rfl; have d5 := hb.cell (i := 5) (v := .string u.p) rfl; have d6 := hb.cell (i := 6) (v := .int .i64 u.size) rfl; have d7 := hb.cell (i := 7) rfl; have dl := hb.lt; have X3 := hid (X2.out.trans hx); have HB3 := hid hb; clear hb hx X2)
        | (go_at_call 46; have hx0 := X1.out; clear hx0; refine ((H2 _).out).mono ?_; rintro e w2 ⟨rfl, hx⟩; have hb := HB1.out.ext hx; have b0 := hb.cell (i := 0) (v := .int .i64 u.item.by_) rfl; have b1 := hb.cell (i := 1) (v := .int .i64 u.item.n) rfl; have b2 := hb.cell (i := 2) (v := .int .i64 u.st.v.by_) rfl; have b3 := hb.cell (i := 3) (v := .int .i64 u.st.v.n) rfl; have b4 := hb.cell (i := 4) (v := .int .i64 u.st.time) rfl; have b5 := hb.cell (i := 5) (v := .string u.p) rfl; have b6 := hb.cell (i := 6) (v := .int .i64 u.size) rfl; have b7 := hb.cell (i := 7) rfl; have bl := hb.lt; have X2 := hid (X1.out.trans hx); have HB2 := hid hb; clear hb hx X1)
        | (go_at_call 46; have hx0 := X0.out; clear hx0; refine ((H1 _).out).mono ?_; rintro e w1 ⟨rfl, hx⟩; have hb := HB0.out.ext hx; have a0 := hb.cell (i := 0) (v := .int .i64 u.item.by_) rfl; have a1 := hb.cell (i := 1) (v := .int .i64 u.item.n) rfl; have a2 := hb.cell (i := 2) (v := .int .i64 u.st.v.by_) rfl; have a3 := hb.cell (i := 3) (v := .int .i64 u.st.v.n) rfl; have a4 := hb.cell (i := 4) (v := .int .i64 u.st.time) rfl; have a5 := hb.cell (i := 5) (v := .string u.p) rfl; have a6 := hb.cell (i := 6) (v := .int .i64 u.size) rfl; have a7 := hb.cell (i := 7) rfl; have al := hb.lt; have X1 := hid (X0.out.trans hx); have HB1 := hid hb; clear hb hx X0))
      go_ret
      exact ⟨rfl, X2.out⟩
    | true =>
      rw [h2] at H2
      cases h3 : decide (u.st.time < 1) with
      | true =>
        have h3' : decide (1 ≤ u.st.time) = false := by simp at h3 ⊢; omega
        rw [chkK_arg (.inr (by unfold rightS; rw [h3', Bool.false_and]))]
        clear h1 h2 h3' 
        go_enter Tryz.func74, Tryz.ntmps74
        go_wp2_with (first
          | (go_at_call 125; have hx0 := X2.out; clear hx0; refine ((H3 _).out).mono ?_; rintro e w3 ⟨rfl, hx⟩; have hb := HB2.out.ext hx; have d0 := hb.cell (i := 0) (v := .int .i64 u.item.by_) rfl; have d1 := hb.cell (i := 1) (v := .int .i64 u.item.n) rfl; have d2 := hb.cell (i := 2) (v := .int .i64 u.st.v.by_) rfl; have d3 := hb.cell (i := 3) (v := .int .i64 u.st.v.n) rfl; have d4 := hb.cell (i := 4) (v := .int .i64 u.st.time) rfl; have d5 := hb.cell (i := 5) (v := .string u.p) rfl; have d6 := hb.cell (i := 6) (v := .int .i64 u.size) rfl; have d7 := hb.cell (i := 7) rfl; have dl := hb.lt; have X3 := hid (X2.out.trans hx); have HB3 := hid hb; clear hb hx X2)
          | (go_at_call 46; have hx0 := X1.out; clear hx0; refine ((H2 _).out).mono ?_; rintro e w2 ⟨rfl, hx⟩; have hb := HB1.out.ext hx; have b0 := hb.cell (i := 0) (v := .int .i64 u.item.by_) rfl; have b1 := hb.cell (i := 1) (v := .int .i64 u.item.n) rfl; have b2 := hb.cell (i := 2) (v := .int .i64 u.st.v.by_) rfl; have b3 := hb.cell (i := 3) (v := .int .i64 u.st.v.n) rfl; have b4 := hb.cell (i := 4) (v := .int .i64 u.st.time) rfl; have b5 := hb.cell (i := 5) (v := .string u.p) rfl; have b6 := hb.cell (i := 6) (v := .int .i64 u.size) rfl; have b7 := hb.cell (i := 7) rfl; have bl := hb.lt; have X2 := hid (X1.out.trans hx); have HB2 := hid hb; clear hb hx X1)
          | (go_at_call 46; have hx0 := X0.out; clear hx0; refine ((H1 _).out).mono ?_; rintro e w1 ⟨rfl, hx⟩; have hb := HB0.out.ext hx; have a0 := hb.cell (i := 0) (v := .int .i64 u.item.by_) rfl; have a1 := hb.cell (i := 1) (v := .int .i64 u.item.n) rfl; have a2 := hb.cell (i := 2) (v := .int .i64 u.st.v.by_) rfl; have a3 := hb.cell (i := 3) (v := .int .i64 u.st.v.n) rfl; have a4 := hb.cell (i := 4) (v := .int .i64 u.st.time) rfl; have a5 := hb.cell (i := 5) (v := .string u.p) rfl; have a6 := hb.cell (i := 6) (v := .int .i64 u.size) rfl; have a7 := hb.cell (i := 7) rfl; have al := hb.lt; have X1 := hid (X0.out.trans hx); have HB1 := hid hb; clear hb hx X0))
        go_ret
        exact ⟨rfl, X2.out⟩
      | false =>
        have h3' : decide (1 ≤ u.st.time) = true := by simp at h3 ⊢; omega
        have hs : rightS u.st = true := by unfold rightS; rw [h2, h3']; rfl
        cases h4 : Pa.rightK u.p with
        | false =>
          rw [chkK_path h1 hs h4]
          rw [h4] at H3
          clear h1 h2 h4 h3' hs 
          go_enter Tryz.func74, Tryz.ntmps74
          go_wp2_with (first
            | (go_at_call 125; have hx0 := X2.out; clear hx0; refine ((H3 _).out).mono ?_; rintro e w3 ⟨rfl, hx⟩; have hb := HB2.out.ext hx; have d0 := hb.cell (i := 0) (v := .int .i64 u.item.by_) rfl; have d1 := hb.cell (i := 1) (v := .int .i64 u.item.n) rfl; have d2 := hb.cell (i := 2) (v := .int .i64 u.st.v.by_) rfl; have d3 := hb.cell (i := 3) (v := .int .i64 u.st.v.n) rfl; have d4 := hb.cell (i := 4) (v := .int .i64 u.st.time) rfl; have d5 := hb.cell (i := 5) (v := .string u.p) rfl; have d6 := hb.cell (i := 6) (v := .int .i64 u.size) rfl; have d7 := hb.cell (i := 7) rfl; have dl := hb.lt; have X3 := hid (X2.out.trans hx); have HB3 := hid hb; clear hb hx X2)
            | (go_at_call 46; have hx0 := X1.out; clear hx0; refine ((H2 _).out).mono ?_; rintro e w2 ⟨rfl, hx⟩; have hb := HB1.out.ext hx; have b0 := hb.cell (i := 0) (v := .int .i64 u.item.by_) rfl; have b1 := hb.cell (i := 1) (v := .int .i64 u.item.n) rfl; have b2 := hb.cell (i := 2) (v := .int .i64 u.st.v.by_) rfl; have b3 := hb.cell (i := 3) (v := .int .i64 u.st.v.n) rfl; have b4 := hb.cell (i := 4) (v := .int .i64 u.st.time) rfl; have b5 := hb.cell (i := 5) (v := .string u.p) rfl; have b6 := hb.cell (i := 6) (v := .int .i64 u.size) rfl; have b7 := hb.cell (i := 7) rfl; have bl := hb.lt; have X2 := hid (X1.out.trans hx); have HB2 := hid hb; clear hb hx X1)
            | (go_at_call 46; have hx0 := X0.out; clear hx0; refine ((H1 _).out).mono ?_; rintro e w1 ⟨rfl, hx⟩; have hb := HB0.out.ext hx; have a0 := hb.cell (i := 0) (v := .int .i64 u.item.by_) rfl; have a1 := hb.cell (i := 1) (v := .int .i64 u.item.n) rfl; have a2 := hb.cell (i := 2) (v := .int .i64 u.st.v.by_) rfl; have a3 := hb.cell (i := 3) (v := .int .i64 u.st.v.n) rfl; have a4 := hb.cell (i := 4) (v := .int .i64 u.st.time) rfl; have a5 := hb.cell (i := 5) (v := .string u.p) rfl; have a6 := hb.cell (i := 6) (v := .int .i64 u.size) rfl; have a7 := hb.cell (i := 7) rfl; have al := hb.lt; have X1 := hid (X0.out.trans hx); have HB1 := hid hb; clear hb hx X0))
          go_ret
          exact ⟨rfl, X3.out⟩
        | true =>
          rw [chkK_rest h1 hs h4]
          rw [h4] at H3
          clear h1 h2 h4 h3' hs
          by_cases h5 : (200 : Int) < u.size
          · rw [if_pos h5]
            have d5 : decide ((200 : Int) < u.size) = true := decide_eq_true h5
            clear h5
            go_enter Tryz.func74, Tryz.ntmps74
            go_wp2_with (first
              | (go_at_call 125; have hx0 := X2.out; clear hx0; refine ((H3 _).out).mono ?_; rintro e w3 ⟨rfl, hx⟩; have hb := HB2.out.ext hx; have d0 := hb.cell (i := 0) (v := .int .i64 u.item.by_) rfl; have d1 := hb.cell (i := 1) (v := .int .i64 u.item.n) rfl; have d2 := hb.cell (i := 2) (v := .int .i64 u.st.v.by_) rfl; have d3 := hb.cell (i := 3) (v := .int .i64 u.st.v.n) rfl; have d4 := hb.cell (i := 4) (v := .int .i64 u.st.time) rfl; have d5 := hb.cell (i := 5) (v := .string u.p) rfl; have d6 := hb.cell (i := 6) (v := .int .i64 u.size) rfl; have d7 := hb.cell (i := 7) rfl; have dl := hb.lt; have X3 := hid (X2.out.trans hx); have HB3 := hid hb; clear hb hx X2)
              | (go_at_call 46; have hx0 := X1.out; clear hx0; refine ((H2 _).out).mono ?_; rintro e w2 ⟨rfl, hx⟩; have hb := HB1.out.ext hx; have b0 := hb.cell (i := 0) (v := .int .i64 u.item.by_) rfl; have b1 := hb.cell (i := 1) (v := .int .i64 u.item.n) rfl; have b2 := hb.cell (i := 2) (v := .int .i64 u.st.v.by_) rfl; have b3 := hb.cell (i := 3) (v := .int .i64 u.st.v.n) rfl; have b4 := hb.cell (i := 4) (v := .int .i64 u.st.time) rfl; have b5 := hb.cell (i := 5) (v := .string u.p) rfl; have b6 := hb.cell (i := 6) (v := .int .i64 u.size) rfl; have b7 := hb.cell (i := 7) rfl; have bl := hb.lt; have X2 := hid (X1.out.trans hx); have HB2 := hid hb; clear hb hx X1)
              | (go_at_call 46; have hx0 := X0.out; clear hx0; refine ((H1 _).out).mono ?_; rintro e w1 ⟨rfl, hx⟩; have hb := HB0.out.ext hx; have a0 := hb.cell (i := 0) (v := .int .i64 u.item.by_) rfl; have a1 := hb.cell (i := 1) (v := .int .i64 u.item.n) rfl; have a2 := hb.cell (i := 2) (v := .int .i64 u.st.v.by_) rfl; have a3 := hb.cell (i := 3) (v := .int .i64 u.st.v.n) rfl; have a4 := hb.cell (i := 4) (v := .int .i64 u.st.time) rfl; have a5 := hb.cell (i := 5) (v := .string u.p) rfl; have a6 := hb.cell (i := 6) (v := .int .i64 u.size) rfl; have a7 := hb.cell (i := 7) rfl; have al := hb.lt; have X1 := hid (X0.out.trans hx); have HB1 := hid hb; clear hb hx X0))
            go_ret
            exact ⟨rfl, X3.out⟩
          · rw [if_neg h5]
            have d5 : decide ((200 : Int) < u.size) = false := decide_eq_false h5
            clear h5
            by_cases h6 : u.size < 0
            · rw [if_pos (.inl h6)]
              have d6 : decide (u.size < 0) = true := decide_eq_true h6
              clear h6
              go_enter Tryz.func74, Tryz.ntmps74
              go_wp2_with (first
                | (go_at_call 125; have hx0 := X2.out; clear hx0; refine ((H3 _).out).mono ?_; rintro e w3 ⟨rfl, hx⟩; have hb := HB2.out.ext hx; have d0 := hb.cell (i := 0) (v := .int .i64 u.item.by_) rfl; have d1 := hb.cell (i := 1) (v := .int .i64 u.item.n) rfl; have d2 := hb.cell (i := 2) (v := .int .i64 u.st.v.by_) rfl; have d3 := hb.cell (i := 3) (v := .int .i64 u.st.v.n) rfl; have d4 := hb.cell (i := 4) (v := .int .i64 u.st.time) rfl; have d5 := hb.cell (i := 5) (v := .string u.p) rfl; have d6 := hb.cell (i := 6) (v := .int .i64 u.size) rfl; have d7 := hb.cell (i := 7) rfl; have dl := hb.lt; have X3 := hid (X2.out.trans hx); have HB3 := hid hb; clear hb hx X2)
                | (go_at_call 46; have hx0 := X1.out; clear hx0; refine ((H2 _).out).mono ?_; rintro e w2 ⟨rfl, hx⟩; have hb := HB1.out.ext hx; have b0 := hb.cell (i := 0) (v := .int .i64 u.item.by_) rfl; have b1 := hb.cell (i := 1) (v := .int .i64 u.item.n) rfl; have b2 := hb.cell (i := 2) (v := .int .i64 u.st.v.by_) rfl; have b3 := hb.cell (i := 3) (v := .int .i64 u.st.v.n) rfl; have b4 := hb.cell (i := 4) (v := .int .i64 u.st.time) rfl; have b5 := hb.cell (i := 5) (v := .string u.p) rfl; have b6 := hb.cell (i := 6) (v := .int .i64 u.size) rfl; have b7 := hb.cell (i := 7) rfl; have bl := hb.lt; have X2 := hid (X1.out.trans hx); have HB2 := hid hb; clear hb hx X1)
                | (go_at_call 46; have hx0 := X0.out; clear hx0; refine ((H1 _).out).mono ?_; rintro e w1 ⟨rfl, hx⟩; have hb := HB0.out.ext hx; have a0 := hb.cell (i := 0) (v := .int .i64 u.item.by_) rfl; have a1 := hb.cell (i := 1) (v := .int .i64 u.item.n) rfl; have a2 := hb.cell (i := 2) (v := .int .i64 u.st.v.by_) rfl; have a3 := hb.cell (i := 3) (v := .int .i64 u.st.v.n) rfl; have a4 := hb.cell (i := 4) (v := .int .i64 u.st.time) rfl; have a5 := hb.cell (i := 5) (v := .string u.p) rfl; have a6 := hb.cell (i := 6) (v := .int .i64 u.size) rfl; have a7 := hb.cell (i := 7) rfl; have al := hb.lt; have X1 := hid (X0.out.trans hx); have HB1 := hid hb; clear hb hx X0))
              go_ret
              exact ⟨rfl, X3.out⟩
            · have d6 : decide (u.size < 0) = false := decide_eq_false h6
              cases h7 : u.dead with
              | false =>
                rw [if_neg (by simp [h6])]
                rw [h7] at HB0 X0
                clear h6
                go_enter Tryz.func74, Tryz.ntmps74
                go_wp2_with (first
                  | (go_at_call 125; have hx0 := X2.out; clear hx0; refine ((H3 _).out).mono ?_; rintro e w3 ⟨rfl, hx⟩; have hb := HB2.out.ext hx; have d0 := hb.cell (i := 0) (v := .int .i64 u.item.by_) rfl; have d1 := hb.cell (i := 1) (v := .int .i64 u.item.n) rfl; have d2 := hb.cell (i := 2) (v := .int .i64 u.st.v.by_) rfl; have d3 := hb.cell (i := 3) (v := .int .i64 u.st.v.n) rfl; have d4 := hb.cell (i := 4) (v := .int .i64 u.st.time) rfl; have d5 := hb.cell (i := 5) (v := .string u.p) rfl; have d6 := hb.cell (i := 6) (v := .int .i64 u.size) rfl; have d7 := hb.cell (i := 7) rfl; have dl := hb.lt; have X3 := hid (X2.out.trans hx); have HB3 := hid hb; clear hb hx X2)
                  | (go_at_call 46; have hx0 := X1.out; clear hx0; refine ((H2 _).out).mono ?_; rintro e w2 ⟨rfl, hx⟩; have hb := HB1.out.ext hx; have b0 := hb.cell (i := 0) (v := .int .i64 u.item.by_) rfl; have b1 := hb.cell (i := 1) (v := .int .i64 u.item.n) rfl; have b2 := hb.cell (i := 2) (v := .int .i64 u.st.v.by_) rfl; have b3 := hb.cell (i := 3) (v := .int .i64 u.st.v.n) rfl; have b4 := hb.cell (i := 4) (v := .int .i64 u.st.time) rfl; have b5 := hb.cell (i := 5) (v := .string u.p) rfl; have b6 := hb.cell (i := 6) (v := .int .i64 u.size) rfl; have b7 := hb.cell (i := 7) rfl; have bl := hb.lt; have X2 := hid (X1.out.trans hx); have HB2 := hid hb; clear hb hx X1)
                  | (go_at_call 46; have hx0 := X0.out; clear hx0; refine ((H1 _).out).mono ?_; rintro e w1 ⟨rfl, hx⟩; have hb := HB0.out.ext hx; have a0 := hb.cell (i := 0) (v := .int .i64 u.item.by_) rfl; have a1 := hb.cell (i := 1) (v := .int .i64 u.item.n) rfl; have a2 := hb.cell (i := 2) (v := .int .i64 u.st.v.by_) rfl; have a3 := hb.cell (i := 3) (v := .int .i64 u.st.v.n) rfl; have a4 := hb.cell (i := 4) (v := .int .i64 u.st.time) rfl; have a5 := hb.cell (i := 5) (v := .string u.p) rfl; have a6 := hb.cell (i := 6) (v := .int .i64 u.size) rfl; have a7 := hb.cell (i := 7) rfl; have al := hb.lt; have X1 := hid (X0.out.trans hx); have HB1 := hid hb; clear hb hx X0))
                go_ret
                exact ⟨rfl, X3.out⟩
              | true =>
                rw [h7] at HB0 X0
                by_cases h8 : 0 < u.size
                · rw [if_pos (.inr ⟨rfl, h8⟩)]
                  have d8 : decide (0 < u.size) = true := decide_eq_true h8
                  clear h6 h8
                  go_enter Tryz.func74, Tryz.ntmps74
                  go_wp2_with (first
                    | (go_at_call 125; have hx0 := X2.out; clear hx0; refine ((H3 _).out).mono ?_; rintro e w3 ⟨rfl, hx⟩; have hb := HB2.out.ext hx; have d0 := hb.cell (i := 0) (v := .int .i64 u.item.by_) rfl; have d1 := hb.cell (i := 1) (v := .int .i64 u.item.n) rfl; have d2 := hb.cell (i := 2) (v := .int .i64 u.st.v.by_) rfl; have d3 := hb.cell (i := 3) (v := .int .i64 u.st.v.n) rfl; have d4 := hb.cell (i := 4) (v := .int .i64 u.st.time) rfl; have d5 := hb.cell (i := 5) (v := .string u.p) rfl; have d6 := hb.cell (i := 6) (v := .int .i64 u.size) rfl; have d7 := hb.cell (i := 7) rfl; have dl := hb.lt; have X3 := hid (X2.out.trans hx); have HB3 := hid hb; clear hb hx X2)
                    | (go_at_call 46; have hx0 := X1.out; clear hx0; refine ((H2 _).out).mono ?_; rintro e w2 ⟨rfl, hx⟩; have hb := HB1.out.ext hx; have b0 := hb.cell (i := 0) (v := .int .i64 u.item.by_) rfl; have b1 := hb.cell (i := 1) (v := .int .i64 u.item.n) rfl; have b2 := hb.cell (i := 2) (v := .int .i64 u.st.v.by_) rfl; have b3 := hb.cell (i := 3) (v := .int .i64 u.st.v.n) rfl; have b4 := hb.cell (i := 4) (v := .int .i64 u.st.time) rfl; have b5 := hb.cell (i := 5) (v := .string u.p) rfl; have b6 := hb.cell (i := 6) (v := .int .i64 u.size) rfl; have b7 := hb.cell (i := 7) rfl; have bl := hb.lt; have X2 := hid (X1.out.trans hx); have HB2 := hid hb; clear hb hx X1)
                    | (go_at_call 46; have hx0 := X0.out; clear hx0; refine ((H1 _).out).mono ?_; rintro e w1 ⟨rfl, hx⟩; have hb := HB0.out.ext hx; have a0 := hb.cell (i := 0) (v := .int .i64 u.item.by_) rfl; have a1 := hb.cell (i := 1) (v := .int .i64 u.item.n) rfl; have a2 := hb.cell (i := 2) (v := .int .i64 u.st.v.by_) rfl; have a3 := hb.cell (i := 3) (v := .int .i64 u.st.v.n) rfl; have a4 := hb.cell (i := 4) (v := .int .i64 u.st.time) rfl; have a5 := hb.cell (i := 5) (v := .string u.p) rfl; have a6 := hb.cell (i := 6) (v := .int .i64 u.size) rfl; have a7 := hb.cell (i := 7) rfl; have al := hb.lt; have X1 := hid (X0.out.trans hx); have HB1 := hid hb; clear hb hx X0))
                  go_ret
                  exact ⟨rfl, X3.out⟩
                · rw [if_neg (by simp [h6, h8])]
                  have d8 : decide (0 < u.size) = false := decide_eq_false h8
                  clear h6 h8
                  go_enter Tryz.func74, Tryz.ntmps74
                  go_wp2_with (first
                    | (go_at_call 125; have hx0 := X2.out; clear hx0; refine ((H3 _).out).mono ?_; rintro e w3 ⟨rfl, hx⟩; have hb := HB2.out.ext hx; have d0 := hb.cell (i := 0) (v := .int .i64 u.item.by_) rfl; have d1 := hb.cell (i := 1) (v := .int .i64 u.item.n) rfl; have d2 := hb.cell (i := 2) (v := .int .i64 u.st.v.by_) rfl; have d3 := hb.cell (i := 3) (v := .int .i64 u.st.v.n) rfl; have d4 := hb.cell (i := 4) (v := .int .i64 u.st.time) rfl; have d5 := hb.cell (i := 5) (v := .string u.p) rfl; have d6 := hb.cell (i := 6) (v := .int .i64 u.size) rfl; have d7 := hb.cell (i := 7) rfl; have dl := hb.lt; have X3 := hid (X2.out.trans hx); have HB3 := hid hb; clear hb hx X2)
                    | (go_at_call 46; have hx0 := X1.out; clear hx0; refine ((H2 _).out).mono ?_; rintro e w2 ⟨rfl, hx⟩; have hb := HB1.out.ext hx; have b0 := hb.cell (i := 0) (v := .int .i64 u.item.by_) rfl; have b1 := hb.cell (i := 1) (v := .int .i64 u.item.n) rfl; have b2 := hb.cell (i := 2) (v := .int .i64 u.st.v.by_) rfl; have b3 := hb.cell (i := 3) (v := .int .i64 u.st.v.n) rfl; have b4 := hb.cell (i := 4) (v := .int .i64 u.st.time) rfl; have b5 := hb.cell (i := 5) (v := .string u.p) rfl; have b6 := hb.cell (i := 6) (v := .int .i64 u.size) rfl; have b7 := hb.cell (i := 7) rfl; have bl := hb.lt; have X2 := hid (X1.out.trans hx); have HB2 := hid hb; clear hb hx X1)
                    | (go_at_call 46; have hx0 := X0.out; clear hx0; refine ((H1 _).out).mono ?_; rintro e w1 ⟨rfl, hx⟩; have hb := HB0.out.ext hx; have a0 := hb.cell (i := 0) (v := .int .i64 u.item.by_) rfl; have a1 := hb.cell (i := 1) (v := .int .i64 u.item.n) rfl; have a2 := hb.cell (i := 2) (v := .int .i64 u.st.v.by_) rfl; have a3 := hb.cell (i := 3) (v := .int .i64 u.st.v.n) rfl; have a4 := hb.cell (i := 4) (v := .int .i64 u.st.time) rfl; have a5 := hb.cell (i := 5) (v := .string u.p) rfl; have a6 := hb.cell (i := 6) (v := .int .i64 u.size) rfl; have a7 := hb.cell (i := 7) rfl; have al := hb.lt; have X1 := hid (X0.out.trans hx); have HB1 := hid hb; clear hb hx X0))
                  go_ret
                  exact ⟨rfl, X3.out⟩
end Go.Proofs.YtmbgakjkhgdjnaaGreatDoor
namespace Go.Proofs.YtmbgakjkhgdjnaaGreatDoor
set_option linter.unusedSimpArgs false
set_option linter.unusedVariables false
open Go.RowKit

set_option maxRecDepth 100000 in
set_option maxHeartbeats 4000000 in
theorem ucheckm_c (w : World) (u : MetaI) (m : Int) (hm : w.cell? ⟨0, 0, none⟩ = some (.int .i64 m)) (hu : u.p.size ≤ 90000) : Calls Tryz.prog 165 #[u.val] w (Ret (.int .i64 u.chk) w) := by
  have HK := fun (d : ByteArray) (dead : Bool) (z : Int) (hz : chkK u.item u.st u.p d.size dead = z) W (hW : Ext w W) => (by
    have := ucheck_c W ⟨u.item, u.st, u.p, d, dead⟩ m (hW.cell hm) hu
    unfold UpdI.chk at this
    rw [hz] at this
    exact hid this : Hid (Calls Tryz.prog 162 #[UpdI.val ⟨u.item, u.st, u.p, d, dead⟩] W (Ret (.int .i64 z) W)))
  have HB0 := hid (Blk.new w 66 #[.int .i64 u.item.by_, .int .i64 u.item.n, .int .i64 u.st.v.by_, .int .i64 u.st.v.n, .int .i64 u.st.time, .string u.p, .int .i64 u.size, .bool u.dead])
  have X0 := hid (Ext.alloc w (.cells #[.int .i64 u.item.by_, .int .i64 u.item.n, .int .i64 u.st.v.by_, .int .i64 u.st.v.n, .int .i64 u.st.time, .string u.p, .int .i64 u.size, .bool u.dead] 66))
  have e0 : ((⟨#[]⟩ : ByteArray).size : Int) = 0 := rfl
  have e1 : ((⟨#[120]⟩ : ByteArray).size : Int) = 1 := rfl
  unfold MetaI.chk
  unfold UpdI.val at HK
  unfold MetaI.val
  clear hm hu
  by_cases h1 : rightV u.item = false ∨ rightS u.st = false
  · rw [show chkK u.item u.st u.p u.size u.dead = 2 from chkK_arg h1]
    cases d1 : decide ((200 : Int) < u.size) with
    | true =>
      have HC := HK ⟨#[]⟩ false 2 (by exact chkK_arg h1)
      clear HK
      go_enter Tryz.func165, Tryz.ntmps165
      go_wp2_with (go_at_call 162; refine ((HC _ X0.out).out).mono ?_; rintro e w1 ⟨rfl, hx⟩; have hb := HB0.out.ext hx; have a6 := hb.cell (i := 6) (v := .int .i64 u.size) rfl; have al := hb.lt; have X1 := hid (X0.out.trans hx); clear hb hx X0)
      go_ret
      exact ⟨rfl, X1.out⟩
    | false =>
      cases d2 : decide (0 < u.size) with
      | true =>
        have HC := HK ⟨#[120]⟩ u.dead 2 (by exact chkK_arg h1)
        clear HK
        go_enter Tryz.func165, Tryz.ntmps165
        go_wp2_with (go_at_call 162; refine ((HC _ X0.out).out).mono ?_; rintro e w1 ⟨rfl, hx⟩; have hb := HB0.out.ext hx; have a6 := hb.cell (i := 6) (v := .int .i64 u.size) rfl; have al := hb.lt; have X1 := hid (X0.out.trans hx); clear hb hx X0)
        go_ret
        exact ⟨rfl, X1.out⟩
      | false =>
        have HC := HK ⟨#[]⟩ u.dead 2 (by exact chkK_arg h1)
        clear HK
        go_enter Tryz.func165, Tryz.ntmps165
        go_wp2_with (go_at_call 162; refine ((HC _ X0.out).out).mono ?_; rintro e w1 ⟨rfl, hx⟩; have hb := HB0.out.ext hx; have a6 := hb.cell (i := 6) (v := .int .i64 u.size) rfl; have al := hb.lt; have X1 := hid (X0.out.trans hx); clear hb hx X0)
        go_ret
        exact ⟨rfl, X1.out⟩
  · simp only [not_or, Bool.not_eq_false] at h1
    obtain ⟨h1, h2⟩ := h1
    cases h3 : Pa.rightK u.p with
    | false =>
      rw [show chkK u.item u.st u.p u.size u.dead = 13 from chkK_path h1 h2 h3]
      cases d1 : decide ((200 : Int) < u.size) with
      | true =>
        have HC := HK ⟨#[]⟩ false 13 (by exact chkK_path h1 h2 h3)
        clear HK
        go_enter Tryz.func165, Tryz.ntmps165
        go_wp2_with (go_at_call 162; refine ((HC _ X0.out).out).mono ?_; rintro e w1 ⟨rfl, hx⟩; have hb := HB0.out.ext hx; have a6 := hb.cell (i := 6) (v := .int .i64 u.size) rfl; have al := hb.lt; have X1 := hid (X0.out.trans hx); clear hb hx X0)
        go_ret
        exact ⟨rfl, X1.out⟩
      | false =>
        cases d2 : decide (0 < u.size) with
        | true =>
          have HC := HK ⟨#[120]⟩ u.dead 13 (by exact chkK_path h1 h2 h3)
          clear HK
          go_enter Tryz.func165, Tryz.ntmps165
          go_wp2_with (go_at_call 162; refine ((HC _ X0.out).out).mono ?_; rintro e w1 ⟨rfl, hx⟩; have hb := HB0.out.ext hx; have a6 := hb.cell (i := 6) (v := .int .i64 u.size) rfl; have al := hb.lt; have X1 := hid (X0.out.trans hx); clear hb hx X0)
          go_ret
          exact ⟨rfl, X1.out⟩
        | false =>
          have HC := HK ⟨#[]⟩ u.dead 13 (by exact chkK_path h1 h2 h3)
          clear HK
          go_enter Tryz.func165, Tryz.ntmps165
          go_wp2_with (go_at_call 162; refine ((HC _ X0.out).out).mono ?_; rintro e w1 ⟨rfl, hx⟩; have hb := HB0.out.ext hx; have a6 := hb.cell (i := 6) (v := .int .i64 u.size) rfl; have al := hb.lt; have X1 := hid (X0.out.trans hx); clear hb hx X0)
          go_ret
          exact ⟨rfl, X1.out⟩
    | true =>
      rw [chkK_rest h1 h2 h3]
      by_cases h4 : (200 : Int) < u.size
      · rw [if_pos h4]
        have d1 : decide ((200 : Int) < u.size) = true := decide_eq_true h4
        have HC := HK ⟨#[]⟩ false 0 (by rw [chkK_rest h1 h2 h3, e0]; rfl)
        clear HK
        go_enter Tryz.func165, Tryz.ntmps165
        go_wp2_with (go_at_call 162; refine ((HC _ X0.out).out).mono ?_; rintro e w1 ⟨rfl, hx⟩; have hb := HB0.out.ext hx; have a6 := hb.cell (i := 6) (v := .int .i64 u.size) rfl; have al := hb.lt; have X1 := hid (X0.out.trans hx); clear hb hx X0)
        go_ret
        exact ⟨rfl, X1.out⟩
      · rw [if_neg h4]
        have d1 : decide ((200 : Int) < u.size) = false := decide_eq_false h4
        by_cases h5 : 0 < u.size
        · have d2 : decide (0 < u.size) = true := decide_eq_true h5
          have d3 : decide (u.size < 0) = false := decide_eq_false (by omega)
          cases h6 : u.dead with
          | true =>
            rw [if_pos (.inr ⟨rfl, h5⟩)]
            rw [h6] at HB0 X0
            have HC := HK ⟨#[120]⟩ true 6 (by rw [chkK_rest h1 h2 h3, e1]; rfl)
            clear HK
            go_enter Tryz.func165, Tryz.ntmps165
            go_wp2_with (go_at_call 162; refine ((HC _ X0.out).out).mono ?_; rintro e w1 ⟨rfl, hx⟩; have hb := HB0.out.ext hx; have a6 := hb.cell (i := 6) (v := .int .i64 u.size) rfl; have al := hb.lt; have X1 := hid (X0.out.trans hx); clear hb hx X0)
            go_ret
            exact ⟨rfl, X1.out⟩
          | false =>
            rw [if_neg (by simp; omega)]
            rw [h6] at HB0 X0
            have HC := HK ⟨#[120]⟩ false 0 (by rw [chkK_rest h1 h2 h3, e1]; rfl)
            clear HK
            go_enter Tryz.func165, Tryz.ntmps165
            go_wp2_with (go_at_call 162; refine ((HC _ X0.out).out).mono ?_; rintro e w1 ⟨rfl, hx⟩; have hb := HB0.out.ext hx; have a6 := hb.cell (i := 6) (v := .int .i64 u.size) rfl; have al := hb.lt; have X1 := hid (X0.out.trans hx); clear hb hx X0)
            go_ret
            exact ⟨rfl, X1.out⟩
        · have d2 : decide (0 < u.size) = false := decide_eq_false h5
          have hz : chkK u.item u.st u.p ((⟨#[]⟩ : ByteArray).size : Int) u.dead = 0 := by rw [chkK_rest h1 h2 h3, e0, if_neg (by decide), if_neg (by simp)]
          by_cases h6 : u.size < 0
          · rw [if_pos (.inl h6)]
            have d3 : decide (u.size < 0) = true := decide_eq_true h6
            have HC := HK ⟨#[]⟩ u.dead 0 (by exact hz)
            clear HK
            go_enter Tryz.func165, Tryz.ntmps165
            go_wp2_with (go_at_call 162; refine ((HC _ X0.out).out).mono ?_; rintro e w1 ⟨rfl, hx⟩; have hb := HB0.out.ext hx; have a6 := hb.cell (i := 6) (v := .int .i64 u.size) rfl; have al := hb.lt; have X1 := hid (X0.out.trans hx); clear hb hx X0)
            go_ret
            exact ⟨rfl, X1.out⟩
          · rw [if_neg (by simp [h6, h5])]
            have d3 : decide (u.size < 0) = false := decide_eq_false h6
            have HC := HK ⟨#[]⟩ u.dead 0 (by exact hz)
            clear HK
            go_enter Tryz.func165, Tryz.ntmps165
            go_wp2_with (go_at_call 162; refine ((HC _ X0.out).out).mono ?_; rintro e w1 ⟨rfl, hx⟩; have hb := HB0.out.ext hx; have a6 := hb.cell (i := 6) (v := .int .i64 u.size) rfl; have al := hb.lt; have X1 := hid (X0.out.trans hx); clear hb hx X0)
            go_ret
            exact ⟨rfl, X1.out⟩
end Go.Proofs.YtmbgakjkhgdjnaaGreatDoor
