/-
  Light; the document's Best (out of XFlB, XFlC).
-/
import Derived.Test.YtgkdiknmjgpgmaaDoorUpC
namespace Go.Proofs.YtgkdiknmjgpgmaaDoor
set_option linter.unusedSimpArgs false
set_option linter.unusedVariables false
open Go.RowKit Go.Sort

theorem eq2_true {a b : Ver} (h : a = b) : eq2 a.by_ a.n b.by_ b.n = true := (eq2_iff a b).2 h

theorem eq2_false {a b : Ver} (h : a ≠ b) : eq2 a.by_ a.n b.by_ b.n = false := by rw [Bool.eq_false_iff, Ne, eq2_iff]; exact h

def lightU (u : UpdI) : Bool := decide (u.p.size < 200) && decide (u.d.size < 400)
set_option maxRecDepth 100000 in
set_option maxHeartbeats 1000000 in
theorem light_c (u : UpdI) (w : World) : Calls Tryd.prog 10 #[u.val] w (Ret (.bool (lightU u)) w) := by
  unfold UpdI.val lightU
  by_cases h1 : u.p.size < 200
  · have d1 : decide ((u.p.size : Int) < 200) = true := by simp; omega
    have e1 : decide (u.p.size < 200) = true := decide_eq_true h1
    by_cases h2 : u.d.size < 400
    · have d2 : decide ((u.d.size : Int) < 400) = true := by simp; omega
      have e2 : decide (u.d.size < 400) = true := decide_eq_true h2
      rw [e1, e2]
      clear h1 h2 e1 e2
      go_enter Tryd.func10, Tryd.ntmps10
      go_wp2_with fail
      go_ret
      exact ⟨rfl, Ext.alloc _ _⟩
    · have d2 : decide ((u.d.size : Int) < 400) = false := by simp; omega
      have e2 : decide (u.d.size < 400) = false := decide_eq_false h2
      rw [e1, e2]
      clear h1 h2 e1 e2
      go_enter Tryd.func10, Tryd.ntmps10
      go_wp2_with fail
      go_ret
      exact ⟨rfl, Ext.alloc _ _⟩
  · have d1 : decide ((u.p.size : Int) < 200) = false := by simp; omega
    have e1 : decide (u.p.size < 200) = false := decide_eq_false h1
    rw [e1, Bool.false_and]
    clear h1 e1
    go_enter Tryd.func10, Tryd.ntmps10
    go_wp2_with fail
    go_ret
    exact ⟨rfl, Ext.alloc _ _⟩
def BestAt (l : List UpdI) (i : Nat) (it : Ver) (z : Int) : Prop := (z = -1 ∧ bestK (l.take i) it = none) ∨ ∃ (m : Nat) (x : UpdI), l[m]? = some x ∧ z = (m : Int) ∧ bestK (l.take i) it = some x
theorem bestAt_skip {l : List UpdI} {i : Nat} (h : i < l.length) {it : Ver} {z : Int} (hb : BestAt l i it z) (hne : ¬ l[i].item = it) : BestAt l (i + 1) it z := by
  have e : bestK (l.take (i + 1)) it = bestK (l.take i) it := by rw [bestK_take h]; unfold stepK; rw [if_neg hne]
  unfold BestAt at *
  rw [e]; exact hb
theorem bestAt_first {l : List UpdI} {i : Nat} (h : i < l.length) {it : Ver} (hb : bestK (l.take i) it = none) (he : l[i].item = it) : BestAt l (i + 1) it i := by
  refine .inr ⟨i, l[i], List.getElem?_eq_getElem h, rfl, ?_⟩
  rw [bestK_take h, hb]; unfold stepK; rw [if_pos he]
theorem bestAt_take {l : List UpdI} {i : Nat} (h : i < l.length) {it : Ver} {x : UpdI} (hb : bestK (l.take i) it = some x) (he : l[i].item = it) (ho : older x.st l[i].st = true) : BestAt l (i + 1) it i := by
  refine .inr ⟨i, l[i], List.getElem?_eq_getElem h, rfl, ?_⟩
  rw [bestK_take h, hb]; unfold stepK; rw [if_pos he]; simp only [ho, if_true]
theorem bestAt_keep {l : List UpdI} {i : Nat} (h : i < l.length) {it : Ver} {x : UpdI} {m : Nat} (hm : l[m]? = some x) (hb : bestK (l.take i) it = some x) (he : l[i].item = it) (ho : older x.st l[i].st = false) : BestAt l (i + 1) it m := by
  refine .inr ⟨m, x, hm, rfl, ?_⟩
  rw [bestK_take h, hb]; unfold stepK; rw [if_pos he]; simp only [ho, if_false, Bool.false_eq_true]

set_option maxRecDepth 100000 in
set_option maxHeartbeats 2000000 in
theorem rbest_c (w : World) (v : Value) (l : List UpdI) (it : Ver) (h : Sl w 8 v (l.map UpdI.cells)) : Calls Tryd.prog 18 #[v, it.val] w (RetQ (fun u _ => ∃ z, u = .int .i64 z ∧ BestAt l l.length it z) w) := by
  obtain ⟨A, c, rfl, h1, h2, h3⟩ := sl_get h
  unfold maxLen at h2
  unfold Ver.val
  clear h
  go_enter Tryd.func18, Tryd.ntmps18
  go_wp2_with fail
  have hE0 := Ext.alloc w (.cells #[.int .i64 it.by_, .int .i64 it.n] 24)
  have hB0 := Blk.new w 24 #[.int .i64 it.by_, .int .i64 it.n]
  generalize w.alloc (.cells #[.int .i64 it.by_, .int .i64 it.n] 24) = w0 at hE0 hB0 ⊢
  generalize w.heap.size = g0 at hB0 ⊢
  have x0 := hB0.cell (i := 0) (v := .int .i64 it.by_) rfl
  have x1 := hB0.cell (i := 1) (v := .int .i64 it.n) rfl
  have lg0 := hB0.lt
  clear hB0
  go_loopw [5, 6] (fun vz i wr => ∃ (k : Nat) (z : Int), k ≤ l.length ∧ i = .int .i64 k ∧ vz = .int .i64 z ∧ BestAt l k it z ∧ Ext w0 wr) (fun _ i _ => l.length - (intOf i).toNat)
  case atStart => exact ⟨0, -1, by omega, rfl, rfl, .inl ⟨rfl, rfl⟩, Ext.refl _⟩
  case round =>
    obtain ⟨k, z, hk, rfl, rfl, hB, hE⟩ := hrel
    have y0 := hE.cell x0
    have y1 := hE.cell x1
    have lg := Nat.lt_of_lt_of_le lg0 hE.size
    have HE := hid hE
    have HEw := hid (hE0.trans hE)
    clear x0 x1 lg0
    by_cases hlt : k < l.length
    · obtain ⟨b, o, rfl, lb, hcell⟩ := h3 (by omega)
      have c0 := HEw.out.cell (hcell k hlt 0 _ rfl)
      have c1 := HEw.out.cell (hcell k hlt 1 _ rfl)
      have c2 := HEw.out.cell (hcell k hlt 2 _ rfl)
      have c3 := HEw.out.cell (hcell k hlt 3 _ rfl)
      have c4 := HEw.out.cell (hcell k hlt 4 _ rfl)
      rw [Nat.add_zero] at c0
      have lbw := Nat.lt_of_lt_of_le lb HEw.out.size
      by_cases he : l[k].item = it
      · have hs := eq2_true he
        rcases hB with ⟨rfl, hn⟩ | ⟨m, x, hm, rfl, hb⟩
        · have HR := hid (bestAt_first hlt hn he)
          clear hcell h3 hE hE0 hn he
          generalize l[k] = u at c0 c1 c2 c3 c4 hs
          go_wp2_with fail
          refine wp_region_any_order (by kernel_rfl) (by kernel_rfl) (by kernel_rfl) ?_
          repeat (first
            | (refine AWq.val rfl rfl rfl rfl (fun K hK => ?_); go_big_quiet_op; refine hK _ ?_; clear hK K)
            | (refine AWq.skip rfl rfl rfl ?_; simp only [Act.put, List.setIfInBounds_toArray, List.set_cons_succ, List.set_cons_zero]))
          refine AWq.done rfl rfl rfl (fun w2 x2 => ?_)
          simp only [closeAny, Act.put, List.setIfInBounds_toArray, List.set_cons_succ, List.set_cons_zero]
          go_wp2_with fail
          go_roundw
          case rel => exact ⟨k + 1, _, by omega, by go_num, rfl, HR.out, HE.out.trans x2⟩
          case measure => simp [intOf]; omega
        · obtain ⟨hml, hmx⟩ := List.getElem?_eq_some_iff.1 hm
          have e2 := HEw.out.cell (hcell m hml 2 _ rfl)
          have e3 := HEw.out.cell (hcell m hml 3 _ rfl)
          have e4 := HEw.out.cell (hcell m hml 4 _ rfl)
          rw [hmx] at e2 e3 e4
          have HO := fun W => hid (older_c x.st l[k].st W)
          unfold Stamp.val at HO
          cases ho : older x.st l[k].st with
          | true =>
            have HR := hid (bestAt_take hlt hb he ho)
            rw [ho] at HO
            clear hcell h3 hE hE0 hb he ho hm hmx
            generalize l[k] = u at c0 c1 c2 c3 c4 hs HO
            go_wp2_with fail
            refine wp_region_any_order (by kernel_rfl) (by kernel_rfl) (by kernel_rfl) ?_
            repeat (first
              | (refine AWq.val rfl rfl rfl rfl (fun K hK => ?_); go_big_quiet_op; refine hK _ ?_; clear hK K)
              | (refine AWq.skip rfl rfl rfl ?_; simp only [Act.put, List.setIfInBounds_toArray, List.set_cons_succ, List.set_cons_zero])
              | (refine AWq.call rfl Tryd.func23 (by kernel_rfl) (by kernel_rfl) rfl rfl rfl ?_; apply Exists.intro; refine And.intro (fun wc hc => ?_) ?_; (· (simp only [argsOf, anyAt, ↓reduceIte, Nat.reduceEqDiff, Array.getD_eq_getD_getElem?, List.getElem?_toArray, List.getElem?_cons_succ, List.getElem?_cons_zero, Option.getD_some]; with_reducible exact (HO _).out)); simp only [Act.put, List.setIfInBounds_toArray, List.set_cons_succ, List.set_cons_zero]))
            refine AWq.done rfl rfl rfl (fun w2 x2 => ?_)
            simp only [closeAny, Act.put, List.setIfInBounds_toArray, List.set_cons_succ, List.set_cons_zero]
            go_wp2_with fail
            go_roundw
            case rel => exact ⟨k + 1, _, by omega, by go_num, rfl, HR.out, HE.out.trans x2⟩
            case measure => simp [intOf]; omega
          | false =>
            have HR := hid (bestAt_keep hlt hm hb he ho)
            rw [ho] at HO
            clear hcell h3 hE hE0 hb he ho hm hmx
            generalize l[k] = u at c0 c1 c2 c3 c4 hs HO
            go_wp2_with fail
            refine wp_region_any_order (by kernel_rfl) (by kernel_rfl) (by kernel_rfl) ?_
            repeat (first
              | (refine AWq.val rfl rfl rfl rfl (fun K hK => ?_); go_big_quiet_op; refine hK _ ?_; clear hK K)
              | (refine AWq.skip rfl rfl rfl ?_; simp only [Act.put, List.setIfInBounds_toArray, List.set_cons_succ, List.set_cons_zero])
              | (refine AWq.call rfl Tryd.func23 (by kernel_rfl) (by kernel_rfl) rfl rfl rfl ?_; apply Exists.intro; refine And.intro (fun wc hc => ?_) ?_; (· (simp only [argsOf, anyAt, ↓reduceIte, Nat.reduceEqDiff, Array.getD_eq_getD_getElem?, List.getElem?_toArray, List.getElem?_cons_succ, List.getElem?_cons_zero, Option.getD_some]; with_reducible exact (HO _).out)); simp only [Act.put, List.setIfInBounds_toArray, List.set_cons_succ, List.set_cons_zero]))
            refine AWq.done rfl rfl rfl (fun w2 x2 => ?_)
            simp only [closeAny, Act.put, List.setIfInBounds_toArray, List.set_cons_succ, List.set_cons_zero]
            go_wp2_with fail
            go_roundw
            case rel => exact ⟨k + 1, _, by omega, by go_num, rfl, HR.out, HE.out.trans x2⟩
            case measure => simp [intOf]; omega
      · have hs := eq2_false he
        have HR := hid (bestAt_skip hlt hB he)
        clear hcell h3 hE hE0 he hB
        generalize l[k] = u at c0 c1 c2 c3 c4 hs
        go_wp2_with fail
        refine wp_region_any_order (by kernel_rfl) (by kernel_rfl) (by kernel_rfl) ?_
        repeat (first
          | (refine AWq.val rfl rfl rfl rfl (fun K hK => ?_); go_big_quiet_op; refine hK _ ?_; clear hK K)
          | (refine AWq.skip rfl rfl rfl ?_; simp only [Act.put, List.setIfInBounds_toArray, List.set_cons_succ, List.set_cons_zero]))
        refine AWq.done rfl rfl rfl (fun w2 x2 => ?_)
        simp only [closeAny, Act.put, List.setIfInBounds_toArray, List.set_cons_succ, List.set_cons_zero]
        go_wp2_with fail
        go_roundw
        case rel => exact ⟨k + 1, _, by omega, by go_num, rfl, HR.out, HE.out.trans x2⟩
        case measure => simp [intOf]; omega
    · obtain rfl : k = l.length := by omega
      have HB := hid hB
      clear hE hE0 h3 hB
      go_wp2_with fail
      go_ret
      exact ⟨_, rfl, ⟨_, rfl, HB.out⟩, HEw.out⟩
theorem bestAt_in {l : List UpdI} {it : Ver} {z : Int} (h : BestAt l l.length it z) (hin : ∃ u ∈ l, u.item = it) : ∃ (m : Nat) (x : UpdI), l[m]? = some x ∧ z = (m : Int) ∧ bestK l it = some x := by
  unfold BestAt at h
  rw [List.take_length] at h
  rcases h with ⟨_, hn⟩ | h
  · obtain ⟨x, hx⟩ := bestK_some hin
    rw [hx] at hn; cases hn
  · exact h
end Go.Proofs.YtgkdiknmjgpgmaaDoor
